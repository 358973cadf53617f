/- The law answers true, for every input: plain Lean. -/
import Derived.Test.YtibjgmhhecbhbaaDoorComBack
namespace Go.Proofs.YtibjgmhhecbhbaaDoor.PSpellBack
open Go.RowKit Go.Proofs.YtibjgmhhecbhbaaDoorW.PrintWords Go.Proofs.YtibjgmhhecbhbaaDoorW.PrintLast Go.Proofs.YtibjgmhhecbhbaaDoorW.PrintMore Go.Proofs.YtibjgmhhecbhbaaDoor.Hand
set_option linter.unusedVariables false
set_option linter.unusedSimpArgs false

theorem count_no {c : UInt8} {l : Bs} (h : c ∉ l) : l.count c = 0 := List.count_eq_zero.2 h
theorem eqK_count {k v : Bs} (hk : 61 ∉ k) (hv : ∀ c ∈ v, c ≠ 32 ∧ c ≠ 61) : (eqK k v).count 61 = 1 := by
  unfold eqK
  rw [List.count_append, List.count_cons_self, count_no hk, count_no (fun h => (hv _ h).2 rfl)]
theorem fI_count {k : Bs} (n : Int) (hk : 61 ∉ k) : ∀ f ∈ fI k n, f.count 61 = 1 := by
  intro f hf
  unfold fI at hf
  split at hf
  · simp at hf
  · simp only [List.mem_singleton] at hf; subst hf; exact eqK_count hk (itoa_ne n)
theorem fS_count {k : Bs} (s : ByteArray) (hk : 61 ∉ k) : ∀ f ∈ fS k s, f.count 61 = 1 := by
  intro f hf
  unfold fS at hf
  split at hf
  · simp at hf
  · simp only [List.mem_singleton] at hf; subst hf; exact eqK_count hk (toldB_chars s)
theorem fields_count (o : ROp) : ∀ f ∈ fieldsOf o, f.count 61 = 1 := by
  intro f hf
  unfold fieldsOf at hf
  simp only [List.mem_append] at hf
  rcases hf with h | h | h | h | h | h | h
  · exact fI_count _ (by decide) f h
  · exact fI_count _ (by decide) f h
  · exact fI_count _ (by decide) f h
  · exact fI_count _ (by decide) f h
  · exact fS_count _ (by decide) f h
  · exact fS_count _ (by decide) f h
  · exact fS_count _ (by decide) f h
theorem join_count : ∀ fs : List Bs, (∀ f ∈ fs, f.count 61 = 1) → (∀ f ∈ fs, 32 ∉ f) → (fs.flatMap (32 :: ·)).count 32 = fs.length ∧ (fs.flatMap (32 :: ·)).count 61 = fs.length
  | [], _, _ => by simp
  | f :: fs, h1, h2 => by
    obtain ⟨i1, i2⟩ := join_count fs (fun f hf => h1 f (List.mem_cons_of_mem _ hf)) (fun f hf => h2 f (List.mem_cons_of_mem _ hf))
    have a1 := h1 f (by simp)
    have a2 := count_no (h2 f (by simp))
    rw [List.flatMap_cons, List.count_append, List.count_append, i1, i2, List.count_cons_self, List.count_cons_of_ne (by decide), a1, a2]
    simp only [List.length_cons]
    omega
theorem say_count (o : ROp) (h1 : 1 ≤ o.kd) (h2 : o.kd < 24) : (dl o.say).count 32 = (dl o.say).count 61 := by
  have hw := (word_of h1 h2).2.1
  obtain ⟨i1, i2⟩ := join_count (fieldsOf o) (fields_count o) (fields_no o)
  rw [say_dl o h1 h2, List.count_append, List.count_append, i1, i2, count_no (fun h => (hw _ h).1 rfl), count_no (fun h => (hw _ h).2 rfl)]
theorem read_blank (o : ROp) (h1 : 1 ≤ o.kd) (h2 : o.kd < 24) (x y : Bs) (hs : dl o.say = x ++ y) (s : ByteArray) (h : dl s = x ++ 32 :: y) : readB s = (zeroOp, 3) := by
  rcases read_cases s with e | ⟨q, _, e, q1, q2⟩
  · exact e
  · exfalso
    have c1 := say_count o h1 h2
    have c2 := say_count q q1 q2
    rw [e, h, List.count_append, List.count_append, List.count_cons_self, List.count_cons_of_ne (by decide)] at c2
    rw [hs, List.count_append, List.count_append] at c1
    omega
open Classical in
theorem same_f (o q : ROp) (ho : BytesI o.d) (hq : BytesI q.d) : spell_Same.f o.kd o.fd o.n o.off o.fl o.p o.t o.d q.kd q.fd q.n q.off q.fl q.p q.t q.d = some (decide (o = q)) := by
  by_cases h : o = q
  · subst h; rw [same_eq]; simp
  · rw [same_ne o q h ho hq]; simp [h]
open Classical in
theorem sameop_f (k : Nat) (o q : ROp) (hb : o.d.length ≤ 1000000) (hk : o.d.length < k) : purlinlaw0_SameOp.f k o.kd o.fd o.n o.off o.fl o.p o.t o.d q.kd q.fd q.n q.off q.fl q.p q.t q.d = some (decide (o = q)) := by
  by_cases h : o = q
  · subst h; rw [sameop_eq k o hb hk]; simp
  · rw [sameop_ne k o q h hb hk]; simp [h]
open Classical in
theorem say_inj (o q : ROp) (ho : OkR o) (hq : OkR q) (o1 : 1 ≤ o.kd) (o2 : o.kd < 24) (q1 : 1 ≤ q.kd) (q2 : q.kd < 24) : (o.say.toList == q.say.toList) = decide (o = q) := by
  by_cases h : o = q
  · subst h; simp
  · rw [decide_eq_false h, beq_eq_false_iff_ne]
    intro e
    have e2 := tl_inj e
    have r1 := read_say o ho o1 o2
    rw [e2, read_say q hq q1 q2] at r1
    exact h (Prod.mk.inj r1).1.symm
theorem j1_ok (k : Nat) (at' : Int) (o q : ROp) (ho : OkR o) (hq : OkR q) (o1 : 1 ≤ o.kd) (o2 : o.kd < 24) (q1 : 1 ≤ q.kd) (q2 : q.kd < 24) (so : o.p.size ≤ 300 ∧ o.t.size ≤ 300 ∧ o.d.length ≤ 3000) (sq : q.p.size ≤ 300 ∧ q.t.size ≤ 300 ∧ q.d.length ≤ 3000) :
    purlinlaw25_SpellBack.j1 (k + 3002) at' o.say false o.kd o.fd o.n o.off o.fl o.p o.t o.d q.kd q.fd q.n q.off q.fl q.p q.t q.d = some true := by
  have hsz : o.say.size ≤ 90000 := say_size o ho so.1 so.2.1 so.2.2
  have hw : wrap64 ((o.say.size : Int) + 1) = (o.say.size : Int) + 1 := by unfold wrap64; omega
  obtain ⟨r, hr, hr0, hr1⟩ := low_f at' ((o.say.size : Int) + 1) (by omega) (by omega)
  have hq' := say_f q hq (by omega) (by omega) (by omega)
  have hS := same_f o q ho.d hq.d
  have hO := sameop_f (k + 3001) o q (by omega) (by omega)
  have hI := say_inj o q ho hq o1 o2 q1 q2
  have hA := awake_ok (k + 3000)
  have hx : (o.say.extract 0 r.toNat).size = r.toNat := by rw [ByteArray.size_extract]; omega
  have hy : (o.say.extract r.toNat o.say.size).size = o.say.size - r.toNat := by rw [ByteArray.size_extract]; omega
  have hone : (⟨#[32]⟩ : ByteArray).size = 1 := rfl
  have hdl : dl ((o.say.extract 0 r.toNat ++ ⟨#[32]⟩) ++ o.say.extract r.toNat o.say.size) = (dl o.say).take r.toNat ++ 32 :: (dl o.say).drop r.toNat := by
    rw [dl_app, dl_app]
    have a : dl (o.say.extract 0 r.toNat) = (dl o.say).take r.toNat := by unfold dl; rw [Lib.extract_from_zero]
    have b : dl (o.say.extract r.toNat o.say.size) = (dl o.say).drop r.toNat := by
      unfold dl
      rw [ByteArray.data_extract, Array.toList_extract, List.extract_eq_take_drop]
      rw [List.take_of_length_le]
      rw [List.length_drop]
      exact Nat.le_refl _
    rw [a, b]
    simp [dl]
  have hR := read_blank o o1 o2 _ _ (List.take_append_drop r.toNat (dl o.say)).symm _ hdl
  have hRf := read_f ((o.say.extract 0 r.toNat ++ ⟨#[32]⟩) ++ o.say.extract r.toNat o.say.size) (by rw [ByteArray.size_append, ByteArray.size_append, hx, hy, hone]; omega)
  rw [hR] at hRf
  rw [purlinlaw25_SpellBack.j1, if_neg (by decide), hw, hr, Option.bind_some, if_pos hr0, if_pos (by omega)]
  have c1 : (o.say.extract 0 r.toNat).size + 1 ≤ 9223372036854775807 := by rw [hx]; omega
  have c2 : ((o.say.extract 0 r.toNat) ++ (⟨#[32]⟩ : ByteArray)).size + (o.say.extract r.toNat o.say.size).size ≤ 9223372036854775807 := by rw [ByteArray.size_append, hx, hy, hone]; omega
  rw [if_pos c1, if_pos c2, hRf]
  simp only [Option.bind_some, zeroOp, if_true]
  rw [hS, hq']
  simp only [Option.bind_some]
  rw [hI, hO]
  simp only [Option.bind_some, beq_self_eq_true, if_true]
  rw [hA]
  rfl
theorem wr1 {r : Int} (h0 : 0 ≤ r) (h1 : r < 23) : wrap64 (1 + r) = 1 + r := by unfold wrap64; omega
theorem j0_ok (k : Nat) (a2 r r' x y : Int) (o q : ROp) (ho : OkR o) (hq : OkR q) (hr : purlinlaw0_Low.f x 23 = some r) (hr' : purlinlaw0_Low.f y 23 = some r') (e1 : wrap64 (1 + r) = o.kd) (e2 : wrap64 (1 + r') = q.kd) (o1 : 1 ≤ o.kd) (o2 : o.kd < 24) (q1 : 1 ≤ q.kd) (q2 : q.kd < 24) (so : o.p.size ≤ 300 ∧ o.t.size ≤ 300 ∧ o.d.length ≤ 3000) (sq : q.p.size ≤ 300 ∧ q.t.size ≤ 300 ∧ q.d.length ≤ 3000) :
    purlinlaw25_SpellBack.j0 (k + 3003) a2 false x o.fd o.n o.off o.fl o.p o.t o.d y q.fd q.n q.off q.fl q.p q.t q.d = some true := by
  have b1 : o.p.size ≤ 1000000 := by clear e1 e2 hr hr'; omega
  have b2 : o.t.size ≤ 1000000 := by clear e1 e2 hr hr'; omega
  have b3 : o.d.length ≤ 1000000 := by clear e1 e2 hr hr'; omega
  have b4 : o.d.length < k + 3002 := by clear e1 e2 hr hr'; omega
  have hsz := Nat.le_trans (say_size o ho so.1 so.2.1 so.2.2) (show 90000 ≤ 100000 by decide)
  have hsay := say_f o ho b1 b2 b3
  have hrf := read_f o.say hsz
  rw [read_say o ho o1 o2] at hrf
  have hne : ¬ o.say.toList = [] := by rw [tl_dl]; exact say_ne o o1 o2
  have hO := sameop_eq (k + 3002) o b3 b4
  have hS := same_eq o
  have hJ := j1_ok k a2 o q ho hq o1 o2 q1 q2 so sq
  rw [purlinlaw25_SpellBack.j0, if_neg (by decide), hr, hr']
  simp only [Option.bind_some]
  rw [e1, e2, hsay]
  simp only [Option.bind_some]
  rw [hrf]
  simp only [Option.bind_some, if_true]
  rw [if_neg hne, hO, Option.bind_some, if_pos rfl, hS, Option.bind_some]
  exact hJ
theorem j0_awake (k : Nat) (a2 x1 x2 x3 x4 x5 : Int) (p t : ByteArray) (l : List Int) (y1 y2 y3 y4 y5 : Int) (p' t' : ByteArray) (l' : List Int) : purlinlaw25_SpellBack.j0 (k + 3003) a2 true x1 x2 x3 x4 x5 p t l y1 y2 y3 y4 y5 p' t' l' = some true := by
  have := awake_ok (k + 3001)
  rw [purlinlaw25_SpellBack.j0, if_pos rfl, this]
  rfl
theorem pure_k (k : Nat) (a0_0 a0_1 a0_2 a0_3 a0_4 : Int) (a0_5 a0_6 : ByteArray) (l0_7 : List Int) (a1_0 a1_1 a1_2 a1_3 a1_4 : Int) (a1_5 a1_6 : ByteArray) (l1_7 : List Int) (a2 : Int)
    (h1 : okI a0_1) (h2 : okI a0_2) (h3 : okI a0_3) (h4 : okI a0_4) (g1 : okI a1_1) (g2 : okI a1_2) (g3 : okI a1_3) (g4 : okI a1_4) (h7 : BytesI l0_7) (g7 : BytesI l1_7) :
    purlinlaw25_SpellBack.f (k + 3003) a0_0 a0_1 a0_2 a0_3 a0_4 a0_5 a0_6 l0_7 a1_0 a1_1 a1_2 a1_3 a1_4 a1_5 a1_6 l1_7 a2 = some true := by
  have hg0 := great_f ⟨a0_0, a0_1, a0_2, a0_3, a0_4, a0_5, a0_6, l0_7⟩
  have hg1 := great_f ⟨a1_0, a1_1, a1_2, a1_3, a1_4, a1_5, a1_6, l1_7⟩
  simp only at hg0 hg1
  have hj : purlinlaw25_SpellBack.j0 (k + 3003) a2 true a0_0 a0_1 a0_2 a0_3 a0_4 a0_5 a0_6 l0_7 a1_0 a1_1 a1_2 a1_3 a1_4 a1_5 a1_6 l1_7 = some true := by
    exact j0_awake k _ _ _ _ _ _ _ _ _ _ _ _ _ _ _ _ _
  unfold purlinlaw25_SpellBack.f
  rw [hg0, hg1]
  simp only [Option.bind_some]
  by_cases hs0 : a0_5.size ≤ 300 ∧ a0_6.size ≤ 300 ∧ l0_7.length ≤ 3000
  case neg => rw [if_pos (decide_eq_true hs0)]; exact hj
  have hdf : decide (¬ (a0_5.size ≤ 300 ∧ a0_6.size ≤ 300 ∧ l0_7.length ≤ 3000)) = false := by simpa using hs0
  by_cases hs1 : a1_5.size ≤ 300 ∧ a1_6.size ≤ 300 ∧ l1_7.length ≤ 3000
  case neg => rw [hdf, decide_eq_true hs1]; exact hj
  have hdf1 : decide (¬ (a1_5.size ≤ 300 ∧ a1_6.size ≤ 300 ∧ l1_7.length ≤ 3000)) = false := by simpa using hs1
  rw [hdf, hdf1]
  obtain ⟨r, hr, hr0, hr1⟩ := low_f a0_0 23 (by omega) (by omega)
  obtain ⟨r', hr', hr0', hr1'⟩ := low_f a1_0 23 (by omega) (by omega)
  have oko : OkR ⟨1 + r, a0_1, a0_2, a0_3, a0_4, a0_5, a0_6, l0_7⟩ := ⟨h1, h2, h3, h4, h7⟩
  have okq : OkR ⟨1 + r', a1_1, a1_2, a1_3, a1_4, a1_5, a1_6, l1_7⟩ := ⟨g1, g2, g3, g4, g7⟩
  have hF := j0_ok k a2 r r' a0_0 a1_0 ⟨1 + r, a0_1, a0_2, a0_3, a0_4, a0_5, a0_6, l0_7⟩ ⟨1 + r', a1_1, a1_2, a1_3, a1_4, a1_5, a1_6, l1_7⟩ oko okq hr hr' (wr1 hr0 hr1) (wr1 hr0' hr1') (by show 1 ≤ 1 + r; omega) (by show 1 + r < 24; omega) (by show 1 ≤ 1 + r'; omega) (by show 1 + r' < 24; omega) hs0 hs1
  simp only at hF
  rw [if_neg (by decide)]
  exact hF
theorem pure (a0_0 a0_1 a0_2 a0_3 a0_4 : Int) (a0_5 a0_6 : ByteArray) (l0_7 : List Int) (a1_0 a1_1 a1_2 a1_3 a1_4 : Int) (a1_5 a1_6 : ByteArray) (l1_7 : List Int) (a2 : Int)
    (h1 : okI a0_1) (h2 : okI a0_2) (h3 : okI a0_3) (h4 : okI a0_4) (g1 : okI a1_1) (g2 : okI a1_2) (g3 : okI a1_3) (g4 : okI a1_4) (h7 : BytesI l0_7) (g7 : BytesI l1_7) :
    ∃ k, purlinlaw25_SpellBack.f k a0_0 a0_1 a0_2 a0_3 a0_4 a0_5 a0_6 l0_7 a1_0 a1_1 a1_2 a1_3 a1_4 a1_5 a1_6 l1_7 a2 = some true :=
  ⟨0 + 3003, pure_k 0 a0_0 a0_1 a0_2 a0_3 a0_4 a0_5 a0_6 l0_7 a1_0 a1_1 a1_2 a1_3 a1_4 a1_5 a1_6 l1_7 a2 h1 h2 h3 h4 g1 g2 g3 g4 h7 g7⟩
end Go.Proofs.YtibjgmhhecbhbaaDoor.PSpellBack
