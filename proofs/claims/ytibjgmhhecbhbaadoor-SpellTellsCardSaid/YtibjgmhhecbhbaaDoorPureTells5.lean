/- Toward the law's answer: plain Lean. -/
import Derived.Test.YtibjgmhhecbhbaaDoorPureTells4
namespace Go.Proofs.YtibjgmhhecbhbaaDoor.PSpellTells
open Go.RowKit Go.Proofs.YtibjgmhhecbhbaaDoorW.PrintWords Go.Proofs.YtibjgmhhecbhbaaDoorW.PrintLast Go.Proofs.YtibjgmhhecbhbaaDoorW.PrintMore Go.Proofs.YtibjgmhhecbhbaaDoor.Hand
set_option linter.unusedVariables false
set_option linter.unusedSimpArgs false

def tupOf (x : ROp × Int) : Tup := (x.1.kd, x.1.fd, x.1.n, x.1.off, x.1.fl, x.1.p, x.1.t, x.1.d, x.2)
open Classical in
noncomputable def finR (s : ByteArray) (o : ROp) : ROp × Int := if o.kd = 0 then (zeroOp, 3) else if o.say = s then (o, 0) else (zeroOp, 3)
def kdOf (s : ByteArray) : Int := kindFrom wordsB 0 ((piecesOf s).headD ⟨#[]⟩) 0
def foldR (s : ByteArray) : ROp := (piecesOf s).tail.foldl refStep { zeroOp with kd := kdOf s }
theorem split_len : ∀ (l : Bs), (∀ p ∈ splitL l, p.length ≤ l.length) ∧ (splitL l).length ≤ l.length + 1
  | [] => by simp [splitL]
  | c :: l => by
    obtain ⟨i1, i2⟩ := split_len l
    by_cases h : c = 32
    · subst h
      rw [splitL_blank]
      refine ⟨fun p hp => ?_, by simp only [List.length_cons]; omega⟩
      rcases List.mem_cons.1 hp with rfl | hp
      · simp
      · have := i1 p hp; simp only [List.length_cons]; omega
    · obtain ⟨q, qs, e⟩ := splitL_ne l
      rw [e] at i1 i2
      rw [splitL_other h e]
      refine ⟨fun p hp => ?_, by simp only [List.length_cons] at *; omega⟩
      rcases List.mem_cons.1 hp with rfl | hp
      · have := i1 q (by simp); simp only [List.length_cons]; omega
      · have := i1 p (List.mem_cons_of_mem _ hp); simp only [List.length_cons]; omega
theorem pieces_len (s : ByteArray) (hs : s.size ≤ 3000) : (∀ f ∈ piecesOf s, f.size ≤ 3000) ∧ (piecesOf s).length ≤ 100000 ∧ 0 < (piecesOf s).length := by
  obtain ⟨i1, i2⟩ := split_len (dl s)
  rw [dl_size] at i2
  have e := pieces_dl s
  have el : (piecesOf s).length = (splitL (dl s)).length := by rw [← e, List.length_map]
  refine ⟨fun f hf => ?_, by omega, ?_⟩
  · have := i1 (dl f) (by rw [← e]; exact List.mem_map_of_mem hf)
    rw [dl_size, dl_size] at this
    omega
  · obtain ⟨q, qs, e2⟩ := splitL_ne (dl s)
    rw [el, e2]; simp
theorem ok_zero (kd : Int) : OkR { zeroOp with kd := kd } := ⟨okI_zero, okI_zero, okI_zero, okI_zero, by intro x hx; simp [zeroOp] at hx⟩
theorem kind_head (x : ByteArray) (l : List ByteArray) (w : ByteArray) : kindFrom (x :: l) 0 w 0 = kindFrom l ((1 : Nat) : Int) w 0 := by
  rw [kindFrom, ite_self]; rfl
theorem words_split : wordsB = ⟨#[]⟩ :: wordsB.drop 1 := rfl
theorem kind_words (w : ByteArray) : kindFrom wordsB 0 w 0 = kindFrom (wordsB.drop 1) ((1 : Nat) : Int) w 0 :=
  (congrArg (fun l => kindFrom l 0 w 0) words_split).trans (kind_head _ _ _)
theorem refread_f (s : ByteArray) (hs : s.size ≤ 3000) : Ev (fun k => purlinref25_Read.f k s) (tupOf (finR s (foldR s))) := by
  obtain ⟨h1, h2, h3⟩ := pieces_len s hs
  have hfin : ∀ o : ROp, OkR o → o.p.size ≤ 3000 → o.t.size ≤ 3000 → o.d.length ≤ 3000 → Ev (fun k => purlinref25_Read.l1 k s (piecesOf s) ((piecesOf s).length : Int) o.kd o.fd o.n o.off o.fl o.p o.t o.d) (tupOf (finR s o)) := by
    intro o ho g1 g2 g3
    have i1 : ¬ ((piecesOf s).length : Int) < ((piecesOf s).length : Int) := by omega
    unfold finR
    by_cases hk : o.kd = 0
    · rw [if_pos hk]
      refine ev_mk fun k => ?_
      rw [purlinref25_Read.l1, if_neg i1, if_pos hk]
      rfl
    · rw [if_neg hk]
      have hsay := refsay_f o ho g1 g2 g3
      have hb := ev_bind (g := fun (_ : Nat) (t194 : ByteArray) => (if t194.toList = s.toList then (some (o.kd, o.fd, o.n, o.off, o.fl, o.p, o.t, o.d, (0 : Int))) else (some ((0 : Int), (0 : Int), (0 : Int), (0 : Int), (0 : Int), (⟨#[]⟩ : ByteArray), (⟨#[]⟩ : ByteArray), ([] : List Int), (3 : Int)))))
        (r := tupOf (if o.say = s then (o, 0) else (zeroOp, 3))) hsay (ev_mk fun k => by
          by_cases he : o.say = s
          · rw [if_pos he, if_pos (by rw [he])]; rfl
          · rw [if_neg he, if_neg (fun h => he (tl_inj h))]; rfl)
      refine ev_step hb fun k => ?_
      rw [purlinref25_Read.l1, if_neg i1, if_neg hk]
  have hz : kdOf s = kindFrom (wordsB.drop 1) ((1 : Nat) : Int) (rdOf ByteArray.empty (piecesOf s) 0) 0 := by
    unfold kdOf
    have : (piecesOf s).headD ⟨#[]⟩ = rdOf ByteArray.empty (piecesOf s) 0 := by
      cases piecesOf s <;> rfl
    rw [this]
    exact kind_words _
  have hf : Ev (fun k => purlinref25_Read.l1 k s (piecesOf s) ((1 : Nat) : Int) (kdOf s) 0 0 0 0 ⟨#[]⟩ ⟨#[]⟩ []) (tupOf (finR s (foldR s))) := by
    have hf := ev_fields h2 h1 (fun o => tupOf (finR s o)) hfin ((piecesOf s).length - 1) 1 { zeroOp with kd := kdOf s } (by omega) (ok_zero _) (show (0 : Nat) ≤ 3000 by omega) (show (0 : Nat) ≤ 3000 by omega) (show (0 : Nat) ≤ 3000 by omega)
    rw [show (piecesOf s).drop 1 = (piecesOf s).tail from List.drop_one] at hf
    exact hf
  have hk := ev_kind (s := s) h3 0 0 0 0 ⟨#[]⟩ ⟨#[]⟩ 23 1 0 (by omega) (by rw [← hz]; exact hf)
  have hp := ev_bind (g := fun k t185 => purlinref25_Read.l0 k s t185 1 0 0 0 0 0 (⟨#[]⟩ : ByteArray) (⟨#[]⟩ : ByteArray)) (parts_f s hs) hk
  exact ev_same hp fun k => rfl

/-! what the two readers answer is the same -/
theorem step_eq {f : ByteArray} {k v : Bs} (o : ROp) (hf : dl f = eqK k v) (hk : 61 ∉ k) : refStep o f = refStepK o k v := by
  have e : ∀ k : Bs, 61 ∉ k → kLen (k ++ 61 :: v) = k.length := by
    intro k
    induction k with
    | nil => intro _; rw [List.nil_append, kLen, if_pos rfl]; rfl
    | cons c k ih =>
      intro h
      simp only [List.mem_cons, not_or] at h
      rw [List.cons_append, kLen, if_neg (fun h2 => h.1 h2.symm), ih h.2]; rfl
  have e2 : kLen (dl f) = k.length := by rw [hf]; exact e k hk
  unfold refStep
  rw [e2, hf]
  unfold eqK
  rw [List.take_left, show k ++ 61 :: v = (k ++ [61]) ++ v by simp, show k.length + 1 = (k ++ [61]).length by simp, List.drop_left]
theorem segI {k : Bs} {n : Int} (hk : 61 ∉ k) {fs : List ByteArray} (h : fs.map dl = fI k n) (o o' : ROp) (h0 : n = 0 → o = o') (h1 : refStepK o k (Lib.itoa n) = o') : fs.foldl refStep o = o' := by
  unfold fI at h
  split at h
  · next hz =>
    obtain rfl : fs = [] := by cases fs with | nil => rfl | cons _ _ => simp at h
    exact h0 hz
  · next hz =>
    obtain ⟨f, rfl⟩ : ∃ f, fs = [f] := by
      cases fs with
      | nil => simp at h
      | cons f r => cases r with | nil => exact ⟨f, rfl⟩ | cons _ _ => simp at h
    simp only [List.map_cons, List.map_nil, List.cons.injEq, and_true] at h
    rw [List.foldl_cons, List.foldl_nil, step_eq o h hk, h1]
theorem segS {k : Bs} {s : ByteArray} (hk : 61 ∉ k) {fs : List ByteArray} (h : fs.map dl = fS k s) (o o' : ROp) (h0 : dl s = [] → o = o') (h1 : refStepK o k (dl (toldB s)) = o') : fs.foldl refStep o = o' := by
  unfold fS at h
  split at h
  · next hz =>
    obtain rfl : fs = [] := by cases fs with | nil => rfl | cons _ _ => simp at h
    exact h0 hz
  · next hz =>
    obtain ⟨f, rfl⟩ : ∃ f, fs = [f] := by
      cases fs with
      | nil => simp at h
      | cons f r => cases r with | nil => exact ⟨f, rfl⟩ | cons _ _ => simp at h
    simp only [List.map_cons, List.map_nil, List.cons.injEq, and_true] at h
    rw [List.foldl_cons, List.foldl_nil, step_eq o h hk, h1]
theorem rk1 (o : ROp) (v : Bs) : refStepK o kFD v = { o with fd := rdF v 0 false } := by
  unfold refStepK
  rw [if_pos (by decide)]
theorem rk2 (o : ROp) (v : Bs) : refStepK o kN v = { o with n := rdF v 0 false } := by
  unfold refStepK
  rw [if_neg (by decide), if_pos (by decide)]
theorem rk3 (o : ROp) (v : Bs) : refStepK o kOff v = { o with off := rdF v 0 false } := by
  unfold refStepK
  rw [if_neg (by decide), if_neg (by decide), if_pos (by decide)]
theorem rk4 (o : ROp) (v : Bs) : refStepK o kFl v = { o with fl := rdF v 0 false } := by
  unfold refStepK
  rw [if_neg (by decide), if_neg (by decide), if_neg (by decide), if_pos (by decide)]
theorem rk5 (o : ROp) (v : Bs) : refStepK o kP v = { o with p := strOfNums (byF v) } := by
  unfold refStepK
  rw [if_neg (by decide), if_neg (by decide), if_neg (by decide), if_neg (by decide), if_pos (by decide)]
theorem rk6 (o : ROp) (v : Bs) : refStepK o kT v = { o with t := strOfNums (byF v) } := by
  unfold refStepK
  rw [if_neg (by decide), if_neg (by decide), if_neg (by decide), if_neg (by decide), if_neg (by decide), if_pos (by decide)]
theorem rk7 (o : ROp) (v : Bs) : refStepK o kD v = { o with d := byF v } := by
  unfold refStepK
  rw [if_neg (by decide), if_neg (by decide), if_neg (by decide), if_neg (by decide), if_neg (by decide), if_neg (by decide), if_pos (by decide)]
theorem fold_said (o : ROp) (ho : OkR o) (fs : List ByteArray) (h : fs.map dl = fieldsOf o) : fs.foldl refStep { zeroOp with kd := o.kd } = o := by
  unfold fieldsOf at h
  obtain ⟨f1, g1, rfl, e1, h⟩ := List.map_eq_append_iff.1 h
  obtain ⟨f2, g2, rfl, e2, h⟩ := List.map_eq_append_iff.1 h
  obtain ⟨f3, g3, rfl, e3, h⟩ := List.map_eq_append_iff.1 h
  obtain ⟨f4, g4, rfl, e4, h⟩ := List.map_eq_append_iff.1 h
  obtain ⟨f5, g5, rfl, e5, h⟩ := List.map_eq_append_iff.1 h
  obtain ⟨f6, g6, rfl, e6, e7⟩ := List.map_eq_append_iff.1 h
  obtain ⟨o1, o2, o3, o4, o5⟩ := ho
  obtain ⟨kd, fd, n, off, fl, p, t, d⟩ := o
  simp only at o1 o2 o3 o4 o5 e1 e2 e3 e4 e5 e6 e7
  have r1 := rdF_itoa fd o1
  have r2 := rdF_itoa n o2
  have r3 := rdF_itoa off o3
  have r4 := rdF_itoa fl o4
  have r5 : strOfNums (byF (dl (toldB p))) = p := by rw [byF_toldB, str_bytesOf]
  have r6 : strOfNums (byF (dl (toldB t))) = t := by rw [byF_toldB, str_bytesOf]
  have r7 : byF (dl (toldB (strOfNums d))) = d := by rw [byF_toldB, bytesOf_str o5]
  show List.foldl refStep ⟨kd, 0, 0, 0, 0, ⟨#[]⟩, ⟨#[]⟩, []⟩ _ = _
  rw [List.foldl_append, segI (by decide) e1 ⟨kd, 0, 0, 0, 0, ⟨#[]⟩, ⟨#[]⟩, []⟩ ⟨kd, fd, 0, 0, 0, ⟨#[]⟩, ⟨#[]⟩, []⟩ (fun h => by rw [h]) (by rw [rk1, r1])]
  rw [List.foldl_append, segI (by decide) e2 ⟨kd, fd, 0, 0, 0, ⟨#[]⟩, ⟨#[]⟩, []⟩ ⟨kd, fd, n, 0, 0, ⟨#[]⟩, ⟨#[]⟩, []⟩ (fun h => by rw [h]) (by rw [rk2, r2])]
  rw [List.foldl_append, segI (by decide) e3 ⟨kd, fd, n, 0, 0, ⟨#[]⟩, ⟨#[]⟩, []⟩ ⟨kd, fd, n, off, 0, ⟨#[]⟩, ⟨#[]⟩, []⟩ (fun h => by rw [h]) (by rw [rk3, r3])]
  rw [List.foldl_append, segI (by decide) e4 ⟨kd, fd, n, off, 0, ⟨#[]⟩, ⟨#[]⟩, []⟩ ⟨kd, fd, n, off, fl, ⟨#[]⟩, ⟨#[]⟩, []⟩ (fun h => by rw [h]) (by rw [rk4, r4])]
  rw [List.foldl_append, segS (by decide) e5 ⟨kd, fd, n, off, fl, ⟨#[]⟩, ⟨#[]⟩, []⟩ ⟨kd, fd, n, off, fl, p, ⟨#[]⟩, []⟩ (fun h => by rw [dl_nil h]) (by rw [rk5, r5])]
  rw [List.foldl_append, segS (by decide) e6 ⟨kd, fd, n, off, fl, p, ⟨#[]⟩, []⟩ ⟨kd, fd, n, off, fl, p, t, []⟩ (fun h => by rw [dl_nil h]) (by rw [rk6, r6])]
  refine segS (by decide) e7 ⟨kd, fd, n, off, fl, p, t, []⟩ ⟨kd, fd, n, off, fl, p, t, d⟩ (fun h => ?_) (by rw [rk7, r7])
  have e := congrArg ByteArray.size (dl_nil h)
  rw [strOfNums_size] at e
  have : d = [] := List.eq_nil_of_length_eq_zero e
  rw [this]
theorem fieldsTo_ok : ∀ (fs : List ByteArray) (o o' : ROp), fieldsTo fs o = some o' → OkR o → OkR o'
  | [], o, o', h, ho => by rw [fieldsTo] at h; injection h with h; subst h; exact ho
  | f :: fs, o, o', h, ho => by
    rw [fieldsTo] at h
    obtain ⟨o2, h1, h2⟩ := Option.bind_eq_some_iff.1 h
    refine fieldsTo_ok fs o2 o' h2 ?_
    obtain ⟨a1, a2, a3, a4, a5⟩ := ho
    unfold stepField at h1
    have hv := atoi_ok (cutV f)
    split at h1
    · injection h1 with h1; subst h1; exact ⟨a1, a2, a3, a4, a5⟩
    split at h1
    · injection h1 with h1; subst h1; exact ⟨a1, a2, a3, a4, a5⟩
    split at h1
    · injection h1 with h1; subst h1; exact ⟨a1, a2, a3, a4, bytesI_of _⟩
    split at h1
    · cases h1
    · injection h1 with h1
      subst h1
      unfold setField
      repeat' split
      · exact ⟨hv, a2, a3, a4, a5⟩
      · exact ⟨a1, hv, a3, a4, a5⟩
      · exact ⟨a1, a2, hv, a4, a5⟩
      · exact ⟨a1, a2, a3, hv, a5⟩
      · exact ⟨a1, a2, a3, a4, a5⟩
theorem readB_ok (s : ByteArray) : OkR (readB s).1 := by
  unfold readB
  split
  · exact ok_zero 0
  · next o h =>
    split
    · exact ok_zero 0
    · exact fieldsTo_ok _ _ _ h (ok_zero _)
theorem fold_ok : ∀ (fs : List ByteArray) (o : ROp), OkR o → OkR (fs.foldl refStep o) ∧ (fs.foldl refStep o).kd = o.kd
  | [], o, ho => ⟨ho, rfl⟩
  | f :: fs, o, ho => by
    rw [List.foldl_cons]
    have hbb := byF_bytes ((dl f).drop (kLen (dl f) + 1))
    have hro := rdF_ok ((dl f).drop (kLen (dl f) + 1)) 0 false
    have h1 : OkR (refStep o f) ∧ (refStep o f).kd = o.kd := by
      obtain ⟨o1, o2, o3, o4, o5⟩ := ho
      unfold refStep refStepK
      repeat' split
      · exact ⟨⟨hro, o2, o3, o4, o5⟩, rfl⟩
      · exact ⟨⟨o1, hro, o3, o4, o5⟩, rfl⟩
      · exact ⟨⟨o1, o2, hro, o4, o5⟩, rfl⟩
      · exact ⟨⟨o1, o2, o3, hro, o5⟩, rfl⟩
      · exact ⟨⟨o1, o2, o3, o4, o5⟩, rfl⟩
      · exact ⟨⟨o1, o2, o3, o4, o5⟩, rfl⟩
      · exact ⟨⟨o1, o2, o3, o4, hbb⟩, rfl⟩
      · exact ⟨⟨o1, o2, o3, o4, o5⟩, rfl⟩
    obtain ⟨i1, i2⟩ := fold_ok fs _ h1.1
    exact ⟨i1, i2.trans h1.2⟩
theorem kind_range : ∀ (l : List ByteArray) (i acc : Int) (w : ByteArray), 0 ≤ i → 0 ≤ acc → i + l.length ≤ 24 → acc < 24 → 0 ≤ kindFrom l i w acc ∧ kindFrom l i w acc < 24
  | [], i, acc, w, h0, h1, h2, h3 => ⟨h1, h3⟩
  | x :: l, i, acc, w, h0, h1, h2, h3 => by
    simp only [List.length_cons] at h2
    rw [kindFrom]
    split
    · exact kind_range l (i + 1) i w (by omega) h0 (by omega) (by omega)
    · exact kind_range l (i + 1) acc w (by omega) h1 (by omega) h3
theorem same_read (s : ByteArray) : finR s (foldR s) = readB s := by
  rcases read_cases s with e | ⟨o, e, hs, k1, k2⟩
  · rw [e]
    unfold finR
    by_cases hk : (foldR s).kd = 0
    · rw [if_pos hk]
    · rw [if_neg hk]
      by_cases hsay : (foldR s).say = s
      · exfalso
        obtain ⟨f1, f2⟩ := fold_ok (piecesOf s).tail { zeroOp with kd := kdOf s } (ok_zero _)
        have hr := kind_range wordsB 0 0 ((piecesOf s).headD ⟨#[]⟩) (by omega) (by omega) (by decide) (by omega)
        have f3 : (foldR s).kd = kdOf s := f2
        have f4 : kdOf s = kindFrom wordsB 0 ((piecesOf s).headD ⟨#[]⟩) 0 := rfl
        have := read_say (foldR s) f1 (by omega) (by omega)
        rw [hsay, e] at this
        have e2 := (Prod.mk.inj this).2
        exact absurd e2 (by decide)
      · rw [if_neg hsay]
  · have ho := readB_ok s
    rw [e] at ho
    have hp := pieces_say o k1 k2
    rw [hs] at hp
    obtain ⟨w, fs, e2⟩ : ∃ w fs, piecesOf s = w :: fs := by
      cases h : piecesOf s with
      | nil => rw [h] at hp; simp at hp
      | cons w fs => exact ⟨w, fs, rfl⟩
    rw [e2] at hp
    simp only [List.map_cons, List.cons.injEq] at hp
    have hw : w = wordsB.getD o.kd.toNat ⟨#[]⟩ := dl_inj hp.1
    have hkd : kdOf s = o.kd := by
      unfold kdOf
      rw [e2, List.headD_cons, hw]
      exact (word_of k1 k2).2.2
    have hfo : foldR s = o := by
      unfold foldR
      rw [hkd, e2, List.tail_cons]
      exact fold_said o ho fs hp.2
    rw [hfo, e]
    unfold finR
    rw [if_neg (by omega), if_pos hs]
end Go.Proofs.YtibjgmhhecbhbaaDoor.PSpellTells
