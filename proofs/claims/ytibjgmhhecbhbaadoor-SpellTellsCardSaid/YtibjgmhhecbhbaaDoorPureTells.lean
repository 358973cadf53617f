/- The law answers true, for every input: plain Lean. -/
import Derived.Test.YtibjgmhhecbhbaaDoorPureTells5
namespace Go.Proofs.YtibjgmhhecbhbaaDoor.PSpellTells
open Go.RowKit Go.Proofs.YtibjgmhhecbhbaaDoorW.PrintWords Go.Proofs.YtibjgmhhecbhbaaDoorW.PrintLast Go.Proofs.YtibjgmhhecbhbaaDoorW.PrintMore Go.Proofs.YtibjgmhhecbhbaaDoor.Hand
set_option linter.unusedVariables false
set_option linter.unusedSimpArgs false

theorem ev_over : ∀ (m i : Nat) (l : List Int), i + m = l.length → l.length ≤ 3000 → Ev (fun k => purlinlaw0_OverBytes.l0 k l (i : Int)) ()
  | 0, i, l, hi, hl => by
    have i1 : ¬ (i : Int) < (l.length : Int) := by omega
    have i2 : l.length < 140737488355328 := by omega
    refine ev_mk fun k => ?_
    rw [purlinlaw0_OverBytes.l0, if_neg i1, if_pos i2]
  | m + 1, i, l, hi, hl => by
    have i1 : (i : Int) < (l.length : Int) := by omega
    have i2 : (0 : Int) ≤ (i : Int) := by omega
    have i3 : i ≤ 1000000 := by omega
    have h := ev_over m (i + 1) (l.set i 238) (by rw [List.length_set]; omega) (by rw [List.length_set]; exact hl)
    refine ev_step h fun k => ?_
    rw [purlinlaw0_OverBytes.l0, if_pos i1, if_pos i2, wr_nat i i3]
    rfl
theorem over_f (l : List Int) (hl : l.length ≤ 3000) : Ev (fun k => purlinlaw0_OverBytes.f k l) () := ev_same (ev_over l.length 0 l (by omega) hl) fun k => rfl
theorem fold_d : ∀ (fs : List ByteArray) (o : ROp), (∀ f ∈ fs, f.size ≤ 3000) → o.d.length ≤ 3000 → (fs.foldl refStep o).d.length ≤ 3000
  | [], o, _, h => h
  | f :: fs, o, hf, h => by
    rw [List.foldl_cons]
    refine fold_d fs _ (fun g hg => hf g (List.mem_cons_of_mem _ hg)) ?_
    have h1 := hf f (by simp)
    have hvl : ((dl f).drop (kLen (dl f) + 1)).length ≤ 3000 := by rw [List.length_drop, dl_size]; omega
    have hbl := byF_len ((dl f).drop (kLen (dl f) + 1))
    unfold refStep refStepK
    repeat' split
    case isFalse.isFalse.isFalse.isFalse.isFalse.isFalse.isTrue => show (byF _).length ≤ 3000; omega
    all_goals exact h
theorem readB_d (s : ByteArray) (hs : s.size ≤ 3000) : (readB s).1.d.length ≤ 3000 := by
  rw [← same_read]
  have h := fold_d (piecesOf s).tail { zeroOp with kd := kdOf s } (fun f hf => (pieces_len s hs).1 f (List.mem_of_mem_tail hf)) (show (0 : Nat) ≤ 3000 by omega)
  unfold finR
  split
  · exact (show (0 : Nat) ≤ 3000 by omega)
  · split
    · exact h
    · exact (show (0 : Nat) ≤ 3000 by omega)
theorem ev_awake : Ev (fun k => (purlinlaw25_awake.f k).bind fun t => some t) true := by
  refine ev_mk fun k => ?_
  rw [awake_ok k]; rfl
theorem j0_true (s : ByteArray) (a b c d e : Int) (p t : ByteArray) (l : List Int) : Ev (fun k => purlinlaw25_SpellTells.j0 k s true a b c d e p t l) true := by
  refine ev_step ev_awake fun k => ?_
  rw [purlinlaw25_SpellTells.j0, if_pos rfl]
theorem sameop_ev (o : ROp) (h : o.d.length ≤ 3000) : Ev (fun k => purlinlaw0_SameOp.f k o.kd o.fd o.n o.off o.fl o.p o.t o.d o.kd o.fd o.n o.off o.fl o.p o.t o.d) true :=
  ⟨3001, fun k hk => sameop_eq k o (by omega) (by omega)⟩
theorem j0_false (s : ByteArray) (hs : s.size ≤ 3000) (o : ROp) (ho : OkR o) (h1 : o.p.size ≤ 300) (h2 : o.t.size ≤ 300) (h3 : o.d.length ≤ 3000) : Ev (fun k => purlinlaw25_SpellTells.j0 k s false o.kd o.fd o.n o.off o.fl o.p o.t o.d) true := by
  have hd := readB_d s hs
  have hr := read_f s (by omega)
  have hrr := refread_f s hs
  rw [same_read] at hrr
  have hsay := say_f o ho (by omega) (by omega) (by omega)
  have hrs := refsay_f o ho (by omega) (by omega) h3
  generalize readB s = B at *
  obtain ⟨q, er⟩ := B
  try simp only at hd hr
  unfold tupOf at hrr
  try simp only at hrr
  have c4 : Ev (fun k => (purlinlaw0_OverBytes.f k q.d).bind fun _ => (if er = er then ((purlinlaw25_awake.f k).bind fun t247 => (some t247)) else (some false))) true :=
    ev_bind (g := fun k (_ : Unit) => (if er = er then ((purlinlaw25_awake.f k).bind fun t247 => (some t247)) else (some false))) (over_f q.d hd) (ev_same ev_awake fun k => by rw [if_pos rfl])
  have c3 := ev_bind (g := fun k (t246 : Bool) => (if t246 = true then ((purlinlaw0_OverBytes.f k q.d).bind fun _ => (if er = er then ((purlinlaw25_awake.f k).bind fun t247 => (some t247)) else (some false))) else ((purlinlaw0_OverBytes.f k q.d).bind fun _ => (some false)))) (sameop_ev q hd) (ev_same c4 fun k => by rw [if_pos rfl])
  have c2 := ev_bind (g := fun k (t245 : ByteArray) => (if o.say.toList = t245.toList then ((purlinlaw0_SameOp.f k q.kd q.fd q.n q.off q.fl q.p q.t q.d q.kd q.fd q.n q.off q.fl q.p q.t q.d).bind fun t246 => (if t246 = true then ((purlinlaw0_OverBytes.f k q.d).bind fun _ => (if er = er then ((purlinlaw25_awake.f k).bind fun t247 => (some t247)) else (some false))) else ((purlinlaw0_OverBytes.f k q.d).bind fun _ => (some false)))) else ((purlinlaw0_OverBytes.f k q.d).bind fun _ => (some false)))) hrs (ev_same c3 fun k => by rw [if_pos rfl])
  have c1 := ev_bind (g := fun k (bt232 : Tup) => (purlinref25_Say.f k o.kd o.fd o.n o.off o.fl o.p o.t o.d).bind fun t245 => (if o.say.toList = t245.toList then ((purlinlaw0_SameOp.f k q.kd q.fd q.n q.off q.fl q.p q.t q.d bt232.1 bt232.2.1 bt232.2.2.1 bt232.2.2.2.1 bt232.2.2.2.2.1 bt232.2.2.2.2.2.1 bt232.2.2.2.2.2.2.1 bt232.2.2.2.2.2.2.2.1).bind fun t246 => (if t246 = true then ((purlinlaw0_OverBytes.f k q.d).bind fun _ => (if er = bt232.2.2.2.2.2.2.2.2 then ((purlinlaw25_awake.f k).bind fun t247 => (some t247)) else (some false))) else ((purlinlaw0_OverBytes.f k q.d).bind fun _ => (some false)))) else ((purlinlaw0_OverBytes.f k q.d).bind fun _ => (some false)))) hrr c2
  refine ev_step c1 fun k => ?_
  rw [purlinlaw25_SpellTells.j0, if_neg (by decide), hr, Option.bind_some, hsay]
  rfl
theorem pure_ev (a0_0 a0_1 a0_2 a0_3 a0_4 : Int) (a0_5 a0_6 : ByteArray) (l0_7 : List Int) (a1 : ByteArray) (h1 : okI a0_1) (h2 : okI a0_2) (h3 : okI a0_3) (h4 : okI a0_4) (h7 : BytesI l0_7) :
    Ev (fun k => purlinlaw25_SpellTells.f k a0_0 a0_1 a0_2 a0_3 a0_4 a0_5 a0_6 l0_7 a1) true := by
  have hg := great_f ⟨a0_0, a0_1, a0_2, a0_3, a0_4, a0_5, a0_6, l0_7⟩
  simp only at hg
  have oko : OkR ⟨a0_0, a0_1, a0_2, a0_3, a0_4, a0_5, a0_6, l0_7⟩ := ⟨h1, h2, h3, h4, h7⟩
  by_cases hs : a0_5.size ≤ 300 ∧ a0_6.size ≤ 300 ∧ l0_7.length ≤ 3000
  case neg =>
    refine ev_same (j0_true a1 a0_0 a0_1 a0_2 a0_3 a0_4 a0_5 a0_6 l0_7) fun k => ?_
    unfold purlinlaw25_SpellTells.f
    rw [hg, Option.bind_some, if_pos (decide_eq_true hs)]
  have hdf : decide (¬ (a0_5.size ≤ 300 ∧ a0_6.size ≤ 300 ∧ l0_7.length ≤ 3000)) = false := by simpa using hs
  by_cases hz : (a1.size : Int) > 3000
  · refine ev_same (j0_true a1 a0_0 a0_1 a0_2 a0_3 a0_4 a0_5 a0_6 l0_7) fun k => ?_
    unfold purlinlaw25_SpellTells.f
    rw [hg, Option.bind_some, hdf, if_neg (by decide), decide_eq_true hz]
  · have hj := j0_false a1 (by omega) ⟨a0_0, a0_1, a0_2, a0_3, a0_4, a0_5, a0_6, l0_7⟩ oko hs.1 hs.2.1 hs.2.2
    simp only at hj
    refine ev_same hj fun k => ?_
    unfold purlinlaw25_SpellTells.f
    rw [hg, Option.bind_some, hdf, if_neg (by decide), decide_eq_false hz]
theorem pure (a0_0 a0_1 a0_2 a0_3 a0_4 : Int) (a0_5 a0_6 : ByteArray) (l0_7 : List Int) (a1 : ByteArray) (h1 : okI a0_1) (h2 : okI a0_2) (h3 : okI a0_3) (h4 : okI a0_4) (h7 : BytesI l0_7) :
    ∃ k, purlinlaw25_SpellTells.f k a0_0 a0_1 a0_2 a0_3 a0_4 a0_5 a0_6 l0_7 a1 = some true := by
  obtain ⟨K, hK⟩ := pure_ev a0_0 a0_1 a0_2 a0_3 a0_4 a0_5 a0_6 l0_7 a1 h1 h2 h3 h4 h7
  exact ⟨K, hK K (Nat.le_refl _)⟩
end Go.Proofs.YtibjgmhhecbhbaaDoor.PSpellTells
