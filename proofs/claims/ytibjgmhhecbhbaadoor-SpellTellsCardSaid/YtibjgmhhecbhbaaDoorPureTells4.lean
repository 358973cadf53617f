/- Toward the law's answer: plain Lean. -/
import Derived.Test.YtibjgmhhecbhbaaDoorPureTells3
namespace Go.Proofs.YtibjgmhhecbhbaaDoor.PSpellTells
open Go.RowKit Go.Proofs.YtibjgmhhecbhbaaDoorW.PrintWords Go.Proofs.YtibjgmhhecbhbaaDoorW.PrintLast Go.Proofs.YtibjgmhhecbhbaaDoorW.PrintMore Go.Proofs.YtibjgmhhecbhbaaDoor.Hand
set_option linter.unusedVariables false
set_option linter.unusedSimpArgs false

def kLen : Bs → Nat
  | [] => 0
  | c :: r => if c = 61 then 0 else kLen r + 1
theorem kLen_le : ∀ f : Bs, kLen f ≤ f.length
  | [] => by simp [kLen]
  | c :: r => by
    have := kLen_le r
    unfold kLen
    split
    · omega
    · simp only [List.length_cons]; omega
def refStepK (o : ROp) (k v : Bs) : ROp :=
  if k = [102, 100] then { o with fd := rdF v 0 false }
  else if k = [110] then { o with n := rdF v 0 false }
  else if k = [111, 102, 102] then { o with off := rdF v 0 false }
  else if k = [102, 108, 97, 103, 115] then { o with fl := rdF v 0 false }
  else if k = [112, 97, 116, 104] then { o with p := strOfNums (byF v) }
  else if k = [116, 111] then { o with t := strOfNums (byF v) }
  else if k = [100, 97, 116, 97] then { o with d := byF v }
  else o
def refStep (o : ROp) (f : ByteArray) : ROp := refStepK o ((dl f).take (kLen (dl f))) ((dl f).drop (kLen (dl f) + 1))
abbrev Tup := Int × Int × Int × Int × Int × ByteArray × ByteArray × List Int × Int
theorem mn_le (a b : Nat) : ∃ m : Nat, mn (a : Int) (b : Int) = (m : Int) ∧ m ≤ b ∧ m = min a b := by
  unfold mn
  by_cases h : b < a
  · exact ⟨b, by rw [if_pos (by omega)], by omega, by omega⟩
  · exact ⟨a, by rw [if_neg (by omega)], by omega, by omega⟩
section
variable {s : ByteArray} {ps : List ByteArray} {r : Tup}
theorem ev_j3 (i : Nat) (f : ByteArray) (o : ROp) (hi : i < ps.length) (hp : ps.length ≤ 100000) (hf : rdOf ByteArray.empty ps (i : Int) = f) (hs : f.size ≤ 3000)
    (h : Ev (fun k => purlinref25_Read.l1 k s ps ((i + 1 : Nat) : Int) (refStep o f).kd (refStep o f).fd (refStep o f).n (refStep o f).off (refStep o f).fl (refStep o f).p (refStep o f).t (refStep o f).d) r) :
    Ev (fun k => purlinref25_Read.j3 k s ps (i : Int) (kLen (dl f) : Int) o.kd o.fd o.n o.off o.fl o.p o.t o.d) r := by
  have hkl := kLen_le (dl f)
  rw [dl_size] at hkl
  obtain ⟨m, hm, hm1, hm2⟩ := mn_le (kLen (dl f) + 1) f.size
  have i0 : (0 : Int) ≤ (i : Int) := by omega
  have i1 : (i : Int) < (ps.length : Int) := by omega
  have i2 : (0 : Int) ≤ (m : Int) := by omega
  have i3 : (m : Int) ≤ (f.size : Int) := by omega
  have i4 : (0 : Int) ≤ (kLen (dl f) : Int) := by omega
  have i5 : (kLen (dl f) : Int) ≤ (f.size : Int) := by omega
  have i6 : i ≤ 1000000 := by omega
  have i7 : kLen (dl f) ≤ 1000000 := by omega
  have hkey : (f.extract 0 (kLen (dl f))).toList = (dl f).take (kLen (dl f)) := by rw [tl_dl, dl_cut]; simp
  have hval : dl (f.extract m f.size) = (dl f).drop (kLen (dl f) + 1) := by
    rw [dl_cut, List.take_of_length_le (by rw [List.length_drop, dl_size]; omega)]
    by_cases hc : kLen (dl f) + 1 ≤ f.size
    · rw [show m = kLen (dl f) + 1 by omega]
    · rw [List.drop_eq_nil_of_le (by rw [dl_size]; omega), List.drop_eq_nil_of_le (by rw [dl_size]; omega)]
  have hvs : (f.extract m f.size).size ≤ 3000 := by rw [ByteArray.size_extract]; omega
  have hrd := read_num_f (f.extract m f.size) hvs
  have hby := read_bytes_f (f.extract m f.size) hvs
  rw [hval] at hrd hby
  have hw := wr_nat i i6
  have hw2 := wr_nat (kLen (dl f)) i7
  unfold refStep at h
  generalize hv : f.extract m f.size = v at hrd hby
  generalize (dl f).drop (kLen (dl f) + 1) = val at *
  generalize hkk : (dl f).take (kLen (dl f)) = key at *
  unfold refStepK at h
  have hgo : ∀ k, purlinref25_Read.j3 (k + 1) s ps (i : Int) (kLen (dl f) : Int) o.kd o.fd o.n o.off o.fl o.p o.t o.d =
      (if key = ([102, 100] : List UInt8) then ((purlinref25_read.f k v).bind fun t200 => (purlinref25_Read.l1 k s ps ((i + 1 : Nat) : Int) o.kd t200 o.n o.off o.fl o.p o.t o.d)) else (if key = ([110] : List UInt8) then ((purlinref25_read.f k v).bind fun t201 => (purlinref25_Read.l1 k s ps ((i + 1 : Nat) : Int) o.kd o.fd t201 o.off o.fl o.p o.t o.d)) else (if key = ([111, 102, 102] : List UInt8) then ((purlinref25_read.f k v).bind fun t202 => (purlinref25_Read.l1 k s ps ((i + 1 : Nat) : Int) o.kd o.fd o.n t202 o.fl o.p o.t o.d)) else (if key = ([102, 108, 97, 103, 115] : List UInt8) then ((purlinref25_read.f k v).bind fun t203 => (purlinref25_Read.l1 k s ps ((i + 1 : Nat) : Int) o.kd o.fd o.n o.off t203 o.p o.t o.d)) else (if key = ([112, 97, 116, 104] : List UInt8) then ((purlinref25_bytes.f k v).bind fun t204 => (purlinref25_Read.l1 k s ps ((i + 1 : Nat) : Int) o.kd o.fd o.n o.off o.fl (strOfNums t204) o.t o.d)) else (if key = ([116, 111] : List UInt8) then ((purlinref25_bytes.f k v).bind fun t207 => (purlinref25_Read.l1 k s ps ((i + 1 : Nat) : Int) o.kd o.fd o.n o.off o.fl o.p (strOfNums t207) o.d)) else (if key = ([100, 97, 116, 97] : List UInt8) then ((purlinref25_bytes.f k v).bind fun t210 => (purlinref25_Read.l1 k s ps ((i + 1 : Nat) : Int) o.kd o.fd o.n o.off o.fl o.p o.t t210)) else (purlinref25_Read.l1 k s ps ((i + 1 : Nat) : Int) o.kd o.fd o.n o.off o.fl o.p o.t o.d)))))))) := by
    intro k
    rw [purlinref25_Read.j3, hf, hw, hw2, hm]
    rw [if_pos i0, if_pos i1, if_pos i2, if_pos i3, if_pos i4, if_pos i5, Int.toNat_natCast, Int.toNat_natCast, hkey, hv]
  by_cases c1 : key = [102, 100]
  · rw [if_pos c1] at h
    refine ev_step (ev_bind (g := fun k t200 => purlinref25_Read.l1 k s ps ((i + 1 : Nat) : Int) o.kd t200 o.n o.off o.fl o.p o.t o.d) hrd h) fun k => ?_
    rw [hgo, if_pos c1]
  by_cases c2 : key = [110]
  · rw [if_neg c1, if_pos c2] at h
    refine ev_step (ev_bind (g := fun k t201 => purlinref25_Read.l1 k s ps ((i + 1 : Nat) : Int) o.kd o.fd t201 o.off o.fl o.p o.t o.d) hrd h) fun k => ?_
    rw [hgo, if_neg c1, if_pos c2]
  by_cases c3 : key = [111, 102, 102]
  · rw [if_neg c1, if_neg c2, if_pos c3] at h
    refine ev_step (ev_bind (g := fun k t202 => purlinref25_Read.l1 k s ps ((i + 1 : Nat) : Int) o.kd o.fd o.n t202 o.fl o.p o.t o.d) hrd h) fun k => ?_
    rw [hgo, if_neg c1, if_neg c2, if_pos c3]
  by_cases c4 : key = [102, 108, 97, 103, 115]
  · rw [if_neg c1, if_neg c2, if_neg c3, if_pos c4] at h
    refine ev_step (ev_bind (g := fun k t203 => purlinref25_Read.l1 k s ps ((i + 1 : Nat) : Int) o.kd o.fd o.n o.off t203 o.p o.t o.d) hrd h) fun k => ?_
    rw [hgo, if_neg c1, if_neg c2, if_neg c3, if_pos c4]
  by_cases c5 : key = [112, 97, 116, 104]
  · rw [if_neg c1, if_neg c2, if_neg c3, if_neg c4, if_pos c5] at h
    refine ev_step (ev_bind (g := fun k t204 => purlinref25_Read.l1 k s ps ((i + 1 : Nat) : Int) o.kd o.fd o.n o.off o.fl (strOfNums t204) o.t o.d) hby h) fun k => ?_
    rw [hgo, if_neg c1, if_neg c2, if_neg c3, if_neg c4, if_pos c5]
  by_cases c6 : key = [116, 111]
  · rw [if_neg c1, if_neg c2, if_neg c3, if_neg c4, if_neg c5, if_pos c6] at h
    refine ev_step (ev_bind (g := fun k t207 => purlinref25_Read.l1 k s ps ((i + 1 : Nat) : Int) o.kd o.fd o.n o.off o.fl o.p (strOfNums t207) o.d) hby h) fun k => ?_
    rw [hgo, if_neg c1, if_neg c2, if_neg c3, if_neg c4, if_neg c5, if_pos c6]
  by_cases c7 : key = [100, 97, 116, 97]
  · rw [if_neg c1, if_neg c2, if_neg c3, if_neg c4, if_neg c5, if_neg c6, if_pos c7] at h
    refine ev_step (ev_bind (g := fun k t210 => purlinref25_Read.l1 k s ps ((i + 1 : Nat) : Int) o.kd o.fd o.n o.off o.fl o.p o.t t210) hby h) fun k => ?_
    rw [hgo, if_neg c1, if_neg c2, if_neg c3, if_neg c4, if_neg c5, if_neg c6, if_pos c7]
  rw [if_neg c1, if_neg c2, if_neg c3, if_neg c4, if_neg c5, if_neg c6, if_neg c7] at h
  refine ev_step h fun k => ?_
  rw [hgo, if_neg c1, if_neg c2, if_neg c3, if_neg c4, if_neg c5, if_neg c6, if_neg c7]
theorem ev_l2 (i : Nat) (f : ByteArray) (o : ROp) (hi : i < ps.length) (hf : rdOf ByteArray.empty ps (i : Int) = f) (hs : f.size ≤ 3000)
    (h : Ev (fun k => purlinref25_Read.j3 k s ps (i : Int) (kLen (dl f) : Int) o.kd o.fd o.n o.off o.fl o.p o.t o.d) r) :
    ∀ (m j : Nat), j + m = f.size → kLen (dl f) = j + kLen ((dl f).drop j) → Ev (fun k => purlinref25_Read.l2 k s ps (i : Int) (j : Int) o.kd o.fd o.n o.off o.fl o.p o.t o.d) r
  | 0, j, hj, hk => by
    have i0 : (0 : Int) ≤ (i : Int) := by omega
    have i1 : (i : Int) < (ps.length : Int) := by omega
    have i2 : ¬ (j : Int) < (f.size : Int) := by omega
    have e : kLen (dl f) = j := by rw [hk, List.drop_eq_nil_of_le (by rw [dl_size]; omega)]; rfl
    rw [e] at h
    refine ev_step h fun k => ?_
    rw [purlinref25_Read.l2, hf, if_pos i0, if_pos i1, if_neg i2]
  | m + 1, j, hj, hk => by
    obtain ⟨c, hc, hb⟩ := bt_dl f j (by omega)
    have i0 : (0 : Int) ≤ (i : Int) := by omega
    have i1 : (i : Int) < (ps.length : Int) := by omega
    have i2 : (j : Int) < (f.size : Int) := by omega
    have i3 : (0 : Int) ≤ (j : Int) := by omega
    have i4 : j ≤ 1000000 := by omega
    by_cases h61 : c = 61
    · subst h61
      have hb2 : bt f (j : Int) = 61 := hb
      have e : kLen (dl f) = j := by rw [hk, hc, kLen, if_pos rfl]; rfl
      rw [e] at h
      refine ev_step h fun k => ?_
      rw [purlinref25_Read.l2, hf, if_pos i0, if_pos i1, if_pos i2, if_pos i3, if_pos hb2]
    · have hb2 : ¬ bt f (j : Int) = 61 := by
        rw [hb]
        intro e
        apply h61
        apply UInt8.toNat_inj.1
        have : (61 : UInt8).toNat = 61 := rfl
        omega
      have h1 := ev_l2 i f o hi hf hs h m (j + 1) (by omega) (by rw [hk, hc, kLen, if_neg h61]; omega)
      refine ev_step h1 fun k => ?_
      rw [purlinref25_Read.l2, hf, if_pos i0, if_pos i1, if_pos i2, if_pos i3, if_neg hb2, wr_nat j i4]
theorem ev_fields (hp : ps.length ≤ 100000) (hsz : ∀ f ∈ ps, f.size ≤ 3000) (fin : ROp → Tup) (hfin : ∀ o : ROp, OkR o → o.p.size ≤ 3000 → o.t.size ≤ 3000 → o.d.length ≤ 3000 → Ev (fun k => purlinref25_Read.l1 k s ps (ps.length : Int) o.kd o.fd o.n o.off o.fl o.p o.t o.d) (fin o)) :
    ∀ (m i : Nat) (o : ROp), i + m = ps.length → OkR o → o.p.size ≤ 3000 → o.t.size ≤ 3000 → o.d.length ≤ 3000 → Ev (fun k => purlinref25_Read.l1 k s ps (i : Int) o.kd o.fd o.n o.off o.fl o.p o.t o.d) (fin ((ps.drop i).foldl refStep o))
  | 0, i, o, hi, ho, h1, h2, h3 => by
    obtain rfl : i = ps.length := by omega
    rw [List.drop_length]
    exact hfin o ho h1 h2 h3
  | m + 1, i, o, hi, ho, h1, h2, h3 => by
    have hlt : i < ps.length := by omega
    have hf : rdOf ByteArray.empty ps (i : Int) = ps[i] := by simp [rdOf, List.getD_eq_getElem?_getD, List.getElem?_eq_getElem hlt]
    have hs := hsz _ (List.getElem_mem hlt)
    rw [List.drop_eq_getElem_cons hlt, List.foldl_cons]
    generalize ps[i] = f at *
    have hvl : ((dl f).drop (kLen (dl f) + 1)).length ≤ 3000 := by rw [List.length_drop, dl_size]; omega
    have hbl := byF_len ((dl f).drop (kLen (dl f) + 1))
    have hbb := byF_bytes ((dl f).drop (kLen (dl f) + 1))
    have hsz2 := strOfNums_size (byF ((dl f).drop (kLen (dl f) + 1)))
    have hro := rdF_ok ((dl f).drop (kLen (dl f) + 1)) 0 false
    have hall : OkR (refStep o f) ∧ (refStep o f).p.size ≤ 3000 ∧ (refStep o f).t.size ≤ 3000 ∧ (refStep o f).d.length ≤ 3000 := by
      obtain ⟨o1, o2, o3, o4, o5⟩ := ho
      unfold refStep refStepK
      repeat' split
      · exact ⟨⟨hro, o2, o3, o4, o5⟩, h1, h2, h3⟩
      · exact ⟨⟨o1, hro, o3, o4, o5⟩, h1, h2, h3⟩
      · exact ⟨⟨o1, o2, hro, o4, o5⟩, h1, h2, h3⟩
      · exact ⟨⟨o1, o2, o3, hro, o5⟩, h1, h2, h3⟩
      · exact ⟨⟨o1, o2, o3, o4, o5⟩, by rw [hsz2]; omega, h2, h3⟩
      · exact ⟨⟨o1, o2, o3, o4, o5⟩, h1, by rw [hsz2]; omega, h3⟩
      · exact ⟨⟨o1, o2, o3, o4, hbb⟩, h1, h2, by show (byF _).length ≤ 3000; omega⟩
      · exact ⟨⟨o1, o2, o3, o4, o5⟩, h1, h2, h3⟩
    have hn := ev_fields hp hsz fin hfin m (i + 1) (refStep o f) (by omega) hall.1 hall.2.1 hall.2.2.1 hall.2.2.2
    have hj := ev_j3 i f o hlt hp hf hs hn
    have h2' := ev_l2 i f o hlt hf hs hj f.size 0 (by omega) (by simp)
    have i1 : (i : Int) < (ps.length : Int) := by omega
    refine ev_step h2' fun k => ?_
    rw [purlinref25_Read.l1, if_pos i1]
    rfl
theorem ev_kind (hp : 0 < ps.length) (fd n off fl : Int) (p t : ByteArray) :
    ∀ (m i : Nat) (acc : Int), i + m = 24 → Ev (fun k => purlinref25_Read.l1 k s ps 1 (kindFrom (wordsB.drop i) (i : Int) (rdOf ByteArray.empty ps 0) acc) fd n off fl p t []) r →
      Ev (fun k => purlinref25_Read.l0 k s ps (i : Int) acc fd n off fl p t) r
  | 0, i, acc, hi, h => by
    obtain rfl : i = 24 := by omega
    have i1 : ¬ ((24 : Nat) : Int) < 24 := by omega
    refine ev_step h fun k => ?_
    rw [purlinref25_Read.l0, if_neg i1]
    rfl
  | m + 1, i, acc, hi, h => by
    have i1 : (i : Int) < 24 := by omega
    have i2 : (0 : Int) ≤ (i : Int) := by omega
    have i3 : (i : Int) < (wordsB.length : Int) := i1
    have i4 : (0 : Int) < (ps.length : Int) := by omega
    have i5 : i ≤ 1000000 := by omega
    have hl : i < wordsB.length := by show i < 24; omega
    have hr : rdOf ByteArray.empty wordsB (i : Int) = wordsB[i] := by simp [rdOf, List.getD_eq_getElem?_getD, List.getElem?_eq_getElem hl]
    rw [List.drop_eq_getElem_cons hl, kindFrom] at h
    rw [show (i : Int) + 1 = ((i + 1 : Nat) : Int) by omega] at h
    have h1 := ev_kind hp fd n off fl p t m (i + 1) _ (by omega) h
    refine ev_step h1 fun k => ?_
    rw [purlinref25_Read.l0, if_pos i1, words_f, Option.bind_some, if_pos i2, if_pos i3, if_pos i4, hr, wr_nat i i5]
    split <;> rfl
end
end Go.Proofs.YtibjgmhhecbhbaaDoor.PSpellTells
