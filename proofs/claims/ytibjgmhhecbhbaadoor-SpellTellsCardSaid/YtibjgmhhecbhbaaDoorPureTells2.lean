/- Toward the law's answer: plain Lean. -/
import Derived.Test.YtibjgmhhecbhbaaDoorPureTells1
namespace Go.Proofs.YtibjgmhhecbhbaaDoor.PSpellTells
open Go.RowKit Go.Proofs.YtibjgmhhecbhbaaDoorW.PrintWords Go.Proofs.YtibjgmhhecbhbaaDoorW.PrintLast Go.Proofs.YtibjgmhhecbhbaaDoorW.PrintMore Go.Proofs.YtibjgmhhecbhbaaDoor.Hand
set_option linter.unusedVariables false
set_option linter.unusedSimpArgs false

theorem field_app (x key v : ByteArray) : (x ++ ((⟨#[32]⟩ ++ key) ++ ⟨#[61]⟩)) ++ v = x ++ fieldB key v := by
  apply dl_inj
  unfold fieldB
  simp only [dl_app, List.append_assoc]
theorem stepN_size (x key : ByteArray) (n : Int) (hn : okI n) (hk : key.size ≤ 5) : (if n = 0 then x else x ++ fieldB key (itoaB n)).size ≤ x.size + 30 := by
  split
  · omega
  · have := itoaB_size n hn
    rw [ByteArray.size_append, fieldB_size]; omega
theorem stepS_size (x key s : ByteArray) (hk : key.size ≤ 5) (hs : s.size ≤ 3000) : (if s.toList = [] then x else x ++ fieldB key (toldB s)).size ≤ x.size + 6010 := by
  split
  · omega
  · rw [ByteArray.size_append, fieldB_size, toldB_size]; omega
def kl4 : List ByteArray := [⟨#[32, 102, 100, 61]⟩, ⟨#[32, 110, 61]⟩, ⟨#[32, 111, 102, 102, 61]⟩, ⟨#[32, 102, 108, 97, 103, 115, 61]⟩]
def kl3 : List ByteArray := [⟨#[32, 112, 97, 116, 104, 61]⟩, ⟨#[32, 116, 111, 61]⟩, ⟨#[32, 100, 97, 116, 97, 61]⟩]
section
variable {a b c d e : Int} {p t : ByteArray} {l : List Int} {r : ByteArray}
theorem ev_say0 (x3 : ByteArray) (ns : List Int) (i : Nat) (n : Int) (key : ByteArray) (hi : i < 4) (hns : ns.length = 4) (hn : rd ns (i : Int) = n) (hk : rdOf ByteArray.empty kl4 (i : Int) = (⟨#[32]⟩ ++ key) ++ ⟨#[61]⟩) (hks : key.size ≤ 5) (ho : okI n) (h3 : x3.size ≤ 100000)
    (h : Ev (fun k => purlinref25_Say.l0 k (if n = 0 then x3 else x3 ++ fieldB key (itoaB n)) ns ((i + 1 : Nat) : Int) a b c d e p t l) r) :
    Ev (fun k => purlinref25_Say.l0 k x3 ns (i : Int) a b c d e p t l) r := by
  have i0 : (0 : Int) ≤ (i : Int) := by omega
  have i1 : (i : Int) < 4 := by omega
  have i2 : (i : Int) < (ns.length : Int) := by omega
  have i3 : (i : Int) < (kl4.length : Int) := i1
  have hw := wr_nat i (by omega)
  by_cases hz : n = 0
  · rw [if_pos hz] at h
    refine ev_step h fun k => ?_
    rw [purlinref25_Say.l0, if_pos i1, if_pos i0, if_pos i2, hn, if_pos hz, hw]
  · rw [if_neg hz] at h
    have z1 : (⟨#[32]⟩ : ByteArray).size = 1 := rfl
    have z2 : (⟨#[61]⟩ : ByteArray).size = 1 := rfl
    have s0 := itoaB_size n ho
    have s1 : x3.size + ((⟨#[32]⟩ ++ key) ++ ⟨#[61]⟩ : ByteArray).size ≤ 9223372036854775807 := by clear hw; rw [ByteArray.size_append, ByteArray.size_append, z1, z2]; omega
    have s2 : (x3 ++ ((⟨#[32]⟩ ++ key) ++ ⟨#[61]⟩)).size + (itoaB n).size ≤ 9223372036854775807 := by clear hw; rw [ByteArray.size_append, ByteArray.size_append, ByteArray.size_append, z1, z2]; omega
    have hb : Ev (fun k => (purlinref25_number.f k n).bind fun t161 => (if (x3 ++ ((⟨#[32]⟩ ++ key) ++ ⟨#[61]⟩)).size + t161.size ≤ 9223372036854775807 then (purlinref25_Say.l0 k ((x3 ++ ((⟨#[32]⟩ ++ key) ++ ⟨#[61]⟩)) ++ t161) ns ((i + 1 : Nat) : Int) a b c d e p t l) else (none))) r := by
      refine ev_bind (number_f n ho hz) ?_
      refine ev_same h fun k => ?_
      rw [if_pos s2, field_app]
    refine ev_step hb fun k => ?_
    rw [purlinref25_Say.l0, if_pos i1, if_pos i0, if_pos i2, hn, if_neg hz, Option.bind_some]
    rw [show ([(⟨#[32, 102, 100, 61]⟩ : ByteArray), (⟨#[32, 110, 61]⟩ : ByteArray), (⟨#[32, 111, 102, 102, 61]⟩ : ByteArray), (⟨#[32, 102, 108, 97, 103, 115, 61]⟩ : ByteArray)] : List ByteArray) = kl4 from rfl]
    rw [if_pos i3, hk, if_pos s1, hw]
theorem ev_say1 (x3 : ByteArray) (bs : List ByteArray) (i : Nat) (s : ByteArray) (key : ByteArray) (hi : i < 3) (hns : bs.length = 3) (hn : rdOf ByteArray.empty bs (i : Int) = s) (hk : rdOf ByteArray.empty kl3 (i : Int) = (⟨#[32]⟩ ++ key) ++ ⟨#[61]⟩) (hks : key.size ≤ 5) (hs : s.size ≤ 3000) (h3 : x3.size ≤ 100000)
    (h : Ev (fun k => purlinref25_Say.l1 k (if s.toList = [] then x3 else x3 ++ fieldB key (toldB s)) bs ((i + 1 : Nat) : Int)) r) :
    Ev (fun k => purlinref25_Say.l1 k x3 bs (i : Int)) r := by
  have i0 : (0 : Int) ≤ (i : Int) := by omega
  have i1 : (i : Int) < 3 := by omega
  have i2 : (i : Int) < (bs.length : Int) := by omega
  have i3 : (i : Int) < (kl3.length : Int) := i1
  have hw := wr_nat i (by omega)
  by_cases hz : s.toList = []
  · rw [if_pos hz] at h
    refine ev_step h fun k => ?_
    rw [purlinref25_Say.l1, if_pos i1, if_pos i0, if_pos i2, hn, if_pos hz, hw]
  · rw [if_neg hz] at h
    have z1 : (⟨#[32]⟩ : ByteArray).size = 1 := rfl
    have z2 : (⟨#[61]⟩ : ByteArray).size = 1 := rfl
    have s0 := toldB_size s
    have s1 : x3.size + ((⟨#[32]⟩ ++ key) ++ ⟨#[61]⟩ : ByteArray).size ≤ 9223372036854775807 := by clear hw; rw [ByteArray.size_append, ByteArray.size_append, z1, z2]; omega
    have s2 : (x3 ++ ((⟨#[32]⟩ ++ key) ++ ⟨#[61]⟩)).size + (toldB s).size ≤ 9223372036854775807 := by clear hw; rw [ByteArray.size_append, ByteArray.size_append, ByteArray.size_append, z1, z2]; omega
    have hb : Ev (fun k => (purlinref25_hex.f k s).bind fun t171 => (if (x3 ++ ((⟨#[32]⟩ ++ key) ++ ⟨#[61]⟩)).size + t171.size ≤ 9223372036854775807 then (purlinref25_Say.l1 k ((x3 ++ ((⟨#[32]⟩ ++ key) ++ ⟨#[61]⟩)) ++ t171) bs ((i + 1 : Nat) : Int)) else (none))) r := by
      refine ev_bind (hex_f s (by clear hw; omega)) ?_
      refine ev_same h fun k => ?_
      rw [if_pos s2, field_app]
    refine ev_step hb fun k => ?_
    rw [purlinref25_Say.l1, if_pos i1, if_pos i0, if_pos i2, hn, if_neg hz, Option.bind_some]
    rw [show ([(⟨#[32, 112, 97, 116, 104, 61]⟩ : ByteArray), (⟨#[32, 116, 111, 61]⟩ : ByteArray), (⟨#[32, 100, 97, 116, 97, 61]⟩ : ByteArray)] : List ByteArray) = kl3 from rfl]
    rw [if_pos i3, hk, if_pos s1, hw]
end
theorem words_f : purlinref25_words.f = some wordsB := rfl
theorem refsay_f (o : ROp) (ho : OkR o) (h1 : o.p.size ≤ 3000) (h2 : o.t.size ≤ 3000) (h3 : o.d.length ≤ 3000) : Ev (fun k => purlinref25_Say.f k o.kd o.fd o.n o.off o.fl o.p o.t o.d) o.say := by
  have hnone : ¬ (1 ≤ o.kd ∧ o.kd < 24) → Ev (fun k => purlinref25_Say.j0 k true o.kd o.fd o.n o.off o.fl o.p o.t o.d) o.say := by
    intro h
    rw [say_zero o h]
    refine ev_mk fun k => ?_
    rw [purlinref25_Say.j0, if_pos rfl]
  by_cases k1 : o.kd < 1
  · refine ev_same (hnone (by omega)) fun k => ?_
    unfold purlinref25_Say.f
    rw [if_pos k1]
  by_cases k2 : o.kd ≥ 24
  · refine ev_same (hnone (by omega)) fun k => ?_
    unfold purlinref25_Say.f
    rw [if_neg k1, decide_eq_true k2]
  have hd : (strOfNums o.d).size ≤ 3000 := by rw [strOfNums_size]; exact h3
  have q0 : (0 : Int) ≤ o.kd := by omega
  have q1 : o.kd < (wordsB.length : Int) := by show o.kd < 24; omega
  obtain ⟨kd, fd, n, off, fl, p, t, d⟩ := o
  obtain ⟨o1, o2, o3, o4, o5⟩ := ho
  simp only at h1 h2 h3 k1 k2 hd q0 q1 o1 o2 o3 o4 ⊢
  have ws : (rdOf ByteArray.empty wordsB kd).size ≤ 9 := words_size kd.toNat
  suffices hl : Ev (fun k => purlinref25_Say.l0 k (rdOf ByteArray.empty wordsB kd) [fd, n, off, fl] ((0 : Nat) : Int) kd fd n off fl p t d) (ROp.say ⟨kd, fd, n, off, fl, p, t, d⟩) by
    have hj : Ev (fun k => purlinref25_Say.j0 k false kd fd n off fl p t d) (ROp.say ⟨kd, fd, n, off, fl, p, t, d⟩) := by
      refine ev_step hl fun k => ?_
      rw [purlinref25_Say.j0, if_neg (by decide), words_f, Option.bind_some, if_pos q0, if_pos q1]
      rfl
    refine ev_same hj fun k => ?_
    unfold purlinref25_Say.f
    rw [if_neg k1, decide_eq_false k2]
  generalize hW : rdOf ByteArray.empty wordsB kd = W at *
  obtain ⟨L1, e1⟩ : ∃ x, x = if fd = 0 then W else W ++ fieldB ⟨#[102, 100]⟩ (itoaB fd) := ⟨_, rfl⟩
  obtain ⟨L2, e2⟩ : ∃ x, x = if n = 0 then L1 else L1 ++ fieldB ⟨#[110]⟩ (itoaB n) := ⟨_, rfl⟩
  obtain ⟨L3, e3⟩ : ∃ x, x = if off = 0 then L2 else L2 ++ fieldB ⟨#[111, 102, 102]⟩ (itoaB off) := ⟨_, rfl⟩
  obtain ⟨L4, e4⟩ : ∃ x, x = if fl = 0 then L3 else L3 ++ fieldB ⟨#[102, 108, 97, 103, 115]⟩ (itoaB fl) := ⟨_, rfl⟩
  obtain ⟨L5, e5⟩ : ∃ x, x = if p.toList = [] then L4 else L4 ++ fieldB ⟨#[112, 97, 116, 104]⟩ (toldB p) := ⟨_, rfl⟩
  obtain ⟨L6, e6⟩ : ∃ x, x = if t.toList = [] then L5 else L5 ++ fieldB ⟨#[116, 111]⟩ (toldB t) := ⟨_, rfl⟩
  obtain ⟨L7, e7⟩ : ∃ x, x = if (strOfNums d).toList = [] then L6 else L6 ++ fieldB ⟨#[100, 97, 116, 97]⟩ (toldB (strOfNums d)) := ⟨_, rfl⟩
  have b1 := stepN_size W ⟨#[102, 100]⟩ fd o1 (by decide)
  have b2 := stepN_size L1 ⟨#[110]⟩ n o2 (by decide)
  have b3 := stepN_size L2 ⟨#[111, 102, 102]⟩ off o3 (by decide)
  have b4 := stepN_size L3 ⟨#[102, 108, 97, 103, 115]⟩ fl o4 (by decide)
  have b5 := stepS_size L4 ⟨#[112, 97, 116, 104]⟩ p (by decide) h1
  have b6 := stepS_size L5 ⟨#[116, 111]⟩ t (by decide) h2
  rw [← e1] at b1; rw [← e2] at b2; rw [← e3] at b3; rw [← e4] at b4; rw [← e5] at b5; rw [← e6] at b6
  have hres : ROp.say ⟨kd, fd, n, off, fl, p, t, d⟩ = L7 := by
    unfold ROp.say sayB
    rw [if_neg (show ¬ (kd < 1 ∨ 24 ≤ kd) by omega)]
    show sayTexts _ (sayNums _ (rdOf ByteArray.empty wordsB kd)) = _
    rw [hW]
    show sayTexts [(⟨#[112, 97, 116, 104]⟩, p), (⟨#[116, 111]⟩, t), (⟨#[100, 97, 116, 97]⟩, strOfNums d)] (sayNums [(⟨#[102, 100]⟩, fd), (⟨#[110]⟩, n), (⟨#[111, 102, 102]⟩, off), (⟨#[102, 108, 97, 103, 115]⟩, fl)] W) = _
    simp only [sayNums, sayTexts]
    rw [← e1, ← e2, ← e3, ← e4, ← e5, ← e6, ← e7]
  rw [hres]
  refine ev_say0 W _ 0 fd ⟨#[102, 100]⟩ (by omega) rfl rfl (by decide +kernel) (by decide) o1 (by omega) ?_
  rw [← e1]
  refine ev_say0 L1 _ 1 n ⟨#[110]⟩ (by omega) rfl rfl (by decide +kernel) (by decide) o2 (by omega) ?_
  rw [← e2]
  refine ev_say0 L2 _ 2 off ⟨#[111, 102, 102]⟩ (by omega) rfl rfl (by decide +kernel) (by decide) o3 (by omega) ?_
  rw [← e3]
  refine ev_say0 L3 _ 3 fl ⟨#[102, 108, 97, 103, 115]⟩ (by omega) rfl rfl (by decide +kernel) (by decide) o4 (by omega) ?_
  rw [← e4]
  suffices hl : Ev (fun k => purlinref25_Say.l1 k L4 [p, t, strOfNums d] ((0 : Nat) : Int)) L7 by
    refine ev_step hl fun k => ?_
    rw [purlinref25_Say.l0, if_neg (by omega)]
    rfl
  refine ev_say1 L4 _ 0 p ⟨#[112, 97, 116, 104]⟩ (by omega) rfl rfl (by decide +kernel) (by decide) h1 (by omega) ?_
  rw [← e5]
  refine ev_say1 L5 _ 1 t ⟨#[116, 111]⟩ (by omega) rfl rfl (by decide +kernel) (by decide) h2 (by omega) ?_
  rw [← e6]
  refine ev_say1 L6 _ 2 (strOfNums d) ⟨#[100, 97, 116, 97]⟩ (by omega) rfl rfl (by decide +kernel) (by decide) hd (by omega) ?_
  rw [← e7]
  refine ev_mk fun k => ?_
  rw [purlinref25_Say.l1, if_neg (by omega)]
end Go.Proofs.YtibjgmhhecbhbaaDoor.PSpellTells
