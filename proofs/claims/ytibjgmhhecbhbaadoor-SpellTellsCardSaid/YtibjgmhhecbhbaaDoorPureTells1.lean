/- Toward the law's answer: plain Lean. -/
import Derived.Test.YtibjgmhhecbhbaaDoorPTellsx6
namespace Go.Proofs.YtibjgmhhecbhbaaDoor.PSpellTells
open Go.RowKit Go.Proofs.YtibjgmhhecbhbaaDoorW.PrintWords Go.Proofs.YtibjgmhhecbhbaaDoorW.PrintLast Go.Proofs.YtibjgmhhecbhbaaDoorW.PrintMore Go.Proofs.YtibjgmhhecbhbaaDoor.Hand
set_option linter.unusedVariables false
set_option linter.unusedSimpArgs false

/-! what holds for all that is long enough -/
theorem ev_mk {α : Type} {g : Nat → Option α} {r : α} (h : ∀ k, g (k + 1) = some r) : Ev g r :=
  ⟨1, fun k hk => by obtain ⟨k, rfl⟩ : ∃ m, k = m + 1 := ⟨k - 1, by omega⟩; exact h k⟩
theorem ev_step {α : Type} {g f : Nat → Option α} {r : α} (h : Ev f r) (hs : ∀ k, g (k + 1) = f k) : Ev g r := by
  obtain ⟨K, hK⟩ := h
  exact ⟨K + 1, fun k hk => by obtain ⟨k, rfl⟩ : ∃ m, k = m + 1 := ⟨k - 1, by omega⟩; rw [hs]; exact hK k (by omega)⟩
theorem ev_same {α : Type} {g f : Nat → Option α} {r : α} (h : Ev f r) (hs : ∀ k, g k = f k) : Ev g r := by
  obtain ⟨K, hK⟩ := h
  exact ⟨K, fun k hk => by rw [hs]; exact hK k hk⟩
theorem ev_bind {α β : Type} {f : Nat → Option α} {g : Nat → α → Option β} {v : α} {r : β} (h1 : Ev f v) (h2 : Ev (fun k => g k v) r) : Ev (fun k => (f k).bind (g k)) r := by
  obtain ⟨K, hK⟩ := h1
  obtain ⟨K', hK'⟩ := h2
  exact ⟨K + K', fun k hk => by show (f k).bind (g k) = _; rw [hK k (by omega), Option.bind_some]; exact hK' k (by omega)⟩

theorem wr_nat (i : Nat) (h : i ≤ 1000000) : wrap64 ((i : Int) + 1) = ((i + 1 : Nat) : Int) := by unfold wrap64; omega

/-! numbers, told -/
def digs (u : Nat) : Bs := if u = 0 then [] else Lib.decDigits u
theorem digs_step {u : Nat} (h : u ≠ 0) : digs u = digs (u / 10) ++ [UInt8.ofNat (48 + u % 10)] := by
  unfold digs
  rw [if_neg h, Lib.decDigits]
  by_cases h1 : u < 10
  · rw [dif_pos h1, if_pos (by omega), Nat.mod_eq_of_lt h1]; rfl
  · rw [dif_neg h1, if_neg (by omega)]
theorem u64_id {n : Int} (h0 : 0 ≤ n) (h1 : n < 18446744073709551616) : IntKind.u64.wrap n = n := by simp [IntKind.wrap, IntKind.bits, IntKind.signed]; omega
theorem dl_nums (l : List Int) : dl (strOfNums l) = l.map fun x => UInt8.ofNat x.toNat := by unfold dl; rw [strOfNums_data]
theorem w1 (u : Nat) : (IntKind.u64.wrap (48 + Int.tmod (u : Int) 10)) % 256 = ((48 + u % 10 : Nat) : Int) := by
  have e : Int.tmod (u : Int) 10 = ((u % 10 : Nat) : Int) := by rw [Int.tmod_eq_emod_of_nonneg (by omega)]; omega
  rw [e, u64_id (by omega) (by omega)]; omega
theorem w2 (u : Nat) (h : u < 18446744073709551616) : IntKind.u64.wrap (Int.tdiv (u : Int) 10) = ((u / 10 : Nat) : Int) := by
  have e : Int.tdiv (u : Int) 10 = ((u / 10 : Nat) : Int) := by rw [Int.tdiv_eq_ediv_of_nonneg (by omega)]; omega
  rw [e, u64_id (by omega) (by omega)]
theorem ev_num (sg : ByteArray) (hsg : sg.size ≤ 10) : ∀ (u : Nat) (acc : ByteArray), u < 18446744073709551616 → acc.size + (digs u).length ≤ 100 → (u ≠ 0 ∨ dl acc ≠ []) →
    Ev (fun k => purlinref25_number.l0 k (u : Int) sg acc) (sg ++ ((⟨(digs u).toArray⟩ : ByteArray) ++ acc)) := by
  intro u
  induction u using Nat.strongRecOn with
  | _ u ih =>
    intro acc hu hs hne
    by_cases hz : u = 0
    · subst hz
      have hd : ¬ acc.toList = [] := by rw [tl_dl]; exact hne.resolve_left (fun h => h rfl)
      refine ev_mk fun k => ?_
      rw [purlinref25_number.l0, if_neg (by omega), if_neg hd, if_pos (by omega)]
      refine congrArg some (dl_inj ?_)
      rw [dl_app, dl_app, dl_app, dl_mk]; rfl
    · have hst := digs_step hz
      have hl : (digs u).length = (digs (u / 10)).length + 1 := by rw [hst]; simp
      have hsz : (strOfNums [((48 + u % 10 : Nat) : Int)]).size = 1 := by rw [strOfNums_size]; rfl
      have h1 := ih (u / 10) (by omega) (strOfNums [((48 + u % 10 : Nat) : Int)] ++ acc) (by omega) (by rw [ByteArray.size_append, hsz]; omega) (.inr (by rw [dl_app, dl_nums]; simp))
      have e : sg ++ ((⟨(digs u).toArray⟩ : ByteArray) ++ acc) = sg ++ ((⟨(digs (u / 10)).toArray⟩ : ByteArray) ++ (strOfNums [((48 + u % 10 : Nat) : Int)] ++ acc)) := by
        apply dl_inj
        simp only [dl_app, dl_mk, dl_nums, hst, List.map_cons, List.map_nil, Int.toNat_natCast, List.append_assoc]
      rw [e]
      refine ev_step h1 fun k => ?_
      rw [purlinref25_number.l0, if_pos (by omega), Option.bind_some, w1, if_pos (by rw [hsz]; omega), w2 u hu]
theorem digs_le (u : Nat) (h : u < 18446744073709551616) : (digs u).length ≤ 20 := by
  unfold digs
  split
  · simp
  · rw [Lib.decDigits_length]; exact Lib.nDigits_le20 u h
theorem number_f (n : Int) (hn : okI n) (h0 : n ≠ 0) : Ev (fun k => purlinref25_number.f k n) (itoaB n) := by
  have key : ∀ (u : Nat) (sg : ByteArray), u ≠ 0 → u < 18446744073709551616 → sg.size ≤ 10 → Ev (fun k => purlinref25_number.j0 k (u : Int) sg) (sg ++ (⟨(Lib.decDigits u).toArray⟩ : ByteArray)) := by
    intro u sg hu hu2 hsg
    have h1 := ev_num sg hsg u ⟨#[]⟩ hu2 (by have := digs_le u hu2; have e : (⟨#[]⟩ : ByteArray).size = 0 := rfl; omega) (.inl hu)
    have e : sg ++ (⟨(Lib.decDigits u).toArray⟩ : ByteArray) = sg ++ ((⟨(digs u).toArray⟩ : ByteArray) ++ ⟨#[]⟩) := by
      apply dl_inj
      rw [dl_app, dl_app, dl_app, dl_mk, dl_mk]
      unfold digs
      rw [if_neg hu]; simp [dl]
    rw [e]
    exact ev_step h1 fun k => by rw [purlinref25_number.j0]
  obtain ⟨g0, g1⟩ := hn
  by_cases hneg : n < 0
  · have e1 : IntKind.u64.wrap n = n + 18446744073709551616 := by simp [IntKind.wrap, IntKind.bits, IntKind.signed]; omega
    have e2 : IntKind.u64.wrap (-(IntKind.u64.wrap n)) = (n.natAbs : Int) := by rw [e1]; simp [IntKind.wrap, IntKind.bits, IntKind.signed]; omega
    have h1 := key n.natAbs ⟨#[45]⟩ (by omega) (by omega) (by decide)
    have e : itoaB n = (⟨#[45]⟩ : ByteArray) ++ (⟨(Lib.decDigits n.natAbs).toArray⟩ : ByteArray) := by
      apply dl_inj
      rw [dl_app, dl_mk]
      unfold itoaB Lib.itoa
      rw [if_pos hneg, dl_mk]; rfl
    rw [e]
    refine ev_same h1 fun k => ?_
    unfold purlinref25_number.f
    rw [if_pos hneg, e2]
  · have e1 : IntKind.u64.wrap n = (n.toNat : Int) := by rw [u64_id (by omega) (by omega)]; omega
    have h1 := key n.toNat ⟨#[]⟩ (by omega) (by omega) (by decide)
    have e : itoaB n = (⟨#[]⟩ : ByteArray) ++ (⟨(Lib.decDigits n.toNat).toArray⟩ : ByteArray) := by
      apply dl_inj
      rw [dl_app, dl_mk]
      unfold itoaB Lib.itoa
      rw [if_neg hneg, dl_mk]; rfl
    rw [e]
    refine ev_same h1 fun k => ?_
    unfold purlinref25_number.f
    rw [if_neg hneg, e1]

/-! bytes, told -/
theorem hexS_fin : ∀ c : Fin 16, (⟨#[48, 49, 50, 51, 52, 53, 54, 55, 56, 57, 97, 98, 99, 100, 101, 102]⟩ : ByteArray).extract c.val (((c.val : Int) + 1) % 256).toNat = strOfNums [hexI c.val] := by decide +kernel
theorem hexS (c : Int) (h0 : 0 ≤ c) (h1 : c < 16) : (⟨#[48, 49, 50, 51, 52, 53, 54, 55, 56, 57, 97, 98, 99, 100, 101, 102]⟩ : ByteArray).extract c.toNat ((c + 1) % 256).toNat = strOfNums [hexI c] := by
  have := hexS_fin ⟨c.toNat, by omega⟩
  simp only [Int.toNat_of_nonneg h0] at this
  exact this
theorem bytes_at (s : ByteArray) (i : Nat) (h : i < s.size) : (bytesOf s).drop i = bt s i :: (bytesOf s).drop (i + 1) := by
  have hl : i < (bytesOf s).length := by rw [bytesOf_length]; exact h
  rw [List.drop_eq_getElem_cons hl]
  congr 1
  rw [← rd_bytesOf]
  simp [rd, List.getD_eq_getElem?_getD, List.getElem?_eq_getElem hl]
theorem ev_hex (s : ByteArray) (hs : s.size ≤ 100000) : ∀ (m i : Nat) (acc : ByteArray), i + m = s.size → acc.size ≤ 1000000 + 2 * i →
    Ev (fun k => purlinref25_hex.l0 k s acc (i : Int)) (acc ++ strOfNums (toldI ((bytesOf s).drop i)))
  | 0, i, acc, hi, ha => by
    refine ev_mk fun k => ?_
    rw [purlinref25_hex.l0, if_neg (by omega), List.drop_eq_nil_of_le (by rw [bytesOf_length]; omega)]
    refine congrArg some (dl_inj ?_)
    rw [dl_app]; simp [toldI, dl_nums]
  | m + 1, i, acc, hi, ha => by
    have hr := bt_range s i
    have hat := bytes_at s i (by omega)
    have h15 := and15 (bt s i) hr.1 hr.2
    obtain ⟨c, hc⟩ : ∃ c, bt s (i : Int) = c := ⟨_, rfl⟩
    rw [hc] at hr hat h15
    have q1 := hexS (c / 16) (by omega) (by omega)
    have q2 := hexS (c % 16) (by omega) (by omega)
    have z1 : (strOfNums [hexI (c / 16)]).size = 1 := by rw [strOfNums_size]; rfl
    have z2 : (strOfNums [hexI (c % 16)]).size = 1 := by rw [strOfNums_size]; rfl
    have h1 := ev_hex s hs m (i + 1) ((acc ++ strOfNums [hexI (c / 16)]) ++ strOfNums [hexI (c % 16)]) (by omega) (by rw [ByteArray.size_append, ByteArray.size_append, z1, z2]; omega)
    have e : acc ++ strOfNums (toldI ((bytesOf s).drop i)) = ((acc ++ strOfNums [hexI (c / 16)]) ++ strOfNums [hexI (c % 16)]) ++ strOfNums (toldI ((bytesOf s).drop (i + 1))) := by
      apply dl_inj
      rw [hat]
      simp [dl_app, dl_nums, toldI]
    rw [e]
    have c1 : ((c / 16) + 1) % 256 = c / 16 + 1 := by omega
    have c2 : ((c % 16) + 1) % 256 = c % 16 + 1 := by omega
    have d1 : 0 ≤ c / 16 := by omega
    have d2 : c / 16 ≤ c / 16 + 1 := by omega
    have d3 : c / 16 + 1 ≤ 16 := by omega
    have d4 : 0 ≤ c % 16 := by omega
    have d5 : c % 16 ≤ c % 16 + 1 := by omega
    have d6 : c % 16 + 1 ≤ 16 := by omega
    have a1 : (i : Int) < (s.size : Int) := by omega
    have a2 : (0 : Int) ≤ (i : Int) := by omega
    rw [c1] at q1
    rw [c2] at q2
    have s1 : acc.size + (strOfNums [hexI (c / 16)]).size ≤ 9223372036854775807 := by rw [z1]; omega
    have s2 : (acc ++ strOfNums [hexI (c / 16)]).size + (strOfNums [hexI (c % 16)]).size ≤ 9223372036854775807 := by rw [ByteArray.size_append, z1, z2]; omega
    have hw : wrap64 ((i : Int) + 1) = ((i + 1 : Nat) : Int) := wr_nat i (by omega)
    refine ev_step h1 fun k => ?_
    rw [purlinref25_hex.l0, if_pos a1, if_pos a2, hc, h15, c1, c2, q1, q2, if_pos d1, if_pos d2, if_pos d3, if_pos s1, if_pos d4, if_pos d5, if_pos d6, if_pos s2, hw]
theorem hex_f (s : ByteArray) (hs : s.size ≤ 100000) : Ev (fun k => purlinref25_hex.f k s) (toldB s) := by
  have h := ev_hex s hs s.size 0 ⟨#[]⟩ (by omega) (by decide)
  have e : (⟨#[]⟩ : ByteArray) ++ strOfNums (toldI ((bytesOf s).drop 0)) = toldB s := by
    apply dl_inj
    rw [dl_app]; simp [toldB, dl]
  rw [e] at h
  exact ev_same h fun k => rfl
end Go.Proofs.YtibjgmhhecbhbaaDoor.PSpellTells
