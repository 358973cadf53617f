/- What Read answers of what Say has written: the fields. -/
import Derived.Test.YtibjgmhhecbhbaaDoorRead
namespace Go.Proofs.YtibjgmhhecbhbaaDoor.Hand
open Go.RowKit Go.Proofs.YtibjgmhhecbhbaaDoorW.PrintWords
set_option linter.unusedVariables false
set_option linter.unusedSimpArgs false

def dl (x : ByteArray) : Bs := x.data.toList
theorem dl_inj {x y : ByteArray} (h : dl x = dl y) : x = y := by
  apply ByteArray.ext
  exact Array.toList_inj.1 h
theorem dl_size (x : ByteArray) : (dl x).length = x.size := rfl
theorem tl_dl (x : ByteArray) : x.toList = dl x := Lib.toList_data x
theorem dl_app (x y : ByteArray) : dl (x ++ y) = dl x ++ dl y := by simp [dl]
theorem dl_mk (l : Bs) : dl ⟨l.toArray⟩ = l := rfl

/-! what stands between blanks -/
def splitL : Bs → List Bs
  | [] => [[]]
  | c :: s => if c = 32 then [] :: splitL s else match splitL s with
    | [] => [[c]]
    | p :: ps => (c :: p) :: ps
theorem splitL_blank (s : Bs) : splitL (32 :: s) = [] :: splitL s := by rw [splitL, if_pos rfl]
theorem splitL_ne (s : Bs) : ∃ p ps, splitL s = p :: ps := by
  cases s with
  | nil => exact ⟨_, _, rfl⟩
  | cons c s =>
    unfold splitL
    split
    · exact ⟨_, _, rfl⟩
    · cases splitL s with
      | nil => exact ⟨_, _, rfl⟩
      | cons p ps => exact ⟨_, _, rfl⟩
theorem splitL_other {c : UInt8} (h : c ≠ 32) {s p : Bs} {ps : List Bs} (e : splitL s = p :: ps) : splitL (c :: s) = (c :: p) :: ps := by
  rw [splitL, if_neg h, e]
theorem splitK_splitL : ∀ l : Bs, Lib.splitK [32] 0 (Lib.count l [32]) l = splitL l
  | [] => by rw [Lib.count_miss (by simp [Lib.index])]; rfl
  | c :: t => by
    have ih := splitK_splitL t
    by_cases h : c = 32
    · subst h
      have hix : Lib.index (32 :: t) [32] = 0 := by rw [Lib.index]; simp [List.isPrefixOf]
      rw [Lib.count_cons_eq, Nat.add_comm, Lib.splitK, hix, if_neg (by decide), splitL_blank, ← ih]
      simp
    · have hp : ([32] : List UInt8).isPrefixOf (c :: t) = false := by simp [List.isPrefixOf]; exact fun h' => h h'.symm
      have hix : Lib.index (c :: t) [32] = if Lib.index t [32] == -1 then -1 else Lib.index t [32] + 1 := by rw [Lib.index, hp]; simp
      rw [Lib.count_cons_ne c 32 t h]
      by_cases hm : Lib.index t [32] = -1
      · rw [Lib.count_miss hm] at ih ⊢
        rw [Lib.splitK] at ih ⊢
        rw [splitL_other h ih.symm]
      · have hge := Lib.index_ge t [32]
        obtain ⟨j, hj⟩ : ∃ j : Nat, Lib.index t [32] = j := ⟨(Lib.index t [32]).toNat, by omega⟩
        have hix' : Lib.index (c :: t) [32] = ((j + 1 : Nat) : Int) := by rw [hix, if_neg (fun e => hm (beq_iff_eq.1 e)), hj]; omega
        have hc := Lib.count_hit (by simp) hj
        rw [hc] at ih ⊢
        rw [Nat.add_comm 1] at ih ⊢
        rw [Lib.splitK, hj, if_neg (by rw [beq_iff_eq]; omega)] at ih
        rw [Lib.splitK, hix', if_neg (by rw [beq_iff_eq]; omega)]
        rw [splitL_other h ih.symm]
        simp
theorem pieces_dl (s : ByteArray) : (piecesOf s).map dl = splitL (dl s) := by
  unfold piecesOf
  exact (Lib.splitB_data ⟨#[32]⟩ 0 _ s).trans (splitK_splitL _)
theorem splitL_app (a b : Bs) : splitL (a ++ 32 :: b) = splitL a ++ splitL b := by
  induction a with
  | nil => rw [List.nil_append, splitL_blank]; rfl
  | cons c a ih =>
    by_cases h : c = 32
    · subst h; rw [List.cons_append, splitL_blank, splitL_blank, ih]; rfl
    · obtain ⟨p, ps, e⟩ := splitL_ne a
      rw [e] at ih
      rw [List.cons_append, splitL_other h ih, splitL_other h e]; rfl
theorem splitL_one {a : Bs} (h : 32 ∉ a) : splitL a = [a] := by
  induction a with
  | nil => rfl
  | cons c a ih =>
    simp only [List.mem_cons, not_or] at h
    rw [splitL_other (fun e => h.1 e.symm) (ih h.2)]
theorem splitL_join (w : Bs) (hw : 32 ∉ w) : ∀ fs : List Bs, (∀ f ∈ fs, 32 ∉ f) → splitL (w ++ fs.flatMap (32 :: ·)) = w :: fs
  | [], _ => by simp [splitL_one hw]
  | f :: fs, h => by
    rw [List.flatMap_cons, List.cons_append, splitL_app, splitL_one hw, splitL_join f (h f List.mem_cons_self) fs (fun g hg => h g (List.mem_cons_of_mem _ hg))]
    rfl

/-! numbers' digits -/
theorem dec_digits : ∀ (u : Nat), ∀ c ∈ Lib.decDigits u, 48 ≤ c.toNat ∧ c.toNat ≤ 57 := by
  intro u
  induction u using Nat.strongRecOn with
  | _ u ih =>
    intro c hc
    rw [Lib.decDigits] at hc
    split at hc
    · next h =>
      simp only [List.mem_singleton] at hc
      subst hc
      have : (UInt8.ofNat (48 + u)).toNat = 48 + u := by rw [UInt8.toNat_ofNat']; omega
      omega
    · next h =>
      rcases List.mem_append.1 hc with hc | hc
      · exact ih (u / 10) (by omega) c hc
      · simp only [List.mem_singleton] at hc
        subst hc
        have : (UInt8.ofNat (48 + u % 10)).toNat = 48 + u % 10 := by rw [UInt8.toNat_ofNat']; omega
        omega
theorem dec_ne (u : Nat) : Lib.decDigits u ≠ [] := by
  rw [Lib.decDigits]; split <;> simp
theorem parse_dec (lim : Nat) (hlim : lim < 18446744073709551616) : ∀ (u : Nat) (r : Bs), u ≤ lim → ∃ acc0, Lib.parseUint10 0 (Lib.decDigits u ++ r) = Lib.parseUint10 acc0 r ∧ acc0 = u := by
  intro u
  induction u using Nat.strongRecOn with
  | _ u ih =>
    intro r hu
    rw [Lib.decDigits]
    split
    · next h =>
      refine ⟨u, ?_, rfl⟩
      have : (UInt8.ofNat (48 + u)).toNat = 48 + u := by rw [UInt8.toNat_ofNat']; omega
      rw [List.singleton_append, Lib.parseUint10, this, if_pos (by omega), if_neg (by omega), if_neg (by omega)]
      congr 1
      omega
    · next h =>
      obtain ⟨a, ha, rfl⟩ := ih (u / 10) (by omega) ([UInt8.ofNat (48 + u % 10)] ++ r) (by omega)
      refine ⟨u, ?_, rfl⟩
      rw [List.append_assoc, ha]
      have : (UInt8.ofNat (48 + u % 10)).toNat = 48 + u % 10 := by rw [UInt8.toNat_ofNat']; omega
      rw [List.singleton_append, Lib.parseUint10, this, if_pos (by omega), if_neg (by omega), if_neg (by omega)]
      congr 1
      omega
theorem parse_all (u : Nat) (h : u < 18446744073709551616) : Lib.parseMag (Lib.decDigits u) = .ok u := by
  unfold Lib.parseMag
  rw [if_neg (dec_ne u)]
  obtain ⟨a, ha, rfl⟩ := parse_dec u h u [] (Nat.le_refl _)
  rw [List.append_nil] at ha
  rw [ha]; rfl
theorem atoi_itoa (n : Int) (h : okI n) : Lib.atoiAll (Lib.itoa n) = .ok n := by
  obtain ⟨h0, h1⟩ := h
  unfold Lib.itoa
  split
  · next hn =>
    rw [Lib.atoiAll_minus, parse_all n.natAbs (by omega)]
    have e : n.natAbs = (-n).toNat := by omega
    rw [e]
    simp only [Lib.signed]
    rw [if_neg (by omega)]
    congr 1
    omega
  · next hn =>
    obtain ⟨c, r, hc⟩ : ∃ c r, Lib.decDigits n.toNat = c :: r := by
      cases hd : Lib.decDigits n.toNat with
      | nil => exact absurd hd (dec_ne _)
      | cons c r => exact ⟨c, r, rfl⟩
    have hd := dec_digits n.toNat c (by rw [hc]; simp)
    rw [hc, Lib.atoiAll_plain c r (by omega) (by omega), ← hc, parse_all n.toNat (by omega)]
    simp only [Lib.signless]
    rw [if_neg (by omega)]
    congr 1
    omega
theorem itoa_chars (n : Int) : ∀ c ∈ Lib.itoa n, c.toNat = 45 ∨ (48 ≤ c.toNat ∧ c.toNat ≤ 57) := by
  intro c hc
  unfold Lib.itoa at hc
  split at hc
  · rcases List.mem_cons.1 hc with rfl | hc
    · exact .inl rfl
    · exact .inr (dec_digits _ c hc)
  · exact .inr (dec_digits _ c hc)
end Go.Proofs.YtibjgmhhecbhbaaDoor.Hand
