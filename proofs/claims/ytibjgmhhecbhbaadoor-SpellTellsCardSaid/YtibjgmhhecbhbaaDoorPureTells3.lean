/- Toward the law's answer: plain Lean. -/
import Derived.Test.YtibjgmhhecbhbaaDoorPureTells2
namespace Go.Proofs.YtibjgmhhecbhbaaDoor.PSpellTells
open Go.RowKit Go.Proofs.YtibjgmhhecbhbaaDoorW.PrintWords Go.Proofs.YtibjgmhhecbhbaaDoorW.PrintLast Go.Proofs.YtibjgmhhecbhbaaDoorW.PrintMore Go.Proofs.YtibjgmhhecbhbaaDoor.Hand
set_option linter.unusedVariables false
set_option linter.unusedSimpArgs false

def mkB (l : Bs) : ByteArray := ⟨l.toArray⟩
theorem dl_mkB (l : Bs) : dl (mkB l) = l := rfl
theorem mkB_dl (s : ByteArray) : mkB (dl s) = s := dl_inj (dl_mkB _)
theorem bt_dl (s : ByteArray) (i : Nat) (h : i < s.size) : ∃ c : UInt8, (dl s).drop i = c :: (dl s).drop (i + 1) ∧ bt s (i : Int) = (c.toNat : Int) := by
  have hl : i < (dl s).length := by rw [dl_size]; exact h
  refine ⟨(dl s)[i], List.drop_eq_getElem_cons hl, ?_⟩
  unfold bt
  rw [dif_pos (by rw [Int.toNat_natCast]; exact h)]
  simp [dl]; rfl
theorem dl_cut (s : ByteArray) (i j : Nat) : dl (s.extract i j) = ((dl s).drop i).take (j - i) := by
  unfold dl
  rw [ByteArray.data_extract, Array.toList_extract, List.extract_eq_take_drop]

/-! what stands between blanks -/
theorem ev_parts (s : ByteArray) (hs : s.size ≤ 3000) : ∀ (m i fr : Nat) (acc : List ByteArray) (mid : Bs), i + m = s.size → fr ≤ i → 32 ∉ mid → (dl s).drop fr = mid ++ (dl s).drop i → mid.length = i - fr → acc.length ≤ i →
    Ev (fun k => purlinref25_parts.l0 k s acc (fr : Int) (i : Int)) (acc ++ (splitL ((dl s).drop fr)).map mkB)
  | 0, i, fr, acc, mid, hi, hf, hm, hd, hml, ha => by
    have e0 : (dl s).drop i = [] := List.drop_eq_nil_of_le (by rw [dl_size]; omega)
    have hex : s.extract fr i = mkB mid := by
      apply dl_inj
      rw [dl_cut, hd, e0, dl_mkB, List.append_nil, List.take_of_length_le (by omega)]
    rw [hd, e0, List.append_nil, splitL_one hm]
    have i1 : (i : Int) ≤ (s.size : Int) := by omega
    have i2 : (i : Int) = (s.size : Int) := by omega
    have i3 : (0 : Int) ≤ (fr : Int) := by omega
    have i4 : (fr : Int) ≤ (i : Int) := by omega
    have i5 : acc.length < 8796093022208 := by omega
    have i6 : ¬ ((i + 1 : Nat) : Int) ≤ (s.size : Int) := by omega
    have hw := wr_nat i (by omega)
    have hlast : Ev (fun k => purlinref25_parts.l0 k s (acc ++ [s.extract fr i]) ((i + 1 : Nat) : Int) ((i + 1 : Nat) : Int)) (acc ++ [mkB mid]) := by
      refine ev_mk fun k => ?_
      rw [purlinref25_parts.l0, if_neg i6, hex]
    refine ev_step hlast fun k => ?_
    rw [purlinref25_parts.l0, if_pos i1, if_pos i2, if_pos i3, if_pos i4, if_pos i5, hw]
    rfl
  | m + 1, i, fr, acc, mid, hi, hf, hm, hd, hml, ha => by
    obtain ⟨c, hc, hb⟩ := bt_dl s i (by omega)
    have i1 : (i : Int) ≤ (s.size : Int) := by omega
    have i2 : ¬ (i : Int) = (s.size : Int) := by omega
    have i3 : (0 : Int) ≤ (fr : Int) := by omega
    have i4 : (fr : Int) ≤ (i : Int) := by omega
    have i5 : acc.length < 8796093022208 := by omega
    have i6 : (0 : Int) ≤ (i : Int) := by omega
    have i7 : (i : Int) < (s.size : Int) := by omega
    by_cases h32 : c = 32
    · subst h32
      have hb2 : bt s (i : Int) = 32 := hb
      have hex : s.extract fr i = mkB mid := by
        apply dl_inj
        rw [dl_cut, hd, dl_mkB, ← hml, List.take_left]
      have h1 := ev_parts s hs m (i + 1) (i + 1) (acc ++ [mkB mid]) [] (by omega) (Nat.le_refl _) (by simp) (by simp) (by simp) (by simp; omega)
      rw [hd, hc, splitL_app, splitL_one hm, List.map_append, List.map_cons, List.map_nil]
      rw [List.append_assoc] at h1
      have hw := wr_nat i (by omega)
      refine ev_step h1 fun k => ?_
      rw [purlinref25_parts.l0, if_pos i1, if_neg i2, if_pos i6, if_pos i7, if_pos hb2, if_pos i3, if_pos i4, if_pos i5, hw]
      show purlinref25_parts.l0 k s (acc ++ [s.extract fr i]) _ _ = _
      rw [hex]
    · have hb2 : ¬ bt s (i : Int) = 32 := by
        rw [hb]
        intro e
        apply h32
        apply UInt8.toNat_inj.1
        have : (32 : UInt8).toNat = 32 := rfl
        omega
      have h1 := ev_parts s hs m (i + 1) fr acc (mid ++ [c]) (by omega) (by omega) (by simp [hm, Ne.symm h32]) (by rw [hd, hc]; simp) (by simp; omega) (by omega)
      have hw := wr_nat i (by omega)
      refine ev_step h1 fun k => ?_
      rw [purlinref25_parts.l0, if_pos i1, if_neg i2, if_pos i6, if_pos i7, if_neg hb2, hw]
theorem map_dl_inj : ∀ {x y : List ByteArray}, x.map dl = y.map dl → x = y
  | [], [], _ => rfl
  | [], _ :: _, h => by simp at h
  | _ :: _, [], h => by simp at h
  | a :: x, b :: y, h => by
    simp only [List.map_cons, List.cons.injEq] at h
    rw [dl_inj h.1, map_dl_inj h.2]
theorem parts_f (s : ByteArray) (hs : s.size ≤ 3000) : Ev (fun k => purlinref25_parts.f k s) (piecesOf s) := by
  have h := ev_parts s hs s.size 0 0 [] [] (by omega) (Nat.le_refl _) (by simp) (by simp) rfl (by simp)
  have e : piecesOf s = [] ++ (splitL ((dl s).drop 0)).map mkB := by
    apply map_dl_inj
    rw [pieces_dl, List.nil_append, List.drop_zero, List.map_map]
    rw [show dl ∘ mkB = id from rfl, List.map_id]
  rw [e]
  exact ev_same h fun k => rfl

/-! digits -/
def digitI (c : Int) : Int := if 48 ≤ c ∧ c ≤ 57 then c - 48 else if 97 ≤ c ∧ c ≤ 102 then c - 87 else 0
theorem digitI_range (c : Int) : 0 ≤ digitI c ∧ digitI c ≤ 15 := by unfold digitI; split <;> (try split) <;> omega
theorem digit_f (c : Int) (h0 : 0 ≤ c) (h1 : c ≤ 255) (k : Nat) : purlinref25_digit.f (k + 1) c = some (digitI c) := by
  unfold purlinref25_digit.f digitI
  by_cases a : c ≥ 48
  · rw [if_pos a, purlinref25_digit.j0]
    by_cases b : c ≤ 57
    · rw [if_pos (decide_eq_true b), if_pos (show 48 ≤ c ∧ c ≤ 57 from ⟨a, b⟩), show (c - 48) % 256 = c - 48 by omega]
    · rw [if_neg (show ¬ decide (c ≤ 57) = true by simpa using b), if_neg (show ¬ (48 ≤ c ∧ c ≤ 57) by omega)]
      by_cases d : c ≥ 97
      · rw [if_pos d]
        by_cases e : c ≤ 102
        · rw [if_pos e, if_pos (show 97 ≤ c ∧ c ≤ 102 from ⟨d, e⟩), show (((c - 97) % 256) + 10) % 256 = c - 87 by omega]
        · rw [if_neg e, if_neg (show ¬ (97 ≤ c ∧ c ≤ 102) by omega)]
      · rw [if_neg d, if_neg (show ¬ (97 ≤ c ∧ c ≤ 102) by omega)]
  · rw [if_neg a, purlinref25_digit.j0, if_neg (show ¬ false = true by decide), if_neg (show ¬ (48 ≤ c ∧ c ≤ 57) by omega), if_neg (show ¬ (97 ≤ c ∧ c ≤ 102) by omega), if_neg (show ¬ c ≥ 97 by omega)]
theorem ev_digit (c : Int) (h0 : 0 ≤ c) (h1 : c ≤ 255) : Ev (fun k => purlinref25_digit.f k c) (digitI c) := ev_mk fun k => digit_f c h0 h1 k

/-! numbers, read -/
def rdF : Bs → Int → Bool → Int
  | [], u, sg => if sg = true then wrap64 (IntKind.u64.wrap (-u)) else wrap64 u
  | c :: r, u, sg => if c = 45 then rdF r u true else rdF r (IntKind.u64.wrap (IntKind.u64.wrap (u * 10) + IntKind.u64.wrap (digitI c.toNat))) sg
theorem wrap_ok (n : Int) : okI (wrap64 n) := by unfold okI wrap64; omega
theorem rdF_ok : ∀ (v : Bs) (u : Int) (sg : Bool), okI (rdF v u sg)
  | [], u, sg => by unfold rdF; split <;> exact wrap_ok _
  | c :: r, u, sg => by unfold rdF; split <;> exact rdF_ok r _ _
theorem ev_read (v : ByteArray) (hv : v.size ≤ 3000) : ∀ (m i : Nat) (u : Int) (sg : Bool), i + m = v.size → Ev (fun k => purlinref25_read.l0 k v u sg (i : Int)) (rdF ((dl v).drop i) u sg)
  | 0, i, u, sg, hi => by
    have i1 : ¬ (i : Int) < (v.size : Int) := by omega
    rw [List.drop_eq_nil_of_le (by rw [dl_size]; omega)]
    refine ev_mk fun k => ?_
    rw [purlinref25_read.l0, if_neg i1, rdF]
    split <;> rfl
  | m + 1, i, u, sg, hi => by
    obtain ⟨c, hc, hb⟩ := bt_dl v i (by omega)
    have i1 : (i : Int) < (v.size : Int) := by omega
    have i2 : (0 : Int) ≤ (i : Int) := by omega
    have hr := bt_range v (i : Int)
    have i3 : i ≤ 1000000 := by omega
    rw [hc, rdF]
    by_cases h45 : c = 45
    · subst h45
      have hb2 : bt v (i : Int) = 45 := hb
      have h1 := ev_read v hv m (i + 1) u true (by omega)
      rw [if_pos rfl]
      refine ev_step h1 fun k => ?_
      rw [purlinref25_read.l0, if_pos i1, if_pos i2, if_pos hb2, wr_nat i i3]
    · have hb2 : ¬ bt v (i : Int) = 45 := by
        rw [hb]
        intro e
        apply h45
        apply UInt8.toNat_inj.1
        have : (45 : UInt8).toNat = 45 := rfl
        omega
      rw [if_neg h45, ← hb]
      have h1 := ev_read v hv m (i + 1) (IntKind.u64.wrap (IntKind.u64.wrap (u * 10) + IntKind.u64.wrap (digitI (bt v (i : Int))))) sg (by omega)
      have h2 := ev_bind (g := fun k t178 => purlinref25_read.l0 k v (IntKind.u64.wrap ((IntKind.u64.wrap (u * 10)) + (IntKind.u64.wrap (t178)))) sg ((i + 1 : Nat) : Int)) (ev_digit _ hr.1 hr.2) h1
      refine ev_step h2 fun k => ?_
      rw [purlinref25_read.l0, if_pos i1, if_pos i2, if_neg hb2, wr_nat i i3]
theorem read_num_f (v : ByteArray) (hv : v.size ≤ 3000) : Ev (fun k => purlinref25_read.f k v) (rdF (dl v) 0 false) :=
  ev_same (ev_read v hv v.size 0 0 false (by omega)) fun k => rfl
theorem digit_dec (x : Nat) (h : x < 10) : (UInt8.ofNat (48 + x)).toNat = 48 + x ∧ digitI ((UInt8.ofNat (48 + x)).toNat) = x ∧ UInt8.ofNat (48 + x) ≠ 45 := by
  have e : (UInt8.ofNat (48 + x)).toNat = 48 + x := by rw [UInt8.toNat_ofNat']; omega
  refine ⟨e, ?_, ?_⟩
  · rw [e]; unfold digitI; rw [if_pos (by omega)]; omega
  · intro h2
    rw [h2] at e
    have : (45 : UInt8).toNat = 45 := rfl
    omega
theorem u64_mul (u : Nat) (x : Nat) (h : u * 10 + x < 18446744073709551616) (hx : x < 10) : IntKind.u64.wrap (IntKind.u64.wrap ((u : Int) * 10) + IntKind.u64.wrap (x : Int)) = ((u * 10 + x : Nat) : Int) := by
  rw [u64_id (n := (u : Int) * 10) (by omega) (by omega), u64_id (n := (x : Int)) (by omega) (by omega), u64_id (by omega) (by omega)]
  omega
theorem rdF_dec : ∀ (u : Nat) (r : Bs) (sg : Bool), u < 18446744073709551616 → rdF (Lib.decDigits u ++ r) 0 sg = rdF r (u : Int) sg := by
  intro u
  induction u using Nat.strongRecOn with
  | _ u ih =>
    intro r sg hu
    rw [Lib.decDigits]
    split
    · next h =>
      obtain ⟨_, a2, a3⟩ := digit_dec u h
      have := u64_mul 0 u (by omega) h
      rw [List.singleton_append, rdF, if_neg a3, a2]
      rw [show ((0 : Int) * 10) = (((0 : Nat) : Int) * 10) from rfl, this]
      rw [Nat.zero_mul, Nat.zero_add]
    · next h =>
      obtain ⟨_, a2, a3⟩ := digit_dec (u % 10) (by omega)
      have := u64_mul (u / 10) (u % 10) (by omega) (by omega)
      rw [List.append_assoc, ih (u / 10) (by omega) _ sg (by omega), List.singleton_append, rdF, if_neg a3, a2, this]
      rw [show u / 10 * 10 + u % 10 = u by omega]
theorem neg_back (n : Int) (h0 : -9223372036854775808 ≤ n) (h : n < 0) : wrap64 (IntKind.u64.wrap (-(n.natAbs : Int))) = n := by
  have e : IntKind.u64.wrap (-(n.natAbs : Int)) = n + 18446744073709551616 := by simp [IntKind.wrap, IntKind.bits, IntKind.signed]; omega
  rw [e]; unfold wrap64; omega
theorem pos_back (n : Int) (h0 : 0 ≤ n) (h : n ≤ 9223372036854775807) : wrap64 (n.toNat : Int) = n := by unfold wrap64; omega
theorem rdF_itoa (n : Int) (hn : okI n) : rdF (Lib.itoa n) 0 false = n := by
  obtain ⟨g0, g1⟩ := hn
  unfold Lib.itoa
  by_cases h : n < 0
  · rw [if_pos h, rdF, if_pos rfl]
    have := rdF_dec n.natAbs [] true (by omega)
    rw [List.append_nil] at this
    rw [this, rdF, if_pos rfl, neg_back n g0 h]
  · rw [if_neg h]
    have := rdF_dec n.toNat [] false (by omega)
    rw [List.append_nil] at this
    rw [this, rdF, if_neg (by decide), pos_back n (by omega) g1]

/-! bytes, read -/
def byF : Bs → List Int
  | c :: c' :: r => (digitI c.toNat * 16 + digitI c'.toNat) :: byF r
  | _ => []
theorem orb_fin : ∀ x y : Fin 16, Go.bits .or .u8 (((x.val : Int) * 16) % 256) (y.val : Int) = (x.val : Int) * 16 + (y.val : Int) := by decide +kernel
theorem orb (x y : Int) (h0 : 0 ≤ x) (h1 : x ≤ 15) (h2 : 0 ≤ y) (h3 : y ≤ 15) : Go.bits .or .u8 ((x * 16) % 256) y = x * 16 + y := by
  have := orb_fin ⟨x.toNat, by omega⟩ ⟨y.toNat, by omega⟩
  simp only [Int.toNat_of_nonneg h0, Int.toNat_of_nonneg h2] at this
  exact this
theorem byF_bytes : ∀ (v : Bs), BytesI (byF v)
  | c :: c' :: r => by
    intro x hx
    rw [byF] at hx
    have h1 := digitI_range c.toNat
    have h2 := digitI_range c'.toNat
    rcases List.mem_cons.1 hx with rfl | hx
    · omega
    · exact byF_bytes r x hx
  | [] => by intro x hx; simp [byF] at hx
  | [_] => by intro x hx; simp [byF] at hx
theorem byF_len : ∀ (v : Bs), (byF v).length ≤ v.length
  | c :: c' :: r => by have := byF_len r; simp only [byF, List.length_cons]; omega
  | [] => by simp [byF]
  | [_] => by simp [byF]
theorem wr_two (i : Nat) (h : i ≤ 1000000) : wrap64 ((i : Int) + 2) = ((i + 2 : Nat) : Int) := by unfold wrap64; omega
theorem ev_bytes (v : ByteArray) (hv : v.size ≤ 3000) : ∀ (m i : Nat) (acc : List Int), v.size - i ≤ m → i ≤ v.size → acc.length ≤ i → Ev (fun k => purlinref25_bytes.l0 k v acc (i : Int)) (acc ++ byF ((dl v).drop i))
  | 0, i, acc, hm, hi, ha => by
    have i0 : i ≤ 1000000 := by omega
    have i1 : ¬ ((i + 1 : Nat) : Int) < (v.size : Int) := by omega
    rw [List.drop_eq_nil_of_le (by rw [dl_size]; omega)]
    refine ev_mk fun k => ?_
    rw [purlinref25_bytes.l0, wr_nat i i0, if_neg i1, byF, List.append_nil]
    · intro a b c h; cases h
  | m + 1, i, acc, hm, hi, ha => by
    have i0 : i ≤ 1000000 := by omega
    by_cases hlt : i + 1 < v.size
    · obtain ⟨c, hc, hb⟩ := bt_dl v i (by omega)
      obtain ⟨c', hc', hb'⟩ := bt_dl v (i + 1) hlt
      have r1 := bt_range v (i : Int)
      have r2 := bt_range v ((i + 1 : Nat) : Int)
      have g1 := digitI_range (bt v (i : Int))
      have g2 := digitI_range (bt v ((i + 1 : Nat) : Int))
      have i1 : ((i + 1 : Nat) : Int) < (v.size : Int) := by omega
      have i2 : (0 : Int) ≤ (i : Int) := by omega
      have i3 : (i : Int) < (v.size : Int) := by omega
      have i4 : (0 : Int) ≤ ((i + 1 : Nat) : Int) := by omega
      have i5 : acc.length < 140737488355328 := by omega
      have ho := orb (digitI (bt v (i : Int))) (digitI (bt v ((i + 1 : Nat) : Int))) g1.1 g1.2 g2.1 g2.2
      have h1 := ev_bytes v hv m (i + 2) (acc ++ [digitI (bt v (i : Int)) * 16 + digitI (bt v ((i + 1 : Nat) : Int))]) (by omega) (by omega) (by simp; omega)
      rw [List.append_assoc, ← ho] at h1
      have h2 := ev_bind (g := fun k t180 => (if acc.length < 140737488355328 then (purlinref25_bytes.l0 k v (acc ++ [Go.bits .or .u8 ((digitI (bt v (i : Int)) * 16) % 256) t180]) ((i + 2 : Nat) : Int)) else (none))) (ev_digit _ r2.1 r2.2) (ev_same h1 fun k => by rw [if_pos i5])
      have h3 := ev_bind (g := fun k t179 => (if 0 ≤ ((i + 1 : Nat) : Int) then ((purlinref25_digit.f k (bt v ((i + 1 : Nat) : Int))).bind fun t180 => (if acc.length < 140737488355328 then (purlinref25_bytes.l0 k v (acc ++ [Go.bits .or .u8 ((t179 * 16) % 256) t180]) ((i + 2 : Nat) : Int)) else (none))) else (none))) (ev_digit _ r1.1 r1.2) (ev_same h2 fun k => by rw [if_pos i4])
      have e : acc ++ byF ((dl v).drop i) = acc ++ ([Go.bits .or .u8 ((digitI (bt v (i : Int)) * 16) % 256) (digitI (bt v ((i + 1 : Nat) : Int)))] ++ byF ((dl v).drop (i + 2))) := by
        rw [ho, hc, hc', byF, hb, hb']; rfl
      rw [e]
      refine ev_step h3 fun k => ?_
      rw [purlinref25_bytes.l0, wr_nat i i0, wr_two i i0, if_pos i1, if_pos i2, if_pos i3]
    · have i1 : ¬ ((i + 1 : Nat) : Int) < (v.size : Int) := by omega
      have e : byF ((dl v).drop i) = [] := by
        have hl : ((dl v).drop i).length ≤ 1 := by rw [List.length_drop, dl_size]; omega
        match hd : (dl v).drop i, hl with
        | [], _ => rw [byF]; intro a b c h; cases h
        | [_], _ => rw [byF]; intro a b c h; cases h
      rw [e, List.append_nil]
      refine ev_mk fun k => ?_
      rw [purlinref25_bytes.l0, wr_nat i i0, if_neg i1]
theorem read_bytes_f (v : ByteArray) (hv : v.size ≤ 3000) : Ev (fun k => purlinref25_bytes.f k v) (byF (dl v)) :=
  ev_same (ev_bytes v hv v.size 0 [] (by omega) (by omega) (by simp)) fun k => rfl
theorem digit_hex_fin : ∀ n : Fin 16, digitI ((UInt8.ofNat (hexI n.val).toNat).toNat) = n.val := by decide +kernel
theorem digit_hex (n : Int) (h0 : 0 ≤ n) (h1 : n < 16) : digitI ((UInt8.ofNat (hexI n).toNat).toNat) = n := by
  have := digit_hex_fin ⟨n.toNat, by omega⟩
  simp only [Int.toNat_of_nonneg h0] at this
  exact this
theorem byF_told : ∀ l : List Int, BytesI l → byF ((toldI l).map fun x => UInt8.ofNat x.toNat) = l
  | [], _ => rfl
  | x :: l, h => by
    have hx := h x (by simp)
    rw [toldI, List.map_cons, List.map_cons, byF, byF_told l (fun y hy => h y (List.mem_cons_of_mem _ hy)), digit_hex (x / 16) (by omega) (by omega), digit_hex (x % 16) (by omega) (by omega)]
    congr 1
    omega
theorem byF_toldB (s : ByteArray) : byF (dl (toldB s)) = bytesOf s := by
  unfold toldB
  rw [dl_nums, byF_told _ (bytesI_of s)]
end Go.Proofs.YtibjgmhhecbhbaaDoor.PSpellTells
