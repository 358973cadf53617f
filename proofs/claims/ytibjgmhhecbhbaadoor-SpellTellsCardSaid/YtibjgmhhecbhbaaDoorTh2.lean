/- Read of Say's text; what a text must be to be read. -/
import Derived.Test.YtibjgmhhecbhbaaDoorTh1
namespace Go.Proofs.YtibjgmhhecbhbaaDoor.Hand
open Go.RowKit Go.Proofs.YtibjgmhhecbhbaaDoorW.PrintWords
set_option linter.unusedVariables false
set_option linter.unusedSimpArgs false

/-! bytes and numbers -/
def BytesI (l : List Int) : Prop := ∀ x ∈ l, 0 ≤ x ∧ x ≤ 255
theorem bytesI_of (s : ByteArray) : BytesI (bytesOf s) := by
  intro x hx
  unfold bytesOf at hx
  obtain ⟨b, _, rfl⟩ := List.mem_map.1 hx
  have := b.toNat_lt
  omega
theorem bytesOf_str {l : List Int} (h : BytesI l) : bytesOf (strOfNums l) = l := by
  unfold bytesOf
  rw [strOfNums_data, List.map_map]
  conv => rhs; rw [← List.map_id l]
  refine List.map_congr_left fun x hx => ?_
  have := h x hx
  simp only [Function.comp, id]
  rw [UInt8.toNat_ofNat']
  omega
theorem str_bytesOf (s : ByteArray) : strOfNums (bytesOf s) = s := by
  apply dl_inj
  unfold dl
  rw [strOfNums_data, bytesOf, List.map_map]
  conv => rhs; rw [← List.map_id s.data.toList]
  refine List.map_congr_left fun x _ => ?_
  simp
theorem hexI_fin : ∀ n : Fin 16, 48 ≤ hexI n.val ∧ hexI n.val ≤ 102 ∧ hexI n.val ≠ 61 ∧ nib (hexI n.val) = n.val := by decide +kernel
theorem hexI_at (n : Int) (h0 : 0 ≤ n) (h1 : n < 16) : 48 ≤ hexI n ∧ hexI n ≤ 102 ∧ hexI n ≠ 61 ∧ nib (hexI n) = n := by
  have := hexI_fin ⟨n.toNat, by omega⟩
  simp only [Int.toNat_of_nonneg h0] at this
  exact this
theorem heard_told : ∀ l : List Int, BytesI l → heardI (toldI l) = l
  | [], _ => rfl
  | x :: l, h => by
    have hx := h x (by simp)
    have h1 := (hexI_at (x / 16) (by omega) (by omega)).2.2.2
    have h2 := (hexI_at (x % 16) (by omega) (by omega)).2.2.2
    rw [toldI, heardI, h1, h2, heard_told l (fun y hy => h y (List.mem_cons_of_mem _ hy))]
    congr 1
    omega
theorem told_range : ∀ l : List Int, BytesI l → ∀ y ∈ toldI l, 48 ≤ y ∧ y ≤ 102 ∧ y ≠ 61
  | [], _, y, hy => by simp [toldI] at hy
  | x :: l, h, y, hy => by
    have hx := h x (by simp)
    have h1 := hexI_at (x / 16) (by omega) (by omega)
    have h2 := hexI_at (x % 16) (by omega) (by omega)
    rw [toldI] at hy
    rcases List.mem_cons.1 hy with rfl | hy
    · exact ⟨h1.1, h1.2.1, h1.2.2.1⟩
    · rcases List.mem_cons.1 hy with rfl | hy
      · exact ⟨h2.1, h2.2.1, h2.2.2.1⟩
      · exact told_range l (fun y hy => h y (List.mem_cons_of_mem _ hy)) y hy
theorem heardB_told (s : ByteArray) : heardB (toldB s) = s := by
  unfold heardB toldB
  rw [bytesOf_str, heard_told _ (bytesI_of s), str_bytesOf]
  intro x hx
  have := told_range _ (bytesI_of s) x hx
  omega
theorem toldB_chars (s : ByteArray) : ∀ c ∈ dl (toldB s), c ≠ 32 ∧ c ≠ 61 := by
  intro c hc
  unfold dl toldB at hc
  rw [strOfNums_data] at hc
  obtain ⟨x, hx, rfl⟩ := List.mem_map.1 hc
  have := told_range _ (bytesI_of s) x hx
  have e : (UInt8.ofNat x.toNat).toNat = x.toNat := by rw [UInt8.toNat_ofNat']; omega
  constructor
  · intro h; rw [h] at e; have : (32 : UInt8).toNat = 32 := rfl; omega
  · intro h; rw [h] at e; have : (61 : UInt8).toNat = 61 := rfl; omega
theorem itoa_ne (n : Int) : ∀ c ∈ Lib.itoa n, c ≠ 32 ∧ c ≠ 61 := by
  intro c hc
  have := itoa_chars n c hc
  constructor
  · intro h; rw [h] at this; have e : (32 : UInt8).toNat = 32 := rfl; omega
  · intro h; rw [h] at this; have e : (61 : UInt8).toNat = 61 := rfl; omega

/-! a line as its fields -/
def eqK (k v : Bs) : Bs := k ++ 61 :: v
def fI (k : Bs) (n : Int) : List Bs := if n = 0 then [] else [eqK k (Lib.itoa n)]
def fS (k : Bs) (s : ByteArray) : List Bs := if dl s = [] then [] else [eqK k (dl (toldB s))]
def kFD : Bs := [102, 100]
def kN : Bs := [110]
def kOff : Bs := [111, 102, 102]
def kFl : Bs := [102, 108, 97, 103, 115]
def kP : Bs := [112, 97, 116, 104]
def kT : Bs := [116, 111]
def kD : Bs := [100, 97, 116, 97]
def fieldsOf (o : ROp) : List Bs := fI kFD o.fd ++ (fI kN o.n ++ (fI kOff o.off ++ (fI kFl o.fl ++ (fS kP o.p ++ (fS kT o.t ++ fS kD (strOfNums o.d))))))
def wordOf (kd : Int) : Bs := dl (wordsB.getD kd.toNat ⟨#[]⟩)
theorem fieldB_dl (k v : ByteArray) : dl (fieldB k v) = 32 :: eqK (dl k) (dl v) := by
  unfold fieldB eqK
  simp only [dl_app]
  simp [dl]
theorem sayNums_dl : ∀ (l : List (ByteArray × Int)) (line : ByteArray), dl (sayNums l line) = dl line ++ (l.flatMap fun x => fI (dl x.1) x.2).flatMap (32 :: ·)
  | [], line => by simp [sayNums]
  | (k, n) :: r, line => by
    rw [sayNums, sayNums_dl r, List.flatMap_cons]
    by_cases h : n = 0
    · simp [fI, h]
    · simp only [fI, h, if_false]
      rw [dl_app, fieldB_dl]
      simp [dl, itoaB]
theorem sayTexts_dl : ∀ (l : List (ByteArray × ByteArray)) (line : ByteArray), dl (sayTexts l line) = dl line ++ (l.flatMap fun x => fS (dl x.1) x.2).flatMap (32 :: ·)
  | [], line => by simp [sayTexts]
  | (k, s) :: r, line => by
    rw [sayTexts, sayTexts_dl r, List.flatMap_cons, tl_dl]
    by_cases h : dl s = []
    · simp [fS, h]
    · simp only [fS, h, if_false]
      rw [dl_app, fieldB_dl]
      simp
theorem say_dl (o : ROp) (h1 : 1 ≤ o.kd) (h2 : o.kd < 24) : dl o.say = wordOf o.kd ++ (fieldsOf o).flatMap (32 :: ·) := by
  unfold ROp.say sayB
  rw [if_neg (by omega), sayTexts_dl, sayNums_dl]
  unfold wordOf fieldsOf
  rw [show keysI.zip [o.fd, o.n, o.off, o.fl] = [(⟨#[102, 100]⟩, o.fd), (⟨#[110]⟩, o.n), (⟨#[111, 102, 102]⟩, o.off), (⟨#[102, 108, 97, 103, 115]⟩, o.fl)] from rfl,
    show keysS.zip [o.p, o.t, strOfNums o.d] = [(⟨#[112, 97, 116, 104]⟩, o.p), (⟨#[116, 111]⟩, o.t), (⟨#[100, 97, 116, 97]⟩, strOfNums o.d)] from rfl]
  simp only [List.flatMap_cons, List.flatMap_nil, List.append_nil, List.flatMap_append, List.append_assoc]
  rfl
theorem say_zero (o : ROp) (h : ¬ (1 ≤ o.kd ∧ o.kd < 24)) : o.say = ⟨#[]⟩ := by
  unfold ROp.say sayB
  rw [if_pos (by omega)]
theorem word_fin : ∀ k : Fin 24, 1 ≤ k.val → (wordOf (k.val : Int)) ≠ [] ∧ (∀ c ∈ wordOf (k.val : Int), c ≠ 32 ∧ c ≠ 61) ∧ kindFrom wordsB 0 (wordsB.getD k.val ⟨#[]⟩) 0 = k.val := by decide +kernel
theorem word_of {kd : Int} (h1 : 1 ≤ kd) (h2 : kd < 24) : wordOf kd ≠ [] ∧ (∀ c ∈ wordOf kd, c ≠ 32 ∧ c ≠ 61) ∧ kindFrom wordsB 0 (wordsB.getD kd.toNat ⟨#[]⟩) 0 = kd := by
  have := word_fin ⟨kd.toNat, by omega⟩ (by show 1 ≤ kd.toNat; omega)
  have e : ((kd.toNat : Nat) : Int) = kd := by omega
  simp only at this
  rw [e] at this
  exact this
theorem eqK_no {k v : Bs} (hk : 32 ∉ k) (hv : ∀ c ∈ v, c ≠ 32 ∧ c ≠ 61) : 32 ∉ eqK k v := by
  intro h
  unfold eqK at h
  rcases List.mem_append.1 h with h | h
  · exact hk h
  · rcases List.mem_cons.1 h with h | h
    · exact absurd h (by decide)
    · exact (hv _ h).1 rfl
theorem fI_no {k : Bs} (n : Int) (hk : 32 ∉ k) : ∀ f ∈ fI k n, 32 ∉ f := by
  intro f hf
  unfold fI at hf
  split at hf
  · simp at hf
  · simp only [List.mem_singleton] at hf; subst hf; exact eqK_no hk (itoa_ne n)
theorem fS_no {k : Bs} (s : ByteArray) (hk : 32 ∉ k) : ∀ f ∈ fS k s, 32 ∉ f := by
  intro f hf
  unfold fS at hf
  split at hf
  · simp at hf
  · simp only [List.mem_singleton] at hf; subst hf; exact eqK_no hk (toldB_chars s)
theorem fields_no (o : ROp) : ∀ f ∈ fieldsOf o, 32 ∉ f := by
  intro f hf
  unfold fieldsOf at hf
  simp only [List.mem_append] at hf
  rcases hf with h | h | h | h | h | h | h
  · exact fI_no _ (by decide) f h
  · exact fI_no _ (by decide) f h
  · exact fI_no _ (by decide) f h
  · exact fI_no _ (by decide) f h
  · exact fS_no _ (by decide) f h
  · exact fS_no _ (by decide) f h
  · exact fS_no _ (by decide) f h
theorem pieces_say (o : ROp) (h1 : 1 ≤ o.kd) (h2 : o.kd < 24) : (piecesOf o.say).map dl = wordOf o.kd :: fieldsOf o := by
  rw [pieces_dl, say_dl o h1 h2, splitL_join _ (fun h => ((word_of h1 h2).2.1 32 h).1 rfl) _ (fields_no o)]

/-! reading what was said -/
theorem index_eq {k v : Bs} (hk : 61 ∉ k) : Lib.index (k ++ 61 :: v) [61] = (k.length : Int) := by
  induction k with
  | nil => rw [List.nil_append, Lib.index]; simp [List.isPrefixOf]
  | cons c k ih =>
    simp only [List.mem_cons, not_or] at hk
    have hp : ([61] : List UInt8).isPrefixOf (c :: (k ++ 61 :: v)) = false := by simp [List.isPrefixOf]; exact hk.1
    rw [List.cons_append, Lib.index, hp, ih hk.2]
    simp only [Bool.false_eq_true, if_false]
    rw [if_neg (by rw [beq_iff_eq]; omega)]
    simp
theorem cut_eq {k v : Bs} (hk : 61 ∉ k) : Lib.cut (eqK k v) [61] = (k, v, true) := by
  unfold Lib.cut eqK
  rw [index_eq hk, if_pos (by omega)]
  simp
theorem cutK_eq {f : ByteArray} {k v : Bs} (hf : dl f = eqK k v) (hk : 61 ∉ k) : (cutK f).toList = k ∧ cutV f = ⟨v.toArray⟩ := by
  have h : Lib.cut f.data.toList [61] = (k, v, true) := by rw [← cut_eq hk, ← hf]; rfl
  unfold cutK cutV
  rw [h]
  exact ⟨by rw [tl_dl]; rfl, rfl⟩
theorem fieldsTo_app : ∀ (a b : List ByteArray) (o : ROp), fieldsTo (a ++ b) o = (fieldsTo a o).bind (fieldsTo b)
  | [], b, o => rfl
  | f :: a, b, o => by
    rw [List.cons_append, fieldsTo, fieldsTo]
    cases stepField o f with
    | none => rfl
    | some o' => simp only [Option.bind_some]; exact fieldsTo_app a b o'
theorem seg_I {k : Bs} {n : Int} (hn : okI n) (hk : 61 ∉ k) (h1 : k ≠ kP) (h2 : k ≠ kT) (h3 : k ≠ kD) {fs : List ByteArray} (h : fs.map dl = fI k n) (o : ROp) (h0 : setField o k 0 = o) : fieldsTo fs o = some (setField o k n) := by
  unfold fI at h
  split at h
  · next hz =>
    have : fs = [] := by cases fs with | nil => rfl | cons _ _ => simp at h
    subst this
    rw [hz, h0]; rfl
  · next hz =>
    obtain ⟨f, rfl⟩ : ∃ f, fs = [f] := by
      cases fs with
      | nil => simp at h
      | cons f r => cases r with | nil => exact ⟨f, rfl⟩ | cons _ _ => simp at h
    simp only [List.map_cons, List.map_nil, List.cons.injEq, and_true] at h
    obtain ⟨e1, e2⟩ := cutK_eq h hk
    have ea : Lib.atoiAll (cutV f).data.toList = .ok n := by rw [e2]; exact atoi_itoa n hn
    have e3 : atoiE (cutV f) = false := by unfold atoiE; rw [ea]
    have e4 : atoiV (cutV f) = n := by unfold atoiV; rw [ea]
    rw [fieldsTo, stepField, e1, if_neg (show ¬ k = [112, 97, 116, 104] from h1), if_neg (show ¬ k = [116, 111] from h2), if_neg (show ¬ k = [100, 97, 116, 97] from h3), e3, e4]
    rfl
theorem seg_S {k : Bs} {s : ByteArray} (hk : 61 ∉ k) {fs : List ByteArray} (h : fs.map dl = fS k s) : (dl s = [] ∧ fs = []) ∨ ∃ f, fs = [f] ∧ (cutK f).toList = k ∧ heardB (cutV f) = s := by
  unfold fS at h
  split at h
  · next hz => exact .inl ⟨hz, by cases fs with | nil => rfl | cons _ _ => simp at h⟩
  · next hz =>
    obtain ⟨f, rfl⟩ : ∃ f, fs = [f] := by
      cases fs with
      | nil => simp at h
      | cons f r => cases r with | nil => exact ⟨f, rfl⟩ | cons _ _ => simp at h
    simp only [List.map_cons, List.map_nil, List.cons.injEq, and_true] at h
    obtain ⟨e1, e2⟩ := cutK_eq h hk
    refine .inr ⟨f, rfl, e1, ?_⟩
    rw [e2]
    exact heardB_told s
structure OkR (o : ROp) : Prop where
  fd : okI o.fd
  n : okI o.n
  off : okI o.off
  fl : okI o.fl
  d : BytesI o.d
theorem dl_nil {s : ByteArray} (h : dl s = []) : s = ⟨#[]⟩ := dl_inj h
theorem fields_read (o : ROp) (ho : OkR o) (fs : List ByteArray) (h : fs.map dl = fieldsOf o) : fieldsTo fs { zeroOp with kd := o.kd } = some o := by
  unfold fieldsOf at h
  obtain ⟨f1, g1, rfl, e1, h⟩ := List.map_eq_append_iff.1 h
  obtain ⟨f2, g2, rfl, e2, h⟩ := List.map_eq_append_iff.1 h
  obtain ⟨f3, g3, rfl, e3, h⟩ := List.map_eq_append_iff.1 h
  obtain ⟨f4, g4, rfl, e4, h⟩ := List.map_eq_append_iff.1 h
  obtain ⟨f5, g5, rfl, e5, h⟩ := List.map_eq_append_iff.1 h
  obtain ⟨f6, g6, rfl, e6, e7⟩ := List.map_eq_append_iff.1 h
  rw [fieldsTo_app, seg_I ho.fd (by decide) (by decide) (by decide) (by decide) e1 _ rfl]
  rw [Option.bind_some, fieldsTo_app, seg_I ho.n (by decide) (by decide) (by decide) (by decide) e2 _ rfl]
  rw [Option.bind_some, fieldsTo_app, seg_I ho.off (by decide) (by decide) (by decide) (by decide) e3 _ rfl]
  rw [Option.bind_some, fieldsTo_app, seg_I ho.fl (by decide) (by decide) (by decide) (by decide) e4 _ rfl]
  rw [Option.bind_some, fieldsTo_app]
  obtain ⟨kd, fd, n, off, fl, p, t, d⟩ := o
  have s5 : fieldsTo f5 ⟨kd, fd, n, off, fl, ⟨#[]⟩, ⟨#[]⟩, []⟩ = some ⟨kd, fd, n, off, fl, p, ⟨#[]⟩, []⟩ := by
    rcases seg_S (by decide) e5 with ⟨z, rfl⟩ | ⟨f, rfl, c1, c2⟩
    · obtain rfl := dl_nil (s := p) z; rfl
    · rw [fieldsTo, stepField, if_pos (show (cutK f).toList = [112, 97, 116, 104] from c1), c2]; rfl
  have s6 : fieldsTo f6 ⟨kd, fd, n, off, fl, p, ⟨#[]⟩, []⟩ = some ⟨kd, fd, n, off, fl, p, t, []⟩ := by
    rcases seg_S (by decide) e6 with ⟨z, rfl⟩ | ⟨f, rfl, c1, c2⟩
    · obtain rfl := dl_nil (s := t) z; rfl
    · rw [fieldsTo, stepField, c1, if_neg (by decide), if_pos (by rfl), c2]; rfl
  have s7 : fieldsTo g6 ⟨kd, fd, n, off, fl, p, t, []⟩ = some ⟨kd, fd, n, off, fl, p, t, d⟩ := by
    rcases seg_S (by decide) e7 with ⟨z, rfl⟩ | ⟨f, rfl, c1, c2⟩
    · have : d = [] := by
        have e := dl_nil z
        have e2 := congrArg ByteArray.size e
        rw [strOfNums_size] at e2
        exact List.eq_nil_of_length_eq_zero e2
      rw [this]; rfl
    · rw [fieldsTo, stepField, c1, if_neg (by decide), if_neg (by decide), if_pos (by rfl), c2, bytesOf_str ho.d]; rfl
  show ((fieldsTo f5 ⟨kd, fd, n, off, fl, ⟨#[]⟩, ⟨#[]⟩, []⟩).bind (fieldsTo (f6 ++ g6))) = _
  rw [s5, Option.bind_some, fieldsTo_app, s6, Option.bind_some, s7]
theorem say_ne (o : ROp) (h1 : 1 ≤ o.kd) (h2 : o.kd < 24) : dl o.say ≠ [] := by
  rw [say_dl o h1 h2]
  intro h
  exact (word_of h1 h2).1 (List.append_eq_nil_iff.1 h).1
/-- What was said is read as it was. -/
theorem read_say (o : ROp) (ho : OkR o) (h1 : 1 ≤ o.kd) (h2 : o.kd < 24) : readB o.say = (o, 0) := by
  have hp := pieces_say o h1 h2
  obtain ⟨w, fs, e⟩ : ∃ w fs, piecesOf o.say = w :: fs := by
    cases h : piecesOf o.say with
    | nil => rw [h] at hp; simp at hp
    | cons w fs => exact ⟨w, fs, rfl⟩
  rw [e] at hp
  simp only [List.map_cons, List.cons.injEq] at hp
  have hw : w = wordsB.getD o.kd.toNat ⟨#[]⟩ := dl_inj hp.1
  unfold readB
  rw [e]
  simp only [List.tail_cons, List.headD_cons]
  rw [hw, (word_of h1 h2).2.2, fields_read o ho fs hp.2]
  simp only
  rw [if_neg]
  rintro (h | h)
  · rw [tl_dl] at h; exact say_ne o h1 h2 h
  · exact h rfl
theorem read_cases (s : ByteArray) : readB s = (zeroOp, 3) ∨ ∃ o, readB s = (o, 0) ∧ o.say = s ∧ 1 ≤ o.kd ∧ o.kd < 24 := by
  unfold readB
  split
  · exact .inl rfl
  · next o _ =>
    split
    · exact .inl rfl
    · next h =>
      have h1 : ¬ s.toList = [] := fun e => h (.inl e)
      have h2 : o.say.toList = s.toList := Classical.byContradiction fun e => h (.inr e)
      rw [tl_dl, tl_dl] at h2
      have h3 := dl_inj h2
      refine .inr ⟨o, rfl, h3, ?_⟩
      refine Classical.byContradiction fun hk => ?_
      rw [← h3, say_zero o hk] at h1
      exact h1 (by rw [tl_dl]; rfl)
end Go.Proofs.YtibjgmhhecbhbaaDoor.Hand
