/- What Say answers, for every Op. -/
import Derived.Test.YtibjgmhhecbhbaaDoorHeard
import Derived.Lib.ItoaLen
import Derived.Deep.RegionWith
namespace Go.Proofs.YtibjgmhhecbhbaaDoor.Hand
open Go.RowKit Go.Proofs.YtibjgmhhecbhbaaDoorW.PrintWords Go.Proofs.YtibjgmhhecbhbaaDoorW.PrintLast Go.Proofs.YtibjgmhhecbhbaaDoorW.PrintMore
set_option linter.unusedVariables false
set_option linter.unusedSimpArgs false

/-! what the package's variables hold -/
def wordsB : List ByteArray := [⟨#[]⟩, ⟨#[111, 112, 101, 110]⟩, ⟨#[99, 108, 111, 115, 101]⟩, ⟨#[114, 101, 97, 100]⟩, ⟨#[119, 114, 105, 116, 101]⟩, ⟨#[112, 114, 101, 97, 100]⟩, ⟨#[112, 119, 114, 105, 116, 101]⟩, ⟨#[115, 101, 101, 107]⟩, ⟨#[116, 114, 117, 110, 99]⟩, ⟨#[109, 107, 100, 105, 114]⟩, ⟨#[114, 109, 100, 105, 114]⟩, ⟨#[117, 110, 108, 105, 110, 107]⟩, ⟨#[108, 105, 110, 107]⟩, ⟨#[115, 121, 109, 108, 105, 110, 107]⟩, ⟨#[114, 101, 97, 100, 108, 105, 110, 107]⟩, ⟨#[114, 101, 110, 97, 109, 101]⟩, ⟨#[115, 116, 97, 116]⟩, ⟨#[108, 115, 116, 97, 116]⟩, ⟨#[114, 101, 97, 100, 100, 105, 114]⟩, ⟨#[102, 115, 121, 110, 99]⟩, ⟨#[102, 100, 97, 116, 97, 115, 121, 110, 99]⟩, ⟨#[115, 121, 110, 99]⟩, ⟨#[116, 105, 99, 107]⟩, ⟨#[100, 114, 111, 112]⟩]
def G (w : World) : Prop :=
  (∃ t fr, w.heap[0]? = some (.cells (wordsB.map Value.string).toArray t fr)) ∧ Lib.TabIs Tryd.prog w "internal/strconv.uint64pow10" .u64 Lib.pow10Tab ∧
  (∃ m, w.cell? ⟨1, 0, none⟩ = some (.int .i64 m)) ∧ (∃ te pe, w.cell? ⟨2, 0, none⟩ = some (.iface te pe)) ∧ (∃ te pe, w.cell? ⟨3, 0, none⟩ = some (.iface te pe))
theorem cell_keep {w w' : World} (hb : Below w.heap.size w w') {a : Addr} {v : Value} (h : w.cell? a = some v) : w'.cell? a = some v := (hb.cell (World.block_lt_of_cell? _ _ h)).trans h
theorem var_keep {w w' : World} (hb : Below w.heap.size w w') {n : String} {cs : Array Value} (h : w.var? Tryd.prog n = some cs) : w'.var? Tryd.prog n = some cs := by
  unfold World.var? at h ⊢
  cases hg : Tryd.prog.globalNamed n with
  | none => simp [hg] at h
  | some g =>
    simp only [hg, Option.bind_some] at h ⊢
    have hlt : g < w.heap.size := by
      rcases Nat.lt_or_ge g w.heap.size with h' | h'
      · exact h'
      · simp [Array.getElem?_eq_none h'] at h
    rw [hb.block g hlt]
    exact h
theorem G_below {w w' : World} (hG : G w) (hb : Below w.heap.size w w') : G w' := by
  obtain ⟨⟨t, fr, h1⟩, h2, ⟨m, h3⟩, ⟨te, pe, h4⟩, ⟨te', pe', h5⟩⟩ := hG
  exact ⟨⟨t, fr, (hb.block 0 (blk_lt h1)).trans h1⟩, var_keep hb h2, ⟨m, cell_keep hb h3⟩, ⟨te, pe, cell_keep hb h4⟩, ⟨te', pe', cell_keep hb h5⟩⟩

/-! strconv.Itoa -/
def okI (n : Int) : Prop := -9223372036854775808 ≤ n ∧ n ≤ 9223372036854775807
instance (n : Int) : Decidable (okI n) := by unfold okI; infer_instance
def itoaB (n : Int) : ByteArray := ⟨(Lib.itoa n).toArray⟩
theorem itoaB_size (n : Int) (h : okI n) : (itoaB n).size ≤ 21 := Lib.itoa_length_le n h.1 h.2
theorem below_grow {w W : World} (h : Below w.heap.size w W) (os : Array Obj) : Below w.heap.size w (Sort.grow W os) :=
  below_step h ⟨rfl, rfl, rfl, by rw [Sort.size_grow]; omega, fun k hk => Sort.heap_grow_old W os hk⟩
theorem itoa_c (n : Int) (w : World) (hn : okI n) (hG : G w) : Calls Tryd.prog 24 #[.int .i64 n] w fun e w' => e = .returned (.string (itoaB n)) ∧ Below w.heap.size w w' := by
  refine (Tryd.strconv_Itoa n hn.1 hn.2 w hG.2.1).mono ?_
  rintro e w' ⟨rfl, k, os, rfl⟩
  exact ⟨rfl, below_grow (pw_below_drewN (Below.refl _ _) k) os⟩
theorem G_word {w : World} (hG : G w) (i : Nat) (hi : i < 24) : w.cell? ⟨0, i, none⟩ = some (.string (wordsB.getD i ⟨#[]⟩)) := by
  obtain ⟨t, fr, h⟩ := hG.1
  have hl : i < wordsB.length := hi
  simp [World.cell?, h, List.getD_eq_getElem?_getD, List.getElem?_eq_getElem hl]

/-! spell.Say -/
def fieldB (key v : ByteArray) : ByteArray := ((⟨#[32]⟩ ++ key) ++ ⟨#[61]⟩) ++ v
def sayNums : List (ByteArray × Int) → ByteArray → ByteArray
  | [], line => line
  | (key, n) :: r, line => sayNums r (if n = 0 then line else line ++ fieldB key (itoaB n))
def sayTexts : List (ByteArray × ByteArray) → ByteArray → ByteArray
  | [], line => line
  | (key, s) :: r, line => sayTexts r (if s.toList = [] then line else line ++ fieldB key (toldB s))
def keysI : List ByteArray := [⟨#[102, 100]⟩, ⟨#[110]⟩, ⟨#[111, 102, 102]⟩, ⟨#[102, 108, 97, 103, 115]⟩]
def keysS : List ByteArray := [⟨#[112, 97, 116, 104]⟩, ⟨#[116, 111]⟩, ⟨#[100, 97, 116, 97]⟩]
def sayB (kind fd n off fl : Int) (p t : ByteArray) (l : List Int) : ByteArray :=
  if kind < 1 ∨ 24 ≤ kind then ⟨#[]⟩ else sayTexts (keysS.zip [p, t, strOfNums l]) (sayNums (keysI.zip [fd, n, off, fl]) (wordsB.getD kind.toNat ⟨#[]⟩))
def spell_Say.f (kind fd n off fl : Int) (p t : ByteArray) (l : List Int) : Option ByteArray :=
  if (okI fd ∧ okI n ∧ okI off ∧ okI fl) ∧ p.size ≤ 1000000 ∧ t.size ≤ 1000000 ∧ l.length ≤ 1000000 then some (sayB kind fd n off fl p t l) else none

theorem one_last (W : World) (o : Obj) : (W.alloc o).heap[W.heap.size]? = some o := by simp [World.alloc, -World.alloc_eq]
theorem two_first (W : World) (o1 o2 : Obj) : ((W.alloc o1).alloc o2).heap[W.heap.size]? = some o1 := ((below_alloc (Below.refl _ _) o2).block _ (by simp [World.alloc, -World.alloc_eq])).trans (one_last W o1)
theorem two_last (W : World) (o1 o2 : Obj) : ((W.alloc o1).alloc o2).heap[W.heap.size + 1]? = some o2 := by have := one_last (W.alloc o1) o2; rw [show (W.alloc o1).heap.size = W.heap.size + 1 by simp [World.alloc, -World.alloc_eq]] at this; exact this
theorem fieldB_size (key v : ByteArray) : (fieldB key v).size = key.size + v.size + 2 := by
  unfold fieldB
  simp only [ByteArray.size_append]
  have h1 : (⟨#[32]⟩ : ByteArray).size = 1 := rfl
  have h2 : (⟨#[61]⟩ : ByteArray).size = 1 := rfl
  omega
theorem toldB_size (s : ByteArray) : (toldB s).size = 2 * s.size := by unfold toldB; rw [strOfNums_size, toldI_length, bytesOf_length]
theorem words_size (i : Nat) : (wordsB.getD i ⟨#[]⟩).size ≤ 9 := by
  have h : ∀ x ∈ wordsB, x.size ≤ 9 := by decide +kernel
  by_cases hi : i < wordsB.length
  · rw [List.getD_eq_getElem?_getD, List.getElem?_eq_getElem hi]; exact h _ (List.getElem_mem hi)
  · rw [List.getD_eq_getElem?_getD, List.getElem?_eq_none (by omega)]; decide
set_option maxHeartbeats 8000000 in
set_option maxRecDepth 100000 in
theorem spell_Say.calls (a0_0 a0_1 a0_2 a0_3 a0_4 : Int) (a0_5 a0_6 : ByteArray) (A0_7 : Option Addr) (c0_7 : Nat) (l0_7 : List Int) (r : ByteArray) (w : World) (hG : G w) (hr0_7 : Kd.C (Kd.int .u8) w A0_7 l0_7.length l0_7) (hc0_7 : l0_7.length ≤ c0_7) (h : spell_Say.f a0_0 a0_1 a0_2 a0_3 a0_4 a0_5 a0_6 l0_7 = some r) :
    Calls Tryd.prog 10 #[.agg #[.int .i64 a0_0, .int .i64 a0_1, .int .i64 a0_2, .int .i64 a0_3, .int .i64 a0_4, .string a0_5, .string a0_6, .slice A0_7 l0_7.length c0_7]] w fun e w' => e = .returned (.string r) ∧ Below w.heap.size w w' := by
  unfold spell_Say.f at h
  split at h
  case isFalse => cases h
  case isTrue hs =>
  replace h := Option.some.inj h
  have hu24 := Tryd.underlying24
  unfold sayB at h
  by_cases hk1 : a0_0 < 1
  · rw [if_pos (.inl hk1)] at h
    subst h
    have hk1b : decide (a0_0 < 1) = true := decide_eq_true hk1
    go_enter Tryd.func10, Tryd.ntmps10
    go_wp2
    go_ret
    exact ⟨rfl, below_alloc (Below.refl _ _) _⟩
  by_cases hk2 : 24 ≤ a0_0
  · rw [if_pos (.inr hk2)] at h
    subst h
    have hk1b : decide (a0_0 < 1) = false := decide_eq_false hk1
    have hk2b : decide (a0_0 ≥ 24) = true := decide_eq_true hk2
    go_enter Tryd.func10, Tryd.ntmps10
    go_wp2
    go_ret
    exact ⟨rfl, below_alloc (Below.refl _ _) _⟩
  rw [if_neg (by omega)] at h
  have hk1b : decide (a0_0 < 1) = false := decide_eq_false hk1
  have hk2b : decide (a0_0 ≥ 24) = false := decide_eq_false hk2
  have hgw := G_word (G_below hG (below_alloc (Below.refl _ _) (.cells #[.int .i64 a0_0, .int .i64 a0_1, .int .i64 a0_2, .int .i64 a0_3, .int .i64 a0_4, .string a0_5, .string a0_6, .slice A0_7 l0_7.length c0_7] 24))) a0_0.toNat (by omega)
  have hw0 : wordsB.getD a0_0.toNat ⟨#[]⟩ = wordsB.getD a0_0.toNat ⟨#[]⟩ := rfl
  have hk3 : 0 ≤ a0_0 := by omega
  have hk4 : a0_0 < 24 := by omega
  clear hw0
  generalize hwd : wordsB.getD a0_0.toNat ⟨#[]⟩ = wd at *
  have HWD := Aside0.mk hwd; clear hwd
  have H := Aside0.mk h; clear h
  go_enter Tryd.func10, Tryd.ntmps10
  go_wp2
  have HB0 := Aside0.mk (below_alloc (below_alloc (Below.refl w.heap.size w) (.cells #[.int .i64 a0_0, .int .i64 a0_1, .int .i64 a0_2, .int .i64 a0_3, .int .i64 a0_4, .string a0_5, .string a0_6, .slice A0_7 l0_7.length c0_7] 24)) (.cells #[.int .i64 a0_1, .int .i64 a0_2, .int .i64 a0_3, .int .i64 a0_4] 3))
  have hbx : ((w.alloc (.cells #[.int .i64 a0_0, .int .i64 a0_1, .int .i64 a0_2, .int .i64 a0_3, .int .i64 a0_4, .string a0_5, .string a0_6, .slice A0_7 l0_7.length c0_7] 24)).alloc (.cells #[.int .i64 a0_1, .int .i64 a0_2, .int .i64 a0_3, .int .i64 a0_4] 3)).heap[w.heap.size]? = some (.cells #[.int .i64 a0_0, .int .i64 a0_1, .int .i64 a0_2, .int .i64 a0_3, .int .i64 a0_4, .string a0_5, .string a0_6, .slice A0_7 l0_7.length c0_7] 24 (0, 0)) := two_first _ _ _
  have hns : ((w.alloc (.cells #[.int .i64 a0_0, .int .i64 a0_1, .int .i64 a0_2, .int .i64 a0_3, .int .i64 a0_4, .string a0_5, .string a0_6, .slice A0_7 l0_7.length c0_7] 24)).alloc (.cells #[.int .i64 a0_1, .int .i64 a0_2, .int .i64 a0_3, .int .i64 a0_4] 3)).heap[w.heap.size + 1]? = some (.cells #[.int .i64 a0_1, .int .i64 a0_2, .int .i64 a0_3, .int .i64 a0_4] 3 (0, 0)) := two_last _ _ _
  generalize (w.alloc (.cells #[.int .i64 a0_0, .int .i64 a0_1, .int .i64 a0_2, .int .i64 a0_3, .int .i64 a0_4, .string a0_5, .string a0_6, .slice A0_7 l0_7.length c0_7] 24)).alloc (.cells #[.int .i64 a0_1, .int .i64 a0_2, .int .i64 a0_3, .int .i64 a0_4] 3) = Wn at *
  have HBX := Aside0.mk hbx; clear hbx
  have HNS := Aside0.mk hns; clear hns
  have hwz : wd.size ≤ 9 := by rw [← HWD.out]; exact words_size _
  have HGw := Aside0.mk hG
  have HC7 := Aside0.mk hr0_7
  clear hG hr0_7 hgw
  go_loopg [3, 30] 4 (fun g v3 v30 wx => ∃ (k : Nat) (line : ByteArray), k + g = 4 ∧ v30 = .int .i64 k ∧ v3 = .string line ∧ line.size ≤ 9 + 40 * k ∧ Aside0 (sayTexts (keysS.zip [a0_5, a0_6, strOfNums l0_7]) (sayNums ((keysI.zip [a0_1, a0_2, a0_3, a0_4]).drop k) line) = r) ∧ Aside0 (Below Wn.heap.size Wn wx))
  case atStart => exact ⟨0, wd, rfl, rfl, rfl, by omega, ⟨H.out⟩, ⟨Below.refl _ _⟩⟩
  case round =>
    clear H
    obtain ⟨k, line, hk, rfl, rfl, hline, H, HB⟩ := hrel
    have hnsr := (HB.out.block _ (blk_lt HNS.out)).trans HNS.out
    have HGr := Aside0.mk (G_below HGw.out (below_step HB0.out HB.out))
    by_cases hlt : k < 4
    · obtain ⟨g, rfl⟩ : ∃ g, gk = g + 1 := ⟨gk - 1, by omega⟩
      obtain rfl | rfl | rfl | rfl : k = 0 ∨ k = 1 ∨ k = 2 ∨ k = 3 := by omega
      · have hc := blk_cell hnsr 0
        have hc : wr.cell? ⟨w.heap.size + 1, 0, none⟩ = some (.int .i64 a0_1) := hc
        clear hnsr
        by_cases hn : a0_1 = 0
        · have hnb : (a0_1 != 0) = false := by rw [hn]; rfl
          have H2 : Aside0 (sayTexts (keysS.zip [a0_5, a0_6, strOfNums l0_7]) (sayNums ((keysI.zip [a0_1, a0_2, a0_3, a0_4]).drop 1) line) = r) := ⟨by rw [← H.out]; conv => rhs; rw [show (keysI.zip [a0_1, a0_2, a0_3, a0_4]).drop 0 = (⟨#[102, 100]⟩, a0_1) :: (keysI.zip [a0_1, a0_2, a0_3, a0_4]).drop 1 from rfl, sayNums, if_pos hn]⟩
          clear hn
          go_wp2
          go_roundg g
          case rel => exact ⟨1, line, by omega, by go_num, rfl, by omega, H2, HB⟩
          case measure => simp
        · have hnb : (a0_1 != 0) = true := bne_iff_ne.2 hn
          have H2 : Aside0 (sayTexts (keysS.zip [a0_5, a0_6, strOfNums l0_7]) (sayNums ((keysI.zip [a0_1, a0_2, a0_3, a0_4]).drop 1) (line ++ fieldB ⟨#[102, 100]⟩ (itoaB a0_1))) = r) := ⟨by rw [← H.out]; conv => rhs; rw [show (keysI.zip [a0_1, a0_2, a0_3, a0_4]).drop 0 = (⟨#[102, 100]⟩, a0_1) :: (keysI.zip [a0_1, a0_2, a0_3, a0_4]).drop 1 from rfl, sayNums, if_neg hn]⟩
          have hit := itoaB_size a0_1 hs.1.1
          clear hn
          have HBr := Aside0.mk (Below.refl wr.heap.size wr)
          have hz := fieldB_size ⟨#[102, 100]⟩ (itoaB a0_1)
          have hz2 : (⟨#[102, 100]⟩ : ByteArray).size ≤ 6 := by decide
          have HZ := Aside0.mk hz; clear hz
          go_wp2
          go_region_with (go_at_call 24; refine (itoa_c _ _ hs.1.1 (G_below HGr.out (by repeat (first | exact Below.refl _ _ | apply below_alloc | apply below_drew)))).mono ?_; rintro e w2 ⟨rfl, hb⟩; have hcb := fun b o (h : b < _) => hb.cell (p := ⟨b, o, none⟩) h; have HB2 := Aside0.mk (below_step (by repeat (first | exact HBr.out | apply below_alloc | apply below_drew)) hb); clear hb)
          all_goals
            go_wp2
            go_roundg g
            case rel => exact ⟨1, line ++ fieldB ⟨#[102, 100]⟩ (itoaB a0_1), by omega, by go_num, rfl, by rw [ByteArray.size_append, HZ.out]; omega, H2, ⟨by repeat (first | exact (below_step HB.out HB2.out) | apply below_alloc | apply below_drew)⟩⟩
            case measure => simp
      · have hc := blk_cell hnsr 1
        have hc : wr.cell? ⟨w.heap.size + 1, 1, none⟩ = some (.int .i64 a0_2) := hc
        clear hnsr
        by_cases hn : a0_2 = 0
        · have hnb : (a0_2 != 0) = false := by rw [hn]; rfl
          have H2 : Aside0 (sayTexts (keysS.zip [a0_5, a0_6, strOfNums l0_7]) (sayNums ((keysI.zip [a0_1, a0_2, a0_3, a0_4]).drop 2) line) = r) := ⟨by rw [← H.out]; conv => rhs; rw [show (keysI.zip [a0_1, a0_2, a0_3, a0_4]).drop 1 = (⟨#[110]⟩, a0_2) :: (keysI.zip [a0_1, a0_2, a0_3, a0_4]).drop 2 from rfl, sayNums, if_pos hn]⟩
          clear hn
          go_wp2
          go_roundg g
          case rel => exact ⟨2, line, by omega, by go_num, rfl, by omega, H2, HB⟩
          case measure => simp
        · have hnb : (a0_2 != 0) = true := bne_iff_ne.2 hn
          have H2 : Aside0 (sayTexts (keysS.zip [a0_5, a0_6, strOfNums l0_7]) (sayNums ((keysI.zip [a0_1, a0_2, a0_3, a0_4]).drop 2) (line ++ fieldB ⟨#[110]⟩ (itoaB a0_2))) = r) := ⟨by rw [← H.out]; conv => rhs; rw [show (keysI.zip [a0_1, a0_2, a0_3, a0_4]).drop 1 = (⟨#[110]⟩, a0_2) :: (keysI.zip [a0_1, a0_2, a0_3, a0_4]).drop 2 from rfl, sayNums, if_neg hn]⟩
          have hit := itoaB_size a0_2 hs.1.2.1
          clear hn
          have HBr := Aside0.mk (Below.refl wr.heap.size wr)
          have hz := fieldB_size ⟨#[110]⟩ (itoaB a0_2)
          have hz2 : (⟨#[110]⟩ : ByteArray).size ≤ 6 := by decide
          have HZ := Aside0.mk hz; clear hz
          go_wp2
          go_region_with (go_at_call 24; refine (itoa_c _ _ hs.1.2.1 (G_below HGr.out (by repeat (first | exact Below.refl _ _ | apply below_alloc | apply below_drew)))).mono ?_; rintro e w2 ⟨rfl, hb⟩; have hcb := fun b o (h : b < _) => hb.cell (p := ⟨b, o, none⟩) h; have HB2 := Aside0.mk (below_step (by repeat (first | exact HBr.out | apply below_alloc | apply below_drew)) hb); clear hb)
          all_goals
            go_wp2
            go_roundg g
            case rel => exact ⟨2, line ++ fieldB ⟨#[110]⟩ (itoaB a0_2), by omega, by go_num, rfl, by rw [ByteArray.size_append, HZ.out]; omega, H2, ⟨by repeat (first | exact (below_step HB.out HB2.out) | apply below_alloc | apply below_drew)⟩⟩
            case measure => simp
      · have hc := blk_cell hnsr 2
        have hc : wr.cell? ⟨w.heap.size + 1, 2, none⟩ = some (.int .i64 a0_3) := hc
        clear hnsr
        by_cases hn : a0_3 = 0
        · have hnb : (a0_3 != 0) = false := by rw [hn]; rfl
          have H2 : Aside0 (sayTexts (keysS.zip [a0_5, a0_6, strOfNums l0_7]) (sayNums ((keysI.zip [a0_1, a0_2, a0_3, a0_4]).drop 3) line) = r) := ⟨by rw [← H.out]; conv => rhs; rw [show (keysI.zip [a0_1, a0_2, a0_3, a0_4]).drop 2 = (⟨#[111, 102, 102]⟩, a0_3) :: (keysI.zip [a0_1, a0_2, a0_3, a0_4]).drop 3 from rfl, sayNums, if_pos hn]⟩
          clear hn
          go_wp2
          go_roundg g
          case rel => exact ⟨3, line, by omega, by go_num, rfl, by omega, H2, HB⟩
          case measure => simp
        · have hnb : (a0_3 != 0) = true := bne_iff_ne.2 hn
          have H2 : Aside0 (sayTexts (keysS.zip [a0_5, a0_6, strOfNums l0_7]) (sayNums ((keysI.zip [a0_1, a0_2, a0_3, a0_4]).drop 3) (line ++ fieldB ⟨#[111, 102, 102]⟩ (itoaB a0_3))) = r) := ⟨by rw [← H.out]; conv => rhs; rw [show (keysI.zip [a0_1, a0_2, a0_3, a0_4]).drop 2 = (⟨#[111, 102, 102]⟩, a0_3) :: (keysI.zip [a0_1, a0_2, a0_3, a0_4]).drop 3 from rfl, sayNums, if_neg hn]⟩
          have hit := itoaB_size a0_3 hs.1.2.2.1
          clear hn
          have HBr := Aside0.mk (Below.refl wr.heap.size wr)
          have hz := fieldB_size ⟨#[111, 102, 102]⟩ (itoaB a0_3)
          have hz2 : (⟨#[111, 102, 102]⟩ : ByteArray).size ≤ 6 := by decide
          have HZ := Aside0.mk hz; clear hz
          go_wp2
          go_region_with (go_at_call 24; refine (itoa_c _ _ hs.1.2.2.1 (G_below HGr.out (by repeat (first | exact Below.refl _ _ | apply below_alloc | apply below_drew)))).mono ?_; rintro e w2 ⟨rfl, hb⟩; have hcb := fun b o (h : b < _) => hb.cell (p := ⟨b, o, none⟩) h; have HB2 := Aside0.mk (below_step (by repeat (first | exact HBr.out | apply below_alloc | apply below_drew)) hb); clear hb)
          all_goals
            go_wp2
            go_roundg g
            case rel => exact ⟨3, line ++ fieldB ⟨#[111, 102, 102]⟩ (itoaB a0_3), by omega, by go_num, rfl, by rw [ByteArray.size_append, HZ.out]; omega, H2, ⟨by repeat (first | exact (below_step HB.out HB2.out) | apply below_alloc | apply below_drew)⟩⟩
            case measure => simp
      · have hc := blk_cell hnsr 3
        have hc : wr.cell? ⟨w.heap.size + 1, 3, none⟩ = some (.int .i64 a0_4) := hc
        clear hnsr
        by_cases hn : a0_4 = 0
        · have hnb : (a0_4 != 0) = false := by rw [hn]; rfl
          have H2 : Aside0 (sayTexts (keysS.zip [a0_5, a0_6, strOfNums l0_7]) (sayNums ((keysI.zip [a0_1, a0_2, a0_3, a0_4]).drop 4) line) = r) := ⟨by rw [← H.out]; conv => rhs; rw [show (keysI.zip [a0_1, a0_2, a0_3, a0_4]).drop 3 = (⟨#[102, 108, 97, 103, 115]⟩, a0_4) :: (keysI.zip [a0_1, a0_2, a0_3, a0_4]).drop 4 from rfl, sayNums, if_pos hn]⟩
          clear hn
          go_wp2
          go_roundg g
          case rel => exact ⟨4, line, by omega, by go_num, rfl, by omega, H2, HB⟩
          case measure => simp
        · have hnb : (a0_4 != 0) = true := bne_iff_ne.2 hn
          have H2 : Aside0 (sayTexts (keysS.zip [a0_5, a0_6, strOfNums l0_7]) (sayNums ((keysI.zip [a0_1, a0_2, a0_3, a0_4]).drop 4) (line ++ fieldB ⟨#[102, 108, 97, 103, 115]⟩ (itoaB a0_4))) = r) := ⟨by rw [← H.out]; conv => rhs; rw [show (keysI.zip [a0_1, a0_2, a0_3, a0_4]).drop 3 = (⟨#[102, 108, 97, 103, 115]⟩, a0_4) :: (keysI.zip [a0_1, a0_2, a0_3, a0_4]).drop 4 from rfl, sayNums, if_neg hn]⟩
          have hit := itoaB_size a0_4 hs.1.2.2.2
          clear hn
          have HBr := Aside0.mk (Below.refl wr.heap.size wr)
          have hz := fieldB_size ⟨#[102, 108, 97, 103, 115]⟩ (itoaB a0_4)
          have hz2 : (⟨#[102, 108, 97, 103, 115]⟩ : ByteArray).size ≤ 6 := by decide
          have HZ := Aside0.mk hz; clear hz
          go_wp2
          go_region_with (go_at_call 24; refine (itoa_c _ _ hs.1.2.2.2 (G_below HGr.out (by repeat (first | exact Below.refl _ _ | apply below_alloc | apply below_drew)))).mono ?_; rintro e w2 ⟨rfl, hb⟩; have hcb := fun b o (h : b < _) => hb.cell (p := ⟨b, o, none⟩) h; have HB2 := Aside0.mk (below_step (by repeat (first | exact HBr.out | apply below_alloc | apply below_drew)) hb); clear hb)
          all_goals
            go_wp2
            go_roundg g
            case rel => exact ⟨4, line ++ fieldB ⟨#[102, 108, 97, 103, 115]⟩ (itoaB a0_4), by omega, by go_num, rfl, by rw [ByteArray.size_append, HZ.out]; omega, H2, ⟨by repeat (first | exact (below_step HB.out HB2.out) | apply below_alloc | apply below_drew)⟩⟩
            case measure => simp
    · obtain rfl : k = 4 := by omega
      clear hnsr
      have hbxr := (HB.out.block _ (blk_lt HBX.out)).trans HBX.out
      have hc5 : wr.cell? ⟨w.heap.size, 5, none⟩ = some (.string a0_5) := blk_cell hbxr 5
      have hc6 : wr.cell? ⟨w.heap.size, 6, none⟩ = some (.string a0_6) := blk_cell hbxr 6
      have hc7 : wr.cell? ⟨w.heap.size, 7, none⟩ = some (.slice A0_7 l0_7.length c0_7) := blk_cell hbxr 7
      clear hbxr
      have hcv := Kd.C_string (P := Tryd.prog) (src := 22) (dst := 9) (c := c0_7) Tryd.underlying22 Tryd.underlying5 Tryd.underlying9 (Kd.C_below HC7.out (below_step HB0.out HB.out))
      have q4 : ¬ (((4 : Nat) : Int) < 4) := by omega
      have hsz7 := strOfNums_size l0_7
      generalize hd7 : strOfNums l0_7 = d7 at *
      clear hd7
      have hds : d7.size ≤ 1000000 := by omega
      have H3 : Aside0 (sayTexts (keysS.zip [a0_5, a0_6, d7]) line = r) := ⟨H.out⟩
      clear H hsz7 hlt
      have HB1 := Aside0.mk (below_step HB0.out HB.out)
      clear HB HC7
      go_wp2
      clear hcv hc5 hc6 hc7
      have HB2 := Aside0.mk (below_alloc HB1.out (.cells #[.string a0_5, .string a0_6, .string d7] 9))
      have hns : (wr.alloc (.cells #[.string a0_5, .string a0_6, .string d7] 9)).heap[wr.heap.size]? = some (.cells #[.string a0_5, .string a0_6, .string d7] 9 (0, 0)) := one_last _ _
      clear HB1 HGr HNS HBX HB0
      generalize hW5 : wr.alloc (.cells #[.string a0_5, .string a0_6, .string d7] 9) = W5 at *
      clear hW5
      generalize wr.heap.size = gb at *
      have HNS := Aside0.mk hns; clear hns
      go_loopg [3, 58] 3 (fun g v3 v58 wx => ∃ (k : Nat) (line : ByteArray), k + g = 3 ∧ v58 = .int .i64 k ∧ v3 = .string line ∧ line.size ≤ 1000 + 3000000 * k ∧ Aside0 (sayTexts ((keysS.zip [a0_5, a0_6, d7]).drop k) line = r) ∧ Aside0 (Below W5.heap.size W5 wx))
      case atStart => exact ⟨0, line, rfl, rfl, rfl, by omega, H3, ⟨Below.refl _ _⟩⟩
      case round =>
        clear H3 hline
        obtain ⟨k, line, hk, rfl, rfl, hline, H, HB⟩ := hrel
        have hnsr := (HB.out.block _ (blk_lt HNS.out)).trans HNS.out
        by_cases hlt : k < 3
        · obtain ⟨g, rfl⟩ : ∃ g, gk = g + 1 := ⟨gk - 1, by omega⟩
          have HBr := Aside0.mk (Below.refl wr.heap.size wr)
          obtain rfl | rfl | rfl : k = 0 ∨ k = 1 ∨ k = 2 := by omega
          · have hc : wr.cell? ⟨gb, 0, none⟩ = some (.string a0_5) := blk_cell hnsr 0
            clear hnsr
            by_cases hn : a0_5.toList = []
            · have H2 : Aside0 (sayTexts ((keysS.zip [a0_5, a0_6, d7]).drop 1) line = r) := ⟨by rw [← H.out]; conv => rhs; rw [show (keysS.zip [a0_5, a0_6, d7]).drop 0 = (⟨#[112, 97, 116, 104]⟩, a0_5) :: (keysS.zip [a0_5, a0_6, d7]).drop 1 from rfl, sayTexts, if_pos hn]⟩
              have b1 : (a0_5.toList == ([] : List UInt8)) = true := beq_iff_eq.2 hn
              have b1e : a0_5.toList.isEmpty = true := by rw [hn]; rfl
              clear hn
              go_wp2
              go_roundg g
              case rel => exact ⟨1, line, by omega, by go_num, rfl, by omega, H2, HB⟩
              case measure => simp
            · have H2 : Aside0 (sayTexts ((keysS.zip [a0_5, a0_6, d7]).drop 1) (line ++ fieldB ⟨#[112, 97, 116, 104]⟩ (toldB a0_5)) = r) := ⟨by rw [← H.out]; conv => rhs; rw [show (keysS.zip [a0_5, a0_6, d7]).drop 0 = (⟨#[112, 97, 116, 104]⟩, a0_5) :: (keysS.zip [a0_5, a0_6, d7]).drop 1 from rfl, sayTexts, if_neg hn]⟩
              have b1 : (a0_5.toList == ([] : List UInt8)) = false := beq_eq_false_iff_ne.2 hn
              have b1e : a0_5.toList.isEmpty = false := by cases h : a0_5.toList.isEmpty with | false => rfl | true => exact absurd (List.isEmpty_iff.1 h) hn
              have hsz : a0_5.size ≤ 1000000 := hs.2.1
              have hit : (toldB a0_5).size = 2 * a0_5.size := toldB_size a0_5
              have hit2 : (toldB a0_5).size ≤ 2000000 := by omega
              have HZ := Aside0.mk (fieldB_size ⟨#[112, 97, 116, 104]⟩ (toldB a0_5))
              have hz2 : (⟨#[112, 97, 116, 104]⟩ : ByteArray).size ≤ 6 := by decide
              clear hn hit
              go_wp2
              go_region_with (go_at_call 25; refine (told_c _ _ (by omega)).mono ?_; rintro e w2 ⟨rfl, hb⟩; have hcb := fun b o (h : b < _) => hb.cell (p := ⟨b, o, none⟩) h; have HB2 := Aside0.mk (below_step (by repeat (first | exact HBr.out | apply below_alloc | apply below_drew)) hb); clear hb)
              all_goals
                go_wp2
                go_roundg g
                case rel => exact ⟨1, line ++ fieldB ⟨#[112, 97, 116, 104]⟩ (toldB a0_5), by omega, by go_num, rfl, by rw [ByteArray.size_append, HZ.out]; omega, H2, ⟨by repeat (first | exact (below_step HB.out HB2.out) | apply below_alloc | apply below_drew)⟩⟩
                case measure => simp
          · have hc : wr.cell? ⟨gb, 1, none⟩ = some (.string a0_6) := blk_cell hnsr 1
            clear hnsr
            by_cases hn : a0_6.toList = []
            · have H2 : Aside0 (sayTexts ((keysS.zip [a0_5, a0_6, d7]).drop 2) line = r) := ⟨by rw [← H.out]; conv => rhs; rw [show (keysS.zip [a0_5, a0_6, d7]).drop 1 = (⟨#[116, 111]⟩, a0_6) :: (keysS.zip [a0_5, a0_6, d7]).drop 2 from rfl, sayTexts, if_pos hn]⟩
              have b1 : (a0_6.toList == ([] : List UInt8)) = true := beq_iff_eq.2 hn
              have b1e : a0_6.toList.isEmpty = true := by rw [hn]; rfl
              clear hn
              go_wp2
              go_roundg g
              case rel => exact ⟨2, line, by omega, by go_num, rfl, by omega, H2, HB⟩
              case measure => simp
            · have H2 : Aside0 (sayTexts ((keysS.zip [a0_5, a0_6, d7]).drop 2) (line ++ fieldB ⟨#[116, 111]⟩ (toldB a0_6)) = r) := ⟨by rw [← H.out]; conv => rhs; rw [show (keysS.zip [a0_5, a0_6, d7]).drop 1 = (⟨#[116, 111]⟩, a0_6) :: (keysS.zip [a0_5, a0_6, d7]).drop 2 from rfl, sayTexts, if_neg hn]⟩
              have b1 : (a0_6.toList == ([] : List UInt8)) = false := beq_eq_false_iff_ne.2 hn
              have b1e : a0_6.toList.isEmpty = false := by cases h : a0_6.toList.isEmpty with | false => rfl | true => exact absurd (List.isEmpty_iff.1 h) hn
              have hsz : a0_6.size ≤ 1000000 := hs.2.2.1
              have hit : (toldB a0_6).size = 2 * a0_6.size := toldB_size a0_6
              have hit2 : (toldB a0_6).size ≤ 2000000 := by omega
              have HZ := Aside0.mk (fieldB_size ⟨#[116, 111]⟩ (toldB a0_6))
              have hz2 : (⟨#[116, 111]⟩ : ByteArray).size ≤ 6 := by decide
              clear hn hit
              go_wp2
              go_region_with (go_at_call 25; refine (told_c _ _ (by omega)).mono ?_; rintro e w2 ⟨rfl, hb⟩; have hcb := fun b o (h : b < _) => hb.cell (p := ⟨b, o, none⟩) h; have HB2 := Aside0.mk (below_step (by repeat (first | exact HBr.out | apply below_alloc | apply below_drew)) hb); clear hb)
              all_goals
                go_wp2
                go_roundg g
                case rel => exact ⟨2, line ++ fieldB ⟨#[116, 111]⟩ (toldB a0_6), by omega, by go_num, rfl, by rw [ByteArray.size_append, HZ.out]; omega, H2, ⟨by repeat (first | exact (below_step HB.out HB2.out) | apply below_alloc | apply below_drew)⟩⟩
                case measure => simp
          · have hc : wr.cell? ⟨gb, 2, none⟩ = some (.string d7) := blk_cell hnsr 2
            clear hnsr
            by_cases hn : d7.toList = []
            · have H2 : Aside0 (sayTexts ((keysS.zip [a0_5, a0_6, d7]).drop 3) line = r) := ⟨by rw [← H.out]; conv => rhs; rw [show (keysS.zip [a0_5, a0_6, d7]).drop 2 = (⟨#[100, 97, 116, 97]⟩, d7) :: (keysS.zip [a0_5, a0_6, d7]).drop 3 from rfl, sayTexts, if_pos hn]⟩
              have b1 : (d7.toList == ([] : List UInt8)) = true := beq_iff_eq.2 hn
              have b1e : d7.toList.isEmpty = true := by rw [hn]; rfl
              clear hn
              go_wp2
              go_roundg g
              case rel => exact ⟨3, line, by omega, by go_num, rfl, by omega, H2, HB⟩
              case measure => simp
            · have H2 : Aside0 (sayTexts ((keysS.zip [a0_5, a0_6, d7]).drop 3) (line ++ fieldB ⟨#[100, 97, 116, 97]⟩ (toldB d7)) = r) := ⟨by rw [← H.out]; conv => rhs; rw [show (keysS.zip [a0_5, a0_6, d7]).drop 2 = (⟨#[100, 97, 116, 97]⟩, d7) :: (keysS.zip [a0_5, a0_6, d7]).drop 3 from rfl, sayTexts, if_neg hn]⟩
              have b1 : (d7.toList == ([] : List UInt8)) = false := beq_eq_false_iff_ne.2 hn
              have b1e : d7.toList.isEmpty = false := by cases h : d7.toList.isEmpty with | false => rfl | true => exact absurd (List.isEmpty_iff.1 h) hn
              have hsz : d7.size ≤ 1000000 := hds
              have hit : (toldB d7).size = 2 * d7.size := toldB_size d7
              have hit2 : (toldB d7).size ≤ 2000000 := by omega
              have HZ := Aside0.mk (fieldB_size ⟨#[100, 97, 116, 97]⟩ (toldB d7))
              have hz2 : (⟨#[100, 97, 116, 97]⟩ : ByteArray).size ≤ 6 := by decide
              clear hn hit
              go_wp2
              go_region_with (go_at_call 25; refine (told_c _ _ (by omega)).mono ?_; rintro e w2 ⟨rfl, hb⟩; have hcb := fun b o (h : b < _) => hb.cell (p := ⟨b, o, none⟩) h; have HB2 := Aside0.mk (below_step (by repeat (first | exact HBr.out | apply below_alloc | apply below_drew)) hb); clear hb)
              all_goals
                go_wp2
                go_roundg g
                case rel => exact ⟨3, line ++ fieldB ⟨#[100, 97, 116, 97]⟩ (toldB d7), by omega, by go_num, rfl, by rw [ByteArray.size_append, HZ.out]; omega, H2, ⟨by repeat (first | exact (below_step HB.out HB2.out) | apply below_alloc | apply below_drew)⟩⟩
                case measure => simp
        · obtain rfl : k = 3 := by omega
          have q4 : ¬ (((3 : Nat) : Int) < 3) := by omega
          have hr : line = r := H.out
          subst hr
          clear hnsr
          go_wp2
          go_ret
          exact ⟨rfl, below_step HB2.out HB.out⟩
end Go.Proofs.YtibjgmhhecbhbaaDoor.Hand
