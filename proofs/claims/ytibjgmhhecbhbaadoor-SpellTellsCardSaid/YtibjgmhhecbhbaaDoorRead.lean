/- What Read answers, for every text. -/
import Derived.Test.YtibjgmhhecbhbaaDoorReadOf
namespace Go.Proofs.YtibjgmhhecbhbaaDoor.Hand
open Go.RowKit Go.Proofs.YtibjgmhhecbhbaaDoorW.PrintWords Go.Proofs.YtibjgmhhecbhbaaDoorW.PrintLast Go.Proofs.YtibjgmhhecbhbaaDoorW.PrintMore
set_option linter.unusedVariables false
set_option linter.unusedSimpArgs false
theorem three_1 (W : World) (o1 o2 o3 : Obj) : (((W.alloc o1).alloc o2).alloc o3).heap[W.heap.size]? = some o1 := ((below_alloc (Below.refl _ _) o3).block _ (by simp [World.alloc, -World.alloc_eq]; omega)).trans (two_first W o1 o2)
theorem three_2 (W : World) (o1 o2 o3 : Obj) : (((W.alloc o1).alloc o2).alloc o3).heap[W.heap.size + 1]? = some o2 := ((below_alloc (Below.refl _ _) o3).block _ (by simp [World.alloc, -World.alloc_eq])).trans (two_last W o1 o2)
theorem three_3 (W : World) (o1 o2 o3 : Obj) : (((W.alloc o1).alloc o2).alloc o3).heap[W.heap.size + 1 + 1]? = some o3 := by have := two_last (W.alloc o1) o2 o3; rw [show (W.alloc o1).heap.size = W.heap.size + 1 by simp [World.alloc, -World.alloc_eq]] at this; exact this
theorem splitB_le (sep : ByteArray) (save : Nat) : ∀ (k : Nat) (s : ByteArray), ∀ x ∈ Lib.splitB sep save k s, x.size ≤ s.size
  | 0, s, x, hx => by simp [Lib.splitB] at hx; subst hx; exact Nat.le_refl _
  | k + 1, s, x, hx => by
    unfold Lib.splitB at hx
    split at hx
    · simp at hx; subst hx; exact Nat.le_refl _
    · rcases List.mem_cons.1 hx with rfl | hx
      · rw [ByteArray.size_extract]; omega
      · have := splitB_le sep save k _ x hx
        rw [ByteArray.size_extract] at this; omega
theorem idx_word (W : World) : ∀ (k : Nat), k < 24 → (Instr.index 39 (.agg (wordsB.map Value.string).toArray) (.int .i64 (k : Int))).run Tryd.prog W = .ok (.string (wordsB.getD k ⟨#[]⟩)) W
  | 0, _ => by kernel_rfl
  | 1, _ => by kernel_rfl
  | 2, _ => by kernel_rfl
  | 3, _ => by kernel_rfl
  | 4, _ => by kernel_rfl
  | 5, _ => by kernel_rfl
  | 6, _ => by kernel_rfl
  | 7, _ => by kernel_rfl
  | 8, _ => by kernel_rfl
  | 9, _ => by kernel_rfl
  | 10, _ => by kernel_rfl
  | 11, _ => by kernel_rfl
  | 12, _ => by kernel_rfl
  | 13, _ => by kernel_rfl
  | 14, _ => by kernel_rfl
  | 15, _ => by kernel_rfl
  | 16, _ => by kernel_rfl
  | 17, _ => by kernel_rfl
  | 18, _ => by kernel_rfl
  | 19, _ => by kernel_rfl
  | 20, _ => by kernel_rfl
  | 21, _ => by kernel_rfl
  | 22, _ => by kernel_rfl
  | 23, _ => by kernel_rfl
  | k + 24, h => by omega
theorem pieces_le (s : ByteArray) : ∀ x ∈ piecesOf s, x.size ≤ s.size := splitB_le _ _ _ _
theorem info39 : (Tryd.prog.info? 39).map (·.size) = some 24 := by kernel_rfl
structure OkOp (o : ROp) (m : Nat) : Prop where
  fd : okI o.fd
  n : okI o.n
  off : okI o.off
  fl : okI o.fl
  p : o.p.size ≤ m
  t : o.t.size ≤ m
  d : o.d.length ≤ m
theorem put8 {w : World} {g t : Nat} {d0 d1 d2 d3 d4 d5 d6 d7 : Value} (c0 c1 c2 c3 c4 c5 c6 c7 : Value) (h : w.heap[g]? = some (.cells #[d0, d1, d2, d3, d4, d5, d6, d7] t (0, 0))) :
    ((((((((w.setCell ⟨g, 0, none⟩ c0).setCell ⟨g, 1, none⟩ c1).setCell ⟨g, 2, none⟩ c2).setCell ⟨g, 3, none⟩ c3).setCell ⟨g, 4, none⟩ c4).setCell ⟨g, 5, none⟩ c5).setCell ⟨g, 6, none⟩ c6).setCell ⟨g, 7, none⟩ c7).heap[g]? = some (.cells #[c0, c1, c2, c3, c4, c5, c6, c7] t (0, 0)) :=
by
  have h0 := blk_put (cs' := #[c0, d1, d2, d3, d4, d5, d6, d7]) h 0 c0 rfl
  have h1 := blk_put (cs' := #[c0, c1, d2, d3, d4, d5, d6, d7]) h0 1 c1 rfl
  have h2 := blk_put (cs' := #[c0, c1, c2, d3, d4, d5, d6, d7]) h1 2 c2 rfl
  have h3 := blk_put (cs' := #[c0, c1, c2, c3, d4, d5, d6, d7]) h2 3 c3 rfl
  have h4 := blk_put (cs' := #[c0, c1, c2, c3, c4, d5, d6, d7]) h3 4 c4 rfl
  have h5 := blk_put (cs' := #[c0, c1, c2, c3, c4, c5, d6, d7]) h4 5 c5 rfl
  have h6 := blk_put (cs' := #[c0, c1, c2, c3, c4, c5, c6, d7]) h5 6 c6 rfl
  exact blk_put (cs' := #[c0, c1, c2, c3, c4, c5, c6, c7]) h6 7 c7 rfl
theorem below8 {w W : World} {g : Nat} (c0 c1 c2 c3 c4 c5 c6 c7 : Value) (h : Below w.heap.size w W) (hg : w.heap.size ≤ g) :
    Below w.heap.size w ((((((((W.setCell ⟨g, 0, none⟩ c0).setCell ⟨g, 1, none⟩ c1).setCell ⟨g, 2, none⟩ c2).setCell ⟨g, 3, none⟩ c3).setCell ⟨g, 4, none⟩ c4).setCell ⟨g, 5, none⟩ c5).setCell ⟨g, 6, none⟩ c6).setCell ⟨g, 7, none⟩ c7) :=
  below_set (below_set (below_set (below_set (below_set (below_set (below_set (below_set h hg) hg) hg) hg) hg) hg) hg) hg
theorem R8 {w W : World} {g : Nat} {v : Value} {xs : List Int} {ok : Nat → Prop} {cs : Array Value} (c0 c1 c2 c3 c4 c5 c6 c7 : Value) (h : Mk.R (Kd.int .u8) 5 W w.heap.size ok v xs) (hb : W.heap[g]? = some (.cells cs 24 (0, 0))) :
    Mk.R (Kd.int .u8) 5 ((((((((W.setCell ⟨g, 0, none⟩ c0).setCell ⟨g, 1, none⟩ c1).setCell ⟨g, 2, none⟩ c2).setCell ⟨g, 3, none⟩ c3).setCell ⟨g, 4, none⟩ c4).setCell ⟨g, 5, none⟩ c5).setCell ⟨g, 6, none⟩ c6).setCell ⟨g, 7, none⟩ c7) w.heap.size (fun _ => True) v xs := by
  have h0 := Mk.R_types h hb (by decide)
  have st : ∀ {W' : World} (j : Nat) (c : Value), Mk.R (Kd.int .u8) 5 W' w.heap.size (fun k => ok k ∧ k ≠ g) v xs → Mk.R (Kd.int .u8) 5 (W'.setCell ⟨g, j, none⟩ c) w.heap.size (fun k => ok k ∧ k ≠ g) v xs := fun j c h' => Mk.R_far (p := ⟨g, j, none⟩) h' (fun _ hk => hk.2) c
  exact Mk.R_mono (st 7 c7 (st 6 c6 (st 5 c5 (st 4 c4 (st 3 c3 (st 2 c2 (st 1 c1 (st 0 c0 h0)))))))) (fun _ _ => trivial)
theorem okI_zero : okI 0 := by unfold okI; omega
theorem atoi_any (v : ByteArray) (w : World) (hv : v.size ≤ 1000000) (hG : G w) : Calls Tryd.prog 18 #[.string v] w fun e w' => ∃ ev, e = .returned (.tuple #[.int .i64 (atoiV v), ev]) ∧ Below w.heap.size w w' := by
  cases h : atoiE v with
  | false => exact ((atoi_c v w hv hG).1 h).mono fun _ _ ⟨he, hb⟩ => ⟨_, he, hb⟩
  | true => exact ((atoi_c v w hv hG).2 h).mono fun _ _ ⟨N, he, hb⟩ => ⟨_, he, hb⟩
theorem heardB_size (v : ByteArray) : (heardB v).size ≤ v.size := by
  unfold heardB
  rw [strOfNums_size]
  have := heardI_length (bytesOf v)
  rw [bytesOf_length] at this
  omega
theorem cutV_le (p : ByteArray) : (cutV p).size ≤ p.size := by
  show (Lib.cut p.data.toList [61]).2.1.length ≤ p.data.toList.length
  unfold Lib.cut
  split
  · simp only [List.length_drop]; omega
  · simp
set_option maxHeartbeats 8000000 in
set_option maxRecDepth 100000 in
theorem spell_Read.calls (a0 : ByteArray) (r1 r2 r3 r4 r5 : Int) (r6 r7 : ByteArray) (r8 : List Int) (r9 : Int) (w : World) (hG : G w) (h : spell_Read.f a0 = some (r1, r2, r3, r4, r5, r6, r7, r8, r9)) :
    Calls Tryd.prog 8 #[.string a0] w fun e w' => ∃ v7_ : Value, e = .returned (.tuple #[.agg #[.int .i64 r1, .int .i64 r2, .int .i64 r3, .int .i64 r4, .int .i64 r5, .string r6, .string r7, v7_], .int .i64 r9]) ∧ Mk.R (Kd.int .u8) 5 w' w.heap.size (fun _ => True) v7_ r8 ∧ Below w.heap.size w w' := by
  unfold spell_Read.f at h
  split at h
  case isFalse => cases h
  case isTrue hs =>
  have H := Aside0.mk (Option.some.inj h); clear h
  have hu24 := Tryd.underlying24
  have HG := Aside0.mk hG
  obtain ⟨m, hm⟩ := hG.2.2.1
  have HB0 := Aside0.mk (below_alloc (Below.refl w.heap.size w) (.cells #[.int .i64 0, .int .i64 0, .int .i64 0, .int .i64 0, .int .i64 0, .string ⟨#[]⟩, .string ⟨#[]⟩, .slice none 0 0] 24))
  have hm2 := cell_keep HB0.out hm
  have cS := Tryd.strings_Split a0 ⟨#[32]⟩ m _ (by omega) hm2 (by decide)
  have hl := Lib.splitB_all ⟨#[32]⟩ (by decide) 0 _ a0 rfl
  have hc0 := Lib.countB_le ⟨#[32]⟩ (by decide) a0.size a0 (Nat.le_refl _)
  have hps : Lib.splitB ⟨#[32]⟩ 0 (Lib.countB a0 ⟨#[32]⟩) a0 = piecesOf a0 := rfl
  rw [hps] at cS hl
  obtain ⟨np, hn⟩ : ∃ n, Lib.countB a0 ⟨#[32]⟩ + 1 = n := ⟨_, rfl⟩
  rw [hn] at cS hl
  have hnp : np ≤ 100001 := by omega
  have hnp1 : 1 ≤ np := by omega
  clear hm hm2 hps hn hc0 HB0
  have hfl : ∀ x ∈ piecesOf a0, x.size ≤ a0.size := pieces_le a0
  have HF1 := Aside0.mk hfl; clear hfl
  unfold readB at H
  generalize piecesOf a0 = ps at *
  have HL := Aside0.mk hl; clear hl
  have HB1 := Aside0.mk (below_alloc (below_alloc (below_alloc (Below.refl w.heap.size w) (.cells #[.int .i64 0, .int .i64 0, .int .i64 0, .int .i64 0, .int .i64 0, .string ⟨#[]⟩, .string ⟨#[]⟩, .slice none 0 0] 24)) (.cells (ps.map Value.string).toArray 9)) (.cells #[.int .i64 0, .int .i64 0, .int .i64 0, .int .i64 0, .int .i64 0, .string ⟨#[]⟩, .string ⟨#[]⟩, .slice none 0 0] 24))
  have hb2 := three_1 w (.cells #[.int .i64 0, .int .i64 0, .int .i64 0, .int .i64 0, .int .i64 0, .string ⟨#[]⟩, .string ⟨#[]⟩, .slice none 0 0] 24) (.cells (ps.map Value.string).toArray 9) (.cells #[.int .i64 0, .int .i64 0, .int .i64 0, .int .i64 0, .int .i64 0, .string ⟨#[]⟩, .string ⟨#[]⟩, .slice none 0 0] 24)
  have hbp := three_2 w (.cells #[.int .i64 0, .int .i64 0, .int .i64 0, .int .i64 0, .int .i64 0, .string ⟨#[]⟩, .string ⟨#[]⟩, .slice none 0 0] 24) (.cells (ps.map Value.string).toArray 9) (.cells #[.int .i64 0, .int .i64 0, .int .i64 0, .int .i64 0, .int .i64 0, .string ⟨#[]⟩, .string ⟨#[]⟩, .slice none 0 0] 24)
  have hb5 := three_3 w (.cells #[.int .i64 0, .int .i64 0, .int .i64 0, .int .i64 0, .int .i64 0, .string ⟨#[]⟩, .string ⟨#[]⟩, .slice none 0 0] 24) (.cells (ps.map Value.string).toArray 9) (.cells #[.int .i64 0, .int .i64 0, .int .i64 0, .int .i64 0, .int .i64 0, .string ⟨#[]⟩, .string ⟨#[]⟩, .slice none 0 0] 24)
  have HBP := Aside0.mk hbp; clear hbp
  obtain ⟨tw, frw, hgw⟩ := (G_below hG HB1.out).1
  have HW := Aside0.mk hgw; clear hgw hG
  obtain ⟨WA, hWA⟩ : ∃ WA, WA = (wordsB.map Value.string).toArray := ⟨_, rfl⟩
  have HWs : Aside0 (some 24 = some WA.size) := ⟨by rw [hWA]; rfl⟩
  rw [← hWA] at HW
  have HWA := Aside0.mk hWA; clear hWA
  go_enter Tryd.func8, Tryd.ntmps8
  go_wp2
  go_step3
  go_wp2_with (first | (go_at_call 16; refine cS.mono ?_; rintro e w' ⟨rfl, rfl⟩) | ((with_reducible refine gate_dst (N := 18) rfl ?_); refine wpList_load_row rfl 39 (.global 0) rfl 0 rfl tw WA frw _ HW.out Tryd.underlying39 rfl ?hi ?_; (case hi => exact info39.trans HWs.out)))
  clear cS
  have HB2 := Aside0.mk hb2; clear hb2
  have HB5 := Aside0.mk hb5; clear hb5
  generalize ((w.alloc (.cells #[.int .i64 0, .int .i64 0, .int .i64 0, .int .i64 0, .int .i64 0, .string ⟨#[]⟩, .string ⟨#[]⟩, .slice none 0 0] 24)).alloc (.cells (ps.map Value.string).toArray 9)).alloc (.cells #[.int .i64 0, .int .i64 0, .int .i64 0, .int .i64 0, .int .i64 0, .string ⟨#[]⟩, .string ⟨#[]⟩, .slice none 0 0] 24) = W3 at *
  obtain ⟨pw, hpw⟩ : ∃ pw, pw = ps.headD ⟨#[]⟩ := ⟨_, rfl⟩
  rw [← hpw] at H
  have hpc : (ps.map Value.string).toArray[0]? = some (.string pw) := by
    rw [hpw]
    have := HL.out
    cases ps with
    | nil => simp at this; omega
    | cons x l => rfl
  have HPC := Aside0.mk hpc; clear hpc
  have HPW := Aside0.mk hpw; clear hpw
  obtain ⟨K0, hK0⟩ : ∃ K0, kindFrom wordsB 0 pw 0 = K0 := ⟨_, rfl⟩
  rw [hK0] at H
  have hne : w.heap.size ≠ w.heap.size + 1 + 1 := by omega
  have hne2 : w.heap.size + 1 ≠ w.heap.size + 1 + 1 := by omega
  have HNE := Aside0.mk hne; clear hne
  have HNE2 := Aside0.mk hne2; clear hne2
  go_loopg [19] 24 (fun g v19 wx => ∃ (k : Nat) (kd : Int), k + g = 24 ∧ v19 = .int .i64 k ∧ Aside0 (kindFrom (wordsB.drop k) k pw kd = K0) ∧ Aside0 (wx.heap[w.heap.size + 1 + 1]? = some (.cells #[.int .i64 kd, .int .i64 0, .int .i64 0, .int .i64 0, .int .i64 0, .string ⟨#[]⟩, .string ⟨#[]⟩, .slice none 0 0] 24 (0, 0))) ∧ Aside0 (wx.heap[w.heap.size]? = some (.cells #[.int .i64 0, .int .i64 0, .int .i64 0, .int .i64 0, .int .i64 0, .string ⟨#[]⟩, .string ⟨#[]⟩, .slice none 0 0] 24)) ∧ Aside0 (wx.heap[w.heap.size + 1]? = some (.cells (ps.map Value.string).toArray 9)) ∧ Aside0 (Below w.heap.size w wx))
  case atStart => exact ⟨0, 0, rfl, rfl, ⟨hK0⟩, HB5, HB2, HBP, HB1⟩
  case round =>
    clear hK0 HB5 HB2 HBP HB1
    obtain ⟨k, kd, hk, rfl, HK, HB5, HB2, HBP, HB1⟩ := hrel
    by_cases hlt : k < 24
    · obtain ⟨g, rfl⟩ : ∃ g, gk = g + 1 := ⟨gk - 1, by omega⟩
      obtain ⟨x, hx⟩ : ∃ x, wordsB.getD k ⟨#[]⟩ = x := ⟨_, rfl⟩
      have hidx := fun W => idx_word W k hlt
      rw [← HWA.out, hx] at hidx
      have hd : wordsB.drop k = x :: wordsB.drop (k + 1) := by
        have hl : k < wordsB.length := hlt
        rw [List.drop_eq_getElem_cons hl, ← hx, List.getD_eq_getElem?_getD, List.getElem?_eq_getElem hl]; rfl
      have H0 := HK.out
      rw [hd, kindFrom] at H0
      clear hd hx HK
      have hp0 : wr.cell? ⟨w.heap.size + 1, 0, none⟩ = some (.string pw) := by rw [cell_of_row wr _ 0 _ _ _ HBP.out]; exact HPC.out
      have hc50 : wr.cell? ⟨w.heap.size + 1 + 1, 0, none⟩ = some (.int .i64 kd) := blk_cell HB5.out 0
      have hf50 := blk_frozen HB5.out 0
      by_cases hw : x.toList = pw.toList
      · rw [if_pos hw] at H0
        have HK : Aside0 (kindFrom (wordsB.drop (k + 1)) ((k + 1 : Nat) : Int) pw (k : Int) = K0) := ⟨H0⟩
        clear H0
        have b1 : (x.toList == pw.toList) = true := beq_iff_eq.2 hw
        clear hw
        have HS5 : Aside0 ((wr.setCell ⟨w.heap.size + 1 + 1, 0, none⟩ (.int .i64 (k : Int))).heap[w.heap.size + 1 + 1]? = some (.cells #[.int .i64 (k : Int), .int .i64 0, .int .i64 0, .int .i64 0, .int .i64 0, .string ⟨#[]⟩, .string ⟨#[]⟩, .slice none 0 0] 24 (0, 0))) := ⟨blk_put HB5.out 0 _ rfl⟩
        have HS2 := Aside0.mk (blk_far HB2.out (p := ⟨w.heap.size + 1 + 1, 0, none⟩) HNE.out (.int .i64 (k : Int)))
        have HSP := Aside0.mk (blk_far HBP.out (p := ⟨w.heap.size + 1 + 1, 0, none⟩) HNE2.out (.int .i64 (k : Int)))
        have HSB := Aside0.mk (below_set (g := w.heap.size + 1 + 1) (j := 0) (v := .int .i64 (k : Int)) HB1.out (by omega))
        go_wp2
        go_roundg g
        case rel => exact ⟨k + 1, k, by omega, by go_num, HK, HS5, HS2, HSP, HSB⟩
        case measure => simp
      · rw [if_neg hw] at H0
        have HK : Aside0 (kindFrom (wordsB.drop (k + 1)) ((k + 1 : Nat) : Int) pw kd = K0) := ⟨H0⟩
        clear H0
        have b1 : (x.toList == pw.toList) = false := beq_eq_false_iff_ne.2 hw
        clear hw
        go_wp2
        go_roundg g
        case rel => exact ⟨k + 1, kd, by omega, by go_num, HK, HB5, HB2, HBP, HB1⟩
        case measure => simp
    · obtain rfl : k = 24 := by omega
      have hK0 : kd = K0 := HK.out
      subst hK0
      clear HK
      obtain ⟨nq, rfl⟩ : ∃ nq, np = nq + 1 := ⟨np - 1, by omega⟩
      have q24 : ¬ (((24 : Nat) : Int) < 24) := by omega
      obtain ⟨F0, hF0⟩ : ∃ F0, fieldsTo ps.tail { zeroOp with kd := kd } = F0 := ⟨_, rfl⟩
      rw [hF0] at H
      have HF0 := Aside0.mk hF0; clear hF0
      clear hlt hk hnp1
      by_cases hq : nq = 0
      · subst hq
        go_wp2
        go_step3
        go_wp2
        go_loopg [34] 0 (fun g v34 wx => ∃ (k : Nat) (o : ROp) (dv : Value), k + g = 0 ∧ v34 = .int .i64 k ∧ Aside0 (fieldsTo (ps.tail.drop k) o = F0) ∧ Aside0 (OkOp o a0.size) ∧ Aside0 (Mk.R (Kd.int .u8) 5 wx w.heap.size (fun _ => True) dv o.d) ∧ Aside0 (wx.heap[w.heap.size + 1 + 1]? = some (.cells #[.int .i64 o.kd, .int .i64 o.fd, .int .i64 o.n, .int .i64 o.off, .int .i64 o.fl, .string o.p, .string o.t, dv] 24 (0, 0))) ∧ Aside0 (wx.heap[w.heap.size]? = some (.cells #[.int .i64 0, .int .i64 0, .int .i64 0, .int .i64 0, .int .i64 0, .string ⟨#[]⟩, .string ⟨#[]⟩, .slice none 0 0] 24)) ∧ Aside0 (wx.heap[w.heap.size + 1]? = some (.cells (ps.map Value.string).toArray 9)) ∧ Aside0 (Below w.heap.size w wx))
        case atStart => exact ⟨0, { zeroOp with kd := kd }, .slice none 0 0, rfl, rfl, HF0, ⟨⟨okI_zero, okI_zero, okI_zero, okI_zero, Nat.zero_le _, Nat.zero_le _, Nat.zero_le _⟩⟩, ⟨Mk.R_nil _ _ _ _ _⟩, HB5, HB2, HBP, HB1⟩
        case round =>
          clear HB5 HB2 HBP HB1 HF0
          obtain ⟨k, o, dv, hk, rfl, HF, HOK, HD, HB5, HB2, HBP, HB1⟩ := hrel
          by_cases hlt : k < 0
          · omega
          · obtain rfl : k = 0 := by omega
            have hF : F0 = some o := by
              rw [← HF.out, List.drop_eq_nil_of_le (by have := HL.out; simp; omega)]; rfl
            subst hF
            dsimp only at H
            obtain ⟨A7, c7, e7⟩ := Mk.R_slice HD.out
            subst e7
            have hc50 : wr.cell? ⟨w.heap.size + 1 + 1, 0, none⟩ = some (.int .i64 o.kd) := blk_cell HB5.out 0
            have hc51 : wr.cell? ⟨w.heap.size + 1 + 1, 1, none⟩ = some (.int .i64 o.fd) := blk_cell HB5.out 1
            have hc52 : wr.cell? ⟨w.heap.size + 1 + 1, 2, none⟩ = some (.int .i64 o.n) := blk_cell HB5.out 2
            have hc53 : wr.cell? ⟨w.heap.size + 1 + 1, 3, none⟩ = some (.int .i64 o.off) := blk_cell HB5.out 3
            have hc54 : wr.cell? ⟨w.heap.size + 1 + 1, 4, none⟩ = some (.int .i64 o.fl) := blk_cell HB5.out 4
            have hc55 : wr.cell? ⟨w.heap.size + 1 + 1, 5, none⟩ = some (.string o.p) := blk_cell HB5.out 5
            have hc56 : wr.cell? ⟨w.heap.size + 1 + 1, 6, none⟩ = some (.string o.t) := blk_cell HB5.out 6
            have hc57 : wr.cell? ⟨w.heap.size + 1 + 1, 7, none⟩ = some (.slice A7 o.d.length c7) := blk_cell HB5.out 7
            have hz20 : wr.cell? ⟨w.heap.size, 0, none⟩ = some (.int .i64 0) := blk_cell HB2.out 0
            have hz21 : wr.cell? ⟨w.heap.size, 1, none⟩ = some (.int .i64 0) := blk_cell HB2.out 1
            have hz22 : wr.cell? ⟨w.heap.size, 2, none⟩ = some (.int .i64 0) := blk_cell HB2.out 2
            have hz23 : wr.cell? ⟨w.heap.size, 3, none⟩ = some (.int .i64 0) := blk_cell HB2.out 3
            have hz24 : wr.cell? ⟨w.heap.size, 4, none⟩ = some (.int .i64 0) := blk_cell HB2.out 4
            have hz25 : wr.cell? ⟨w.heap.size, 5, none⟩ = some (.string ⟨#[]⟩) := blk_cell HB2.out 5
            have hz26 : wr.cell? ⟨w.heap.size, 6, none⟩ = some (.string ⟨#[]⟩) := blk_cell HB2.out 6
            have hz27 : wr.cell? ⟨w.heap.size, 7, none⟩ = some (.slice none 0 0) := blk_cell HB2.out 7
            have hf20 := blk_frozen HB2.out 0
            have hf21 := blk_frozen HB2.out 1
            have hf22 := blk_frozen HB2.out 2
            have hf23 := blk_frozen HB2.out 3
            have hf24 := blk_frozen HB2.out 4
            have hf25 := blk_frozen HB2.out 5
            have hf26 := blk_frozen HB2.out 6
            have hf27 := blk_frozen HB2.out 7
            by_cases he : a0.toList = []
            · rw [if_pos (.inl he)] at H
              have hr := H.out
              simp only [Prod.mk.injEq, zeroOp] at hr
              obtain ⟨rfl, rfl, rfl, rfl, rfl, rfl, rfl, rfl, rfl⟩ := hr
              have b1 : (a0.toList == ([] : List UInt8)) = true := beq_iff_eq.2 he
              have b1e : a0.toList.isEmpty = true := by rw [he]; rfl
              clear he H
              go_wp2
              try rw [Exit.noGoto_ret]
              refine bodyPost_ret (results_ct rfl _ _ w.heap.size 24 #[.int .i64 0, .int .i64 0, .int .i64 0, .int .i64 0, .int .i64 0, .string ⟨#[]⟩, .string ⟨#[]⟩, .slice none 0 0] (0, 0) _ rfl (put8 _ _ _ _ _ _ _ _ HB2.out) hu24 rfl (by kernel_rfl)) rfl ?_
              exact ⟨.slice none 0 0, rfl, Mk.R_nil _ _ _ _ _, below8 _ _ _ _ _ _ _ _ HB1.out (Nat.le_refl _)⟩
            · have hsay : spell_Say.f o.kd o.fd o.n o.off o.fl o.p o.t o.d = some o.say := by
                unfold spell_Say.f
                rw [if_pos ⟨⟨HOK.out.fd, HOK.out.n, HOK.out.off, HOK.out.fl⟩, by have := HOK.out.p; omega, by have := HOK.out.t; omega, by have := HOK.out.d; omega⟩]
                rfl
              have cSay := spell_Say.calls o.kd o.fd o.n o.off o.fl o.p o.t A7 c7 o.d o.say wr (G_below HG.out HB1.out) (Mk.R_reads' HD.out).2.2 (Mk.R_reads' HD.out).2.1 hsay
              clear hsay
              have b1 : (a0.toList == ([] : List UInt8)) = false := beq_eq_false_iff_ne.2 he
              have b1e : a0.toList.isEmpty = false := by cases h : a0.toList.isEmpty with | false => rfl | true => exact absurd (List.isEmpty_iff.1 h) he
              by_cases hy : o.say.toList = a0.toList
              · rw [if_neg (by rintro (h | h); exact he h; exact h hy)] at H
                have hr := H.out
                simp only [Prod.mk.injEq] at hr
                clear H
                generalize o.say = sy at *
                have b2 : (sy.toList == a0.toList) = true := beq_iff_eq.2 hy
                have b2n : (sy.toList != a0.toList) = false := bne_eq_false_iff_eq.2 hy
                have HR := Aside0.mk hr
                clear he hy hr
                go_wp2_with (go_at_call 10; refine cSay.mono ?_; rintro e w2 ⟨rfl, hb⟩; have HS2 := Aside0.mk ((hb.block _ (blk_lt HB2.out)).trans HB2.out); have HS5 := Aside0.mk ((hb.block _ (blk_lt HB5.out)).trans HB5.out); have HSB := Aside0.mk (below_step HB1.out hb); have HSD := Aside0.mk (Mk.R_below HD.out hb); clear hb; have hd50 : w2.cell? ⟨w.heap.size + 1 + 1, 0, none⟩ = some (.int .i64 o.kd) := blk_cell HS5.out 0; have hd51 : w2.cell? ⟨w.heap.size + 1 + 1, 1, none⟩ = some (.int .i64 o.fd) := blk_cell HS5.out 1; have hd52 : w2.cell? ⟨w.heap.size + 1 + 1, 2, none⟩ = some (.int .i64 o.n) := blk_cell HS5.out 2; have hd53 : w2.cell? ⟨w.heap.size + 1 + 1, 3, none⟩ = some (.int .i64 o.off) := blk_cell HS5.out 3; have hd54 : w2.cell? ⟨w.heap.size + 1 + 1, 4, none⟩ = some (.int .i64 o.fl) := blk_cell HS5.out 4; have hd55 : w2.cell? ⟨w.heap.size + 1 + 1, 5, none⟩ = some (.string o.p) := blk_cell HS5.out 5; have hd56 : w2.cell? ⟨w.heap.size + 1 + 1, 6, none⟩ = some (.string o.t) := blk_cell HS5.out 6; have hd57 : w2.cell? ⟨w.heap.size + 1 + 1, 7, none⟩ = some (.slice A7 o.d.length c7) := blk_cell HS5.out 7; have hd20 : w2.cell? ⟨w.heap.size, 0, none⟩ = some (.int .i64 0) := blk_cell HS2.out 0; have hd21 : w2.cell? ⟨w.heap.size, 1, none⟩ = some (.int .i64 0) := blk_cell HS2.out 1; have hd22 : w2.cell? ⟨w.heap.size, 2, none⟩ = some (.int .i64 0) := blk_cell HS2.out 2; have hd23 : w2.cell? ⟨w.heap.size, 3, none⟩ = some (.int .i64 0) := blk_cell HS2.out 3; have hd24 : w2.cell? ⟨w.heap.size, 4, none⟩ = some (.int .i64 0) := blk_cell HS2.out 4; have hd25 : w2.cell? ⟨w.heap.size, 5, none⟩ = some (.string ⟨#[]⟩) := blk_cell HS2.out 5; have hd26 : w2.cell? ⟨w.heap.size, 6, none⟩ = some (.string ⟨#[]⟩) := blk_cell HS2.out 6; have hd27 : w2.cell? ⟨w.heap.size, 7, none⟩ = some (.slice none 0 0) := blk_cell HS2.out 7; have hg20 := blk_frozen HS2.out 0; have hg21 := blk_frozen HS2.out 1; have hg22 := blk_frozen HS2.out 2; have hg23 := blk_frozen HS2.out 3; have hg24 := blk_frozen HS2.out 4; have hg25 := blk_frozen HS2.out 5; have hg26 := blk_frozen HS2.out 6; have hg27 := blk_frozen HS2.out 7; skip)
                try rw [Exit.noGoto_ret]
                obtain ⟨rfl, rfl, rfl, rfl, rfl, rfl, rfl, rfl, rfl⟩ := HR.out
                refine bodyPost_ret (results_ct rfl _ _ w.heap.size 24 #[.int .i64 o.kd, .int .i64 o.fd, .int .i64 o.n, .int .i64 o.off, .int .i64 o.fl, .string o.p, .string o.t, .slice A7 o.d.length c7] (0, 0) _ rfl (put8 _ _ _ _ _ _ _ _ HS2.out) hu24 rfl (by kernel_rfl)) rfl ?_
                exact ⟨.slice A7 o.d.length c7, rfl, R8 _ _ _ _ _ _ _ _ HSD.out HS2.out, below8 _ _ _ _ _ _ _ _ HSB.out (Nat.le_refl _)⟩
              · rw [if_pos (.inr hy)] at H
                have hr := H.out
                simp only [Prod.mk.injEq, zeroOp] at hr
                obtain ⟨rfl, rfl, rfl, rfl, rfl, rfl, rfl, rfl, rfl⟩ := hr
                clear H
                generalize o.say = sy at *
                have b2 : (sy.toList == a0.toList) = false := beq_eq_false_iff_ne.2 hy
                have b2n : (sy.toList != a0.toList) = true := bne_iff_ne.2 hy
                clear he hy
                go_wp2_with (go_at_call 10; refine cSay.mono ?_; rintro e w2 ⟨rfl, hb⟩; have HS2 := Aside0.mk ((hb.block _ (blk_lt HB2.out)).trans HB2.out); have HS5 := Aside0.mk ((hb.block _ (blk_lt HB5.out)).trans HB5.out); have HSB := Aside0.mk (below_step HB1.out hb); have HSD := Aside0.mk (Mk.R_below HD.out hb); clear hb; have hd50 : w2.cell? ⟨w.heap.size + 1 + 1, 0, none⟩ = some (.int .i64 o.kd) := blk_cell HS5.out 0; have hd51 : w2.cell? ⟨w.heap.size + 1 + 1, 1, none⟩ = some (.int .i64 o.fd) := blk_cell HS5.out 1; have hd52 : w2.cell? ⟨w.heap.size + 1 + 1, 2, none⟩ = some (.int .i64 o.n) := blk_cell HS5.out 2; have hd53 : w2.cell? ⟨w.heap.size + 1 + 1, 3, none⟩ = some (.int .i64 o.off) := blk_cell HS5.out 3; have hd54 : w2.cell? ⟨w.heap.size + 1 + 1, 4, none⟩ = some (.int .i64 o.fl) := blk_cell HS5.out 4; have hd55 : w2.cell? ⟨w.heap.size + 1 + 1, 5, none⟩ = some (.string o.p) := blk_cell HS5.out 5; have hd56 : w2.cell? ⟨w.heap.size + 1 + 1, 6, none⟩ = some (.string o.t) := blk_cell HS5.out 6; have hd57 : w2.cell? ⟨w.heap.size + 1 + 1, 7, none⟩ = some (.slice A7 o.d.length c7) := blk_cell HS5.out 7; have hd20 : w2.cell? ⟨w.heap.size, 0, none⟩ = some (.int .i64 0) := blk_cell HS2.out 0; have hd21 : w2.cell? ⟨w.heap.size, 1, none⟩ = some (.int .i64 0) := blk_cell HS2.out 1; have hd22 : w2.cell? ⟨w.heap.size, 2, none⟩ = some (.int .i64 0) := blk_cell HS2.out 2; have hd23 : w2.cell? ⟨w.heap.size, 3, none⟩ = some (.int .i64 0) := blk_cell HS2.out 3; have hd24 : w2.cell? ⟨w.heap.size, 4, none⟩ = some (.int .i64 0) := blk_cell HS2.out 4; have hd25 : w2.cell? ⟨w.heap.size, 5, none⟩ = some (.string ⟨#[]⟩) := blk_cell HS2.out 5; have hd26 : w2.cell? ⟨w.heap.size, 6, none⟩ = some (.string ⟨#[]⟩) := blk_cell HS2.out 6; have hd27 : w2.cell? ⟨w.heap.size, 7, none⟩ = some (.slice none 0 0) := blk_cell HS2.out 7; have hg20 := blk_frozen HS2.out 0; have hg21 := blk_frozen HS2.out 1; have hg22 := blk_frozen HS2.out 2; have hg23 := blk_frozen HS2.out 3; have hg24 := blk_frozen HS2.out 4; have hg25 := blk_frozen HS2.out 5; have hg26 := blk_frozen HS2.out 6; have hg27 := blk_frozen HS2.out 7; skip)
                try rw [Exit.noGoto_ret]
                refine bodyPost_ret (results_ct rfl _ _ w.heap.size 24 #[.int .i64 0, .int .i64 0, .int .i64 0, .int .i64 0, .int .i64 0, .string ⟨#[]⟩, .string ⟨#[]⟩, .slice none 0 0] (0, 0) _ rfl (put8 _ _ _ _ _ _ _ _ HS2.out) hu24 rfl (by kernel_rfl)) rfl ?_
                exact ⟨.slice none 0 0, rfl, Mk.R_nil _ _ _ _ _, below8 _ _ _ _ _ _ _ _ HSB.out (Nat.le_refl _)⟩
      · go_wp2
        go_step3
        go_wp2
        go_loopg [34] nq (fun g v34 wx => ∃ (k : Nat) (o : ROp) (dv : Value), k + g = nq ∧ v34 = .int .i64 k ∧ Aside0 (fieldsTo (ps.tail.drop k) o = F0) ∧ Aside0 (OkOp o a0.size) ∧ Aside0 (Mk.R (Kd.int .u8) 5 wx w.heap.size (fun _ => True) dv o.d) ∧ Aside0 (wx.heap[w.heap.size + 1 + 1]? = some (.cells #[.int .i64 o.kd, .int .i64 o.fd, .int .i64 o.n, .int .i64 o.off, .int .i64 o.fl, .string o.p, .string o.t, dv] 24 (0, 0))) ∧ Aside0 (wx.heap[w.heap.size]? = some (.cells #[.int .i64 0, .int .i64 0, .int .i64 0, .int .i64 0, .int .i64 0, .string ⟨#[]⟩, .string ⟨#[]⟩, .slice none 0 0] 24)) ∧ Aside0 (wx.heap[w.heap.size + 1]? = some (.cells (ps.map Value.string).toArray 9)) ∧ Aside0 (Below w.heap.size w wx))
        case atStart => exact ⟨0, { zeroOp with kd := kd }, .slice none 0 0, by omega, rfl, HF0, ⟨⟨okI_zero, okI_zero, okI_zero, okI_zero, Nat.zero_le _, Nat.zero_le _, Nat.zero_le _⟩⟩, ⟨Mk.R_nil _ _ _ _ _⟩, HB5, HB2, HBP, HB1⟩
        case round =>
          clear HB5 HB2 HBP HB1 HF0
          obtain ⟨k, o, dv, hk, rfl, HF, HOK, HD, HB5, HB2, HBP, HB1⟩ := hrel
          by_cases hlt : k < nq
          · obtain ⟨g, rfl⟩ : ∃ g, gk = g + 1 := ⟨gk - 1, by omega⟩
            obtain ⟨p, hp⟩ : ∃ p, ps[1 + k]? = some p := ⟨_, List.getElem?_eq_getElem (by rw [HL.out]; omega)⟩
            have hd : ps.tail.drop k = p :: ps.tail.drop (k + 1) := by
              obtain ⟨hl, hp⟩ := List.getElem?_eq_some_iff.1 hp
              rw [List.drop_eq_getElem_cons (by rw [List.length_tail]; omega)]
              congr 1
              rw [List.getElem_tail, ← hp]
              congr 1
              omega
            have hpm : p ∈ ps := List.mem_of_getElem? hp
            have hpz := HF1.out p hpm
            have hcell : wr.cell? ⟨w.heap.size + 1, 1 + k, none⟩ = some (.string p) := by rw [cell_of_row wr _ _ _ _ _ HBP.out]; simp [hp]
            have HGr := Aside0.mk (G_below HG.out HB1.out)
            obtain ⟨m2, hm2⟩ := HGr.out.2.2.1
            have cC : Calls Tryd.prog 17 #[.string p, .string ⟨#[61]⟩] wr fun e w' => e = .returned (.tuple #[.string (cutK p), .string (cutV p), .bool (Lib.cut p.data.toList [61]).2.2]) ∧ ∃ n, w' = wr.drewN n := Tryd.strings_Cut p ⟨#[61]⟩ m2 wr (by omega) hm2
            have hvz : (cutV p).size ≤ p.size := cutV_le p
            have hF := HF.out
            rw [hd, fieldsTo] at hF
            unfold stepField setField at hF
            clear HF hd hp hpm hm2
            have q113 : (k : Int) < (nq : Int) := by omega
            generalize (Lib.cut p.data.toList [61]).2.2 = cb at *
            generalize cutK p = key at *
            generalize cutV p = v at *
            by_cases k0 : key.toList = [112, 97, 116, 104]
            · rw [if_pos k0] at hF
              simp only [Option.bind_some] at hF
              have HF := Aside0.mk hF; clear hF
              have kb0 : (key.toList == ([112, 97, 116, 104] : List UInt8)) = true := beq_iff_eq.2 k0
              clear k0
              have hhs := heard_c v
              have cA := fun (W : World) (hW : Below wr.heap.size wr W) => atoi_any v W (by omega) (G_below HGr.out hW)
              have hsz := heardB_size v
              generalize heardB v = hv at *
              go_wp2_with (first | (go_at_call 17; refine cC.mono ?_; rintro e w' ⟨rfl, nn, rfl⟩) | (go_at_call 18; refine (cA _ (pw_below_drewN (Below.refl _ _) _)).mono ?_; rintro e w2 ⟨ev, rfl, hb⟩; have hb : Below wr.heap.size wr w2 := below_step (pw_below_drewN (Below.refl _ _) _) hb; have HS5 := Aside0.mk ((hb.block _ (blk_lt HB5.out)).trans HB5.out); have HS2 := Aside0.mk ((hb.block _ (blk_lt HB2.out)).trans HB2.out); have HSP := Aside0.mk ((hb.block _ (blk_lt HBP.out)).trans HBP.out); have HSB := Aside0.mk (below_step HB1.out hb); have HSD := Aside0.mk (Mk.R_below HD.out hb); clear hb) | (go_at_call 19; refine (hhs _ (by omega)).mono ?_; rintro e w3 ⟨rfl, hb⟩; have HT5 := Aside0.mk ((hb.block _ (blk_lt HS5.out)).trans HS5.out); have HT2 := Aside0.mk ((hb.block _ (blk_lt HS2.out)).trans HS2.out); have HTP := Aside0.mk ((hb.block _ (blk_lt HSP.out)).trans HSP.out); have HTB := Aside0.mk (below_step HSB.out hb); have HTD := Aside0.mk (Mk.R_below HSD.out hb); clear hb; have hc5 : w3.cell? ⟨w.heap.size + 1 + 1, 5, none⟩ = some (.string o.p) := blk_cell HT5.out 5; have hf5 := blk_frozen HT5.out 5))
              have HU5 : Aside0 ((w3.setCell ⟨w.heap.size + 1 + 1, 5, none⟩ (.string hv)).heap[w.heap.size + 1 + 1]? = some (.cells #[.int .i64 o.kd, .int .i64 o.fd, .int .i64 o.n, .int .i64 o.off, .int .i64 o.fl, .string hv, .string o.t, dv] 24 (0, 0))) := ⟨blk_put HT5.out 5 _ rfl⟩
              have HU2 := Aside0.mk (blk_far HT2.out (p := ⟨w.heap.size + 1 + 1, 5, none⟩) HNE.out (.string hv))
              have HUP := Aside0.mk (blk_far HTP.out (p := ⟨w.heap.size + 1 + 1, 5, none⟩) HNE2.out (.string hv))
              have HUB := Aside0.mk (below_set (g := w.heap.size + 1 + 1) (j := 5) (v := .string hv) HTB.out (by omega))
              have HUD := Aside0.mk (Mk.R_mono (Mk.R_far (p := ⟨w.heap.size + 1 + 1, 5, none⟩) (Mk.R_types HTD.out HT5.out (by decide)) (fun _ hk => hk.2) (.string hv)) (ok' := fun _ => True) (fun _ _ => trivial))
              go_wp2
              go_roundg g
              case rel => exact ⟨k + 1, { o with p := hv }, dv, by omega, by go_num, HF, ⟨⟨HOK.out.fd, HOK.out.n, HOK.out.off, HOK.out.fl, by dsimp only; omega, HOK.out.t, HOK.out.d⟩⟩, ⟨HUD.out⟩, HU5, HU2, HUP, HUB⟩
              case measure => simp
            · skip
              by_cases k1 : key.toList = [116, 111]
              · rw [if_neg k0, if_pos k1] at hF
                simp only [Option.bind_some] at hF
                have HF := Aside0.mk hF; clear hF
                have kb0 : (key.toList == ([112, 97, 116, 104] : List UInt8)) = false := beq_eq_false_iff_ne.2 k0
                have kb1 : (key.toList == ([116, 111] : List UInt8)) = true := beq_iff_eq.2 k1
                clear k0 k1
                have hhs := heard_c v
                have cA := fun (W : World) (hW : Below wr.heap.size wr W) => atoi_any v W (by omega) (G_below HGr.out hW)
                have hsz := heardB_size v
                generalize heardB v = hv at *
                go_wp2_with (first | (go_at_call 17; refine cC.mono ?_; rintro e w' ⟨rfl, nn, rfl⟩) | (go_at_call 18; refine (cA _ (pw_below_drewN (Below.refl _ _) _)).mono ?_; rintro e w2 ⟨ev, rfl, hb⟩; have hb : Below wr.heap.size wr w2 := below_step (pw_below_drewN (Below.refl _ _) _) hb; have HS5 := Aside0.mk ((hb.block _ (blk_lt HB5.out)).trans HB5.out); have HS2 := Aside0.mk ((hb.block _ (blk_lt HB2.out)).trans HB2.out); have HSP := Aside0.mk ((hb.block _ (blk_lt HBP.out)).trans HBP.out); have HSB := Aside0.mk (below_step HB1.out hb); have HSD := Aside0.mk (Mk.R_below HD.out hb); clear hb) | (go_at_call 19; refine (hhs _ (by omega)).mono ?_; rintro e w3 ⟨rfl, hb⟩; have HT5 := Aside0.mk ((hb.block _ (blk_lt HS5.out)).trans HS5.out); have HT2 := Aside0.mk ((hb.block _ (blk_lt HS2.out)).trans HS2.out); have HTP := Aside0.mk ((hb.block _ (blk_lt HSP.out)).trans HSP.out); have HTB := Aside0.mk (below_step HSB.out hb); have HTD := Aside0.mk (Mk.R_below HSD.out hb); clear hb; have hc5 : w3.cell? ⟨w.heap.size + 1 + 1, 6, none⟩ = some (.string o.t) := blk_cell HT5.out 6; have hf5 := blk_frozen HT5.out 6))
                have HU5 : Aside0 ((w3.setCell ⟨w.heap.size + 1 + 1, 6, none⟩ (.string hv)).heap[w.heap.size + 1 + 1]? = some (.cells #[.int .i64 o.kd, .int .i64 o.fd, .int .i64 o.n, .int .i64 o.off, .int .i64 o.fl, .string o.p, .string hv, dv] 24 (0, 0))) := ⟨blk_put HT5.out 6 _ rfl⟩
                have HU2 := Aside0.mk (blk_far HT2.out (p := ⟨w.heap.size + 1 + 1, 6, none⟩) HNE.out (.string hv))
                have HUP := Aside0.mk (blk_far HTP.out (p := ⟨w.heap.size + 1 + 1, 6, none⟩) HNE2.out (.string hv))
                have HUB := Aside0.mk (below_set (g := w.heap.size + 1 + 1) (j := 6) (v := .string hv) HTB.out (by omega))
                have HUD := Aside0.mk (Mk.R_mono (Mk.R_far (p := ⟨w.heap.size + 1 + 1, 6, none⟩) (Mk.R_types HTD.out HT5.out (by decide)) (fun _ hk => hk.2) (.string hv)) (ok' := fun _ => True) (fun _ _ => trivial))
                go_wp2
                go_roundg g
                case rel => exact ⟨k + 1, { o with t := hv }, dv, by omega, by go_num, HF, ⟨⟨HOK.out.fd, HOK.out.n, HOK.out.off, HOK.out.fl, HOK.out.p, by dsimp only; omega, HOK.out.d⟩⟩, ⟨HUD.out⟩, HU5, HU2, HUP, HUB⟩
                case measure => simp
              · skip
                by_cases k2 : key.toList = [100, 97, 116, 97]
                · rw [if_neg k0, if_neg k1, if_pos k2] at hF
                  simp only [Option.bind_some] at hF
                  have HF := Aside0.mk hF; clear hF
                  have kb0 : (key.toList == ([112, 97, 116, 104] : List UInt8)) = false := beq_eq_false_iff_ne.2 k0
                  have kb1 : (key.toList == ([116, 111] : List UInt8)) = false := beq_eq_false_iff_ne.2 k1
                  have kb2 : (key.toList == ([100, 97, 116, 97] : List UInt8)) = true := beq_iff_eq.2 k2
                  clear k0 k1 k2
                  have hhs := heard_c v
                  have cA := fun (W : World) (hW : Below wr.heap.size wr W) => atoi_any v W (by omega) (G_below HGr.out hW)
                  have hsz := heardB_size v
                  generalize heardB v = hv at *
                  have hcb := fun W => Lib.run_convert_string_bytes (P := Tryd.prog) W 9 22 5 hv Tryd.underlying9 Tryd.underlying22 Tryd.underlying5
                  go_wp2_with (first | (go_at_call 17; refine cC.mono ?_; rintro e w' ⟨rfl, nn, rfl⟩) | (go_at_call 18; refine (cA _ (pw_below_drewN (Below.refl _ _) _)).mono ?_; rintro e w2 ⟨ev, rfl, hb⟩; have hb : Below wr.heap.size wr w2 := below_step (pw_below_drewN (Below.refl _ _) _) hb; have HS5 := Aside0.mk ((hb.block _ (blk_lt HB5.out)).trans HB5.out); have HS2 := Aside0.mk ((hb.block _ (blk_lt HB2.out)).trans HB2.out); have HSP := Aside0.mk ((hb.block _ (blk_lt HBP.out)).trans HBP.out); have HSB := Aside0.mk (below_step HB1.out hb); have HSD := Aside0.mk (Mk.R_below HD.out hb); clear hb) | (go_at_call 19; refine (hhs _ (by omega)).mono ?_; rintro e w3 ⟨rfl, hb⟩; have HT5 := Aside0.mk ((hb.block _ (blk_lt HS5.out)).trans HS5.out); have HT2 := Aside0.mk ((hb.block _ (blk_lt HS2.out)).trans HS2.out); have HTP := Aside0.mk ((hb.block _ (blk_lt HSP.out)).trans HSP.out); have HTB := Aside0.mk (below_step HSB.out hb); have HTD := Aside0.mk (Mk.R_below HSD.out hb); clear hb; have hz3 := HTB.out.size; have hby : Below w3.heap.size w3 (Lib.bytesWorld w3 5 hv) := bytes_below (Below.refl _ _) (Nat.le_refl _) 5 hv; have HV := Aside0.mk (Mk.R_bytes w3 w.heap.size 5 hv hz3 (by omega)); have HW5 := Aside0.mk ((hby.block _ (blk_lt HT5.out)).trans HT5.out); have HW2 := Aside0.mk ((hby.block _ (blk_lt HT2.out)).trans HT2.out); have HWP := Aside0.mk ((hby.block _ (blk_lt HTP.out)).trans HTP.out); have HWB := Aside0.mk (below_step HTB.out hby); have HWD := Aside0.mk (Mk.R_below HTD.out hby); clear hby; have hc5 : (Lib.bytesWorld w3 5 hv).cell? ⟨w.heap.size + 1 + 1, 7, none⟩ = some dv := blk_cell HW5.out 7; have hf5 := blk_frozen HW5.out 7; obtain ⟨gc, hgc⟩ : ∃ gc, grownCap w3 hv.size 0 5 = gc := ⟨_, rfl⟩))
                  generalize hbw : Lib.bytesWorld w3 5 hv = w4 at *
                  clear hbw hcb
                  rw [hgc] at HV
                  clear hgc
                  have HU5 : Aside0 ((w4.setCell ⟨w.heap.size + 1 + 1, 7, none⟩ (.slice (some ⟨w3.heap.size, 0, none⟩) hv.size gc)).heap[w.heap.size + 1 + 1]? = some (.cells #[.int .i64 o.kd, .int .i64 o.fd, .int .i64 o.n, .int .i64 o.off, .int .i64 o.fl, .string o.p, .string o.t, (.slice (some ⟨w3.heap.size, 0, none⟩) hv.size gc)] 24 (0, 0))) := ⟨blk_put HW5.out 7 _ rfl⟩
                  have HU2 := Aside0.mk (blk_far HW2.out (p := ⟨w.heap.size + 1 + 1, 7, none⟩) HNE.out (.slice (some ⟨w3.heap.size, 0, none⟩) hv.size gc))
                  have HUP := Aside0.mk (blk_far HWP.out (p := ⟨w.heap.size + 1 + 1, 7, none⟩) HNE2.out (.slice (some ⟨w3.heap.size, 0, none⟩) hv.size gc))
                  have HUB := Aside0.mk (below_set (g := w.heap.size + 1 + 1) (j := 7) (v := (.slice (some ⟨w3.heap.size, 0, none⟩) hv.size gc)) HWB.out (by omega))
                  have HUD := Aside0.mk (Mk.R_mono (Mk.R_far (p := ⟨w.heap.size + 1 + 1, 7, none⟩) (Mk.R_types HV.out HW5.out (by decide)) (fun _ hk => hk.2) (.slice (some ⟨w3.heap.size, 0, none⟩) hv.size gc)) (ok' := fun _ => True) (fun _ _ => trivial))
                  have hdl := bytesOf_length hv
                  go_wp2
                  go_roundg g
                  case rel => exact ⟨k + 1, { o with d := bytesOf hv }, (.slice (some ⟨w3.heap.size, 0, none⟩) hv.size gc), by omega, by go_num, HF, ⟨⟨HOK.out.fd, HOK.out.n, HOK.out.off, HOK.out.fl, HOK.out.p, HOK.out.t, by dsimp only; omega⟩⟩, ⟨HUD.out⟩, HU5, HU2, HUP, HUB⟩
                  case measure => simp
                · skip
                  by_cases k3 : key.toList = [102, 100]
                  · rw [if_neg k0, if_neg k1, if_neg k2, if_pos k3] at hF
                    have HF := Aside0.mk hF; clear hF
                    have kb0 : (key.toList == ([112, 97, 116, 104] : List UInt8)) = false := beq_eq_false_iff_ne.2 k0
                    have kb1 : (key.toList == ([116, 111] : List UInt8)) = false := beq_eq_false_iff_ne.2 k1
                    have kb2 : (key.toList == ([100, 97, 116, 97] : List UInt8)) = false := beq_eq_false_iff_ne.2 k2
                    have kb3 : (key.toList == ([102, 100] : List UInt8)) = true := beq_iff_eq.2 k3
                    clear k0 k1 k2 k3
                    obtain ⟨x, hx⟩ : ∃ x, atoiV v = x := ⟨_, rfl⟩
                    have hxo := atoi_ok v
                    by_cases hE : atoiE v = true
                    · have cA := fun (W : World) (hW : Below wr.heap.size wr W) => (atoi_c v W (by omega) (G_below HGr.out hW)).2 hE
                      rw [hx] at cA hxo
                      have hFn : F0 = none := by rw [← HF.out, if_pos hE]; rfl
                      subst hFn
                      have hr := H.out
                      simp only [Prod.mk.injEq, zeroOp] at hr
                      obtain ⟨rfl, rfl, rfl, rfl, rfl, rfl, rfl, rfl, rfl⟩ := hr
                      clear hE hx hxo H HF
                      go_wp2_with (first | (go_at_call 17; refine cC.mono ?_; rintro e w' ⟨rfl, nn, rfl⟩) | (go_at_call 18; refine (cA _ (pw_below_drewN (Below.refl _ _) _)).mono ?_; rintro e w2 ⟨NN, rfl, hb⟩; have hb : Below wr.heap.size wr w2 := below_step (pw_below_drewN (Below.refl _ _) _) hb; have HS5 := Aside0.mk ((hb.block _ (blk_lt HB5.out)).trans HB5.out); have HS2 := Aside0.mk ((hb.block _ (blk_lt HB2.out)).trans HB2.out); have HSP := Aside0.mk ((hb.block _ (blk_lt HBP.out)).trans HBP.out); have HSB := Aside0.mk (below_step HB1.out hb); have HSD := Aside0.mk (Mk.R_below HD.out hb); clear hb; have hc5 : w2.cell? ⟨w.heap.size + 1 + 1, 1, none⟩ = some (.int .i64 o.fd) := blk_cell HS5.out 1; have hf5 := blk_frozen HS5.out 1; have HU2 := Aside0.mk (blk_far HS2.out (p := ⟨w.heap.size + 1 + 1, 1, none⟩) HNE.out (.int .i64 x)); have HUB := Aside0.mk (below_set (g := w.heap.size + 1 + 1) (j := 1) (v := .int .i64 x) HSB.out (by omega)); have hz20 : (w2.setCell ⟨w.heap.size + 1 + 1, 1, none⟩ (.int .i64 x)).cell? ⟨w.heap.size, 0, none⟩ = some (.int .i64 0) := blk_cell HU2.out 0; have hz21 : (w2.setCell ⟨w.heap.size + 1 + 1, 1, none⟩ (.int .i64 x)).cell? ⟨w.heap.size, 1, none⟩ = some (.int .i64 0) := blk_cell HU2.out 1; have hz22 : (w2.setCell ⟨w.heap.size + 1 + 1, 1, none⟩ (.int .i64 x)).cell? ⟨w.heap.size, 2, none⟩ = some (.int .i64 0) := blk_cell HU2.out 2; have hz23 : (w2.setCell ⟨w.heap.size + 1 + 1, 1, none⟩ (.int .i64 x)).cell? ⟨w.heap.size, 3, none⟩ = some (.int .i64 0) := blk_cell HU2.out 3; have hz24 : (w2.setCell ⟨w.heap.size + 1 + 1, 1, none⟩ (.int .i64 x)).cell? ⟨w.heap.size, 4, none⟩ = some (.int .i64 0) := blk_cell HU2.out 4; have hz25 : (w2.setCell ⟨w.heap.size + 1 + 1, 1, none⟩ (.int .i64 x)).cell? ⟨w.heap.size, 5, none⟩ = some (.string ⟨#[]⟩) := blk_cell HU2.out 5; have hz26 : (w2.setCell ⟨w.heap.size + 1 + 1, 1, none⟩ (.int .i64 x)).cell? ⟨w.heap.size, 6, none⟩ = some (.string ⟨#[]⟩) := blk_cell HU2.out 6; have hz27 : (w2.setCell ⟨w.heap.size + 1 + 1, 1, none⟩ (.int .i64 x)).cell? ⟨w.heap.size, 7, none⟩ = some (.slice none 0 0) := blk_cell HU2.out 7; have hf20 := blk_frozen HU2.out 0; have hf21 := blk_frozen HU2.out 1; have hf22 := blk_frozen HU2.out 2; have hf23 := blk_frozen HU2.out 3; have hf24 := blk_frozen HU2.out 4; have hf25 := blk_frozen HU2.out 5; have hf26 := blk_frozen HU2.out 6; have hf27 := blk_frozen HU2.out 7; skip))
                      try rw [Exit.noGoto_ret]
                      refine bodyPost_ret (results_ct rfl _ _ w.heap.size 24 #[.int .i64 0, .int .i64 0, .int .i64 0, .int .i64 0, .int .i64 0, .string ⟨#[]⟩, .string ⟨#[]⟩, .slice none 0 0] (0, 0) _ rfl (put8 _ _ _ _ _ _ _ _ HU2.out) hu24 rfl (by kernel_rfl)) rfl ?_
                      exact ⟨.slice none 0 0, rfl, Mk.R_nil _ _ _ _ _, below8 _ _ _ _ _ _ _ _ HUB.out (Nat.le_refl _)⟩
                    · have hE2 : atoiE v = false := by cases h : atoiE v with | false => rfl | true => exact absurd h hE
                      have cA := fun (W : World) (hW : Below wr.heap.size wr W) => (atoi_c v W (by omega) (G_below HGr.out hW)).1 hE2
                      rw [hx] at cA hxo
                      have HF : Aside0 (fieldsTo (ps.tail.drop (k + 1)) { o with fd := x } = F0) := ⟨by rw [← HF.out, if_neg hE, ← hx]; rfl⟩
                      clear hE hE2 hx
                      go_wp2_with (first | (go_at_call 17; refine cC.mono ?_; rintro e w' ⟨rfl, nn, rfl⟩) | (go_at_call 18; refine (cA _ (pw_below_drewN (Below.refl _ _) _)).mono ?_; rintro e w2 ⟨rfl, hb⟩; have hb : Below wr.heap.size wr w2 := below_step (pw_below_drewN (Below.refl _ _) _) hb; have HS5 := Aside0.mk ((hb.block _ (blk_lt HB5.out)).trans HB5.out); have HS2 := Aside0.mk ((hb.block _ (blk_lt HB2.out)).trans HB2.out); have HSP := Aside0.mk ((hb.block _ (blk_lt HBP.out)).trans HBP.out); have HSB := Aside0.mk (below_step HB1.out hb); have HSD := Aside0.mk (Mk.R_below HD.out hb); clear hb; have hc5 : w2.cell? ⟨w.heap.size + 1 + 1, 1, none⟩ = some (.int .i64 o.fd) := blk_cell HS5.out 1; have hf5 := blk_frozen HS5.out 1))
                      have HU5 : Aside0 ((w2.setCell ⟨w.heap.size + 1 + 1, 1, none⟩ (.int .i64 x)).heap[w.heap.size + 1 + 1]? = some (.cells #[.int .i64 o.kd, .int .i64 x, .int .i64 o.n, .int .i64 o.off, .int .i64 o.fl, .string o.p, .string o.t, dv] 24 (0, 0))) := ⟨blk_put HS5.out 1 _ rfl⟩
                      have HU2 := Aside0.mk (blk_far HS2.out (p := ⟨w.heap.size + 1 + 1, 1, none⟩) HNE.out (.int .i64 x))
                      have HUP := Aside0.mk (blk_far HSP.out (p := ⟨w.heap.size + 1 + 1, 1, none⟩) HNE2.out (.int .i64 x))
                      have HUB := Aside0.mk (below_set (g := w.heap.size + 1 + 1) (j := 1) (v := .int .i64 x) HSB.out (by omega))
                      have HUD := Aside0.mk (Mk.R_mono (Mk.R_far (p := ⟨w.heap.size + 1 + 1, 1, none⟩) (Mk.R_types HSD.out HS5.out (by decide)) (fun _ hk => hk.2) (.int .i64 x)) (ok' := fun _ => True) (fun _ _ => trivial))
                      go_wp2
                      go_roundg g
                      case rel => exact ⟨k + 1, { o with fd := x }, dv, by omega, by go_num, HF, ⟨⟨hxo, HOK.out.n, HOK.out.off, HOK.out.fl, HOK.out.p, HOK.out.t, HOK.out.d⟩⟩, ⟨HUD.out⟩, HU5, HU2, HUP, HUB⟩
                      case measure => simp
                  · skip
                    by_cases k4 : key.toList = [110]
                    · rw [if_neg k0, if_neg k1, if_neg k2, if_neg k3, if_pos k4] at hF
                      have HF := Aside0.mk hF; clear hF
                      have kb0 : (key.toList == ([112, 97, 116, 104] : List UInt8)) = false := beq_eq_false_iff_ne.2 k0
                      have kb1 : (key.toList == ([116, 111] : List UInt8)) = false := beq_eq_false_iff_ne.2 k1
                      have kb2 : (key.toList == ([100, 97, 116, 97] : List UInt8)) = false := beq_eq_false_iff_ne.2 k2
                      have kb3 : (key.toList == ([102, 100] : List UInt8)) = false := beq_eq_false_iff_ne.2 k3
                      have kb4 : (key.toList == ([110] : List UInt8)) = true := beq_iff_eq.2 k4
                      clear k0 k1 k2 k3 k4
                      obtain ⟨x, hx⟩ : ∃ x, atoiV v = x := ⟨_, rfl⟩
                      have hxo := atoi_ok v
                      by_cases hE : atoiE v = true
                      · have cA := fun (W : World) (hW : Below wr.heap.size wr W) => (atoi_c v W (by omega) (G_below HGr.out hW)).2 hE
                        rw [hx] at cA hxo
                        have hFn : F0 = none := by rw [← HF.out, if_pos hE]; rfl
                        subst hFn
                        have hr := H.out
                        simp only [Prod.mk.injEq, zeroOp] at hr
                        obtain ⟨rfl, rfl, rfl, rfl, rfl, rfl, rfl, rfl, rfl⟩ := hr
                        clear hE hx hxo H HF
                        go_wp2_with (first | (go_at_call 17; refine cC.mono ?_; rintro e w' ⟨rfl, nn, rfl⟩) | (go_at_call 18; refine (cA _ (pw_below_drewN (Below.refl _ _) _)).mono ?_; rintro e w2 ⟨NN, rfl, hb⟩; have hb : Below wr.heap.size wr w2 := below_step (pw_below_drewN (Below.refl _ _) _) hb; have HS5 := Aside0.mk ((hb.block _ (blk_lt HB5.out)).trans HB5.out); have HS2 := Aside0.mk ((hb.block _ (blk_lt HB2.out)).trans HB2.out); have HSP := Aside0.mk ((hb.block _ (blk_lt HBP.out)).trans HBP.out); have HSB := Aside0.mk (below_step HB1.out hb); have HSD := Aside0.mk (Mk.R_below HD.out hb); clear hb; have hc5 : w2.cell? ⟨w.heap.size + 1 + 1, 2, none⟩ = some (.int .i64 o.n) := blk_cell HS5.out 2; have hf5 := blk_frozen HS5.out 2; have HU2 := Aside0.mk (blk_far HS2.out (p := ⟨w.heap.size + 1 + 1, 2, none⟩) HNE.out (.int .i64 x)); have HUB := Aside0.mk (below_set (g := w.heap.size + 1 + 1) (j := 2) (v := .int .i64 x) HSB.out (by omega)); have hz20 : (w2.setCell ⟨w.heap.size + 1 + 1, 2, none⟩ (.int .i64 x)).cell? ⟨w.heap.size, 0, none⟩ = some (.int .i64 0) := blk_cell HU2.out 0; have hz21 : (w2.setCell ⟨w.heap.size + 1 + 1, 2, none⟩ (.int .i64 x)).cell? ⟨w.heap.size, 1, none⟩ = some (.int .i64 0) := blk_cell HU2.out 1; have hz22 : (w2.setCell ⟨w.heap.size + 1 + 1, 2, none⟩ (.int .i64 x)).cell? ⟨w.heap.size, 2, none⟩ = some (.int .i64 0) := blk_cell HU2.out 2; have hz23 : (w2.setCell ⟨w.heap.size + 1 + 1, 2, none⟩ (.int .i64 x)).cell? ⟨w.heap.size, 3, none⟩ = some (.int .i64 0) := blk_cell HU2.out 3; have hz24 : (w2.setCell ⟨w.heap.size + 1 + 1, 2, none⟩ (.int .i64 x)).cell? ⟨w.heap.size, 4, none⟩ = some (.int .i64 0) := blk_cell HU2.out 4; have hz25 : (w2.setCell ⟨w.heap.size + 1 + 1, 2, none⟩ (.int .i64 x)).cell? ⟨w.heap.size, 5, none⟩ = some (.string ⟨#[]⟩) := blk_cell HU2.out 5; have hz26 : (w2.setCell ⟨w.heap.size + 1 + 1, 2, none⟩ (.int .i64 x)).cell? ⟨w.heap.size, 6, none⟩ = some (.string ⟨#[]⟩) := blk_cell HU2.out 6; have hz27 : (w2.setCell ⟨w.heap.size + 1 + 1, 2, none⟩ (.int .i64 x)).cell? ⟨w.heap.size, 7, none⟩ = some (.slice none 0 0) := blk_cell HU2.out 7; have hf20 := blk_frozen HU2.out 0; have hf21 := blk_frozen HU2.out 1; have hf22 := blk_frozen HU2.out 2; have hf23 := blk_frozen HU2.out 3; have hf24 := blk_frozen HU2.out 4; have hf25 := blk_frozen HU2.out 5; have hf26 := blk_frozen HU2.out 6; have hf27 := blk_frozen HU2.out 7; skip))
                        try rw [Exit.noGoto_ret]
                        refine bodyPost_ret (results_ct rfl _ _ w.heap.size 24 #[.int .i64 0, .int .i64 0, .int .i64 0, .int .i64 0, .int .i64 0, .string ⟨#[]⟩, .string ⟨#[]⟩, .slice none 0 0] (0, 0) _ rfl (put8 _ _ _ _ _ _ _ _ HU2.out) hu24 rfl (by kernel_rfl)) rfl ?_
                        exact ⟨.slice none 0 0, rfl, Mk.R_nil _ _ _ _ _, below8 _ _ _ _ _ _ _ _ HUB.out (Nat.le_refl _)⟩
                      · have hE2 : atoiE v = false := by cases h : atoiE v with | false => rfl | true => exact absurd h hE
                        have cA := fun (W : World) (hW : Below wr.heap.size wr W) => (atoi_c v W (by omega) (G_below HGr.out hW)).1 hE2
                        rw [hx] at cA hxo
                        have HF : Aside0 (fieldsTo (ps.tail.drop (k + 1)) { o with n := x } = F0) := ⟨by rw [← HF.out, if_neg hE, ← hx]; rfl⟩
                        clear hE hE2 hx
                        go_wp2_with (first | (go_at_call 17; refine cC.mono ?_; rintro e w' ⟨rfl, nn, rfl⟩) | (go_at_call 18; refine (cA _ (pw_below_drewN (Below.refl _ _) _)).mono ?_; rintro e w2 ⟨rfl, hb⟩; have hb : Below wr.heap.size wr w2 := below_step (pw_below_drewN (Below.refl _ _) _) hb; have HS5 := Aside0.mk ((hb.block _ (blk_lt HB5.out)).trans HB5.out); have HS2 := Aside0.mk ((hb.block _ (blk_lt HB2.out)).trans HB2.out); have HSP := Aside0.mk ((hb.block _ (blk_lt HBP.out)).trans HBP.out); have HSB := Aside0.mk (below_step HB1.out hb); have HSD := Aside0.mk (Mk.R_below HD.out hb); clear hb; have hc5 : w2.cell? ⟨w.heap.size + 1 + 1, 2, none⟩ = some (.int .i64 o.n) := blk_cell HS5.out 2; have hf5 := blk_frozen HS5.out 2))
                        have HU5 : Aside0 ((w2.setCell ⟨w.heap.size + 1 + 1, 2, none⟩ (.int .i64 x)).heap[w.heap.size + 1 + 1]? = some (.cells #[.int .i64 o.kd, .int .i64 o.fd, .int .i64 x, .int .i64 o.off, .int .i64 o.fl, .string o.p, .string o.t, dv] 24 (0, 0))) := ⟨blk_put HS5.out 2 _ rfl⟩
                        have HU2 := Aside0.mk (blk_far HS2.out (p := ⟨w.heap.size + 1 + 1, 2, none⟩) HNE.out (.int .i64 x))
                        have HUP := Aside0.mk (blk_far HSP.out (p := ⟨w.heap.size + 1 + 1, 2, none⟩) HNE2.out (.int .i64 x))
                        have HUB := Aside0.mk (below_set (g := w.heap.size + 1 + 1) (j := 2) (v := .int .i64 x) HSB.out (by omega))
                        have HUD := Aside0.mk (Mk.R_mono (Mk.R_far (p := ⟨w.heap.size + 1 + 1, 2, none⟩) (Mk.R_types HSD.out HS5.out (by decide)) (fun _ hk => hk.2) (.int .i64 x)) (ok' := fun _ => True) (fun _ _ => trivial))
                        go_wp2
                        go_roundg g
                        case rel => exact ⟨k + 1, { o with n := x }, dv, by omega, by go_num, HF, ⟨⟨HOK.out.fd, hxo, HOK.out.off, HOK.out.fl, HOK.out.p, HOK.out.t, HOK.out.d⟩⟩, ⟨HUD.out⟩, HU5, HU2, HUP, HUB⟩
                        case measure => simp
                    · skip
                      by_cases k5 : key.toList = [111, 102, 102]
                      · rw [if_neg k0, if_neg k1, if_neg k2, if_neg k3, if_neg k4, if_pos k5] at hF
                        have HF := Aside0.mk hF; clear hF
                        have kb0 : (key.toList == ([112, 97, 116, 104] : List UInt8)) = false := beq_eq_false_iff_ne.2 k0
                        have kb1 : (key.toList == ([116, 111] : List UInt8)) = false := beq_eq_false_iff_ne.2 k1
                        have kb2 : (key.toList == ([100, 97, 116, 97] : List UInt8)) = false := beq_eq_false_iff_ne.2 k2
                        have kb3 : (key.toList == ([102, 100] : List UInt8)) = false := beq_eq_false_iff_ne.2 k3
                        have kb4 : (key.toList == ([110] : List UInt8)) = false := beq_eq_false_iff_ne.2 k4
                        have kb5 : (key.toList == ([111, 102, 102] : List UInt8)) = true := beq_iff_eq.2 k5
                        clear k0 k1 k2 k3 k4 k5
                        obtain ⟨x, hx⟩ : ∃ x, atoiV v = x := ⟨_, rfl⟩
                        have hxo := atoi_ok v
                        by_cases hE : atoiE v = true
                        · have cA := fun (W : World) (hW : Below wr.heap.size wr W) => (atoi_c v W (by omega) (G_below HGr.out hW)).2 hE
                          rw [hx] at cA hxo
                          have hFn : F0 = none := by rw [← HF.out, if_pos hE]; rfl
                          subst hFn
                          have hr := H.out
                          simp only [Prod.mk.injEq, zeroOp] at hr
                          obtain ⟨rfl, rfl, rfl, rfl, rfl, rfl, rfl, rfl, rfl⟩ := hr
                          clear hE hx hxo H HF
                          go_wp2_with (first | (go_at_call 17; refine cC.mono ?_; rintro e w' ⟨rfl, nn, rfl⟩) | (go_at_call 18; refine (cA _ (pw_below_drewN (Below.refl _ _) _)).mono ?_; rintro e w2 ⟨NN, rfl, hb⟩; have hb : Below wr.heap.size wr w2 := below_step (pw_below_drewN (Below.refl _ _) _) hb; have HS5 := Aside0.mk ((hb.block _ (blk_lt HB5.out)).trans HB5.out); have HS2 := Aside0.mk ((hb.block _ (blk_lt HB2.out)).trans HB2.out); have HSP := Aside0.mk ((hb.block _ (blk_lt HBP.out)).trans HBP.out); have HSB := Aside0.mk (below_step HB1.out hb); have HSD := Aside0.mk (Mk.R_below HD.out hb); clear hb; have hc5 : w2.cell? ⟨w.heap.size + 1 + 1, 3, none⟩ = some (.int .i64 o.off) := blk_cell HS5.out 3; have hf5 := blk_frozen HS5.out 3; have HU2 := Aside0.mk (blk_far HS2.out (p := ⟨w.heap.size + 1 + 1, 3, none⟩) HNE.out (.int .i64 x)); have HUB := Aside0.mk (below_set (g := w.heap.size + 1 + 1) (j := 3) (v := .int .i64 x) HSB.out (by omega)); have hz20 : (w2.setCell ⟨w.heap.size + 1 + 1, 3, none⟩ (.int .i64 x)).cell? ⟨w.heap.size, 0, none⟩ = some (.int .i64 0) := blk_cell HU2.out 0; have hz21 : (w2.setCell ⟨w.heap.size + 1 + 1, 3, none⟩ (.int .i64 x)).cell? ⟨w.heap.size, 1, none⟩ = some (.int .i64 0) := blk_cell HU2.out 1; have hz22 : (w2.setCell ⟨w.heap.size + 1 + 1, 3, none⟩ (.int .i64 x)).cell? ⟨w.heap.size, 2, none⟩ = some (.int .i64 0) := blk_cell HU2.out 2; have hz23 : (w2.setCell ⟨w.heap.size + 1 + 1, 3, none⟩ (.int .i64 x)).cell? ⟨w.heap.size, 3, none⟩ = some (.int .i64 0) := blk_cell HU2.out 3; have hz24 : (w2.setCell ⟨w.heap.size + 1 + 1, 3, none⟩ (.int .i64 x)).cell? ⟨w.heap.size, 4, none⟩ = some (.int .i64 0) := blk_cell HU2.out 4; have hz25 : (w2.setCell ⟨w.heap.size + 1 + 1, 3, none⟩ (.int .i64 x)).cell? ⟨w.heap.size, 5, none⟩ = some (.string ⟨#[]⟩) := blk_cell HU2.out 5; have hz26 : (w2.setCell ⟨w.heap.size + 1 + 1, 3, none⟩ (.int .i64 x)).cell? ⟨w.heap.size, 6, none⟩ = some (.string ⟨#[]⟩) := blk_cell HU2.out 6; have hz27 : (w2.setCell ⟨w.heap.size + 1 + 1, 3, none⟩ (.int .i64 x)).cell? ⟨w.heap.size, 7, none⟩ = some (.slice none 0 0) := blk_cell HU2.out 7; have hf20 := blk_frozen HU2.out 0; have hf21 := blk_frozen HU2.out 1; have hf22 := blk_frozen HU2.out 2; have hf23 := blk_frozen HU2.out 3; have hf24 := blk_frozen HU2.out 4; have hf25 := blk_frozen HU2.out 5; have hf26 := blk_frozen HU2.out 6; have hf27 := blk_frozen HU2.out 7; skip))
                          try rw [Exit.noGoto_ret]
                          refine bodyPost_ret (results_ct rfl _ _ w.heap.size 24 #[.int .i64 0, .int .i64 0, .int .i64 0, .int .i64 0, .int .i64 0, .string ⟨#[]⟩, .string ⟨#[]⟩, .slice none 0 0] (0, 0) _ rfl (put8 _ _ _ _ _ _ _ _ HU2.out) hu24 rfl (by kernel_rfl)) rfl ?_
                          exact ⟨.slice none 0 0, rfl, Mk.R_nil _ _ _ _ _, below8 _ _ _ _ _ _ _ _ HUB.out (Nat.le_refl _)⟩
                        · have hE2 : atoiE v = false := by cases h : atoiE v with | false => rfl | true => exact absurd h hE
                          have cA := fun (W : World) (hW : Below wr.heap.size wr W) => (atoi_c v W (by omega) (G_below HGr.out hW)).1 hE2
                          rw [hx] at cA hxo
                          have HF : Aside0 (fieldsTo (ps.tail.drop (k + 1)) { o with off := x } = F0) := ⟨by rw [← HF.out, if_neg hE, ← hx]; rfl⟩
                          clear hE hE2 hx
                          go_wp2_with (first | (go_at_call 17; refine cC.mono ?_; rintro e w' ⟨rfl, nn, rfl⟩) | (go_at_call 18; refine (cA _ (pw_below_drewN (Below.refl _ _) _)).mono ?_; rintro e w2 ⟨rfl, hb⟩; have hb : Below wr.heap.size wr w2 := below_step (pw_below_drewN (Below.refl _ _) _) hb; have HS5 := Aside0.mk ((hb.block _ (blk_lt HB5.out)).trans HB5.out); have HS2 := Aside0.mk ((hb.block _ (blk_lt HB2.out)).trans HB2.out); have HSP := Aside0.mk ((hb.block _ (blk_lt HBP.out)).trans HBP.out); have HSB := Aside0.mk (below_step HB1.out hb); have HSD := Aside0.mk (Mk.R_below HD.out hb); clear hb; have hc5 : w2.cell? ⟨w.heap.size + 1 + 1, 3, none⟩ = some (.int .i64 o.off) := blk_cell HS5.out 3; have hf5 := blk_frozen HS5.out 3))
                          have HU5 : Aside0 ((w2.setCell ⟨w.heap.size + 1 + 1, 3, none⟩ (.int .i64 x)).heap[w.heap.size + 1 + 1]? = some (.cells #[.int .i64 o.kd, .int .i64 o.fd, .int .i64 o.n, .int .i64 x, .int .i64 o.fl, .string o.p, .string o.t, dv] 24 (0, 0))) := ⟨blk_put HS5.out 3 _ rfl⟩
                          have HU2 := Aside0.mk (blk_far HS2.out (p := ⟨w.heap.size + 1 + 1, 3, none⟩) HNE.out (.int .i64 x))
                          have HUP := Aside0.mk (blk_far HSP.out (p := ⟨w.heap.size + 1 + 1, 3, none⟩) HNE2.out (.int .i64 x))
                          have HUB := Aside0.mk (below_set (g := w.heap.size + 1 + 1) (j := 3) (v := .int .i64 x) HSB.out (by omega))
                          have HUD := Aside0.mk (Mk.R_mono (Mk.R_far (p := ⟨w.heap.size + 1 + 1, 3, none⟩) (Mk.R_types HSD.out HS5.out (by decide)) (fun _ hk => hk.2) (.int .i64 x)) (ok' := fun _ => True) (fun _ _ => trivial))
                          go_wp2
                          go_roundg g
                          case rel => exact ⟨k + 1, { o with off := x }, dv, by omega, by go_num, HF, ⟨⟨HOK.out.fd, HOK.out.n, hxo, HOK.out.fl, HOK.out.p, HOK.out.t, HOK.out.d⟩⟩, ⟨HUD.out⟩, HU5, HU2, HUP, HUB⟩
                          case measure => simp
                      · skip
                        by_cases k6 : key.toList = [102, 108, 97, 103, 115]
                        · rw [if_neg k0, if_neg k1, if_neg k2, if_neg k3, if_neg k4, if_neg k5, if_pos k6] at hF
                          have HF := Aside0.mk hF; clear hF
                          have kb0 : (key.toList == ([112, 97, 116, 104] : List UInt8)) = false := beq_eq_false_iff_ne.2 k0
                          have kb1 : (key.toList == ([116, 111] : List UInt8)) = false := beq_eq_false_iff_ne.2 k1
                          have kb2 : (key.toList == ([100, 97, 116, 97] : List UInt8)) = false := beq_eq_false_iff_ne.2 k2
                          have kb3 : (key.toList == ([102, 100] : List UInt8)) = false := beq_eq_false_iff_ne.2 k3
                          have kb4 : (key.toList == ([110] : List UInt8)) = false := beq_eq_false_iff_ne.2 k4
                          have kb5 : (key.toList == ([111, 102, 102] : List UInt8)) = false := beq_eq_false_iff_ne.2 k5
                          have kb6 : (key.toList == ([102, 108, 97, 103, 115] : List UInt8)) = true := beq_iff_eq.2 k6
                          clear k0 k1 k2 k3 k4 k5 k6
                          obtain ⟨x, hx⟩ : ∃ x, atoiV v = x := ⟨_, rfl⟩
                          have hxo := atoi_ok v
                          by_cases hE : atoiE v = true
                          · have cA := fun (W : World) (hW : Below wr.heap.size wr W) => (atoi_c v W (by omega) (G_below HGr.out hW)).2 hE
                            rw [hx] at cA hxo
                            have hFn : F0 = none := by rw [← HF.out, if_pos hE]; rfl
                            subst hFn
                            have hr := H.out
                            simp only [Prod.mk.injEq, zeroOp] at hr
                            obtain ⟨rfl, rfl, rfl, rfl, rfl, rfl, rfl, rfl, rfl⟩ := hr
                            clear hE hx hxo H HF
                            go_wp2_with (first | (go_at_call 17; refine cC.mono ?_; rintro e w' ⟨rfl, nn, rfl⟩) | (go_at_call 18; refine (cA _ (pw_below_drewN (Below.refl _ _) _)).mono ?_; rintro e w2 ⟨NN, rfl, hb⟩; have hb : Below wr.heap.size wr w2 := below_step (pw_below_drewN (Below.refl _ _) _) hb; have HS5 := Aside0.mk ((hb.block _ (blk_lt HB5.out)).trans HB5.out); have HS2 := Aside0.mk ((hb.block _ (blk_lt HB2.out)).trans HB2.out); have HSP := Aside0.mk ((hb.block _ (blk_lt HBP.out)).trans HBP.out); have HSB := Aside0.mk (below_step HB1.out hb); have HSD := Aside0.mk (Mk.R_below HD.out hb); clear hb; have hc5 : w2.cell? ⟨w.heap.size + 1 + 1, 4, none⟩ = some (.int .i64 o.fl) := blk_cell HS5.out 4; have hf5 := blk_frozen HS5.out 4; have HU2 := Aside0.mk (blk_far HS2.out (p := ⟨w.heap.size + 1 + 1, 4, none⟩) HNE.out (.int .i64 x)); have HUB := Aside0.mk (below_set (g := w.heap.size + 1 + 1) (j := 4) (v := .int .i64 x) HSB.out (by omega)); have hz20 : (w2.setCell ⟨w.heap.size + 1 + 1, 4, none⟩ (.int .i64 x)).cell? ⟨w.heap.size, 0, none⟩ = some (.int .i64 0) := blk_cell HU2.out 0; have hz21 : (w2.setCell ⟨w.heap.size + 1 + 1, 4, none⟩ (.int .i64 x)).cell? ⟨w.heap.size, 1, none⟩ = some (.int .i64 0) := blk_cell HU2.out 1; have hz22 : (w2.setCell ⟨w.heap.size + 1 + 1, 4, none⟩ (.int .i64 x)).cell? ⟨w.heap.size, 2, none⟩ = some (.int .i64 0) := blk_cell HU2.out 2; have hz23 : (w2.setCell ⟨w.heap.size + 1 + 1, 4, none⟩ (.int .i64 x)).cell? ⟨w.heap.size, 3, none⟩ = some (.int .i64 0) := blk_cell HU2.out 3; have hz24 : (w2.setCell ⟨w.heap.size + 1 + 1, 4, none⟩ (.int .i64 x)).cell? ⟨w.heap.size, 4, none⟩ = some (.int .i64 0) := blk_cell HU2.out 4; have hz25 : (w2.setCell ⟨w.heap.size + 1 + 1, 4, none⟩ (.int .i64 x)).cell? ⟨w.heap.size, 5, none⟩ = some (.string ⟨#[]⟩) := blk_cell HU2.out 5; have hz26 : (w2.setCell ⟨w.heap.size + 1 + 1, 4, none⟩ (.int .i64 x)).cell? ⟨w.heap.size, 6, none⟩ = some (.string ⟨#[]⟩) := blk_cell HU2.out 6; have hz27 : (w2.setCell ⟨w.heap.size + 1 + 1, 4, none⟩ (.int .i64 x)).cell? ⟨w.heap.size, 7, none⟩ = some (.slice none 0 0) := blk_cell HU2.out 7; have hf20 := blk_frozen HU2.out 0; have hf21 := blk_frozen HU2.out 1; have hf22 := blk_frozen HU2.out 2; have hf23 := blk_frozen HU2.out 3; have hf24 := blk_frozen HU2.out 4; have hf25 := blk_frozen HU2.out 5; have hf26 := blk_frozen HU2.out 6; have hf27 := blk_frozen HU2.out 7; skip))
                            try rw [Exit.noGoto_ret]
                            refine bodyPost_ret (results_ct rfl _ _ w.heap.size 24 #[.int .i64 0, .int .i64 0, .int .i64 0, .int .i64 0, .int .i64 0, .string ⟨#[]⟩, .string ⟨#[]⟩, .slice none 0 0] (0, 0) _ rfl (put8 _ _ _ _ _ _ _ _ HU2.out) hu24 rfl (by kernel_rfl)) rfl ?_
                            exact ⟨.slice none 0 0, rfl, Mk.R_nil _ _ _ _ _, below8 _ _ _ _ _ _ _ _ HUB.out (Nat.le_refl _)⟩
                          · have hE2 : atoiE v = false := by cases h : atoiE v with | false => rfl | true => exact absurd h hE
                            have cA := fun (W : World) (hW : Below wr.heap.size wr W) => (atoi_c v W (by omega) (G_below HGr.out hW)).1 hE2
                            rw [hx] at cA hxo
                            have HF : Aside0 (fieldsTo (ps.tail.drop (k + 1)) { o with fl := x } = F0) := ⟨by rw [← HF.out, if_neg hE, ← hx]; rfl⟩
                            clear hE hE2 hx
                            go_wp2_with (first | (go_at_call 17; refine cC.mono ?_; rintro e w' ⟨rfl, nn, rfl⟩) | (go_at_call 18; refine (cA _ (pw_below_drewN (Below.refl _ _) _)).mono ?_; rintro e w2 ⟨rfl, hb⟩; have hb : Below wr.heap.size wr w2 := below_step (pw_below_drewN (Below.refl _ _) _) hb; have HS5 := Aside0.mk ((hb.block _ (blk_lt HB5.out)).trans HB5.out); have HS2 := Aside0.mk ((hb.block _ (blk_lt HB2.out)).trans HB2.out); have HSP := Aside0.mk ((hb.block _ (blk_lt HBP.out)).trans HBP.out); have HSB := Aside0.mk (below_step HB1.out hb); have HSD := Aside0.mk (Mk.R_below HD.out hb); clear hb; have hc5 : w2.cell? ⟨w.heap.size + 1 + 1, 4, none⟩ = some (.int .i64 o.fl) := blk_cell HS5.out 4; have hf5 := blk_frozen HS5.out 4))
                            have HU5 : Aside0 ((w2.setCell ⟨w.heap.size + 1 + 1, 4, none⟩ (.int .i64 x)).heap[w.heap.size + 1 + 1]? = some (.cells #[.int .i64 o.kd, .int .i64 o.fd, .int .i64 o.n, .int .i64 o.off, .int .i64 x, .string o.p, .string o.t, dv] 24 (0, 0))) := ⟨blk_put HS5.out 4 _ rfl⟩
                            have HU2 := Aside0.mk (blk_far HS2.out (p := ⟨w.heap.size + 1 + 1, 4, none⟩) HNE.out (.int .i64 x))
                            have HUP := Aside0.mk (blk_far HSP.out (p := ⟨w.heap.size + 1 + 1, 4, none⟩) HNE2.out (.int .i64 x))
                            have HUB := Aside0.mk (below_set (g := w.heap.size + 1 + 1) (j := 4) (v := .int .i64 x) HSB.out (by omega))
                            have HUD := Aside0.mk (Mk.R_mono (Mk.R_far (p := ⟨w.heap.size + 1 + 1, 4, none⟩) (Mk.R_types HSD.out HS5.out (by decide)) (fun _ hk => hk.2) (.int .i64 x)) (ok' := fun _ => True) (fun _ _ => trivial))
                            go_wp2
                            go_roundg g
                            case rel => exact ⟨k + 1, { o with fl := x }, dv, by omega, by go_num, HF, ⟨⟨HOK.out.fd, HOK.out.n, HOK.out.off, hxo, HOK.out.p, HOK.out.t, HOK.out.d⟩⟩, ⟨HUD.out⟩, HU5, HU2, HUP, HUB⟩
                            case measure => simp
                        · skip
                          rw [if_neg k0, if_neg k1, if_neg k2, if_neg k3, if_neg k4, if_neg k5, if_neg k6] at hF
                          have HF := Aside0.mk hF; clear hF
                          have kb0 : (key.toList == ([112, 97, 116, 104] : List UInt8)) = false := beq_eq_false_iff_ne.2 k0
                          have kb1 : (key.toList == ([116, 111] : List UInt8)) = false := beq_eq_false_iff_ne.2 k1
                          have kb2 : (key.toList == ([100, 97, 116, 97] : List UInt8)) = false := beq_eq_false_iff_ne.2 k2
                          have kb3 : (key.toList == ([102, 100] : List UInt8)) = false := beq_eq_false_iff_ne.2 k3
                          have kb4 : (key.toList == ([110] : List UInt8)) = false := beq_eq_false_iff_ne.2 k4
                          have kb5 : (key.toList == ([111, 102, 102] : List UInt8)) = false := beq_eq_false_iff_ne.2 k5
                          have kb6 : (key.toList == ([102, 108, 97, 103, 115] : List UInt8)) = false := beq_eq_false_iff_ne.2 k6
                          clear k0 k1 k2 k3 k4 k5 k6
                          obtain ⟨x, hx⟩ : ∃ x, atoiV v = x := ⟨_, rfl⟩
                          have hxo := atoi_ok v
                          by_cases hE : atoiE v = true
                          · have cA := fun (W : World) (hW : Below wr.heap.size wr W) => (atoi_c v W (by omega) (G_below HGr.out hW)).2 hE
                            rw [hx] at cA hxo
                            have hFn : F0 = none := by rw [← HF.out, if_pos hE]; rfl
                            subst hFn
                            have hr := H.out
                            simp only [Prod.mk.injEq, zeroOp] at hr
                            obtain ⟨rfl, rfl, rfl, rfl, rfl, rfl, rfl, rfl, rfl⟩ := hr
                            clear hE hx hxo H HF
                            go_wp2_with (first | (go_at_call 17; refine cC.mono ?_; rintro e w' ⟨rfl, nn, rfl⟩) | (go_at_call 18; refine (cA _ (pw_below_drewN (Below.refl _ _) _)).mono ?_; rintro e w2 ⟨NN, rfl, hb⟩; have hb : Below wr.heap.size wr w2 := below_step (pw_below_drewN (Below.refl _ _) _) hb; have HS5 := Aside0.mk ((hb.block _ (blk_lt HB5.out)).trans HB5.out); have HS2 := Aside0.mk ((hb.block _ (blk_lt HB2.out)).trans HB2.out); have HSP := Aside0.mk ((hb.block _ (blk_lt HBP.out)).trans HBP.out); have HSB := Aside0.mk (below_step HB1.out hb); have HSD := Aside0.mk (Mk.R_below HD.out hb); clear hb; have hz20 : w2.cell? ⟨w.heap.size, 0, none⟩ = some (.int .i64 0) := blk_cell HS2.out 0; have hz21 : w2.cell? ⟨w.heap.size, 1, none⟩ = some (.int .i64 0) := blk_cell HS2.out 1; have hz22 : w2.cell? ⟨w.heap.size, 2, none⟩ = some (.int .i64 0) := blk_cell HS2.out 2; have hz23 : w2.cell? ⟨w.heap.size, 3, none⟩ = some (.int .i64 0) := blk_cell HS2.out 3; have hz24 : w2.cell? ⟨w.heap.size, 4, none⟩ = some (.int .i64 0) := blk_cell HS2.out 4; have hz25 : w2.cell? ⟨w.heap.size, 5, none⟩ = some (.string ⟨#[]⟩) := blk_cell HS2.out 5; have hz26 : w2.cell? ⟨w.heap.size, 6, none⟩ = some (.string ⟨#[]⟩) := blk_cell HS2.out 6; have hz27 : w2.cell? ⟨w.heap.size, 7, none⟩ = some (.slice none 0 0) := blk_cell HS2.out 7; have hf20 := blk_frozen HS2.out 0; have hf21 := blk_frozen HS2.out 1; have hf22 := blk_frozen HS2.out 2; have hf23 := blk_frozen HS2.out 3; have hf24 := blk_frozen HS2.out 4; have hf25 := blk_frozen HS2.out 5; have hf26 := blk_frozen HS2.out 6; have hf27 := blk_frozen HS2.out 7; skip))
                            try rw [Exit.noGoto_ret]
                            refine bodyPost_ret (results_ct rfl _ _ w.heap.size 24 #[.int .i64 0, .int .i64 0, .int .i64 0, .int .i64 0, .int .i64 0, .string ⟨#[]⟩, .string ⟨#[]⟩, .slice none 0 0] (0, 0) _ rfl (put8 _ _ _ _ _ _ _ _ HS2.out) hu24 rfl (by kernel_rfl)) rfl ?_
                            exact ⟨.slice none 0 0, rfl, Mk.R_nil _ _ _ _ _, below8 _ _ _ _ _ _ _ _ HSB.out (Nat.le_refl _)⟩
                          · have hE2 : atoiE v = false := by cases h : atoiE v with | false => rfl | true => exact absurd h hE
                            have cA := fun (W : World) (hW : Below wr.heap.size wr W) => (atoi_c v W (by omega) (G_below HGr.out hW)).1 hE2
                            rw [hx] at cA hxo
                            have HF : Aside0 (fieldsTo (ps.tail.drop (k + 1)) o = F0) := ⟨by rw [← HF.out, if_neg hE]; rfl⟩
                            clear hE hE2 hx
                            go_wp2_with (first | (go_at_call 17; refine cC.mono ?_; rintro e w' ⟨rfl, nn, rfl⟩) | (go_at_call 18; refine (cA _ (pw_below_drewN (Below.refl _ _) _)).mono ?_; rintro e w2 ⟨rfl, hb⟩; have hb : Below wr.heap.size wr w2 := below_step (pw_below_drewN (Below.refl _ _) _) hb; have HS5 := Aside0.mk ((hb.block _ (blk_lt HB5.out)).trans HB5.out); have HS2 := Aside0.mk ((hb.block _ (blk_lt HB2.out)).trans HB2.out); have HSP := Aside0.mk ((hb.block _ (blk_lt HBP.out)).trans HBP.out); have HSB := Aside0.mk (below_step HB1.out hb); have HSD := Aside0.mk (Mk.R_below HD.out hb); clear hb))
                            go_roundg g
                            case rel => exact ⟨k + 1, o, dv, by omega, by go_num, HF, ⟨HOK.out⟩, ⟨HSD.out⟩, HS5, HS2, HSP, HSB⟩
                            case measure => simp
          · obtain rfl : k = nq := by omega
            have hF : F0 = some o := by
              rw [← HF.out, List.drop_eq_nil_of_le (by have := HL.out; simp; omega)]; rfl
            subst hF
            dsimp only at H
            obtain ⟨A7, c7, e7⟩ := Mk.R_slice HD.out
            subst e7
            have hc50 : wr.cell? ⟨w.heap.size + 1 + 1, 0, none⟩ = some (.int .i64 o.kd) := blk_cell HB5.out 0
            have hc51 : wr.cell? ⟨w.heap.size + 1 + 1, 1, none⟩ = some (.int .i64 o.fd) := blk_cell HB5.out 1
            have hc52 : wr.cell? ⟨w.heap.size + 1 + 1, 2, none⟩ = some (.int .i64 o.n) := blk_cell HB5.out 2
            have hc53 : wr.cell? ⟨w.heap.size + 1 + 1, 3, none⟩ = some (.int .i64 o.off) := blk_cell HB5.out 3
            have hc54 : wr.cell? ⟨w.heap.size + 1 + 1, 4, none⟩ = some (.int .i64 o.fl) := blk_cell HB5.out 4
            have hc55 : wr.cell? ⟨w.heap.size + 1 + 1, 5, none⟩ = some (.string o.p) := blk_cell HB5.out 5
            have hc56 : wr.cell? ⟨w.heap.size + 1 + 1, 6, none⟩ = some (.string o.t) := blk_cell HB5.out 6
            have hc57 : wr.cell? ⟨w.heap.size + 1 + 1, 7, none⟩ = some (.slice A7 o.d.length c7) := blk_cell HB5.out 7
            have hz20 : wr.cell? ⟨w.heap.size, 0, none⟩ = some (.int .i64 0) := blk_cell HB2.out 0
            have hz21 : wr.cell? ⟨w.heap.size, 1, none⟩ = some (.int .i64 0) := blk_cell HB2.out 1
            have hz22 : wr.cell? ⟨w.heap.size, 2, none⟩ = some (.int .i64 0) := blk_cell HB2.out 2
            have hz23 : wr.cell? ⟨w.heap.size, 3, none⟩ = some (.int .i64 0) := blk_cell HB2.out 3
            have hz24 : wr.cell? ⟨w.heap.size, 4, none⟩ = some (.int .i64 0) := blk_cell HB2.out 4
            have hz25 : wr.cell? ⟨w.heap.size, 5, none⟩ = some (.string ⟨#[]⟩) := blk_cell HB2.out 5
            have hz26 : wr.cell? ⟨w.heap.size, 6, none⟩ = some (.string ⟨#[]⟩) := blk_cell HB2.out 6
            have hz27 : wr.cell? ⟨w.heap.size, 7, none⟩ = some (.slice none 0 0) := blk_cell HB2.out 7
            have hf20 := blk_frozen HB2.out 0
            have hf21 := blk_frozen HB2.out 1
            have hf22 := blk_frozen HB2.out 2
            have hf23 := blk_frozen HB2.out 3
            have hf24 := blk_frozen HB2.out 4
            have hf25 := blk_frozen HB2.out 5
            have hf26 := blk_frozen HB2.out 6
            have hf27 := blk_frozen HB2.out 7
            by_cases he : a0.toList = []
            · rw [if_pos (.inl he)] at H
              have hr := H.out
              simp only [Prod.mk.injEq, zeroOp] at hr
              obtain ⟨rfl, rfl, rfl, rfl, rfl, rfl, rfl, rfl, rfl⟩ := hr
              have b1 : (a0.toList == ([] : List UInt8)) = true := beq_iff_eq.2 he
              have b1e : a0.toList.isEmpty = true := by rw [he]; rfl
              clear he H
              go_wp2
              try rw [Exit.noGoto_ret]
              refine bodyPost_ret (results_ct rfl _ _ w.heap.size 24 #[.int .i64 0, .int .i64 0, .int .i64 0, .int .i64 0, .int .i64 0, .string ⟨#[]⟩, .string ⟨#[]⟩, .slice none 0 0] (0, 0) _ rfl (put8 _ _ _ _ _ _ _ _ HB2.out) hu24 rfl (by kernel_rfl)) rfl ?_
              exact ⟨.slice none 0 0, rfl, Mk.R_nil _ _ _ _ _, below8 _ _ _ _ _ _ _ _ HB1.out (Nat.le_refl _)⟩
            · have hsay : spell_Say.f o.kd o.fd o.n o.off o.fl o.p o.t o.d = some o.say := by
                unfold spell_Say.f
                rw [if_pos ⟨⟨HOK.out.fd, HOK.out.n, HOK.out.off, HOK.out.fl⟩, by have := HOK.out.p; omega, by have := HOK.out.t; omega, by have := HOK.out.d; omega⟩]
                rfl
              have cSay := spell_Say.calls o.kd o.fd o.n o.off o.fl o.p o.t A7 c7 o.d o.say wr (G_below HG.out HB1.out) (Mk.R_reads' HD.out).2.2 (Mk.R_reads' HD.out).2.1 hsay
              clear hsay
              have b1 : (a0.toList == ([] : List UInt8)) = false := beq_eq_false_iff_ne.2 he
              have b1e : a0.toList.isEmpty = false := by cases h : a0.toList.isEmpty with | false => rfl | true => exact absurd (List.isEmpty_iff.1 h) he
              by_cases hy : o.say.toList = a0.toList
              · rw [if_neg (by rintro (h | h); exact he h; exact h hy)] at H
                have hr := H.out
                simp only [Prod.mk.injEq] at hr
                clear H
                generalize o.say = sy at *
                have b2 : (sy.toList == a0.toList) = true := beq_iff_eq.2 hy
                have b2n : (sy.toList != a0.toList) = false := bne_eq_false_iff_eq.2 hy
                have HR := Aside0.mk hr
                clear he hy hr
                go_wp2_with (go_at_call 10; refine cSay.mono ?_; rintro e w2 ⟨rfl, hb⟩; have HS2 := Aside0.mk ((hb.block _ (blk_lt HB2.out)).trans HB2.out); have HS5 := Aside0.mk ((hb.block _ (blk_lt HB5.out)).trans HB5.out); have HSB := Aside0.mk (below_step HB1.out hb); have HSD := Aside0.mk (Mk.R_below HD.out hb); clear hb; have hd50 : w2.cell? ⟨w.heap.size + 1 + 1, 0, none⟩ = some (.int .i64 o.kd) := blk_cell HS5.out 0; have hd51 : w2.cell? ⟨w.heap.size + 1 + 1, 1, none⟩ = some (.int .i64 o.fd) := blk_cell HS5.out 1; have hd52 : w2.cell? ⟨w.heap.size + 1 + 1, 2, none⟩ = some (.int .i64 o.n) := blk_cell HS5.out 2; have hd53 : w2.cell? ⟨w.heap.size + 1 + 1, 3, none⟩ = some (.int .i64 o.off) := blk_cell HS5.out 3; have hd54 : w2.cell? ⟨w.heap.size + 1 + 1, 4, none⟩ = some (.int .i64 o.fl) := blk_cell HS5.out 4; have hd55 : w2.cell? ⟨w.heap.size + 1 + 1, 5, none⟩ = some (.string o.p) := blk_cell HS5.out 5; have hd56 : w2.cell? ⟨w.heap.size + 1 + 1, 6, none⟩ = some (.string o.t) := blk_cell HS5.out 6; have hd57 : w2.cell? ⟨w.heap.size + 1 + 1, 7, none⟩ = some (.slice A7 o.d.length c7) := blk_cell HS5.out 7; have hd20 : w2.cell? ⟨w.heap.size, 0, none⟩ = some (.int .i64 0) := blk_cell HS2.out 0; have hd21 : w2.cell? ⟨w.heap.size, 1, none⟩ = some (.int .i64 0) := blk_cell HS2.out 1; have hd22 : w2.cell? ⟨w.heap.size, 2, none⟩ = some (.int .i64 0) := blk_cell HS2.out 2; have hd23 : w2.cell? ⟨w.heap.size, 3, none⟩ = some (.int .i64 0) := blk_cell HS2.out 3; have hd24 : w2.cell? ⟨w.heap.size, 4, none⟩ = some (.int .i64 0) := blk_cell HS2.out 4; have hd25 : w2.cell? ⟨w.heap.size, 5, none⟩ = some (.string ⟨#[]⟩) := blk_cell HS2.out 5; have hd26 : w2.cell? ⟨w.heap.size, 6, none⟩ = some (.string ⟨#[]⟩) := blk_cell HS2.out 6; have hd27 : w2.cell? ⟨w.heap.size, 7, none⟩ = some (.slice none 0 0) := blk_cell HS2.out 7; have hg20 := blk_frozen HS2.out 0; have hg21 := blk_frozen HS2.out 1; have hg22 := blk_frozen HS2.out 2; have hg23 := blk_frozen HS2.out 3; have hg24 := blk_frozen HS2.out 4; have hg25 := blk_frozen HS2.out 5; have hg26 := blk_frozen HS2.out 6; have hg27 := blk_frozen HS2.out 7; skip)
                try rw [Exit.noGoto_ret]
                obtain ⟨rfl, rfl, rfl, rfl, rfl, rfl, rfl, rfl, rfl⟩ := HR.out
                refine bodyPost_ret (results_ct rfl _ _ w.heap.size 24 #[.int .i64 o.kd, .int .i64 o.fd, .int .i64 o.n, .int .i64 o.off, .int .i64 o.fl, .string o.p, .string o.t, .slice A7 o.d.length c7] (0, 0) _ rfl (put8 _ _ _ _ _ _ _ _ HS2.out) hu24 rfl (by kernel_rfl)) rfl ?_
                exact ⟨.slice A7 o.d.length c7, rfl, R8 _ _ _ _ _ _ _ _ HSD.out HS2.out, below8 _ _ _ _ _ _ _ _ HSB.out (Nat.le_refl _)⟩
              · rw [if_pos (.inr hy)] at H
                have hr := H.out
                simp only [Prod.mk.injEq, zeroOp] at hr
                obtain ⟨rfl, rfl, rfl, rfl, rfl, rfl, rfl, rfl, rfl⟩ := hr
                clear H
                generalize o.say = sy at *
                have b2 : (sy.toList == a0.toList) = false := beq_eq_false_iff_ne.2 hy
                have b2n : (sy.toList != a0.toList) = true := bne_iff_ne.2 hy
                clear he hy
                go_wp2_with (go_at_call 10; refine cSay.mono ?_; rintro e w2 ⟨rfl, hb⟩; have HS2 := Aside0.mk ((hb.block _ (blk_lt HB2.out)).trans HB2.out); have HS5 := Aside0.mk ((hb.block _ (blk_lt HB5.out)).trans HB5.out); have HSB := Aside0.mk (below_step HB1.out hb); have HSD := Aside0.mk (Mk.R_below HD.out hb); clear hb; have hd50 : w2.cell? ⟨w.heap.size + 1 + 1, 0, none⟩ = some (.int .i64 o.kd) := blk_cell HS5.out 0; have hd51 : w2.cell? ⟨w.heap.size + 1 + 1, 1, none⟩ = some (.int .i64 o.fd) := blk_cell HS5.out 1; have hd52 : w2.cell? ⟨w.heap.size + 1 + 1, 2, none⟩ = some (.int .i64 o.n) := blk_cell HS5.out 2; have hd53 : w2.cell? ⟨w.heap.size + 1 + 1, 3, none⟩ = some (.int .i64 o.off) := blk_cell HS5.out 3; have hd54 : w2.cell? ⟨w.heap.size + 1 + 1, 4, none⟩ = some (.int .i64 o.fl) := blk_cell HS5.out 4; have hd55 : w2.cell? ⟨w.heap.size + 1 + 1, 5, none⟩ = some (.string o.p) := blk_cell HS5.out 5; have hd56 : w2.cell? ⟨w.heap.size + 1 + 1, 6, none⟩ = some (.string o.t) := blk_cell HS5.out 6; have hd57 : w2.cell? ⟨w.heap.size + 1 + 1, 7, none⟩ = some (.slice A7 o.d.length c7) := blk_cell HS5.out 7; have hd20 : w2.cell? ⟨w.heap.size, 0, none⟩ = some (.int .i64 0) := blk_cell HS2.out 0; have hd21 : w2.cell? ⟨w.heap.size, 1, none⟩ = some (.int .i64 0) := blk_cell HS2.out 1; have hd22 : w2.cell? ⟨w.heap.size, 2, none⟩ = some (.int .i64 0) := blk_cell HS2.out 2; have hd23 : w2.cell? ⟨w.heap.size, 3, none⟩ = some (.int .i64 0) := blk_cell HS2.out 3; have hd24 : w2.cell? ⟨w.heap.size, 4, none⟩ = some (.int .i64 0) := blk_cell HS2.out 4; have hd25 : w2.cell? ⟨w.heap.size, 5, none⟩ = some (.string ⟨#[]⟩) := blk_cell HS2.out 5; have hd26 : w2.cell? ⟨w.heap.size, 6, none⟩ = some (.string ⟨#[]⟩) := blk_cell HS2.out 6; have hd27 : w2.cell? ⟨w.heap.size, 7, none⟩ = some (.slice none 0 0) := blk_cell HS2.out 7; have hg20 := blk_frozen HS2.out 0; have hg21 := blk_frozen HS2.out 1; have hg22 := blk_frozen HS2.out 2; have hg23 := blk_frozen HS2.out 3; have hg24 := blk_frozen HS2.out 4; have hg25 := blk_frozen HS2.out 5; have hg26 := blk_frozen HS2.out 6; have hg27 := blk_frozen HS2.out 7; skip)
                try rw [Exit.noGoto_ret]
                refine bodyPost_ret (results_ct rfl _ _ w.heap.size 24 #[.int .i64 0, .int .i64 0, .int .i64 0, .int .i64 0, .int .i64 0, .string ⟨#[]⟩, .string ⟨#[]⟩, .slice none 0 0] (0, 0) _ rfl (put8 _ _ _ _ _ _ _ _ HS2.out) hu24 rfl (by kernel_rfl)) rfl ?_
                exact ⟨.slice none 0 0, rfl, Mk.R_nil _ _ _ _ _, below8 _ _ _ _ _ _ _ _ HSB.out (Nat.le_refl _)⟩
end Go.Proofs.YtibjgmhhecbhbaaDoor.Hand
