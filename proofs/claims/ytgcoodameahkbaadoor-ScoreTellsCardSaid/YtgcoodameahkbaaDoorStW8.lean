/- slices.stableCmpFunc, of at most forty elements: ordered by the keys. -/
import Derived.Test.YtgcoodameahkbaaDoorStW7
import Derived.Test.YtgcoodameahkbaaDoorShelf
namespace Go.Proofs.YtgcoodameahkbaaDoor.Stable
set_option linter.unusedVariables false
set_option linter.unusedSimpArgs false
open Go.Shelf Go.RowKit Go.Lib Go.Sort
variable {α : Type} [Inhabited α]

/-- Insertion, as the stable sort wants it. -/
theorem ins_i (enc : α → Value) (cf : α → α → Int) (P : α → Nat) (K : α → Int) (hJ : Judges cf (pl P) K) (g : Nat) (cb : Array Value) (blk off cap : Nat) (d0 : Array α) (w0 : World)
    (eg : ∀ args w, (callFunc g args).run Tryd.prog w = .ok (.enter g args) w) (hcmp : CmpLays1 Tryd.prog g cb enc cf blk off d0.size w0)
    (R : Row1 enc w0 blk off d0) (a b z : Nat) (A B : Int) (d : Array α) (w : World) (hz : d.size = z) (h0 : d0.size = z) (hA : (a : Int) = A) (hB : (b : Int) = B) (S : SW enc w0 blk off d w) (hab : a ≤ b) (hb : b ≤ z) (hsz : z < 4611686018427387904)
    (hP : ∀ k l, a ≤ k → k < l → l < b → P d[k]! < P d[l]!) :
    Calls Tryd.prog 56 #[.slice (some ⟨blk, off, none⟩) z cap, .int .i64 A, .int .i64 B, .func (.func g) #[] cb] w fun e w' => e = .returned (.tuple #[]) ∧ ∃ d', SW enc w0 blk off d' w' ∧ Done K a b d d' := by
  subst hz hA hB
  refine (Tryd.insertionSortCmpFunc_s enc cf g cb blk off cap a b d0 d w0 w eg hcmp R h0 S hab hb hsz).mono ?_
  rintro e w' ⟨he, hS⟩
  refine ⟨he, _, hS, ins_done (ltOf cf) K d a b hab hb fun k l h1 h2 h3 => ?_⟩
  rw [show ltOf cf d[l]! d[k]! = decide (cf d[l]! d[k]! < 0) from rfl, decide_eq_true_eq]
  refine hJ _ _ ?_
  show (P _ : Int) < (P _ : Int)
  have := hP k l h1 h2 h3
  omega

set_option maxHeartbeats 16000000 in
set_option maxRecDepth 1000000 in
/-- slices.stableCmpFunc, where there are at most forty. -/
theorem stable_c (enc : α → Value) (cf : α → α → Int) (P : α → Nat) (K : α → Int) (hJ : Judges cf (pl P) K) (g : Nat) (cb : Array Value) (blk off cap z : Nat) (d0 d : Array α) (w0 w : World)
    (eg : ∀ args w, (callFunc g args).run Tryd.prog w = .ok (.enter g args) w) (hcmp : CmpLays1 Tryd.prog g cb enc cf blk off d0.size w0)
    (R : Row1 enc w0 blk off d0) (hz : d.size = z) (h0 : d0.size = z) (S : SW enc w0 blk off d w) (hz40 : z ≤ 40) (hP : ∀ k, k < z → P d[k]! = k) :
    Calls Tryd.prog 51 #[.slice (some ⟨blk, off, none⟩) z cap, .int .i64 z, .func (.func g) #[] cb] w fun e w' => e = .returned (.tuple #[]) ∧ ∃ d', SW enc w0 blk off d' w' ∧ Done K 0 z d d' := by
  have HINS : Aside (∀ (a b : Nat) (A B : Int) (dk : Array α) (w : World), dk.size = z → (a : Int) = A → (b : Int) = B → SW enc w0 blk off dk w → a ≤ b → b ≤ z → (∀ k l, a ≤ k → k < l → l < b → P dk[k]! < P dk[l]!) →
      Calls Tryd.prog 56 #[.slice (some ⟨blk, off, none⟩) z cap, .int .i64 A, .int .i64 B, .func (.func g) #[] cb] w fun e w' => e = .returned (.tuple #[]) ∧ ∃ d', SW enc w0 blk off d' w' ∧ Done K a b dk d') :=
    fun a b A B dk w q1 q2 q3 q4 q5 q6 q7 => ins_i enc cf P K hJ g cb blk off cap d0 w0 eg hcmp R a b z A B dk w q1 h0 q2 q3 q4 q5 q6 (by omega) q7
  have HSYM : Aside (∀ (a m b : Nat) (A M B : Int) (dk : Array α) (w : World), dk.size = z → (a : Int) = A → (m : Int) = M → (b : Int) = B → SW enc w0 blk off dk w → a < m → m < b → b ≤ z → Two (pl P) K a m b dk →
      Calls Tryd.prog 57 #[.slice (some ⟨blk, off, none⟩) z cap, .int .i64 A, .int .i64 M, .int .i64 B, .func (.func g) #[] cb] w fun e w' => e = .returned (.tuple #[]) ∧ ∃ d', SW enc w0 blk off d' w' ∧ Done K a b dk d') :=
    fun a m b A M B dk w q1 q2 q3 q4 q5 q6 q7 q8 q9 => sym_all enc cf (pl P) K hJ g cb blk off cap d0 w0 eg hcmp R (b - a + 1) a m b z A M B dk w (by omega) q1 h0 q2 q3 q4 q5 q6 q7 q8 (by omega) q9
  have S0 : Aside (SW enc w0 blk off d w) := S
  have HP : Aside _ := hP
  have HZ := Lib.hid hz
  clear hcmp R S hJ hP hz h0 eg
  go_enter Tryd.func51, Tryd.ntmps51
  go_wp2
  go_loopg [7, 8] (z + 20) (fun g1 va vb wr => ∃ (av bv c : Nat) (dk : Array α), va = .int .i64 av ∧ vb = .int .i64 bv ∧ Aside (av = 20 * c) ∧ Aside (bv = av + 20) ∧ av ≤ z ∧ bv ≤ 60 ∧ z + 20 - av ≤ g1 ∧ Aside (SW enc w0 blk off dk wr) ∧ Hid (dk.size = z) ∧ Aside (Blks P K z c d dk))
  case atStart => exact ⟨0, 20, 0, d, by first | rfl | go_num, by first | rfl | go_num, rfl, rfl, by omega, by omega, by omega, S0, HZ.out, Blks.zero HP.out⟩
  case round =>
    clear S0
    obtain ⟨av, bv, c, dk, rfl, rfl, ha, hb, haz, hb60, hg1, S1, HK, HB⟩ := hrel
    have hin : Aside (∀ b, b ≤ z → ∀ k l, av ≤ k → k < l → l < b → P dk[k]! < P dk[l]!) := fun b hb k l h1 h2 h3 => by
      have h1' : 20 * c ≤ k := by have := ha.out; omega
      rw [HB.out.rest k h1', HB.out.rest l (by omega), HP.out k (by omega), HP.out l (by omega)]
      exact h2
    by_cases hlt : bv ≤ z
    · have hltz : (bv : Int) ≤ (z : Int) := by omega
      go_wp2_with fail
      with_reducible refine (HINS.out av bv av bv dk _ HK.out rfl rfl S1.out (by have := hb.out; omega) hlt (hin.out bv hlt)).mono ?_
      rintro e w1 ⟨rfl, d1, S2, D1⟩
      have S3 : Aside (SW enc w0 blk off d1 w1) := S2
      have HK1 := Lib.hid (D1.perm.1.trans HK.out)
      have hn : z ≤ d.size := by rw [HZ.out]; omega
      have HB1 : Aside (Blks P K z (c + 1) d d1) := HB.out.step hn (by have := hb.out; have := ha.out; omega) hlt (by have := hb.out; have := ha.out; omega) (Or.inl (by have := hb.out; have := ha.out; omega)) (by rw [← ha.out]; exact D1)
      have ha1 : Aside (bv = 20 * (c + 1)) := by have := hb.out; have := ha.out; show _ = _; omega
      have hab : av < bv := by have := hb.out; omega
      clear S1 S2 D1 HB HK hin hn ha hb
      go_wp2
      go_roundg (z + 20 - bv)
      case measure => omega
      case rel => exact ⟨bv, bv + 20, c + 1, d1, rfl, by first | rfl | go_num | (congr 1; omega), ha1, rfl, by omega, by omega, Nat.le_refl _, S3, HK1, HB1⟩
    · have hltz : ¬ (bv : Int) ≤ (z : Int) := by omega
      go_wp2_with fail
      with_reducible refine (HINS.out av z av z dk _ HK.out rfl rfl S1.out haz (Nat.le_refl _) (hin.out z (Nat.le_refl _))).mono ?_
      rintro e w1 ⟨rfl, d1, S2, D1⟩
      have S3 : Aside (SW enc w0 blk off d1 w1) := S2
      have HK1 := Lib.hid (D1.perm.1.trans HK.out)
      have hn : z ≤ d.size := by rw [HZ.out]; omega
      have HB1 : Aside (Blks P K z (c + 1) d d1) := HB.out.step hn (by have := ha.out; omega) (Nat.le_refl _) (by have := hb.out; have := ha.out; omega) (Or.inr rfl) (by rw [← ha.out]; exact D1)
      obtain ⟨c1, hc1, hc2⟩ : ∃ q, q = c + 1 ∧ z ≤ 20 * q := ⟨c + 1, rfl, by have := hb.out; have := ha.out; omega⟩
      rw [← hc1] at HB1
      clear S1 S2 D1 HB HK hin hn ha hb hc1
      go_wp2
      go_loopg [6] 60 (fun g1 v6 wr => ∃ (bs : Nat) (dk : Array α), v6 = .int .i64 bs ∧ (bs = 20 ∨ bs = 40) ∧ 60 - bs ≤ g1 ∧ Aside (SW enc w0 blk off dk wr) ∧ Hid (dk.size = z) ∧ Aside (bs = 20 → Blks P K z c1 d dk) ∧ Aside (bs = 40 → Done K 0 z d dk))
      case atStart => exact ⟨20, d1, by first | rfl | go_num, Or.inl rfl, by omega, S3, HK1, (fun _ => HB1.out : 20 = 20 → Blks P K z c1 d d1), ((fun h => absurd h (by decide)) : 20 = 40 → Done K 0 z d d1)⟩
      case round =>
        clear S3 HB1 HK1
        obtain ⟨bs, dk, rfl, hbs, hg2, S1, HK, HB, HD⟩ := hrel
        by_cases hlt2 : bs < z
        · have hltz2 : (bs : Int) < (z : Int) := by omega
          have hbs : Hid (bs = 20) := (by omega : bs = 20)
          have hg4 := hg2
          rw [hbs.out] at hg4
          have HB : Aside (Blks P K z c1 d dk) := HB.out hbs.out
          have h2b : (2 : Int) * (bs : Int) = 40 := by have := hbs.out; omega
          have HT : Aside (Two (pl P) K 0 20 z dk) := HB.out.two hc2 (by have := hbs.out; omega) hz40
          have HPm : Aside (PermIn 0 z d dk) := HB.out.perm
          clear HD HB
          go_wp2
          clear h2b
          go_loopg [7, 8] 100 (fun g1 va vb wr => ∃ (av bv : Nat) (dq : Array α), va = .int .i64 av ∧ vb = .int .i64 bv ∧ Aside (bv = av + 40) ∧ (av = 0 ∨ av = 40) ∧ 100 - av ≤ g1 ∧ Aside (SW enc w0 blk off dq wr) ∧ Hid (dq.size = z) ∧ Aside (av = 0 → Two (pl P) K 0 20 z dq ∧ PermIn 0 z d dq) ∧ Aside (av = 40 → z = 40 ∧ Done K 0 z d dq))
          case atStart => exact ⟨0, 40, dk, by first | rfl | go_num, by first | rfl | go_num, (rfl : 40 = 0 + 40), Or.inl rfl, by omega, S1, HK, ((fun _ => ⟨HT.out, HPm.out⟩) : 0 = 0 → Two (pl P) K 0 20 z dk ∧ PermIn 0 z d dk), ((fun h => absurd h (by decide)) : 0 = 40 → z = 40 ∧ Done K 0 z d dk)⟩
          case round =>
            clear S1 HT HPm HK
            obtain ⟨av, bv, dq, rfl, rfl, hb, hav, hg3, S1, HK, H0, H1⟩ := hrel
            have h2b : (bs : Int) * 2 = 40 := by have := hbs.out; omega
            have h2c : (2 : Int) * (bs : Int) = 40 := by have := hbs.out; omega
            by_cases hav0 : Hid (av = 0)
            · obtain ⟨T, Pm⟩ := H0.out hav0.out
              by_cases hlt3 : bv ≤ z
              · have hltz3 : (bv : Int) ≤ (z : Int) := by omega
                have hz4 : Hid (z = 40) := (by have := hb.out; have := hav0.out; omega : z = 40)
                go_wp2_with fail
                with_reducible refine (HSYM.out av (av + bs) bv av ((av : Int) + (bs : Int)) bv dq _ HK.out rfl (by omega) rfl S1.out (by have := hbs.out; omega) (by have := hbs.out; have := hb.out; omega) hlt3 (by rw [hav0.out, show 0 + bs = 20 by have := hbs.out; omega, show bv = z by have := hb.out; have := hav0.out; have := hz4.out; omega]; exact T)).mono ?_
                rintro e w1 ⟨rfl, d1, S2, D1⟩
                have S3 : Aside (SW enc w0 blk off d1 w1) := S2
                have HK1 := Lib.hid (D1.perm.1.trans HK.out)
                have D2 : Aside (bv = 40 → z = 40 ∧ Done K 0 z d d1) := fun _ => by
                  rw [hav0.out, show bv = z by have := hb.out; have := hav0.out; have := hz4.out; omega] at D1
                  exact ⟨hz4.out, permIn_trans _ _ _ _ _ Pm D1.perm, D1.ord⟩
                have D0 : Aside (bv = 0 → Two (pl P) K 0 20 z d1 ∧ PermIn 0 z d d1) := fun h => absurd h (by have := hb.out; omega)
                have hb4 : bv = 0 ∨ bv = 40 := by have := hb.out; have := hav0.out; omega
                have hb5 : 100 - bv < gk := by have := hb.out; have := hav0.out; omega
                clear S1 S2 D1 T Pm H0 H1 HK hav
                go_wp2
                go_roundg (100 - bv)
                case measure => omega
                case rel => exact ⟨bv, bv + 40, d1, rfl, by first | rfl | go_num | (congr 1; omega), rfl, hb4, Nat.le_refl _, S3, HK1, D0, D2⟩
              · have hltz3 : ¬ (bv : Int) ≤ (z : Int) := by omega
                have hm : (av : Int) + (bs : Int) < (z : Int) := by have := hbs.out; have := hav0.out; omega
                go_wp2_with fail
                with_reducible refine (HSYM.out av (av + bs) z av ((av : Int) + (bs : Int)) z dq _ HK.out rfl (by omega) rfl S1.out (by have := hbs.out; omega) (by omega) (Nat.le_refl _) (by rw [hav0.out, show 0 + bs = 20 by have := hbs.out; omega]; exact T)).mono ?_
                rintro e w1 ⟨rfl, d1, S2, D1⟩
                have S3 : Aside (SW enc w0 blk off d1 w1) := S2
                have HK1 := Lib.hid (D1.perm.1.trans HK.out)
                have D2 : Aside (Done K 0 z d d1) := by
                  rw [hav0.out] at D1
                  exact ⟨permIn_trans _ _ _ _ _ Pm D1.perm, D1.ord⟩
                clear S1 S2 D1 T Pm H0 H1 HK hav
                go_wp2
                go_roundg (60 - 40)
                case measure => omega
                case rel => exact ⟨40, d1, by first | rfl | go_num | (congr 1; omega), Or.inr rfl, Nat.le_refl _, S3, HK1, ((fun h => absurd h (by decide)) : 40 = 20 → Blks P K z c1 d d1), ((fun _ => D2.out) : 40 = 40 → Done K 0 z d d1)⟩
            · have hav4 : Hid (av = 40) := (by have : ¬ av = 0 := hav0; omega : av = 40)
              obtain ⟨hz4, D1⟩ := H1.out hav4.out
              have HZ4 := Lib.hid hz4
              clear hz4
              have hltz3 : ¬ (bv : Int) ≤ (z : Int) := by have := HZ4.out; have := hav4.out; have := hb.out; omega
              have hm : ¬ (av : Int) + (bs : Int) < (z : Int) := by have := HZ4.out; have := hav4.out; have := hbs.out; omega
              have D2 : Aside (Done K 0 z d dq) := D1
              have hav5 : av ≤ 40 := by have := hav4.out; omega
              have hbs5 : bs ≤ 40 := by have := hbs.out; omega
              clear D1 H0 H1 hav
              go_wp2
              go_roundg (60 - 40)
              case measure => omega
              case rel => exact ⟨40, dq, by first | rfl | go_num | (congr 1; omega), Or.inr rfl, Nat.le_refl _, S1, HK, ((fun h => absurd h (by decide)) : 40 = 20 → Blks P K z c1 d dq), ((fun _ => D2.out) : 40 = 40 → Done K 0 z d dq)⟩
        · have hltz2 : ¬ (bs : Int) < (z : Int) := by omega
          have D : Aside (Done K 0 z d dk) := by
            rcases hbs with h | h
            · exact (HB.out h).all hc2 (by omega)
            · exact HD.out h
          clear HB HD
          go_wp2
          go_end0
          exact ⟨rfl, dk, S1.out, D.out⟩
end Go.Proofs.YtgcoodameahkbaaDoor.Stable
