/- slices.symMergeCmpFunc where neither part is one alone, the first half's end within the left part. -/
import Derived.Test.YtgcoodameahkbaaDoorStW4
import Derived.Test.YtgcoodameahkbaaDoorStC
import Derived.Deep.DeepCutAuto
namespace Go.Proofs.YtgcoodameahkbaaDoor.Stable
set_option linter.unusedVariables false
set_option linter.unusedSimpArgs false
open Go.Shelf Go.RowKit Go.Lib Go.Sort
variable {α : Type} [Inhabited α]

set_option maxHeartbeats 32000000 in
set_option maxRecDepth 1000000 in
/-- slices.symMergeCmpFunc where neither part is one alone. -/
theorem sym_rec_hi (enc : α → Value) (cf : α → α → Int) (I K : α → Int) (hJ : Judges cf I K) (g : Nat) (cb : Array Value) (blk off cap a m b mid : Nat) (d0 d : Array α) (w0 w : World)
    (eg : ∀ args w, (callFunc g args).run Tryd.prog w = .ok (.enter g args) w) (hcmp : CmpLays1 Tryd.prog g cb enc cf blk off d0.size w0)
    (R : Row1 enc w0 blk off d0) (hs : d0.size = d.size) (S : SW enc w0 blk off d w) (ham : a + 1 < m) (hmb : m + 1 < b) (hb : b ≤ d.size) (hsz : d.size < 4611686018427387904) (T : Two I K a m b d)
    (hmid : mid = (a + b) / 2) (hmm : mid < m)
    (IH : ∀ (a1 m1 b1 z : Nat) (A M B : Int) (d1 : Array α) (w1 : World), b1 - a1 < b - a → d1.size = z → z = d.size → (a1 : Int) = A → (m1 : Int) = M → (b1 : Int) = B → SW enc w0 blk off d1 w1 → a1 < m1 → m1 < b1 → b1 ≤ d.size → Two I K a1 m1 b1 d1 →
      Calls Tryd.prog 57 #[.slice (some ⟨blk, off, none⟩) z cap, .int .i64 A, .int .i64 M, .int .i64 B, .func (.func g) #[] cb] w1 fun e w' => e = .returned (.tuple #[]) ∧ ∃ d', SW enc w0 blk off d' w' ∧ Done K a1 b1 d1 d') :
    Calls Tryd.prog 57 #[.slice (some ⟨blk, off, none⟩) d.size cap, .int .i64 a, .int .i64 m, .int .i64 b, .func (.func g) #[] cb] w fun e w' => e = .returned (.tuple #[]) ∧ ∃ d', SW enc w0 blk off d' w' ∧ Done K a b d d' := by
  have HC : Aside _ := hcmp
  have HI : Aside _ := IH
  have S0 : Aside (SW enc w0 blk off d w) := S
  have T0 : Aside _ := T
  have HS := Lib.hid hs
  have hst := R.hO.store Tryd.prog
  have mixed := mixedT
  clear S hcmp T hs IH
  have e0 : ((m : Int) - (a : Int) == 1) = false := by rw [beq_eq_false_iff_ne]; omega
  have e1 : ((b : Int) - (m : Int) == 1) = false := by rw [beq_eq_false_iff_ne]; omega
  have e2 : ((a : Int) + (b : Int)) / 2 = (mid : Int) := by omega
  have hm1 : a < mid := by omega
  have hm2 : mid < b := by omega
  have Hmid := Lib.hid hmid
  clear hmid
  obtain ⟨s0, e3, hs0⟩ : ∃ s0 : Nat, (mid : Int) + (m : Int) - (b : Int) = (s0 : Int) ∧ s0 + b = mid + m := ⟨mid + m - b, by have := Hmid.out; omega, by have := Hmid.out; omega⟩
  have e4 : (mid : Int) < (m : Int) := by omega
  have hs1 : a ≤ s0 := by have := Hmid.out; omega
  obtain ⟨r0, hr0⟩ : ∃ r, r = mid := ⟨_, rfl⟩
  have HR0 := Lib.hid hr0
  have HS0 := Lib.hid hs0
  clear hr0 hs0
  go_enter Tryd.func57, Tryd.ntmps57
  go_wp2
  clear e0 e1 e2 e3 e4
  go_loopg [20, 21] b (fun g1 vi vj wr => ∃ (i j : Nat), vi = .int .i64 i ∧ vj = .int .i64 j ∧ s0 ≤ i ∧ i ≤ j ∧ j ≤ r0 ∧ j - i ≤ g1 ∧ Aside (SW enc w0 blk off d wr) ∧ Aside (i = s0 ∨ K d[i - 1]! ≤ K d[mid + m - i]!) ∧ Aside (j = r0 ∨ K d[mid + m - 1 - j]! < K d[j]!))
  case atStart => exact ⟨s0, mid, rfl, rfl, by omega, by have := HS0.out; omega, by have := HR0.out; omega, by omega, S0, Or.inl rfl, Or.inl (HR0.out.symm)⟩
  case round =>
    clear S0
    obtain ⟨i, j, rfl, rfl, hi, hij, hj, hg1, S1, HL, HH⟩ := hrel
    by_cases hlt : i < j
    · have hltz : (i : Int) < (j : Int) := by omega
      obtain ⟨h, hh, hih, hhj⟩ : ∃ h : Nat, ((i : Int) + (j : Int)) / 2 = (h : Int) ∧ i ≤ h ∧ h < j := ⟨(i + j) / 2, by omega, by omega, by omega⟩
      have hb1 : a ≤ h := by have := HS0.out; have := HR0.out; have := Hmid.out; omega
      have hb2 : h < m := by have := HS0.out; have := HR0.out; have := Hmid.out; omega
      obtain ⟨q, hq, hq1, hq2⟩ : ∃ q : Nat, q + h + 1 = mid + m ∧ m ≤ q ∧ q < b := ⟨mid + m - 1 - h, by have := HS0.out; have := HR0.out; have := Hmid.out; omega, by have := HS0.out; have := HR0.out; have := Hmid.out; omega, by have := HS0.out; have := HR0.out; have := Hmid.out; omega⟩
      go_wp2_with fail
      clear hh
      have hqw : IntKind.i64.wrap ((mid : Int) + (m : Int) - 1 - (h : Int)) = (q : Int) := by rw [IntKind.wrap_i64]; omega
      have hI : I d[h]! < I d[q]! := T0.out.lf h q (by omega) (by omega) (by omega) (by omega)
      by_cases hk : K d[q]! < K d[h]!
      · have hj1 := (hJ d[h]! d[q]! hI).2 hk
        obtain ⟨xN1, hxN1⟩ : ∃ zz, zz = q := ⟨_, rfl⟩
        have ex1 : ((q : Int)).toNat = xN1 := by omega
        have px1 : (0 : Int) ≤ (q : Int) := by omega
        have bx1 : (q : Int) < (d.size : Int) := by omega
        have rx1 : IntKind.i64.wrap ((q : Int)) = (q : Int) := by rw [IntKind.wrap_i64]; omega
        obtain ⟨yN1, hyN1⟩ : ∃ zz, zz = h := ⟨_, rfl⟩
        have ey1 : ((h : Int)).toNat = yN1 := by omega
        have py1 : (0 : Int) ≤ (h : Int) := by omega
        have by1 : (h : Int) < (d.size : Int) := by omega
        have ry1 : IntKind.i64.wrap ((h : Int)) = (h : Int) := by rw [IntKind.wrap_i64]; omega
        obtain ⟨vx1, hvx1⟩ : ∃ zz, zz = d[q]! := ⟨_, rfl⟩
        obtain ⟨vy1, hvy1⟩ : ∃ zz, zz = d[h]! := ⟨_, rfl⟩
        have lx1 := S1.out.cl R (by have := HS.out; omega) (q) (by omega)
        have ly1 := S1.out.cl R (by have := HS.out; omega) (h) (by omega)
        rw [← hvx1, ← hxN1] at lx1
        rw [← hvy1, ← hyN1] at ly1
        have hc1 := S1.out.cmp HC.out (by have := HS.out; omega) vx1 vy1
        have hv1 : cf vx1 vy1 < 0 := by rw [hvx1, hvy1]; exact hj1
        have hd1 : decide (cf vx1 vy1 < 0) = true := decide_eq_true hv1
        clear hvx1 hvy1 hxN1 hyN1
        go_wp2_with fail
        go_quiet_grown (first | (go_at_fn g; refine Calls.grown_of (hc1 _ _)))
        have S1b : Aside (SW enc w0 blk off d (grow (wr.drewN nq) osq)) := S1.out.grown nq osq
        clear lx1 ly1 hc1 S1
        generalize grow (wr.drewN nq) osq = w2 at S1b ⊢
        clear nq osq
        clear ex1 ey1
        clear hj1
        have HH1 : Aside (h = r0 ∨ K d[mid + m - 1 - h]! < K d[h]!) := Or.inr (by rw [show mid + m - 1 - h = q by omega]; exact hk)
        clear hk hI HH hqw
        go_wp2
        go_roundg (h - i)
        case measure => omega
        case rel => exact ⟨i, h, rfl, rfl, by omega, by omega, by omega, Nat.le_refl _, S1b, HL, HH1⟩
      · have hj1 : ¬ cf d[q]! d[h]! < 0 := fun hc => hk ((hJ d[h]! d[q]! hI).1 hc)
        obtain ⟨xN2, hxN2⟩ : ∃ zz, zz = q := ⟨_, rfl⟩
        have ex2 : ((q : Int)).toNat = xN2 := by omega
        have px2 : (0 : Int) ≤ (q : Int) := by omega
        have bx2 : (q : Int) < (d.size : Int) := by omega
        have rx2 : IntKind.i64.wrap ((q : Int)) = (q : Int) := by rw [IntKind.wrap_i64]; omega
        obtain ⟨yN2, hyN2⟩ : ∃ zz, zz = h := ⟨_, rfl⟩
        have ey2 : ((h : Int)).toNat = yN2 := by omega
        have py2 : (0 : Int) ≤ (h : Int) := by omega
        have by2 : (h : Int) < (d.size : Int) := by omega
        have ry2 : IntKind.i64.wrap ((h : Int)) = (h : Int) := by rw [IntKind.wrap_i64]; omega
        obtain ⟨vx2, hvx2⟩ : ∃ zz, zz = d[q]! := ⟨_, rfl⟩
        obtain ⟨vy2, hvy2⟩ : ∃ zz, zz = d[h]! := ⟨_, rfl⟩
        have lx2 := S1.out.cl R (by have := HS.out; omega) (q) (by omega)
        have ly2 := S1.out.cl R (by have := HS.out; omega) (h) (by omega)
        rw [← hvx2, ← hxN2] at lx2
        rw [← hvy2, ← hyN2] at ly2
        have hc2 := S1.out.cmp HC.out (by have := HS.out; omega) vx2 vy2
        have hv2 : ¬ cf vx2 vy2 < 0 := by rw [hvx2, hvy2]; exact hj1
        have hd2 : decide (cf vx2 vy2 < 0) = false := decide_eq_false hv2
        clear hvx2 hvy2 hxN2 hyN2
        go_wp2_with fail
        go_quiet_grown (first | (go_at_fn g; refine Calls.grown_of (hc2 _ _)))
        have S1b : Aside (SW enc w0 blk off d (grow (wr.drewN nq) osq)) := S1.out.grown nq osq
        clear lx2 ly2 hc2 S1
        generalize grow (wr.drewN nq) osq = w2 at S1b ⊢
        clear nq osq
        clear ex2 ey2
        clear hj1
        have HL1 : Aside (h + 1 = s0 ∨ K d[h + 1 - 1]! ≤ K d[mid + m - (h + 1)]!) := Or.inr (by rw [show mid + m - (h + 1) = q by omega, show h + 1 - 1 = h by omega]; omega)
        clear hk hI HL hqw
        go_wp2
        go_roundg (j - (h + 1))
        case measure => omega
        case rel => exact ⟨h + 1, j, by first | rfl | go_num | (congr 1; omega), rfl, by omega, by omega, by omega, Nat.le_refl _, S1b, HL1, HH⟩
    · have hltz : ¬ (i : Int) < (j : Int) := by omega
      obtain rfl : i = j := by omega
      obtain ⟨e, he, he2⟩ : ∃ e : Nat, (mid : Int) + (m : Int) - (i : Int) = (e : Int) ∧ e + i = mid + m := ⟨mid + m - i, by have := HS0.out; have := HR0.out; have := Hmid.out; omega, by have := HS0.out; have := HR0.out; have := Hmid.out; omega⟩
      have hi1 : a ≤ i := by have := HS0.out; have := HR0.out; have := Hmid.out; omega
      have hi2 : i ≤ m := by have := HS0.out; have := HR0.out; have := Hmid.out; omega
      have hi3 : i ≤ mid := by have := HS0.out; have := HR0.out; have := Hmid.out; omega
      have he3 : e ≤ b := by have := HS0.out; have := HR0.out; have := Hmid.out; omega
      have HLO : Aside (i = a ∨ e = b ∨ K d[i - 1]! ≤ K d[e]!) := by
        rcases HL.out with h | h
        · have := HS0.out
          first | exact Or.inl (h.trans this) | exact Or.inr (Or.inl (by omega))
        · rw [show mid + m - i = e by omega] at h; exact Or.inr (Or.inr h)
      have HHI : Aside (i = m ∨ e = m ∨ K d[e - 1]! < K d[i]!) := by
        rcases HH.out with h | h
        · have := HR0.out
          first | exact Or.inl (h.trans this) | exact Or.inr (Or.inl (by omega))
        · rw [show mid + m - 1 - i = e - 1 by omega] at h; exact Or.inr (Or.inr h)
      have HHV : Aside (∀ d', Rot d d' i m e → Halves I K a i mid e b d') := fun d' r => halves T0.out (by omega) (by omega) Hmid.out hi1 hi2 he2 (by omega) he3 HLO.out HHI.out r
      clear HL HH hlt HLO HHI hi hj hg1
      go_upto_region 39 with fail
      clear he
      go_cut [185] (fun s wx => ∃ c : Bool, s = .bool c ∧ Aside (c = true → i < m ∧ m < e) ∧ Aside (c = false → i = m ∨ e = m) ∧ wx = wr)
      case first =>
        as_aux_lemma =>
          by_cases h1 : i < m
          · have h1z : (i : Int) < (m : Int) := by omega
            by_cases h2 : m < e
            · have h2z : (m : Int) < (e : Int) := by omega
              go_wp2
              go_meet
              exact ⟨true, rfl, ((fun _ => ⟨h1, h2⟩) : true = true → i < m ∧ m < e), ((fun h => absurd h.symm Bool.false_ne_true) : true = false → i = m ∨ e = m), rfl⟩
            · have h2z : ¬ (m : Int) < (e : Int) := by omega
              go_wp2
              go_meet
              exact ⟨false, rfl, ((fun h => absurd h Bool.false_ne_true) : false = true → i < m ∧ m < e), ((fun _ => Or.inr (by omega)) : false = false → i = m ∨ e = m), rfl⟩
          · have h1z : ¬ (i : Int) < (m : Int) := by omega
            go_wp2
            go_meet
            exact ⟨false, rfl, ((fun h => absurd h Bool.false_ne_true) : false = true → i < m ∧ m < e), ((fun _ => Or.inl (by omega)) : false = false → i = m ∨ e = m), rfl⟩
      case rest =>
        as_aux_lemma =>
          obtain ⟨c, rfl, hc1, hc2, rfl⟩ := hcut
          go_upto_if 185 with fail
          go_cut [] (fun wx => ∃ d1 : Array α, Aside (SW enc w0 blk off d1 wx) ∧ Hid (d1.size = d.size) ∧ Aside (Rot d d1 i m e) ∧ Aside (PermIn a b d d1))
          case first =>
            as_aux_lemma =>
              cases c with
              | true =>
                obtain ⟨h1, h2⟩ := hc1.out rfl
                go_wp2_with fail
                with_reducible refine (rotate_c enc (.func (.func g) #[] cb) blk off cap i m e d0 d w0 _ R HS.out S1.out h1 h2 (by omega) hsz).mono ?_
                rintro e1 w1 ⟨rfl, d1, S2, R1, P1⟩
                have HK1 := Lib.hid (R1.size)
                have S3 : Aside (SW enc w0 blk off d1 w1) := S2
                have R2 : Aside (Rot d d1 i m e) := R1
                have P2 : Aside (PermIn a b d d1) := permIn_mono _ _ _ _ _ _ (by omega) (by omega) hb P1
                clear S1 S2 R1 P1
                go_wp2_with fail
                go_meet
                exact ⟨d1, S3, HK1, R2, P2⟩
              | false =>
                have R2 : Aside (Rot d d i m e) := by
                  rcases hc2.out rfl with h | h
                  · rw [h]; exact Rot.none_left d m e
                  · rw [h]; exact Rot.none_right d i m
                clear hc1 hc2
                go_wp2_with fail
                go_meet
                exact ⟨d, S1, (rfl : d.size = d.size), R2, permIn_refl d a b⟩
          case rest =>
            as_aux_lemma =>
              clear S1 hc1 hc2
              obtain ⟨d1, S1, HK1, R1, P1⟩ := hcut
              have HV : Aside (Halves I K a i mid e b d1) := HHV.out d1 R1.out
              clear HHV R1
              go_upto_region 41 with fail
              go_cut [199] (fun s wx => ∃ c : Bool, s = .bool c ∧ Aside (c = true → a < i ∧ i < mid) ∧ Aside (c = false → i = a ∨ i = mid) ∧ wx = wc)
              case first =>
                as_aux_lemma =>
                  by_cases h1 : a < i
                  · have h1z : (a : Int) < (i : Int) := by omega
                    by_cases h2 : i < mid
                    · have h2z : (i : Int) < (mid : Int) := by omega
                      go_wp2
                      go_meet
                      exact ⟨true, rfl, ((fun _ => ⟨h1, h2⟩) : true = true → a < i ∧ i < mid), ((fun h => absurd h.symm Bool.false_ne_true) : true = false → i = a ∨ i = mid), rfl⟩
                    · have h2z : ¬ (i : Int) < (mid : Int) := by omega
                      go_wp2
                      go_meet
                      exact ⟨false, rfl, ((fun h => absurd h Bool.false_ne_true) : false = true → a < i ∧ i < mid), ((fun _ => Or.inr (by omega)) : false = false → i = a ∨ i = mid), rfl⟩
                  · have h1z : ¬ (a : Int) < (i : Int) := by omega
                    go_wp2
                    go_meet
                    exact ⟨false, rfl, ((fun h => absurd h Bool.false_ne_true) : false = true → a < i ∧ i < mid), ((fun _ => Or.inl (by omega)) : false = false → i = a ∨ i = mid), rfl⟩
              case rest =>
                as_aux_lemma =>
                  obtain ⟨c, rfl, hc1, hc2, rfl⟩ := hcut
                  go_upto_if 199 with fail
                  go_cut [] (fun wx => ∃ d2 : Array α, Aside (SW enc w0 blk off d2 wx) ∧ Hid (d2.size = d.size) ∧ Aside (Done K a mid d1 d2))
                  case first =>
                    as_aux_lemma =>
                      cases c with
                      | true =>
                        obtain ⟨h1, h2⟩ := hc1.out rfl
                        go_wp2_with fail
                        with_reducible refine (HI.out a i mid d.size a i mid d1 _ (by omega) HK1.out rfl rfl rfl rfl S1.out h1 h2 (by omega) HV.out.lo).mono ?_
                        rintro e1 w1 ⟨rfl, d2, S2, D1⟩
                        have HK2 := Lib.hid (D1.perm.1.trans HK1.out)
                        have S3 : Aside (SW enc w0 blk off d2 w1) := S2
                        have D2 : Aside (Done K a mid d1 d2) := D1
                        clear S1 S2 D1
                        go_wp2_with fail
                        go_meet
                        exact ⟨d2, S3, HK2, D2⟩
                      | false =>
                        have D2 : Aside (Done K a mid d1 d1) := by
                          rcases hc2.out rfl with h | h
                          · have := HV.out.lo; rw [h] at this; exact this.done_left
                          · have := HV.out.lo; rw [h] at this; exact this.done_right
                        clear hc1 hc2
                        go_wp2_with fail
                        go_meet
                        exact ⟨d1, S1, HK1, D2⟩
                  case rest =>
                    as_aux_lemma =>
                      clear S1 hc1 hc2
                      obtain ⟨d2, S1, HK2, D1⟩ := hcut
                      go_upto_region 43 with fail
                      go_cut [213] (fun s wx => ∃ c : Bool, s = .bool c ∧ Aside (c = true → mid < e ∧ e < b) ∧ Aside (c = false → e = mid ∨ e = b) ∧ wx = wc)
                      case first =>
                        as_aux_lemma =>
                          by_cases h1 : mid < e
                          · have h1z : (mid : Int) < (e : Int) := by omega
                            by_cases h2 : e < b
                            · have h2z : (e : Int) < (b : Int) := by omega
                              go_wp2
                              go_meet
                              exact ⟨true, rfl, ((fun _ => ⟨h1, h2⟩) : true = true → mid < e ∧ e < b), ((fun h => absurd h.symm Bool.false_ne_true) : true = false → e = mid ∨ e = b), rfl⟩
                            · have h2z : ¬ (e : Int) < (b : Int) := by omega
                              go_wp2
                              go_meet
                              exact ⟨false, rfl, ((fun h => absurd h Bool.false_ne_true) : false = true → mid < e ∧ e < b), ((fun _ => Or.inr (by omega)) : false = false → e = mid ∨ e = b), rfl⟩
                          · have h1z : ¬ (mid : Int) < (e : Int) := by omega
                            go_wp2
                            go_meet
                            exact ⟨false, rfl, ((fun h => absurd h Bool.false_ne_true) : false = true → mid < e ∧ e < b), ((fun _ => Or.inl (by omega)) : false = false → e = mid ∨ e = b), rfl⟩
                      case rest =>
                        as_aux_lemma =>
                          obtain ⟨c, rfl, hc1, hc2, rfl⟩ := hcut
                          have T2 : Aside (Two I K mid e b d2) := HV.out.hi.keep D1.out.perm (Nat.le_refl _) (by omega)
                          cases c with
                          | true =>
                            obtain ⟨h1, h2⟩ := hc1.out rfl
                            go_wp2_with fail
                            with_reducible refine (HI.out mid e b d.size mid e b d2 _ (by omega) HK2.out rfl rfl rfl rfl S1.out h1 h2 (by omega) T2.out).mono ?_
                            rintro e1 w1 ⟨rfl, d3, S2, D2⟩
                            have D3 : Aside (Done K a b d d3) := HV.out.done (by omega) (by omega) hb P1.out D1.out D2
                            have S3 : Aside (SW enc w0 blk off d3 w1) := S2
                            clear S1 S2 D1 D2 T2 HV
                            go_wp2_with fail
                            go_end0
                            exact ⟨rfl, d3, S3.out, D3.out⟩
                          | false =>
                            have D2 : Done K mid b d2 d2 := by
                              rcases hc2.out rfl with h | h
                              · have := T2.out; rw [h] at this; exact this.done_left
                              · have := T2.out; rw [h] at this; exact this.done_right
                            have D3 : Aside (Done K a b d d2) := HV.out.done (by omega) (by omega) hb P1.out D1.out D2
                            clear hc1 hc2 D1 D2 T2 HV
                            go_wp2_with fail
                            go_end0
                            exact ⟨rfl, d2, S1.out, D3.out⟩

end Go.Proofs.YtgcoodameahkbaaDoor.Stable
