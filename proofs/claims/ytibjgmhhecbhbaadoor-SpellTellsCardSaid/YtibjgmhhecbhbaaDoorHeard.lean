/- What heard answers. -/
import Derived.Test.YtibjgmhhecbhbaaDoorTold
import Derived.Test.YtibjgmhhecbhbaaDoorShelf
import Derived.Lib.SplitLaws
namespace Go.Proofs.YtibjgmhhecbhbaaDoor.Hand
open Go.RowKit Go.Proofs.YtibjgmhhecbhbaaDoorW.PrintWords Go.Proofs.YtibjgmhhecbhbaaDoorW.PrintLast Go.Proofs.YtibjgmhhecbhbaaDoorW.PrintMore
attribute [local go_sem] max2_int min2_int max_two min_two
/-! spell.heard -/
def nib (c : Int) : Int := max (Lib.indexByte hexDigits c.toNat.toUInt8) 0
def heardI : List Int → List Int
  | x :: y :: l => (nib x * 16 + nib y) :: heardI l
  | _ => []
def heardB (s : ByteArray) : ByteArray := strOfNums (heardI (bytesOf s))
theorem heardI_length : ∀ l, 2 * (heardI l).length ≤ l.length
  | [] => by simp [heardI]
  | [_] => by simp [heardI]
  | x :: y :: l => by have := heardI_length l; simp only [heardI, List.length_cons]; omega
theorem ix_le (c : UInt8) : Lib.indexByte hexDigits c ≤ 15 := by
  have : ∀ c : Fin 256, Lib.indexByte hexDigits (UInt8.ofNat c.val) ≤ 15 := by decide +kernel
  have h := this ⟨c.toNat, c.toNat_lt⟩
  simpa using h
theorem nib_range (c : Int) : 0 ≤ nib c ∧ nib c ≤ 15 := by
  have := ix_le c.toNat.toUInt8
  unfold nib; omega

theorem heard_pair (s : ByteArray) (k : Nat) (h : k + 1 < s.size) :
    heardI ((bytesOf s).drop k) = (max (Lib.indexByte hexDigits s[k]) 0 * 16 + max (Lib.indexByte hexDigits s[k + 1]) 0) :: heardI ((bytesOf s).drop (k + 2)) := by
  have hl : k + 1 < (bytesOf s).length := by rw [bytesOf_length]; exact h
  rw [List.drop_eq_getElem_cons (by omega : k < (bytesOf s).length), List.drop_eq_getElem_cons hl]
  simp only [heardI, nib]
  have e1 : (bytesOf s)[k]'(by omega) = (s[k].toNat : Int) := by simp [bytesOf]; rfl
  have e2 : (bytesOf s)[k + 1]'hl = (s[k + 1].toNat : Int) := by simp [bytesOf]; rfl
  rw [e1, e2]
  simp
theorem heard_end (s : ByteArray) (k : Nat) (h : s.size ≤ k + 1) : heardI ((bytesOf s).drop k) = [] := by
  have : ((bytesOf s).drop k).length ≤ 1 := by rw [List.length_drop, bytesOf_length]; omega
  match (bytesOf s).drop k, this with
  | [], _ => rfl
  | [_], _ => rfl
theorem or_nib_fin : ∀ x y : Fin 16, Go.bits .or .i64 ((x.val : Int) * 16) (y.val : Int) % 256 = (x.val : Int) * 16 + (y.val : Int) := by decide +kernel
theorem or_nib (x y : Int) (h0 : 0 ≤ x) (h1 : x ≤ 15) (h2 : 0 ≤ y) (h3 : y ≤ 15) : Go.bits .or .i64 (x * 16) y % 256 = x * 16 + y := by
  have := or_nib_fin ⟨x.toNat, by omega⟩ ⟨y.toNat, by omega⟩
  simp only [Int.toNat_of_nonneg h0, Int.toNat_of_nonneg h2] at this
  exact this
theorem or_zero (y : Int) (h2 : 0 ≤ y) (h3 : y ≤ 15) : Go.bits .or .i64 0 y % 256 = y := by
  have := or_nib 0 y (by omega) (by omega) h2 h3
  simp only [Int.zero_mul, Int.zero_add] at this
  exact this
set_option maxHeartbeats 4000000 in
set_option maxRecDepth 100000 in
theorem heard_c (s : ByteArray) (w : World) (hs : s.size ≤ 1000000000) :
    Calls Tryd.prog 19 #[.string s] w fun e w' => e = .returned (.string (heardB s)) ∧ Below w.heap.size w w' := by
  have HL := Aside0.mk (bytesOf_length s)
  go_enter Tryd.func19, Tryd.ntmps19
  go_wp2
  go_loopg [3, 4] s.size (fun g v3 v4 wx => ∃ (k : Nat) (l : List Int), v4 = .int .i64 k ∧ k ≤ s.size ∧ s.size - k ≤ g ∧ Aside0 (Kd.R (Kd.int .u8) 5 wx w.heap.size (fun _ => True) v3 l) ∧ l.length ≤ s.size ∧ 2 * l.length = k ∧ Aside0 (l ++ heardI ((bytesOf s).drop k) = heardI (bytesOf s)) ∧ Aside0 (Below w.heap.size w wx))
  case atStart => exact ⟨0, [], rfl, by omega, by omega, ⟨Kd.R_nil _ _ _ _ _⟩, by simp, rfl, ⟨rfl⟩, ⟨Below.refl _ _⟩⟩
  case round =>
    obtain ⟨k, l, rfl, hk, hg, HO, hl, hl2, HE, HB⟩ := hrel
    by_cases hlt : k + 1 < s.size
    · obtain ⟨g, rfl⟩ : ∃ g, gk = g + 1 := ⟨gk - 1, by omega⟩
      have q113 : (k : Int) + 1 < (s.size : Int) := by omega
      have q114 : (k : Int) < (s.size : Int) := by omega
      have q115 : IntKind.i64.wrap ((k : Int) + 1) = (k : Int) + 1 := by rw [IntKind.wrap_i64]; omega
      have q116 : (0 : Int) ≤ (k : Int) + 1 := by omega
      have q117 : (0 : Int) ≤ (k : Int) := by omega
      have hx5 := bt_at s (k : Int)
      have hx6 := bt_at s ((k : Int) + 1)
      go_wp2
      go_quiet (first | (go_at_call 34; exact Calls.quiet_of_same ((Tryd.strings_IndexByte _ _ _).mono fun _ _ h => h)))
      have ek1 : ((s[k].toNat : Nat) : Int).toNat.toUInt8 = s[k] := by simp
      have ek2 : ((s[k + 1].toNat : Nat) : Int).toNat.toUInt8 = s[k + 1] := by simp
      have eh := heard_pair s k hlt
      rw [← ek1, ← ek2] at eh
      clear ek1 ek2
      have hi0 := Lib.indexByte_ge hexDigits ((s[k].toNat : Nat) : Int).toNat.toUInt8
      have hi1 := ix_le ((s[k].toNat : Nat) : Int).toNat.toUInt8
      have lo0 := Lib.indexByte_ge hexDigits ((s[k + 1].toNat : Nat) : Int).toNat.toUInt8
      have lo1 := ix_le ((s[k + 1].toNat : Nat) : Int).toNat.toUInt8
      unfold hexDigits at hi0 hi1 lo0 lo1 eh
      generalize Lib.indexByte [48, 49, 50, 51, 52, 53, 54, 55, 56, 57, 97, 98, 99, 100, 101, 102] ((s[k].toNat : Nat) : Int).toNat.toUInt8 = hi at *
      generalize Lib.indexByte [48, 49, 50, 51, 52, 53, 54, 55, 56, 57, 97, 98, 99, 100, 101, 102] ((s[k + 1].toNat : Nat) : Int).toNat.toUInt8 = lo at *
      have EH := Aside0.mk eh; clear eh
      have HO1 := Aside0.mk (Kd.R_drewN HO.out nq)
      have HB1 := Aside0.mk (pw_below_drewN HB.out nq)
      clear HO HB hx5 hx6
      generalize wr.drewN nq = wn at *
      rcases (show hi = -1 ∨ 0 ≤ hi by omega) with eh1 | hi2
      · subst eh1
        rcases (show lo = -1 ∨ 0 ≤ lo by omega) with el1 | lo2
        · subst el1
          have hy : Go.bits .or .i64 0 0 % 256 = 0 := by decide +kernel
          go_wp2_with (((with_reducible refine gate_builtin (b := .append) (xs := #[.tmp 23, .tmp 31]) rfl ?_); (try (refine gate_guard (by rfl) ?_; dsimp only)); at_builtin; refine Kd.R_append (Kd.int .u8) (w0 := w) w.heap.size rfl (.tmp 23) (.tmp 31) 22 5 (.int .u8 0) 1 rfl Tryd.underlying22 info5h rfl (by decide) (by omega) u3 l (0 : Int) [.int .u8 (0 : Int)] (fun _ => True) (fun _ => False) rfl rfl ?aP (fun _ hk => hk.elim) ?aF ?aO ?aB ?aS ?aL ?_; (case aP => exact rfl); (case aB => exact HB1.out); (case aF => exact (fun _ _ => trivial)); (case aO => exact HO1.out); (case aS => exact (below_size HB1.out)); (case aL => omega); intro v162 w17 ho hb hg hat; have HB := Aside0.mk hb; have HO := Aside0.mk ho; clear HB1 HO1 ho hb hg hat))
          all_goals
            go_wp2
            go_roundg g
            case rel => exact ⟨k + 2, l ++ [_], by go_num, by omega, by omega, HO, by simp; omega, by simp; omega, ⟨by rw [← HE.out, EH.out, List.append_assoc, List.singleton_append, show max (-1 : Int) 0 * 16 + max (-1 : Int) 0 = (0 : Int) by omega]⟩, HB⟩
            case measure => simp
        · have hy : Go.bits .or .i64 0 lo % 256 = lo := or_zero lo lo2 lo1
          go_wp2_with (((with_reducible refine gate_builtin (b := .append) (xs := #[.tmp 23, .tmp 31]) rfl ?_); (try (refine gate_guard (by rfl) ?_; dsimp only)); at_builtin; refine Kd.R_append (Kd.int .u8) (w0 := w) w.heap.size rfl (.tmp 23) (.tmp 31) 22 5 (.int .u8 0) 1 rfl Tryd.underlying22 info5h rfl (by decide) (by omega) u3 l lo [.int .u8 lo] (fun _ => True) (fun _ => False) rfl rfl ?aP (fun _ hk => hk.elim) ?aF ?aO ?aB ?aS ?aL ?_; (case aP => exact rfl); (case aB => exact HB1.out); (case aF => exact (fun _ _ => trivial)); (case aO => exact HO1.out); (case aS => exact (below_size HB1.out)); (case aL => omega); intro v162 w17 ho hb hg hat; have HB := Aside0.mk hb; have HO := Aside0.mk ho; clear HB1 HO1 ho hb hg hat))
          all_goals
            go_wp2
            go_roundg g
            case rel => exact ⟨k + 2, l ++ [_], by go_num, by omega, by omega, HO, by simp; omega, by simp; omega, ⟨by rw [← HE.out, EH.out, List.append_assoc, List.singleton_append, show max (-1 : Int) 0 * 16 + max lo 0 = lo by omega]⟩, HB⟩
            case measure => simp
      · rcases (show lo = -1 ∨ 0 ≤ lo by omega) with el1 | lo2
        · subst el1
          have hy : Go.bits .or .i64 (hi * 16) 0 % 256 = hi * 16 := by have := or_nib hi 0 hi2 hi1 (by omega) (by omega); rw [this]; omega
          go_wp2_with (((with_reducible refine gate_builtin (b := .append) (xs := #[.tmp 23, .tmp 31]) rfl ?_); (try (refine gate_guard (by rfl) ?_; dsimp only)); at_builtin; refine Kd.R_append (Kd.int .u8) (w0 := w) w.heap.size rfl (.tmp 23) (.tmp 31) 22 5 (.int .u8 0) 1 rfl Tryd.underlying22 info5h rfl (by decide) (by omega) u3 l (hi * 16) [.int .u8 (hi * 16)] (fun _ => True) (fun _ => False) rfl rfl ?aP (fun _ hk => hk.elim) ?aF ?aO ?aB ?aS ?aL ?_; (case aP => exact rfl); (case aB => exact HB1.out); (case aF => exact (fun _ _ => trivial)); (case aO => exact HO1.out); (case aS => exact (below_size HB1.out)); (case aL => omega); intro v162 w17 ho hb hg hat; have HB := Aside0.mk hb; have HO := Aside0.mk ho; clear HB1 HO1 ho hb hg hat))
          all_goals
            go_wp2
            go_roundg g
            case rel => exact ⟨k + 2, l ++ [_], by go_num, by omega, by omega, HO, by simp; omega, by simp; omega, ⟨by rw [← HE.out, EH.out, List.append_assoc, List.singleton_append, show max hi 0 * 16 + max (-1 : Int) 0 = (hi * 16) by omega]⟩, HB⟩
            case measure => simp
        · have hy : Go.bits .or .i64 (hi * 16) lo % 256 = hi * 16 + lo := or_nib hi lo hi2 hi1 lo2 lo1
          go_wp2_with (((with_reducible refine gate_builtin (b := .append) (xs := #[.tmp 23, .tmp 31]) rfl ?_); (try (refine gate_guard (by rfl) ?_; dsimp only)); at_builtin; refine Kd.R_append (Kd.int .u8) (w0 := w) w.heap.size rfl (.tmp 23) (.tmp 31) 22 5 (.int .u8 0) 1 rfl Tryd.underlying22 info5h rfl (by decide) (by omega) u3 l (hi * 16 + lo) [.int .u8 (hi * 16 + lo)] (fun _ => True) (fun _ => False) rfl rfl ?aP (fun _ hk => hk.elim) ?aF ?aO ?aB ?aS ?aL ?_; (case aP => exact rfl); (case aB => exact HB1.out); (case aF => exact (fun _ _ => trivial)); (case aO => exact HO1.out); (case aS => exact (below_size HB1.out)); (case aL => omega); intro v162 w17 ho hb hg hat; have HB := Aside0.mk hb; have HO := Aside0.mk ho; clear HB1 HO1 ho hb hg hat))
          all_goals
            go_wp2
            go_roundg g
            case rel => exact ⟨k + 2, l ++ [_], by go_num, by omega, by omega, HO, by simp; omega, by simp; omega, ⟨by rw [← HE.out, EH.out, List.append_assoc, List.singleton_append, show max hi 0 * 16 + max lo 0 = (hi * 16 + lo) by omega]⟩, HB⟩
            case measure => simp
    · obtain ⟨A4, c4, e4⟩ := Kd.R_slice HO.out
      subst e4
      have hcv := Kd.C_string (P := Tryd.prog) (src := 22) (dst := 9) (c := c4) Tryd.underlying22 Tryd.underlying5 Tryd.underlying9 (Kd.R_reads' HO.out).2.2
      have hfin : strOfNums l = heardB s := by
        unfold heardB
        rw [← HE.out]
        have : heardI ((bytesOf s).drop k) = [] := heard_end s k (by omega)
        rw [this, List.append_nil]
      rw [hfin] at hcv
      have HF := Aside0.mk hfin; clear hfin
      have q : ¬ ((k : Int) + 1 < (s.size : Int)) := by omega
      go_wp2
      go_ret
      exact ⟨rfl, HB.out⟩
end Go.Proofs.YtibjgmhhecbhbaaDoor.Hand
