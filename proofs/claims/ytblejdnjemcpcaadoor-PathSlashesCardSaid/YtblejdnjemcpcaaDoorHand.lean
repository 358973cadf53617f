/- What the path package's functions do that the laws call: parts, Split, Join, Clean, and of the library Contains, Join, Clone. -/
import Derived.Test.YtblejdnjemcpcaaDoorProg
import Derived.Below
import Derived.Deep.Draws
import Derived.Deep.AppendLies
import Derived.Maps.AppendAt
import Derived.OwnWalk
import Derived.Laws.BytesArg
import Derived.Laws.MakeOwn
import Derived.Laws.OwnMore
import Derived.Deep.OwnRows
import Derived.Tactics
import Derived.Lib.ConvBytes
import Derived.Laws.Slices
import Derived.WalkKit
import Derived.KernelRfl
import Derived.RowKit3
import Derived.Deep.LoopGhost
import Derived.Deep.QuietTactic
import Derived.BigQuiet
import Derived.WideLaws
import Derived.Deep.DeepCutAuto
import Derived.Deep.CutBlock
import Derived.Deep.RegionHeld3
import Derived.Laws.Rows
import Derived.Lib.AppendStr
import Derived.ArgAppend
import Derived.Laws.IdiomCopy
import Derived.OrdersHeld
import Derived.Laws.BitsLemmas
import Derived.RowKit
import Derived.Test.YtblejdnjemcpcaaDoorWWords
import Derived.Test.YtblejdnjemcpcaaDoorWLast
import Derived.Test.YtblejdnjemcpcaaDoorWTab
import Derived.Test.YtblejdnjemcpcaaDoorWFour
import Derived.Test.YtblejdnjemcpcaaDoorWQPut
import Derived.Test.YtblejdnjemcpcaaDoorWApart
import Derived.Test.YtblejdnjemcpcaaDoorWArr
import Derived.Test.YtblejdnjemcpcaaDoorWZeros
import Derived.Test.YtblejdnjemcpcaaDoorWFoot
import Derived.Test.YtblejdnjemcpcaaDoorWKept
import Derived.Test.YtblejdnjemcpcaaDoorWShare
import Derived.Test.YtblejdnjemcpcaaDoorWN
import Derived.Test.YtblejdnjemcpcaaDoorWFootNe
import Derived.Test.YtblejdnjemcpcaaDoorWAt
import Derived.Test.YtblejdnjemcpcaaDoorWEqStruct
import Derived.Test.YtblejdnjemcpcaaDoorWRepsOne
import Derived.Test.YtblejdnjemcpcaaDoorWInv
import Derived.Test.YtblejdnjemcpcaaDoorWInvWords
import Derived.Test.YtblejdnjemcpcaaDoorWGuard
import Derived.Test.YtblejdnjemcpcaaDoorWNEv
import Derived.Test.YtblejdnjemcpcaaDoorWMore
import Derived.Test.YtblejdnjemcpcaaDoorShelf
import Derived.Lib.SplitLaws
namespace Go.Proofs.YtblejdnjemcpcaaDoor.Hand
open Go.RowKit Go.Proofs.YtblejdnjemcpcaaDoorW.PrintWords

def G (w : World) : Prop := ∃ m, w.cell? ⟨0, 0, none⟩ = some (.int .i64 m) ∧ 0 < w.heap.size
theorem G_below {w w' : World} (hG : G w) (hb : Below w.heap.size w w') : G w' := by
  obtain ⟨m, h, h0⟩ := hG
  exact ⟨m, (hb.cell (p := ⟨0, 0, none⟩) h0).trans h, Nat.lt_of_lt_of_le h0 hb.size⟩

theorem info9h : (Tryd.prog.info? 9).map (fun i => (i.zero, i.size, i.bytes)) = some (some (.string ⟨#[]⟩), 1, 16) := by kernel_rfl

/-! strings.Contains at one byte -/
def strings_Contains.f (s sub : ByteArray) : Option Bool :=
  if sub.size = 1 then some (decide (0 ≤ Lib.indexByte s.data.toList (sub.data.toList.headD 0))) else none
theorem one_byte {b : ByteArray} (h : b.size = 1) : b = ⟨#[b.data.toList.headD 0]⟩ := by
  obtain ⟨⟨l⟩⟩ := b
  have : l.length = 1 := h
  match l, this with
  | [x], _ => rfl
theorem strings_Contains.calls (a0 a1 : ByteArray) (r : Bool) (w : World) (h : strings_Contains.f a0 a1 = some r) :
    Calls Tryd.prog 22 #[.string a0, .string a1] w fun e w' => e = .returned (.bool r) ∧ Drawn0 w w' := by
  unfold strings_Contains.f at h
  by_cases h1 : a1.size = 1
  · rw [if_pos h1] at h
    obtain rfl := Option.some.inj h
    have e := one_byte h1
    generalize a1.data.toList.headD 0 = c at e ⊢
    subst e
    refine (Tryd.strings_Contains_one a0 c w).mono ?_
    rintro e w' ⟨rfl, rfl⟩
    exact ⟨rfl, Drawn0.refl _⟩
  · rw [if_neg h1] at h
    cases h

/-! strings.Join -/
def strings_Join.f (xs : List ByteArray) (sep : ByteArray) : Option ByteArray :=
  if xs.length ≤ 1000000000 ∧ (Lib.join (xs.map (·.data.toList)) sep.data.toList).length ≤ 1000000000 then some ⟨(Lib.join (xs.map (·.data.toList)) sep.data.toList).toArray⟩ else none
theorem strings_Join.calls (A0 : Option Addr) (c0 : Nat) (l0 : List ByteArray) (a1 : ByteArray) (r : ByteArray) (w : World) (hr0 : Kd.C Kd.string w A0 l0.length l0) (hc0 : l0.length ≤ c0) (h : strings_Join.f l0 a1 = some r) :
    Calls Tryd.prog 28 #[.slice A0 l0.length c0, .string a1] w fun e w' => e = .returned (.string r) ∧ Below w.heap.size w w' := by
  unfold strings_Join.f at h
  split at h
  case isFalse => cases h
  case isTrue hb =>
  obtain rfl := Option.some.inj h
  match l0, hr0, hc0, hb with
  | [], hr0, hc0, hb =>
    refine (Tryd.strings_Join_none A0 c0 a1 w).mono ?_
    rintro e w' ⟨rfl, rfl⟩
    exact ⟨rfl, Below.refl _ _⟩
  | x :: xs, hr0, hc0, hb =>
    have hR := (Kd.reads_of_C (enc := Value.string) (d := ByteArray.empty) (h1 := fun _ => rfl) hr0)
    obtain ⟨ad, rfl, hc⟩ := hR.2.2 (by simp)
    have hs : ad.spot = none := by
      have h := hc 0 (by simp)
      rw [show ad.add 0 = ad from rfl] at h
      cases hsp : ad.spot with
      | none => rfl
      | some s =>
        exfalso
        unfold World.cell? at h
        rw [hsp] at h
        cases hh : w.heap[ad.block]? with
        | none => rw [hh] at h; cases h
        | some o => rw [hh] at h; cases o <;> cases h
    have hc' : ∀ j, j < (x :: xs).length → w.cell? ⟨ad.block, ad.off + j, none⟩ = some (Value.string ((x :: xs).getD j ByteArray.empty)) ∧ ad.block < w.heap.size := by
      intro j hj
      have h2 := hc j hj
      have e : ad.add j = ⟨ad.block, ad.off + j, none⟩ := by
        obtain ⟨b, o, sp⟩ := ad
        subst hs
        unfold Addr.add
        split
        · next h0 => subst h0; rfl
        · rfl
      refine ⟨by rw [← e]; exact h2, ?_⟩
      refine Nat.lt_of_not_le fun hle => ?_
      rw [e] at h2
      unfold World.cell? at h2
      rw [Array.getElem?_eq_none hle] at h2
      cases h2
    have h0 := hc' 0 (by simp)
    obtain ⟨bk, o, spot⟩ := ad
    obtain ⟨_, hlt⟩ := h0
    subst hs
    refine (Tryd.strings_Join bk o c0 (x :: xs) a1 w ?_ hlt (by omega) hc0 (by omega)).mono ?_
    · intro j y hj
      obtain ⟨hl, hy⟩ := List.getElem?_eq_some_iff.1 hj
      have := (hc' j hl).1
      rw [List.getD_eq_getElem?_getD, hj] at this
      exact this
    · rintro e w' ⟨rfl, hb⟩
      exact ⟨rfl, hb⟩

/-! strings.Clone -/
theorem clone_c (s : ByteArray) (w : World) (hs : s.size ≤ 281474976710656) : Calls Tryd.prog 32 #[.string s] w fun e w' => e = .returned (.string s) ∧ Below w.heap.size w w' := by
  go_enter Tryd.func32, Tryd.ntmps32
  go_wp2_with (go_at_call 38; refine (Tryd.stringslite_Clone s _ hs).mono ?_; rintro e w' ⟨rfl, hb⟩)
  go_ret
  exact ⟨rfl, hb⟩
end Go.Proofs.YtblejdnjemcpcaaDoor.Hand
namespace Go.Proofs.YtblejdnjemcpcaaDoor.Hand
open Go.RowKit Go.Proofs.YtblejdnjemcpcaaDoorW.PrintWords Go.Proofs.YtblejdnjemcpcaaDoorW.PrintLast Go.Proofs.YtblejdnjemcpcaaDoorW.PrintMore
def partsTo : List ByteArray → List ByteArray → List ByteArray × Bool
  | [], acc => (acc, decide (acc.length ≤ 20))
  | p :: ps, acc => if p.data.toList = [] ∨ p.data.toList = [46] then partsTo ps acc else if 24 < p.size then ([], false) else partsTo ps (acc ++ [p])
def piecesOf (s : ByteArray) : List ByteArray := Lib.splitB ⟨#[47]⟩ 0 (Lib.countB s ⟨#[47]⟩) s
def path_parts.f (s : ByteArray) : Option (List ByteArray × Bool) := if s.size < 4294967281 then some (partsTo (piecesOf s) []) else none

theorem pieces_C (w : World) (xs : List ByteArray) (h : xs.length ≤ 9223372036854775807) : Kd.C Kd.string (w.alloc (.cells (xs.map Value.string).toArray 9)) (some ⟨w.heap.size, 0, none⟩) xs.length xs := by
  refine ⟨rfl, h, fun _ => ⟨_, rfl, fun j p hj => ⟨[.string p], rfl, rfl, fun i u hi => ?_⟩⟩⟩
  cases i with
  | succ i => simp at hi
  | zero =>
    simp only [List.getElem?_cons_zero, Option.some.injEq] at hi
    subst hi
    have e : (Addr.mk w.heap.size 0 none).add (j * Kd.string.sz + 0) = ⟨w.heap.size, j, none⟩ := by
      show Addr.add _ (j * 1 + 0) = _
      unfold Addr.add
      split
      · next h0 => simp at h0; subst h0; rfl
      · simp
    rw [e]
    obtain ⟨hl, hp⟩ := List.getElem?_eq_some_iff.1 hj
    have e2 : (w.alloc (.cells (xs.map Value.string).toArray 9)).heap[w.heap.size]? = some (.cells (xs.map Value.string).toArray 9 (0, 0)) := by unfold World.alloc; simp
    unfold World.cell?
    rw [e2]
    simp [hj]
theorem toList_size (p : ByteArray) : p.toList.length = p.size := by rw [Lib.toList_data]; rfl

set_option maxHeartbeats 4000000 in
theorem path_parts.calls (a0 : ByteArray) (r1 : List ByteArray) (r2 : Bool) (w : World) (hG : G w) (h : path_parts.f a0 = some (r1, r2)) :
    Calls Tryd.prog 23 #[.string a0] w fun e w' => ∃ v0_ : Value, e = .returned (.tuple #[v0_, .bool r2]) ∧ Kd.R Kd.string 9 w' w.heap.size (fun _ => True) v0_ r1 ∧ Below w.heap.size w w' := by
  unfold path_parts.f at h
  split at h
  case isFalse => cases h
  case isTrue hs =>
  obtain ⟨m, hm, hw0⟩ := hG
  have H := Aside0.mk (Option.some.inj h); clear h
  have hc0 := Lib.countB_le ⟨#[47]⟩ (by decide) a0.size a0 (Nat.le_refl _)
  have hl := Lib.splitB_all ⟨#[47]⟩ (by decide) 0 _ a0 rfl
  obtain ⟨n, hn⟩ : ∃ n, Lib.countB a0 ⟨#[47]⟩ + 1 = n := ⟨_, rfl⟩
  have cS := Tryd.strings_Split a0 ⟨#[47]⟩ m w hs hm (by decide)
  have hps : Lib.splitB ⟨#[47]⟩ 0 (Lib.countB a0 ⟨#[47]⟩) a0 = piecesOf a0 := rfl
  rw [hps] at cS hl
  rw [hn] at cS hl
  generalize piecesOf a0 = ps at *
  have hn32 : n ≤ 4294967281 := by omega
  clear hn hps hc0 hm
  have HC : Aside0 (Kd.C Kd.string (w.alloc (.cells (ps.map Value.string).toArray 9)) (some ⟨w.heap.size, 0, none⟩) n ps) := ⟨hl ▸ pieces_C w ps (by omega)⟩
  have HB1 : Aside0 (Below w.heap.size w (w.alloc (.cells (ps.map Value.string).toArray 9))) := ⟨below_alloc (Below.refl _ _) _⟩
  have HL := Aside0.mk hl; clear hl
  go_enter Tryd.func23, Tryd.ntmps23
  go_wp2
  go_step3
  go_wp2
  go_step3
  go_wp2_with (go_at_call 31; refine cS.mono ?_; rintro e w' ⟨rfl, rfl⟩)
  clear cS
  generalize w.alloc (.cells (ps.map Value.string).toArray 9) = W1 at HC HB1 ⊢
  go_loopg [4, 10] n (fun g v4 v10 wx => ∃ (k : Nat) (acc : List ByteArray), k + g = n ∧ v10 = .int .i64 k ∧ Aside0 (partsTo (ps.drop k) acc = (r1, r2)) ∧ acc.length ≤ k ∧ Aside0 (Kd.R Kd.string 9 wx W1.heap.size (fun _ => True) v4 acc) ∧ Aside0 (Below W1.heap.size W1 wx))
  case atStart => exact ⟨0, [], by omega, rfl, H, Nat.le_refl _, ⟨Kd.R_nil _ _ _ _ _⟩, ⟨Below.refl _ _⟩⟩
  case round =>
    clear H
    obtain ⟨k, acc, hk, rfl, H, hacc, HO, HB⟩ := hrel
    by_cases hlt : k < n
    · obtain ⟨g, rfl⟩ : ∃ g, gk = g + 1 := ⟨gk - 1, by omega⟩
      obtain ⟨p, hp⟩ : ∃ p, ps[k]? = some p := ⟨_, List.getElem?_eq_getElem (by rw [HL.out]; exact hlt)⟩
      have hd : ps.drop k = p :: ps.drop (k + 1) := by
        obtain ⟨hl, hp⟩ := List.getElem?_eq_some_iff.1 hp
        rw [List.drop_eq_getElem_cons hl, hp]
      obtain ⟨ad, e, hcell⟩ := Kd.at_string (Kd.C_below HC.out HB.out) (k : Int) (by omega) (by omega)
      cases e
      rw [show rdOf ByteArray.empty ps (k : Int) = p by simp [rdOf, List.getD_eq_getElem?_getD, hp]] at hcell
      have H0 := H.out
      rw [hd] at H0
      unfold partsTo at H0
      rw [← Lib.toList_data p] at H0
      clear H hd hp
      have q113 : (k : Int) < (n : Int) := by omega
      have hcell2 : wr.cell? ⟨w.heap.size, k, none⟩ = some (.string p) := by
        rw [← hcell]; unfold Addr.add; split
        · next h0 => simp at h0; subst h0; rfl
        · simp
      clear hcell
      by_cases c1 : p.toList = []
      · have b1 : (p.toList == ([] : List UInt8)) = true := beq_iff_eq.2 c1
        have b1e : p.toList.isEmpty = true := by rw [c1]; rfl
        rw [if_pos (.inl c1)] at H0
        have H := Aside0.mk H0; clear H0 c1
        go_wp2
        go_roundg g
        case rel => exact ⟨k + 1, acc, by omega, by go_num, H, by omega, HO, HB⟩
        case measure => simp
      · have b1 : (p.toList == ([] : List UInt8)) = false := beq_eq_false_iff_ne.2 c1
        have b1e : p.toList.isEmpty = false := by cases h : p.toList.isEmpty with | false => rfl | true => exact absurd (List.isEmpty_iff.1 h) c1
        by_cases c2 : p.toList = [46]
        · have b2 : (p.toList == ([46] : List UInt8)) = true := beq_iff_eq.2 c2
          rw [if_pos (.inr c2)] at H0
          have H := Aside0.mk H0; clear H0 c1 c2
          go_wp2
          go_roundg g
          case rel => exact ⟨k + 1, acc, by omega, by go_num, H, by omega, HO, HB⟩
          case measure => simp
        · have b2 : (p.toList == ([46] : List UInt8)) = false := beq_eq_false_iff_ne.2 c2
          rw [if_neg (by rintro (h | h); exact c1 h; exact c2 h)] at H0
          clear c1 c2
          by_cases c3 : 24 < p.size
          · rw [if_pos c3] at H0
            simp only [Prod.mk.injEq] at H0
            obtain ⟨rfl, rfl⟩ := H0
            have b3 : decide (24 < (p.size : Int)) = true := decide_eq_true (by omega)
            go_wp2
            try rw [Exit.noGoto_ret]
            go_ret2
            exact ⟨_, rfl, Kd.R_nil _ _ _ _ _, below_step HB1.out HB.out⟩
          · rw [if_neg c3] at H0
            have H := Aside0.mk H0; clear H0
            have b3 : decide (24 < (p.size : Int)) = false := decide_eq_false (by omega)
            go_wp2_with (first
              | (go_at_call 32; refine (clone_c p _ (by omega)).mono ?_; rintro e w2 ⟨rfl, hb2⟩; have HB2 := Aside0.mk (below_step HB.out hb2); have HO2 := Aside0.mk (Kd.R_below HO.out hb2); clear HB HO hb2; have HB := HB2; have HO := HO2; clear HB2 HO2)
              | ((with_reducible refine gate_builtin (b := .append) (xs := #[.tmp 25, .tmp 28]) rfl ?_); (try (refine gate_guard (by rfl) ?_; dsimp only)); at_builtin; refine Kd.R_append Kd.string (w0 := W1) W1.heap.size rfl (.tmp 25) (.tmp 28) 23 9 (.string ⟨#[]⟩) 16 rfl Tryd.underlying23 info9h rfl (by decide) (by omega) u4 acc p [.string p] (fun _ => True) (fun _ => False) rfl rfl ?aP (fun _ hk => hk.elim) ?aF ?aO ?aB ?aS ?aL ?_; (case aP => exact rfl); (case aB => exact HB.out); (case aF => exact (fun _ _ => trivial)); (case aO => exact HO.out); (case aS => exact (below_size HB.out)); (case aL => omega); intro v162 w17 ho hb hg hat; have HB2 := Aside0.mk hb; have HO2 := Aside0.mk ho; clear HB HO ho hb hg hat; have HB := HB2; have HO := HO2; clear HB2 HO2))
            go_roundg g
            case rel => exact ⟨k + 1, acc ++ [p], by omega, by go_num, H, by simp; omega, HO, HB⟩
            case measure => simp
    · obtain rfl : k = n := by omega
      obtain ⟨A4, c4, e4⟩ := Kd.R_slice HO.out
      subst e4
      have H0 := H.out
      rw [List.drop_eq_nil_of_le (by rw [HL.out]; exact Nat.le_refl _)] at H0
      unfold partsTo at H0
      simp only [Prod.mk.injEq] at H0
      obtain ⟨rfl, e2⟩ := H0
      clear H
      have q : ¬ ((k : Int) < (k : Int)) := by omega
      have e3 : decide ((acc.length : Int) ≤ 20) = r2 := by rw [← e2]; exact decide_eq_decide.2 (by omega)
      clear e2
      go_wp2
      try rw [Exit.noGoto_ret]
      go_ret2
      exact ⟨_, (by first | rfl | (simp [e3]; done)), Kd.R_lower HO.out HB1.out.size, below_step HB1.out HB.out⟩
end Go.Proofs.YtblejdnjemcpcaaDoor.Hand
namespace Go.Proofs.YtblejdnjemcpcaaDoor.Hand
open Go.RowKit Go.Proofs.YtblejdnjemcpcaaDoorW.PrintWords Go.Proofs.YtblejdnjemcpcaaDoorW.PrintLast Go.Proofs.YtblejdnjemcpcaaDoorW.PrintMore
def splitOf (s : ByteArray) : List ByteArray × Int :=
  if Lib.hasPrefix s.data.toList [47] then
    if decide (0 ≤ Lib.indexByte s.data.toList 0) then ([], 2)
    else if (partsTo (piecesOf s) []).2 then (if 200 < s.size then ([], 11) else ((partsTo (piecesOf s) []).1, 0)) else ([], 11)
  else ([], 2)
def path_Split.f (s : ByteArray) : Option (List ByteArray × Int) := if s.size < 4294967281 then some (splitOf s) else none

set_option maxHeartbeats 4000000 in
theorem path_Split.calls (a0 : ByteArray) (r1 : List ByteArray) (r2 : Int) (w : World) (hG : G w) (h : path_Split.f a0 = some (r1, r2)) :
    Calls Tryd.prog 9 #[.string a0] w fun e w' => ∃ v0_ : Value, e = .returned (.tuple #[v0_, .int .i64 r2]) ∧ Kd.R Kd.string 9 w' w.heap.size (fun _ => True) v0_ r1 ∧ Below w.heap.size w w' := by
  unfold path_Split.f at h
  split at h
  case isFalse => cases h
  case isTrue hs =>
  replace h := Option.some.inj h
  unfold splitOf at h
  have cP := Tryd.strings_HasPrefix a0 ⟨#[47]⟩ w
  have cC := Tryd.strings_Contains_one a0 0 w
  have cQ := fun l ok h => path_parts.calls a0 l ok w hG h
  rw [show (⟨#[47]⟩ : ByteArray).data.toList = [47] from rfl] at cP
  have hf : path_parts.f a0 = some (partsTo (piecesOf a0) []) := by unfold path_parts.f; rw [if_pos hs]
  cases h1 : Lib.hasPrefix a0.data.toList [47]
  · rw [h1] at h cP
    simp only [Bool.false_eq_true, if_false, Prod.mk.injEq] at h
    obtain ⟨rfl, rfl⟩ := h
    clear h1 cC cQ hf
    go_enter Tryd.func9, Tryd.ntmps9
    go_wp2_with (first | (go_at_call 21; refine cP.mono ?_; rintro e w' ⟨rfl, rfl⟩))
    go_ret2
    exact ⟨_, rfl, Kd.R_nil _ _ _ _ _, Below.refl _ _⟩
  · rw [h1] at h cP
    simp only [if_true] at h
    cases h2 : decide (0 ≤ Lib.indexByte a0.data.toList 0)
    · rw [h2] at h cC
      simp only [Bool.false_eq_true, if_false] at h
      obtain ⟨⟨l, ok⟩, hl⟩ : ∃ x, partsTo (piecesOf a0) [] = x := ⟨_, rfl⟩
      rw [hl] at h hf
      dsimp only at h
      replace cQ := cQ l ok hf
      clear h1 h2 hl hf
      cases ok
      · simp only [Bool.false_eq_true, if_false, Prod.mk.injEq] at h
        obtain ⟨rfl, rfl⟩ := h
        go_enter Tryd.func9, Tryd.ntmps9
        go_wp2_with (first | (go_at_call 21; refine cP.mono ?_; rintro e w' ⟨rfl, rfl⟩) | (go_at_call 22; refine cC.mono ?_; rintro e w' ⟨rfl, rfl⟩) | (go_at_call 23; refine cQ.mono ?_; rintro e w2 ⟨v0, rfl, ho, hb⟩; have HO := Aside0.mk ho; have HB := Aside0.mk hb; clear ho hb))
        go_ret2
        exact ⟨_, rfl, Kd.R_nil _ _ _ _ _, HB.out⟩
      · simp only [if_true] at h
        by_cases c3 : 200 < a0.size
        · rw [if_pos c3] at h
          have b3 : decide (200 < (a0.size : Int)) = true := decide_eq_true (by omega)
          simp only [Prod.mk.injEq] at h
          obtain ⟨rfl, rfl⟩ := h
          go_enter Tryd.func9, Tryd.ntmps9
          go_wp2_with (first | (go_at_call 21; refine cP.mono ?_; rintro e w' ⟨rfl, rfl⟩) | (go_at_call 22; refine cC.mono ?_; rintro e w' ⟨rfl, rfl⟩) | (go_at_call 23; refine cQ.mono ?_; rintro e w2 ⟨v0, rfl, ho, hb⟩; have HO := Aside0.mk ho; have HB := Aside0.mk hb; clear ho hb))
          go_ret2
          exact ⟨_, rfl, Kd.R_nil _ _ _ _ _, HB.out⟩
        · rw [if_neg c3] at h
          have b3 : decide (200 < (a0.size : Int)) = false := decide_eq_false (by omega)
          simp only [Prod.mk.injEq] at h
          obtain ⟨rfl, rfl⟩ := h
          go_enter Tryd.func9, Tryd.ntmps9
          go_wp2_with (first | (go_at_call 21; refine cP.mono ?_; rintro e w' ⟨rfl, rfl⟩) | (go_at_call 22; refine cC.mono ?_; rintro e w' ⟨rfl, rfl⟩) | (go_at_call 23; refine cQ.mono ?_; rintro e w2 ⟨v0, rfl, ho, hb⟩; have HO := Aside0.mk ho; have HB := Aside0.mk hb; clear ho hb))
          go_ret2
          exact ⟨_, rfl, HO.out, HB.out⟩
    · rw [h2] at h cC
      simp only [if_true, Prod.mk.injEq] at h
      obtain ⟨rfl, rfl⟩ := h
      clear h1 h2 cQ hf
      go_enter Tryd.func9, Tryd.ntmps9
      go_wp2_with (first | (go_at_call 21; refine cP.mono ?_; rintro e w' ⟨rfl, rfl⟩) | (go_at_call 22; refine cC.mono ?_; rintro e w' ⟨rfl, rfl⟩))
      go_ret2
      exact ⟨_, rfl, Kd.R_nil _ _ _ _ _, Below.refl _ _⟩

/-! path.Join -/
def joinOf (l : List ByteArray) : ByteArray := ⟨(47 :: Lib.join (l.map (·.data.toList)) [47]).toArray⟩
def path_Join.f (l : List ByteArray) : Option ByteArray := if l.length ≤ 1000000000 ∧ (Lib.join (l.map (·.data.toList)) [47]).length ≤ 1000000000 then some (joinOf l) else none
theorem path_Join.calls (A0 : Option Addr) (c0 : Nat) (l0 : List ByteArray) (r : ByteArray) (w : World) (hr0 : Kd.C Kd.string w A0 l0.length l0) (hc0 : l0.length ≤ c0) (h : path_Join.f l0 = some r) :
    Calls Tryd.prog 19 #[.slice A0 l0.length c0] w fun e w' => e = .returned (.string r) ∧ Below w.heap.size w w' := by
  unfold path_Join.f at h
  split at h
  case isFalse => cases h
  case isTrue hb =>
  have H := Aside0.mk (Option.some.inj h); clear h
  obtain ⟨j, hj⟩ : ∃ j : ByteArray, (⟨(Lib.join (l0.map (·.data.toList)) [47]).toArray⟩ : ByteArray) = j := ⟨_, rfl⟩
  have hjs : j.size ≤ 1000000000 := by rw [← hj]; exact hb.2
  have hr : Aside0 ((⟨#[47]⟩ : ByteArray) ++ j = r) := ⟨by
    rw [← H.out, ← hj]
    apply ByteArray.ext
    simp [joinOf]⟩
  have cJ := strings_Join.calls A0 c0 l0 ⟨#[47]⟩ j w hr0 hc0 (by unfold strings_Join.f; rw [← hj]; exact if_pos hb)
  clear hr0 hb hj H
  go_enter Tryd.func19, Tryd.ntmps19
  go_wp2_with (first | (go_at_call 28; refine cJ.mono ?_; rintro e w2 ⟨rfl, hb⟩; have HB := Aside0.mk hb; clear hb))
  go_ret
  exact ⟨by rw [hr.out]; rfl, HB.out⟩
end Go.Proofs.YtblejdnjemcpcaaDoor.Hand
namespace Go.Proofs.YtblejdnjemcpcaaDoor.Hand
open Go.RowKit Go.Proofs.YtblejdnjemcpcaaDoorW.PrintWords Go.Proofs.YtblejdnjemcpcaaDoorW.PrintLast Go.Proofs.YtblejdnjemcpcaaDoorW.PrintMore
def cleanTo : List ByteArray → List ByteArray → List ByteArray
  | [], acc => acc
  | x :: xs, acc => if x.data.toList = [46, 46] then cleanTo xs (acc.take (acc.length - 1)) else cleanTo xs (acc ++ [x])
def path_Clean.f (s : ByteArray) : Option (ByteArray × Int) := if s.size < 4294967281 then (if (splitOf s).2 = 0 then (path_Join.f (cleanTo (splitOf s).1 [])).map (fun j => (j, 0)) else some (⟨#[]⟩, (splitOf s).2)) else none

theorem partsTo_len : ∀ (ps acc : List ByteArray), (partsTo ps acc).2 = true → (partsTo ps acc).1.length ≤ 20
  | [], acc, h => by simpa [partsTo] using h
  | p :: ps, acc, h => by
    unfold partsTo at h ⊢
    split
    · next c => rw [if_pos c] at h; exact partsTo_len ps acc h
    · next c =>
      rw [if_neg c] at h
      split
      · simp
      · next c2 => rw [if_neg c2] at h; exact partsTo_len ps _ h
attribute [local go_sem] max2_int min2_int max_two min_two
set_option maxHeartbeats 4000000 in
theorem path_Clean.calls (a0 : ByteArray) (r1 : ByteArray) (r2 : Int) (w : World) (hG : G w) (h : path_Clean.f a0 = some (r1, r2)) :
    Calls Tryd.prog 11 #[.string a0] w fun e w' => e = .returned (.tuple #[.string r1, .int .i64 r2]) ∧ Below w.heap.size w w' := by
  unfold path_Clean.f at h
  split at h
  case isFalse => cases h
  case isTrue hs =>
  have cQ := fun l ok h => path_Split.calls a0 l ok w hG h
  have hf : path_Split.f a0 = some (splitOf a0) := by unfold path_Split.f; rw [if_pos hs]
  have hlen : (splitOf a0).1.length ≤ 1000000000 ∨ (splitOf a0).2 ≠ 0 := by
    unfold splitOf
    split
    · split
      · right; simp
      · split
        · split
          · right; simp
          · left
            next h2 _ =>
            have := partsTo_len (piecesOf a0) [] h2
            simp; omega
        · right; simp
    · right; simp
  obtain ⟨⟨l, e⟩, hl⟩ : ∃ x, splitOf a0 = x := ⟨_, rfl⟩
  rw [hl] at h hf hlen
  dsimp only at h hlen
  replace cQ := cQ l e hf
  clear hl hf hs hG
  by_cases c1 : e = 0
  case neg =>
    rw [if_neg c1] at h
    have b1 : (e == 0) = false := beq_eq_false_iff_ne.2 c1
    have b2 : (e != 0) = true := bne_iff_ne.2 c1
    clear c1 hlen
    simp only [Option.some.injEq, Prod.mk.injEq] at h
    obtain ⟨rfl, rfl⟩ := h
    go_enter Tryd.func11, Tryd.ntmps11
    go_wp2
    go_step3
    go_wp2_with (first | (go_at_call 9; refine cQ.mono ?_; rintro e w2 ⟨v0, rfl, ho, hb⟩; have HO := Aside0.mk ho; have HB := Aside0.mk hb; clear ho hb))
    try rw [Exit.noGoto_ret]
    go_ret2
    exact ⟨rfl, HB.out⟩
  case pos =>
  subst c1
  replace hlen : l.length ≤ 1000000000 := hlen.resolve_right (by simp)
  rw [if_pos rfl] at h
  obtain ⟨j, hj, h2⟩ := Option.map_eq_some_iff.1 h
  simp only [Prod.mk.injEq] at h2
  obtain ⟨rfl, rfl⟩ := h2
  have HJ := Aside0.mk hj; clear h hj
  go_enter Tryd.func11, Tryd.ntmps11
  go_wp2
  go_step3
  go_wp2_with (first | (go_at_call 9; refine cQ.mono ?_; rintro e w2 ⟨v0, rfl, ho, hb⟩; obtain ⟨Ao, co, eo⟩ := Kd.R_slice ho; subst eo; have HC := Aside0.mk (Kd.R_reads' ho).2.2; have HB1 := Aside0.mk hb; clear ho hb))
  go_step3
  go_wp2
  obtain ⟨n, hn⟩ : ∃ n, l.length = n := ⟨_, rfl⟩
  rw [hn] at HC hlen
  rw [hn]
  have HL := Aside0.mk hn; clear hn cQ
  go_loopg [6, 19] n (fun g v6 v19 wx => ∃ (k : Nat) (acc : List ByteArray), k + g = n ∧ v19 = .int .i64 k ∧ Aside0 (cleanTo (l.drop k) acc = cleanTo l []) ∧ acc.length ≤ k ∧ Aside0 (Kd.R Kd.string 9 wx w2.heap.size (fun _ => True) v6 acc) ∧ Aside0 (Below w2.heap.size w2 wx))
  case atStart => exact ⟨0, [], by omega, rfl, ⟨rfl⟩, Nat.le_refl _, ⟨Kd.R_nil _ _ _ _ _⟩, ⟨Below.refl _ _⟩⟩
  case round =>
    obtain ⟨k, acc, hk, rfl, H, hacc, HO, HB⟩ := hrel
    by_cases hlt : k < n
    · obtain ⟨g, rfl⟩ : ∃ g, gk = g + 1 := ⟨gk - 1, by omega⟩
      obtain ⟨p, hp⟩ : ∃ p, l[k]? = some p := ⟨_, List.getElem?_eq_getElem (by rw [HL.out]; exact hlt)⟩
      have hd : l.drop k = p :: l.drop (k + 1) := by
        obtain ⟨hl, hp⟩ := List.getElem?_eq_some_iff.1 hp
        rw [List.drop_eq_getElem_cons hl, hp]
      obtain ⟨ad, e, hcell⟩ := Kd.at_string (Kd.C_below HC.out HB.out) (k : Int) (by omega) (by omega)
      subst e
      rw [show rdOf ByteArray.empty l (k : Int) = p by simp [rdOf, List.getD_eq_getElem?_getD, hp]] at hcell
      have H0 := H.out
      rw [hd] at H0
      rw [cleanTo, ← Lib.toList_data p] at H0
      clear H hd hp
      have q113 : (k : Int) < (n : Int) := by omega
      rw [Int.toNat_natCast] at hcell
      by_cases c1 : p.toList = [46, 46]
      · have b1 : (p.toList == ([46, 46] : List UInt8)) = true := beq_iff_eq.2 c1
        rw [if_pos c1] at H0
        have H := Aside0.mk H0; clear H0 c1
        obtain ⟨A6, c6, e6⟩ := Kd.R_slice HO.out
        subst e6
        have hcap := (Kd.R_reads' HO.out).2.1
        by_cases c2 : acc.length = 0
        · have HO2 := Kd.R_take HO.out (m := 0) (by omega)
          rw [show acc.length - 1 = 0 by omega] at H
          clear HO
          have HO := Aside0.mk HO2; clear HO2
          rw [c2] at hcap ⊢
          go_wp2
          go_roundg g
          case rel => exact ⟨k + 1, _, by omega, by go_num, H, by simp, HO, HB⟩
          case measure => simp
        · obtain ⟨m, hm⟩ : ∃ m, acc.length = m + 1 := ⟨acc.length - 1, by omega⟩
          have HO2 := Kd.R_take HO.out (m := m) (by omega)
          rw [show acc.length - 1 = m by omega] at H
          clear HO
          have HO := Aside0.mk HO2; clear HO2
          rw [hm] at hcap ⊢
          have e1 : wrap64 (((m + 1 : Nat) : Int) - 1) = m := by unfold wrap64; omega
          have e2 : IntKind.i64.wrap (((m + 1 : Nat) : Int) - 1) = m := (i64_w _).trans e1
          have e3 : max (m : Int) 0 = m := by omega
          go_wp2
          go_roundg g
          case rel => exact ⟨k + 1, _, by omega, by go_num, H, by rw [List.length_take]; omega, HO, HB⟩
          case measure => simp
      · have b1 : (p.toList == ([46, 46] : List UInt8)) = false := beq_eq_false_iff_ne.2 c1
        rw [if_neg c1] at H0
        have H := Aside0.mk H0; clear H0 c1
        go_wp2_with (first
              | ((with_reducible refine gate_builtin (b := .append) (xs := #[.tmp 31, .tmp 33]) rfl ?_); (try (refine gate_guard (by rfl) ?_; dsimp only)); at_builtin; refine Kd.R_append Kd.string (w0 := w2) w2.heap.size rfl (.tmp 31) (.tmp 33) 23 9 (.string ⟨#[]⟩) 16 rfl Tryd.underlying23 info9h rfl (by decide) (by omega) u6 acc p [.string p] (fun _ => True) (fun _ => False) rfl rfl ?aP (fun _ hk => hk.elim) ?aF ?aO ?aB ?aS ?aL ?_; (case aP => exact rfl); (case aB => exact HB.out); (case aF => exact (fun _ _ => trivial)); (case aO => exact HO.out); (case aS => exact (below_size HB.out)); (case aL => omega); intro v162 w17 ho hb hg hat; have HB2 := Aside0.mk hb; have HO2 := Aside0.mk ho; clear HB HO ho hb hg hat; have HB := HB2; have HO := HO2; clear HB2 HO2))
        go_roundg g
        case rel => exact ⟨k + 1, acc ++ [p], by omega, by go_num, H, by simp; omega, HO, HB⟩
        case measure => simp
    · obtain rfl : k = n := by omega
      have H0 := H.out
      rw [List.drop_eq_nil_of_le (by rw [HL.out]; exact Nat.le_refl _)] at H0
      rw [cleanTo] at H0
      clear H
      obtain ⟨A6, c6, e6⟩ := Kd.R_slice HO.out
      subst e6
      have hR := Kd.R_reads' HO.out
      have cJ := path_Join.calls A6 c6 acc j wr hR.2.2 hR.2.1 (by rw [H0]; exact HJ.out)
      clear hR H0
      have q : ¬ ((k : Int) < (k : Int)) := by omega
      go_wp2_with (first | (go_at_call 19; refine cJ.mono ?_; rintro e w3 ⟨rfl, hb⟩; have HB3 := Aside0.mk hb; clear hb))
      try rw [Exit.noGoto_ret]
      go_ret2
      exact ⟨rfl, below_step (below_step HB1.out HB.out) HB3.out⟩
end Go.Proofs.YtblejdnjemcpcaaDoor.Hand
