/- What told answers: the text read backwards, for every text. -/
import Derived.Test.YtibjgmhhecbhbaaDoorProg
import Derived.Below
import Derived.Deep.Draws
import Derived.Deep.AppendLies
import Derived.Maps.AppendAt
import Derived.OwnWalk
import Derived.Laws.BytesArg
import Derived.Laws.MakeOwn
import Derived.Laws.OwnMore
import Derived.Deep.OwnRows
import Derived.Tactics
import Derived.Lib.ConvBytes
import Derived.Laws.Slices
import Derived.WalkKit
import Derived.KernelRfl
import Derived.RowKit3
import Derived.Deep.LoopGhost
import Derived.Deep.QuietTactic
import Derived.BigQuiet
import Derived.WideLaws
import Derived.Deep.DeepCutAuto
import Derived.Deep.CutBlock
import Derived.Deep.RegionHeld3
import Derived.Laws.Rows
import Derived.Lib.AppendStr
import Derived.ArgAppend
import Derived.Laws.IdiomCopy
import Derived.OrdersHeld
import Derived.Laws.BitsLemmas
import Derived.RowKit
import Derived.Test.YtibjgmhhecbhbaaDoorWWords
import Derived.Test.YtibjgmhhecbhbaaDoorWLast
import Derived.Test.YtibjgmhhecbhbaaDoorWTab
import Derived.Test.YtibjgmhhecbhbaaDoorWFour
import Derived.Test.YtibjgmhhecbhbaaDoorWQPut
import Derived.Test.YtibjgmhhecbhbaaDoorWApart
import Derived.Test.YtibjgmhhecbhbaaDoorWArr
import Derived.Test.YtibjgmhhecbhbaaDoorWZeros
import Derived.Test.YtibjgmhhecbhbaaDoorWFoot
import Derived.Test.YtibjgmhhecbhbaaDoorWKept
import Derived.Test.YtibjgmhhecbhbaaDoorWShare
import Derived.Test.YtibjgmhhecbhbaaDoorWN
import Derived.Test.YtibjgmhhecbhbaaDoorWFootNe
import Derived.Test.YtibjgmhhecbhbaaDoorWAt
import Derived.Test.YtibjgmhhecbhbaaDoorWEqStruct
import Derived.Test.YtibjgmhhecbhbaaDoorWRepsOne
import Derived.Test.YtibjgmhhecbhbaaDoorWInv
import Derived.Test.YtibjgmhhecbhbaaDoorWInvWords
import Derived.Test.YtibjgmhhecbhbaaDoorWGuard
import Derived.Test.YtibjgmhhecbhbaaDoorWNEv
import Derived.Test.YtibjgmhhecbhbaaDoorWMore
import Derived.Lib.SplitLaws
import Derived.Outline
import Derived.Deep.RegionLaw
import Derived.Test.YtibjgmhhecbhbaaDoorMark
namespace Go.Proofs.YtibjgmhhecbhbaaDoor.Hand
open Go.RowKit Go.Proofs.YtibjgmhhecbhbaaDoorW.PrintWords Go.Proofs.YtibjgmhhecbhbaaDoorW.PrintLast Go.Proofs.YtibjgmhhecbhbaaDoorW.PrintMore

theorem info5h : (Tryd.prog.info? 5).map (fun i => (i.zero, i.size, i.bytes)) = some (some (.int .u8 0), 1, 1) := by kernel_rfl
theorem info9h : (Tryd.prog.info? 9).map (fun i => (i.zero, i.size, i.bytes)) = some (some (.string ⟨#[]⟩), 1, 16) := by kernel_rfl
abbrev Bs := List UInt8

/-! spell.told -/
def hexDigits : Bs := [48, 49, 50, 51, 52, 53, 54, 55, 56, 57, 97, 98, 99, 100, 101, 102]
def hexI (n : Int) : Int := bt (⟨#[48, 49, 50, 51, 52, 53, 54, 55, 56, 57, 97, 98, 99, 100, 101, 102]⟩ : ByteArray) n
theorem and15_fin : ∀ x : Fin 256, Go.bits .and .u8 (x.val : Int) 15 = (x.val : Int) % 16 := by decide +kernel
theorem and15 (x : Int) (h0 : 0 ≤ x) (h1 : x ≤ 255) : Go.bits .and .u8 x 15 = x % 16 := by
  have := and15_fin ⟨x.toNat, by omega⟩
  simp only [Int.toNat_of_nonneg h0] at this
  exact this
/-- The numbers of the digits of some bytes. -/
def toldI : List Int → List Int
  | [] => []
  | x :: l => hexI (x / 16) :: hexI (x % 16) :: toldI l
def toldB (s : ByteArray) : ByteArray := strOfNums (toldI (bytesOf s))
theorem toldI_append : ∀ xs ys, toldI (xs ++ ys) = toldI xs ++ toldI ys
  | [], _ => rfl
  | x :: xs, ys => by simp [toldI, toldI_append xs ys]
theorem toldI_length : ∀ xs, (toldI xs).length = 2 * xs.length
  | [] => rfl
  | x :: xs => by simp [toldI, toldI_length xs]; omega

theorem reads_new {α : Type} (enc : α → Value) (W : World) (e : Nat) (xs : List α) (h : xs.length ≤ 9223372036854775807) :
    ReadsRow (fun x cs => cs = [enc x]) 1 (W.alloc (.cells (xs.map enc).toArray e)) (some ⟨W.heap.size, 0, none⟩) xs.length xs := by
  refine ⟨rfl, h, fun _ => ⟨_, rfl, fun j p hj => ⟨[enc p], rfl, rfl, fun i u hi => ?_⟩⟩⟩
  cases i with
  | succ i => simp at hi
  | zero =>
    simp only [List.getElem?_cons_zero, Option.some.injEq] at hi
    subst hi
    rw [add_plain]
    simp [World.cell?, World.alloc, -World.alloc_eq, hj]
theorem told_snoc (s : ByteArray) (k : Nat) (h : k < s.size) (x : Int) (hx : ((s.data.toList.getD k 0).toNat : Int) = x) :
    toldI ((bytesOf s).take (k + 1)) = toldI ((bytesOf s).take k) ++ [hexI (x / 16), hexI (x % 16)] := by
  have hl : k < (bytesOf s).length := by rw [bytesOf_length]; exact h
  have hl2 : k < s.data.toList.length := by rw [data_length]; exact h
  rw [List.take_succ_eq_append_getElem hl, toldI_append]
  congr 1
  have : (bytesOf s)[k] = x := by
    rw [← hx]
    simp only [bytesOf, List.getElem_map, List.getD_eq_getElem?_getD, List.getElem?_eq_getElem hl2, Option.getD_some]
  rw [this]
  rfl
set_option maxHeartbeats 4000000 in
set_option maxRecDepth 100000 in
theorem told_c (s : ByteArray) (w : World) (hs : s.size ≤ 1000000000) :
    Calls Tryd.prog 25 #[.string s] w fun e w' => e = .returned (.string (toldB s)) ∧ Below w.heap.size w w' := by
  have HB := Aside0.mk (Below.refl w.heap.size w)
  have hcb := fun W => Lib.run_convert_string_bytes (P := Tryd.prog) W 9 22 5 s Tryd.underlying9 Tryd.underlying22 Tryd.underlying5
  have hb5 := Aside0.mk (Lib.bytesWorld_cell w 5 s)
  have HB1 := Aside0.mk (bytes_below (Below.refl w.heap.size w) (Nat.le_refl _) 5 s)
  have hbl := bytesOf_length s
  have HL := Aside0.mk hbl; clear hbl
  go_enter Tryd.func25, Tryd.ntmps25
  go_wp2
  clear hcb
  generalize hW : Lib.bytesWorld w 5 s = W1 at *
  clear hW
  go_loopg [3, 9] s.size (fun g v3 v9 wx => ∃ (k : Nat), k + g = s.size ∧ v9 = .int .i64 k ∧ Aside0 (Kd.R (Kd.int .u8) 5 wx W1.heap.size (fun _ => True) v3 (toldI ((bytesOf s).take k))) ∧ Aside0 (Below W1.heap.size W1 wx))
  case atStart => exact ⟨0, by omega, rfl, ⟨Kd.R_nil _ _ _ _ _⟩, ⟨Below.refl _ _⟩⟩
  case round =>
    obtain ⟨k, hk, rfl, HO, HB⟩ := hrel
    by_cases hlt : k < s.size
    · obtain ⟨g, rfl⟩ : ∃ g, gk = g + 1 := ⟨gk - 1, by omega⟩
      have hc1 := (HB.out.cell (World.block_lt_of_cell? _ _ (hb5.out k hlt))).trans (hb5.out k hlt)
      obtain ⟨x, hx⟩ : ∃ x : Int, ((s.data.toList.getD k 0).toNat : Int) = x := ⟨_, rfl⟩
      have hx0 : 0 ≤ x := by omega
      have hx1 : x ≤ 255 := by have := (s.data.toList.getD k 0).toNat_lt; omega
      rw [hx] at hc1
      have HX := Aside0.mk hx; clear hx
      have q113 : (k : Int) < (s.size : Int) := by omega
      go_wp2
      have e15 := and15 x hx0 hx1
      have p1 : 0 ≤ x / 16 := by omega
      have p2 : x / 16 < 16 := by omega
      have p3 : 0 ≤ x % 16 := by omega
      have p4 : x % 16 < 16 := by omega
      have b1 := bt_at (⟨#[48, 49, 50, 51, 52, 53, 54, 55, 56, 57, 97, 98, 99, 100, 101, 102]⟩ : ByteArray) (x / 16)
      have b2 := bt_at (⟨#[48, 49, 50, 51, 52, 53, 54, 55, 56, 57, 97, 98, 99, 100, 101, 102]⟩ : ByteArray) (x % 16)
      obtain ⟨y1, hy1⟩ : ∃ y, y = bt (⟨#[48, 49, 50, 51, 52, 53, 54, 55, 56, 57, 97, 98, 99, 100, 101, 102]⟩ : ByteArray) (x / 16) := ⟨_, rfl⟩
      obtain ⟨y2, hy2⟩ : ∃ y, y = bt (⟨#[48, 49, 50, 51, 52, 53, 54, 55, 56, 57, 97, 98, 99, 100, 101, 102]⟩ : ByteArray) (x % 16) := ⟨_, rfl⟩
      rw [← hy1] at b1
      rw [← hy2] at b2
      have HY1 := Aside0.mk hy1; clear hy1
      have HY2 := Aside0.mk hy2; clear hy2
      go_region_law (refine Kd.R_append_rows_step (Kd.int .u8) (Rr := fun x cs => cs = [.int .u8 x]) (w0 := W1) W1.heap.size (by rfl) (.tmp 13) (.tmp 20) 22 5 (.int .u8 0) 1 rfl Tryd.underlying22 info5h rfl (by decide) (by omega) u3 (toldI ((bytesOf s).take k)) [y1, y2] (some ⟨_, 0, none⟩) 2 2 (fun _ => True) (fun _ => False) rfl rfl ?aO ?aR ?aK (fun _ hk => hk.elim) (fun _ _ => trivial) ?aB ?aS ?aL ?_; (case aO => exact Kd.R_alloc (Kd.R_drew HO.out) _); (case aR => exact reads_new (Value.int .u8) _ 5 [y1, y2] (by simp)); (case aK => exact fun _ _ h => h); (case aB => exact below_alloc (below_drew HB.out) _); (case aS => (have := HB.out.size; simp; omega)); (case aL => (rw [toldI_length, List.length_take]; have := HL.out; omega)); intro v1 w1 ho hb hg hat; have HO2 := Aside0.mk ho; have HB2 := Aside0.mk hb; clear ho hb hg hat)
      all_goals
        go_wp2
        go_roundg g
        case rel => exact ⟨k + 1, by omega, by go_num, ⟨by rw [told_snoc s k hlt x HX.out]; unfold hexI; rw [← HY1.out, ← HY2.out]; exact HO2.out⟩, HB2⟩
        case measure => simp
    · obtain rfl : k = s.size := by omega
      obtain ⟨A4, c4, e4⟩ := Kd.R_slice HO.out
      subst e4
      have hcv := Kd.C_string (P := Tryd.prog) (src := 22) (dst := 9) (c := c4) Tryd.underlying22 Tryd.underlying5 Tryd.underlying9 (Kd.R_reads' HO.out).2.2
      have hfin : strOfNums (toldI ((bytesOf s).take s.size)) = toldB s := by rw [← HL.out, List.take_length]; rfl
      rw [hfin] at hcv
      have HF := Aside0.mk hfin; clear hfin
      have q : ¬ ((s.size : Int) < (s.size : Int)) := by omega
      go_wp2
      go_ret
      exact ⟨rfl, below_step HB1.out HB.out⟩
end Go.Proofs.YtibjgmhhecbhbaaDoor.Hand
