/- What Read is told as, and Atoi. -/
import Derived.Test.YtibjgmhhecbhbaaDoorSay
import Derived.Laws.Rows
namespace Go.Proofs.YtibjgmhhecbhbaaDoor.Hand
open Go.RowKit Go.Proofs.YtibjgmhhecbhbaaDoorW.PrintWords Go.Proofs.YtibjgmhhecbhbaaDoorW.PrintLast Go.Proofs.YtibjgmhhecbhbaaDoorW.PrintMore
set_option linter.unusedVariables false
set_option linter.unusedSimpArgs false

structure ROp where
  kd : Int
  fd : Int
  n : Int
  off : Int
  fl : Int
  p : ByteArray
  t : ByteArray
  d : List Int
def piecesOf (s : ByteArray) : List ByteArray := Lib.splitB ⟨#[32]⟩ 0 (Lib.countB s ⟨#[32]⟩) s
def kindFrom : List ByteArray → Int → ByteArray → Int → Int
  | [], _, _, acc => acc
  | x :: r, i, w, acc => kindFrom r (i + 1) w (if x.toList = w.toList then i else acc)
def atoiV (v : ByteArray) : Int := match Lib.atoiAll v.data.toList with | .ok x => x | .syntax => 0 | .range => Lib.atoiSat v.data.toList
def atoiE (v : ByteArray) : Bool := match Lib.atoiAll v.data.toList with | .ok _ => false | _ => true
def cutK (f : ByteArray) : ByteArray := ⟨(Lib.cut f.data.toList [61]).1.toArray⟩
def cutV (f : ByteArray) : ByteArray := ⟨(Lib.cut f.data.toList [61]).2.1.toArray⟩
def setField (o : ROp) (k : List UInt8) (x : Int) : ROp :=
  if k = [102, 100] then { o with fd := x } else if k = [110] then { o with n := x } else if k = [111, 102, 102] then { o with off := x } else if k = [102, 108, 97, 103, 115] then { o with fl := x } else o
def stepField (o : ROp) (f : ByteArray) : Option ROp :=
  if (cutK f).toList = [112, 97, 116, 104] then some { o with p := heardB (cutV f) }
  else if (cutK f).toList = [116, 111] then some { o with t := heardB (cutV f) }
  else if (cutK f).toList = [100, 97, 116, 97] then some { o with d := bytesOf (heardB (cutV f)) }
  else if atoiE (cutV f) then none else some (setField o (cutK f).toList (atoiV (cutV f)))
def fieldsTo : List ByteArray → ROp → Option ROp
  | [], o => some o
  | f :: r, o => (stepField o f).bind (fieldsTo r)
def ROp.say (o : ROp) : ByteArray := sayB o.kd o.fd o.n o.off o.fl o.p o.t o.d
def zeroOp : ROp := ⟨0, 0, 0, 0, 0, ⟨#[]⟩, ⟨#[]⟩, []⟩
def readB (s : ByteArray) : ROp × Int :=
  match fieldsTo (piecesOf s).tail { zeroOp with kd := kindFrom wordsB 0 ((piecesOf s).headD ⟨#[]⟩) 0 } with
  | none => (zeroOp, 3)
  | some o => if s.toList = [] ∨ o.say.toList ≠ s.toList then (zeroOp, 3) else (o, 0)
def spell_Read.f (s : ByteArray) : Option (Int × Int × Int × Int × Int × ByteArray × ByteArray × List Int × Int) :=
  if s.size ≤ 100000 then some ((readB s).1.kd, (readB s).1.fd, (readB s).1.n, (readB s).1.off, (readB s).1.fl, (readB s).1.p, (readB s).1.t, (readB s).1.d, (readB s).2) else none

theorem atoi_ok (v : ByteArray) : okI (atoiV v) := by
  unfold atoiV okI
  have h1 := Lib.atoiSat_bounds v.data.toList
  cases h : Lib.atoiAll v.data.toList with
  | ok x => exact Lib.atoiAll_bounds h
  | «syntax» => simp
  | range => exact h1
theorem atoi_c (v : ByteArray) (w : World) (hv : v.size ≤ 1000000) (hG : G w) :
    (atoiE v = false → Calls Tryd.prog 18 #[.string v] w fun e w' => e = .returned (.tuple #[.int .i64 (atoiV v), .nilIface]) ∧ Below w.heap.size w w') ∧
    (atoiE v = true → Calls Tryd.prog 18 #[.string v] w fun e w' => ∃ N, e = .returned (.tuple #[.int .i64 (atoiV v), .iface 64 (.pointer (some ⟨N, 0, none⟩))]) ∧ Below w.heap.size w w') := by
  unfold atoiE atoiV
  obtain ⟨_, _, _, ⟨te, pe, h4⟩, ⟨te', pe', h5⟩⟩ := hG
  cases h : Lib.atoiAll v.data.toList with
  | ok x =>
    refine ⟨fun _ => ?_, fun h => by cases h⟩
    refine (Tryd.strconv_Atoi_ok v (by omega) x h w).mono ?_
    rintro e w' ⟨rfl, rfl | ⟨t, rfl⟩⟩
    · exact ⟨rfl, Below.refl _ _⟩
    · exact ⟨rfl, bytes_below (Below.refl _ _) (Nat.le_refl _) 5 t⟩
  | «syntax» =>
    refine ⟨fun h => (by cases h), fun _ => ?_⟩
    refine (Tryd.strconv_Atoi_syntax v (by omega) h _ w h4 (.inr ⟨te, pe, rfl⟩)).mono ?_
    rintro e w' ⟨N, rfl, _, _, hb⟩
    exact ⟨N, rfl, hb⟩
  | range =>
    refine ⟨fun h => (by cases h), fun _ => ?_⟩
    refine (Tryd.strconv_Atoi_range v (by omega) h _ w h5 (.inr ⟨te', pe', rfl⟩)).mono ?_
    rintro e w' ⟨N, rfl, _, _, hb⟩
    exact ⟨N, rfl, hb⟩
end Go.Proofs.YtibjgmhhecbhbaaDoor.Hand
