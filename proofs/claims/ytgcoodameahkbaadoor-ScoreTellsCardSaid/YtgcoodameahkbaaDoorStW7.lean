/- slices.symMergeCmpFunc: two parts, each in its order, are merged; by induction on how many there are. -/
import Derived.Test.YtgcoodameahkbaaDoorStW5
import Derived.Test.YtgcoodameahkbaaDoorStW6
import Derived.Test.YtgcoodameahkbaaDoorStD
namespace Go.Proofs.YtgcoodameahkbaaDoor.Stable
set_option linter.unusedVariables false
set_option linter.unusedSimpArgs false
open Go.Shelf Go.RowKit Go.Lib Go.Sort
variable {α : Type} [Inhabited α]

/-- slices.symMergeCmpFunc: two parts, each in its order, are merged. -/
theorem sym_all (enc : α → Value) (cf : α → α → Int) (I K : α → Int) (hJ : Judges cf I K) (g : Nat) (cb : Array Value) (blk off cap : Nat) (d0 : Array α) (w0 : World)
    (eg : ∀ args w, (callFunc g args).run Tryd.prog w = .ok (.enter g args) w) (hcmp : CmpLays1 Tryd.prog g cb enc cf blk off d0.size w0)
    (R : Row1 enc w0 blk off d0) : ∀ (n a m b z : Nat) (A M B : Int) (d : Array α) (w : World), b - a < n → d.size = z → d0.size = z → (a : Int) = A → (m : Int) = M → (b : Int) = B → SW enc w0 blk off d w → a < m → m < b → b ≤ z → z < 4611686018427387904 → Two I K a m b d →
    Calls Tryd.prog 57 #[.slice (some ⟨blk, off, none⟩) z cap, .int .i64 A, .int .i64 M, .int .i64 B, .func (.func g) #[] cb] w fun e w' => e = .returned (.tuple #[]) ∧ ∃ d', SW enc w0 blk off d' w' ∧ Done K a b d d'
  | 0, a, m, b, z, A, M, B, d, w => fun hn => absurd hn (Nat.not_lt_zero _)
  | n + 1, a, m, b, z, A, M, B, d, w => by
    intro hn hz h0 hA hM hB S ham hmb hb hsz T
    subst hz hA hM hB
    by_cases c1 : m = a + 1
    · subst c1
      have := sym_one enc cf I K hJ g cb blk off cap a b d0 d w0 w eg hcmp R h0 S hmb hb hsz T
      rw [show ((a : Int) + 1) = ((a + 1 : Nat) : Int) by omega] at this
      exact this
    · by_cases c2 : b = m + 1
      · subst c2
        have := sym_last enc cf I K hJ g cb blk off cap a m d0 d w0 w eg hcmp R h0 S (by omega) hb hsz T
        rw [show ((m : Int) + 1) = ((m + 1 : Nat) : Int) by omega] at this
        exact this
      · have IH : ∀ (a1 m1 b1 z : Nat) (A M B : Int) (d1 : Array α) (w1 : World), b1 - a1 < b - a → d1.size = z → z = d.size → (a1 : Int) = A → (m1 : Int) = M → (b1 : Int) = B → SW enc w0 blk off d1 w1 → a1 < m1 → m1 < b1 → b1 ≤ d.size → Two I K a1 m1 b1 d1 →
            Calls Tryd.prog 57 #[.slice (some ⟨blk, off, none⟩) z cap, .int .i64 A, .int .i64 M, .int .i64 B, .func (.func g) #[] cb] w1 fun e w' => e = .returned (.tuple #[]) ∧ ∃ d', SW enc w0 blk off d' w' ∧ Done K a1 b1 d1 d' :=
          fun a1 m1 b1 z A M B d1 w1 q1 q2 q3 q4 q5 q6 q7 q8 q9 q10 q11 => sym_all enc cf I K hJ g cb blk off cap d0 w0 eg hcmp R n a1 m1 b1 z A M B d1 w1 (by omega) q2 (by omega) q4 q5 q6 q7 q8 q9 (by omega) (by omega) q11
        by_cases c3 : (a + b) / 2 < m
        · exact sym_rec_hi enc cf I K hJ g cb blk off cap a m b ((a + b) / 2) d0 d w0 w eg hcmp R h0 S (by omega) (by omega) hb hsz T rfl c3 IH
        · exact sym_rec_lo enc cf I K hJ g cb blk off cap a m b ((a + b) / 2) d0 d w0 w eg hcmp R h0 S (by omega) (by omega) hb hsz T rfl (by omega) IH
end Go.Proofs.YtgcoodameahkbaaDoor.Stable
