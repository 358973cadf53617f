/- The plain theory of the stable sort's merge. -/
import Derived.Test.YtgcoodameahkbaaDoorStA
namespace Go.Proofs.YtgcoodameahkbaaDoor.Stable
set_option linter.unusedVariables false
set_option linter.unusedSimpArgs false
open Go.Sort
variable {α : Type} [Inhabited α]

/-- Each of the left part stands, by its place, ahead of each of the right part. -/
def LeftOf (I : α → Int) (a m b : Nat) (d : Array α) : Prop := ∀ i j, a ≤ i → i < m → m ≤ j → j < b → I d[i]! < I d[j]!
/-- Two parts, each in its order, the left one's places ahead of the right one's. -/
structure Two (I K : α → Int) (a m b : Nat) (d : Array α) : Prop where
  l : ∀ i j, a ≤ i → i < j → j < m → K d[i]! ≤ K d[j]!
  r : ∀ i j, m ≤ i → i < j → j < b → K d[i]! ≤ K d[j]!
  lf : LeftOf I a m b d
/-- What the merge brings about. -/
structure Done (K : α → Int) (a b : Nat) (d d' : Array α) : Prop where
  perm : PermIn a b d d'
  ord : ∀ i j, a ≤ i → i < j → j < b → K d'[i]! ≤ K d'[j]!

/-- One on the left: it stands where it belongs. -/
theorem done_up {I K : α → Int} {a b i : Nat} {d d' : Array α} (T : Two I K a (a + 1) b d) (h1 : a + 1 ≤ i) (h2 : i ≤ b) (hb : b ≤ d.size) (hlo : ∀ k, a + 1 ≤ k → k < i → K d[k]! < K d[a]!) (hhi : ∀ k, i ≤ k → k < b → K d[a]! ≤ K d[k]!)
    (hr : Rot d d' a (a + 1) i) (hp : PermIn a b d d') : Done K a b d d' := by
  refine ⟨hp, fun p q hp hpq hq => ?_⟩
  by_cases c1 : q < a + (i - (a + 1))
  · rw [hr.fst p hp (by omega), hr.fst q (by omega) c1]
    exact T.r _ _ (by omega) (by omega) (by omega)
  · by_cases c2 : q < i
    · have hq2 : q = i - 1 := by omega
      rw [hr.fst p hp (by omega), hr.snd q (by omega) c2]
      have := hlo (p + (a + 1 - a)) (by omega) (by omega)
      rw [show q - (i - (a + 1)) = a by omega]
      omega
    · rw [hr.out q (by omega)]
      by_cases c3 : p < a + (i - (a + 1))
      · rw [hr.fst p hp c3]
        exact T.r _ _ (by omega) (by omega) (by omega)
      · by_cases c4 : p < i
        · rw [hr.snd p (by omega) c4, show p - (i - (a + 1)) = a by omega]
          exact hhi q (by omega) hq
        · rw [hr.out p (by omega)]
          exact T.r _ _ (by omega) (by omega) (by omega)
/-- One on the right. -/
theorem done_down {I K : α → Int} {a m i : Nat} {d d' : Array α} (T : Two I K a m (m + 1) d) (h1 : a ≤ i) (h2 : i ≤ m) (hb : m + 1 ≤ d.size) (hlo : ∀ k, a ≤ k → k < i → K d[k]! ≤ K d[m]!) (hhi : ∀ k, i ≤ k → k < m → K d[m]! < K d[k]!)
    (hr : Rot d d' i m (m + 1)) (hp : PermIn a (m + 1) d d') : Done K a (m + 1) d d' := by
  refine ⟨hp, fun p q hp hpq hq => ?_⟩
  by_cases c1 : q < i
  · rw [hr.out p (by omega), hr.out q (by omega)]
    exact T.l _ _ hp hpq (by omega)
  · by_cases c2 : q = i
    · subst c2
      rw [hr.out p (by omega), hr.fst q (by omega) (by omega), show q + (m - q) = m by omega]
      exact hlo p hp hpq
    · rw [hr.snd q (by omega) hq]
      by_cases c3 : p < i
      · rw [hr.out p (by omega)]
        exact T.l _ _ hp (by omega) (by omega)
      · by_cases c4 : p = i
        · subst c4
          rw [hr.fst p (by omega) (by omega), show p + (m - p) = m by omega]
          have := hhi (q - (m + 1 - m)) (by omega) (by omega)
          omega
        · rw [hr.snd p (by omega) (by omega)]
          exact T.l _ _ (by omega) (by omega) (by omega)
/-- The search over both parts: what holds of the place that it looks at holds below, or above. -/
theorem sym_lo {I K : α → Int} {a m b p c c' : Nat} {d : Array α} (T : Two I K a m b d) (hc : c' ≤ c) (h0 : a ≤ c') (h1 : c < m) (h2 : m ≤ p - c) (h3 : p - c' < b) (hcp : c ≤ p) (h : K d[c]! ≤ K d[p - c]!) : K d[c']! ≤ K d[p - c']! := by
  have e1 : K d[c']! ≤ K d[c]! := by
    by_cases e : c' = c
    · rw [e]; exact Int.le_refl _
    · exact T.l _ _ h0 (by omega) h1
  have e2 : K d[p - c]! ≤ K d[p - c']! := by
    by_cases e : c' = c
    · rw [e]; exact Int.le_refl _
    · exact T.r _ _ h2 (by omega) h3
  omega
theorem sym_hi {I K : α → Int} {a m b p c c' : Nat} {d : Array α} (T : Two I K a m b d) (hc : c ≤ c') (h0 : a ≤ c) (h1 : c' < m) (h2 : m ≤ p - c') (h3 : p - c < b) (hcp : c' ≤ p) (h : K d[p - c]! < K d[c]!) : K d[p - c']! < K d[c']! := by
  have e1 : K d[c]! ≤ K d[c']! := by
    by_cases e : c = c'
    · rw [e]; exact Int.le_refl _
    · exact T.l _ _ h0 (by omega) h1
  have e2 : K d[p - c']! ≤ K d[p - c]! := by
    by_cases e : c = c'
    · rw [e]; exact Int.le_refl _
    · exact T.r _ _ h2 (by omega) h3
  omega
/-- Behind the rotation: two halves, the left one below the right one, each of two parts in their order. -/
structure Halves (I K : α → Int) (a s mid e b : Nat) (d : Array α) : Prop where
  lo : Two I K a s mid d
  hi : Two I K mid e b d
  cross : ∀ i j, a ≤ i → i < mid → mid ≤ j → j < b → K d[i]! ≤ K d[j]!
theorem halves {I K : α → Int} {a m b mid s e : Nat} {d d' : Array α} (T : Two I K a m b d) (ham : a < m) (hmb : m < b) (hmid : mid = (a + b) / 2) (hs0 : a ≤ s) (hs1 : s ≤ m) (he : e + s = mid + m) (he0 : m ≤ e) (he1 : e ≤ b)
    (hlo : s = a ∨ e = b ∨ K d[s - 1]! ≤ K d[e]!) (hhi : s = m ∨ e = m ∨ K d[e - 1]! < K d[s]!) (hr : Rot d d' s m e) : Halves I K a s mid e b d' := by
  -- what stands where
  have gA : ∀ k, a ≤ k → k < s → d'[k]! = d[k]! := fun k h1 h2 => hr.out k (by omega)
  have gB : ∀ k, s ≤ k → k < mid → d'[k]! = d[k + (m - s)]! := fun k h1 h2 => hr.fst k h1 (by omega)
  have gC : ∀ k, mid ≤ k → k < e → d'[k]! = d[k - (e - m)]! := fun k h1 h2 => hr.snd k (by omega) h2
  have gD : ∀ k, e ≤ k → k < b → d'[k]! = d[k]! := fun k h1 h2 => hr.out k (by omega)
  have lle : ∀ i j, a ≤ i → i ≤ j → j < m → K d[i]! ≤ K d[j]! := fun i j h1 h2 h3 => by
    by_cases q : i = j
    · rw [q]; exact Int.le_refl _
    · exact T.l _ _ h1 (by omega) h3
  have rle : ∀ i j, m ≤ i → i ≤ j → j < b → K d[i]! ≤ K d[j]! := fun i j h1 h2 h3 => by
    by_cases q : i = j
    · rw [q]; exact Int.le_refl _
    · exact T.r _ _ h1 (by omega) h3
  refine ⟨⟨fun i j h1 h2 h3 => ?_, fun i j h1 h2 h3 => ?_, fun i j h1 h2 h3 h4 => ?_⟩, ⟨fun i j h1 h2 h3 => ?_, fun i j h1 h2 h3 => ?_, fun i j h1 h2 h3 h4 => ?_⟩, fun i j h1 h2 h3 h4 => ?_⟩
  · rw [gA i h1 (by omega), gA j (by omega) h3]; exact lle _ _ h1 (by omega) (by omega)
  · rw [gB i h1 (by omega), gB j (by omega) h3]; exact rle _ _ (by omega) (by omega) (by omega)
  · rw [gA i h1 h2, gB j h3 h4]; exact T.lf _ _ h1 (by omega) (by omega) (by omega)
  · rw [gC i h1 (by omega), gC j (by omega) h3]; exact lle _ _ (by omega) (by omega) (by omega)
  · rw [gD i h1 (by omega), gD j (by omega) h3]; exact rle _ _ (by omega) (by omega) (by omega)
  · rw [gC i h1 h2, gD j h3 h4]; exact T.lf _ _ (by omega) (by omega) (by omega) (by omega)
  · by_cases c1 : i < s
    · rw [gA i h1 c1]
      by_cases c2 : j < e
      · rw [gC j h3 c2]; exact lle _ _ h1 (by omega) (by omega)
      · rw [gD j (by omega) h4]
        have hlo := (hlo.resolve_left (by omega)).resolve_left (by omega)
        have x1 := lle i (s - 1) h1 (by omega) (by omega)
        have x2 := rle e j he0 (by omega) h4
        omega
    · rw [gB i (by omega) h2]
      by_cases c2 : j < e
      · rw [gC j h3 c2]
        have hhi := (hhi.resolve_left (by omega)).resolve_left (by omega)
        have x1 := rle (i + (m - s)) (e - 1) (by omega) (by omega) (by omega)
        have x2 := lle s (j - (e - m)) hs0 (by omega) (by omega)
        omega
      · rw [gD j (by omega) h4]; exact rle _ _ (by omega) (by omega) h4
/-- Both halves merged: the whole is. -/
theorem Halves.done {I K : α → Int} {a s mid e b : Nat} {d d' d1 d2 : Array α} (H : Halves I K a s mid e b d') (ham : a ≤ mid) (hmb : mid ≤ b) (hb : b ≤ d.size) (hp : PermIn a b d d') (D1 : Done K a mid d' d1) (D2 : Done K mid b d1 d2) : Done K a b d d2 := by
  have hs1 : d'.size = d.size := hp.1
  have hs2 : d1.size = d'.size := D1.perm.1
  have p1 : PermIn a b d' d1 := permIn_mono d' d1 a mid a b (Nat.le_refl _) hmb (by omega) D1.perm
  have p2 : PermIn a b d1 d2 := permIn_mono d1 d2 mid b a b ham (Nat.le_refl _) (by omega) D2.perm
  refine ⟨permIn_trans _ _ _ a b hp (permIn_trans _ _ _ a b p1 p2), fun i j h1 h2 h3 => ?_⟩
  by_cases c1 : j < mid
  · rw [D2.perm.2.1 i (by omega), D2.perm.2.1 j (by omega)]
    exact D1.ord i j h1 h2 c1
  · by_cases c2 : i < mid
    · rw [D2.perm.2.1 i (by omega)]
      have q1 : ∀ j, mid ≤ j → j < b → ∀ i, a ≤ i → i < mid → K d1[i]! ≤ K d'[j]! := fun j hj hj2 => permIn_all d' d1 a mid (fun y => K y ≤ K d'[j]!) (by omega) D1.perm (fun i hi hi2 => H.cross i j hi hi2 hj hj2)
      have q2 : ∀ j, mid ≤ j → j < b → K d1[i]! ≤ K d2[j]! := permIn_all d1 d2 mid b (fun y => K d1[i]! ≤ K y) (by omega) D2.perm (fun j hj hj2 => by
        have := q1 j hj hj2 i h1 c2
        rw [D1.perm.2.1 j (by omega)]
        exact this)
      exact q2 j (by omega) h3
    · exact D2.ord i j (by omega) h2 h3
/-- The second half's parts lie as they did behind the first half's merge. -/
theorem Two.keep {I K : α → Int} {a m b a' b' : Nat} {d d' : Array α} (T : Two I K a m b d) (h : PermIn a' b' d d') (hab : b' ≤ a) (ham : a ≤ m) : Two I K a m b d' := by
  have g : ∀ k, a ≤ k → d'[k]! = d[k]! := fun k hk => h.2.1 k (by omega)
  refine ⟨fun i j h1 h2 h3 => ?_, fun i j h1 h2 h3 => ?_, fun i j h1 h2 h3 h4 => ?_⟩
  · rw [g i h1, g j (by omega)]; exact T.l i j h1 h2 h3
  · rw [g i (by omega), g j (by omega)]; exact T.r i j h1 h2 h3
  · rw [g i h1, g j (by omega)]; exact T.lf i j h1 h2 h3 h4
end Go.Proofs.YtgcoodameahkbaaDoor.Stable
