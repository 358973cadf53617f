/- The plain theory of the stable sort: orders by keys, insertion, two parts that change their places. -/
import Derived.Sort.LotA
namespace Go.Proofs.YtgcoodameahkbaaDoor.Stable
set_option linter.unusedVariables false
set_option linter.unusedSimpArgs false
open Go.Sort

variable {α : Type}

/-! an order by a whole number that is told of each element -/
def ltK (K : α → Int) (x y : α) : Bool := decide (K x < K y)
theorem ltK_true {K : α → Int} {x y : α} : ltK K x y = true ↔ K x < K y := by simp [ltK]
theorem ltK_false {K : α → Int} {x y : α} : ltK K x y = false ↔ K y ≤ K x := by simp [ltK]
theorem ltK_swo (K : α → Int) : SWO (ltK K) :=
  ⟨fun x => by simp [ltK], fun x y z h1 h2 => by rw [ltK_true] at *; omega, fun x y z h1 h2 => by rw [ltK_false] at *; omega⟩

variable [Inhabited α]
/-! insertion -/
theorem swp_get (d : Array α) (j k : Nat) (hj : j + 1 < d.size) : (swp d (j + 1) j)[k]! = if k = j then d[j + 1]! else if k = j + 1 then d[j]! else d[k]! := by
  by_cases h1 : k = j
  · subst h1; rw [if_pos rfl]; exact swp_right d (k + 1) k (by omega)
  · rw [if_neg h1]
    by_cases h2 : k = j + 1
    · subst h2; rw [if_pos rfl]; exact swp_left d (j + 1) j hj (by omega)
    · rw [if_neg h2]; exact swp_other d (j + 1) j k h2 h1
theorem inner_same (lt lt' : α → α → Bool) (a : Nat) (x : α) : ∀ (j : Nat) (d : Array α), j < d.size → d[j]! = x → (∀ k, a ≤ k → k < j → lt x d[k]! = lt' x d[k]!) → insInner lt a j d = insInner lt' a j d
  | 0, d, _, _, _ => rfl
  | j + 1, d, hj, hx, h => by
    rw [insInner, insInner]
    by_cases hja : j + 1 > a
    · have h1 := h j (by omega) (by omega)
      rw [hx, h1]
      by_cases hc : (decide (j + 1 > a) && lt' x d[j]!) = true
      · rw [if_pos hc, if_pos hc]
        refine inner_same lt lt' a x j _ (by rw [size_swp]; omega) (by rw [swp_get d j j hj, if_pos rfl, hx]) fun k hk hk2 => ?_
        rw [swp_get d j k hj, if_neg (by omega), if_neg (by omega)]
        exact h k hk (by omega)
      · rw [if_neg hc, if_neg hc]
    · have e1 : (decide (j + 1 > a) && lt d[j + 1]! d[j]!) = false := by rw [decide_eq_false hja]; rfl
      have e2 : (decide (j + 1 > a) && lt' d[j + 1]! d[j]!) = false := by rw [decide_eq_false hja]; rfl
      rw [e1, e2]; rfl
theorem outer_go (lt : α → α → Bool) (a b i : Nat) (d : Array α) (h : i < b) : insOuter lt a b i d = insOuter lt a b (i + 1) (insInner lt a i d) := by rw [insOuter, if_pos h]
theorem outer_stop (lt : α → α → Bool) (a b i : Nat) (d : Array α) (h : ¬ i < b) : insOuter lt a b i d = d := by rw [insOuter, if_neg h]
theorem inner_perm (lt : α → α → Bool) (a i : Nat) : ∀ (j : Nat) (d : Array α), a ≤ j → j ≤ i → i + 1 ≤ d.size → PermIn a (i + 1) d (insInner lt a j d)
  | 0, d, _, _, _ => permIn_refl d a (i + 1)
  | j + 1, d, h1, h2, h3 => by
    rw [insInner]
    split
    · rename_i hc
      simp only [Bool.and_eq_true, decide_eq_true_eq] at hc
      exact permIn_trans _ _ _ a (i + 1) (swp_permIn d a (i + 1) (j + 1) j (by omega) (by omega) (by omega) (by omega) h3) (inner_perm lt a i j _ (by omega) (by omega) (by rw [size_swp]; exact h3))
    · exact permIn_refl d a (i + 1)
theorem outer_same (lt lt' : α → α → Bool) (a b : Nat) : ∀ (n i : Nat) (d : Array α), b - i = n → a ≤ i → b ≤ d.size →
    (∀ k l, a ≤ k → k < i → i ≤ l → l < b → lt d[l]! d[k]! = lt' d[l]! d[k]!) → (∀ k l, i ≤ k → k < l → l < b → lt d[l]! d[k]! = lt' d[l]! d[k]!) → insOuter lt a b i d = insOuter lt' a b i d
  | 0, i, d, hn, _, _, _, _ => by rw [outer_stop _ _ _ _ _ (by omega), outer_stop _ _ _ _ _ (by omega)]
  | n + 1, i, d, hn, hi, hb, h1, h2 => by
    rw [outer_go lt a b i d (by omega), outer_go lt' a b i d (by omega)]
    have e : insInner lt a i d = insInner lt' a i d := inner_same lt lt' a d[i]! i d (by omega) rfl fun k hk hk2 => h1 k i hk hk2 (Nat.le_refl _) (by omega)
    rw [e]
    have hp : PermIn a (i + 1) d (insInner lt' a i d) := inner_perm lt' a i i d hi (Nat.le_refl _) (by omega)
    refine outer_same lt lt' a b n (i + 1) _ (by omega) (by omega) (by rw [hp.1]; exact hb) ?_ ?_
    · intro k l hk hk2 hl hl2
      rw [hp.2.1 l (by omega)]
      exact permIn_all d _ a (i + 1) (fun y => lt d[l]! y = lt' d[l]! y) (by omega) hp (fun q hq hq2 => by
        by_cases hqi : q < i
        · exact h1 q l hq hqi (by omega) hl2
        · obtain rfl : q = i := by omega
          exact h2 q l (Nat.le_refl _) (by omega) hl2) k hk hk2
    · intro k l hk hk2 hl
      rw [hp.2.1 l (by omega), hp.2.1 k (by omega)]
      exact h2 k l (by omega) hk2 hl
/-- Insertion, where the places stand in their order: by the whole numbers. -/
theorem ins_same (lt lt' : α → α → Bool) (d : Array α) (a b : Nat) (hb : b ≤ d.size) (h : ∀ k l, a ≤ k → k < l → l < b → lt d[l]! d[k]! = lt' d[l]! d[k]!) : insertionSort lt d a b = insertionSort lt' d a b := by
  unfold insertionSort
  refine outer_same lt lt' a b (b - (a + 1)) (a + 1) d rfl (by omega) hb (fun k l hk hk2 hl hl2 => h k l hk (by omega) hl2) (fun k l hk hk2 hl => h k l (by omega) hk2 hl)

/-! two parts that change their places -/
structure Rot (d d' : Array α) (a m b : Nat) : Prop where
  size : d'.size = d.size
  out : ∀ k, k < a ∨ b ≤ k → d'[k]! = d[k]!
  fst : ∀ k, a ≤ k → k < a + (b - m) → d'[k]! = d[k + (m - a)]!
  snd : ∀ k, a + (b - m) ≤ k → k < b → d'[k]! = d[k - (b - m)]!
/-- Two parts of one length that change their places. -/
structure Swapd (d d' : Array α) (a b n : Nat) : Prop where
  size : d'.size = d.size
  out : ∀ k, (k < a ∨ a + n ≤ k) → (k < b ∨ b + n ≤ k) → d'[k]! = d[k]!
  fst : ∀ k, k < n → d'[a + k]! = d[b + k]!
  snd : ∀ k, k < n → d'[b + k]! = d[a + k]!
theorem Swapd.zero (d : Array α) (a b : Nat) : Swapd d d a b 0 := ⟨rfl, fun _ _ _ => rfl, fun _ h => by omega, fun _ h => by omega⟩
theorem Swapd.step {d d' : Array α} {a b n : Nat} (h : Swapd d d' a b n) (hab : a + n < b) (hb : b + n < d.size) : Swapd d (swp d' (a + n) (b + n)) a b (n + 1) := by
  have hs : d'.size = d.size := h.size
  refine ⟨by rw [size_swp]; exact hs, fun k h1 h2 => ?_, fun k hk => ?_, fun k hk => ?_⟩
  · rw [swp_other _ _ _ _ (by omega) (by omega)]
    exact h.out k (by omega) (by omega)
  · by_cases e : k = n
    · subst e
      rw [swp_left _ _ _ (by omega) (by omega)]
      exact h.out _ (by omega) (by omega)
    · rw [swp_other _ _ _ _ (by omega) (by omega)]
      exact h.fst k (by omega)
  · by_cases e : k = n
    · subst e
      rw [swp_right _ _ _ (by omega)]
      exact h.out _ (by omega) (by omega)
    · rw [swp_other _ _ _ _ (by omega) (by omega)]
      exact h.snd k (by omega)
theorem Rot.of_swap {d d' : Array α} {m i : Nat} (h : Swapd d d' (m - i) m i) (hi : i ≤ m) : Rot d d' (m - i) m (m + i) := by
  refine ⟨h.size, fun k hk => h.out k (by omega) (by omega), fun k h1 h2 => ?_, fun k h1 h2 => ?_⟩
  · have := h.fst (k - (m - i)) (by omega)
    rw [show m - i + (k - (m - i)) = k by omega, show m + (k - (m - i)) = k + (m - (m - i)) by omega] at this
    exact this
  · have := h.snd (k - m) (by omega)
    rw [show m + (k - m) = k by omega, show m - i + (k - m) = k - (m + i - m) by omega] at this
    exact this
theorem Rot.of_gt {d d1 d' : Array α} {m i j : Nat} (hij : j < i) (hi : i ≤ m) (h : Swapd d d1 (m - i) m j) (r : Rot d1 d' (m - (i - j)) m (m + j)) : Rot d d' (m - i) m (m + j) := by
  refine ⟨r.size.trans h.size, fun k hk => ?_, fun k h1 h2 => ?_, fun k h1 h2 => ?_⟩
  · rw [r.out k (by omega)]; exact h.out k (by omega) (by omega)
  · rw [r.out k (by omega)]
    have := h.fst (k - (m - i)) (by omega)
    rw [show m - i + (k - (m - i)) = k by omega, show m + (k - (m - i)) = k + (m - (m - i)) by omega] at this
    exact this
  · by_cases c : k < m - (i - j) + (m + j - m)
    · rw [r.fst k (by omega) c]
      have := h.snd (k + (m - (m - (i - j))) - m) (by omega)
      rw [show m + (k + (m - (m - (i - j))) - m) = k + (m - (m - (i - j))) by omega, show m - i + (k + (m - (m - (i - j))) - m) = k - (m + j - m) by omega] at this
      exact this
    · rw [r.snd k (by omega) h2]
      exact h.out _ (by omega) (by omega)
theorem Rot.of_lt {d d1 d' : Array α} {m i j : Nat} (hij : i < j) (hi : i ≤ m) (h : Swapd d d1 (m - i) (m + j - i) i) (r : Rot d1 d' (m - i) m (m + (j - i))) : Rot d d' (m - i) m (m + j) := by
  refine ⟨r.size.trans h.size, fun k hk => ?_, fun k h1 h2 => ?_, fun k h1 h2 => ?_⟩
  · rw [r.out k (by omega)]; exact h.out k (by omega) (by omega)
  · by_cases c : k < m - i + (m + (j - i) - m)
    · rw [r.fst k h1 c]
      exact h.out _ (by omega) (by omega)
    · rw [r.snd k (by omega) (by omega)]
      have := h.fst (k - (m + (j - i) - m) - (m - i)) (by omega)
      rw [show m - i + (k - (m + (j - i) - m) - (m - i)) = k - (m + (j - i) - m) by omega, show m + j - i + (k - (m + (j - i) - m) - (m - i)) = k + (m - (m - i)) by omega] at this
      exact this
  · rw [r.out k (by omega)]
    have := h.snd (k - (m + j - i)) (by omega)
    rw [show m + j - i + (k - (m + j - i)) = k by omega, show m - i + (k - (m + j - i)) = k - (m + j - m) by omega] at this
    exact this
/-- One element that goes up. -/
theorem Rot.up {d d' : Array α} {a i : Nat} (h : Rot d d' a (a + 1) (i + 1)) (hai : a ≤ i) (hi : i + 1 < d.size) : Rot d (swp d' i (i + 1)) a (a + 1) (i + 2) := by
  have hs := h.size
  have hlast : d'[i]! = d[a]! := by
    have := h.snd i (by omega) (by omega)
    rw [show i - (i + 1 - (a + 1)) = a by omega] at this
    exact this
  refine ⟨by rw [size_swp]; exact hs, fun k hk => ?_, fun k h1 h2 => ?_, fun k h1 h2 => ?_⟩
  · rw [swp_other _ _ _ _ (by omega) (by omega)]; exact h.out k (by omega)
  · by_cases e : k = i
    · subst e
      rw [swp_left _ _ _ (by omega) (by omega), h.out _ (by omega)]
      rw [show k + (a + 1 - a) = k + 1 by omega]
    · rw [swp_other _ _ _ _ (by omega) (by omega)]
      exact h.fst k h1 (by omega)
  · obtain rfl : k = i + 1 := by omega
    rw [swp_right _ _ _ (by omega), hlast, show i + 1 - (i + 2 - (a + 1)) = a by omega]
theorem Rot.refl1 (d : Array α) (a : Nat) : Rot d d a (a + 1) (a + 1) := ⟨rfl, fun _ _ => rfl, fun k h1 h2 => by omega, fun k h1 h2 => by rw [show k - (a + 1 - (a + 1)) = k by omega]⟩
/-- One element that goes down. -/
theorem Rot.down {d d' : Array α} {m i : Nat} (h : Rot d d' (i + 1) m (m + 1)) (him : i + 1 ≤ m) (hm : m < d.size) : Rot d (swp d' (i + 1) i) i m (m + 1) := by
  have hs := h.size
  have hf : d'[i + 1]! = d[m]! := by
    have := h.fst (i + 1) (by omega) (by omega)
    rw [show i + 1 + (m - (i + 1)) = m by omega] at this
    exact this
  refine ⟨by rw [size_swp]; exact hs, fun k hk => ?_, fun k h1 h2 => ?_, fun k h1 h2 => ?_⟩
  · rw [swp_other _ _ _ _ (by omega) (by omega)]; exact h.out k (by omega)
  · obtain rfl : k = i := by omega
    rw [swp_right _ _ _ (by omega), hf, show k + (m - k) = m by omega]
  · by_cases e : k = i + 1
    · subst e
      rw [swp_left _ _ _ (by omega) (by omega), h.out _ (by omega), show i + 1 - (m + 1 - m) = i by omega]
    · rw [swp_other _ _ _ _ (by omega) (by omega)]
      have := h.snd k (by omega) (by omega)
      exact this
theorem Rot.refl2 (d : Array α) (m : Nat) : Rot d d m m (m + 1) := ⟨rfl, fun _ _ => rfl, fun k h1 h2 => by rw [show k + (m - m) = k by omega], fun k h1 h2 => by omega⟩
end Go.Proofs.YtgcoodameahkbaaDoor.Stable
