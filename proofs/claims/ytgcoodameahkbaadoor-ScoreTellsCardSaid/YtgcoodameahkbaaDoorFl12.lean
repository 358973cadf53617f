/- The law ScoreMeans returns true, for every list of numbers and every number. -/
import Derived.Test.YtgcoodameahkbaaDoorFl11
import Derived.OwnWalk
import Derived.Maps.AppendAt
import Derived.Laws.OwnMore
import Derived.Deep.LoopGhost
namespace Go.Proofs.YtgcoodameahkbaaDoor.Fl
open Go.RowKit

/-- what Low answers -/
def lowN (x : Int) (n : Int) : Nat := (IntKind.u64.wrap x % n).toNat
theorem lowN_lt (x n : Int) (h1 : 1 ≤ n) : (lowN x n : Int) < n := by
  have h3 := Int.emod_nonneg (IntKind.u64.wrap x) (b := n) (by omega)
  have h4 := Int.emod_lt_of_pos (IntKind.u64.wrap x) (b := n) (by omega)
  unfold lowN; omega
theorem low_val (x n : Int) (h1 : 1 ≤ n) (h2 : n ≤ 1000000000) (w : World) : Calls Tryd.prog 11 #[.int .i64 x, .int .i64 n] w fun e w' => e = .returned (.int .i64 (lowN x n)) ∧ w = w' := by
  have hn : IntKind.u64.wrap n = n := by simp [IntKind.wrap, IntKind.signed, IntKind.bits]; omega
  have hx0 : 0 ≤ IntKind.u64.wrap x := by simp [IntKind.wrap, IntKind.signed, IntKind.bits]; omega
  have h3 := Int.emod_nonneg (IntKind.u64.wrap x) (b := n) (by omega)
  have h4 := Int.emod_lt_of_pos (IntKind.u64.wrap x) (b := n) (by omega)
  have HM := Lib.hid (show (lowN x n : Int) = IntKind.u64.wrap x % n by unfold lowN; omega)
  generalize lowN x n = m at HM ⊢
  generalize hu : IntKind.u64.wrap x = u at *
  go_enter Tryd.func11, Tryd.ntmps11
  go_wp2
  go_ret
  exact ⟨by rw [HM.out]; rfl, rfl⟩

theorem info24 : (Tryd.prog.info? 24).map (fun i => (i.zero, i.size, i.bytes)) = some (some (.float .f64 0), 1, 8) := by kernel_rfl

def loTo (zs : List Int) : Nat → Int
  | 0 => 1000
  | k + 1 => min (loTo zs k) (lowN (zs.getD k 0) 1000)
def hiTo (zs : List Int) : Nat → Int
  | 0 => 0
  | k + 1 => max (hiTo zs k) (lowN (zs.getD k 0) 1000)

def vsOf (zs : List Int) : List Nat := zs.map fun x => lowN x 1000
def xl (zs : List Int) (k : Nat) : List Value := (List.range k).map fun j => .float .f64 (intW ((vsOf zs).getD j 0))
def yl (m : Nat) (k : Nat) : List Value := List.replicate k (.float .f64 (intW m))
theorem xl_succ (zs : List Int) (k : Nat) : xl zs (k + 1) = xl zs k ++ [.float .f64 (intW ((vsOf zs).getD k 0))] := by
  unfold xl; rw [List.range_succ, List.map_append]; rfl
theorem yl_succ (m k : Nat) : yl m (k + 1) = yl m k ++ [.float .f64 (intW m)] := by
  unfold yl; rw [List.replicate_succ']

theorem vs_lt (zs : List Int) (k : Nat) : (vsOf zs).getD k 0 < 1000 := by
  unfold vsOf
  rw [List.getD_eq_getElem?_getD, List.getElem?_map]
  cases zs[k]? with
  | none => simp
  | some x => have := lowN_lt x 1000 (by omega); simp; omega
theorem vs_at (zs : List Int) (k : Nat) (h : k < zs.length) : (vsOf zs).getD k 0 = lowN (zs.getD k 0) 1000 := by
  unfold vsOf
  rw [List.getD_eq_getElem?_getD, List.getD_eq_getElem?_getD, List.getElem?_map, List.getElem?_eq_getElem h]; rfl
theorem lo_bd (zs : List Int) (k : Nat) : 0 ≤ loTo zs k ∧ loTo zs k ≤ 1000 := by
  induction k with
  | zero => simp [loTo]
  | succ k ih => unfold loTo; omega
theorem hi_bd (zs : List Int) (k : Nat) : 0 ≤ hiTo zs k ∧ hiTo zs k < 1000 := by
  induction k with
  | zero => simp [hiTo]
  | succ k ih => unfold hiTo; have := lowN_lt (zs.getD k 0) 1000 (by omega); omega
theorem lo_sum (zs : List Int) (k : Nat) (h : k ≤ zs.length) : loTo zs k * k ≤ sumTo (vsOf zs) k := by
  induction k with
  | zero => simp [sumTo]
  | succ k ih =>
    have h1 := ih (by omega)
    have h2 : loTo zs (k + 1) ≤ loTo zs k := by show min _ _ ≤ _; omega
    have h3 : loTo zs (k + 1) ≤ lowN (zs.getD k 0) 1000 := by show min _ _ ≤ _; omega
    have h4 : loTo zs (k + 1) * k ≤ loTo zs k * k := Int.mul_le_mul_of_nonneg_right h2 (by omega)
    have h5 : sumTo (vsOf zs) (k + 1) = sumTo (vsOf zs) k + lowN (zs.getD k 0) 1000 := by rw [← vs_at zs k (by omega)]; rfl
    rw [h5]
    have h6 : loTo zs (k + 1) * ((k + 1 : Nat) : Int) = loTo zs (k + 1) * k + loTo zs (k + 1) := by rw [Int.natCast_add, Int.mul_add]; simp
    omega
theorem hi_sum (zs : List Int) (k : Nat) (h : k ≤ zs.length) : (sumTo (vsOf zs) k : Int) ≤ hiTo zs k * k := by
  induction k with
  | zero => simp [sumTo]
  | succ k ih =>
    have h1 := ih (by omega)
    have h2 : hiTo zs k ≤ hiTo zs (k + 1) := by show _ ≤ max _ _; omega
    have h3 : (lowN (zs.getD k 0) 1000 : Int) ≤ hiTo zs (k + 1) := by show _ ≤ max _ _; omega
    have h4 : hiTo zs k * k ≤ hiTo zs (k + 1) * k := Int.mul_le_mul_of_nonneg_right h2 (by omega)
    have h5 : sumTo (vsOf zs) (k + 1) = sumTo (vsOf zs) k + lowN (zs.getD k 0) 1000 := by rw [← vs_at zs k (by omega)]; rfl
    rw [h5]
    have h6 : hiTo zs (k + 1) * ((k + 1 : Nat) : Int) = hiTo zs (k + 1) * k + hiTo zs (k + 1) := by rw [Int.natCast_add, Int.mul_add]; simp
    omega
theorem same_sum (m n : Nat) : ∀ k, k ≤ n → sumTo (List.replicate n m) k = m * k := by
  intro k
  induction k with
  | zero => intro _; simp [sumTo]
  | succ k ih =>
    intro h
    show sumTo _ k + (List.replicate n m).getD k 0 = _
    rw [ih (by omega), List.getD_eq_getElem?_getD, List.getElem?_replicate, if_pos (by omega), Nat.mul_succ]
    rfl

theorem unguard {P : Program} {ops : Array Oper} {rest : List Oper} {o : Oper} {a : Act} {Q : Exit → Act → World → Prop} {w : World} (hw : Region.wanted o (yielded ops a.tmps) = true)
    (h : wpList P ops Q ({ o with guard := none } :: rest) a w) : wpList P ops Q (o :: rest) a w := by
  have h1 : Region.wanted { o with guard := none } (yielded ops a.tmps) = true := rfl
  unfold wpList at h ⊢
  rw [if_pos h1] at h
  rw [if_pos hw]
  exact h

/-- A row of the call's own that isn't empty. -/
theorem own_form {w : World} {B n : Nat} {v : Value} {xs : List Value} (h : w.ownsRow B 24 1 v n xs) (hn : 0 < n) : ∃ g cap, v = .slice (some ⟨g, 0, none⟩) n cap ∧ B ≤ g ∧ g < w.heap.size ∧ n ≤ cap ∧ cap ≤ maxLen ∧ ∀ j, j < n → w.cell? ⟨g, j, none⟩ = xs[j]? := by
  have h2 := h
  obtain ⟨_, ⟨_, h0⟩ | ⟨g, cap, cur, rfl, hg, hcell, hcap, hmax, _, _⟩⟩ := h
  · omega
  · refine ⟨g, cap, rfl, hg, (h2.lt g rfl).2, hcap, hmax, fun j hj => ?_⟩
    exact h2.cellAt j (by omega)

theorem order_le {a b : Nat} (hb : b < 9218868437227405312) (h : a ≤ b) : FloatKind.f64.format.order b a = some .gt ∨ FloatKind.f64.format.order b a = some .eq := by
  have h1 := order_pos hb (show a < 9218868437227405312 by omega)
  by_cases e : a = b
  · subst e
    right
    rw [show FloatKind.f64.format.order a a = Ieee.double.order a a from rfl, h1]; simp
  · left
    rw [show FloatKind.f64.format.order b a = Ieee.double.order b a from rfl, h1, Nat.compare_eq_gt.2 (by omega)]
theorem order_ge {a b : Nat} (hb : b < 9218868437227405312) (h : a ≤ b) : FloatKind.f64.format.order a b = some .lt ∨ FloatKind.f64.format.order a b = some .eq := by
  have h1 := order_pos (show a < 9218868437227405312 by omega) hb
  by_cases e : a = b
  · subst e
    right
    rw [show FloatKind.f64.format.order a a = Ieee.double.order a a from rfl, h1]; simp
  · left
    rw [show FloatKind.f64.format.order a b = Ieee.double.order a b from rfl, h1, Nat.compare_eq_lt.2 (by omega)]

theorem xl_get (zs : List Int) (k j : Nat) (h : j < k) : (xl zs k)[j]? = some (.float .f64 (intW ((vsOf zs).getD j 0))) := by
  unfold xl; rw [List.getElem?_map, List.getElem?_range h]; rfl
theorem yl_get (m k j : Nat) (h : j < k) : (yl m k)[j]? = some (.float .f64 (intW ((List.replicate k m).getD j 0))) := by
  unfold yl
  rw [List.getElem?_replicate, if_pos h, List.getD_eq_getElem?_getD, List.getElem?_replicate, if_pos h]; rfl
theorem xln_get (zs : List Int) (k j : Nat) (v : Value) (h : j < k) : (xl zs k ++ [v])[j]? = some (.float .f64 (intW ((vsOf zs).getD j 0))) := by
  rw [List.getElem?_append_left (by unfold xl; simp; exact h), xl_get zs k j h]
theorem xln_last (zs : List Int) (k : Nat) (v : Value) : (xl zs k ++ [v])[k]? = some v := by
  rw [List.getElem?_append_right (by unfold xl; simp)]
  unfold xl; simp

def MRel (zs : List Int) (m : Nat) (len : Nat) (w : World) (lo hi vx vy i : Value) (wr : World) : Prop :=
  ∃ k : Nat, k ≤ len ∧ i = .int .i64 k ∧ lo = .int .i64 (loTo zs k) ∧ hi = .int .i64 (hiTo zs k) ∧ wr.ownsRow w.heap.size 24 1 vx k (xl zs k) ∧ wr.ownsRow w.heap.size 24 1 vy k (yl m k) ∧
    (vx.ownBlock = none ∨ vx.ownBlock ≠ vy.ownBlock) ∧ Below w.heap.size w wr

/-- One of two rows is appended to: the other one stands, and they stay apart. -/
theorem two_rows {w wr w1 : World} {o : Obj} {vx vx' vy : Value} {n : Nat} {ys : List Value} (hbel : Below w.heap.size w wr) (hx : ∀ k, vx.ownBlock = some k → w.heap.size ≤ k)
    (hy : wr.ownsRow w.heap.size 24 1 vy n ys) (hap : vx.ownBlock = none ∨ vx.ownBlock ≠ vy.ownBlock) (hg : (wr.alloc o).grownBy w1 vx.ownBlock) (ho : vx'.ownBlock = vx.ownBlock ∨ vx'.ownBlock = some (wr.alloc o).heap.size) :
    w1.ownsRow w.heap.size 24 1 vy n ys ∧ (vx'.ownBlock = none ∨ vx'.ownBlock ≠ vy.ownBlock) ∧ Below w.heap.size w w1 := by
  have hlt := hy.lt
  refine ⟨(hy.alloc o).kept hg ?_, ?_, (hbel.alloc hbel.size o).grown hg (by have := hbel.size; simp; omega) hx⟩
  · rcases hap with h | h
    · cases hv : vy.ownBlock with
      | none => exact .inl rfl
      | some k => rw [h]; exact .inr (by simp)
    · exact .inr (Ne.symm h)
  · rcases ho with h | h
    · rw [h]; exact hap
    · rw [h]
      refine .inr fun e => ?_
      have := (hlt _ e.symm).2
      simp at this
      omega

theorem new_cell (W : World) (x : Value) (t : TypeId) : ∀ (j : Nat) u, [x][j]? = some u → (W.alloc (.cells #[x] t)).cell? ((⟨W.heap.size, 0, none⟩ : Addr).add j) = some u := by
  intro j u h
  cases j with
  | zero =>
    simp at h
    subst h
    exact World.cell?_alloc_at _ _ _ _ rfl
  | succ j => simp at h

theorem apart_symm {a b : Option Nat} (h : a = none ∨ a ≠ b) : b = none ∨ b ≠ a := by
  rcases h with h | h
  · cases b with
    | none => exact .inl rfl
    | some k => rw [h]; exact .inr (by simp)
  · exact .inr (Ne.symm h)

set_option maxHeartbeats 1000000 in
set_option maxRecDepth 100000 in
theorem means_walk (b off len cap : Nat) (zs : List Int) (a1 : Int) (w : World) (h0 : 0 < len) (h20 : len ≤ 20) (hz : len ≤ zs.length) (hb : b < w.heap.size)
    (hc : ∀ j, j < len → w.cell? ⟨b, off + j, none⟩ = some (.int .i64 (zs.getD j 0))) :
    Calls Tryd.prog 5 #[.slice (some ⟨b, off, none⟩) len cap, .int .i64 a1] w fun e w' => e = .returned (.bool true) ∧ Below w.heap.size w w' := by
  obtain ⟨i0, hi, hz0, hz1, hz2⟩ := info_parts info24
  have hb0 : ((len : Int) == 0) = false := by rw [beq_eq_false_iff_ne]; omega
  obtain ⟨m, hm⟩ : ∃ m, lowN a1 1000 = m := ⟨_, rfl⟩
  have CA := Lib.hid (fun W => hm ▸ low_val a1 1000 (by omega) (by omega) W)
  have hml : (m : Int) < 1000 := hm ▸ lowN_lt a1 1000 (by omega)
  have hfm : floatOfInt .f64 (m : Int) = intW m := floatOfInt_nat (by omega)
  clear hm
  go_enter Tryd.func5, Tryd.ntmps5
  go_wp2
  go_loopw [5, 6, 7, 8, 9] (fun lo hi vx vy i wr => MRel zs m len w lo hi vx vy i wr) (fun _ _ _ _ i _ => len - (intOf i).toNat)
  case atStart => exact ⟨0, by omega, rfl, rfl, rfl, World.ownsRow_nil _ _ _ _, World.ownsRow_nil _ _ _ _, .inl rfl, Below.refl _ _⟩
  case round =>
    obtain ⟨k, hk, rfl, rfl, rfl, hx, hy, hap, hbel⟩ := hrel
    by_cases hlt : k < len
    · have hck : wr.cell? ⟨b, off + k, none⟩ = some (.int .i64 (zs.getD k 0)) := hbel.cell (p := ⟨b, off + k, none⟩) hb ▸ hc k hlt
      obtain ⟨x, hx0⟩ : ∃ x, zs.getD k 0 = x := ⟨_, rfl⟩
      rw [hx0] at hck
      have hvx : (vsOf zs).getD k 0 = lowN x 1000 := by rw [vs_at zs k (by omega), hx0]
      have HX := Lib.hid (show xl zs (k + 1) = xl zs k ++ [.float .f64 (intW (lowN x 1000))] by rw [xl_succ, hvx])
      have HL := Lib.hid (show loTo zs (k + 1) = min (loTo zs k) (lowN x 1000 : Int) by rw [← hx0]; rfl)
      have HH := Lib.hid (show hiTo zs (k + 1) = max (hiTo zs k) (lowN x 1000 : Int) by rw [← hx0]; rfl)
      have CX := Lib.hid (fun W => low_val x 1000 (by omega) (by omega) W)
      have hvl : (lowN x 1000 : Int) < 1000 := lowN_lt x 1000 (by omega)
      have hfv : floatOfInt .f64 (lowN x 1000 : Int) = intW (lowN x 1000) := floatOfInt_nat (by omega)
      generalize lowN x 1000 = v at *
      have HXR := Lib.hid hx
      have HYR := Lib.hid hy
      have HAP := Lib.hid hap
      have HB := Lib.hid hbel
      have hsz := hbel.size
      clear hx hy hap hbel hvx hx0 hc
      go_wp2_with (first | (go_at_call 11; first | ((with_reducible refine (CX.out _).mono ?_); rintro e w' ⟨rfl, rfl⟩) | ((with_reducible refine (CA.out _).mono ?_); rintro e w' ⟨rfl, rfl⟩)) | (at_builtin; refine wpList_append_own_at _ rfl (.tmp 38) (.tmp 41) 34 rfl w.heap.size 24 i0 (.float .f64 0) 1 8 Tryd.underlying34 hi hz0 hz1 hz2 rfl (by decide) _ k (xl zs k) rfl (HXR.out.alloc _) ⟨wr.heap.size, 0, none⟩ 1 1 [.float .f64 (intW v)] rfl rfl (new_cell _ _ _) (by simp [Value.oneCell']) (by unfold maxLen; omega) (by omega) (by simp; omega) ?_; intro vx' w1 hx1 hg1 _ ho1; have P1 := Lib.hid (two_rows HB.out (fun j h => (HXR.out.lt j h).1) HYR.out HAP.out hg1 ho1); have HX1 := Lib.hid hx1; have hs1 := P1.out.2.2.size; clear hx1 hg1 ho1) | (at_builtin; refine wpList_append_own_at _ rfl (.tmp 43) (.tmp 47) 34 rfl w.heap.size 24 i0 (.float .f64 0) 1 8 Tryd.underlying34 hi hz0 hz1 hz2 rfl (by decide) _ k (yl m k) rfl (P1.out.1.alloc _) ⟨w1.heap.size, 0, none⟩ 1 1 [.float .f64 (intW m)] rfl rfl (new_cell _ _ _) (by simp [Value.oneCell']) (by unfold maxLen; omega) (by omega) (by simp; omega) ?_; intro vy' w2 hy2 hg2 _ ho2; have P2 := Lib.hid (two_rows P1.out.2.2 (fun j h => (P1.out.1.lt j h).1) HX1.out (apart_symm P1.out.2.1) hg2 ho2); have HY2 := Lib.hid hy2; clear hy2 hg2 ho2))
      exact ⟨⟨k + 1, by omega, by go_num, by rw [HL.out], by rw [HH.out], by rw [HX.out]; exact P2.out.1, by rw [yl_succ]; exact HY2.out, apart_symm P2.out.2.1, P2.out.2.2⟩, by simp [intOf]; omega⟩
    · obtain rfl : k = len := by omega
      obtain ⟨gx, cx, rfl, gx1, gx2, gx3, gx4, gx5⟩ := own_form hx h0
      obtain ⟨gy, cy, rfl, gy1, gy2, gy3, gy4, gy5⟩ := own_form hy h0
      have hsum := sumTo_le (vsOf zs) (vs_lt zs) k
      have hL := lo_sum zs k hz
      have hH := hi_sum zs k hz
      obtain ⟨lo, hlo⟩ := Int.eq_ofNat_of_zero_le (lo_bd zs k).1
      obtain ⟨hi', hhi⟩ := Int.eq_ofNat_of_zero_le (hi_bd zs k).1
      have hlb := (lo_bd zs k).2
      have hhb := (hi_bd zs k).2
      rw [hlo] at hL hlb ⊢
      rw [hhi] at hH hhb ⊢
      obtain ⟨S, hS⟩ : ∃ S, sumTo (vsOf zs) k = S := ⟨_, rfl⟩
      rw [hS] at hsum hL hH
      have hLn : lo * k ≤ S := by have : ((lo * k : Nat) : Int) ≤ S := by rw [Int.natCast_mul]; exact hL
                                  omega
      have hHn : S ≤ hi' * k := by have : (S : Int) ≤ ((hi' * k : Nat) : Int) := by rw [Int.natCast_mul]; exact hH
                                   omega
      have hfin := shr_fin (f := S) (t := k) (by omega) (by omega) (by omega)
      have hhw := intW_lt (k := hi') (by omega)
      have E1 := order_le hfin (mean_ge (S := S) (n := k) (lo := lo) (by omega) (by omega) (by omega) hLn)
      have E2 := order_ge (b := intW hi') (by omega) (mean_le (S := S) (n := k) (hi := hi') (by omega) (by omega) (by omega) hHn)
      have E3 : (FloatKind.f64.format.order (intW m) (intW m) == some .eq) = true := eq_bits (by have := intW_lt (k := m) (by omega); omega)
      have hf1 : floatOfInt .f64 (lo : Int) = intW lo := floatOfInt_nat (by omega)
      have hf2 : floatOfInt .f64 (hi' : Int) = intW hi' := floatOfInt_nat (by omega)
      have CM1 := Lib.hid (hS ▸ mean_int gx k cx (vsOf zs) wr (by omega) (by omega) gx3 gx4 (vs_lt zs) (fun j hj => (gx5 j hj).trans (xl_get zs k j hj)))
      have hsy : shr (sumTo (List.replicate k m) k) k = intW m := by rw [same_sum m k k (Nat.le_refl _)]; exact mean_same (by omega) (by omega) (by omega)
      have CM2 := Lib.hid (hsy ▸ mean_int gy k cy (List.replicate k m) wr (by omega) (by omega) gy3 gy4 (fun j => by rw [List.getD_eq_getElem?_getD, List.getElem?_replicate]; split <;> simp; omega) (fun j hj => (gy5 j hj).trans (yl_get m k j hj)))
      have NC := Lib.hid (show nanB nanC = true by kernel_rfl)
      have HXR := Lib.hid hx
      have HB := Lib.hid hbel
      have hsz := hbel.size
      clear hx hy hap hbel hsum hL hH hlo hhi hlb hhb hS hLn hHn hhw gx5 gy5 hsy hc
      generalize shr S k = Mv at *
      rcases E1 with E1 | E1 <;> rcases E2 with E2 | E2
      all_goals
        go_wp2_with (first | (go_at_call 11; (with_reducible refine (CA.out _).mono ?_); rintro e w' ⟨rfl, rfl⟩) | (go_at_call 15; first | ((with_reducible refine (isNaN_any nanC _).mono ?_); rintro e w' ⟨rfl, rfl⟩; rw [NC.out]) | (refine (isNaN_any _ _).mono ?_; rintro e w' ⟨rfl, rfl⟩; rw [HR.out])) | (go_at_call 17; refine (awake_any _).mono ?_; rintro e w5 ⟨rfl, hb5⟩) | (go_at_call 21; refine (nan_any _).mono ?_; rintro e w' ⟨rfl, rfl⟩) | (go_at_call 20; first | ((with_reducible refine CM1.out.mono ?_); rintro e w' ⟨rfl, rfl⟩) | ((with_reducible refine CM2.out.mono ?_); rintro e w' ⟨rfl, rfl⟩) | ((with_reducible refine (mean_nil _).mono ?_); rintro e w' ⟨rfl, rfl⟩) | ((with_reducible refine CM3.out.mono ?_); rintro e w4 ⟨⟨r, rfl, hr⟩, hb4⟩; have HR := Lib.hid hr; clear hr)) | (at_builtin; refine unguard rfl ?_; dsimp only; refine wpList_append_own_at _ rfl (.tmp 70) (.tmp 72) 34 rfl w.heap.size 24 i0 (.float .f64 0) 1 8 Tryd.underlying34 hi hz0 hz1 hz2 rfl (by decide) _ k (xl zs k) rfl (HXR.out.alloc _) ⟨wr.heap.size, 0, none⟩ 1 1 [.float .f64 nanC] rfl rfl (new_cell _ _ _) (by simp [Value.oneCell']) (by unfold maxLen; omega) (by omega) (by simp; omega) ?_; intro vn w3 hn3 hg3 _ _; obtain ⟨gn, cn, rfl, gn1, gn2, gn3, gn4, gn5⟩ := own_form hn3 (by omega); have CM3 := Lib.hid (mean_nan gn k (k + 1) cn (vsOf zs) w3 (by omega) (by omega) rfl gn3 gn4 (vs_lt zs) (fun j hj => (gn5 j (by omega)).trans (xln_get zs k j _ hj)) ((gn5 k (by omega)).trans (xln_last zs k _))); have HB3 := Lib.hid ((HB.out.alloc hsz (.cells #[.float .f64 nanC] 24)).grown hg3 (by simp; omega) (fun j h => (HXR.out.lt j h).1)); clear hn3 hg3 gn5))
        go_ret
        exact ⟨rfl, below_next (below_next HB3.out hb4) hb5⟩

/-- no number at all, or too many -/
theorem means_none (a : Option Addr) (len cap : Nat) (a1 : Int) (h : len = 0 ∨ 20 < len) (hlen : len ≤ maxLen) (w : World) :
    Calls Tryd.prog 5 #[.slice a len cap, .int .i64 a1] w fun e w' => e = .returned (.bool true) ∧ Below w.heap.size w w' := by
  unfold maxLen at hlen
  rcases h with h | h
  · subst h
    go_enter Tryd.func5, Tryd.ntmps5
    go_wp2_with (go_at_call 17; refine (awake_any _).mono ?_; rintro e w5 ⟨rfl, hb5⟩)
    go_ret
    exact ⟨rfl, hb5⟩
  · go_enter Tryd.func5, Tryd.ntmps5
    go_wp2_with (go_at_call 17; refine (awake_any _).mono ?_; rintro e w5 ⟨rfl, hb5⟩)
    go_ret
    exact ⟨rfl, hb5⟩
end Go.Proofs.YtgcoodameahkbaaDoor.Fl
