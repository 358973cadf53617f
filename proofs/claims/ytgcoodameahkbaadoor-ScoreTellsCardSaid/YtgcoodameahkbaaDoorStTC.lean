/- What the reference's Order answers. -/
import Derived.Test.YtgcoodameahkbaaDoorStTB
import Derived.Deep.RegionLaw
import Derived.Deep.DeepCutAuto
import Derived.Maps.AppendAt
import Derived.Deep.CutBlock
namespace Go.Proofs.YtgcoodameahkbaaDoor.Fl
set_option linter.unusedVariables false
set_option linter.unusedSimpArgs false
open Go.RowKit Go.Proofs.YtgcoodameahkbaaDoor.Stable

/-! the reference's Order -/
theorem IsOrd_of {xs : List Nat} {n : Nat} {os : List Nat} (hp : os.Perm (List.range n)) (hs : os.Pairwise fun i j => keyL xs i < keyL xs j) : IsOrd xs n os := by
  refine ⟨hp, fun i j hij hj => ?_⟩
  have hl : os.length = n := by have := hp.length_eq; simpa using this
  rw [List.getD_eq_getElem?_getD, List.getD_eq_getElem?_getD, List.getElem?_eq_getElem (by omega), List.getElem?_eq_getElem (by omega)]
  exact Int.le_of_lt ((List.pairwise_iff_getElem.1 hs) i j (by omega) (by omega) hij)
/-- One more is put where it belongs. -/
theorem IsOrd.insert {xs : List Nat} {n k : Nat} {os : List Nat} (h : IsOrd xs n os) (hn : n < 64) (hx : ∀ j, j < n + 1 → xs.getD j 0 < 18446744073709551616) (hk : k ≤ n)
    (hhi : ∀ j, k ≤ j → j < n → lessB (xs.getD n 0) (xs.getD (os.getD j 0) 0) = true) (hlo : k = 0 ∨ lessB (xs.getD n 0) (xs.getD (os.getD (k - 1) 0) 0) = false) :
    IsOrd xs (n + 1) (os.take k ++ [n] ++ os.drop k) := by
  have hl := h.len
  have hpw := h.pairwise (by omega)
  have hxn := hx n (by omega)
  have g : ∀ j, (hj : j < os.length) → os[j] = os.getD j 0 := fun j hj => by rw [List.getD_eq_getElem?_getD, List.getElem?_eq_getElem hj]; rfl
  have hhi2 : ∀ b ∈ os.drop k, keyL xs n < keyL xs b := fun b hb => by
    obtain ⟨j, hj, rfl⟩ := List.getElem_of_mem hb
    have hj' : k + j < os.length := by rw [List.length_drop] at hj; omega
    rw [List.getElem_drop, g _ hj']
    have h1 := hhi (k + j) (by omega) (by omega)
    have hbn := h.lt (k + j) (by omega)
    have := (less_rank hxn (hx _ (by omega))).1 h1
    unfold keyL; omega
  have hlo2 : ∀ a ∈ os.take k, keyL xs a < keyL xs n := fun a ha => by
    obtain ⟨j, hj, rfl⟩ := List.getElem_of_mem ha
    have hj2 : j < k := by rw [List.length_take] at hj; omega
    rw [List.getElem_take, g _ (by omega)]
    have hk0 : lessB (xs.getD n 0) (xs.getD (os.getD (k - 1) 0) 0) = false := hlo.resolve_left (by omega)
    have hln := h.lt (k - 1) (by omega)
    have hjn := h.lt j (by omega)
    have h1 := (less_rank_false hxn (hx _ (by omega))).1 hk0
    have h2 : keyL xs (os.getD j 0) ≤ keyL xs (os.getD (k - 1) 0) := by
      by_cases e : j = k - 1
      · rw [e]; exact Int.le_refl _
      · exact h.ord j (k - 1) (by omega) (by omega)
    unfold keyL at h2 ⊢
    omega
  refine IsOrd_of ?_ ?_
  · have e1 : (os.take k ++ [n] ++ os.drop k).Perm (n :: (os.take k ++ os.drop k)) := by
      rw [List.append_assoc]; exact List.perm_middle
    rw [List.take_append_drop] at e1
    refine e1.trans ?_
    rw [List.range_succ]
    exact (List.Perm.cons n h.perm).trans (List.perm_append_singleton n (List.range n)).symm
  · rw [List.append_assoc, List.pairwise_append]
    refine ⟨hpw.sublist (List.take_sublist _ _), ?_, fun a ha b hb => ?_⟩
    · rw [List.singleton_append, List.pairwise_cons]
      exact ⟨hhi2, hpw.sublist (List.drop_sublist _ _)⟩
    · have ha' := hlo2 a ha
      rcases List.mem_append.1 hb with hb | hb
      · rw [List.mem_singleton.1 hb]; exact ha'
      · have := hhi2 b hb; omega

/-- append onto a row of the call's own, at a step of a region that draws. -/
theorem step_app {ops : Array Oper} {o : Oper} {a : Act} {w : World} {K : Act → World → Prop} {Q : Exit → Act → World → Prop} {E : Prop} (hgd : o.guard = none) (s x : Operand)
    (ho : o.op = .call { callee := .builtin .append, args := #[s, x], argTypes := #[33, 33] }) (base : Nat)
    (v : Value) (n : Nat) (xs : List Value) (hs : a.eval s = v) (hown : w.ownsRow base 3 1 v n xs)
    (ad : Addr) (m c : Nat) (news : List Value) (hx : a.eval x = .slice (some ad) m c) (hl : news.length = m) (hnews : ∀ j u, news[j]? = some u → w.cell? (ad.add j) = some u) (h1 : ∀ u ∈ news, u.oneCell' = true)
    (hn : n + m ≤ 1000) (hbase : base ≤ w.heap.size)
    (h : ∀ v' w', w'.ownsRow base 3 1 v' (n + m) (xs ++ news) → w.grownBy w' v.ownBlock → K (a.put o.dst v') w') :
    if Region.wanted o (yielded ops a.tmps) = true then Oper.wp Tryd.prog o a w K Q else E := by
  obtain ⟨i3, ji, jz0, jz1, jz2⟩ := info_parts info3
  have hw : Region.wanted o (yielded ops a.tmps) = true := by simp [Region.wanted, hgd]
  rw [if_pos hw]
  obtain ⟨v', w', hr, h2, h3, _, _⟩ := run_append_own_at (P := Tryd.prog) w base 33 o.type 3 i3 (.int .i64 0) 1 8 Tryd.underlying33 ji jz0 jz1 jz2 rfl (by decide) v n xs hown ad m c news (by omega) hnews h1 (by unfold maxLen; omega) (by omega) hbase
  unfold Oper.wp execOp
  simp only [ho, resolve, invoke, builtin, Sem.run_bind, Sem.run_pure, Result.andThen_ok, List.map_toArray, List.map_cons, List.map_nil, hs, hx, hr]
  exact h v' w' h2 h3
end Go.Proofs.YtgcoodameahkbaaDoor.Fl
namespace Go.Proofs.YtgcoodameahkbaaDoor.Fl
set_option linter.unusedVariables false
set_option linter.unusedSimpArgs false
open Go.RowKit Go.Proofs.YtgcoodameahkbaaDoor.Stable

theorem add_zero_block (G j : Nat) : (⟨G, 0, none⟩ : Addr).add j = ⟨G, j, none⟩ := by unfold Addr.add; split <;> simp_all
theorem add_block (G q j : Nat) : (⟨G, q, none⟩ : Addr).add j = ⟨G, q + j, none⟩ := by unfold Addr.add; split <;> simp_all
theorem il_len (os : List Nat) : (il os).length = os.length := by simp [il]
theorem il_one (os : List Nat) : ∀ u ∈ il os, u.oneCell' = true := by
  intro u hu
  unfold il at hu
  obtain ⟨j, _, rfl⟩ := List.mem_map.1 hu
  rfl
theorem own_mono {w : World} {B B' E n : Nat} {v : Value} {xs : List Value} (h : w.ownsRow B E 1 v n xs) (hB : B' ≤ B) : w.ownsRow B' E 1 v n xs := by
  refine ⟨h.1, ?_⟩
  rcases h.2 with h1 | ⟨g, cap, cur, h1, h2, h3⟩
  · exact .inl h1
  · exact .inr ⟨g, cap, cur, h1, by omega, h3⟩
theorem one_cell {w : World} {g : Nat} {x : Value} (h : w.cell? ⟨g, 0, none⟩ = some x) : ∀ (j : Nat) u, [x][j]? = some u → w.cell? ((⟨g, 0, none⟩ : Addr).add j) = some u := by
  intro j u hu
  cases j with
  | zero => simp at hu; subst hu; rw [add_zero_block]; exact h
  | succ j => simp at hu

theorem step_nil {ops : Array Oper} {o : Oper} {a : Act} {w : World} {K : Act → World → Prop} {Q : Exit → Act → World → Prop} {E : Prop} (hgd : o.guard = none) (s x : Operand)
    (ho : o.op = .call { callee := .builtin .append, args := #[s, x], argTypes := #[33, 33] }) (base : Nat)
    (v : Value) (n : Nat) (xs : List Value) (hs : a.eval s = v) (hown : w.ownsRow base 3 1 v n xs) (hx : a.eval x = .slice none 0 0) (h : K (a.put o.dst v) w) :
    if Region.wanted o (yielded ops a.tmps) = true then Oper.wp Tryd.prog o a w K Q else E := by
  obtain ⟨i3, ji, jz0, jz1, jz2⟩ := info_parts info3
  have hw : Region.wanted o (yielded ops a.tmps) = true := by simp [Region.wanted, hgd]
  rw [if_pos hw]
  have hr := run_append_owned_none (P := Tryd.prog) (w := w) base 33 o.type 3 i3 1 Tryd.underlying33 ji v n xs hown
  unfold Oper.wp execOp
  simp only [ho, resolve, invoke, builtin, Sem.run_bind, Sem.run_pure, Result.andThen_ok, List.map_toArray, List.map_cons, List.map_nil, hs, hx, hr]
  exact h

/-- What the reference's Order answers. -/
def ROrdPost (xs : List Nat) (n : Nat) (w : World) (e : Ending) (w' : World) : Prop :=
  ∃ (A : Option Addr) (c : Nat) (os : List Nat), e = .returned (.slice A n c) ∧ IsOrd xs n os ∧ w'.ownsRow w.heap.size 3 1 (.slice A n c) n (il os) ∧ Below w.heap.size w w'

set_option maxHeartbeats 4000000 in
set_option maxRecDepth 100000 in
theorem rorder_any (Ax : Option Addr) (n cx : Nat) (xs : List Nat) (w : World) (hn : n ≤ 40) (hF : FlAt w Ax n xs) (hx : ∀ k, k < n → xs.getD k 0 < 18446744073709551616) :
    Calls Tryd.prog 29 #[.slice Ax n cx] w (ROrdPost xs n w) := by
  have HF := Lib.hid hF
  have HX := Lib.hid hx
  clear hF hx
  go_enter Tryd.func29, Tryd.ntmps29
  go_wp2
  go_loopg [3, 4] n (fun g1 v i wr => ∃ (k : Nat) (A : Option Addr) (c : Nat) (os : List Nat), v = .slice A k c ∧ i = .int .i64 k ∧ k ≤ n ∧ n - k ≤ g1 ∧ Aside (IsOrd xs k os) ∧ Hid (wr.ownsRow w.heap.size 3 1 (.slice A k c) k (il os)) ∧ Aside (Below w.heap.size w wr))
  case atStart => exact ⟨0, none, 0, [], rfl, by first | rfl | go_num, by omega, by omega, ⟨by simp, fun i j h1 h2 => by omega⟩, World.ownsRow_nil _ _ _ _, Below.refl _ _⟩
  case round =>
    obtain ⟨k, A, c, os, rfl, rfl, hk, hg1, HOs, HOwn, HB⟩ := hrel
    by_cases hlt : k < n
    · have hltz : (k : Int) < (n : Int) := by omega
      obtain ⟨g, hA, hgl, hcell⟩ := HF.out (by omega)
      subst hA
      obtain ⟨x, hx0⟩ : ∃ x, xs.getD k 0 = x := ⟨_, rfl⟩
      have HCX : Aside (∀ W, Below w.heap.size w W → ∀ j, j < n → W.cell? ⟨g, j, none⟩ = some (.float .f64 (xs.getD j 0))) := fun W hW j hj => (hW.cell (p := ⟨g, j, none⟩) hgl).trans (hcell j hj)
      have hxk : x < 18446744073709551616 := by rw [← hx0]; exact HX.out k hlt
      have HX0 := Lib.hid hx0
      clear hcell hx0
      obtain ⟨wo, rfl⟩ : ∃ wo : World, wo = wr := ⟨_, rfl⟩
      have HOC : Aside (0 < k → ∃ G, A = some ⟨G, 0, none⟩ ∧ G < wo.heap.size ∧ ∀ j, j < k → wo.cell? ⟨G, j, none⟩ = some (.int .i64 ((os.getD j 0 : Nat) : Int))) := IntAt.of_own HOwn.out
      go_upto_block 2 with fail
      go_cut [5] (fun v5 wx => ∃ q : Nat, v5 = .int .i64 q ∧ q ≤ k ∧ Aside (∀ j, q ≤ j → j < k → lessB x (xs.getD (os.getD j 0) 0) = true) ∧ Aside (q = 0 ∨ lessB x (xs.getD (os.getD (q - 1) 0) 0) = false) ∧ Aside (∃ d, wx = wo.drewN d))
      case first =>
        go_wp2_with fail
        go_loopg [5] k (fun g2 v5 W => ∃ q : Nat, v5 = .int .i64 q ∧ q ≤ k ∧ q ≤ g2 ∧ Aside (∀ j, q ≤ j → j < k → lessB x (xs.getD (os.getD j 0) 0) = true) ∧ Aside (∃ d, W = wo.drewN d))
        case atStart => exact ⟨k, rfl, Nat.le_refl _, Nat.le_refl _, (fun j h1 h2 => by omega), ⟨0, rfl⟩⟩
        case round =>
          obtain ⟨q, rfl, hq, hg2, HHI, HD⟩ := hrel
          by_cases hq0 : q = 0
          · have d1 : decide ((0 : Int) < (q : Int)) = false := decide_eq_false (by omega)
            have d2 : decide (0 < q) = false := decide_eq_false (by omega)
            have HEX : Aside (q = 0 ∨ lessB x (xs.getD (os.getD (q - 1) 0) 0) = false) := .inl hq0
            clear hq0
            go_wp2_with fail
            go_quiet (fail)
            have HD2 : Aside (∃ d, wr.drewN nq = wo.drewN d) := by obtain ⟨d, hd⟩ := HD.out; exact ⟨d + nq, by rw [hd, World.drewN_drewN]⟩
            clear HD d1 d2
            go_wp2
            go_meet
            exact ⟨q, rfl, hq, HHI, HEX, HD2⟩
          · obtain ⟨G, hA, hG, hGc⟩ := HOC.out (by omega)
            subst hA
            obtain ⟨qp, hqp⟩ : ∃ p, q = p + 1 := ⟨q - 1, by omega⟩
            obtain ⟨L, hL⟩ : ∃ L, os.getD qp 0 = L := ⟨_, rfl⟩
            have hLk : L < k := by rw [← hL]; exact HOs.out.lt qp (by omega)
            have hcG : wr.cell? ⟨G, qp, none⟩ = some (.int .i64 (L : Int)) := by obtain ⟨d, hd⟩ := HD.out; rw [hd, ← hL]; exact hGc qp (by omega)
            obtain ⟨y, hy⟩ : ∃ y, xs.getD L 0 = y := ⟨_, rfl⟩
            have hBw : Below w.heap.size w wr := by obtain ⟨d, hd⟩ := HD.out; rw [hd]; exact HB.out.trans ⟨rfl, rfl, rfl, Nat.le_refl _, fun _ _ => rfl⟩
            have hcx : wr.cell? ⟨g, k, none⟩ = some (.float .f64 x) := by rw [← HX0.out]; exact HCX.out wr hBw k hlt
            have hcy : wr.cell? ⟨g, L, none⟩ = some (.float .f64 y) := by rw [← hy]; exact HCX.out wr hBw L (by omega)
            have hyy : y < 18446744073709551616 := by rw [← hy]; exact HX.out L (by omega)
            have d1 : decide ((0 : Int) < (q : Int)) = true := decide_eq_true (by omega)
            have d2 : decide (0 < q) = true := decide_eq_true (by omega)
            have hw1 : IntKind.i64.wrap ((q : Int) - 1) = (qp : Int) := by rw [IntKind.wrap_i64]; omega
            have hw2 : (q : Int) - 1 = (qp : Int) := by omega
            have hpk : (qp : Int) < (k : Int) := by omega
            have hLn : (L : Int) < (n : Int) := by omega
            have HQP := Lib.hid hqp
            cases hless : lessB x y
            · have CL : Aside (∀ W, Calls Tryd.prog 34 #[.float .f64 x, .float .f64 y] W fun e w' => e = .returned (.bool false) ∧ w' = W) := fun W => (rless_any x y hxk hyy W).mono fun e w' ⟨he, hw⟩ => ⟨by rw [he, hless], hw.symm⟩
              have HEX : Aside (q = 0 ∨ lessB x (xs.getD (os.getD (q - 1) 0) 0) = false) := .inr (by rw [show q - 1 = qp by omega, hL, hy]; exact hless)
              clear hq0 hqp hL hy hless hGc hBw hw2
              go_wp2_with fail
              go_quiet ((go_at_call 34; exact Calls.quiet_of_same (CL.out _)))
              have HD2 : Aside (∃ d, wr.drewN nq = wo.drewN d) := by obtain ⟨d, hd⟩ := HD.out; exact ⟨d + nq, by rw [hd, World.drewN_drewN]⟩
              clear HD d1 d2 hw1 hcG hcx hcy CL
              go_wp2
              go_meet
              exact ⟨q, rfl, hq, HHI, HEX, HD2⟩
            · have CL : Aside (∀ W, Calls Tryd.prog 34 #[.float .f64 x, .float .f64 y] W fun e w' => e = .returned (.bool true) ∧ w' = W) := fun W => (rless_any x y hxk hyy W).mono fun e w' ⟨he, hw⟩ => ⟨by rw [he, hless], hw.symm⟩
              have HHI2 : Aside (∀ j, qp ≤ j → j < k → lessB x (xs.getD (os.getD j 0) 0) = true) := fun j h1 h2 => by
                by_cases e : j = qp
                · rw [e, hL, hy]; exact hless
                · exact HHI.out j (by omega) h2
              clear hq0 hqp hL hy hless hGc hBw hw2
              go_wp2_with fail
              go_quiet ((go_at_call 34; exact Calls.quiet_of_same (CL.out _)))
              have HD2 : Aside (∃ d, wr.drewN nq = wo.drewN d) := by obtain ⟨d, hd⟩ := HD.out; exact ⟨d + nq, by rw [hd, World.drewN_drewN]⟩
              have hqp1 : (q : Int) - 1 = (qp : Int) := by have := HQP.out; omega
              clear HD d1 d2 hw1 hcG hcx hcy CL HHI
              generalize wr.drewN nq = w7 at HD2 ⊢
              go_wp2
              have hqq := HQP.out
              go_roundg qp
              case measure => omega
              case rel => exact ⟨qp, by first | rfl | go_num, by omega, Nat.le_refl _, HHI2, HD2⟩
      case rest =>
        obtain ⟨q, rfl, hq, HHI, HEX, HD⟩ := hcut
        have HOwc : Hid (wc.ownsRow w.heap.size 3 1 (.slice A k c) k (il os)) := by obtain ⟨d, hd⟩ := HD.out; rw [hd]; exact HOwn.out
        have HBc : Aside (Below w.heap.size w wc) := by obtain ⟨d, hd⟩ := HD.out; rw [hd]; exact HB.out.trans ⟨rfl, rfl, rfl, Nat.le_refl _, fun _ _ => rfl⟩
        have HIns : Aside (IsOrd xs (k + 1) (os.take q ++ [k] ++ os.drop q)) := Go.Proofs.YtgcoodameahkbaaDoor.Fl.IsOrd.insert HOs.out (by omega) (fun j hj => HX.out j (by omega)) hq (fun j h1 h2 => by rw [HX0.out]; exact HHI.out j h1 h2) (by rw [HX0.out]; exact HEX.out)
        have hle := HBc.out.size
        have hol : os.length = k := HOs.out.len
        have HOL := Lib.hid hol
        clear HOwn HB HD HEX HHI HOs HOC HCX hol
        have FIN : Aside (∀ (v : Value) (W : World), W.ownsRow w.heap.size 3 1 v (k + 1) (il (os.take q ++ [k] ++ os.drop q)) → Below w.heap.size w W → ∃ (A' : Option Addr) (c' : Nat), v = .slice A' (k + 1) c' ∧ Hid (W.ownsRow w.heap.size 3 1 (.slice A' (k + 1) c') (k + 1) (il (os.take q ++ [k] ++ os.drop q))) ∧ Aside (Below w.heap.size w W)) := fun v W h1 h2 => by
          obtain ⟨A', c', rfl⟩ := own_slice h1
          exact ⟨A', c', rfl, h1, h2⟩
        go_upto_region 8 with fail
        rcases HOwc.out.2 with ⟨hnil, hk0⟩ | ⟨G, cap, cur, hv, hG, hGcell, hkc, hcm, hcs, htk⟩
        · subst hk0
          obtain rfl : q = 0 := by omega
          have hAn : A = none := by injection hnil
          have hcn : c = 0 := by injection hnil
          subst hAn hcn
          have hos : os = [] := List.eq_nil_of_length_eq_zero HOL.out
          subst hos
          have HB1 : Aside (Below wc.heap.size wc (wc.drew.alloc (.cells #[.int .i64 0] 3))) := (Below.refl _ _).drew.alloc (Nat.le_refl _) _
          go_region_law (first
            | (refine step_nil rfl (.const (.slice none 0 0)) (.tmp 35) rfl wc.heap.size (.slice none 0 0) 0 [] rfl (World.ownsRow_nil _ _ _ _) (by simp [Act.eval, Act.put]) ?_)
            | (refine step_app rfl (.tmp 36) (.tmp 38) rfl wc.heap.size (.slice none 0 0) 0 [] (by simp [Act.eval, Act.put]) (World.ownsRow_nil _ _ _ _) ⟨wc.heap.size, 0, none⟩ 1 1 [.int .i64 0] (by simp [Act.eval, Act.put]) rfl (new_cell wc.drew _ _) (by simp [Value.oneCell']) (by omega) (by simp) ?_; intro v2 w2 ho2 hg2; have HO2 := Lib.hid ho2; have HB2 : Aside (Below wc.heap.size wc w2) := HB1.out.grown hg2 (by simp) (fun j h => by cases h); clear ho2 hg2)
            | (refine step_nil rfl (.tmp 39) (.tmp 42) rfl wc.heap.size v2 (0 + 1) ([] ++ [.int .i64 0]) (by simp [Act.eval, Act.put]) HO2.out (by simp [Act.eval, Act.put]) ?_; have HF3 := Lib.hid (FIN.out v2 w2 (by have h := HO2.out; rw [show 0 + 1 = 0 + 1 from rfl] at h; exact own_mono h hle) (HBc.out.trans (HB2.out.mono hle)))))
          all_goals
            obtain ⟨A2, c2, rfl, HOw3, HB3⟩ := HF3.out
            clear HF3 HOwc HBc
            go_wp2
            go_roundg (n - (0 + 1))
            case measure => omega
            case rel => exact ⟨0 + 1, A2, c2, [0], rfl, by first | rfl | go_num | (congr 1; omega), by omega, Nat.le_refl _, HIns, HOw3, HB3⟩
        · simp only [Value.slice.injEq, true_and] at hv
          obtain ⟨rfl, rfl⟩ := hv
          unfold maxLen at hcm
          have hqk : (q : Int) ≤ (k : Int) := by omega
          have hqc : (q : Int) ≤ (c : Int) := by omega
          obtain ⟨AD, hAD, hADc⟩ : ∃ AD : Addr, (if c = q then some (⟨G, 0, none⟩ : Addr) else some ⟨G, q, none⟩) = some AD ∧ (c = q ∨ AD = ⟨G, q, none⟩) := by
            by_cases e : c = q
            · exact ⟨⟨G, 0, none⟩, if_pos e, .inl e⟩
            · exact ⟨⟨G, q, none⟩, if_neg e, .inr rfl⟩
          have hGl : G < wc.heap.size := (HOwc.out.lt G rfl).2
          have HN35 : Aside (∀ W, Below wc.heap.size wc W → ∀ j u, (il (os.take q))[j]? = some u → W.cell? ((⟨G, 0, none⟩ : Addr).add j) = some u) := fun W hW j u hu => by
            have h1 := HOwc.out.cells rfl j u (by
              unfold il at hu ⊢
              rw [List.map_take] at hu
              have hjq : j < q := by
                rcases Nat.lt_or_ge j q with h | h
                · exact h
                · rw [List.getElem?_eq_none (by rw [List.length_take]; omega)] at hu; cases hu
              rwa [List.getElem?_take_of_lt hjq] at hu)
            rw [add_zero_block] at h1 ⊢
            exact (hW.cell (p := ⟨G, j, none⟩) hGl).trans h1
          have HN42 : Aside (∀ W, Below wc.heap.size wc W → ∀ j u, (il (os.drop q))[j]? = some u → W.cell? (AD.add j) = some u) := fun W hW j u hu => by
            rcases hADc with h | h
            · exfalso
              rw [List.drop_of_length_le (by rw [HOL.out]; omega)] at hu
              cases hu
            · subst h
              have h1 := HOwc.out.cells rfl (q + j) u (by
                unfold il at hu ⊢
                rw [List.map_drop, List.getElem?_drop] at hu
                exact hu)
              rw [add_zero_block] at h1
              rw [add_block]
              exact (hW.cell (p := ⟨G, q + j, none⟩) hGl).trans h1
          have FIN2 : Aside (∀ (v : Value) (W : World), W.ownsRow wc.heap.size 3 1 v (0 + q + 1 + (k - q)) ([] ++ il (os.take q) ++ [.int .i64 (k : Int)] ++ il (os.drop q)) → Below wc.heap.size wc W → ∃ (A' : Option Addr) (c' : Nat), v = .slice A' (k + 1) c' ∧ Hid (W.ownsRow w.heap.size 3 1 (.slice A' (k + 1) c') (k + 1) (il (os.take q ++ [k] ++ os.drop q))) ∧ Aside (Below w.heap.size w W)) := fun v W h1 h2 => by
            refine FIN.out v W ?_ (HBc.out.trans (h2.mono hle))
            have e1 : 0 + q + 1 + (k - q) = k + 1 := by omega
            have e2 : [] ++ il (os.take q) ++ [.int .i64 (k : Int)] ++ il (os.drop q) = il (os.take q ++ [k] ++ os.drop q) := by simp [il]
            rw [e1, e2] at h1
            exact own_mono h1 hle
          have hl1 : (il (os.take q)).length = q := by rw [il_len, List.length_take, HOL.out]; omega
          have hl2 : (il (os.drop q)).length = k - q := by rw [il_len, List.length_drop, HOL.out]
          have HL1 := Lib.hid hl1
          have HL2 := Lib.hid hl2
          clear hADc hGcell hcs htk hl1 hl2
          go_region_law (first
            | (refine step_app rfl (.const (.slice none 0 0)) (.tmp 35) rfl wc.heap.size (.slice none 0 0) 0 [] rfl (World.ownsRow_nil _ _ _ _) ⟨G, 0, none⟩ q c (il (os.take q)) (by simp [Act.eval, Act.put]) HL1.out (HN35.out _ (Below.refl _ _).drew) (il_one _) (by omega) (Nat.le_refl _) ?_; intro v1 w1 ho1 hg1; have HO1 := Lib.hid ho1; have HB1 : Aside (Below wc.heap.size wc w1) := (Below.refl _ _).drew.grown hg1 (Nat.le_refl _) (fun k hk => by cases hk); have hs1 := HB1.out.size; clear ho1 hg1)
            | (refine step_app rfl (.const (.slice none 0 0)) (.tmp 35) rfl wc.heap.size (.slice none 0 0) 0 [] rfl (World.ownsRow_nil _ _ _ _) ⟨G, 0, none⟩ q c (il (os.take q)) (by simp [Act.eval, Act.put]) HL1.out (HN35.out _ ((Below.refl _ _).drew.alloc (Nat.le_refl _) _)) (il_one _) (by omega) (by simp) ?_; intro v1 w1 ho1 hg1; have HO1 := Lib.hid ho1; have HB1 : Aside (Below wc.heap.size wc w1) := ((Below.refl _ _).drew.alloc (Nat.le_refl _) _).grown hg1 (by simp) (fun k hk => by cases hk); have HCk : Aside (w1.cell? ⟨wc.heap.size, 0, none⟩ = some (.int .i64 (k : Int))) := hg1.cell (World.cell?_alloc_at _ _ _ _ rfl) (by intro e; cases e); have hs1 := HB1.out.size; clear ho1 hg1)
            | (refine step_app rfl (.tmp 36) (.tmp 38) rfl wc.heap.size v1 (0 + q) ([] ++ il (os.take q)) (by simp [Act.eval, Act.put]) (HO1.out.alloc _) ⟨w1.heap.size, 0, none⟩ 1 1 [.int .i64 (k : Int)] (by simp [Act.eval, Act.put]) rfl (new_cell _ _ _) (by simp [Value.oneCell']) (by omega) (by simp; omega) ?_; intro v2 w2 ho2 hg2; have HO2 := Lib.hid ho2; have HB2 : Aside (Below wc.heap.size wc w2) := (HB1.out.alloc hs1 _).grown hg2 (by simp; omega) (fun j h => (HO1.out.lt j h).1); have hs2 := HB2.out.size; clear ho2 hg2)
            | (refine step_app rfl (.tmp 36) (.tmp 38) rfl wc.heap.size v1 (0 + q) ([] ++ il (os.take q)) (by simp [Act.eval, Act.put]) HO1.out ⟨wc.heap.size, 0, none⟩ 1 1 [.int .i64 (k : Int)] (by simp [Act.eval, Act.put]) rfl (one_cell HCk.out) (by simp [Value.oneCell']) (by omega) hs1 ?_; intro v2 w2 ho2 hg2; have HO2 := Lib.hid ho2; have HB2 : Aside (Below wc.heap.size wc w2) := HB1.out.grown hg2 hs1 (fun j h => (HO1.out.lt j h).1); have hs2 := HB2.out.size; clear ho2 hg2)
            | (refine step_app rfl (.tmp 39) (.tmp 42) rfl wc.heap.size v2 (0 + q + 1) ([] ++ il (os.take q) ++ [.int .i64 (k : Int)]) (by simp [Act.eval, Act.put]) HO2.out AD (k - q) (c - q) (il (os.drop q)) (by simp [Act.eval, Act.put, hAD]) HL2.out (HN42.out _ HB2.out) (il_one _) (by omega) hs2 ?_; intro v3 w3 ho3 hg3; have HF3 := Lib.hid (FIN2.out v3 w3 ho3 (HB2.out.grown hg3 hs2 (fun j h => (HO2.out.lt j h).1))); clear ho3 hg3))
          all_goals
            obtain ⟨A2, c2, rfl, HOw3, HB3⟩ := HF3.out
            clear HF3 HOwc HBc
            go_wp2
            go_roundg (n - (k + 1))
            case measure => omega
            case rel => exact ⟨k + 1, A2, c2, os.take q ++ [k] ++ os.drop q, rfl, by first | rfl | go_num | (congr 1; omega), by omega, Nat.le_refl _, HIns, HOw3, HB3⟩
    · have hltz : ¬ (k : Int) < (n : Int) := by omega
      obtain rfl : k = n := by omega
      have HE : Aside (ROrdPost xs k w (.returned (.slice A k c)) wr) := ⟨A, c, os, rfl, HOs.out, HOwn.out, HB.out⟩
      clear HOs HOwn HB
      go_wp2
      go_ret
      exact HE.out
end Go.Proofs.YtgcoodameahkbaaDoor.Fl
