/- What the walks ask of the world, out of what is laid. -/
import Derived.Test.YtibjgmhhecbhbaaDoorBaseA
namespace Go.Proofs.YtibjgmhhecbhbaaDoor.Base
open Go.ChangeShapes Go.WideShapes Go.ChangeAt Go.RowKit Go.Joins Go.Deep Go.Proofs.YtibjgmhhecbhbaaDoorW.PrintWords Go.Proofs.YtibjgmhhecbhbaaDoor.Hand
set_option linter.unusedVariables false
set_option linter.unusedSimpArgs false

section
variable {H : Type} {enc : TypeId × Value → H} {P : Program} {w : World} {base : Nat} {sp : Nat → Bool} {held : Bool} {fuel : Nat} {t e : TypeId} {n : Nat} {cs : List Value} {ss : List ByteArray} {p : List MemPlace}
/-- An array of strings that reads as these holds these. -/
theorem cells_of_strs (ht : P.underlying t = some (.array n e)) (he : P.underlying e = some .string) (hce : P.cellsOf e = 1) (hct : P.cellsOf t = n)
    (h : DataW.trod enc P w base sp held fuel t cs = some (.agg (ss.map fun s => .lit (.string s.data.toList)), p)) : cs = ss.map Value.string := by
  cases fuel with
  | zero => simp [DataW.trod] at h
  | succ fuel =>
    simp only [DataW.trod, ht, hce, hct, Nat.mul_one] at h
    split at h
    · rename_i hl
      obtain ⟨xs, hm, hx⟩ := Option.map_eq_some_iff.1 h
      have hxs : xs.map (·.1) = ss.map fun s => (DataW.lit (.string s.data.toList) : DataW H) := by
        have := congrArg Prod.fst hx
        simpa using this
      have hxl : xs.length = n := by simpa using Lib.mapM_length hm
      have hzl : ss.length = n := by
        have := congrArg List.length hxs
        simp at this
        omega
      apply List.ext_getElem?
      intro i
      by_cases hi : i < n
      · obtain ⟨b, hb, hf⟩ := Lib.mapM_at hm i i (by simp [hi])
        obtain ⟨z, hc, rfl, _⟩ := DataW.trod_string he hf
        have h1 : cs[i]? = some (.string z) := by
          have := congrArg (·[0]?) hc
          simpa [List.getElem?_take, List.getElem?_drop] using this
        have h2 : (xs.map (·.1))[i]? = some (DataW.lit (.string z.data.toList) : DataW H) := by simp [hb]
        rw [hxs] at h2
        simp only [List.getElem?_map, Option.map_eq_some_iff, DataW.lit.injEq, Lit.string.injEq] at h2
        obtain ⟨z', hz', h3⟩ := h2
        have : z' = z := dl_inj h3
        subst this
        simp [h1, hz']
      · rw [List.getElem?_eq_none (by omega), List.getElem?_eq_none (by simp; omega)]
    · cases h
end
theorem var_block {W : World} {nm : String} {g : Nat} {cs : Array Value} (hg : Tryd.prog.globalNamed nm = some g) (hv : W.var? Tryd.prog nm = some cs) : ∃ t fr, W.heap[g]? = some (.cells cs t fr) := by
  unfold World.var? at hv
  rw [hg] at hv
  simp only [Option.bind_some] at hv
  cases h : W.heap[g]? with
  | none => rw [h] at hv; cases hv
  | some o =>
    rw [h] at hv
    cases o with
    | cells c t fr => simp at hv; subst hv; exact ⟨t, fr, rfl⟩
    | _ => simp at hv
theorem maxlen_of {w : World} (h : w.ShapedOpen Tryd.prog) : ∃ m, w.cell? ⟨1, 0, none⟩ = some (.int .i64 m) := Tryd.laysM146.s1_3 w h
theorem g_of {W : World} (h : laidMet Tryd.prog laids W) (hsh : W.ShapedOpen Tryd.prog) : G W := by
  obtain ⟨m, hm⟩ := maxlen_of hsh
  obtain ⟨ps, ⟨g, t, cs, fuel, p, q, hg, ht, hv, hd, hrest, hps⟩, hn, hr⟩ := h
  obtain ⟨g, t, cs, fuel, p, q, hg, ht, hv, hd, hrest, hps⟩ := hrest
  obtain ⟨g, t, cs, fuel, p, q, hg, ht, hv, hd, hrest, hps⟩ := hrest
  have hpow : Lib.TabIs Tryd.prog W "internal/strconv.uint64pow10" .u64 Lib.pow10Tab := by
    obtain rfl := Option.some.inj ((show Tryd.prog.globalNamed "internal/strconv.uint64pow10" = some 4 by kernel_rfl).symm.trans hg)
    obtain rfl := Option.some.inj ((show (Tryd.prog.globals[4]?).map (·.type) = some 90 by kernel_rfl).symm.trans ht)
    have e : (Rows.laid_internal_strconv_uint64pow10 : DataW Unit) = Lib.tabData .u64 Lib.pow10Tab := by kernel_rfl
    rw [e] at hd
    unfold Lib.TabIs
    rw [hv, ← Lib.cells_of_tab Tryd.underlying90 Tryd.underlying57 (by kernel_rfl) (by kernel_rfl) hd]
  clear hg ht hv hd hps
  obtain ⟨g, t, cs, fuel, p, q, hg, ht, hv, hd, hrest, hps⟩ := hrest
  clear hg ht hv hd hps
  obtain ⟨g, t, cs, fuel, p, q, hg, ht, hv, hd, hrest, hps⟩ := hrest
  have her : ∃ te pe, W.cell? ⟨3, 0, none⟩ = some (.iface te pe) := by
    obtain rfl := Option.some.inj ((show Tryd.prog.globalNamed "strconv.ErrRange" = some 3 by kernel_rfl).symm.trans hg)
    obtain rfl := Option.some.inj ((show (Tryd.prog.globals[3]?).map (·.type) = some 43 by kernel_rfl).symm.trans ht)
    obtain ⟨_, u, v, hcs, _, _⟩ := iface_of_trod Tryd.underlying43 hd
    obtain rfl : cs = #[.iface u v] := Array.toList_inj.1 hcs
    obtain ⟨t, fr, hb⟩ := var_block hg hv
    exact ⟨u, v, by rw [cell_of_row W 3 0 _ t fr hb]; rfl⟩
  clear hg ht hv hd hps
  obtain ⟨g, t, cs, fuel, p, q, hg, ht, hv, hd, hrest, hps⟩ := hrest
  have hes : ∃ te pe, W.cell? ⟨2, 0, none⟩ = some (.iface te pe) := by
    obtain rfl := Option.some.inj ((show Tryd.prog.globalNamed "strconv.ErrSyntax" = some 2 by kernel_rfl).symm.trans hg)
    obtain rfl := Option.some.inj ((show (Tryd.prog.globals[2]?).map (·.type) = some 43 by kernel_rfl).symm.trans ht)
    obtain ⟨_, u, v, hcs, _, _⟩ := iface_of_trod Tryd.underlying43 hd
    obtain rfl : cs = #[.iface u v] := Array.toList_inj.1 hcs
    obtain ⟨t, fr, hb⟩ := var_block hg hv
    exact ⟨u, v, by rw [cell_of_row W 2 0 _ t fr hb]; rfl⟩
  clear hg ht hv hd hps
  obtain ⟨g, t, cs, fuel, p, q, hg, ht, hv, hd, hrest, hps⟩ := hrest
  have hwd : ∃ t fr, W.heap[0]? = some (.cells (wordsB.map Value.string).toArray t fr) := by
    obtain rfl := Option.some.inj ((show Tryd.prog.globalNamed "purlin/spell.words" = some 0 by kernel_rfl).symm.trans hg)
    obtain rfl := Option.some.inj ((show (Tryd.prog.globals[0]?).map (·.type) = some 39 by kernel_rfl).symm.trans ht)
    have e : (Rows.laid_purlin_spell_words : DataW Unit) = .agg (wordsB.map fun s => .lit (.string s.data.toList)) := by kernel_rfl
    rw [e] at hd
    rw [← cells_of_strs Tryd.underlying39 Tryd.underlying9 (by kernel_rfl) (by kernel_rfl) hd]
    rw [Array.toArray_toList]
    exact var_block hg hv
  exact ⟨hwd, hpow, ⟨m, hm⟩, hes, her⟩
end Go.Proofs.YtibjgmhhecbhbaaDoor.Base
