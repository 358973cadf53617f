/- PathParts' plain law: names of letters are joined, and split again; the last one and the path ahead. -/
import Derived.Test.YtblejdnjemcpcaaDoorComParts
namespace Go.Proofs.YtblejdnjemcpcaaDoor.PPathParts
open Go.RowKit Go.Proofs.YtblejdnjemcpcaaDoorW.PrintWords Go.Proofs.YtblejdnjemcpcaaDoorW.PrintLast Go.Proofs.YtblejdnjemcpcaaDoorW.PrintMore Go.Proofs.YtblejdnjemcpcaaDoor.Hand

theorem low_f (a : Int) (n : Int) (h1 : 1 ≤ n) (h2 : n ≤ 1000) : ∃ t, purlinlaw0_Low.f a n = some t ∧ 0 ≤ t ∧ t < n := by
  have hn : IntKind.u64.wrap n = n := by simp [IntKind.wrap, IntKind.signed, IntKind.bits]; omega
  have hx0 : 0 ≤ IntKind.u64.wrap a := by simp [IntKind.wrap, IntKind.signed, IntKind.bits]; omega
  have h3 := Int.emod_nonneg (IntKind.u64.wrap a) (b := n) (by omega)
  have h4 := Int.emod_lt_of_pos (IntKind.u64.wrap a) (b := n) (by omega)
  refine ⟨IntKind.u64.wrap a % n, ?_, h3, h4⟩
  unfold purlinlaw0_Low.f
  rw [hn, if_neg (by omega), Int.tmod_eq_emod_of_nonneg hx0]
  generalize IntKind.u64.wrap a % n = t at *
  congr 1
  unfold wrap64; omega

def letters (x : Bs) : Prop := ∀ c ∈ x, 97 ≤ c.toNat ∧ c.toNat ≤ 122
structure Good (ps : List ByteArray) : Prop where
  ok : ∀ p ∈ ps, letters (dl p) ∧ 1 ≤ (dl p).length ∧ (dl p).length ≤ 9
theorem Good.names {ps : List ByteArray} (h : Good ps) (hl : ps.length ≤ 20) : Names (ps.map dl) := by
  refine ⟨fun x hx => ?_, by rw [List.length_map]; exact hl⟩
  obtain ⟨p, hp, rfl⟩ := List.mem_map.1 hx
  obtain ⟨h1, h2, h3⟩ := h.ok p hp
  refine ⟨fun hc => absurd (h1 _ hc).1 (by decide), (keep_iff _).2 ?_, by omega, fun hc => absurd (h1 _ hc).1 (by decide)⟩
  rintro (e | e)
  · rw [e] at h2; simp at h2
  · rw [e] at h1; exact absurd (h1 46 (by simp)).1 (by decide)
theorem wt_le (ps : List ByteArray) (h : Good ps) : wt (ps.map dl) ≤ 10 * ps.length := by
  induction ps with
  | nil => simp [wt]
  | cons p ps ih =>
    have := ih ⟨fun q hq => h.ok q (by simp [hq])⟩
    have := (h.ok p (by simp)).2.2
    simp only [List.map_cons, wt, List.length_cons]; omega

theorem last_round (ns : List Int) (ps : List ByteArray) (k : Nat) (hk : 40 ≤ k) (h : Good ps) (hl : ps.length = ns.length) (hn : ns.length ≤ 20) :
    purlinlaw12_PathParts.l0 (k + 1) ns ps (wt (ps.map dl) : Int) (ns.length : Int) = some true := by
  rw [purlinlaw12_PathParts.l0, if_neg (by omega)]
  obtain ⟨k, rfl⟩ : ∃ j, k = j + 5 := ⟨k - 5, by omega⟩
  have hN := h.names (by omega)
  have hw := wt_le ps h
  obtain ⟨r, hr, hrd⟩ := join_f ps (by omega)
  rw [hr]
  simp only [Option.bind_some]
  have hrl : r.size = max 1 (wt (ps.map dl)) := by rw [← dl_size, hrd, joinL_len]
  obtain ⟨l, hs, hld⟩ := split_f r (by omega)
  rw [hrd, errL_joinL _ hN] at hs hld
  by_cases h2 : 200 < wt (ps.map dl)
  · rw [if_pos (show 200 < max 1 (wt (ps.map dl)) by omega)] at hs
    rw [hs]
    simp only [Option.bind_some]
    rw [if_pos (by omega), if_pos (by trivial), awake_ok]; rfl
  · have hm2 : ¬ 200 < max 1 (wt (ps.map dl)) := by omega
    rw [if_neg hm2] at hs hld
    rw [hs]
    simp only [Option.bind_some]
    have he : errL (dl r) = 0 := by rw [hrd, errL_joinL _ hN, if_neg hm2]
    have hnm : namesL (dl r) = ps.map dl := by rw [hrd, namesL_joinL _ (fun x hx => ⟨(hN.ok x hx).1, (hN.ok x hx).2.1⟩)]
    rw [if_pos rfl, ← hrd, hnm] at hld
    rw [if_neg (by omega)]
    obtain ⟨u, x, e, hlast, hcase⟩ := last_f r (by omega)
    rw [hlast]
    simp only [Option.bind_some]
    rw [hnm] at hcase
    by_cases h0 : ps = []
    · subst h0
      rcases hcase with ⟨hx, _⟩ | ⟨_, _, rfl, rfl, rfl⟩ | ⟨_, r', y, hry, _⟩
      · exact absurd he hx
      · have hl0 : l = [] := by cases l with | nil => rfl | cons x l => simp at hld
        subst hl0
        rw [if_pos (show (([] : List ByteArray).length : Int) = 0 from rfl), Lib.toList_data, if_pos (show r.data.toList = [47] from hrd), if_pos (by trivial), if_pos (show (([] : List ByteArray).length : Int) = 0 from rfl), if_pos (by trivial), awake_ok]; rfl
      · simp at hry
    · have hne : ps.length ≠ 0 := fun hh => h0 (List.eq_nil_of_length_eq_zero hh)
      rw [if_neg (by omega)]
      rcases hcase with ⟨hx, _⟩ | ⟨_, hx, _⟩ | ⟨_, r', y, hry, hy, hu, hx, rfl⟩
      · exact absurd he hx
      · exfalso
        rcases hx with hx | hx
        · exact h0 (List.map_eq_nil_iff.1 hx)
        · have hm : [46, 46] ∈ ps.map dl := List.mem_of_getLast? hx
          obtain ⟨p, hp, hpe⟩ := List.mem_map.1 hm
          have := (h.ok p hp).1 46 (by rw [hpe]; simp)
          exact absurd this.1 (by decide)
      · have hN' : Names r' := ⟨fun z hz => hN.ok z (by rw [hry]; simp [hz]), by have := hN.few; rw [hry, List.length_append] at this; omega⟩
        have hw' : wt r' ≤ wt (ps.map dl) := by rw [hry, wt_app]; omega
        have hul : u.size = max 1 (wt r') := by rw [← dl_size, hu, joinL_len]
        obtain ⟨us, hus, hud⟩ := split_f u (by omega)
        have heu : errL (dl u) = 0 := by rw [hu, errL_joinL _ hN', if_neg (by omega)]
        rw [heu] at hus hud
        rw [if_pos rfl, hu, namesL_joinL _ (fun z hz => ⟨(hN'.ok z hz).1, (hN'.ok z hz).2.1⟩)] at hud
        rw [hus]
        simp only [Option.bind_some]
        have hll : l.length ≤ 20 := by have := hN.few; rw [← hld, List.length_map] at this; exact this
        have hul2 : us.length ≤ 20 := by have := hN'.few; rw [← hud, List.length_map] at this; exact this
        have hul3 : (us ++ [x]).length ≤ 21 := by rw [List.length_append]; simp only [List.length_cons, List.length_nil]; omega
        rw [if_pos (by trivial), same_f (k + 5) l ps (by omega) hld (by omega)]
        simp only [Option.bind_some]
        rw [if_pos (by trivial), if_pos (by trivial), if_pos (by trivial), if_pos (by omega), same_f (k + 5) (us ++ [x]) ps (by omega) (by rw [List.map_append, hud, List.map_cons, List.map_nil, hx, hry]) (by omega)]
        simp only [Option.bind_some]
        rw [if_pos trivial, awake_ok]; rfl

theorem add_len (a x : Nat) (h : a ≤ 1000) (hx : x ≤ 9) : wrap64 (wrap64 ((a : Int) + 1) + (x : Int)) = ((a + (x + 1 + 0) : Nat) : Int) := by
  have e2 : wrap64 ((a : Int) + 1) = (a : Int) + 1 := by unfold wrap64; omega
  rw [e2]
  unfold wrap64; omega
theorem inner (ns : List Int) (ps : List ByteArray) (i K : Nat) (t : Int) (hi : i < ns.length) (hn : ns.length ≤ 20) (hps : ps.length = i) (h : Good ps) (ht : purlinlaw0_Low.f (rd ns (i : Int)) 9 = some t) (ht0 : 0 ≤ t) (ht9 : t < 9)
    (IH : ∀ k, K ≤ k → ∀ qs : List ByteArray, Good qs → qs.length = i + 1 → purlinlaw12_PathParts.l0 k ns qs (wt (qs.map dl) : Int) ((i + 1 : Nat) : Int) = some true) :
    ∀ (m kk k : Nat) (x : ByteArray), (kk : Int) + m = t + 1 → K + m + 1 ≤ k → letters (dl x) → (dl x).length = kk → purlinlaw12_PathParts.l1 k ns ps (wt (ps.map dl) : Int) (i : Int) x (kk : Int) = some true
  | 0, kk, k, x, hm, hk, hx, hxl => by
    obtain ⟨k, rfl⟩ : ∃ j, k = j + 1 := ⟨k - 1, by omega⟩
    rw [purlinlaw12_PathParts.l1, if_pos (by omega), if_pos (by omega), ht]
    simp only [Option.bind_some]
    rw [if_neg (by omega), if_pos (by omega)]
    have hw := wt_le ps h
    have hg : Good (ps ++ [x]) := ⟨fun p hp => by
      rcases List.mem_append.1 hp with hp | hp
      · exact h.ok p hp
      · rw [List.mem_singleton] at hp; subst hp; exact ⟨hx, by omega, by omega⟩⟩
    have := IH k (by omega) (ps ++ [x]) hg (by rw [List.length_append, hps]; rfl)
    have e1 : wrap64 (wrap64 ((wt (ps.map dl) : Int) + 1) + (x.size : Int)) = ((wt ((ps ++ [x]).map dl) : Nat) : Int) := by
      rw [List.map_append, wt_app]
      simp only [List.map_cons, List.map_nil, wt]
      exact add_len (wt (ps.map dl)) x.size (by omega) (by rw [← dl_size]; omega)
    rw [e1, show wrap64 ((i : Int) + 1) = ((i + 1 : Nat) : Int) by unfold wrap64; omega]
    exact this
  | m + 1, kk, k, x, hm, hk, hx, hxl => by
    obtain ⟨k, rfl⟩ : ∃ j, k = j + 1 := ⟨k - 1, by omega⟩
    rw [purlinlaw12_PathParts.l1, if_pos (by omega), if_pos (by omega), ht]
    simp only [Option.bind_some]
    have e2 : wrap64 ((kk : Int) + 1) = ((kk + 1 : Nat) : Int) := by unfold wrap64; omega
    rw [if_pos (by omega), e2, if_neg (by omega)]
    obtain ⟨t2, hl2, h20, h21⟩ := low_f (wrap64 (Int.tdiv (rd ns (i : Int)) ((kk + 1 : Nat) : Int))) 26 (by omega) (by omega)
    rw [hl2]
    simp only [Option.bind_some]
    have hxs : x.size = kk := hxl
    rw [if_pos (by rw [strOfNums_size]; simp only [List.length_cons, List.length_nil]; omega)]
    have e3 : wrap64 (97 + t2) % 256 = 97 + t2 := by unfold wrap64; omega
    rw [e3]
    have hd : dl (x ++ strOfNums [97 + t2]) = dl x ++ [UInt8.ofNat (97 + t2).toNat] := by simp [dl, strOfNums]
    refine inner ns ps i K t hi hn hps h ht ht0 ht9 IH m (kk + 1) k _ (by omega) (by omega) ?_ (by rw [hd, List.length_append, hxl]; rfl)
    rw [hd]
    intro c hc
    rcases List.mem_append.1 hc with hc | hc
    · exact hx c hc
    · rw [List.mem_singleton] at hc
      subst hc
      have : (UInt8.ofNat (97 + t2).toNat).toNat = (97 + t2).toNat := by simp; omega
      rw [this]; omega
theorem outer (ns : List Int) (hn : ns.length ≤ 20) : ∀ (n i k : Nat) (ps : List ByteArray), i + n = ns.length → 20 * n + 41 ≤ k → Good ps → ps.length = i → purlinlaw12_PathParts.l0 k ns ps (wt (ps.map dl) : Int) (i : Int) = some true
  | 0, i, k, ps, hi, hk, h, hps => by
    obtain ⟨k, rfl⟩ : ∃ j, k = j + 1 := ⟨k - 1, by omega⟩
    obtain rfl : i = ns.length := by omega
    exact last_round ns ps k (by omega) h hps hn
  | n + 1, i, k, ps, hi, hk, h, hps => by
    obtain ⟨k, rfl⟩ : ∃ j, k = j + 1 := ⟨k - 1, by omega⟩
    obtain ⟨t, ht, ht0, ht9⟩ := low_f (rd ns (i : Int)) 9 (by omega) (by omega)
    rw [purlinlaw12_PathParts.l0, if_pos (by omega)]
    exact inner ns ps i (20 * n + 41) t (by omega) hn hps h ht ht0 ht9 (fun k hk qs hq hql => outer ns hn n (i + 1) k qs (by omega) hk hq hql) (t.toNat + 1) 0 k ⟨#[]⟩ (by omega) (by omega) (fun c hc => by simp [dl] at hc) rfl
theorem pure : purlinlaw12_PathParts.Pure := by
  intro ns _ _ _
  refine ⟨1000, ?_⟩
  unfold purlinlaw12_PathParts.f
  by_cases hs : (ns.length : Int) > 20
  · rw [if_pos hs, awake_ok 995]; rfl
  · rw [if_neg hs]
    exact outer ns (by omega) ns.length 0 1000 [] (by omega) (by omega) ⟨fun p hp => by simp at hp⟩ rfl
end Go.Proofs.YtblejdnjemcpcaaDoor.PPathParts
