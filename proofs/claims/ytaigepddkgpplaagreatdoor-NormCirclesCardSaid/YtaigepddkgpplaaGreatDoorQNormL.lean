/- Plain facts on laws for the statements of layer 14. -/
import Derived.Test.YtaigepddkgpplaaGreatDoorQR14
namespace Go.Proofs.YtaigepddkgpplaaGreatDoor.M
open Go Go.RowKit Go.Proofs.YtaigepddkgpplaaGreatDoor.B Go.Proofs.YtaigepddkgpplaaGreatDoor.T
set_option linter.unusedVariables false
set_option linter.unusedSimpArgs false

theorem idAt_get (ps : List S67) {i : Nat} (h : i < ps.length) : (ids ps)[i]? = some (idAt ps i) := by
  rw [ids_get ps h]; simp [idAt, h]
theorem idAt_inj {ps : List S67} (hn : (ids ps).Nodup) {i k : Nat} (hi : i < ps.length) (hk : k < ps.length) (h : idAt ps i = idAt ps k) : i = k := by
  have h1 := (tgP_iff hn (idAt ps i) i).2 (idAt_get ps hi)
  have h2 := (tgP_iff hn (idAt ps i) k).2 (by rw [h]; exact idAt_get ps hk)
  rw [h1] at h2
  injection h2
theorem tgP_idAt {ps : List S67} (hn : (ids ps).Nodup) {i : Nat} (hi : i < ps.length) : tgP ps (idAt ps i) = some i := (tgP_iff hn _ i).2 (idAt_get ps hi)
/-- who excepts a provision -/
theorem adjP_mem {ps : List S67} (hn : (ids ps).Nodup) {v : Nat} (hv : v < ps.length) (y : Nat) : y ∈ adjP ps v ↔ y < ps.length ∧ idAt ps v ∈ (ps.getD y z67).f6 := by
  unfold adjP
  rw [rowsJ_adj ps (tgP ps) hv]
  unfold rowF
  rw [List.mem_filter, List.mem_range]
  refine and_congr_right fun hy => ?_
  unfold excF
  rw [List.any_eq_true]
  constructor
  · rintro ⟨s, hs, h⟩
    have h : tgP ps s = some v := by simpa using h
    have := (tgP_iff hn s v).1 h
    rw [idAt_get ps hv] at this
    injection this with this
    exact this ▸ hs
  · intro h
    exact ⟨_, h, by rw [tgP_idAt hn hv]; simp⟩
theorem mem_ids {ps : List S67} (hn : (ids ps).Nodup) {l : List Nat} (hl : ∀ y ∈ l, y < ps.length) {i : Nat} (hi : i < ps.length) : idAt ps i ∈ l.map (idAt ps) ↔ i ∈ l := by
  rw [List.mem_map]
  constructor
  · rintro ⟨k, hk, e⟩
    exact idAt_inj hn (hl k hk) hi e ▸ hk
  · intro h; exact ⟨i, h, rfl⟩
theorem appIds_eq (fs : List S110) (ps : List S67) (cs : List Int) : appIds fs ps cs = ((List.range ps.length).filter (apB fs ps cs)).map (idAt ps) := rfl
/-- what holds where there is no error -/
structure Fine (fs : List S110) (ps : List S67) (cs : List Int) : Prop where
  nd : (ids ps).Nodup
  fits : fitsB fs cs = true
  small : ps.length ≤ 2000
  good : ∀ p ∈ ps, badP fs p = false
  acyc : Acyc (adjP ps) ps.length
theorem fine_of {fs : List S110} {ps : List S67} {cs : List Int} (h : appE fs ps cs = 0) : Fine fs ps cs := by
  unfold appE at h
  split at h
  · cases h
  · rename_i h1
    split at h
    · rename_i h2
      have h1 : argBad fs ps cs = false := by simpa using h1
      unfold argBad at h1
      simp only [Bool.or_eq_false_iff, Bool.not_eq_false', decide_eq_true_eq, decide_eq_false_iff_not, List.any_eq_false] at h1
      obtain ⟨a, b, c, d⟩ := h1
      exact ⟨a, c, by omega, fun p hp => by simpa using d p hp, h2⟩
    · cases h
theorem Fine.arg {fs : List S110} {ps : List S67} {cs : List Int} (h : Fine fs ps cs) : argBad fs ps cs = false := by
  unfold argBad
  simp only [Bool.or_eq_false_iff, Bool.not_eq_false', decide_eq_true_eq, decide_eq_false_iff_not, List.any_eq_false]
  exact ⟨h.nd, by have := h.small; omega, h.fits, fun p hp => by rw [h.good p hp]; simp⟩
theorem Fine.e {fs : List S110} {ps : List S67} {cs : List Int} (h : Fine fs ps cs) : appE fs ps cs = 0 := by
  unfold appE
  rw [if_neg (by rw [h.arg]; simp), if_pos h.acyc]
theorem Fine.rule {fs : List S110} {ps : List S67} {cs : List Int} (h : Fine fs ps cs) (v : Nat) : apB fs ps cs v = (holdsP fs cs ps v && !(adjP ps v).any (apB fs ps cs)) := appB_eq (adjP_lt ps) h.acyc (holdsP fs cs ps) v
theorem Fine.l {fs : List S110} {ps : List S67} {cs : List Int} (h : Fine fs ps cs) : appL fs ps cs = appIds fs ps cs := by unfold appL; rw [if_pos h.e]
theorem Fine.has {fs : List S110} {ps : List S67} {cs : List Int} (h : Fine fs ps cs) {i : Nat} (hi : i < ps.length) : hasS (appIds fs ps cs) (idAt ps i) = apB fs ps cs i := by
  rw [Bool.eq_iff_iff, hasS_iff, appIds_eq, mem_ids h.nd (fun y hy => by simpa using (List.mem_filter.1 hy).1) hi, List.mem_filter]
  simp [hi]
theorem Fine.blkE {fs : List S110} {ps : List S67} {cs : List Int} (h : Fine fs ps cs) {i : Nat} (hi : i < ps.length) : blkE fs ps cs (idAt ps i) = 0 := by
  unfold M.blkE
  rw [if_pos h.e, tgP_idAt h.nd hi]; rfl
def blkIds (fs : List S110) (ps : List S67) (cs : List Int) (i : Nat) : List ByteArray := ((adjP ps i).filter (apB fs ps cs)).map (idAt ps)
theorem Fine.blkL {fs : List S110} {ps : List S67} {cs : List Int} (h : Fine fs ps cs) {i : Nat} (hi : i < ps.length) : blkL fs ps cs (idAt ps i) = blkIds fs ps cs i := by
  unfold M.blkL blkIds
  rw [if_pos h.e, tgP_idAt h.nd hi]
/-- a provision applies exactly if its condition holds and nothing blocks it -/
theorem Fine.one {fs : List S110} {ps : List S67} {cs : List Int} (h : Fine fs ps cs) {i : Nat} (hi : i < ps.length) : hasS (appIds fs ps cs) (idAt ps i) = (holdsP fs cs ps i && decide ((blkIds fs ps cs i).length = 0)) := by
  rw [h.has hi, h.rule i]
  congr 1
  rw [Bool.eq_iff_iff]
  unfold blkIds
  simp [List.filter_eq_nil_iff]
theorem Fine.two {fs : List S110} {ps : List S67} {cs : List Int} (h : Fine fs ps cs) {i k : Nat} (hi : i < ps.length) (hk : k < ps.length) : hasS (blkIds fs ps cs i) (idAt ps k) = (hasS (appIds fs ps cs) (idAt ps k) && hasS (ps.getD k z67).f6 (idAt ps i)) := by
  rw [h.has hk, Bool.eq_iff_iff, Bool.and_eq_true, hasS_iff, hasS_iff]
  unfold blkIds
  rw [mem_ids h.nd (fun y hy => adjP_lt ps i y (List.mem_filter.1 hy).1) hk, List.mem_filter, adjP_mem h.nd hi]
  constructor
  · rintro ⟨⟨_, a⟩, b⟩; exact ⟨b, a⟩
  · rintro ⟨b, a⟩; exact ⟨⟨hk, a⟩, b⟩
theorem Fine.some {fs : List S110} {ps : List S67} {cs : List Int} (h : Fine fs ps cs) : (List.range ps.length).any (holdsP fs cs ps) = decide (0 < (appIds fs ps cs).length) := by
  rw [Bool.eq_iff_iff, List.any_eq_true, decide_eq_true_eq, List.length_pos_iff]
  constructor
  · rintro ⟨v, hv, hh⟩
    obtain ⟨u, hu, hA⟩ := app_some (adjP_lt ps) (fun v _ => h.rule v) (by simpa using hv) hh
    intro e
    have := (h.has hu).trans hA
    rw [e] at this
    simp [hasS] at this
  · intro hne
    obtain ⟨x, hx⟩ := List.exists_mem_of_ne_nil _ hne
    rw [appIds_eq, List.mem_map] at hx
    obtain ⟨v, hv, _⟩ := hx
    rw [List.mem_filter] at hv
    refine ⟨v, hv.1, ?_⟩
    have := hv.2
    rw [h.rule v] at this
    simp only [Bool.and_eq_true] at this
    exact this.1
end Go.Proofs.YtaigepddkgpplaaGreatDoor.M

