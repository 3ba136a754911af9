/- Plain facts on norm.of: the map of the Ids and the rows of those that except. -/
import Derived.Test.YtaigepddkgpplaaGreatDoorQFIdx
namespace Go.Proofs.YtaigepddkgpplaaGreatDoor.M
open Go Go.RowKit Go.Maps Go.Proofs.YtaigepddkgpplaaGreatDoor.B
set_option linter.unusedVariables false
set_option linter.unusedSimpArgs false

def ids (ps : List S67) : List ByteArray := ps.map (·.f0)
/-- the map of the Ids after m rounds, of n entries -/
structure AtOf (ps : List S67) (m : Nat) (f : Lit → Option Value) (n : Nat) : Prop where
  seen : ∀ s, s ∈ (ids ps).take m → ∃ i, i < m ∧ (ids ps)[i]? = some s ∧ f (.string s.data.toList) = some (.int .i64 (i : Int))
  new : ∀ s, s ∉ (ids ps).take m → f (.string s.data.toList) = none
  le : n ≤ m
  nod : n = m ↔ ((ids ps).take m).Nodup
theorem AtOf.zero (ps : List S67) : AtOf ps 0 (fun _ => none) 0 := ⟨fun s h => by simp at h, fun s _ => rfl, Nat.le_refl _, by simp⟩
theorem ids_len (ps : List S67) : (ids ps).length = ps.length := by simp [ids]
theorem ids_get (ps : List S67) {m : Nat} (h : m < ps.length) : (ids ps)[m]? = some ps[m].f0 := by simp [ids, h]
theorem ids_snoc (ps : List S67) {m : Nat} (h : m < ps.length) : (ids ps).take (m + 1) = (ids ps).take m ++ [ps[m].f0] := by
  rw [List.take_add_one, ids_get ps h]; rfl
theorem AtOf.next {ps : List S67} {m n : Nat} {f : Lit → Option Value} (h : AtOf ps m f n) (hm : m < ps.length) :
    AtOf ps (m + 1) (upd f (.string ps[m].f0.data.toList) (.int .i64 (m : Int))) (if (f (.string ps[m].f0.data.toList)).isSome then n else n + 1) := by
  by_cases hin : ps[m].f0 ∈ (ids ps).take m
  · obtain ⟨i, hi, hid, hf⟩ := h.seen _ hin
    rw [hf]
    refine ⟨fun s hs => ?_, fun s hs => ?_, ?_, ?_⟩
    · by_cases e : s = ps[m].f0
      · subst e; exact ⟨m, Nat.lt_succ_self _, ids_get ps hm, upd_same _ _ _⟩
      · rw [ids_snoc ps hm] at hs
        simp [e] at hs
        obtain ⟨j, hj, hjd, hjf⟩ := h.seen s hs
        exact ⟨j, Nat.lt_succ_of_lt hj, hjd, by rw [upd_other _ _ _ (fun h' => e (str_inj h'))]; exact hjf⟩
    · rw [ids_snoc ps hm] at hs
      simp at hs
      rw [upd_other _ _ _ (fun h' => hs.2 (str_inj h'))]
      exact h.new s hs.1
    · simp; exact Nat.le_succ_of_le h.le
    · simp only [Option.isSome_some, if_true]
      constructor
      · intro e; have := h.le; omega
      · intro hn
        rw [ids_snoc ps hm, List.nodup_append] at hn
        exact absurd rfl (hn.2.2 _ hin _ (by simp))
  · have hf := h.new _ hin
    rw [hf]
    refine ⟨fun s hs => ?_, fun s hs => ?_, ?_, ?_⟩
    · by_cases e : s = ps[m].f0
      · subst e; exact ⟨m, Nat.lt_succ_self _, ids_get ps hm, upd_same _ _ _⟩
      · rw [ids_snoc ps hm] at hs
        simp [e] at hs
        obtain ⟨j, hj, hjd, hjf⟩ := h.seen s hs
        exact ⟨j, Nat.lt_succ_of_lt hj, hjd, by rw [upd_other _ _ _ (fun h' => e (str_inj h'))]; exact hjf⟩
    · rw [ids_snoc ps hm] at hs
      simp at hs
      rw [upd_other _ _ _ (fun h' => hs.2 (str_inj h'))]
      exact h.new s hs.1
    · simp; exact h.le
    · simp only [Option.isSome_none, Bool.false_eq_true, if_false]
      rw [ids_snoc ps hm, List.nodup_append]
      constructor
      · intro e
        refine ⟨h.nod.1 (by omega), by simp, fun a ha b hb => ?_⟩
        simp at hb; subst hb
        rintro rfl
        exact hin ha
      · intro hn
        have := h.nod.2 hn.1
        omega
/-- what a text stands for in the map -/
def tgt (f : Lit → Option Value) (s : ByteArray) : Option Nat := match f (.string s.data.toList) with | some (.int _ i) => some i.toNat | _ => none
theorem tgt_some {ps : List S67} {n : Nat} {f : Lit → Option Value} (h : AtOf ps ps.length f n) {s : ByteArray} {k : Nat} (hk : tgt f s = some k) : k < ps.length ∧ (ids ps)[k]? = some s ∧ f (.string s.data.toList) = some (.int .i64 (k : Int)) := by
  have hl : (ids ps).take ps.length = ids ps := by rw [← ids_len]; exact List.take_length
  unfold tgt at hk
  by_cases hs : s ∈ (ids ps).take ps.length
  · obtain ⟨i, hi, hid, hf⟩ := h.seen s hs
    rw [hf] at hk
    simp at hk
    subst hk
    exact ⟨hi, hid, hf⟩
  · rw [h.new s hs] at hk
    cases hk
theorem tgt_none {ps : List S67} {n : Nat} {f : Lit → Option Value} (h : AtOf ps ps.length f n) {s : ByteArray} (hk : tgt f s = none) : f (.string s.data.toList) = none ∧ s ∉ ids ps := by
  have hl : (ids ps).take ps.length = ids ps := by rw [← ids_len]; exact List.take_length
  unfold tgt at hk
  by_cases hs : s ∈ (ids ps).take ps.length
  · obtain ⟨i, hi, hid, hf⟩ := h.seen s hs
    rw [hf] at hk
    simp at hk
  · exact ⟨h.new s hs, by rwa [hl] at hs⟩

/-- do the exceptions es stand for k -/
def excF (tg : ByteArray → Option Nat) (es : List ByteArray) (k : Nat) : Bool := es.any (fun s => tg s == some k)
/-- those of the first m provisions that except k -/
def rowF (ps : List S67) (tg : ByteArray → Option Nat) (m k : Nat) : List Nat := (List.range m).filter (fun i => excF tg (ps.getD i z67).f6 k)
/-- .. and m itself, if one of its first j exceptions is k -/
def rowJ (ps : List S67) (tg : ByteArray → Option Nat) (m j k : Nat) : List Nat := rowF ps tg m k ++ (if excF tg ((ps.getD m z67).f6.take j) k then [m] else [])
def rowsJ (ps : List S67) (tg : ByteArray → Option Nat) (m j : Nat) : List (List Nat) := (List.range ps.length).map (rowJ ps tg m j)
theorem rowF_lt {ps : List S67} {tg : ByteArray → Option Nat} {m k i : Nat} (h : i ∈ rowF ps tg m k) : i < m := by
  unfold rowF at h
  simpa using (List.mem_filter.1 h).1
theorem rowF_len (ps : List S67) (tg : ByteArray → Option Nat) (m k : Nat) : (rowF ps tg m k).length ≤ m := by
  unfold rowF
  have := List.length_filter_le (fun i => excF tg (ps.getD i z67).f6 k) (List.range m)
  simpa using this
theorem rowJ_len (ps : List S67) (tg : ByteArray → Option Nat) (m j k : Nat) : (rowJ ps tg m j k).length ≤ m + 1 := by
  unfold rowJ
  have := rowF_len ps tg m k
  rw [List.length_append]
  split <;> simp <;> omega
theorem rowJ_mem (ps : List S67) (tg : ByteArray → Option Nat) (m j k : Nat) : m ∈ rowJ ps tg m j k ↔ excF tg ((ps.getD m z67).f6.take j) k = true := by
  unfold rowJ
  rw [List.mem_append]
  constructor
  · rintro (h | h)
    · exact absurd (rowF_lt h) (Nat.lt_irrefl _)
    · split at h
      · assumption
      · cases h
  · intro h; right; rw [if_pos h]; simp
theorem rowsJ_len (ps : List S67) (tg : ByteArray → Option Nat) (m j : Nat) : (rowsJ ps tg m j).length = ps.length := by simp [rowsJ]
theorem rowsJ_get (ps : List S67) (tg : ByteArray → Option Nat) (m j : Nat) {k : Nat} (h : k < ps.length) : (rowsJ ps tg m j)[k]? = some (rowJ ps tg m j k) := by simp [rowsJ, h]
theorem excF_take {tg : ByteArray → Option Nat} {es : List ByteArray} {j : Nat} (h : j < es.length) (k : Nat) : excF tg (es.take (j + 1)) k = (excF tg (es.take j) k || tg es[j] == some k) := by
  unfold excF
  rw [List.take_succ_eq_append_getElem h, List.any_append]
  simp
theorem rowsJ_none {ps : List S67} {tg : ByteArray → Option Nat} {m j : Nat} (h : j < (ps.getD m z67).f6.length) (hn : tg (ps.getD m z67).f6[j] = none) : rowsJ ps tg m (j + 1) = rowsJ ps tg m j := by
  unfold rowsJ
  refine List.map_congr_left (fun k _ => ?_)
  unfold rowJ
  rw [excF_take h, hn]
  simp
theorem rowsJ_had {ps : List S67} {tg : ByteArray → Option Nat} {m j t : Nat} (h : j < (ps.getD m z67).f6.length) (hn : tg (ps.getD m z67).f6[j] = some t) (hm : m ∈ rowJ ps tg m j t) : rowsJ ps tg m (j + 1) = rowsJ ps tg m j := by
  unfold rowsJ
  refine List.map_congr_left (fun k _ => ?_)
  unfold rowJ
  rw [excF_take h, hn]
  by_cases e : k = t
  · subst e; rw [(rowJ_mem ps tg m j k).1 hm]; simp
  · have : (some t == some k) = false := by simp; omega
    rw [this]; simp
theorem rowsJ_push {ps : List S67} {tg : ByteArray → Option Nat} {m j t : Nat} (h : j < (ps.getD m z67).f6.length) (hn : tg (ps.getD m z67).f6[j] = some t) (hm : m ∉ rowJ ps tg m j t) : rowsJ ps tg m (j + 1) = (rowsJ ps tg m j).set t (rowJ ps tg m j t ++ [m]) := by
  have he : excF tg ((ps.getD m z67).f6.take j) t = false := by rw [Bool.eq_false_iff]; exact fun hc => hm ((rowJ_mem ps tg m j t).2 hc)
  apply List.ext_getElem?
  intro k
  rw [List.getElem?_set]
  by_cases hk : k < ps.length
  · rw [rowsJ_get _ _ _ _ hk, rowsJ_get _ _ _ _ hk, rowsJ_len]
    by_cases e : t = k
    · subst e
      rw [if_pos rfl, if_pos hk]
      unfold rowJ
      rw [excF_take h, hn, he]
      simp
    · rw [if_neg e]
      unfold rowJ
      rw [excF_take h, hn]
      have : (some t == some k) = false := by simp; omega
      rw [this]; simp
  · have h1 : (rowsJ ps tg m (j + 1))[k]? = none := by rw [List.getElem?_eq_none]; rw [rowsJ_len]; omega
    have h2 : (rowsJ ps tg m j)[k]? = none := by rw [List.getElem?_eq_none]; rw [rowsJ_len]; omega
    rw [h1, h2, rowsJ_len]
    by_cases e : t = k
    · subst e; rw [if_pos rfl, if_neg hk]
    · rw [if_neg e]
theorem rowsJ_next (ps : List S67) (tg : ByteArray → Option Nat) (m : Nat) : rowsJ ps tg m (ps.getD m z67).f6.length = rowsJ ps tg (m + 1) 0 := by
  unfold rowsJ
  refine List.map_congr_left (fun k _ => ?_)
  unfold rowJ
  rw [List.take_length, List.take_zero]
  have e0 : excF tg [] k = false := rfl
  rw [e0]
  unfold rowF
  rw [List.range_succ, List.filter_append]
  simp [List.filter_cons]
theorem rowsJ_zero (ps : List S67) (tg : ByteArray → Option Nat) : rowsJ ps tg 0 0 = List.replicate ps.length [] := by
  unfold rowsJ
  rw [List.eq_replicate_iff]
  refine ⟨by simp, fun l hl => ?_⟩
  obtain ⟨k, _, rfl⟩ := List.mem_map.1 hl
  simp [rowJ, rowF, excF]
end Go.Proofs.YtaigepddkgpplaaGreatDoor.M

