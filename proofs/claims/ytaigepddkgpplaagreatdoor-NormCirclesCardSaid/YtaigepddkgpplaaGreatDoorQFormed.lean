/- formula.name -/
import Derived.Test.YtaigepddkgpplaaGreatDoorQLex4
section
namespace Go.Proofs.YtaigepddkgpplaaGreatDoor.M
open Go Go.RowKit Go.Maps Go.WideMaps Go.Proofs.YtaigepddkgpplaaGreatDoorW.PrintWords
set_option linter.unusedVariables false
set_option linter.unusedSimpArgs false
attribute [local go_sem] Oper.semAt_some

set_option maxRecDepth 100000 in
set_option maxHeartbeats 4000000 in
theorem name_calls (s : ByteArray) (hs : s.size ≤ 9223372036854775807) (w : World) : Calls Tryz.prog 166 #[.string s] w (RetB (nameB s) w) := by
  refine callsIn_wide.1 (?_ : CallsIn Fence.wide 3 _ _ _ _ _)
  refine callsIn_of_wp Tryz.func166 rfl trivial ?_ rfl
  simp only [Tryz.ntmps166, List.size_toArray, List.length_cons, List.length_nil, Nat.reduceAdd, Nat.reduceSub, Array.replicate_succ, Array.replicate_zero, List.push_toArray, List.append_toArray, List.nil_append, List.cons_append]
  have HTC := Lib.hid (lex_calls s hs w)
  gi_wp2_with ((try refine ⟨trivial, ?_⟩); gi_at_call 193; refine (CallsIn.mono (callsIn_wide.2 HTC.out) ?_); rintro e W ⟨hbW, A, n, c, err, pos, rfl, hn, h1, h2⟩; refine RowKit.Hid.out (?_ : RowKit.Hid _))
  refine Lib.hid ?_
  clear HTC
  by_cases he : err = 0
  · have d1 : decide (err = 0) = true := by simpa using he
    have d1' : (err == 0) = true := by simpa using he
    by_cases hn1 : n = 1
    · subst hn1
      obtain ⟨g, kind, text, rfl, c1, c2, h3, h4⟩ := h2 he rfl
      by_cases hk : kind = 1
      · have d2 : decide (kind = 1) = true := by simpa using hk
        have d2' : (kind == 1) = true := by simpa using hk
        by_cases ht : text = s
        · have d3 : decide (text = s) = true := by simpa using ht

          have hnm : nameB s = true := h3 hk ht
          clear h1 h2 h3 h4
          gi_wp2_with fail
          exact ⟨rfl, _, results_tmp rfl _ _ _, by rw [hnm]; rfl, hbW⟩
        · have d3 : decide (text = s) = false := by simpa using ht

          have hnm : nameB s = false := by rw [Bool.eq_false_iff]; exact fun h => ht (h4 h).2
          clear h1 h2 h3 h4
          gi_wp2_with fail
          refine ⟨rfl, _, results_tmp rfl _ _ _, ?_, hbW⟩
          rw [hnm]
          have hd : (text.toList == s.toList) = false := by
            rw [Bool.eq_false_iff]
            intro h
            have h := eq_of_beq h
            rw [ByteArray.toList_eq, ByteArray.toList_eq] at h
            exact ht (str_inj (by rw [h]))
          simp [hd]
      · have d2 : decide (kind = 1) = false := by simpa using hk
        have d2' : (kind == 1) = false := by simpa using hk
        have hnm : nameB s = false := by rw [Bool.eq_false_iff]; exact fun h => hk (h4 h).1
        clear h1 h2 h3 h4
        gi_wp2_with fail
        exact ⟨rfl, _, results_tmp rfl _ _ _, by rw [hnm]; rfl, hbW⟩
    · have d2 : decide ((n : Int) = 1) = false := by simp; omega
      have d2' : ((n : Int) == 1) = false := by simp; omega
      have hnm : nameB s = false := by rw [Bool.eq_false_iff]; exact fun h => hn1 (h1 h).2
      clear h1 h2
      gi_wp2_with fail
      exact ⟨rfl, _, results_tmp rfl _ _ _, by rw [hnm]; rfl, hbW⟩
  · have d1 : decide (err = 0) = false := by simpa using he
    have d1' : (err == 0) = false := by simpa using he
    have hnm : nameB s = false := by rw [Bool.eq_false_iff]; exact fun h => he (h1 h).1
    clear h1 h2
    gi_wp2_with fail
    exact ⟨rfl, _, results_tmp rfl _ _ _, by rw [hnm]; rfl, hbW⟩
end Go.Proofs.YtaigepddkgpplaaGreatDoor.M

end
section
/- formula.formed -/
namespace Go.Proofs.YtaigepddkgpplaaGreatDoor.M
open Go Go.RowKit Go.Maps Go.WideMaps Go.Proofs.YtaigepddkgpplaaGreatDoorW.PrintWords
set_option linter.unusedVariables false
set_option linter.unusedSimpArgs false
attribute [local go_sem] Oper.semAt_some

/-- is the node in its form, without a look at its kids -/
def formedK (k : Int) (t : ByteArray) (l m : Int) (n : Nat) : Bool :=
  if (k ≠ 3 ∧ (l ≠ 0 ∨ m ≠ 0)) ∨ (k ≠ 3 ∧ k ≠ 4 ∧ t ≠ ⟨#[]⟩) then false
  else if k = 1 ∨ k = 2 then n == 0
  else if k = 3 then n == 0 && nameB t && decide (1 ≤ l) && decide (l ≤ 6)
  else if k = 4 then n == 0 && nameB t
  else if k = 5 then n == 1
  else if k = 6 ∨ k = 7 then decide (2 ≤ n)
  else false

set_option maxRecDepth 100000 in
set_option maxHeartbeats 4000000 in
theorem formed_calls (k : Int) (t : ByteArray) (l m : Int) (A : Option Addr) (n c : Nat) (ht : t.size ≤ 9223372036854775807) (hn : n ≤ 9223372036854775807) (w : World) :
    Calls Tryz.prog 129 #[.agg #[.int .i64 k, .string t, .int .i64 l, .int .i64 m, .slice A n c]] w (RetB (formedK k t l m n) w) := by
  refine callsIn_wide.1 (?_ : CallsIn Fence.wide 3 _ _ _ _ _)
  refine callsIn_of_wp Tryz.func129 rfl trivial ?_ rfl
  simp only [Tryz.ntmps129, List.size_toArray, List.length_cons, List.length_nil, Nat.reduceAdd, Nat.reduceSub, Array.replicate_succ, Array.replicate_zero, List.push_toArray, List.append_toArray, List.nil_append, List.cons_append]
  obtain ⟨b, hb⟩ : ∃ b, nameB t = b := ⟨_, rfl⟩
  have HN : RowKit.Hid (∀ W, Calls Tryz.prog 166 #[.string t] W (RetB b W)) := fun W => hb ▸ name_calls t ht W
  have hdt : decide (t = ⟨#[]⟩) = (t.toList == []) := by
    have h1 : t.toList = t.data.toList := ByteArray.toList_eq t
    rw [h1]
    rcases t with ⟨⟨_ | ⟨x, l⟩⟩⟩ <;> simp
  have E0 : ((n : Int) == 0) = (n == 0) := by rw [Bool.eq_iff_iff, beq_iff_eq, beq_iff_eq]; omega
  have E1 : ((n : Int) == 1) = (n == 1) := by rw [Bool.eq_iff_iff, beq_iff_eq, beq_iff_eq]; omega
  have hn0 : n = 0 ∨ (n ≠ 0 ∧ decide ((n : Int) = 0) = false ∧ ((n : Int) == 0) = false) := by
    by_cases h : n = 0
    · exact .inl h
    · exact .inr ⟨h, by simp; omega, by simp; omega⟩
  by_cases h3 : k = 3
  · subst h3
    rcases hn0 with rfl | ⟨hn1, e0, e0'⟩ <;> cases b <;> gi_wp2_with (first | ((try refine ⟨trivial, ?_⟩); gi_at_call 166; refine (CallsIn.mono (callsIn_wide.2 (HN.out _)) ?_); rintro e W ⟨rfl, hbW⟩; have c2 : W.cell? ⟨w.heap.size, 2, none⟩ = some (.int .i64 l) := (World.cell?_of_block (a := ⟨w.heap.size, 2, none⟩) (hbW.block _ (by simp))).trans (by simp); have hbw : Below w.heap.size w W := ((Below.refl _ _).alloc (Nat.le_refl _) _).trans (hbW.mono (by simp)); clear hbW) | (refine ⟨trivial, ?_⟩))
    all_goals (refine ⟨rfl, _, results_tmp rfl _ _ _, ?_, (by first | exact hbw | exact (Below.refl _ _).alloc (Nat.le_refl _) _)⟩)
    all_goals (first | (simp [formedK, *]; done) | (simp_all [formedK]; done) | (simp_all [formedK]; omega) | go_goals)
  · by_cases h4 : k = 4
    · subst h4
      rcases hn0 with rfl | ⟨hn1, e0, e0'⟩ <;> cases b <;> gi_wp2_with (first | ((try refine ⟨trivial, ?_⟩); gi_at_call 166; refine (CallsIn.mono (callsIn_wide.2 (HN.out _)) ?_); rintro e W ⟨rfl, hbW⟩; have hbw : Below w.heap.size w W := ((Below.refl _ _).alloc (Nat.le_refl _) _).trans (hbW.mono (by simp)); clear hbW) | (refine ⟨trivial, ?_⟩))
      all_goals (refine ⟨rfl, _, results_tmp rfl _ _ _, ?_, (by first | exact hbw | exact (Below.refl _ _).alloc (Nat.le_refl _) _)⟩)
      all_goals (first | (simp [formedK, *]; done) | (simp_all [formedK]; done) | (simp_all [formedK]; omega) | go_goals)
    · have d3 : decide (k = 3) = false := by simpa using h3
      have d4 : decide (k = 4) = false := by simpa using h4
      gi_wp2_with fail
      all_goals (refine ⟨rfl, _, results_tmp rfl _ _ _, ?_, (by first | exact hbw | exact (Below.refl _ _).alloc (Nat.le_refl _) _)⟩)
      all_goals (first | (simp [formedK, E0, E1, *]; done) | (simp_all [formedK, E0, E1]; done) | (rw [Lib.hid E0] at *; simp_all [formedK]; done) | (simp [formedK, *]; done) | (simp_all [formedK]; done) | (simp_all [formedK]; omega) | go_goals)
end Go.Proofs.YtaigepddkgpplaaGreatDoor.M

end
