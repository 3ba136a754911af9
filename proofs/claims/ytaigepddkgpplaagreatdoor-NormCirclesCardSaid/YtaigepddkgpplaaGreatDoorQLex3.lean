/- lexer.tokens: the iterator's walk. -/
import Derived.Test.YtaigepddkgpplaaGreatDoorQLex2
import Derived.Test.YtaigepddkgpplaaGreatDoorQRange
import Derived.Lib.AtoiErrMem
import Derived.WalkMore
import Derived.Scope
namespace Go.Proofs.YtaigepddkgpplaaGreatDoor.M
open Go Go.RowKit Go.Maps Go.WideMaps Go.Proofs.YtaigepddkgpplaaGreatDoorW.PrintWords
set_option linter.unusedVariables false
set_option linter.unusedSimpArgs false
attribute [local go_sem] Oper.semAt_some

theorem at_in {n : Nat} (s : ByteArray) (i b1 b2 : Nat) (w : World) (hi : i ≤ 9223372036854775807) (h1 : w.cell? ⟨b1, 0, none⟩ = some (.string s)) (h2 : w.heap[b2]? = some (.cells clsArr 255 (0, 0))) (c : Int) (hc : atC s i = c) :
    CallsIn Fence.wide n Tryz.prog 222 #[.int .i64 i, .pointer (some ⟨b1, 0, none⟩), .pointer (some ⟨b2, 0, none⟩)] w fun e w' => e = .returned (.int .u8 c) ∧ w' = w := callsIn_wide.2 (by rw [← hc]; exact at_calls s i b1 b2 w hi h1 h2)

theorem wpIn_scope_wide {n : Nat} {P : Program} {c : Code} {Q : Exit → Act → World → Prop} {a : Act} {w : World} (h : c.wpIn Fence.wide n P (Exit.noGoto Q) a w) : (Code.scope c).wpIn Fence.wide n P Q a w := wpIn_wide.2 (wp_scope_straight ((wpIn_wide (n := n)).1 h))
theorem noGoto_normal {Q : Exit → Act → World → Prop} {a : Act} {w : World} : Exit.noGoto Q .normal a w = Q .normal a w := by simp [Exit.noGoto]
theorem TokBox.kept {s : ByteArray} {W W' : World} {b1 b2 b3 B : Nat} {M : Nat → Prop} (h : TokBox s W b1 b2 b3) (hk : Keep (fun k => M k ∧ k < B) W W') (h1 : b1 < W.heap.size) (h2 : b2 < W.heap.size) (h3 : b3 < W.heap.size) (m1 : ¬ M b1) (m2 : ¬ M b2) (m3 : ¬ M b3) : TokBox s W' b1 b2 b3 :=
  h.keep (hk.block _ h1 (fun x => m1 x.1)) (hk.block _ h2 (fun x => m2 x.1)) (hk.block _ h3 (fun x => m3 x.1))
def LexPost (s : ByteArray) (R Rx : List Fe → World → Prop) (e : Ending) (W' : World) : Prop :=
  (∃ v, e = .returned v) ∧ ((∃ ys, DoneL s ys ∧ R ys W') ∨ (∃ ys, PartL s ys ∧ Rx ys W'))
set_option maxRecDepth 100000 in
set_option maxHeartbeats 4000000 in
theorem tokens2_in (s : ByteArray) (hs : s.size ≤ 9223372036854775807) (l b1 b2 b3 : Nat) (M : Nat → Prop) (hM1 : ¬ M b1) (hM2 : ¬ M b2) (hM3 : ¬ M b3) (R Rx : List Fe → World → Prop)
    (hRn : ∀ s W W', R s W → Below W.heap.size W W' → R s W')
    (hY : ∀ m pre x W0 W, R pre W0 → Below W0.heap.size W0 W → pre.length < s.size + 1 → YieldAt Fence.wide m Tryz.prog l (feEnc x) W fun e W' => (e = .returned (.bool true) ∧ R (pre ++ [x]) W' ∧ Keep (fun k => M k ∧ k < W0.heap.size) W W') ∨ (e = .returned (.bool false) ∧ Rx (pre ++ [x]) W'))
    (n : Nat) (W : World) (hT : TokBox s W b1 b2 b3) (hb1 : b1 < W.heap.size) (hb2 : b2 < W.heap.size) (hb3 : b3 < W.heap.size) (hR : R [] W) :
    CallsIn Fence.wide n Tryz.prog 223 #[.func (.yield l) #[] #[], .pointer (some ⟨b1, 0, none⟩), .pointer (some ⟨b3, 0, none⟩)] W (LexPost s R Rx) := by
  have hdd : ∀ k : Nat, (Fence.wide.depth.isSome = true → 1 ≤ k) := fun k h => by cases h
  have HY := Lib.hid hY; have HRN := Lib.hid hRn; have HT0 := Lib.hid hT; have HR0 := Lib.hid hR
  clear hY hRn hT hR
  refine callsIn_of_wp Tryz.func223 rfl trivial ?_ rfl
  simp only [Tryz.ntmps223, List.size_toArray, List.length_cons, List.length_nil, Nat.reduceAdd, Nat.reduceSub, Array.replicate_succ, Array.replicate_zero, List.push_toArray, List.append_toArray, List.nil_append, List.cons_append]
  refine wpIn_scope_wide ?_
  gi_wp2_with fail
  refine wpIn_label ?_
  gi_wp2_with fail
  gi_loopw [4] (fun i W' => ∃ (k : Nat) (ys : List Fe), k ≤ s.size ∧ i = .int .i64 k ∧ LexAt s k ys ∧ R ys W' ∧ TokBox s W' b1 b2 b3 ∧ W.heap.size ≤ W'.heap.size) (fun i _ => s.size - (intOf i).toNat)
  case atStart => exact ⟨0, [], Nat.zero_le _, rfl, LexAt.zero s, HR0.out, HT0.out, Nat.le_refl _⟩
  case round =>
    obtain ⟨k, ys, hk, rfl, hlx, hRw, hT, hsz⟩ := hrel
    have hbk1 : b1 < wr.heap.size := by omega
    have hbk2 : b2 < wr.heap.size := by omega
    have hbk3 : b3 < wr.heap.size := by omega
    have hTB : ∀ W', Below wr.heap.size wr W' → TokBox s W' b1 b2 b3 := fun W' h => hT.keep (h.block _ hbk1) (h.block _ hbk2) (h.block _ hbk3)
    have HL := Lib.hid hlx; have HR := Lib.hid hRw; have HTB := Lib.hid hTB
    clear hlx hRw hTB
    have ct := hT.text
    have ca := hT.at_
    clear hT
    by_cases hlt : k < s.size
    · have hki : k ≤ 9223372036854775807 := by omega
      rcases atC_cases s k with h | h | h | h | h | h | h | h | h
      case inr.inl =>
        have hno := HL.out.no hlt (by omega)
        have HNO := Lib.hid hno; have HC := Lib.hid h; clear hno h
        gi_wp2_with ((try refine ⟨trivial, hdd _, ?_⟩); gi_at_call 222; refine (at_in s k b1 b2 _ hki (HTB.out _ ((Below.refl _ _).alloc (Nat.le_refl _) _)).text (HTB.out _ ((Below.refl _ _).alloc (Nat.le_refl _) _)).cls 1 HC.out).mono ?_; rintro e W' ⟨rfl, rfl⟩)
        go_roundw
        case rel => exact ⟨k + 1, ys, by omega, by go_num, HL.out.skip (by omega) HNO.out, HRN.out _ _ _ HR.out ((Below.refl _ _).alloc (Nat.le_refl _) _), HTB.out _ ((Below.refl _ _).alloc (Nat.le_refl _) _), by simp; omega⟩
        case measure => simp [intOf]; omega
      case inr.inr.inl =>
        have hno := HL.out.no hlt (by omega)
        have hne : ¬ s[k].toNat = 10 := fun e => by
          rw [atC_at s hlt, e] at h
          revert h; decide
        have HNO := Lib.hid hno; have HC := Lib.hid h; have HNE := Lib.hid hne; clear hno h hne
        gi_wp2_with ((try refine ⟨trivial, hdd _, ?_⟩); gi_at_call 222; refine (at_in s k b1 b2 _ hki (HTB.out _ ((Below.refl _ _).alloc (Nat.le_refl _) _)).text (HTB.out _ ((Below.refl _ _).alloc (Nat.le_refl _) _)).cls 2 HC.out).mono ?_; rintro e W' ⟨rfl, rfl⟩)
        gi_loop [4] (fun i => ∃ j : Nat, k ≤ j ∧ j ≤ s.size ∧ i = .int .i64 j) (fun i => s.size - (intOf i).toNat)
        case atStart => exact ⟨k, Nat.le_refl _, by omega, rfl⟩
        case round =>
          obtain ⟨j, hj1, hj2, rfl⟩ := hrel
          by_cases hjl : j < s.size
          · cases hb : ((s[j].toNat : Int) != 10) with
            | true =>
              gi_wp2_with fail
              go_round
              case rel => exact ⟨j + 1, by omega, by omega, by go_num⟩
              case measure => simp [intOf]; omega
            | false =>
              have hjk : k < j := by
                rcases Nat.lt_or_ge k j with h | h
                · exact h
                · exfalso
                  obtain rfl : j = k := by omega
                  exact HNE.out (by simp at hb; omega)
              have HJK := Lib.hid hjk; clear hjk
              gi_wp2_with fail
              go_roundw
              case rel => exact ⟨j, ys, hj2, rfl, HL.out.skip hj1 HNO.out, HRN.out _ _ _ HR.out ((Below.refl _ _).alloc (Nat.le_refl _) _), HTB.out _ ((Below.refl _ _).alloc (Nat.le_refl _) _), by simp; omega⟩
              case measure => have := HJK.out; simp [intOf]; omega
          · obtain rfl : j = s.size := by omega
            gi_wp2_with fail
            go_roundw
            case rel => exact ⟨s.size, ys, Nat.le_refl _, rfl, HL.out.skip hj1 HNO.out, HRN.out _ _ _ HR.out ((Below.refl _ _).alloc (Nat.le_refl _) _), HTB.out _ ((Below.refl _ _).alloc (Nat.le_refl _) _), by simp; omega⟩
            case measure => simp [intOf]; omega
      case inr.inr.inr.inl =>
        have hlen := HL.out.1
        have HC := Lib.hid h; clear h
        gi_wp2_with ((try refine ⟨trivial, hdd _, ?_⟩); gi_at_call 222; refine (at_in s k b1 b2 _ hki (HTB.out _ ((Below.refl _ _).alloc (Nat.le_refl _) _)).text (HTB.out _ ((Below.refl _ _).alloc (Nat.le_refl _) _)).cls 3 HC.out).mono ?_; rintro e W' ⟨rfl, rfl⟩)
        gi_loop [4, 7] (fun i c => ∃ j : Nat, k ≤ j ∧ j ≤ s.size ∧ i = .int .i64 j ∧ c = .int .u8 (atC s j) ∧ ∀ m, k ≤ m → m < j → wordC (atC s m) = true) (fun i _ => s.size - (intOf i).toNat)
        case atStart => exact ⟨k, Nat.le_refl _, by omega, rfl, by rw [HC.out], fun m h1 h2 => by omega⟩
        case round =>
          obtain ⟨j, hj1, hj2, rfl, rfl, hall⟩ := hrel
          have HALL := Lib.hid hall; clear hall
          cases hwd : wordC (atC s j) with
          | true =>
            have hjl : j < s.size := by
              rcases Nat.lt_or_ge j s.size with h | h
              · exact h
              · rw [atC_end s h] at hwd; cases hwd
            have hj3 : j + 1 ≤ 9223372036854775807 := by omega
            have hnx : ∀ m, k ≤ m → m < j + 1 → wordC (atC s m) = true := fun m h1 h2 => by
              by_cases e : m = j
              · subst e; exact hwd
              · exact HALL.out m h1 (by omega)
            have HNX := Lib.hid hnx; clear hnx
            unfold wordC at hwd
            generalize hcj : atC s j = c at *
            have HCJ := Lib.hid hcj; clear hcj
            cases e3 : (c == 3) <;> cases e4 : (c == 4) <;> cases e5 : (c == 5) <;> simp [e3, e4, e5] at hwd <;> (try (exfalso; simp at e3 e4 e5; omega)) <;> clear hwd
            all_goals
              gi_wp2_with ((try refine ⟨trivial, hdd _, ?_⟩); gi_at_call 222; refine (at_in s (j + 1) b1 b2 _ hj3 (HTB.out _ ((Below.refl _ _).alloc (Nat.le_refl _) _)).text (HTB.out _ ((Below.refl _ _).alloc (Nat.le_refl _) _)).cls (atC s (j + 1)) rfl).mono ?_; rintro e W' ⟨rfl, rfl⟩)
              go_round
              case rel => exact ⟨j + 1, by omega, by omega, by go_num, rfl, HNX.out⟩
              case measure => simp [intOf]; omega
          | false =>
            have hjk : k < j := by
              rcases Nat.lt_or_ge k j with h | h
              · exact h
              · exfalso
                obtain rfl : j = k := by omega
                rw [HC.out, wordC_3] at hwd; cases hwd
            have hw : WordTo s k j := ⟨hjk, hj2, HC.out, HALL.out, hwd⟩
            have HWT := Lib.hid hw; clear hw hjk
            unfold wordC at hwd
            generalize hcj : atC s j = c at *
            have HCJ := Lib.hid hcj; clear hcj
            simp only [Bool.or_eq_false_iff] at hwd
            obtain ⟨⟨e3, e4⟩, e5⟩ := hwd
            by_cases hl : j - k ≤ 24
            · have hd24 : decide ((24 : Int) < (j : Int) - (k : Int)) = false := by simp; omega
              have hYx := HY.out (n - 1) ys (wordFe HWT.out hl) wr (wr.alloc (.cells #[.int .i64 1, .string (s.extract k j), .int .i64 0, .int .i64 k, .int .i64 0] 250)) HR.out ((Below.refl _ _).alloc (Nat.le_refl _) _) (by omega)
              have hnx := HWT.out.next HL.out hl
              have hpt := HWT.out.part HL.out hl
              rw [show feEnc (wordFe HWT.out hl) = #[.agg #[.int .i64 1, .string (s.extract k j), .int .i64 0, .int .i64 k, .int .i64 0]] from rfl] at hYx
              obtain ⟨fn, tmps, assign, body, hy, hRd⟩ := hYx
              have HNX := Lib.hid hnx; have HPT := Lib.hid hpt; have HRD := Lib.hid hRd
              clear hnx hpt hRd
              gi_wp2_with ((try refine ⟨hdd _, ?_⟩); refine HRD.out.mono ?_; clear HRD; rintro e W5 (⟨rfl, hR5, hk5⟩ | ⟨rfl, hx5⟩); try have hcx : W5.cell? ⟨wr.heap.size, 4, none⟩ = some (.int .i64 0) := (hk5.cell (p := ⟨wr.heap.size, 4, none⟩) (by simp) (fun h => absurd h.2 (Nat.lt_irrefl _))).trans (by simp))
              · refine ⟨⟨j, _, hj2, rfl, HNX.out, hR5, (HTB.out _ ((Below.refl _ _).alloc (Nat.le_refl _) _)).kept hk5 (by simp; omega) (by simp; omega) (by simp; omega) hM1 hM2 hM3, ?_⟩, ?_⟩
                · have := hk5.size; simp at this; omega
                · have := HWT.out.lt; simp [intOf]; omega
              · rw [Exit.noGoto_ret]
                go_end0
                exact ⟨⟨_, rfl⟩, .inr ⟨_, HPT.out, hx5⟩⟩
            · have hd24 : decide ((24 : Int) < (j : Int) - (k : Int)) = true := by simp; omega
              have hno := HWT.out.long HL.out (by omega)
              have hYx := HY.out (n - 1) ys (badFe 1 (s.extract k j) 0 k 2 (by decide)) wr (wr.alloc (.cells #[.int .i64 1, .string (s.extract k j), .int .i64 0, .int .i64 k, .int .i64 2] 250)) HR.out ((Below.refl _ _).alloc (Nat.le_refl _) _) (by omega)
              rw [show feEnc (badFe 1 (s.extract k j) 0 k 2 (by decide)) = #[.agg #[.int .i64 1, .string (s.extract k j), .int .i64 0, .int .i64 k, .int .i64 2]] from rfl] at hYx
              obtain ⟨fn, tmps, assign, body, hy, hRd⟩ := hYx
              have HNO := Lib.hid hno; have HRD := Lib.hid hRd
              clear hno hRd
              gi_wp2_with ((try refine ⟨hdd _, ?_⟩); refine HRD.out.mono ?_; clear HRD; rintro e W5 (⟨rfl, hR5, hk5⟩ | ⟨rfl, hx5⟩); try have hcx : W5.cell? ⟨wr.heap.size, 4, none⟩ = some (.int .i64 2) := (hk5.cell (p := ⟨wr.heap.size, 4, none⟩) (by simp) (fun h => absurd h.2 (Nat.lt_irrefl _))).trans (by simp))
              · rw [Exit.noGoto_ret]
                go_end0
                exact ⟨⟨_, rfl⟩, .inl ⟨_, DoneL.of_no HNO.out _, hR5⟩⟩
              · rw [Exit.noGoto_ret]
                go_end0
                exact ⟨⟨_, rfl⟩, .inr ⟨_, PartL.of_no HNO.out _, hx5⟩⟩
      case inl =>
        have hlen := HL.out.1
        have hno := HL.out.no hlt (by omega)
        have HNO := Lib.hid hno; have HC := Lib.hid h; clear hno h
        have hYx := HY.out (n - 1) ys (badFe 0 (ByteArray.empty) 0 k 3 (by decide)) wr (wr.alloc (.cells #[.int .i64 0, .string (ByteArray.empty), .int .i64 0, .int .i64 k, .int .i64 3] 250)) HR.out ((Below.refl _ _).alloc (Nat.le_refl _) _) (by omega)
        rw [show feEnc (badFe 0 (ByteArray.empty) 0 k 3 (by decide)) = #[.agg #[.int .i64 0, .string (ByteArray.empty), .int .i64 0, .int .i64 k, .int .i64 3]] from rfl] at hYx
        obtain ⟨fn, tmps, assign, body, hy, hRd⟩ := hYx
        have HRD := Lib.hid hRd; clear hRd
        gi_wp2_with (first | ((try refine ⟨trivial, hdd _, ?_⟩); gi_at_call 222; refine (at_in s k b1 b2 _ hki (HTB.out _ ((Below.refl _ _).alloc (Nat.le_refl _) _)).text (HTB.out _ ((Below.refl _ _).alloc (Nat.le_refl _) _)).cls _ HC.out).mono ?_; rintro e W' ⟨rfl, rfl⟩) | ((try refine ⟨hdd _, ?_⟩); refine HRD.out.mono ?_; clear HRD; rintro e W5 (⟨rfl, hR5, hk5⟩ | ⟨rfl, hx5⟩); try have hcx : W5.cell? ⟨wr.heap.size, 4, none⟩ = some (.int .i64 3) := (hk5.cell (p := ⟨wr.heap.size, 4, none⟩) (by simp) (fun h => absurd h.2 (Nat.lt_irrefl _))).trans (by simp)))
        · rw [Exit.noGoto_ret]; go_end0
          exact ⟨⟨_, rfl⟩, .inl ⟨_, DoneL.of_no HNO.out _, hR5⟩⟩
        · rw [Exit.noGoto_ret]; go_end0
          exact ⟨⟨_, rfl⟩, .inr ⟨_, PartL.of_no HNO.out _, hx5⟩⟩
      case inr.inr.inr.inr.inr.inl =>
        have hlen := HL.out.1
        have hno := HL.out.no hlt (by omega)
        have HNO := Lib.hid hno; have HC := Lib.hid h; clear hno h
        have hYx := HY.out (n - 1) ys (badFe 0 (ByteArray.empty) 0 k 3 (by decide)) wr (wr.alloc (.cells #[.int .i64 0, .string (ByteArray.empty), .int .i64 0, .int .i64 k, .int .i64 3] 250)) HR.out ((Below.refl _ _).alloc (Nat.le_refl _) _) (by omega)
        rw [show feEnc (badFe 0 (ByteArray.empty) 0 k 3 (by decide)) = #[.agg #[.int .i64 0, .string (ByteArray.empty), .int .i64 0, .int .i64 k, .int .i64 3]] from rfl] at hYx
        obtain ⟨fn, tmps, assign, body, hy, hRd⟩ := hYx
        have HRD := Lib.hid hRd; clear hRd
        gi_wp2_with (first | ((try refine ⟨trivial, hdd _, ?_⟩); gi_at_call 222; refine (at_in s k b1 b2 _ hki (HTB.out _ ((Below.refl _ _).alloc (Nat.le_refl _) _)).text (HTB.out _ ((Below.refl _ _).alloc (Nat.le_refl _) _)).cls _ HC.out).mono ?_; rintro e W' ⟨rfl, rfl⟩) | ((try refine ⟨hdd _, ?_⟩); refine HRD.out.mono ?_; clear HRD; rintro e W5 (⟨rfl, hR5, hk5⟩ | ⟨rfl, hx5⟩); try have hcx : W5.cell? ⟨wr.heap.size, 4, none⟩ = some (.int .i64 3) := (hk5.cell (p := ⟨wr.heap.size, 4, none⟩) (by simp) (fun h => absurd h.2 (Nat.lt_irrefl _))).trans (by simp)))
        · rw [Exit.noGoto_ret]; go_end0
          exact ⟨⟨_, rfl⟩, .inl ⟨_, DoneL.of_no HNO.out _, hR5⟩⟩
        · rw [Exit.noGoto_ret]; go_end0
          exact ⟨⟨_, rfl⟩, .inr ⟨_, PartL.of_no HNO.out _, hx5⟩⟩
      case inr.inr.inr.inr.inr.inr.inl =>
        have hlen := HL.out.1
        have hno := HL.out.no hlt (by omega)
        have HNO := Lib.hid hno; have HC := Lib.hid h; clear hno h
        have hcut := fun W => cut_run s k (k + 1) ((k : Int) + 1) (by omega) (by omega) (by omega) W
        have hYx := HY.out (n - 1) ys (otherFe 3 (s.extract k (k + 1)) 0 k 0 (by decide)) wr (wr.alloc (.cells #[.int .i64 3, .string (s.extract k (k + 1)), .int .i64 0, .int .i64 k, .int .i64 0] 250)) HR.out ((Below.refl _ _).alloc (Nat.le_refl _) _) (by omega)
        rw [show feEnc (otherFe 3 (s.extract k (k + 1)) 0 k 0 (by decide)) = #[.agg #[.int .i64 3, .string (s.extract k (k + 1)), .int .i64 0, .int .i64 k, .int .i64 0]] from rfl] at hYx
        obtain ⟨fn, tmps, assign, body, hy, hRd⟩ := hYx
        have HRD := Lib.hid hRd; clear hRd
        gi_wp2_with (first | ((try refine ⟨trivial, hdd _, ?_⟩); gi_at_call 222; refine (at_in s k b1 b2 _ hki (HTB.out _ ((Below.refl _ _).alloc (Nat.le_refl _) _)).text (HTB.out _ ((Below.refl _ _).alloc (Nat.le_refl _) _)).cls _ HC.out).mono ?_; rintro e W' ⟨rfl, rfl⟩) | ((try refine ⟨hdd _, ?_⟩); refine HRD.out.mono ?_; clear HRD; rintro e W5 (⟨rfl, hR5, hk5⟩ | ⟨rfl, hx5⟩); try have hcx : W5.cell? ⟨wr.heap.size, 4, none⟩ = some (.int .i64 0) := (hk5.cell (p := ⟨wr.heap.size, 4, none⟩) (by simp) (fun h => absurd h.2 (Nat.lt_irrefl _))).trans (by simp)))
        · refine ⟨⟨k + 1, _, by omega, rfl, HL.out.push (by omega) HNO.out _, hR5, (HTB.out _ ((Below.refl _ _).alloc (Nat.le_refl _) _)).kept hk5 (by simp; omega) (by simp; omega) (by simp; omega) hM1 hM2 hM3, ?_⟩, ?_⟩
          · have := hk5.size; simp at this; omega
          · simp [intOf]; omega
        · rw [Exit.noGoto_ret]; go_end0
          exact ⟨⟨_, rfl⟩, .inr ⟨_, PartL.of_no HNO.out _, hx5⟩⟩
      case inr.inr.inr.inr.inr.inr.inr.inl =>
        have hlen := HL.out.1
        have hno := HL.out.no hlt (by omega)
        have HNO := Lib.hid hno; have HC := Lib.hid h; clear hno h
        by_cases hk1 : k + 1 < s.size
        · have hkd : decide ((k : Int) + 1 < (s.size : Int)) = true := by simp; omega
          cases hb : ((s[k + 1].toNat : Int) == 61) with
          | true =>
            have hcut := fun W => cut_run s k (k + 2) ((k : Int) + 1 + 1) (by omega) (by omega) (by omega) W
            have hYx := HY.out (n - 1) ys (otherFe 3 (s.extract k (k + 2)) 0 k 0 (by decide)) wr (wr.alloc (.cells #[.int .i64 3, .string (s.extract k (k + 2)), .int .i64 0, .int .i64 k, .int .i64 0] 250)) HR.out ((Below.refl _ _).alloc (Nat.le_refl _) _) (by omega)
            rw [show feEnc (otherFe 3 (s.extract k (k + 2)) 0 k 0 (by decide)) = #[.agg #[.int .i64 3, .string (s.extract k (k + 2)), .int .i64 0, .int .i64 k, .int .i64 0]] from rfl] at hYx
            obtain ⟨fn, tmps, assign, body, hy, hRd⟩ := hYx
            have HRD := Lib.hid hRd; clear hRd
            gi_wp2_with (first | ((try refine ⟨trivial, hdd _, ?_⟩); gi_at_call 222; refine (at_in s k b1 b2 _ hki (HTB.out _ ((Below.refl _ _).alloc (Nat.le_refl _) _)).text (HTB.out _ ((Below.refl _ _).alloc (Nat.le_refl _) _)).cls _ HC.out).mono ?_; rintro e W' ⟨rfl, rfl⟩) | ((try refine ⟨hdd _, ?_⟩); refine HRD.out.mono ?_; clear HRD; rintro e W5 (⟨rfl, hR5, hk5⟩ | ⟨rfl, hx5⟩); try have hcx : W5.cell? ⟨wr.heap.size, 4, none⟩ = some (.int .i64 0) := (hk5.cell (p := ⟨wr.heap.size, 4, none⟩) (by simp) (fun h => absurd h.2 (Nat.lt_irrefl _))).trans (by simp)))
            · refine ⟨⟨k + 2, _, by omega, rfl, HL.out.push (by omega) HNO.out _, hR5, (HTB.out _ ((Below.refl _ _).alloc (Nat.le_refl _) _)).kept hk5 (by simp; omega) (by simp; omega) (by simp; omega) hM1 hM2 hM3, ?_⟩, ?_⟩
              · have := hk5.size; simp at this; omega
              · simp [intOf]; omega
            · rw [Exit.noGoto_ret]; go_end0
              exact ⟨⟨_, rfl⟩, .inr ⟨_, PartL.of_no HNO.out _, hx5⟩⟩
          | false =>
            have hcut := fun W => cut_run s k (k + 1) ((k : Int) + 1) (by omega) (by omega) (by omega) W
            have hYx := HY.out (n - 1) ys (otherFe 3 (s.extract k (k + 1)) 0 k 0 (by decide)) wr (wr.alloc (.cells #[.int .i64 3, .string (s.extract k (k + 1)), .int .i64 0, .int .i64 k, .int .i64 0] 250)) HR.out ((Below.refl _ _).alloc (Nat.le_refl _) _) (by omega)
            rw [show feEnc (otherFe 3 (s.extract k (k + 1)) 0 k 0 (by decide)) = #[.agg #[.int .i64 3, .string (s.extract k (k + 1)), .int .i64 0, .int .i64 k, .int .i64 0]] from rfl] at hYx
            obtain ⟨fn, tmps, assign, body, hy, hRd⟩ := hYx
            have HRD := Lib.hid hRd; clear hRd
            gi_wp2_with (first | ((try refine ⟨trivial, hdd _, ?_⟩); gi_at_call 222; refine (at_in s k b1 b2 _ hki (HTB.out _ ((Below.refl _ _).alloc (Nat.le_refl _) _)).text (HTB.out _ ((Below.refl _ _).alloc (Nat.le_refl _) _)).cls _ HC.out).mono ?_; rintro e W' ⟨rfl, rfl⟩) | ((try refine ⟨hdd _, ?_⟩); refine HRD.out.mono ?_; clear HRD; rintro e W5 (⟨rfl, hR5, hk5⟩ | ⟨rfl, hx5⟩); try have hcx : W5.cell? ⟨wr.heap.size, 4, none⟩ = some (.int .i64 0) := (hk5.cell (p := ⟨wr.heap.size, 4, none⟩) (by simp) (fun h => absurd h.2 (Nat.lt_irrefl _))).trans (by simp)))
            · refine ⟨⟨k + 1, _, by omega, rfl, HL.out.push (by omega) HNO.out _, hR5, (HTB.out _ ((Below.refl _ _).alloc (Nat.le_refl _) _)).kept hk5 (by simp; omega) (by simp; omega) (by simp; omega) hM1 hM2 hM3, ?_⟩, ?_⟩
              · have := hk5.size; simp at this; omega
              · simp [intOf]; omega
            · rw [Exit.noGoto_ret]; go_end0
              exact ⟨⟨_, rfl⟩, .inr ⟨_, PartL.of_no HNO.out _, hx5⟩⟩
        · have hkd : decide ((k : Int) + 1 < (s.size : Int)) = false := by simp; omega
          have hcut := fun W => cut_run s k (k + 1) ((k : Int) + 1) (by omega) (by omega) (by omega) W
          have hYx := HY.out (n - 1) ys (otherFe 3 (s.extract k (k + 1)) 0 k 0 (by decide)) wr (wr.alloc (.cells #[.int .i64 3, .string (s.extract k (k + 1)), .int .i64 0, .int .i64 k, .int .i64 0] 250)) HR.out ((Below.refl _ _).alloc (Nat.le_refl _) _) (by omega)
          rw [show feEnc (otherFe 3 (s.extract k (k + 1)) 0 k 0 (by decide)) = #[.agg #[.int .i64 3, .string (s.extract k (k + 1)), .int .i64 0, .int .i64 k, .int .i64 0]] from rfl] at hYx
          obtain ⟨fn, tmps, assign, body, hy, hRd⟩ := hYx
          have HRD := Lib.hid hRd; clear hRd
          gi_wp2_with (first | ((try refine ⟨trivial, hdd _, ?_⟩); gi_at_call 222; refine (at_in s k b1 b2 _ hki (HTB.out _ ((Below.refl _ _).alloc (Nat.le_refl _) _)).text (HTB.out _ ((Below.refl _ _).alloc (Nat.le_refl _) _)).cls _ HC.out).mono ?_; rintro e W' ⟨rfl, rfl⟩) | ((try refine ⟨hdd _, ?_⟩); refine HRD.out.mono ?_; clear HRD; rintro e W5 (⟨rfl, hR5, hk5⟩ | ⟨rfl, hx5⟩); try have hcx : W5.cell? ⟨wr.heap.size, 4, none⟩ = some (.int .i64 0) := (hk5.cell (p := ⟨wr.heap.size, 4, none⟩) (by simp) (fun h => absurd h.2 (Nat.lt_irrefl _))).trans (by simp)))
          · refine ⟨⟨k + 1, _, by omega, rfl, HL.out.push (by omega) HNO.out _, hR5, (HTB.out _ ((Below.refl _ _).alloc (Nat.le_refl _) _)).kept hk5 (by simp; omega) (by simp; omega) (by simp; omega) hM1 hM2 hM3, ?_⟩, ?_⟩
            · have := hk5.size; simp at this; omega
            · simp [intOf]; omega
          · rw [Exit.noGoto_ret]; go_end0
            exact ⟨⟨_, rfl⟩, .inr ⟨_, PartL.of_no HNO.out _, hx5⟩⟩
      case inr.inr.inr.inr.inr.inr.inr.inr =>
        have hlen := HL.out.1
        have hno := HL.out.no hlt (by omega)
        have HNO := Lib.hid hno; have HC := Lib.hid h; clear hno h
        by_cases hk1 : k + 1 < s.size
        · have hkd : decide ((k : Int) + 1 < (s.size : Int)) = true := by simp; omega
          cases hb : ((s[k + 1].toNat : Int) == 61) with
          | true =>
            have hcut := fun W => cut_run s k (k + 2) ((k : Int) + 1 + 1) (by omega) (by omega) (by omega) W
            have hYx := HY.out (n - 1) ys (otherFe 3 (s.extract k (k + 2)) 0 k 0 (by decide)) wr (wr.alloc (.cells #[.int .i64 3, .string (s.extract k (k + 2)), .int .i64 0, .int .i64 k, .int .i64 0] 250)) HR.out ((Below.refl _ _).alloc (Nat.le_refl _) _) (by omega)
            rw [show feEnc (otherFe 3 (s.extract k (k + 2)) 0 k 0 (by decide)) = #[.agg #[.int .i64 3, .string (s.extract k (k + 2)), .int .i64 0, .int .i64 k, .int .i64 0]] from rfl] at hYx
            obtain ⟨fn, tmps, assign, body, hy, hRd⟩ := hYx
            have HRD := Lib.hid hRd; clear hRd
            gi_wp2_with (first | ((try refine ⟨trivial, hdd _, ?_⟩); gi_at_call 222; refine (at_in s k b1 b2 _ hki (HTB.out _ ((Below.refl _ _).alloc (Nat.le_refl _) _)).text (HTB.out _ ((Below.refl _ _).alloc (Nat.le_refl _) _)).cls _ HC.out).mono ?_; rintro e W' ⟨rfl, rfl⟩) | ((try refine ⟨hdd _, ?_⟩); refine HRD.out.mono ?_; clear HRD; rintro e W5 (⟨rfl, hR5, hk5⟩ | ⟨rfl, hx5⟩); try have hcx : W5.cell? ⟨wr.heap.size, 4, none⟩ = some (.int .i64 0) := (hk5.cell (p := ⟨wr.heap.size, 4, none⟩) (by simp) (fun h => absurd h.2 (Nat.lt_irrefl _))).trans (by simp)))
            · refine ⟨⟨k + 2, _, by omega, rfl, HL.out.push (by omega) HNO.out _, hR5, (HTB.out _ ((Below.refl _ _).alloc (Nat.le_refl _) _)).kept hk5 (by simp; omega) (by simp; omega) (by simp; omega) hM1 hM2 hM3, ?_⟩, ?_⟩
              · have := hk5.size; simp at this; omega
              · simp [intOf]; omega
            · rw [Exit.noGoto_ret]; go_end0
              exact ⟨⟨_, rfl⟩, .inr ⟨_, PartL.of_no HNO.out _, hx5⟩⟩
          | false =>
            have hcut := fun W => cut_run s k (k + 1) ((k : Int) + 1) (by omega) (by omega) (by omega) W
            have hYx := HY.out (n - 1) ys (badFe 3 (s.extract k (k + 1)) 0 k 3 (by decide)) wr (wr.alloc (.cells #[.int .i64 3, .string (s.extract k (k + 1)), .int .i64 0, .int .i64 k, .int .i64 3] 250)) HR.out ((Below.refl _ _).alloc (Nat.le_refl _) _) (by omega)
            rw [show feEnc (badFe 3 (s.extract k (k + 1)) 0 k 3 (by decide)) = #[.agg #[.int .i64 3, .string (s.extract k (k + 1)), .int .i64 0, .int .i64 k, .int .i64 3]] from rfl] at hYx
            obtain ⟨fn, tmps, assign, body, hy, hRd⟩ := hYx
            have HRD := Lib.hid hRd; clear hRd
            gi_wp2_with (first | ((try refine ⟨trivial, hdd _, ?_⟩); gi_at_call 222; refine (at_in s k b1 b2 _ hki (HTB.out _ ((Below.refl _ _).alloc (Nat.le_refl _) _)).text (HTB.out _ ((Below.refl _ _).alloc (Nat.le_refl _) _)).cls _ HC.out).mono ?_; rintro e W' ⟨rfl, rfl⟩) | ((try refine ⟨hdd _, ?_⟩); refine HRD.out.mono ?_; clear HRD; rintro e W5 (⟨rfl, hR5, hk5⟩ | ⟨rfl, hx5⟩); try have hcx : W5.cell? ⟨wr.heap.size, 4, none⟩ = some (.int .i64 3) := (hk5.cell (p := ⟨wr.heap.size, 4, none⟩) (by simp) (fun h => absurd h.2 (Nat.lt_irrefl _))).trans (by simp)))
            · rw [Exit.noGoto_ret]; go_end0
              exact ⟨⟨_, rfl⟩, .inl ⟨_, DoneL.of_no HNO.out _, hR5⟩⟩
            · rw [Exit.noGoto_ret]; go_end0
              exact ⟨⟨_, rfl⟩, .inr ⟨_, PartL.of_no HNO.out _, hx5⟩⟩
        · have hkd : decide ((k : Int) + 1 < (s.size : Int)) = false := by simp; omega
          have hcut := fun W => cut_run s k (k + 1) ((k : Int) + 1) (by omega) (by omega) (by omega) W
          have hYx := HY.out (n - 1) ys (badFe 3 (s.extract k (k + 1)) 0 k 3 (by decide)) wr (wr.alloc (.cells #[.int .i64 3, .string (s.extract k (k + 1)), .int .i64 0, .int .i64 k, .int .i64 3] 250)) HR.out ((Below.refl _ _).alloc (Nat.le_refl _) _) (by omega)
          rw [show feEnc (badFe 3 (s.extract k (k + 1)) 0 k 3 (by decide)) = #[.agg #[.int .i64 3, .string (s.extract k (k + 1)), .int .i64 0, .int .i64 k, .int .i64 3]] from rfl] at hYx
          obtain ⟨fn, tmps, assign, body, hy, hRd⟩ := hYx
          have HRD := Lib.hid hRd; clear hRd
          gi_wp2_with (first | ((try refine ⟨trivial, hdd _, ?_⟩); gi_at_call 222; refine (at_in s k b1 b2 _ hki (HTB.out _ ((Below.refl _ _).alloc (Nat.le_refl _) _)).text (HTB.out _ ((Below.refl _ _).alloc (Nat.le_refl _) _)).cls _ HC.out).mono ?_; rintro e W' ⟨rfl, rfl⟩) | ((try refine ⟨hdd _, ?_⟩); refine HRD.out.mono ?_; clear HRD; rintro e W5 (⟨rfl, hR5, hk5⟩ | ⟨rfl, hx5⟩); try have hcx : W5.cell? ⟨wr.heap.size, 4, none⟩ = some (.int .i64 3) := (hk5.cell (p := ⟨wr.heap.size, 4, none⟩) (by simp) (fun h => absurd h.2 (Nat.lt_irrefl _))).trans (by simp)))
          · rw [Exit.noGoto_ret]; go_end0
            exact ⟨⟨_, rfl⟩, .inl ⟨_, DoneL.of_no HNO.out _, hR5⟩⟩
          · rw [Exit.noGoto_ret]; go_end0
            exact ⟨⟨_, rfl⟩, .inr ⟨_, PartL.of_no HNO.out _, hx5⟩⟩
      case inr.inr.inr.inr.inl =>
        have hlen := HL.out.1
        have hno := HL.out.no hlt (by omega)
        have HNO := Lib.hid hno; have HC := Lib.hid h; clear hno h
        gi_wp2_with ((try refine ⟨trivial, hdd _, ?_⟩); gi_at_call 222; refine (at_in s k b1 b2 _ hki (HTB.out _ ((Below.refl _ _).alloc (Nat.le_refl _) _)).text (HTB.out _ ((Below.refl _ _).alloc (Nat.le_refl _) _)).cls 4 HC.out).mono ?_; rintro e W' ⟨rfl, rfl⟩)
        gi_loop [4] (fun i => ∃ j : Nat, k ≤ j ∧ j ≤ s.size ∧ i = .int .i64 j ∧ ∀ m, k ≤ m → m < j → atC s m = 4) (fun i => s.size - (intOf i).toNat)
        case atStart => exact ⟨k, Nat.le_refl _, by omega, rfl, fun m h1 h2 => by omega⟩
        case round =>
          obtain ⟨j, hj1, hj2, rfl, hall⟩ := hrel
          have HALL := Lib.hid hall; clear hall
          have hji : j ≤ 9223372036854775807 := by omega
          by_cases h4 : atC s j = 4
          · have hjl : j < s.size := by
              rcases Nat.lt_or_ge j s.size with h | h
              · exact h
              · rw [atC_end s h] at h4; cases h4
            have hnx : ∀ m, k ≤ m → m < j + 1 → atC s m = 4 := fun m h1 h2 => by
              by_cases e : m = j
              · subst e; exact h4
              · exact HALL.out m h1 (by omega)
            have HNX := Lib.hid hnx; have H4 := Lib.hid h4; clear hnx h4
            gi_wp2_with ((try refine ⟨trivial, hdd _, ?_⟩); gi_at_call 222; refine (at_in s j b1 b2 _ hji (HTB.out _ ((Below.refl _ _).alloc (Nat.le_refl _) _)).text (HTB.out _ ((Below.refl _ _).alloc (Nat.le_refl _) _)).cls 4 H4.out).mono ?_; rintro e W' ⟨rfl, rfl⟩)
            go_round
            case rel => exact ⟨j + 1, by omega, by omega, by go_num, HNX.out⟩
            case measure => simp [intOf]; omega
          · have hjk : k < j := by
              rcases Nat.lt_or_ge k j with h | h
              · exact h
              · exfalso
                obtain rfl : j = k := by omega
                exact h4 HC.out
            obtain ⟨v, hv⟩ := atoi_sub s hjk hj2 HALL.out
            have hsub : (s.extract k j).size = j - k := by rw [ByteArray.size_extract]; omega
            generalize hcj : atC s j = c at *
            have HCJ := Lib.hid hcj
            have e4 : (c == 4) = false := by rw [beq_eq_false_iff_ne]; exact h4
            have HV := Lib.hid hv; have HSUB := Lib.hid hsub; have HJK := Lib.hid hjk; clear hcj h4 hv hsub hjk
            cases b7 : decide ((7 : Int) < (j : Int) - (k : Int)) with
            | true =>
              have hYx := HY.out (n - 1) ys (badFe 2 (s.extract k j) 0 k 4 (by decide)) wr (wr.alloc (.cells #[.int .i64 2, .string (s.extract k j), .int .i64 0, .int .i64 k, .int .i64 4] 250)) HR.out ((Below.refl _ _).alloc (Nat.le_refl _) _) (by omega)
              rw [show feEnc (badFe 2 (s.extract k j) 0 k 4 (by decide)) = #[.agg #[.int .i64 2, .string (s.extract k j), .int .i64 0, .int .i64 k, .int .i64 4]] from rfl] at hYx
              obtain ⟨fn, tmps, assign, body, hy, hRd⟩ := hYx
              have HRD := Lib.hid hRd; clear hRd
              gi_wp2_with (first | ((try refine ⟨trivial, hdd _, ?_⟩); gi_at_call 222; refine (at_in s j b1 b2 _ hji (HTB.out _ ((Below.refl _ _).alloc (Nat.le_refl _) _)).text (HTB.out _ ((Below.refl _ _).alloc (Nat.le_refl _) _)).cls c HCJ.out).mono ?_; rintro e W' ⟨rfl, rfl⟩) | ((try refine ⟨hdd _, ?_⟩); refine HRD.out.mono ?_; clear HRD; rintro e W5 (⟨rfl, hR5, hk5⟩ | ⟨rfl, hx5⟩); try have hcx : W5.cell? ⟨wr.heap.size, 4, none⟩ = some (.int .i64 4) := (hk5.cell (p := ⟨wr.heap.size, 4, none⟩) (by simp) (fun h => absurd h.2 (Nat.lt_irrefl _))).trans (by simp)))
              · rw [Exit.noGoto_ret]; go_end0
                exact ⟨⟨_, rfl⟩, .inl ⟨_, DoneL.of_no HNO.out _, hR5⟩⟩
              · rw [Exit.noGoto_ret]; go_end0
                exact ⟨⟨_, rfl⟩, .inr ⟨_, PartL.of_no HNO.out _, hx5⟩⟩
            | false =>
              cases e3 : (c == 3) with
              | true =>
                have hYx := HY.out (n - 1) ys (badFe 2 (s.extract k j) 0 k 4 (by decide)) wr (wr.alloc (.cells #[.int .i64 2, .string (s.extract k j), .int .i64 0, .int .i64 k, .int .i64 4] 250)) HR.out ((Below.refl _ _).alloc (Nat.le_refl _) _) (by omega)
                rw [show feEnc (badFe 2 (s.extract k j) 0 k 4 (by decide)) = #[.agg #[.int .i64 2, .string (s.extract k j), .int .i64 0, .int .i64 k, .int .i64 4]] from rfl] at hYx
                obtain ⟨fn, tmps, assign, body, hy, hRd⟩ := hYx
                have HRD := Lib.hid hRd; clear hRd
                gi_wp2_with (first | ((try refine ⟨trivial, hdd _, ?_⟩); gi_at_call 222; refine (at_in s j b1 b2 _ hji (HTB.out _ ((Below.refl _ _).alloc (Nat.le_refl _) _)).text (HTB.out _ ((Below.refl _ _).alloc (Nat.le_refl _) _)).cls c HCJ.out).mono ?_; rintro e W' ⟨rfl, rfl⟩) | ((try refine ⟨hdd _, ?_⟩); refine HRD.out.mono ?_; clear HRD; rintro e W5 (⟨rfl, hR5, hk5⟩ | ⟨rfl, hx5⟩); try have hcx : W5.cell? ⟨wr.heap.size, 4, none⟩ = some (.int .i64 4) := (hk5.cell (p := ⟨wr.heap.size, 4, none⟩) (by simp) (fun h => absurd h.2 (Nat.lt_irrefl _))).trans (by simp)))
                · rw [Exit.noGoto_ret]; go_end0
                  exact ⟨⟨_, rfl⟩, .inl ⟨_, DoneL.of_no HNO.out _, hR5⟩⟩
                · rw [Exit.noGoto_ret]; go_end0
                  exact ⟨⟨_, rfl⟩, .inr ⟨_, PartL.of_no HNO.out _, hx5⟩⟩
              | false =>
                cases e5 : (c == 5) with
                | true =>
                  have hYx := HY.out (n - 1) ys (badFe 2 (s.extract k j) 0 k 4 (by decide)) wr (wr.alloc (.cells #[.int .i64 2, .string (s.extract k j), .int .i64 0, .int .i64 k, .int .i64 4] 250)) HR.out ((Below.refl _ _).alloc (Nat.le_refl _) _) (by omega)
                  rw [show feEnc (badFe 2 (s.extract k j) 0 k 4 (by decide)) = #[.agg #[.int .i64 2, .string (s.extract k j), .int .i64 0, .int .i64 k, .int .i64 4]] from rfl] at hYx
                  obtain ⟨fn, tmps, assign, body, hy, hRd⟩ := hYx
                  have HRD := Lib.hid hRd; clear hRd
                  gi_wp2_with (first | ((try refine ⟨trivial, hdd _, ?_⟩); gi_at_call 222; refine (at_in s j b1 b2 _ hji (HTB.out _ ((Below.refl _ _).alloc (Nat.le_refl _) _)).text (HTB.out _ ((Below.refl _ _).alloc (Nat.le_refl _) _)).cls c HCJ.out).mono ?_; rintro e W' ⟨rfl, rfl⟩) | ((try refine ⟨hdd _, ?_⟩); refine HRD.out.mono ?_; clear HRD; rintro e W5 (⟨rfl, hR5, hk5⟩ | ⟨rfl, hx5⟩); try have hcx : W5.cell? ⟨wr.heap.size, 4, none⟩ = some (.int .i64 4) := (hk5.cell (p := ⟨wr.heap.size, 4, none⟩) (by simp) (fun h => absurd h.2 (Nat.lt_irrefl _))).trans (by simp)))
                  · rw [Exit.noGoto_ret]; go_end0
                    exact ⟨⟨_, rfl⟩, .inl ⟨_, DoneL.of_no HNO.out _, hR5⟩⟩
                  · rw [Exit.noGoto_ret]; go_end0
                    exact ⟨⟨_, rfl⟩, .inr ⟨_, PartL.of_no HNO.out _, hx5⟩⟩
                | false =>
                  have h18 : (s.extract k j).size ≤ 18 := by rw [HSUB.out]; have := of_decide_eq_false b7; omega
                  have H18 := Lib.hid h18; clear h18
                  have hn1 : b1 ≠ wr.heap.size := by omega
                  gi_wp2_with (first | ((try refine ⟨trivial, hdd _, ?_⟩); gi_at_call 222; refine (at_in s j b1 b2 _ hji (HTB.out _ ((Below.refl _ _).alloc (Nat.le_refl _) _)).text (HTB.out _ ((Below.refl _ _).alloc (Nat.le_refl _) _)).cls c HCJ.out).mono ?_; rintro e W' ⟨rfl, rfl⟩) | ((try refine ⟨trivial, hdd _, ?_⟩); gi_at_call 224; refine (CallsIn.mono (callsIn_wide.2 (Tryz.strconv_Atoi (s.extract k j) v H18.out HV.out _)) ?_); rintro e W4 ⟨rfl, t, hW4⟩; have hb4 : Below (wr.alloc (.cells #[.int .i64 2, .string ⟨#[]⟩, .int .i64 0, .int .i64 k, .int .i64 0] 250)).heap.size (wr.alloc (.cells #[.int .i64 2, .string ⟨#[]⟩, .int .i64 0, .int .i64 k, .int .i64 0] 250)) W4 := (by rw [hW4]; exact Lib.bytesWorld_below _ _ _); clear hW4; have q0 : W4.cell? ⟨wr.heap.size, 0, none⟩ = some (.int .i64 2) := (hb4.cell (p := ⟨wr.heap.size, 0, none⟩) (by simp)).trans (by simp); have q1 : W4.cell? ⟨wr.heap.size, 1, none⟩ = some (.string ⟨#[]⟩) := (hb4.cell (p := ⟨wr.heap.size, 1, none⟩) (by simp)).trans (by simp); have q2 : W4.cell? ⟨wr.heap.size, 2, none⟩ = some (.int .i64 0) := (hb4.cell (p := ⟨wr.heap.size, 2, none⟩) (by simp)).trans (by simp); have q3 : W4.cell? ⟨wr.heap.size, 3, none⟩ = some (.int .i64 k) := (hb4.cell (p := ⟨wr.heap.size, 3, none⟩) (by simp)).trans (by simp); have q4 : W4.cell? ⟨wr.heap.size, 4, none⟩ = some (.int .i64 0) := (hb4.cell (p := ⟨wr.heap.size, 4, none⟩) (by simp)).trans (by simp); have z1 : W4.frozen? ⟨wr.heap.size, 1, none⟩ = false := (hb4.frozen (p := ⟨wr.heap.size, 1, none⟩) (by simp)).trans (row_free (World.alloc_heap_new _ _)); have z2 : W4.frozen? ⟨wr.heap.size, 2, none⟩ = false := (hb4.frozen (p := ⟨wr.heap.size, 2, none⟩) (by simp)).trans (row_free (World.alloc_heap_new _ _)); have qt : W4.cell? ⟨b1, 0, none⟩ = some (.string s) := (hb4.cell (p := ⟨b1, 0, none⟩) (by simp; omega)).trans (cell_alloc ct _)))
                  have hbW : Below wr.heap.size wr ((W4.setCell ⟨wr.heap.size, 2, none⟩ (.int .i64 v)).setCell ⟨wr.heap.size, 1, none⟩ (.string (s.extract k j))) := ((((Below.refl _ _).alloc (Nat.le_refl _) _).trans (hb4.mono (by simp))).setCell (Nat.le_refl _) _).setCell (Nat.le_refl _) _
                  have hYx := HY.out (n - 1) ys (otherFe 2 (s.extract k j) v k 0 (by decide)) wr _ HR.out hbW (by omega)
                  rw [show feEnc (otherFe 2 (s.extract k j) v k 0 (by decide)) = #[.agg #[.int .i64 2, .string (s.extract k j), .int .i64 v, .int .i64 k, .int .i64 0]] from rfl] at hYx
                  obtain ⟨fn, tmps, assign, body, hy, hRd⟩ := hYx
                  have HRD := Lib.hid hRd; clear hRd
                  have hzW : wr.heap.size < ((W4.setCell ⟨wr.heap.size, 2, none⟩ (.int .i64 v)).setCell ⟨wr.heap.size, 1, none⟩ (.string (s.extract k j))).heap.size := by have := hb4.size; simp at this ⊢; omega
                  have hq4 : ((W4.setCell ⟨wr.heap.size, 2, none⟩ (.int .i64 v)).setCell ⟨wr.heap.size, 1, none⟩ (.string (s.extract k j))).cell? ⟨wr.heap.size, 4, none⟩ = some (.int .i64 0) := (cell_set_off _ _ _ _ _ (by decide)).trans ((cell_set_off _ _ _ _ _ (by decide)).trans q4)
                  have HQ4 := Lib.hid hq4; clear hq4
                  have HZW := Lib.hid hzW; have HBW := Lib.hid hbW; clear hzW hbW
                  rw [hy]; clear hy
                  gi_wp2_with ((try refine ⟨hdd _, ?_⟩); refine HRD.out.mono ?_; clear HRD; rintro e W5 (⟨rfl, hR5, hk5⟩ | ⟨rfl, hx5⟩); try have hcx : W5.cell? ⟨wr.heap.size, 4, none⟩ = some (.int .i64 0) := (hk5.cell (p := ⟨wr.heap.size, 4, none⟩) HZW.out (fun h => absurd h.2 (Nat.lt_irrefl _))).trans HQ4.out)
                  · refine ⟨⟨j, _, hj2, rfl, HL.out.push HJK.out HNO.out _, hR5, (HTB.out _ HBW.out).kept hk5 (by have := HZW.out; omega) (by have := HZW.out; omega) (by have := HZW.out; omega) hM1 hM2 hM3, ?_⟩, ?_⟩
                    · have := hk5.size; have := HZW.out; omega
                    · have := HJK.out; simp [intOf]; omega
                  · rw [Exit.noGoto_ret]; go_end0
                    exact ⟨⟨_, rfl⟩, .inr ⟨_, PartL.of_no HNO.out _, hx5⟩⟩
    · obtain rfl : k = s.size := by omega
      gi_wp2_with fail
      rw [noGoto_normal]
      go_end0
      exact ⟨⟨_, rfl⟩, .inl ⟨ys, HL.out.done (Nat.le_refl _), HR.out⟩⟩
end Go.Proofs.YtaigepddkgpplaaGreatDoor.M

