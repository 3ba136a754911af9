/- 'for x := range seq', where the statement before the round lays the round's variable into a block of its own. -/
import Derived.Test.YtaigepddkgpplaaGreatDoorQRange
namespace Go.Proofs.YtaigepddkgpplaaGreatDoor.M
open Go Go.RowKit
set_option linter.unusedVariables false
variable {n : Nat} {P : Program}
theorem wp_range2 {α : Type} {g : Operand} {ps : Array Tmp} {assign body : Code} {Q : Exit → Act → World → Prop} {a : Act} {w : World}
    {gf : Nat} {lb : Array Value} (hg : a.eval g = .func (.func gf) #[] lb) (eg : ∀ args w, (callFunc gf args).run P w = .ok (.enter gf args) w)
    {encs : α → Array Value} (hps : ∀ x, (encs x).size = ps.size) (N : Nat) (M : Nat → Prop) (hML : ¬ M (w.heap.size + 1)) (hMD : ¬ M w.heap.size)
    (J : List α → World → Prop) (Jx : Code → List α → World → Prop)
    (hJk : ∀ s W W', J s W → Keep (fun k => k = w.heap.size + 1) W W' → J s W') (hJxk : ∀ c s W W', Jx c s W → Keep (fun k => k = w.heap.size + 1) W W' → Jx c s W')
    (h0 : ∀ W, Below w.heap.size w W → W.heap.size = w.heap.size + 2 → J [] W) (Asg : α → Act → World → Prop)
    (hAsg : ∀ x A W W', Asg x A W → Keep (fun k => k = w.heap.size + 1) W W' → Asg x A W')
    (hassign : ∀ (x : α) (W : World) (K : Act → World → Prop), w.heap.size + 2 ≤ W.heap.size → (∀ A W', Asg x A W' → Below W.heap.size W W' → K A W') →
      assign.wpIn (Fence.wide.inRound (w.heap.size + 1)) n P (Exit.then K (fun _ _ _ => False)) { tmps := (ps.zip (encs x)).foldl (fun t (p, v) => t.setIfInBounds p v) a.tmps, defers := [] } W)
    (hbody : ∀ (pre : List α) (x : α) (W W1 : World) (A : Act), J pre W → Asg x A W1 → Keep (fun k => k = w.heap.size + 1) W W1 → w.heap.size + 2 ≤ W1.heap.size → pre.length < N → body.wpIn (Fence.wide.inRound (w.heap.size + 1)) n P (leftAs (fun k => M k ∧ k < W.heap.size) J Jx w.heap.size (w.heap.size + 1) (pre ++ [x]) W1) A W1)
    (S Sp : List α → Prop)
    (hiter : ∀ (R Rx : List α → World → Prop), (∀ s W W', R s W → Below W.heap.size W W' → R s W') → (∀ s W W', Rx s W → Below W.heap.size W W' → Rx s W') →
      (∀ pre x W0 W, R pre W0 → Below W0.heap.size W0 W → pre.length < N → YieldAt Fence.wide n P (w.heap.size + 1) (encs x) W fun e W' => (e = .returned (.bool true) ∧ R (pre ++ [x]) W' ∧ Keep (fun k => M k ∧ k < W0.heap.size) W W') ∨ (e = .returned (.bool false) ∧ Rx (pre ++ [x]) W')) →
      ∀ W, R [] W → Below w.heap.size w W → W.heap.size = w.heap.size + 2 →
        CallsIn Fence.wide n P gf (#[.func (.yield (w.heap.size + 1)) #[] #[]] ++ lb) W fun e W' => (∃ v, e = .returned v) ∧ ((∃ xs, S xs ∧ R xs W') ∨ (∃ pre, Sp pre ∧ Rx pre W')))
    (hdone : ∀ (xs : List α) (W : World), S xs → J xs W → W.heap[w.heap.size]? = some (.deferred (some [])) → Q .normal { a with defers := { target := .collected w.heap.size, args := #[] } :: a.defers } W)
    (hstop : ∀ (c : Code) (pre : List α) (W : World), Sp pre → Jx c pre W → W.heap[w.heap.size]? = some (.deferred (some [])) → c.wpIn Fence.wide (n + 1) P Q { a with defers := { target := .collected w.heap.size, args := #[] } :: a.defers } W) :
    (Code.rangeFunc g ps assign body).wpIn Fence.wide (n + 1) P Q a w := by
  refine wpIn_rangeFunc ?_
  intro fn hfn
  obtain ⟨rec, hrec⟩ : ∃ rec : LoopState → Option Code → Loop, rec = fun st pe => { state := st, pending := pe, fn, tmps := a.tmps, params := ps, assign, body, defers := w.heap.size } := ⟨_, rfl⟩
  obtain ⟨W1, hW1⟩ : ∃ W1, (w.alloc (.deferred (some []))).alloc (.loop (rec .ready none)) = W1 := ⟨_, rfl⟩
  have hL1 : W1.heap[w.heap.size + 1]? = some (.loop (rec .ready none)) := by
    rw [← hW1]; have := World.alloc_heap_new (w.alloc (.deferred (some []))) (.loop (rec .ready none)); rwa [World.size_alloc] at this
  have hK1 : W1.heap[w.heap.size]? = some (.deferred (some [])) := by
    rw [← hW1]; exact (Below.heap_alloc _ _ _ (by simp)).trans (World.alloc_heap_new w _)
  have hb1 : Below w.heap.size w W1 := by rw [← hW1]; exact ((Below.refl _ w).alloc (Nat.le_refl _) _).alloc (by simp) _
  have hz1 : W1.heap.size = w.heap.size + 2 := by rw [← hW1]; simp
  refine ⟨w.heap.size + 1, [{ target := .collected w.heap.size, args := #[] }], W1, { target := .fn (.func gf) lb, args := #[.func (.yield (w.heap.size + 1)) #[] #[]] }, W1, gf,
    #[.func (.yield (w.heap.size + 1)) #[] #[]] ++ lb, W1, ?_, ?_, ?_, ?_, fun _ => by omega, ?_⟩
  · rw [← hW1, hrec]; exact run_enterLoop_outer _ _ _ _ _
  · simp only [resolve, hg]
    simp [go_sem]
  · intro f' hf'; trivial
  · simp [invoke, go_sem, eg]
  · refine (hiter
      (fun pre W => J pre W ∧ W.heap[w.heap.size + 1]? = some (.loop (rec .ready none)) ∧ W.heap[w.heap.size]? = some (.deferred (some [])))
      (fun pre W => ∃ c, Jx c pre W ∧ W.heap[w.heap.size + 1]? = some (.loop (rec .done (some c))) ∧ W.heap[w.heap.size]? = some (.deferred (some [])))
      (fun s A B hs hab => ⟨hJk s A B hs.1 (Keep.of_below hab), (hab.block _ (Array.getElem?_eq_some_iff.1 hs.2.1).1).trans hs.2.1, (hab.block _ (Array.getElem?_eq_some_iff.1 hs.2.2).1).trans hs.2.2⟩)
      (fun s A B hs hab => by
        obtain ⟨c, hc, hl, hk⟩ := hs
        exact ⟨c, hJxk c s A B hc (Keep.of_below hab), (hab.block _ (Array.getElem?_eq_some_iff.1 hl).1).trans hl, (hab.block _ (Array.getElem?_eq_some_iff.1 hk).1).trans hk⟩)
      ?_ W1 ⟨h0 W1 hb1 hz1, hL1, hK1⟩ hb1 hz1).mono ?_
    · rintro pre x W0 W ⟨hi, hl0, hk0⟩ hbW hlen
      have hl := (hbW.block _ (Array.getElem?_eq_some_iff.1 hl0).1).trans hl0
      have hk := (hbW.block _ (Array.getElem?_eq_some_iff.1 hk0).1).trans hk0
      have hlt : w.heap.size + 1 < W.heap.size := (Array.getElem?_eq_some_iff.1 hl).1
      have hy := run_yield (P := P) (args := encs x) hl (by rw [hrec]; simp [hps])
      rw [hrec] at hy
      have hsz2 : w.heap.size + 2 ≤ W.heap.size := by omega
      refine ⟨fn, _, assign, body, hy, roundIn_of_wpIn hfn (hassign x W _ hsz2 (fun A W2 hA hbA => ?_))⟩
      have hl' := (hbA.block _ hlt).trans hl
      have hk' := (hbA.block _ (show w.heap.size < W.heap.size by omega)).trans hk
      have hlt' : w.heap.size + 1 < W2.heap.size := Nat.lt_of_lt_of_le hlt hbA.size
      refine ⟨_, run_beginRound hl' (by rw [hrec]), ?_⟩
      have hl2 : (W2.putObj (w.heap.size + 1) (.loop { rec .ready none with state := .busy })).heap[w.heap.size + 1]? = some (.loop { rec .ready none with state := .busy }) := World.putObj_heap_same hlt'
      have hk2 : (W2.putObj (w.heap.size + 1) (.loop { rec .ready none with state := .busy })).heap[w.heap.size]? = some (.deferred (some [])) := (World.putObj_heap_other (by omega)).trans hk'
      refine wpIn_mono (hbody pre x W0 _ A hi (hAsg x A _ _ hA (Keep.putL (Keep.refl _ _) _)) (Keep.putL (Keep.of_below (hbW.trans (hbA.mono hbW.size))) _) (by simp; omega) hlen) ?_
      have fin : ∀ (jump : Option Code) (W3 : World), W3.heap[w.heap.size]? = (W2.putObj (w.heap.size + 1) (.loop { rec .ready none with state := .busy })).heap[w.heap.size]? →
          W3.heap[w.heap.size + 1]? = (W2.putObj (w.heap.size + 1) (.loop { rec .ready none with state := .busy })).heap[w.heap.size + 1]? →
          (Instr.endRound (w.heap.size + 1) jump).run P W3 = .ok (.bool jump.isNone) (W3.putObj (w.heap.size + 1) (.loop (rec (if jump.isNone then .ready else .done) jump))) ∧
          (W3.putObj (w.heap.size + 1) (.loop (rec (if jump.isNone then .ready else .done) jump))).heap[w.heap.size + 1]? = some (.loop (rec (if jump.isNone then .ready else .done) jump)) ∧
          (W3.putObj (w.heap.size + 1) (.loop (rec (if jump.isNone then .ready else .done) jump))).heap[w.heap.size]? = some (.deferred (some [])) := fun jump W3 hd hl' => by
        have hl3 := hl'.trans hl2
        have := run_endRound (P := P) jump hl3
        rw [hrec] at this ⊢
        exact ⟨this, World.putObj_heap_same (Array.getElem?_eq_some_iff.1 hl3).1, (World.putObj_heap_other (by omega)).trans (hd.trans hk2)⟩
      rintro e a3 W3 hp
      cases e with
      | normal =>
        obtain ⟨hk3, hi3⟩ := hp
        obtain ⟨hr, hl4, hk4⟩ := fin none W3 (hk3.block _ (by simp; omega) (fun h => hMD h.1)) (hk3.block _ (by simpa using hlt') (fun h => hML h.1))
        refine ⟨_, _, hr, .inl ⟨rfl, ⟨hJk _ _ _ hi3 (Keep.putL (Keep.refl _ _) _), hl4, hk4⟩, ?_⟩⟩
        refine ⟨hk3.os.trans hbA.os, hk3.tape.trans hbA.tape, hk3.output.trans hbA.output, Nat.le_trans hbA.size (by simpa using hk3.size), fun k hk hm => ?_⟩
        have hkb : k < W2.heap.size := Nat.lt_of_lt_of_le hk hbA.size
        by_cases e : k = w.heap.size + 1
        · subst e
          rw [hl4, hl]; rfl
        · rw [World.putObj_heap_other (by omega), hk3.block k (by simpa using hkb) hm, World.putObj_heap_other (by omega), hbA.block k hk]
      | ret =>
        obtain ⟨⟨hd3, hl3⟩, hi3⟩ := hp
        obtain ⟨hr, hl4, hk4⟩ := fin (some .ret) W3 hd3 hl3
        exact ⟨_, _, hr, .inr ⟨rfl, .ret, hJxk _ _ _ _ hi3 (Keep.putL (Keep.refl _ _) _), hl4, hk4⟩⟩
      | exit id =>
        obtain ⟨⟨hd3, hl3⟩, hi3⟩ := hp
        obtain ⟨hr, hl4, hk4⟩ := fin (some (.exit id)) W3 hd3 hl3
        exact ⟨_, _, hr, .inr ⟨rfl, .exit id, hJxk _ _ _ _ hi3 (Keep.putL (Keep.refl _ _) _), hl4, hk4⟩⟩
      | goto t =>
        obtain ⟨⟨hd3, hl3⟩, hi3⟩ := hp
        obtain ⟨hr, hl4, hk4⟩ := fin (some (.goto t)) W3 hd3 hl3
        exact ⟨_, _, hr, .inr ⟨rfl, .goto t, hJxk _ _ _ _ hi3 (Keep.putL (Keep.refl _ _) _), hl4, hk4⟩⟩
      | panic ch => exact hp.elim
      | outgrown => exact hp.elim
    · rintro e W2 ⟨⟨v, rfl⟩, (⟨xs, hS, hi, hl, hk⟩ | ⟨pre, hSp, c, hi, hl, hk⟩)⟩
      · exact ⟨none, _, by have := run_endLoop (P := P) hl (by rw [hrec]; simp); rw [hrec] at this; exact this, hdone xs _ hS (hJk _ _ _ hi (Keep.putL (Keep.refl _ _) _)) ((World.putObj_heap_other (by omega)).trans hk)⟩
      · exact ⟨some c, _, by have := run_endLoop (P := P) hl (by rw [hrec]; simp); rw [hrec] at this; exact this, hstop c pre _ hSp (hJxk _ _ _ _ hi (Keep.putL (Keep.refl _ _) _)) ((World.putObj_heap_other (by omega)).trans hk)⟩
end Go.Proofs.YtaigepddkgpplaaGreatDoor.M

