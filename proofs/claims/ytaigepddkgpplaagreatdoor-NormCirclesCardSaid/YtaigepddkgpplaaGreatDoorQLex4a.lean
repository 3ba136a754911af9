/- lexer.Lex: what the range keeps. -/
import Derived.Test.YtaigepddkgpplaaGreatDoorQLex3
import Derived.Test.YtaigepddkgpplaaGreatDoorQRange2
import Derived.Maps.OwnIn
namespace Go.Proofs.YtaigepddkgpplaaGreatDoor.M
open Go Go.RowKit Go.Maps Go.WideMaps Go.Proofs.YtaigepddkgpplaaGreatDoorW.PrintWords
set_option linter.unusedVariables false
set_option linter.unusedSimpArgs false

theorem own_of {w w' : World} {base : Nat} {e : TypeId} {size : Nat} {v : Value} {n : Nat} {xs : List Value} (h : w.ownsRow base e size v n xs) (hk : ∀ k, base ≤ k → k < w.heap.size → w'.heap[k]? = w.heap[k]?) : w'.ownsRow base e size v n xs := by
  obtain ⟨hl, h | ⟨g, cap, cur, hv, hb, hg, h1, h2, h3, h4⟩⟩ := h
  · exact ⟨hl, .inl h⟩
  · exact ⟨hl, .inr ⟨g, cap, cur, hv, hb, (hk g hb (Array.getElem?_eq_some_iff.1 hg).1).trans hg, h1, h2, h3, h4⟩⟩

/-- the cells of the tokens -/
def tokCells (ys : List Fe) : List Value := ys.flatMap fun x => [.int .i64 x.1.kind, .string x.1.text, .int .i64 x.1.n, .int .i64 x.1.place]
/-- what Lex hands back, as far as it is told -/
def LexRet (s : ByteArray) (w : World) (e : Ending) (w' : World) : Prop :=
  Below w.heap.size w w' ∧ ∃ (A : Option Addr) (n c : Nat) (err pos : Int), e = .returned (.tuple #[.slice A n c, .int .i64 err, .int .i64 pos]) ∧ n ≤ 9223372036854775807 ∧
    (nameB s = true → err = 0 ∧ n = 1) ∧
    (err = 0 → n = 1 → ∃ g kind text, A = some ⟨g, 0, none⟩ ∧ w'.cell? ⟨g, 0, none⟩ = some (.int .i64 kind) ∧ w'.cell? ⟨g, 1, none⟩ = some (.string text) ∧ (kind = 1 → text = s → nameB s = true) ∧ (nameB s = true → kind = 1 ∧ text = s))

/-- between the rounds: B the first of Lex's own blocks (four of them), Z the heap's size where the range began -/
structure LexJ (w : World) (B Z : Nat) (pre : List Fe) (W : World) : Prop where
  below : Below B w W
  size : Z + 2 ≤ W.heap.size
  lt : B + 3 < Z
  r0 : W.heap[B]? = some (.cells #[.slice none 0 0] 225 (0, 0))
  r1 : W.heap[B + 1]? = some (.cells #[.int .i64 0] 35 (0, 0))
  r2 : W.heap[B + 2]? = some (.cells #[.int .i64 0] 3 (0, 0))
  own : ∃ v, W.heap[B + 3]? = some (.cells #[v] 225 (0, 0)) ∧ W.ownsRow (Z + 2) 229 4 v pre.length (tokCells pre)
  ok : ∀ x ∈ pre, x.1.err = 0
  len : pre.length ≤ 5000
/-- where a round left by 'return' -/
structure LexX (w : World) (B Z : Nat) (pre : List Fe) (W : World) : Prop where
  below : Below B w W
  size : Z + 2 ≤ W.heap.size
  lt : B + 3 < Z
  res : ∃ err pos, err ≠ 0 ∧ W.heap[B]? = some (.cells #[.slice none 0 0] 225 (0, 0)) ∧ W.heap[B + 1]? = some (.cells #[.int .i64 err] 35 (0, 0)) ∧ W.heap[B + 2]? = some (.cells #[.int .i64 pos] 3 (0, 0))
  why : (∃ x ∈ pre, x.1.err ≠ 0) ∨ 5000 < pre.length
theorem LexJ.kept {w : World} {B Z : Nat} {pre : List Fe} {W W' : World} (h : LexJ w B Z pre W) (hk : Keep (fun k => k = Z + 1) W W') : LexJ w B Z pre W' := by
  have hz := h.size; have hlt := h.lt
  have hb : ∀ k, k < W.heap.size → k ≠ Z + 1 → W'.heap[k]? = W.heap[k]? := fun k h1 h2 => hk.block k h1 h2
  obtain ⟨v, hv, ho⟩ := h.own
  exact ⟨h.below.trans (hk.below (by omega) (fun k h1 h2 => by omega)), Nat.le_trans h.size hk.size, h.lt, (hb _ (by omega) (by omega)).trans h.r0, (hb _ (by omega) (by omega)).trans h.r1, (hb _ (by omega) (by omega)).trans h.r2,
    ⟨v, (hb _ (by omega) (by omega)).trans hv, own_of ho (fun k h1 h2 => hb k h2 (by omega))⟩, h.ok, h.len⟩
theorem LexX.kept {w : World} {B Z : Nat} {pre : List Fe} {W W' : World} (h : LexX w B Z pre W) (hk : Keep (fun k => k = Z + 1) W W') : LexX w B Z pre W' := by
  have hz := h.size; have hlt := h.lt
  have hb : ∀ k, k < W.heap.size → k ≠ Z + 1 → W'.heap[k]? = W.heap[k]? := fun k h1 h2 => hk.block k h1 h2
  obtain ⟨err, pos, he, h0, h1, h2⟩ := h.res
  exact ⟨h.below.trans (hk.below (by omega) (fun k h1 h2 => by omega)), Nat.le_trans h.size hk.size, h.lt, ⟨err, pos, he, (hb _ (by omega) (by omega)).trans h0, (hb _ (by omega) (by omega)).trans h1, (hb _ (by omega) (by omega)).trans h2⟩, h.why⟩
/-- what a round may turn -/
def LexM (B Z k : Nat) : Prop := k = B + 3 ∨ Z + 2 ≤ k
/-- a store into a block of one cell -/
theorem heap_one {W : World} {b : Nat} {v v' : Value} {t : TypeId} (h : W.heap[b]? = some (.cells #[v] t (0, 0))) : (W.setCell ⟨b, 0, none⟩ v').heap[b]? = some (.cells #[v'] t (0, 0)) := by
  simp only [World.setCell, Array.getElem?_modify, if_true, h]
  rfl
theorem cell_one {W : World} {b : Nat} {v : Value} {t : TypeId} {fz : Nat × Nat} (h : W.heap[b]? = some (.cells #[v] t fz)) : W.cell? ⟨b, 0, none⟩ = some v := by simp [World.cell?, h]
theorem frozen_one {W : World} {b : Nat} {v : Value} {t : TypeId} (h : W.heap[b]? = some (.cells #[v] t (0, 0))) : W.frozen? ⟨b, 0, none⟩ = false := by simp [World.frozen?, h]
theorem own_shape {W : World} {base : Nat} {e : TypeId} {size : Nat} {v : Value} {n : Nat} {xs : List Value} (h : W.ownsRow base e size v n xs) : ∃ A c, v = .slice A n c := by
  obtain ⟨_, ⟨h1, h2⟩ | ⟨g, cap, cur, hv, _⟩⟩ := h
  · exact ⟨none, 0, by rw [h1, h2]⟩
  · exact ⟨_, _, hv⟩
theorem heap_other {W : World} {b k : Nat} {i : Nat} {v' : Value} (h : b ≠ k) : (W.setCell ⟨b, i, none⟩ v').heap[k]? = W.heap[k]? := Below.heap_setCell _ _ _ _ (fun e => h e.symm)
/-- what is read behind the last word -/
theorem lex_close {s : ByteArray} {w Wf : World} {B D : Nat} (hB : B = w.heap.size) (hD : B + 3 < D) (hb : Below B w Wf) {vA : Option Addr} {n c : Nat} {err pos : Int} (hn : n ≤ 9223372036854775807) (hs : w.heap.size ≤ Wf.heap.size)
    (h1 : nameB s = true → err = 0 ∧ n = 1)
    (h2 : err = 0 → n = 1 → ∃ g kind text, vA = some ⟨g, 0, none⟩ ∧ g ≠ D ∧ Wf.cell? ⟨g, 0, none⟩ = some (.int .i64 kind) ∧ Wf.cell? ⟨g, 1, none⟩ = some (.string text) ∧ (kind = 1 → text = s → nameB s = true) ∧ (nameB s = true → kind = 1 ∧ text = s)) :
    LexRet s w (.returned (.tuple #[.slice vA n c, .int .i64 err, .int .i64 pos])) (Wf.putObj D (.deferred none)) := by
  have hk : ∀ k, k ≠ D → (Wf.putObj D (.deferred none)).heap[k]? = Wf.heap[k]? := fun k h => World.putObj_heap_other h
  refine ⟨⟨hb.os, hb.tape, hb.output, by simpa using hs, fun k h => (hk k (by omega)).trans (hb.block k (by omega))⟩, vA, n, c, err, pos, rfl, hn, h1, fun he hn => ?_⟩
  obtain ⟨g, kind, text, ha, hne, hc1, hc2, h3, h4⟩ := h2 he hn
  exact ⟨g, kind, text, ha, (World.cell?_of_block (a := ⟨g, 0, none⟩) (hk _ hne)).trans hc1, (World.cell?_of_block (a := ⟨g, 1, none⟩) (hk _ hne)).trans hc2, h3, h4⟩
theorem put_cell {W : World} {D : Nat} {o : Obj} {a : Addr} (h : a.block ≠ D) : (W.putObj D o).cell? a = W.cell? a := World.cell?_of_block (a := a) (World.putObj_heap_other h)
/-- the tokens of one token -/
theorem tokCells_one {W : World} {Z : Nat} {v : Value} {pre : List Fe} {x : Fe} (hp : pre = [x]) (h : W.ownsRow Z 229 4 v pre.length (tokCells pre)) : ∃ g c, v = .slice (some ⟨g, 0, none⟩) 1 c ∧ Z ≤ g ∧ W.cell? ⟨g, 0, none⟩ = some (.int .i64 x.1.kind) ∧ W.cell? ⟨g, 1, none⟩ = some (.string x.1.text) := by
  subst hp
  obtain ⟨_, ⟨_, h2⟩ | ⟨g, cap, cur, hv, hZ, hg, h1, h2, h3, h4⟩⟩ := h
  · simp at h2
  · refine ⟨g, cap, hv, hZ, ?_, ?_⟩
    all_goals
      have e : cur.toList.take 4 = [.int .i64 x.1.kind, .string x.1.text, .int .i64 x.1.n, .int .i64 x.1.place] := by simpa [tokCells] using h4
      have e0 : cur.toList[0]? = some (.int .i64 x.1.kind) := by have := congrArg (·[0]?) e; simpa using this
      have e1 : cur.toList[1]? = some (.string x.1.text) := by have := congrArg (·[1]?) e; simpa using this
      simp only [Array.getElem?_toList] at e0 e1
      simp [World.cell?, hg, e0, e1]
theorem own_block {w : World} {base : Nat} {e : TypeId} {size : Nat} {v : Value} {n : Nat} {xs : List Value} (h : w.ownsRow base e size v n xs) (k : Nat) (hk : v.ownBlock = some k) : base ≤ k ∧ k < w.heap.size := by
  obtain ⟨_, ⟨h1, h2⟩ | ⟨g, cap, cur, hv, hb, hg, _⟩⟩ := h
  · rw [h1] at hk; cases hk
  · rw [hv] at hk; cases hk; exact ⟨hb, (Array.getElem?_eq_some_iff.1 hg).1⟩
/-- a token put behind the others -/
theorem lex_push {w : World} {B Z : Nat} {pre : List Fe} {x : Fe} {W0 W1 w2 : World} {vA : Option Addr} {vc : Nat} {v' : Value} {o : Obj} (h0 : LexJ w B Z pre W0) (hk : Keep (fun k => k = Z + 1) W0 W1) (h1 : LexJ w B Z pre W1) (hv : W1.heap[B + 3]? = some (.cells #[.slice vA pre.length vc] 225 (0, 0)))
    (hx : x.1.err = 0) (hf : pre.length ≠ 5000) (hown : w2.ownsRow (Z + 2) 229 4 v' (pre.length + 1) (tokCells pre ++ [.int .i64 x.1.kind, .string x.1.text, .int .i64 x.1.n, .int .i64 x.1.place])) (hg : (W1.alloc o).grownBy w2 (Value.slice vA pre.length vc).ownBlock) :
    w2.heap[B + 3]? = some (.cells #[.slice vA pre.length vc] 225 (0, 0)) ∧
    Keep (fun k => LexM B Z k ∧ k < W0.heap.size) W1 (w2.setCell ⟨B + 3, 0, none⟩ v') ∧ LexJ w B Z (pre ++ [x]) (w2.setCell ⟨B + 3, 0, none⟩ v') := by
  have hz0 := h0.size; have hz1 := h1.size; have hlt := h0.lt
  have hgs := hg.size
  simp only [World.size_alloc] at hgs
  obtain ⟨v0, hv0, ho0⟩ := h0.own
  have e : v0 = .slice vA pre.length vc := by
    have := (hk.block (B + 3) (by omega) (by omega)).symm.trans hv
    rw [hv0] at this
    simpa using this
  subst e
  have hbk : ∀ k, k < W1.heap.size → some k ≠ (Value.slice vA pre.length vc).ownBlock → w2.heap[k]? = W1.heap[k]? := fun k h2 h3 => (hg.block k (by simp; omega) h3).trans (Below.heap_alloc _ _ _ h2)
  have hlo : ∀ k, k < Z + 2 → some k ≠ (Value.slice vA pre.length vc).ownBlock := fun k hk hc => by have := (own_block ho0 k hc.symm).1; omega
  have hw3 : w2.heap[B + 3]? = some (.cells #[.slice vA pre.length vc] 225 (0, 0)) := (hbk _ (by omega) (hlo _ (by omega))).trans hv
  have hkeep : Keep (fun k => LexM B Z k ∧ k < W0.heap.size) W1 (w2.setCell ⟨B + 3, 0, none⟩ v') := by
    refine Keep.setCell (M := fun k => LexM B Z k ∧ k < W0.heap.size) (Keep.grown ((Keep.refl _ W1).alloc o) hg (fun k hk => .inl ?_)) ⟨.inl rfl, by show B + 3 < _; omega⟩ v'
    exact ⟨.inr (own_block ho0 k hk).1, (own_block ho0 k hk).2⟩
  refine ⟨hw3, hkeep, ⟨h1.below.trans (hkeep.below (by omega) (fun k h2 h3 => ?_)), by simpa using (show Z + 2 ≤ w2.heap.size by omega), hlt, ?_, ?_, ?_, ⟨v', heap_one hw3, ?_⟩, ?_, ?_⟩⟩
  · rcases h3.1 with h3 | h3 <;> omega
  · exact (heap_other (by omega)).trans ((hbk _ (by omega) (hlo _ (by omega))).trans h1.r0)
  · exact (heap_other (by omega)).trans ((hbk _ (by omega) (hlo _ (by omega))).trans h1.r1)
  · exact (heap_other (by omega)).trans ((hbk _ (by omega) (hlo _ (by omega))).trans h1.r2)
  · have e : tokCells (pre ++ [x]) = tokCells pre ++ [.int .i64 x.1.kind, .string x.1.text, .int .i64 x.1.n, .int .i64 x.1.place] := by simp [tokCells]
    rw [e, List.length_append]
    exact own_of hown (fun k h2 h3 => heap_other (by omega))
  · intro y hy
    rcases List.mem_append.1 hy with hy | hy
    · exact h0.ok y hy
    · simp only [List.mem_singleton] at hy; rw [hy]; exact hx
  · have := h0.len; simp; omega
/-- the three results laid and the round left -/
theorem lex_x {w : World} {Z : Nat} {pre : List Fe} {W1 : World} (h : LexJ w w.heap.size Z pre W1) (err pos : Int) (he : err ≠ 0) (xs : List Fe) (why : (∃ x ∈ xs, x.1.err ≠ 0) ∨ 5000 < xs.length) :
    (∀ k, w.heap.size + 3 < k → (((W1.drew.setCell ⟨w.heap.size, 0, none⟩ (.slice none 0 0)).setCell ⟨w.heap.size + 1, 0, none⟩ (.int .i64 err)).setCell ⟨w.heap.size + 1 + 1, 0, none⟩ (.int .i64 pos)).heap[k]? = W1.heap[k]?) ∧
    LexX w w.heap.size Z xs (((W1.drew.setCell ⟨w.heap.size, 0, none⟩ (.slice none 0 0)).setCell ⟨w.heap.size + 1, 0, none⟩ (.int .i64 err)).setCell ⟨w.heap.size + 1 + 1, 0, none⟩ (.int .i64 pos)) := by
  have hb : Below w.heap.size w W1.drew := h.below.drew
  have r0 : W1.drew.heap[w.heap.size]? = _ := h.r0
  have r1 : W1.drew.heap[w.heap.size + 1]? = _ := h.r1
  have r2 : W1.drew.heap[w.heap.size + 1 + 1]? = _ := h.r2
  have kk : ∀ k, w.heap.size + 3 < k → (((W1.drew.setCell ⟨w.heap.size, 0, none⟩ (.slice none 0 0)).setCell ⟨w.heap.size + 1, 0, none⟩ (.int .i64 err)).setCell ⟨w.heap.size + 1 + 1, 0, none⟩ (.int .i64 pos)).heap[k]? = W1.heap[k]? := fun k hk =>
    (heap_other (by omega)).trans ((heap_other (by omega)).trans (heap_other (by omega)))
  refine ⟨kk, ⟨((hb.setCell (by simp) _).setCell (by simp) _).setCell (by simp; omega) _, by have := h.size; simpa using this, h.lt, ⟨err, pos, he, ?_, ?_, heap_one ((heap_other (by omega)).trans ((heap_other (by omega)).trans r2))⟩, why⟩⟩
  · exact (heap_other (by omega)).trans ((heap_other (by omega)).trans (heap_one r0))
  · exact (heap_other (by omega)).trans (heap_one ((heap_other (by omega)).trans r1))
end Go.Proofs.YtaigepddkgpplaaGreatDoor.M

