/- 'Keep M w w': of the blocks of w only those of M may have turned; and the statement 'for x := range seq' by an invariant of the caller's own, in the wide fence. -/
import Derived.RangeFuncKeeps
import Derived.RangeFuncBound
import Derived.RangeFuncLeaves
import Derived.RangeFuncCalls
import Derived.Deep.Draws
import Derived.WalkKit
namespace Go.Proofs.YtaigepddkgpplaaGreatDoor.M
open Go Go.RowKit
set_option linter.unusedVariables false

/-- Of w's blocks those outside M lie as they lay; the streams are as they were; no block has gone. -/
structure Keep (M : Nat → Prop) (w w' : World) : Prop where
  os : w'.os = w.os
  tape : w'.tape = w.tape
  output : w'.output = w.output
  size : w.heap.size ≤ w'.heap.size
  block : ∀ k, k < w.heap.size → ¬ M k → w'.heap[k]? = w.heap[k]?
section
variable {M M' : Nat → Prop} {a b c w w' : World} {B : Nat}
theorem Keep.refl (M : Nat → Prop) (w : World) : Keep M w w := ⟨rfl, rfl, rfl, Nat.le_refl _, fun _ _ _ => rfl⟩
theorem Keep.trans (h : Keep M a b) (k : Keep M b c) : Keep M a c :=
  ⟨k.os.trans h.os, k.tape.trans h.tape, k.output.trans h.output, Nat.le_trans h.size k.size, fun i hi hm => (k.block i (Nat.lt_of_lt_of_le hi h.size) hm).trans (h.block i hi hm)⟩
theorem Keep.mono (h : Keep M a b) (hm : ∀ k, k < a.heap.size → M k → M' k) : Keep M' a b := ⟨h.os, h.tape, h.output, h.size, fun k hk hn => h.block k hk (fun hx => hn (hm k hk hx))⟩
theorem Keep.of_below (h : Below w.heap.size w w') : Keep M w w' := ⟨h.os, h.tape, h.output, h.size, fun k hk _ => h.block k hk⟩
theorem Keep.below (h : Keep M w w') (hB : B ≤ w.heap.size) (hm : ∀ k, k < B → ¬ M k) : Below B w w' := ⟨h.os, h.tape, h.output, h.size, fun k hk => h.block k (by omega) (hm k hk)⟩
theorem Keep.all (h : Keep (fun _ => False) w w') : Below w.heap.size w w' := h.below (Nat.le_refl _) (fun _ _ h => h)
theorem Keep.alloc (h : Keep M a b) (o : Obj) : Keep M a (b.alloc o) := h.trans (Keep.of_below ((Below.refl _ _).alloc (Nat.le_refl _) o))
theorem Keep.drew (h : Keep M a b) : Keep M a b.drew := ⟨h.os, h.tape, h.output, h.size, h.block⟩
theorem Keep.drewN (h : Keep M a b) (n : Nat) : Keep M a (b.drewN n) := ⟨h.os, h.tape, h.output, h.size, h.block⟩
theorem Keep.setCell (h : Keep M a b) {p : Addr} (hp : M p.block) (u : Value) : Keep M a (b.setCell p u) :=
  h.trans ⟨rfl, rfl, rfl, by simp [World.setCell], fun k hk hm => Below.heap_setCell _ _ _ _ (fun e => hm (e ▸ hp))⟩
theorem Keep.grown (h : Keep M a b) {row : Option Nat} (hg : b.grownBy c row) (hr : ∀ k, row = some k → M k ∨ a.heap.size ≤ k) : Keep M a c :=
  ⟨hg.os.trans h.os, hg.tape.trans h.tape, hg.output.trans h.output, Nat.le_trans h.size hg.size, fun k hk hm => (hg.block k (Nat.lt_of_lt_of_le hk h.size) (fun e => by rcases hr k e.symm with h1 | h1; exact hm h1; omega)).trans (h.block k hk hm)⟩
theorem Keep.putObj (h : Keep M a b) {l : Nat} (hl : M l) (o : Obj) : Keep M a (b.putObj l o) :=
  h.trans ⟨rfl, rfl, rfl, by simp, fun k _ hm => World.putObj_heap_other (fun e => hm (e ▸ hl))⟩
theorem Keep.putL {l : Nat} (h : Keep (fun k => k = l) a b) (o : Obj) : Keep (fun k => k = l) a (b.putObj l o) := Keep.putObj (M := fun k => k = l) h rfl o
theorem Keep.cell (h : Keep M w w') {p : Addr} (hp : p.block < w.heap.size) (hm : ¬ M p.block) : w'.cell? p = w.cell? p := World.cell?_of_block (w := w) (h.block p.block hp hm)
theorem Keep.frozen (h : Keep M w w') {p : Addr} (hp : p.block < w.heap.size) (hm : ¬ M p.block) : w'.frozen? p = w.frozen? p := World.frozen?_of_block (w := w) (h.block p.block hp hm)
/-- what follows may turn what is new, too -/
theorem Keep.then {M2 : Nat → Prop} (h : Keep M a b) (k : Keep M2 b c) (hm : ∀ i, i < a.heap.size → M2 i → M i) : Keep M a c :=
  ⟨k.os.trans h.os, k.tape.trans h.tape, k.output.trans h.output, Nat.le_trans h.size k.size, fun i hi hn => (k.block i (Nat.lt_of_lt_of_le hi h.size) (fun hx => hn (hm i hi hx))).trans (h.block i hi hn)⟩
end

theorem RoundIn.anyDepth {m m' : Nat} {P : Program} {l : Nat} {f : FuncId} {tmps : Array Value} {assign body : Code} {w : World} {R : Ending → World → Prop}
    (h : RoundIn Fence.wide m P l f tmps assign body w R) : RoundIn Fence.wide m' P l f tmps assign body w R := ⟨h.1, fun c cs _ => h.2 c cs (fun d h => by cases h)⟩
/-- in the wide fence no depth is asked -/
theorem YieldAt.anyDepth {m : Nat} (m' : Nat) {P : Program} {l : Nat} {args : Array Value} {W : World} {R : Ending → World → Prop} (h : YieldAt Fence.wide m P l args W R) : YieldAt Fence.wide m' P l args W R := by
  obtain ⟨fn, tmps, assign, body, hy, hR⟩ := h
  exact ⟨fn, tmps, assign, body, hy, RoundIn.anyDepth hR⟩
theorem CallsIn.anyDepth {m : Nat} (m' : Nat) {P : Program} {f : FuncId} {args : Array Value} {w : World} {R : Ending → World → Prop} (h : CallsIn Fence.wide m P f args w R) : CallsIn Fence.wide m' P f args w R := callsIn_wide.2 (callsIn_wide.1 h)

/-- How the body of a round may be left: D, L: the blocks of the statement's own books. -/
def leftAs {α : Type} (M : Nat → Prop) (J : List α → World → Prop) (Jx : Code → List α → World → Prop) (D L : Nat) (xs : List α) (W : World) : Exit → Act → World → Prop
  | .normal, _, W' => Keep M W W' ∧ J xs W'
  | .ret, _, W' => (W'.heap[D]? = W.heap[D]? ∧ W'.heap[L]? = W.heap[L]?) ∧ Jx .ret xs W'
  | .exit id, _, W' => (W'.heap[D]? = W.heap[D]? ∧ W'.heap[L]? = W.heap[L]?) ∧ Jx (.exit id) xs W'
  | .goto t, _, W' => (W'.heap[D]? = W.heap[D]? ∧ W'.heap[L]? = W.heap[L]?) ∧ Jx (.goto t) xs W'
  | .panic _, _, _ => False
  | .outgrown, _, _ => False

variable {n : Nat} {P : Program}
end Go.Proofs.YtaigepddkgpplaaGreatDoor.M

