/- norm.groups: where the variables of the search lie, and what each step does to them. -/
import Derived.Test.YtaigepddkgpplaaGreatDoorQTar
import Derived.Test.YtaigepddkgpplaaGreatDoorQBy
import Derived.Test.YtaigepddkgpplaaGreatDoorQLex4a
namespace Go.Proofs.YtaigepddkgpplaaGreatDoor.M
open Go Go.RowKit Go.Maps Go.WideMaps Go.Proofs.YtaigepddkgpplaaGreatDoorW.PrintWords Go.Proofs.YtaigepddkgpplaaGreatDoorW.PrintLast Go.Proofs.YtaigepddkgpplaaGreatDoorW.PrintMore Go.Proofs.YtaigepddkgpplaaGreatDoor.B
set_option linter.unusedVariables false
set_option linter.unusedSimpArgs false

def tarCap (B : Nat) : Array Value := #[.pointer (some ⟨B + 6, 0, none⟩), .pointer (some ⟨B + 5, 0, none⟩), .pointer (some ⟨B + 2, 0, none⟩), .pointer (some ⟨B + 8, 0, none⟩), .pointer (some ⟨B, 0, none⟩), .pointer (some ⟨B + 9, 0, none⟩), .pointer (some ⟨B + 1, 0, none⟩)]
/-- W is W0 but for the blocks from B on -/
structure TarG (w0 : World) (B bn : Nat) (fn fl fo : Lit → Option Value) (nn nl no : Nat) (stk : List Nat) (out : List (List Nat)) (sv ov : Value) (W : World) : Prop where
  below : Below B w0 W
  size : B + 10 ≤ W.heap.size
  vb : W.heap[B]? = some (.cells #[.pointer (some ⟨bn, 0, none⟩)] 133 (0, 0))
  vl : W.heap[B + 5]? = some (.cells #[.map (some (B + 3))] 174 (0, 0))
  vn : W.heap[B + 6]? = some (.cells #[.map (some (B + 4))] 174 (0, 0))
  vo : W.heap[B + 8]? = some (.cells #[.map (some (B + 7))] 134 (0, 0))
  vv : W.heap[B + 9]? = some (.cells #[.func (.func 145) #[] (tarCap B)] 175 (0, 0))
  vs : W.heap[B + 2]? = some (.cells #[sv] 28 (0, 0))
  vt : W.heap[B + 1]? = some (.cells #[ov] 137 (0, 0))
  mn : MapAt Tryz.prog 3 W (B + 4) fn nn
  ml : MapAt Tryz.prog 3 W (B + 3) fl nl
  mo : MapAt Tryz.prog 3 W (B + 7) fo no
  rs : (Kd.int .i64).R 3 W (B + 10) (fun _ => True) sv (ints stk)
  ro : (Kd.slice 3 (Kd.int .i64)).R 28 W (B + 10) (fun k => some k ≠ sv.ownBlock) ov (out.map ints)
section
variable {w0 W W' : World} {B bn : Nat} {fn fl fo f' : Lit → Option Value} {nn nl no n' : Nat} {stk : List Nat} {out : List (List Nat)} {sv ov : Value}
theorem R_hi {α : Type} {d : Kd α} {e base : Nat} {ok : Nat → Prop} {v : Value} {xs : List α} (h : d.R e W base ok v xs) (hm : ∀ k, base ≤ k → k < W.heap.size → W'.heap[k]? = W.heap[k]?) : d.R e W' base ok v xs :=
  Kd.R_mono (Kd.R_step (Kd.R_bound h) (fun k hk hlt => hm k hk.2.1 hlt)) (fun k hk => hk.1)
theorem TarG.next (h : TarG w0 B bn fn fl fo nn nl no stk out sv ov W) (hb : Below W.heap.size W W') : TarG w0 B bn fn fl fo nn nl no stk out sv ov W' :=
  have hs := h.size
  ⟨h.below.trans (hb.mono (by omega)), Nat.le_trans hs hb.size, (hb.block _ (by omega)).trans h.vb, (hb.block _ (by omega)).trans h.vl, (hb.block _ (by omega)).trans h.vn, (hb.block _ (by omega)).trans h.vo, (hb.block _ (by omega)).trans h.vv,
    (hb.block _ (by omega)).trans h.vs, (hb.block _ (by omega)).trans h.vt, h.mn.of_block (hb.block _ (by omega)), h.ml.of_block (hb.block _ (by omega)), h.mo.of_block (hb.block _ (by omega)), Kd.R_below h.rs hb, Kd.R_below h.ro hb⟩
theorem TarG.putN (h : TarG w0 B bn fn fl fo nn nl no stk out sv ov W) (hm : MapAt Tryz.prog 3 W' (B + 4) f' n') (hg : W.grownBy W' (some (B + 4))) : TarG w0 B bn f' fl fo n' nl no stk out sv ov W' :=
  have hs := h.size
  have hk : ∀ k, k < W.heap.size → k ≠ B + 4 → W'.heap[k]? = W.heap[k]? := fun k h1 h2 => hg.block k h1 (fun e => h2 (by injection e))
  ⟨h.below.grown hg (by omega) (fun k e => by injection e with e; omega), Nat.le_trans hs hg.size, (hk _ (by omega) (by omega)).trans h.vb, (hk _ (by omega) (by omega)).trans h.vl, (hk _ (by omega) (by omega)).trans h.vn, (hk _ (by omega) (by omega)).trans h.vo, (hk _ (by omega) (by omega)).trans h.vv,
    (hk _ (by omega) (by omega)).trans h.vs, (hk _ (by omega) (by omega)).trans h.vt, hm, h.ml.of_block (hk _ (by omega) (by omega)), h.mo.of_block (hk _ (by omega) (by omega)), R_hi h.rs (fun k h1 h2 => hk k h2 (by omega)), R_hi h.ro (fun k h1 h2 => hk k h2 (by omega))⟩
theorem TarG.putL (h : TarG w0 B bn fn fl fo nn nl no stk out sv ov W) (hm : MapAt Tryz.prog 3 W' (B + 3) f' n') (hg : W.grownBy W' (some (B + 3))) : TarG w0 B bn fn f' fo nn n' no stk out sv ov W' :=
  have hs := h.size
  have hk : ∀ k, k < W.heap.size → k ≠ B + 3 → W'.heap[k]? = W.heap[k]? := fun k h1 h2 => hg.block k h1 (fun e => h2 (by injection e))
  ⟨h.below.grown hg (by omega) (fun k e => by injection e with e; omega), Nat.le_trans hs hg.size, (hk _ (by omega) (by omega)).trans h.vb, (hk _ (by omega) (by omega)).trans h.vl, (hk _ (by omega) (by omega)).trans h.vn, (hk _ (by omega) (by omega)).trans h.vo, (hk _ (by omega) (by omega)).trans h.vv,
    (hk _ (by omega) (by omega)).trans h.vs, (hk _ (by omega) (by omega)).trans h.vt, h.mn.of_block (hk _ (by omega) (by omega)), hm, h.mo.of_block (hk _ (by omega) (by omega)), R_hi h.rs (fun k h1 h2 => hk k h2 (by omega)), R_hi h.ro (fun k h1 h2 => hk k h2 (by omega))⟩
theorem TarG.putO (h : TarG w0 B bn fn fl fo nn nl no stk out sv ov W) (hm : MapAt Tryz.prog 3 W' (B + 7) f' n') (hg : W.grownBy W' (some (B + 7))) : TarG w0 B bn fn fl f' nn nl n' stk out sv ov W' :=
  have hs := h.size
  have hk : ∀ k, k < W.heap.size → k ≠ B + 7 → W'.heap[k]? = W.heap[k]? := fun k h1 h2 => hg.block k h1 (fun e => h2 (by injection e))
  ⟨h.below.grown hg (by omega) (fun k e => by injection e with e; omega), Nat.le_trans hs hg.size, (hk _ (by omega) (by omega)).trans h.vb, (hk _ (by omega) (by omega)).trans h.vl, (hk _ (by omega) (by omega)).trans h.vn, (hk _ (by omega) (by omega)).trans h.vo, (hk _ (by omega) (by omega)).trans h.vv,
    (hk _ (by omega) (by omega)).trans h.vs, (hk _ (by omega) (by omega)).trans h.vt, h.mn.of_block (hk _ (by omega) (by omega)), h.ml.of_block (hk _ (by omega) (by omega)), hm, R_hi h.rs (fun k h1 h2 => hk k h2 (by omega)), R_hi h.ro (fun k h1 h2 => hk k h2 (by omega))⟩
theorem own_hi {v : Value} {n : Nat} {xs : List Value} {base e : Nat} (h : W.ownsRow base e 1 v n xs) {k : Nat} (hk : v.ownBlock = some k) : base ≤ k ∧ k < W.heap.size := by
  rcases h.2 with ⟨rfl, _⟩ | ⟨g, cap, cur, rfl, hg, hh, _⟩
  · simp [Value.ownBlock] at hk
  · have : g = k := by simpa [Value.ownBlock] using hk
    subst this
    exact ⟨hg, (Array.getElem?_eq_some_iff.1 hh).1⟩
/-- stack = append(stack, x) -/
theorem TarG.push (h : TarG w0 B bn fn fl fo nn nl no stk out sv ov W) {w1 : World} {gg cap x : Nat}
    (hown : w1.ownsRow (B + 10) 3 1 (.slice (some ⟨gg, 0, none⟩) (stk.length + 1) cap) (stk.length + 1) (nats stk ++ [.int .i64 (x : Int)])) (hg : W.grownBy w1 sv.ownBlock) (hat : sv.ownBlock = some gg ∨ W.heap.size ≤ gg) :
    TarG w0 B bn fn fl fo nn nl no (stk ++ [x]) out (.slice (some ⟨gg, 0, none⟩) (stk.length + 1) cap) ov (w1.setCell ⟨B + 2, 0, none⟩ (.slice (some ⟨gg, 0, none⟩) (stk.length + 1) cap)) := by
  have hs := h.size
  have hrs := Kd.own_of_R h.rs
  have hlo : ∀ k, sv.ownBlock = some k → B + 10 ≤ k := fun k e => (own_hi hrs e).1
  have hk : ∀ k, k < W.heap.size → some k ≠ sv.ownBlock → k ≠ B + 2 → (w1.setCell ⟨B + 2, 0, none⟩ (.slice (some ⟨gg, 0, none⟩) (stk.length + 1) cap)).heap[k]? = W.heap[k]? := fun k h1 h2 h3 => (heap_other (fun e => h3 e.symm)).trans (hg.block k h1 h2)
  have hk2 : ∀ k, k < B + 10 → k ≠ B + 2 → (w1.setCell ⟨B + 2, 0, none⟩ (.slice (some ⟨gg, 0, none⟩) (stk.length + 1) cap)).heap[k]? = W.heap[k]? := fun k h1 h3 => hk k (by omega) (fun e => by have := hlo k e.symm; omega) h3
  have e2 : w1.heap[B + 2]? = some (.cells #[sv] 28 (0, 0)) := (hg.block _ (by omega) (fun e => by have := hlo _ e.symm; omega)).trans h.vs
  refine ⟨(h.below.grown hg (by omega) (fun k e => by have := hlo k e; omega)).setCell (by show B ≤ B + 2; omega) _, by simp; exact Nat.le_trans hs hg.size, (hk2 _ (by omega) (by omega)).trans h.vb, (hk2 _ (by omega) (by omega)).trans h.vl, (hk2 _ (by omega) (by omega)).trans h.vn, (hk2 _ (by omega) (by omega)).trans h.vo, (hk2 _ (by omega) (by omega)).trans h.vv,
    heap_one e2, (hk2 _ (by omega) (by omega)).trans h.vt, h.mn.of_block (hk2 _ (by omega) (by omega)), h.ml.of_block (hk2 _ (by omega) (by omega)), h.mo.of_block (hk2 _ (by omega) (by omega)), ?_, ?_⟩
  · refine Kd.R_of_own ?_ (fun _ _ => trivial)
    refine own_move (w := w1) ?_ (fun k hk' => Below.heap_setCell _ _ _ _ (by have := (own_hi hown hk').1; show k ≠ B + 2; omega))
    rw [ints_len, ← nats_encs, List.length_append, nats, List.map_append]
    exact hown
  · have h2 := Kd.R_step (Kd.R_bound h.ro) (w1 := w1.setCell ⟨B + 2, 0, none⟩ (.slice (some ⟨gg, 0, none⟩) (stk.length + 1) cap)) (fun k hk' hlt => hk k hlt hk'.1 (by have := hk'.2.1; omega))
    refine Kd.R_mono h2 (fun k hk' => ?_)
    intro e
    have e : k = gg := by simpa [Value.ownBlock] using e
    subst e
    rcases hat with ha | ha
    · exact hk'.1 ha.symm
    · have := hk'.2.2.1; omega
/-- stack = stack[:m] -/
theorem TarG.cut {A : Option Addr} {n c : Nat} (h : TarG w0 B bn fn fl fo nn nl no stk out (.slice A n c) ov W) {m : Nat} (hm : m ≤ stk.length) :
    TarG w0 B bn fn fl fo nn nl no (stk.take m) out (.slice A m c) ov (W.setCell ⟨B + 2, 0, none⟩ (.slice A m c)) := by
  have hs := h.size
  have hk : ∀ k, k ≠ B + 2 → (W.setCell ⟨B + 2, 0, none⟩ (.slice A m c)).heap[k]? = W.heap[k]? := fun k h1 => heap_other (fun e => h1 e.symm)
  have hob : (Value.slice A m c).ownBlock = (Value.slice A n c).ownBlock := by cases A <;> rfl
  refine ⟨h.below.setCell (by show B ≤ B + 2; omega) _, by simpa using hs, (hk _ (by omega)).trans h.vb, (hk _ (by omega)).trans h.vl, (hk _ (by omega)).trans h.vn, (hk _ (by omega)).trans h.vo, (hk _ (by omega)).trans h.vv, heap_one h.vs, (hk _ (by omega)).trans h.vt, h.mn.of_block (hk _ (by omega)), h.ml.of_block (hk _ (by omega)), h.mo.of_block (hk _ (by omega)), ?_, ?_⟩
  · have h1 := Kd.R_take h.rs (m := m) (by rw [ints_len]; exact hm)
    rw [show ints (stk.take m) = (ints stk).take m from by simp [ints]]
    exact R_hi h1 (fun k h1 _ => hk k (by omega))
  · rw [hob]
    exact R_hi h.ro (fun k h1 _ => hk k (by omega))
/-- out = append(out, group) -/
theorem TarG.grow (h : TarG w0 B bn fn fl fo nn nl no stk out sv ov W) {w1 : World} {ov' : Value} {grp : List Nat} {row : Option Nat}
    (hro : (Kd.slice 3 (Kd.int .i64)).R 28 w1 (B + 10) (fun k => some k ≠ sv.ownBlock) ov' ((out ++ [grp]).map ints)) (hg : W.grownBy w1 row) (hrow : ∀ k, row = some k → B + 10 ≤ k ∧ some k ≠ sv.ownBlock) :
    TarG w0 B bn fn fl fo nn nl no stk (out ++ [grp]) sv ov' (w1.setCell ⟨B + 1, 0, none⟩ ov') := by
  have hs := h.size
  have hk : ∀ k, k < W.heap.size → some k ≠ row → k ≠ B + 1 → (w1.setCell ⟨B + 1, 0, none⟩ ov').heap[k]? = W.heap[k]? := fun k h1 h2 h3 => (heap_other (fun e => h3 e.symm)).trans (hg.block k h1 h2)
  have hk2 : ∀ k, k < B + 10 → k ≠ B + 1 → (w1.setCell ⟨B + 1, 0, none⟩ ov').heap[k]? = W.heap[k]? := fun k h1 h3 => hk k (by omega) (fun e => by have := (hrow k e.symm).1; omega) h3
  have e1 : w1.heap[B + 1]? = some (.cells #[ov] 137 (0, 0)) := (hg.block _ (by omega) (fun e => by have := (hrow _ e.symm).1; omega)).trans h.vt
  refine ⟨(h.below.grown hg (by omega) (fun k e => by have := (hrow k e).1; omega)).setCell (by show B ≤ B + 1; omega) _, by simp; exact Nat.le_trans hs hg.size, (hk2 _ (by omega) (by omega)).trans h.vb, (hk2 _ (by omega) (by omega)).trans h.vl, (hk2 _ (by omega) (by omega)).trans h.vn, (hk2 _ (by omega) (by omega)).trans h.vo, (hk2 _ (by omega) (by omega)).trans h.vv,
    (hk2 _ (by omega) (by omega)).trans h.vs, heap_one e1, h.mn.of_block (hk2 _ (by omega) (by omega)), h.ml.of_block (hk2 _ (by omega) (by omega)), h.mo.of_block (hk2 _ (by omega) (by omega)), ?_, ?_⟩
  · have hown := Kd.own_of_R h.rs
    refine Kd.R_of_own (own_move hown (fun k hk' => hk k (own_hi hown hk').2 (fun e => (hrow k e.symm).2 hk'.symm) (by have := (own_hi hown hk').1; omega))) (fun _ _ => trivial)
  · exact R_hi (W := w1) hro (fun k h1 _ => heap_other (by omega))
end
end Go.Proofs.YtaigepddkgpplaaGreatDoor.M

