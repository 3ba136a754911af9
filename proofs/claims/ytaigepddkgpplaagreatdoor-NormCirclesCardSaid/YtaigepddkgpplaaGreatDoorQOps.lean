/- Loads and stores of whole structs by their list of cells, at the operation; no condition but that the cells are there. -/
import Derived.Test.YtaigepddkgpplaaGreatDoorQHelp
import Derived.Laws.Rows
import Derived.Laws.Tables
namespace Go.Proofs.YtaigepddkgpplaaGreatDoor.M
open Go Go.RowKit
set_option linter.unusedVariables false
set_option linter.unusedSimpArgs false
variable {P : Program}

theorem agg_run {ty : TypeId} {d : TypeDesc} (hu : P.underlying ty = some d) (hd : (match d with | .struct _ | .array _ _ => true | _ => false) = true) (w : World) : (isAgg ty).run P w = .ok true w := by
  unfold isAgg
  rw [Sem.run_bind, run_underlying hu w]
  cases d <;> simp_all
theorem run_load_cells (w : World) (a0 : Addr) (ty : TypeId) (cs : List Value) (d : TypeDesc) (hu : P.underlying ty = some d) (hd : (match d with | .struct _ | .array _ _ => true | _ => false) = true)
    (hi : (P.info? ty).map (·.size) = some cs.length) (hc : ∀ j u, cs[j]? = some u → w.cell? (a0.add j) = some u) : (loadVar ty a0).run P w = .ok (.agg cs.toArray) w := by
  have hl : (loadCells a0 cs.length).run P w = .ok cs.toArray w := run_loadCells_list (P := P) w a0 cs hc
  cases hq : P.info? ty with
  | none => simp [hq] at hi
  | some i =>
    have hs : i.size = cs.length := by simpa [hq] using hi
    simp [loadVar, Sem.run_bind, agg_run hu hd, sizeOf, typeInfo, hq, hs, hl]
theorem run_store_row (w : World) (g : Nat) (t ty : TypeId) (cur : Array Value) (cs : List Value) (hg : w.heap[g]? = some (.cells cur t (0, 0))) (hsz : cs.length = cur.size)
    (hi : (P.info? ty).map (·.size) = some cs.length) (h1 : ∀ v ∈ cs, v.oneCell' = true) : (storeVar ty ⟨g, 0, none⟩ (.agg cs.toArray)).run P w = .ok () (w.setRow g cs.toArray) := by
  have hr := run_storeCells_from (P := P) g t cs 0 cur w hg (by omega) h1
  cases hq : P.info? ty with
  | none => simp [hq] at hi
  | some i =>
    have hs : i.size = cs.length := by simpa [hq] using hi
    simp [storeVar, Value.cells, sizeOf, typeInfo, hq, hs, hr]
theorem setRow_same (w : World) (g : Nat) (t : TypeId) (cur cs : Array Value) (hg : w.heap[g]? = some (.cells cur t (0, 0))) : (w.setRow g cs).heap[g]? = some (.cells cs t (0, 0)) := by
  unfold World.setRow
  simp only [Array.getElem?_modify, if_true, hg]
  rfl
theorem setRow_other (w : World) (g : Nat) (cs : Array Value) (k : Nat) (h : k ≠ g) : (w.setRow g cs).heap[k]? = w.heap[k]? := by
  unfold World.setRow
  simp only [Array.getElem?_modify]
  rw [if_neg (by omega)]
theorem setRow_grown (w : World) (g : Nat) (cs : Array Value) : w.grownBy (w.setRow g cs) (some g) :=
  ⟨rfl, rfl, rfl, by simp, fun k _ hk => setRow_other w g cs k (fun e => hk (by rw [e]))⟩

theorem add_add (a : Addr) (m j : Nat) : (a.add m).add j = a.add (m + j) := by
  unfold Addr.add
  by_cases h1 : m = 0 <;> by_cases h2 : j = 0 <;> simp [h1, h2, Nat.add_assoc]
open Go.Proofs.YtaigepddkgpplaaGreatDoorW.PrintWords in
/-- element i of a slice that is read, by its cells -/
theorem nt_cells {α : Type} {d : Kd α} {w : World} {A : Option Addr} {n : Nat} {xs : List α} (h : d.C w A n xs) (i : Nat) (hi : i < xs.length) :
    ∃ ad cs, A = some ad ∧ cs.length = d.sz ∧ d.K w xs[i] cs ∧ (∀ v ∈ cs, v.oneCell' = true) ∧ ∀ j u, cs[j]? = some u → w.cell? ((ad.add (i * d.sz)).add j) = some u := by
  obtain ⟨ad, cs, e, hl, hK, hc⟩ := Kd.C_get h xs[i] (i : Int) (by omega) (by have := h.1; omega)
  rw [show xs.getD (i : Int).toNat xs[i] = xs[i] from by simp [hi]] at hK
  exact ⟨ad, cs, e, hl, hK, d.K_one hK, fun j u hu => by rw [add_add]; simpa using hc j u hu⟩

section
variable {ops : Array Oper} {rest : List Oper} {o : Oper} {a : Act} {w : World} {Q : Exit → Act → World → Prop}
/-- a struct read: its cells are there -/
theorem wp_load_cells (hgd : o.guard = none) (ty : TypeId) (x : Operand) (ho : o.op = .load ty x) (a0 : Addr) (hx : a.eval x = .pointer (some a0)) (cs : List Value) (d : TypeDesc)
    (hu : P.underlying ty = some d) (hd : (match d with | .struct _ | .array _ _ => true | _ => false) = true) (hi : (P.info? ty).map (·.size) = some cs.length)
    (hc : ∀ j u, cs[j]? = some u → w.cell? (a0.add j) = some u) (h : wpList P ops Q rest (a.put o.dst (.agg cs.toArray)) w) : wpList P ops Q (o :: rest) a w :=
  wpList_plain hgd fun _ hK => by
    unfold Oper.wp execOp
    simp only [ho, hx, Instr.loadAt, Instr.sureAddr, Sem.run_bind, Sem.run_pure, Result.andThen_ok, run_load_cells w a0 ty cs d hu hd hi hc]
    exact hK _ _ h
/-- a struct stored into a variable of its own that has just been made -/
theorem wp_store_new (hgd : o.guard = none) (ty : TypeId) (x y : Operand) (ho : o.op = .store ty x y) (hN : o.dst = none) (zs : Array Value) (hx : a.eval x = .pointer (some ⟨w.heap.size, 0, none⟩)) (cs : List Value) (hy : a.eval y = .agg cs.toArray)
    (hi : (P.info? ty).map (·.size) = some cs.length) (hz : cs.length = zs.size) (h1 : ∀ v ∈ cs, v.oneCell' = true)
    (h : ∀ w1, w1.heap[w.heap.size]? = some (.cells cs.toArray ty (0, 0)) → Below w.heap.size w w1 → w1.heap.size = w.heap.size + 1 → wpList P ops Q rest a w1) : wpList P ops Q (o :: rest) a (w.alloc (.cells zs ty)) :=
  wpList_plain hgd fun K hK => by
    have hg : (w.alloc (.cells zs ty)).heap[w.heap.size]? = some (.cells zs ty (0, 0)) := World.alloc_heap_new w _
    have hr := run_store_row (P := P) (w.alloc (.cells zs ty)) w.heap.size ty ty zs cs hg hz hi h1
    unfold Oper.wp execOp
    simp only [ho, hx, hy, Instr.storeAt, Instr.sureAddr, Sem.run_bind, Sem.run_pure, Result.andThen_ok, hr]
    show K (a.put o.dst undef) _
    rw [hN]
    refine hK _ _ (h _ (setRow_same _ _ _ _ _ hg) (((Below.refl _ _).alloc (Nat.le_refl _) _).grown (setRow_grown _ _ _) (by simp) (fun k hk => by cases hk; exact Nat.le_refl _)) (by simp))
/-- a struct or array stored over a whole row -/
theorem wp_store_row (hgd : o.guard = none) (ty : TypeId) (x y : Operand) (ho : o.op = .store ty x y) (hN : o.dst = none) (g : Nat) (t : TypeId) (cur : Array Value) (hg : w.heap[g]? = some (.cells cur t (0, 0))) (hx : a.eval x = .pointer (some ⟨g, 0, none⟩)) (cs : List Value) (hy : a.eval y = .agg cs.toArray)
    (hi : (P.info? ty).map (·.size) = some cs.length) (hz : cs.length = cur.size) (h1 : ∀ v ∈ cs, v.oneCell' = true)
    (h : ∀ w1, w1.heap[g]? = some (.cells cs.toArray t (0, 0)) → w.grownBy w1 (some g) → w1.heap.size = w.heap.size → wpList P ops Q rest a w1) : wpList P ops Q (o :: rest) a w :=
  wpList_plain hgd fun K hK => by
    have hr := run_store_row (P := P) w g t ty cur cs hg hz hi h1
    unfold Oper.wp execOp
    simp only [ho, hx, hy, Instr.storeAt, Instr.sureAddr, Sem.run_bind, Sem.run_pure, Result.andThen_ok, hr]
    show K (a.put o.dst undef) _
    rw [hN]
    exact hK _ _ (h _ (setRow_same _ _ _ _ _ hg) (setRow_grown _ _ _) (by simp))
end
end Go.Proofs.YtaigepddkgpplaaGreatDoor.M

