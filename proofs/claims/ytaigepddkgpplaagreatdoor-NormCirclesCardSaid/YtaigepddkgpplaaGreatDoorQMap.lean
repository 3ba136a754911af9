/- A map in a block of the heap, told as a partial function on its keys: what a look-up, a store and len do to it. No condition but the bound on the number of entries. -/
import Derived.Maps.OwnSet
import Derived.WalkKit
import Derived.Deep.Draws
namespace Go.Proofs.YtaigepddkgpplaaGreatDoor.M
open Go Go.RowKit Go.Maps
set_option linter.unusedVariables false

def tokR (v : Value) : Option (DataW Value × List MemPlace) := some (.held v, [])

open Classical in
/-- A function turned at one key. -/
noncomputable def upd (f : Lit → Option Value) (l : Lit) (v : Value) : Lit → Option Value := fun x => if x = l then some v else f x
theorem upd_same (f : Lit → Option Value) (l : Lit) (v : Value) : upd f l v l = some v := if_pos rfl
theorem upd_other (f : Lit → Option Value) (l : Lit) (v : Value) {x : Lit} (h : x ≠ l) : upd f l v x = f x := if_neg h

/-- Block b of w is a map of n entries; at the key that reads as l it holds f l. -/
def MapAt (P : Program) (k : TypeId) (w : World) (b : Nat) (f : Lit → Option Value) (n : Nat) : Prop :=
  ∃ D : DataW Value, w.ownsMap P k tokR b n D ∧ Maps.size D = n ∧ ∀ l, WideAt.IsKeyLit l → (Maps.has D l = (f l).isSome ∧ ∀ v, f l = some v → ∀ z, D.atKey l z = .held v)

section
variable {P : Program} {k : TypeId} {w w' : World} {b : Nat} {f : Lit → Option Value} {n : Nat}

theorem MapAt.of_block (h : MapAt P k w b f n) (hb : w'.heap[b]? = w.heap[b]?) : MapAt P k w' b f n := by
  obtain ⟨D, ⟨es, clock, hh, F, hs, hD⟩, h2, h3⟩ := h
  exact ⟨D, ⟨es, clock, hb.trans hh, F, hs, hD⟩, h2, h3⟩
theorem MapAt.lt (h : MapAt P k w b f n) : b < w.heap.size := by
  obtain ⟨D, h1, _⟩ := h
  exact h1.lt
theorem MapAt.drew (h : MapAt P k w b f n) : MapAt P k w.drew b f n := h.of_block rfl
theorem MapAt.drewN (h : MapAt P k w b f n) (m : Nat) : MapAt P k (w.drewN m) b f n := h.of_block rfl
theorem MapAt.alloc (h : MapAt P k w b f n) (o : Obj) : MapAt P k (w.alloc o) b f n := h.of_block (Below.heap_alloc _ _ _ h.lt)
theorem MapAt.setCell (h : MapAt P k w b f n) (a : Addr) (v : Value) (hne : b ≠ a.block) : MapAt P k (w.setCell a v) b f n := h.of_block (Below.heap_setCell _ _ _ _ hne)
theorem MapAt.below (h : MapAt P k w b f n) {B : Nat} (hb : Below B w w') (hlt : b < B) : MapAt P k w' b f n := h.of_block (hb.block b hlt)
theorem MapAt.made (P : Program) (k : TypeId) (w : World) : MapAt P k (w.alloc (.map #[] 0)) w.heap.size (fun _ => none) 0 :=
  ⟨_, World.ownsMap_made w P k tokR, rfl, fun l _ => ⟨rfl, fun v h => by cases h⟩⟩
theorem MapAt.congr (h : MapAt P k w b f n) {g : Lit → Option Value} (hg : ∀ l, WideAt.IsKeyLit l → g l = f l) : MapAt P k w b g n := by
  obtain ⟨D, h1, h2, h3⟩ := h
  exact ⟨D, h1, h2, fun l hl => by rw [hg l hl]; exact h3 l hl⟩

theorem MapAt.look (h : MapAt P k w b f n) (c : Bool) {t e : TypeId} (K : Keyed P k) (ht : P.underlying t = some (.map k e)) {z : Value} (hz : (zeroValue e).run P w = .ok z w) {key : Value} {l : Lit} (hkey : keyOf P k key = some l) :
    (Instr.lookup t (.map (some b)) key c).run P w = .ok (if c then .tuple #[(f l).getD z, .bool (f l).isSome] else (f l).getD z) w := by
  obtain ⟨D, ⟨es, clock, hh, F, hs, rfl⟩, h2, h3⟩ := h
  obtain ⟨hhas, hat⟩ := h3 l (K.key hkey)
  rcases Maps.fit_look c K ht hz hh F hkey with ⟨hrun, _, hno⟩ | ⟨e0, y, _, _, hrun, hRv, hyes, _⟩
  · have hf : f l = none := by
      cases hfl : f l with
      | none => rfl
      | some v =>
        have a1 := hat v hfl .nil
        rw [hno] at a1
        cases a1
    rw [hrun, hf]
    rfl
  · have hy : y.1 = .held e0.val := by
      have := Option.some.inj hRv
      rw [← this]
    have hf : f l = some e0.val := by
      cases hfl : f l with
      | none =>
        rw [hfl] at hhas
        have a1 := atKey_of_not_has hhas .nil
        rw [hyes, hy] at a1
        cases a1
      | some v =>
        have a1 := hat v hfl .nil
        rw [hyes, hy] at a1
        cases a1
        rfl
    rw [hrun, hf]
    rfl

theorem MapAt.put (h : MapAt P k w b f n) {t e : TypeId} (K : Keyed P k) (ht : P.underlying t = some (.map k e)) (hn : n < maxLen) {key : Value} {l : Lit} (hkey : keyOf P k key = some l) (v : Value) :
    ∃ w', (Instr.mapUpdate t (.map (some b)) key v).run P w = .ok () w' ∧ MapAt P k w' b (upd f l v) (if (f l).isSome then n else n + 1) ∧ w.grownBy w' (some b) := by
  obtain ⟨D, h1, h2, h3⟩ := h
  have hT := h1.tidy K
  have hkl := K.key hkey
  obtain ⟨w', hrun, hown, hg⟩ := h1.update K ht hn hkey (show tokR v = some (.held v, []) from rfl)
  refine ⟨w', hrun, ⟨D.put l (.held v), ?_, ?_, fun x hx => ?_⟩, hg⟩
  · obtain ⟨es, clock, hh, F, hs, hD⟩ := hown
    refine ⟨es, clock, hh, F, ?_, hD⟩
    have e1 : es.size = Maps.size (D.put l (.held v)) := by
      rw [hD]
      show _ = List.length _
      rw [length_sorted]
      simp
    rw [e1, size_put hT, (h3 l hkl).1, h2]
    split <;> omega
  · rw [size_put hT, (h3 l hkl).1, h2]
  · by_cases e : x = l
    · subst e
      rw [upd_same]
      refine ⟨has_put_same hT.isMap hkl _, fun u hu z => ?_⟩
      cases hu
      exact atKey_put_same hT.isMap hkl _ _
    · rw [upd_other f l v e]
      refine ⟨(has_put_other e _).trans (h3 x hx).1, fun u hu z => ?_⟩
      rw [atKey_put_other e]
      exact (h3 x hx).2 u hu z
theorem MapAt.of_len (h : MapAt P k w b f n) : ∃ D : DataW Value, w.ownsMap P k tokR b n D ∧ Maps.size D = n := by
  obtain ⟨D, h1, h2, _⟩ := h
  exact ⟨D, h1, h2⟩
end

section
variable {P : Program} {ops : Array Oper} {rest : List Oper} {o : Oper} {a : Act} {Q : Exit → Act → World → Prop} {w : World}

/-- 'm[k] = v' at the operation. -/
theorem wp_put (hg : o.guard = none) (m x v : Operand) (t : TypeId) (hop : o.op = Op.mapUpdate t m x v)
    (k e : TypeId) (K : Keyed P k) (ht : P.underlying t = some (.map k e)) (b n : Nat) (f : Lit → Option Value)
    (hm : a.eval m = .map (some b)) (h : MapAt P k w b f n) (hn : n < maxLen) (key val : Value) (l : Lit) (hx : a.eval x = key) (hv : a.eval v = val) (hkey : keyOf P k key = some l)
    (hK : ∀ w', MapAt P k w' b (upd f l val) (if (f l).isSome then n else n + 1) → w.grownBy w' (some b) → wpList P ops Q rest (a.put o.dst undef) w') :
    wpList P ops Q (o :: rest) a w := by
  refine wpList_plain hg fun K' hK' => ?_
  obtain ⟨w', hrun, h1, h2⟩ := h.put K ht hn hkey val
  unfold Oper.wp
  simp [execOp, hop, hm, hx, hv, hrun, Result.andThen]
  exact hK' _ _ (hK w' h1 h2)

end
end Go.Proofs.YtaigepddkgpplaaGreatDoor.M

