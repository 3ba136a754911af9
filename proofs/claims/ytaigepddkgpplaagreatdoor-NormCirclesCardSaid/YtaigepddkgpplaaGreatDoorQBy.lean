/- A row of slices in a block, each with a row of its own: what is read of it, what an append does to it. -/
import Derived.Test.YtaigepddkgpplaaGreatDoorQMap
import Derived.Test.YtaigepddkgpplaaGreatDoorQHelp
import Derived.Laws.MakeOwn
namespace Go.Proofs.YtaigepddkgpplaaGreatDoor.M
open Go Go.RowKit Go.Maps Go.WideMaps Go.Proofs.YtaigepddkgpplaaGreatDoorW.PrintWords Go.Proofs.YtaigepddkgpplaaGreatDoorW.PrintLast Go.Proofs.YtaigepddkgpplaaGreatDoorW.PrintMore Go.Proofs.YtaigepddkgpplaaGreatDoor.B
set_option linter.unusedVariables false
set_option linter.unusedSimpArgs false
theorem cell_blk {W : World} {b j : Nat} {cs : Array Value} {t : TypeId} {v : Value} (h : W.heap[b]? = some (.cells cs t (0, 0))) (hj : cs[j]? = some v) : W.cell? ⟨b, j, none⟩ = some v := by simp [World.cell?, h, hj]
theorem MapAt.of_block2 {P : Program} {k : TypeId} {w w' : World} {b b' : Nat} {f : Lit → Option Value} {n : Nat} (h : MapAt P k w b f n) (hb : w'.heap[b']? = w.heap[b]?) : MapAt P k w' b' f n := by
  obtain ⟨D, ⟨es, clock, hh, F, hs, hD⟩, h2, h3⟩ := h
  exact ⟨D, ⟨es, clock, hb.trans hh, F, hs, hD⟩, h2, h3⟩
theorem MapAt.of_empty (P : Program) (k : TypeId) {W : World} {b : Nat} (h : W.heap[b]? = some (.map #[] 0)) : MapAt P k W b (fun _ => none) 0 :=
  (MapAt.made P k W).of_block2 (h.trans (World.alloc_heap_new W _).symm)
def ints (l : List Nat) : List Int := l.map (fun i : Nat => (i : Int))
theorem ints_len (l : List Nat) : (ints l).length = l.length := by simp [ints]
def nats (l : List Nat) : List Value := l.map (fun i : Nat => Value.int .i64 (i : Int))
/-- block bs: a row of slices, each of them with a row of its own -/
structure ByAt (base : Nat) (w : World) (bs : Nat) (L : List (List Nat)) (vs : List Value) : Prop where
  blk : w.heap[bs]? = some (.cells vs.toArray 28 (0, 0))
  len : vs.length = L.length
  row : ∀ (k : Nat) v xs, vs[k]? = some v → L[k]? = some xs → w.ownsRow base 3 1 v xs.length (nats xs)
  dis : ∀ (j k : Nat) v u b, j ≠ k → vs[j]? = some v → vs[k]? = some u → v.ownBlock = some b → u.ownBlock ≠ some b
theorem made_cells (z : Value) (n : Nat) : madeCells #[z] n = (List.replicate n z).toArray := by
  apply Array.ext
  · simp [size_madeCells]
  · intro i h1 h2
    simp [madeCells, Nat.mod_one]
theorem ByAt.made (base : Nat) {w : World} {bs n : Nat} (h : w.heap[bs]? = some (.cells (madeCells #[.slice none 0 0] n) 28 (0, 0))) : ByAt base w bs (List.replicate n []) (List.replicate n (.slice none 0 0)) := by
  refine ⟨by rw [h, made_cells], by simp, fun k v xs hv hx => ?_, fun j k v u b hjk hv hu hb => ?_⟩
  · have h1 : v = .slice none 0 0 := by simpa using (List.mem_replicate.1 (List.mem_of_getElem? hv)).2
    have h2 : xs = [] := by simpa using (List.mem_replicate.1 (List.mem_of_getElem? hx)).2
    subst h1; subst h2
    exact World.ownsRow_nil w base 3 1
  · have h1 : v = .slice none 0 0 := by simpa using (List.mem_replicate.1 (List.mem_of_getElem? hv)).2
    subst h1
    simp [Value.ownBlock] at hb
theorem ByAt.move {base : Nat} {w w' : World} {bs : Nat} {L : List (List Nat)} {vs : List Value} (h : ByAt base w bs L vs) (hm : ∀ k, k < w.heap.size → (k = bs ∨ base ≤ k) → w'.heap[k]? = w.heap[k]?) : ByAt base w' bs L vs := by
  have hlt := (Array.getElem?_eq_some_iff.1 h.blk).1
  refine ⟨(hm bs hlt (.inl rfl)).trans h.blk, h.len, fun k v xs hv hx => own_move (h.row k v xs hv hx) (fun b hb => ?_), h.dis⟩
  have hr := h.row k v xs hv hx
  rcases hr.2 with ⟨rfl, _⟩ | ⟨g, cap, cur, rfl, hg, hh, _⟩
  · simp [Value.ownBlock] at hb
  · have : g = b := by simpa [Value.ownBlock] using hb
    subst this
    exact hm g (Array.getElem?_eq_some_iff.1 hh).1 (.inr hg)
theorem ByAt.below {base : Nat} {w w' : World} {bs : Nat} {L : List (List Nat)} {vs : List Value} (h : ByAt base w bs L vs) (hb : Below w.heap.size w w') : ByAt base w' bs L vs := h.move (fun k hk _ => hb.block k hk)
theorem nats_encs (l : List Nat) : nats l = encs (Value.int .i64) (ints l) := by simp [nats, ints, encs]
/-- a row that is read -/
theorem ByAt.get {base : Nat} {w : World} {bs : Nat} {L : List (List Nat)} {vs : List Value} (h : ByAt base w bs L vs) {k : Nat} {xs : List Nat} (hx : L[k]? = some xs) :
    ∃ A c, vs[k]? = some (.slice A xs.length c) ∧ w.cell? ⟨bs, k, none⟩ = some (.slice A xs.length c) ∧ w.frozen? ⟨bs, k, none⟩ = false ∧ xs.length ≤ c ∧ Kd.C (Kd.int .i64) w A (ints xs).length (ints xs) ∧ w.ownsRow base 3 1 (.slice A xs.length c) xs.length (nats xs) := by
  have hlt : k < L.length := (List.getElem?_eq_some_iff.1 hx).1
  have hlv : k < vs.length := by rw [h.len]; exact hlt
  have hv : vs[k]? = some vs[k] := List.getElem?_eq_getElem hlv
  have hr := h.row k _ xs hv hx
  have hR : (Kd.int .i64).R 3 w base (fun _ => True) vs[k] (ints xs) := Kd.R_of_own (by rw [ints_len, ← nats_encs]; exact hr) (fun _ _ => trivial)
  obtain ⟨A, c, e, hl, hC⟩ := Kd.R_reads hR
  rw [ints_len] at e hl
  refine ⟨A, c, by rw [hv, e], ?_, ?_, hl, hC, e ▸ hr⟩
  · rw [← e]; exact cell_blk h.blk (by rw [List.getElem?_toArray]; exact hv)
  · simp [World.frozen?, h.blk]
/-- a row that is appended to, and stored back -/
theorem ByAt.push {base : Nat} {w w1 : World} {bs k : Nat} {L : List (List Nat)} {vs : List Value} {xs : List Nat} {v v' : Value} {x : Nat} (h : ByAt base w bs L vs) (hx : L[k]? = some xs) (hv : vs[k]? = some v)
    (ho : w1.ownsRow base 3 1 v' (xs.length + 1) (nats xs ++ [.int .i64 (x : Int)])) (hg : w.grownBy w1 v.ownBlock) (hat : v'.ownBlock = v.ownBlock ∨ ∃ b, v'.ownBlock = some b ∧ w.heap.size ≤ b) (hbs : bs < base) :
    ByAt base (w1.setCell ⟨bs, k, none⟩ v') bs (L.set k (xs ++ [x])) (vs.set k v') := by
  have hlt : k < L.length := (List.getElem?_eq_some_iff.1 hx).1
  have hlv : k < vs.length := by rw [h.len]; exact hlt
  have hbl := (Array.getElem?_eq_some_iff.1 h.blk).1
  have hvb : v.ownBlock ≠ some bs := fun e => by
    have hr := h.row k v xs hv hx
    rcases hr.2 with ⟨rfl, _⟩ | ⟨g, cap, cur, rfl, hg0, _⟩
    · simp [Value.ownBlock] at e
    · have : g = bs := by simpa [Value.ownBlock] using e
      omega
  have hb1 : w1.heap[bs]? = some (.cells vs.toArray 28 (0, 0)) := (hg.block bs hbl (fun e => hvb e.symm)).trans h.blk
  have hlow : ∀ b, v'.ownBlock = some b → base ≤ b ∧ b ≠ bs := fun b hb => by
    rcases ho.2 with ⟨rfl, _⟩ | ⟨g, cap, cur, rfl, hg0, _⟩
    · simp [Value.ownBlock] at hb
    · have : g = b := by simpa [Value.ownBlock] using hb
      omega
  refine ⟨?_, by simp [h.len], fun j u ys hu hy => ?_, fun i j u u' b hij hu hu' hb => ?_⟩
  · simp only [World.setCell, Array.getElem?_modify, if_true, hb1]
    simp
  · rw [List.getElem?_set] at hu hy
    by_cases e : k = j
    · subst e
      rw [if_pos rfl, if_pos hlt] at hy
      rw [if_pos rfl, if_pos hlv] at hu
      cases hu; cases hy
      refine own_move (w := w1) ?_ (fun b hb => Below.heap_setCell _ _ _ _ (hlow b hb).2)
      rw [List.length_append, nats, List.map_append]; exact ho
    · rw [if_neg e] at hu hy
      refine own_move (h.row j u ys hu hy) (fun b hb => ?_)
      have hr := h.row j u ys hu hy
      have hb0 : b ≠ bs := fun eb => by
        subst eb
        rcases hr.2 with ⟨rfl, _⟩ | ⟨g, cap, cur, rfl, hg0, _⟩
        · simp [Value.ownBlock] at hb
        · have : g = b := by simpa [Value.ownBlock] using hb
          omega
      have hbw : b < w.heap.size := by
        rcases hr.2 with ⟨rfl, _⟩ | ⟨g, cap, cur, rfl, hg0, hh, _⟩
        · simp [Value.ownBlock] at hb
        · have : g = b := by simpa [Value.ownBlock] using hb
          subst this
          exact (Array.getElem?_eq_some_iff.1 hh).1
      exact (Below.heap_setCell _ _ _ _ hb0).trans (hg.block b hbw (fun eb => h.dis k j v u b e hv hu eb.symm hb))
  · rw [List.getElem?_set] at hu hu'
    have hnew : ∀ j u, j ≠ k → vs[j]? = some u → ∀ b, v'.ownBlock = some b → u.ownBlock ≠ some b := fun j u hjk hu b hb hub => by
      rcases hat with ha | ⟨b', hb', hle⟩
      · exact h.dis k j v u b (fun e => hjk e.symm) hv hu (ha ▸ hb) hub
      · rw [hb'] at hb; cases hb
        have hjl : j < L.length := by rw [← h.len]; exact (List.getElem?_eq_some_iff.1 hu).1
        have hr := h.row j u _ hu (List.getElem?_eq_getElem hjl)
        rcases hr.2 with ⟨rfl, _⟩ | ⟨g, cap, cur, rfl, hg0, hh, _⟩
        · simp [Value.ownBlock] at hub
        · have : g = b := by simpa [Value.ownBlock] using hub
          subst this
          have := (Array.getElem?_eq_some_iff.1 hh).1
          omega
    by_cases e1 : k = i
    · subst e1
      rw [if_pos rfl, if_pos hlv] at hu
      cases hu
      rw [if_neg hij] at hu'
      exact hnew j u' (fun e => hij e.symm) hu' b hb
    · rw [if_neg e1] at hu
      by_cases e2 : k = j
      · subst e2
        rw [if_pos rfl, if_pos hlv] at hu'
        cases hu'
        exact fun hb' => hnew i u (fun e => e1 e.symm) hu b hb' hb
      · rw [if_neg e2] at hu'
        exact h.dis i j u u' b hij hu hu' hb
end Go.Proofs.YtaigepddkgpplaaGreatDoor.M

