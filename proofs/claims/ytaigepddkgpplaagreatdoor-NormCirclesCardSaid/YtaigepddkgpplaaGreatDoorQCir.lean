/- norm.Circles: the net that Of laid is a net as the search wants it. -/
import Derived.Test.YtaigepddkgpplaaGreatDoorQGrp
namespace Go.Proofs.YtaigepddkgpplaaGreatDoor.M
open Go Go.RowKit Go.Maps Go.WideMaps Go.Proofs.YtaigepddkgpplaaGreatDoorW.PrintWords Go.Proofs.YtaigepddkgpplaaGreatDoorW.PrintLast Go.Proofs.YtaigepddkgpplaaGreatDoorW.PrintMore Go.Proofs.YtaigepddkgpplaaGreatDoor.B Go.Proofs.YtaigepddkgpplaaGreatDoor.T
set_option linter.unusedVariables false
theorem rowsJ_adj (ps : List S67) (tg : ByteArray → Option Nat) {k : Nat} (h : k < ps.length) : adjL (rowsJ ps tg ps.length 0) k = rowF ps tg ps.length k := by
  unfold adjL
  rw [List.getD_eq_getElem?_getD, rowsJ_get _ _ _ _ h]
  simp [rowJ, excF]
theorem rowsJ_adj_lt (ps : List S67) (tg : ByteArray → Option Nat) (v y : Nat) (h : y ∈ adjL (rowsJ ps tg ps.length 0) v) : y < ps.length := by
  by_cases hv : v < ps.length
  · rw [rowsJ_adj ps tg hv] at h
    exact rowF_lt h
  · unfold adjL at h
    rw [List.getD_eq_getElem?_getD, List.getElem?_eq_none (by rw [rowsJ_len]; omega)] at h
    simp at h
theorem NetAt.netR {w : World} {A : Option Addr} {fs : List S110} {c : Nat} {A2 : Option Addr} {ps : List S67} {c2 : Nat} {A3 : Option Addr} {n3 c3 bn bm bs n : Nat} {f : Lit → Option Value} {vs : List Value} {W : World}
    (h : NetAt w A fs c A2 ps c2 A3 n3 c3 bn bm bs n f vs W) (hs : ps.length ≤ 1048576) : NetR W bn bs ps.length (w.heap.size + 4) (rowsJ ps (tgt f) ps.length 0) vs := by
  refine ⟨?_, h.by_, rowsJ_len _ _ _ _, hs⟩
  have := h.net.net
  simp [World.cell?, this, netCells]
theorem NetAt.cell1 {w : World} {A : Option Addr} {fs : List S110} {c : Nat} {A2 : Option Addr} {ps : List S67} {c2 : Nat} {A3 : Option Addr} {n3 c3 bn bm bs n : Nat} {f : Lit → Option Value} {vs : List Value} {W : World}
    (h : NetAt w A fs c A2 ps c2 A3 n3 c3 bn bm bs n f vs W) : W.cell? ⟨bn, 1, none⟩ = some (.slice A2 ps.length c2) := by
  have := h.net.net
  simp [World.cell?, this, netCells]
/-- the groups in the order of their first members: strictly -/
theorem found_sorted {adj : Nat → List Nat} {n : Nat} (hadj : ∀ v y, y ∈ adj v → y < n) {out gs : List (List Nat)} (hF : Go.Proofs.YtaigepddkgpplaaGreatDoor.T.Found adj n out) (hp : gs.Perm out) (hs : gs.Pairwise (fun a b => a.headD 0 ≤ b.headD 0)) :
    Go.Proofs.YtaigepddkgpplaaGreatDoor.T.Found adj n gs ∧ gs.Pairwise (fun a b => a.headD 0 < b.headD 0) := by
  have hG : Go.Proofs.YtaigepddkgpplaaGreatDoor.T.Found adj n gs := by
    refine ⟨fun g hg => hF.mem g (hp.mem_iff.1 hg), fun v hv hc => ?_, ?_⟩
    · obtain ⟨g, hg, hm⟩ := hF.all v hv hc
      exact ⟨g, hp.mem_iff.2 hg, hm⟩
    · exact (hp.pairwise_iff (fun {a b} h v h1 h2 => h v h2 h1)).2 hF.dis
  refine ⟨hG, ?_⟩
  have hd := hG.dis
  have hne := found_ne hadj hG
  have h2 := List.Pairwise.and hs hd
  refine List.Pairwise.imp_of_mem ?_ h2
  intro a b ha hb ⟨h1, h2⟩
  have na := hne a ha
  have nb := hne b hb
  rcases Nat.lt_or_ge (a.headD 0) (b.headD 0) with h | h
  · exact h
  · exfalso
    have e : a.headD 0 = b.headD 0 := by omega
    cases a with
    | nil => exact na.1 rfl
    | cons x r =>
      cases b with
      | nil => exact nb.1 rfl
      | cons y q =>
        simp at e
        exact h2 x (by simp) (by simp [e])
theorem eq_of_mem {α : Type} {r : α → α → Prop} (irr : ∀ a, ¬ r a a) (asy : ∀ a b, r a b → ¬ r b a) : ∀ l1 l2 : List α, l1.Pairwise r → l2.Pairwise r → (∀ x, x ∈ l1 ↔ x ∈ l2) → l1 = l2
  | [], [], _, _, _ => rfl
  | [], b :: r2, _, _, h => by have := (h b).2 (by simp); simp at this
  | a :: r1, [], _, _, h => by have := (h a).1 (by simp); simp at this
  | a :: r1, b :: r2, h1, h2, h => by
    rw [List.pairwise_cons] at h1 h2
    have e : a = b := by
      rcases List.mem_cons.1 ((h a).1 (by simp)) with e | ha
      · exact e
      · rcases List.mem_cons.1 ((h b).2 (by simp)) with e | hb
        · exact e.symm
        · exact absurd (h1.1 b hb) (asy _ _ (h2.1 a ha))
    subst e
    rw [eq_of_mem irr asy r1 r2 h1.2 h2.2 fun x => ?_]
    constructor
    · intro hx
      rcases List.mem_cons.1 ((h x).1 (List.mem_cons_of_mem _ hx)) with e | hx'
      · subst e; exact absurd (h1.1 _ hx) (irr _)
      · exact hx'
    · intro hx
      rcases List.mem_cons.1 ((h x).2 (List.mem_cons_of_mem _ hx)) with e | hx'
      · subst e; exact absurd (h2.1 _ hx) (irr _)
      · exact hx'
/-- there is one such list -/
theorem found_unique {adj : Nat → List Nat} {n : Nat} {L1 L2 : List (List Nat)} (h1 : Go.Proofs.YtaigepddkgpplaaGreatDoor.T.Found adj n L1) (h2 : Go.Proofs.YtaigepddkgpplaaGreatDoor.T.Found adj n L2)
    (s1 : L1.Pairwise (fun a b => a.headD 0 < b.headD 0)) (s2 : L2.Pairwise (fun a b => a.headD 0 < b.headD 0)) : L1 = L2 := by
  have key : ∀ A B : List (List Nat), Go.Proofs.YtaigepddkgpplaaGreatDoor.T.Found adj n A → Go.Proofs.YtaigepddkgpplaaGreatDoor.T.Found adj n B → ∀ g, g ∈ A → g ∈ B := by
    intro A B hA hB g hg
    obtain ⟨v, hv, hc, hgr⟩ := hA.mem g hg
    obtain ⟨g', hg', hm⟩ := hB.all v hv hc
    obtain ⟨v', hv', hc', hgr'⟩ := hB.mem g' hg'
    have hs := (hgr'.mem v).1 hm
    have e : g = g' := by
      refine eq_of_mem (fun a => Nat.lt_irrefl a) (fun a b h => by omega) g g' hgr.sorted hgr'.sorted fun x => ?_
      rw [hgr.mem, hgr'.mem]
      exact ⟨fun h => hs.trans h, fun h => hs.symm.trans h⟩
    rw [e]; exact hg'
  exact eq_of_mem (r := fun a b : List Nat => a.headD 0 < b.headD 0) (fun a => Nat.lt_irrefl _) (fun a b h => by omega) L1 L2 s1 s2 fun x => ⟨key L1 L2 h1 h2 x, key L2 L1 h2 h1 x⟩
end Go.Proofs.YtaigepddkgpplaaGreatDoor.M

