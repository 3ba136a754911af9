/- What an argument's reading gives: that its cells are of the printed kinds. -/
import Derived.Test.YtaigepddkgpplaaGreatDoorQSize
import Derived.Deep.Slices
import Derived.ChangeArms
import Derived.Test.YtaigepddkgpplaaGreatDoorQNormL
section
namespace Go.Proofs.YtaigepddkgpplaaGreatDoor.M
open Go Go.RowKit Go.Maps Go.WideMaps Go.Proofs.YtaigepddkgpplaaGreatDoorW.PrintWords Go.Proofs.YtaigepddkgpplaaGreatDoorW.PrintLast Go.Proofs.YtaigepddkgpplaaGreatDoorW.PrintMore Go.Proofs.YtaigepddkgpplaaGreatDoor.B
set_option linter.unusedVariables false
set_option linter.unusedSimpArgs false

/-- whatever reads as type t, at fuel m, is of the kind d, and good -/
def Opn {α H : Type} (enc : TypeId × Value → H) (w : World) (base : Nat) (spare : Nat → Bool) (held : Bool) (d : Kd α) (good : α → Prop) (t : TypeId) (m : Nat) : Prop :=
  ∀ cs x, DataW.trod enc Tryz.prog w base spare held m t cs = some x → ∃ a, d.K w a cs ∧ good a
def goodI (n : Int) : Prop := -9223372036854775808 ≤ n ∧ n ≤ 9223372036854775807
def goodS (s : ByteArray) : Prop := s.size ≤ 9223372036854775807
def goodL {α : Type} (good : α → Prop) (xs : List α) : Prop := xs.length ≤ 9223372036854775807 ∧ ∀ x ∈ xs, good x
section
variable {H : Type} {enc : TypeId × Value → H} {w : World} {base : Nat} {spare : Nat → Bool} {held : Bool}
theorem opn_int {t : TypeId} (ht : Tryz.prog.underlying t = some (.int .i64)) (m : Nat) : Opn enc w base spare held (Kd.int .i64) goodI t m := fun cs x h => by
  obtain ⟨n, rfl, _, hw⟩ := DataW.trod_int ht h
  refine ⟨n, rfl, ?_⟩
  simp [Lit.wf, IntKind.min, IntKind.max, IntKind.signed, IntKind.bits] at hw
  exact ⟨by omega, by omega⟩
theorem opn_string {t : TypeId} (ht : Tryz.prog.underlying t = some .string) (m : Nat) : Opn enc w base spare held Kd.string goodS t m := fun cs x h => by
  obtain ⟨s, rfl, _, hw⟩ := DataW.trod_string ht h
  exact ⟨s, rfl, hw⟩
theorem list_of {α : Type} {p : Nat → α → Prop} : ∀ (n : Nat), (∀ i, i < n → ∃ a, p i a) → ∃ xs : List α, xs.length = n ∧ ∀ (i : Nat) (h : i < xs.length), p i xs[i]
  | 0, _ => ⟨[], rfl, fun i h => absurd h (Nat.not_lt_zero _)⟩
  | n + 1, h => by
    obtain ⟨xs, hl, hx⟩ := list_of n (fun i hi => h i (by omega))
    obtain ⟨a, ha⟩ := h n (by omega)
    refine ⟨xs ++ [a], by simp [hl], fun i hi => ?_⟩
    by_cases e : i < xs.length
    · rw [List.getElem_append_left e]; exact hx i e
    · have : i = xs.length := by simp at hi; omega
      subst this
      rw [List.getElem_append_right (Nat.le_refl _)]
      simpa [hl] using ha
theorem opn_slice {α : Type} {d : Kd α} {good : α → Prop} {t e : TypeId} {m : Nat} (ht : Tryz.prog.underlying t = some (.slice e)) (hsz : Tryz.prog.cellsOf e = d.sz) (hK : ∀ n, n < m → Opn enc w base spare held d good e n) :
    Opn enc w base spare held (Kd.slice e d) (goodL good) t m := fun cs x h => by
  rcases DataW.trod_slice ht h with ⟨rfl, _⟩ | ⟨a, len, cap, elems, rest, n, rfl, rfl, _, hb, hl, hm, hlen, hel, _, _⟩
  · exact ⟨[], ⟨none, 0, rfl, Nat.le_refl _, rfl, by simp, fun h => absurd h (Nat.lt_irrefl _)⟩, by simp, by simp⟩
  · have hex : ∀ i, i < len → ∃ b, (∃ cs', w.cells? base (a.add (i * d.sz)) d.sz = some cs' ∧ d.K w b cs') ∧ good b := fun i hi => by
      have h1 := hel i hi
      rw [List.getElem?_eq_getElem (by omega), hsz] at h1
      obtain ⟨cs', h2, h3⟩ := Option.bind_eq_some_iff.1 h1
      obtain ⟨b, hb1, hb2⟩ := hK n (Nat.lt_succ_self n) cs' _ h3
      exact ⟨b, ⟨cs', h2, hb1⟩, hb2⟩
    obtain ⟨xs, hxl, hx⟩ := list_of len hex
    have hmm : xs.length ≤ 9223372036854775807 := by rw [hxl]; exact Nat.le_trans hl hm
    refine ⟨xs, ⟨some a, cap, by rw [hxl], by rw [hxl]; exact hl, rfl, hmm, fun _ => ⟨a, rfl, fun j p hj => ?_⟩⟩, hmm, fun x hx' => ?_⟩
    · obtain ⟨hjl, rfl⟩ := List.getElem?_eq_some_iff.1 hj
      obtain ⟨⟨cs', h2, h3⟩, _⟩ := hx j hjl
      obtain ⟨_, h4, h5⟩ := World.cells?_some h2
      refine ⟨cs', h4, h3, fun i u hu => ?_⟩
      have hi : i < d.sz := by rw [← h4]; exact (List.getElem?_eq_some_iff.1 hu).1
      have := h5 i hi
      rw [hu, add_add] at this
      exact this
    · obtain ⟨j, hj, rfl⟩ := List.getElem_of_mem hx'
      exact (hx j hj).2
set_option maxRecDepth 100000 in
theorem opn_S110 (m : Nat) : Opn enc w base spare held k110 (fun x => goodS x.f0 ∧ goodI x.f1 ∧ goodI x.f2 ∧ goodI x.f3) 110 m := fun cs x h => by
  obtain ⟨xs, n, rfl, _, hl, hxl, hf⟩ := DataW.trod_struct Tryz.underlying110 h
  have c110 : Tryz.prog.cellsOf 110 = 4 := by kernel_rfl
  have c9 : Tryz.prog.cellsOf 9 = 1 := by kernel_rfl
  have c3 : Tryz.prog.cellsOf 3 = 1 := by kernel_rfl
  rw [c110] at hl
  match cs, hl with
  | [v0, v1, v2, v3], _ =>
    have f0 : DataW.trod enc Tryz.prog w base spare held n 9 [v0] = xs[0]? := by
      have h := hf 0 ⟨"Name", 9, 0, false, "", "", 0⟩ rfl
      dsimp only at h
      rw [c9] at h
      exact h
    have f1 : DataW.trod enc Tryz.prog w base spare held n 3 [v1] = xs[1]? := by
      have h := hf 1 ⟨"Kind", 3, 1, false, "", "", 16⟩ rfl
      dsimp only at h
      rw [c3] at h
      exact h
    have f2 : DataW.trod enc Tryz.prog w base spare held n 3 [v2] = xs[2]? := by
      have h := hf 2 ⟨"Lo", 3, 2, false, "", "", 24⟩ rfl
      dsimp only at h
      rw [c3] at h
      exact h
    have f3 : DataW.trod enc Tryz.prog w base spare held n 3 [v3] = xs[3]? := by
      have h := hf 3 ⟨"Hi", 3, 3, false, "", "", 32⟩ rfl
      dsimp only at h
      rw [c3] at h
      exact h
    rw [List.getElem?_eq_getElem (by rw [hxl]; decide)] at f0 f1 f2 f3
    obtain ⟨s0, e0, g0⟩ := opn_string Tryz.underlying9 n _ _ f0
    obtain ⟨n1, e1, g1⟩ := opn_int Tryz.underlying3 n _ _ f1
    obtain ⟨n2, e2, g2⟩ := opn_int Tryz.underlying3 n _ _ f2
    obtain ⟨n3, e3, g3⟩ := opn_int Tryz.underlying3 n _ _ f3
    injection e0 with e0; injection e1 with e1; injection e2 with e2; injection e3 with e3
    subst e0; subst e1; subst e2; subst e3
    exact ⟨⟨s0, n1, n2, n3⟩, k110_mk w ⟨s0, n1, n2, n3⟩, g0, g1, g2, g3⟩
/-- each node of a formula is good -/
def good24 (x : S24) : Prop := ∀ y ∈ nodes x, goodI y.f0 ∧ goodS y.f1 ∧ goodI y.f2 ∧ goodI y.f3 ∧ y.f4.length ≤ 9223372036854775807
theorem good24.strOk {x : S24} (h : good24 x) : strOk x := fun y hy => (h y hy).2.1
theorem good24.lensOk {x : S24} (h : good24 x) : lensOk x := fun y hy => (h y hy).2.2.2.2
theorem good24_mk {x : S24} (h0 : goodI x.f0) (h1 : goodS x.f1) (h2 : goodI x.f2) (h3 : goodI x.f3) (h4 : goodL good24 x.f4) : good24 x := fun y hy => by
  rw [nodes_eq] at hy
  rcases List.mem_cons.1 hy with rfl | hy
  · exact ⟨h0, h1, h2, h3, h4.1⟩
  · obtain ⟨l, hl, hyl⟩ := List.mem_flatten.1 hy
    obtain ⟨z, hz, rfl⟩ := List.mem_map.1 hl
    exact h4.2 z hz y hyl
set_option maxRecDepth 100000 in
theorem opn_S24 : ∀ m : Nat, Opn enc w base spare held k24 good24 24 m := fun m => by
  induction m using Nat.strongRecOn with
  | _ m ih =>
  intro cs x h
  obtain ⟨xs, n, rfl, _, hl, hxl, hf⟩ := DataW.trod_struct Tryz.underlying24 h
  have c24 : Tryz.prog.cellsOf 24 = 5 := by kernel_rfl
  have c9 : Tryz.prog.cellsOf 9 = 1 := by kernel_rfl
  have c3 : Tryz.prog.cellsOf 3 = 1 := by kernel_rfl
  have c22 : Tryz.prog.cellsOf 22 = 1 := by kernel_rfl
  rw [c24] at hl
  match cs, hl with
  | [v0, v1, v2, v3, v4], _ =>
    have f0 : DataW.trod enc Tryz.prog w base spare held n 3 [v0] = xs[0]? := by
      have h := hf 0 ⟨"Op", 3, 0, false, "", "", 0⟩ rfl
      dsimp only at h
      rw [c3] at h
      exact h
    have f1 : DataW.trod enc Tryz.prog w base spare held n 9 [v1] = xs[1]? := by
      have h := hf 1 ⟨"Name", 9, 1, false, "", "", 8⟩ rfl
      dsimp only at h
      rw [c9] at h
      exact h
    have f2 : DataW.trod enc Tryz.prog w base spare held n 3 [v2] = xs[2]? := by
      have h := hf 2 ⟨"Cmp", 3, 2, false, "", "", 24⟩ rfl
      dsimp only at h
      rw [c3] at h
      exact h
    have f3 : DataW.trod enc Tryz.prog w base spare held n 3 [v3] = xs[3]? := by
      have h := hf 3 ⟨"N", 3, 3, false, "", "", 32⟩ rfl
      dsimp only at h
      rw [c3] at h
      exact h
    have f4 : DataW.trod enc Tryz.prog w base spare held n 22 [v4] = xs[4]? := by
      have h := hf 4 ⟨"Kids", 22, 4, false, "", "", 40⟩ rfl
      dsimp only at h
      rw [c22] at h
      exact h
    rw [List.getElem?_eq_getElem (by rw [hxl]; decide)] at f0 f1 f2 f3 f4
    obtain ⟨n0, e0, g0⟩ := opn_int Tryz.underlying3 n _ _ f0
    obtain ⟨s1, e1, g1⟩ := opn_string Tryz.underlying9 n _ _ f1
    obtain ⟨n2, e2, g2⟩ := opn_int Tryz.underlying3 n _ _ f2
    obtain ⟨n3, e3, g3⟩ := opn_int Tryz.underlying3 n _ _ f3
    obtain ⟨l4, ⟨A4, q4, e4, hl4, hC4⟩, g4⟩ := opn_slice (d := k24) (good := good24) (m := n) Tryz.underlying22 c24 (fun k hk => ih k (by omega)) _ _ f4
    injection e0 with e0; injection e1 with e1; injection e2 with e2; injection e3 with e3; injection e4 with e4
    subst e0; subst e1; subst e2; subst e3; subst e4
    exact ⟨⟨n0, s1, n2, n3, l4⟩, k24_mk w ⟨n0, s1, n2, n3, l4⟩ hl4 hC4, good24_mk g0 g1 g2 g3 g4⟩
set_option maxRecDepth 100000 in
theorem opn_S65 : ∀ m : Nat, Opn enc w base spare held k65 (fun _ => True) 65 m := fun m => by
  induction m using Nat.strongRecOn with
  | _ m ih =>
  intro cs x h
  obtain ⟨xs, n, rfl, _, hl, hxl, hf⟩ := DataW.trod_struct Tryz.underlying65 h
  have c65 : Tryz.prog.cellsOf 65 = 4 := by kernel_rfl
  have c9 : Tryz.prog.cellsOf 9 = 1 := by kernel_rfl
  have c3 : Tryz.prog.cellsOf 3 = 1 := by kernel_rfl
  have c63 : Tryz.prog.cellsOf 63 = 1 := by kernel_rfl
  rw [c65] at hl
  match cs, hl with
  | [v0, v1, v2, v3], _ =>
    have f0 : DataW.trod enc Tryz.prog w base spare held n 3 [v0] = xs[0]? := by
      have h := hf 0 ⟨"Op", 3, 0, false, "", "", 0⟩ rfl
      dsimp only at h
      rw [c3] at h
      exact h
    have f1 : DataW.trod enc Tryz.prog w base spare held n 9 [v1] = xs[1]? := by
      have h := hf 1 ⟨"Name", 9, 1, false, "", "", 8⟩ rfl
      dsimp only at h
      rw [c9] at h
      exact h
    have f2 : DataW.trod enc Tryz.prog w base spare held n 3 [v2] = xs[2]? := by
      have h := hf 2 ⟨"Day", 3, 2, false, "", "", 24⟩ rfl
      dsimp only at h
      rw [c3] at h
      exact h
    have f3 : DataW.trod enc Tryz.prog w base spare held n 63 [v3] = xs[3]? := by
      have h := hf 3 ⟨"Kids", 63, 3, false, "", "", 32⟩ rfl
      dsimp only at h
      rw [c63] at h
      exact h
    rw [List.getElem?_eq_getElem (by rw [hxl]; decide)] at f0 f1 f2 f3
    obtain ⟨n0, e0, g0⟩ := opn_int Tryz.underlying3 n _ _ f0
    obtain ⟨s1, e1, g1⟩ := opn_string Tryz.underlying9 n _ _ f1
    obtain ⟨n2, e2, g2⟩ := opn_int Tryz.underlying3 n _ _ f2
    obtain ⟨l3, ⟨A3, q3, e3, hl3, hC3⟩, g3⟩ := opn_slice (d := k65) (good := fun _ => True) (m := n) Tryz.underlying63 c65 (fun k hk => ih k (by omega)) _ _ f3
    injection e0 with e0; injection e1 with e1; injection e2 with e2; injection e3 with e3
    subst e0; subst e1; subst e2; subst e3
    exact ⟨⟨n0, s1, n2, l3⟩, k65_mk w ⟨n0, s1, n2, l3⟩ hl3 hC3, trivial⟩
/-- a provision is good -/
def good67 (p : S67) : Prop := goodS p.f0 ∧ goodI p.f1 ∧ goodI p.f2 ∧ goodS p.f3 ∧ goodI p.f4 ∧ good24 p.f5 ∧ goodL goodS p.f6
set_option maxRecDepth 100000 in
theorem opn_S67 (m : Nat) : Opn enc w base spare held k67 good67 67 m := fun cs x h => by
  obtain ⟨xs, n, rfl, _, hl, hxl, hf⟩ := DataW.trod_struct Tryz.underlying67 h
  have c67 : Tryz.prog.cellsOf 67 = 23 := by kernel_rfl
  have c9 : Tryz.prog.cellsOf 9 = 1 := by kernel_rfl
  have c3 : Tryz.prog.cellsOf 3 = 1 := by kernel_rfl
  have c24 : Tryz.prog.cellsOf 24 = 5 := by kernel_rfl
  have c65 : Tryz.prog.cellsOf 65 = 4 := by kernel_rfl
  have c54 : Tryz.prog.cellsOf 54 = 1 := by kernel_rfl
  rw [c67] at hl
  match cs, hl with
  | [v0, v1, v2, v3, v4, v5, v6, v7, v8, v9, v10, v11, v12, v13, v14, v15, v16, v17, v18, v19, v20, v21, v22], _ =>
    have f0 : DataW.trod enc Tryz.prog w base spare held n 9 [v0] = xs[0]? := by
      have h := hf 0 ⟨"Id", 9, 0, false, "", "", 0⟩ rfl
      dsimp only at h
      rw [c9] at h
      exact h
    have f1 : DataW.trod enc Tryz.prog w base spare held n 3 [v1] = xs[1]? := by
      have h := hf 1 ⟨"Rank", 3, 1, false, "", "", 16⟩ rfl
      dsimp only at h
      rw [c3] at h
      exact h
    have f2 : DataW.trod enc Tryz.prog w base spare held n 3 [v2] = xs[2]? := by
      have h := hf 2 ⟨"Kind", 3, 2, false, "", "", 24⟩ rfl
      dsimp only at h
      rw [c3] at h
      exact h
    have f3 : DataW.trod enc Tryz.prog w base spare held n 9 [v3] = xs[3]? := by
      have h := hf 3 ⟨"Name", 9, 3, false, "", "", 32⟩ rfl
      dsimp only at h
      rw [c9] at h
      exact h
    have f4 : DataW.trod enc Tryz.prog w base spare held n 3 [v4] = xs[4]? := by
      have h := hf 4 ⟨"Value", 3, 4, false, "", "", 48⟩ rfl
      dsimp only at h
      rw [c3] at h
      exact h
    have f5 : DataW.trod enc Tryz.prog w base spare held n 24 [v5, v6, v7, v8, v9] = xs[5]? := by
      have h := hf 5 ⟨"When", 24, 5, false, "", "", 56⟩ rfl
      dsimp only at h
      rw [c24] at h
      exact h
    have f6 : DataW.trod enc Tryz.prog w base spare held n 54 [v10] = xs[6]? := by
      have h := hf 6 ⟨"Except", 54, 10, false, "", "", 120⟩ rfl
      dsimp only at h
      rw [c54] at h
      exact h
    have f7 : DataW.trod enc Tryz.prog w base spare held n 65 [v11, v12, v13, v14] = xs[7]? := by
      have h := hf 7 ⟨"Begin", 65, 11, false, "", "", 144⟩ rfl
      dsimp only at h
      rw [c65] at h
      exact h
    have f8 : DataW.trod enc Tryz.prog w base spare held n 65 [v15, v16, v17, v18] = xs[8]? := by
      have h := hf 8 ⟨"End", 65, 15, false, "", "", 200⟩ rfl
      dsimp only at h
      rw [c65] at h
      exact h
    have f9 : DataW.trod enc Tryz.prog w base spare held n 65 [v19, v20, v21, v22] = xs[9]? := by
      have h := hf 9 ⟨"Again", 65, 19, false, "", "", 256⟩ rfl
      dsimp only at h
      rw [c65] at h
      exact h
    rw [List.getElem?_eq_getElem (by rw [hxl]; decide)] at f0 f1 f2 f3 f4 f5 f6 f7 f8 f9
    obtain ⟨s0, e0, g0⟩ := opn_string Tryz.underlying9 n _ _ f0
    obtain ⟨n1, e1, g1⟩ := opn_int Tryz.underlying3 n _ _ f1
    obtain ⟨n2, e2, g2⟩ := opn_int Tryz.underlying3 n _ _ f2
    obtain ⟨s3, e3, g3⟩ := opn_string Tryz.underlying9 n _ _ f3
    obtain ⟨n4, e4, g4⟩ := opn_int Tryz.underlying3 n _ _ f4
    obtain ⟨x5, h5, g5⟩ := opn_S24 n _ _ f5
    obtain ⟨l6, ⟨A10, q10, e6, hl6, hC6⟩, g6⟩ := opn_slice (d := Kd.string) (good := goodS) (m := n) Tryz.underlying54 c9 (fun k hk => opn_string Tryz.underlying9 k) _ _ f6
    obtain ⟨x7, h7, _⟩ := opn_S65 n _ _ f7
    obtain ⟨x8, h8, _⟩ := opn_S65 n _ _ f8
    obtain ⟨x9, h9, _⟩ := opn_S65 n _ _ f9
    obtain ⟨A9, q9, e5, hl5, hC5⟩ := k24_open h5
    obtain ⟨A14, q14, e7, hl7, hC7⟩ := k65_open h7
    obtain ⟨A18, q18, e8, hl8, hC8⟩ := k65_open h8
    obtain ⟨A22, q22, e9, hl9, hC9⟩ := k65_open h9
    injection e0 with e0; injection e1 with e1; injection e2 with e2; injection e3 with e3; injection e4 with e4; injection e6 with e6
    simp only [List.cons.injEq, and_true] at e5 e7 e8 e9
    obtain ⟨rfl, rfl, rfl, rfl, rfl⟩ := e5
    obtain ⟨rfl, rfl, rfl, rfl⟩ := e7
    obtain ⟨rfl, rfl, rfl, rfl⟩ := e8
    obtain ⟨rfl, rfl, rfl, rfl⟩ := e9
    subst e0; subst e1; subst e2; subst e3; subst e4; subst e6
    exact ⟨⟨s0, n1, n2, s3, n4, x5, l6, x7, x8, x9⟩, k67_mk w ⟨s0, n1, n2, s3, n4, x5, l6, x7, x8, x9⟩ hl5 hC5 hl6 hC6 hl7 hC7 hl8 hC8 hl9 hC9, g0, g1, g2, g3, g4, g5, g6⟩
end
end Go.Proofs.YtaigepddkgpplaaGreatDoor.M

end
section
/- A law that is read: the contracts of layer 14 at it. -/
namespace Go.Proofs.YtaigepddkgpplaaGreatDoor.M
open Go Go.RowKit Go.Maps Go.WideMaps Go.Proofs.YtaigepddkgpplaaGreatDoorW.PrintWords Go.Proofs.YtaigepddkgpplaaGreatDoorW.PrintLast Go.Proofs.YtaigepddkgpplaaGreatDoorW.PrintMore Go.Proofs.YtaigepddkgpplaaGreatDoor.B Go.Proofs.YtaigepddkgpplaaGreatDoor.T
set_option linter.unusedVariables false
set_option linter.unusedSimpArgs false
/-- a law and a case that are read, and good -/
structure LawAt (w : World) (A : Option Addr) (fs : List S110) (A2 : Option Addr) (ps : List S67) : Prop where
  C1 : Kd.C k110 w A fs.length fs
  C2 : Kd.C k67 w A2 ps.length ps
  g1 : ∀ x ∈ fs, goodS x.f0
  g2 : ∀ p ∈ ps, good67 p
theorem LawAt.below {w W : World} {A : Option Addr} {fs : List S110} {A2 : Option Addr} {ps : List S67} (h : LawAt w A fs A2 ps) (hb : Below w.heap.size w W) : LawAt W A fs A2 ps := ⟨Kd.C_below h.C1 hb, Kd.C_below h.C2 hb, h.g1, h.g2⟩
theorem LawAt.few {w : World} {A : Option Addr} {fs : List S110} {A2 : Option Addr} {ps : List S67} (h : LawAt w A fs A2 ps) (c c2 : Nat) (A3 : Option Addr) (n3 c3 : Nat) (m : Int) : Calls Tryz.prog 30 #[.agg #[.slice A fs.length c, .slice A2 ps.length c2, .slice A3 n3 c3], .int .i64 m] w (FewP ps m w) :=
  few30 A fs c A2 ps c2 A3 n3 c3 m w h.C1.2.1 h.C2 fun p hp => (h.g2 p hp).2.2.2.2.2.1.lensOk
theorem LawAt.applies {w : World} {A : Option Addr} {fs : List S110} {A2 : Option Addr} {ps : List S67} (h : LawAt w A fs A2 ps) (hn : ps.length ≤ 1048576) (c c2 : Nat) (A3 : Option Addr) (n3 c3 : Nat) (Ac : Option Addr) (cs : List Int) (cc : Nat) (hC3 : Kd.C (Kd.int .i64) w Ac cs.length cs) :
    Calls Tryz.prog 31 #[.agg #[.slice A fs.length c, .slice A2 ps.length c2, .slice A3 n3 c3], .slice Ac cs.length cc] w (StrsRet w (appL fs ps cs) (appE fs ps cs)) :=
  Applies_calls A fs c A2 ps c2 A3 n3 c3 Ac cs cc w h.C1 h.C2 hC3 hn (fun p hp => ⟨(h.g2 p hp).1, (h.g2 p hp).2.2.2.2.2.2.2⟩) h.g1 fun p hp => (h.g2 p hp).2.2.2.2.2.1.strOk
theorem LawAt.blocked {w : World} {A : Option Addr} {fs : List S110} {A2 : Option Addr} {ps : List S67} (h : LawAt w A fs A2 ps) (hn : ps.length ≤ 1048576) (c c2 : Nat) (A3 : Option Addr) (n3 c3 : Nat) (id : ByteArray) (hi : goodS id) (Ac : Option Addr) (cs : List Int) (cc : Nat) (hC3 : Kd.C (Kd.int .i64) w Ac cs.length cs) :
    Calls Tryz.prog 33 #[.agg #[.slice A fs.length c, .slice A2 ps.length c2, .slice A3 n3 c3], .string id, .slice Ac cs.length cc] w (StrsRet w (blkL fs ps cs id) (blkE fs ps cs id)) :=
  Blocked_calls A fs c A2 ps c2 A3 n3 c3 id Ac cs cc w h.C1 h.C2 hC3 hn (fun p hp => ⟨(h.g2 p hp).1, (h.g2 p hp).2.2.2.2.2.2.2⟩) h.g1 (fun p hp => (h.g2 p hp).2.2.2.2.2.1.strOk) hi
theorem LawAt.circles {w : World} {A : Option Addr} {fs : List S110} {A2 : Option Addr} {ps : List S67} (h : LawAt w A fs A2 ps) (hn : ps.length ≤ 1048576) (c c2 : Nat) (A3 : Option Addr) (n3 c3 : Nat) :
    Calls Tryz.prog 37 #[.agg #[.slice A fs.length c, .slice A2 ps.length c2, .slice A3 n3 c3]] w (CirRet w ps) :=
  circles_calls A fs c A2 ps c2 A3 n3 c3 w h.C2 hn fun p hp => ⟨(h.g2 p hp).1, (h.g2 p hp).2.2.2.2.2.2.2⟩
theorem LawAt.holds {w : World} {A : Option Addr} {fs : List S110} {A2 : Option Addr} {ps : List S67} (h : LawAt w A fs A2 ps) (c : Nat) (x : S24) (hx : good24 x) (A4 : Option Addr) (c4 : Nat) (hl : x.f4.length ≤ c4) (hC4 : Kd.C k24 w A4 x.f4.length x.f4) (Ac : Option Addr) (cs : List Int) (cc : Nat) (hC3 : Kd.C (Kd.int .i64) w Ac cs.length cs) :
    Calls Tryz.prog 25 #[.agg #[.int .i64 x.f0, .string x.f1, .int .i64 x.f2, .int .i64 x.f3, .slice A4 x.f4.length c4], .agg #[.slice A fs.length c], .slice Ac cs.length cc, .slice none 0 0] w (RetB (holdsB fs cs [] x) w) :=
  Holds_calls A c fs x A4 c4 Ac cc cs none 0 [] w h.C1 h.g1 hl hC4 hx.strOk hC3 ⟨rfl, by simp, fun h => absurd h (Nat.lt_irrefl _)⟩
end Go.Proofs.YtaigepddkgpplaaGreatDoor.M

end
