/- formula.Size -/
import Derived.Test.YtaigepddkgpplaaGreatDoorQBx5
import Derived.Test.YtaigepddkgpplaaGreatDoorQNodes
namespace Go.Proofs.YtaigepddkgpplaaGreatDoor.M
open Go Go.RowKit Go.Maps Go.WideMaps Go.Proofs.YtaigepddkgpplaaGreatDoorW.PrintWords Go.Proofs.YtaigepddkgpplaaGreatDoorW.PrintLast Go.Proofs.YtaigepddkgpplaaGreatDoorW.PrintMore Go.Proofs.YtaigepddkgpplaaGreatDoor.B
set_option linter.unusedVariables false
set_option linter.unusedSimpArgs false

def joinD (a b : Int × Int) : Int × Int := (wrap64 (a.1 + b.1), mx a.2 b.2)
/-- what formula.Size answers -/
def sizeD (x : S24) : Int × Int :=
  let r := (x.f4.attach.map fun y => sizeD y.1).foldl joinD (1, 0)
  (r.1, wrap64 (r.2 + 1))
termination_by SizeOf.sizeOf x
decreasing_by exact kid_lt y.2
theorem sizeD_eq (x : S24) : sizeD x = (((x.f4.map sizeD).foldl joinD (1, 0)).1, wrap64 (((x.f4.map sizeD).foldl joinD (1, 0)).2 + 1)) := by
  rw [sizeD]
  have e : (x.f4.attach.map fun y => sizeD y.1) = x.f4.map sizeD := List.attach_map_val
  simp only [e]
/-- all kids' rows are of a length that a slice has -/
def lensOk (x : S24) : Prop := ∀ y ∈ nodes x, y.f4.length ≤ 9223372036854775807
theorem lensOk.kid {x y : S24} (h : lensOk x) (hy : y ∈ x.f4) : lensOk y := fun z hz => h z (nodes_kid hy hz)
theorem size_f_le {k k' : Nat} (h : k ≤ k') {a b c d e r} (hr : formula_Size.f k a b c d e = some r) : formula_Size.f k' a b c d e = some r := by
  induction h with
  | refl => exact hr
  | step _ ih => exact formula_Size.mono _ _ _ _ _ _ _ ih
theorem size_l_le {k k' : Nat} (h : k ≤ k') {a b c d e r} (hr : formula_Size.l0 k a b c d e = some r) : formula_Size.l0 k' a b c d e = some r := by
  induction h with
  | refl => exact hr
  | step _ ih => exact (formula_Size.mono_l _).2 _ _ _ _ _ _ ih
theorem size_some (x : S24) (hx : lensOk x) : ∃ k, formula_Size.f k x.f0 x.f1 x.f2 x.f3 x.f4 = some (sizeD x) := by
  induction x using S24.ind with
  | h x ih =>
    have hl : x.f4.length ≤ 9223372036854775807 := hx x (nodes_self x)
    have key : ∀ (j i : Nat) (acc : Int × Int), i + j = x.f4.length → ∃ k, formula_Size.l0 k acc.1 acc.2 x.f4 (x.f4.length : Int) (i : Int) =
        some ((((x.f4.drop i).map sizeD).foldl joinD acc).1, wrap64 ((((x.f4.drop i).map sizeD).foldl joinD acc).2 + 1)) := by
      intro j
      induction j with
      | zero =>
        intro i acc hi
        refine ⟨1, ?_⟩
        have hd : x.f4.drop i = [] := List.drop_eq_nil_of_le (by omega)
        rw [hd, formula_Size.l0, if_neg (by omega)]
        rfl
      | succ j ihj =>
        intro i acc hi
        have hlt : i < x.f4.length := by omega
        obtain ⟨k1, h1⟩ := ih x.f4[i] (List.getElem_mem hlt) (hx.kid (List.getElem_mem hlt))
        obtain ⟨k2, h2⟩ := ihj (i + 1) (joinD acc (sizeD x.f4[i])) (by omega)
        refine ⟨max k1 k2 + 1, ?_⟩
        have er : rd_T24 x.f4 (i : Int) = x.f4[i] := by simp [rd_T24, hlt]
        have ew : wrap64 ((i : Int) + 1) = ((i + 1 : Nat) : Int) := by rw [show ((i : Int) + 1) = ((i + 1 : Nat) : Int) from by omega]; unfold wrap64; omega
        rw [formula_Size.l0, if_pos (by omega), if_pos (by omega), if_pos (by omega), er, size_f_le (Nat.le_max_left k1 k2) h1, ew]
        simp only [Option.bind_some]
        have h3 := size_l_le (Nat.le_max_right k1 k2) h2
        simp only [joinD] at h3
        rw [h3, List.drop_eq_getElem_cons hlt]
        simp only [List.map_cons, List.foldl_cons, joinD]
    obtain ⟨k, hk⟩ := key x.f4.length 0 (1, 0) (by omega)
    refine ⟨k + 1, ?_⟩
    rw [formula_Size.f, sizeD_eq]
    simpa using hk
end Go.Proofs.YtaigepddkgpplaaGreatDoor.M

