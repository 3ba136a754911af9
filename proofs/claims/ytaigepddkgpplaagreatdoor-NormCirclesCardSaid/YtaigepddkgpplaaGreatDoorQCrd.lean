/- The listed variables as their initialisers lay them: a world that fits; and what an argument that is a law, or a case, gives. -/
import Derived.Test.YtaigepddkgpplaaGreatDoorRows
import Derived.Test.YtaigepddkgpplaaGreatDoorQLawAt
import Derived.Deep.DeepHandedRow
import Derived.Deep.DeepWitnessRowRef
import Derived.Lib.LaidIn
import Derived.ProofKit
import Derived.OpenShut
import Derived.SevenTiedAt
namespace Go.Proofs.YtaigepddkgpplaaGreatDoor.M
open Go Go.RowKit Go.Maps Go.WideMaps Go.Proofs.YtaigepddkgpplaaGreatDoorW.PrintWords Go.Proofs.YtaigepddkgpplaaGreatDoor.B
open Go.ChangeShapes Go.WideShapes Go.ChangeAt Go.RowKit Go.Lib
set_option linter.unusedVariables false
noncomputable def laidWorld (os : Os) : World :=
  let N := (World.settled Tryz.prog os).heap.size
  let w0 := World.holding Tryz.prog os ⟨#[.cells #[.string ⟨#[105, 110, 118, 97, 108, 105, 100, 32, 115, 121, 110, 116, 97, 120]⟩] 279, .cells #[.string ⟨#[118, 97, 108, 117, 101, 32, 111, 117, 116, 32, 111, 102, 32, 114, 97, 110, 103, 101]⟩] 279], #[], []⟩
  let put (h : Array Obj) (g : Nat) (cs : Array Value) : Array Obj := h.modify g fun
    | .cells _ t frozen => .cells cs t frozen
    | o => o
  let h0 := put (put w0.heap 3 #[.iface 277 (.pointer (some ⟨N, 0, none⟩))]) 4 #[.iface 277 (.pointer (some ⟨N + 1, 0, none⟩))]
  let h1 := put h0 0 #[.int .u64 1, .int .u64 10, .int .u64 100, .int .u64 1000, .int .u64 10000, .int .u64 100000, .int .u64 1000000, .int .u64 10000000, .int .u64 100000000, .int .u64 1000000000, .int .u64 10000000000, .int .u64 100000000000, .int .u64 1000000000000, .int .u64 10000000000000, .int .u64 100000000000000, .int .u64 1000000000000000, .int .u64 10000000000000000, .int .u64 100000000000000000, .int .u64 1000000000000000000, .int .u64 10000000000000000000]
  let h2 := put h1 1 #[.int .u8 0, .int .u8 1, .int .u8 28, .int .u8 2, .int .u8 29, .int .u8 14, .int .u8 24, .int .u8 3, .int .u8 30, .int .u8 22, .int .u8 20, .int .u8 15, .int .u8 25, .int .u8 17, .int .u8 4, .int .u8 8, .int .u8 31, .int .u8 27, .int .u8 13, .int .u8 23, .int .u8 21, .int .u8 19, .int .u8 16, .int .u8 7, .int .u8 26, .int .u8 12, .int .u8 18, .int .u8 6, .int .u8 11, .int .u8 5, .int .u8 10, .int .u8 9]
  let h3 := put h2 2 #[.int .u8 0, .int .u8 1, .int .u8 56, .int .u8 2, .int .u8 57, .int .u8 49, .int .u8 28, .int .u8 3, .int .u8 61, .int .u8 58, .int .u8 42, .int .u8 50, .int .u8 38, .int .u8 29, .int .u8 17, .int .u8 4, .int .u8 62, .int .u8 47, .int .u8 59, .int .u8 36, .int .u8 45, .int .u8 43, .int .u8 51, .int .u8 22, .int .u8 53, .int .u8 39, .int .u8 33, .int .u8 30, .int .u8 24, .int .u8 18, .int .u8 12, .int .u8 5, .int .u8 63, .int .u8 55, .int .u8 48, .int .u8 27, .int .u8 60, .int .u8 41, .int .u8 37, .int .u8 16, .int .u8 46, .int .u8 35, .int .u8 44, .int .u8 21, .int .u8 52, .int .u8 32, .int .u8 23, .int .u8 11, .int .u8 54, .int .u8 26, .int .u8 40, .int .u8 15, .int .u8 34, .int .u8 20, .int .u8 31, .int .u8 10, .int .u8 25, .int .u8 14, .int .u8 19, .int .u8 9, .int .u8 13, .int .u8 8, .int .u8 7, .int .u8 6]
  { w0 with heap := h3 }
noncomputable abbrev N0 : Nat := (World.settled Tryz.prog default).heap.size
theorem laid_in (os : Os) (args : Array Value) : LaidIn Tryz.prog ((laidWorld os).forCall (fun _ _ => 0) ⟨#[], args, []⟩).memory Rows.normDecidesRow.laid [1, 2, 0, 4, N0 + 1, 3, N0] :=
  LaidIn.of_run [1, 2, 0, 4, N0 + 1, 3, N0] 8 (by kernel_rfl) (by kernel_rfl) (by kernel_rfl) (by kernel_rfl)
theorem laid_met (os : Os) (args : Array Value) : laidMet Tryz.prog Rows.normDecidesRow.laid ((laidWorld os).forCall (fun _ _ => 0) ⟨#[], args, []⟩).memory := (laid_in os args).met
theorem own : ownKnob Tryz.prog.godebug = none := by kernel_rfl
theorem laidOut : laidOutB Tryz.prog = true := by kernel_rfl
theorem band {a b : Bool} (ha : a = true) (hb : b = true) : (a && b) = true := by rw [ha, hb]; rfl
theorem sh_laid : laidOutB Tryz.pinned.checked.prog = true := laidOut
theorem sh_maps : mapsRowed Tryz.pinned.checked.prog = true := by kernel_rfl
theorem sh_heard : Tryz.pinned.checked.prog.stopsHeard = true := by kernel_rfl
theorem sh_enter : Tryz.pinned.checked.prog.mayEnter = true := by kernel_rfl
theorem sh_lift : (Rows.normDecidesRow.lifted == Tryz.pinned.checked.prog.liftsFinal) = true := by kernel_rfl
theorem sh_make : (Tryz.pinned.checked.prog.make == some Rows.normDecidesRow.make) = true := by kernel_rfl
theorem sh_looks : true = Tryz.pinned.checked.prog.looks [] := by kernel_rfl
theorem sh_main : Tryz.pinned.checked.prog.mainIs = some (true, "646d0c6f47579348ff04eb2abd92198a90b0652a4afb9f165efcb67ce3b5a68c".toList) := by kernel_rfl
section
variable {H : Type} {enc : TypeId × Value → H} {w : World} {base : Nat} {spare : Nat → Bool} {held : Bool}
set_option maxRecDepth 100000 in
theorem opn_dom {m : Nat} {cs : List Value} {x : DataW H × List MemPlace} (h : DataW.trod enc Tryz.prog w base spare held m 27 cs = some x) : ∃ A fs c, cs = [.slice A fs.length c] ∧ fs.length ≤ c ∧ Kd.C k110 w A fs.length fs ∧ ∀ x ∈ fs, goodS x.f0 ∧ goodI x.f1 ∧ goodI x.f2 ∧ goodI x.f3 := by
  obtain ⟨xs, n, rfl, _, hl, hxl, hf⟩ := DataW.trod_struct Tryz.underlying27 h
  have c27 : Tryz.prog.cellsOf 27 = 1 := by kernel_rfl
  have c25 : Tryz.prog.cellsOf 25 = 1 := by kernel_rfl
  have c110 : Tryz.prog.cellsOf 110 = 4 := by kernel_rfl
  rw [c27] at hl
  match cs, hl with
  | [v0], _ =>
    have f0 : DataW.trod enc Tryz.prog w base spare held n 25 [v0] = xs[0]? := by
      have h := hf 0 ⟨"Facts", 25, 0, false, "", "", 0⟩ rfl
      dsimp only at h
      rw [c25] at h
      exact h
    rw [List.getElem?_eq_getElem (by rw [hxl]; decide)] at f0
    obtain ⟨l, ⟨A, c, e, hl1, hC⟩, g⟩ := opn_slice (d := k110) (m := n) Tryz.underlying25 c110 (fun k hk => opn_S110 k) _ _ f0
    exact ⟨A, l, c, e, hl1, hC, g.2⟩
set_option maxRecDepth 100000 in
theorem opn_law {m : Nat} {cs : List Value} {x : DataW H × List MemPlace} (h : DataW.trod enc Tryz.prog w base spare held m 52 cs = some x) :
    ∃ A fs c A2 ps c2 A3 n3 c3, cs = [.slice A fs.length c, .slice A2 ps.length c2, .slice A3 n3 c3] ∧ fs.length ≤ c ∧ ps.length ≤ c2 ∧ LawAt w A fs A2 ps := by
  obtain ⟨xs, n, rfl, _, hl, hxl, hf⟩ := DataW.trod_struct Tryz.underlying52 h
  have c52 : Tryz.prog.cellsOf 52 = 3 := by kernel_rfl
  have c27 : Tryz.prog.cellsOf 27 = 1 := by kernel_rfl
  have c50 : Tryz.prog.cellsOf 50 = 1 := by kernel_rfl
  have c28 : Tryz.prog.cellsOf 28 = 1 := by kernel_rfl
  have c67 : Tryz.prog.cellsOf 67 = 23 := by kernel_rfl
  have c3 : Tryz.prog.cellsOf 3 = 1 := by kernel_rfl
  rw [c52] at hl
  match cs, hl with
  | [v0, v1, v2], _ =>
    have f0 : DataW.trod enc Tryz.prog w base spare held n 27 [v0] = xs[0]? := by
      have h := hf 0 ⟨"Domain", 27, 0, false, "", "", 0⟩ rfl
      dsimp only at h
      rw [c27] at h
      exact h
    have f1 : DataW.trod enc Tryz.prog w base spare held n 50 [v1] = xs[1]? := by
      have h := hf 1 ⟨"Provisions", 50, 1, false, "", "", 24⟩ rfl
      dsimp only at h
      rw [c50] at h
      exact h
    have f2 : DataW.trod enc Tryz.prog w base spare held n 28 [v2] = xs[2]? := by
      have h := hf 2 ⟨"Since", 28, 2, false, "", "", 48⟩ rfl
      dsimp only at h
      rw [c28] at h
      exact h
    rw [List.getElem?_eq_getElem (by rw [hxl]; decide)] at f0 f1 f2
    obtain ⟨A, fs, c, e0, hl0, hC0, g0⟩ := opn_dom f0
    obtain ⟨ps, ⟨A2, c2, e1, hl1, hC1⟩, g1⟩ := opn_slice (d := k67) (m := n) Tryz.underlying50 c67 (fun k hk => opn_S67 k) _ _ f1
    obtain ⟨is, ⟨A3, c4, e2, _, _⟩, _⟩ := opn_slice (d := Kd.int .i64) (m := n) Tryz.underlying28 c3 (fun k hk => opn_int Tryz.underlying3 k) _ _ f2
    injection e0 with e0; injection e1 with e1; injection e2 with e2
    subst e0; subst e1; subst e2
    exact ⟨A, fs, c, A2, ps, c2, A3, is.length, c4, rfl, hl0, hl1, hC0, hC1, fun x hx => (g0 x hx).1, g1.2⟩
theorem opn_case {m : Nat} {cs : List Value} {x : DataW H × List MemPlace} (h : DataW.trod enc Tryz.prog w base spare held m 29 cs = some x) : ∃ A xs c, cs = [.slice A xs.length c] ∧ xs.length ≤ c ∧ Kd.C (Kd.int .i64) w A xs.length xs ∧ ∀ x ∈ xs, goodI x := by
  have c3 : Tryz.prog.cellsOf 3 = 1 := by kernel_rfl
  obtain ⟨l, ⟨A, c, e, hl1, hC⟩, g⟩ := opn_slice (d := Kd.int .i64) (m := m) Tryz.underlying29 c3 (fun k hk => opn_int Tryz.underlying3 k) _ _ h
  exact ⟨A, l, c, e, hl1, hC, g.2⟩
set_option maxRecDepth 100000 in
theorem arg_law {v : Value} {d : DataW H} {p : List MemPlace} {r : Reach} {b0 : Nat} (hv : Value.okWide Tryz.prog w r b0 52 v) (h : DataW.Trod enc Tryz.prog w base spare held 52 v d p) :
    ∃ A fs c A2 ps c2 A3 n3 c3, v = .agg #[.slice A fs.length c, .slice A2 ps.length c2, .slice A3 n3 c3] ∧ fs.length ≤ c ∧ ps.length ≤ c2 ∧ LawAt w A fs A2 ps := by
  obtain ⟨cs, rfl, _⟩ := okWide_struct Tryz.underlying52 hv
  obtain ⟨fuel, hf⟩ := h
  obtain ⟨A, fs, c, A2, ps, c2, A3, n3, c3, e, h1, h2, h3⟩ := opn_law (by simpa [Value.cells] using hf)
  refine ⟨A, fs, c, A2, ps, c2, A3, n3, c3, ?_, h1, h2, h3⟩
  congr 1
  apply Array.ext'
  simpa using e
set_option maxRecDepth 100000 in
theorem arg_case {v : Value} {d : DataW H} {p : List MemPlace} {r : Reach} {b0 : Nat} (hv : Value.okWide Tryz.prog w r b0 29 v) (h : DataW.Trod enc Tryz.prog w base spare held 29 v d p) : ∃ A xs c, v = .slice A xs.length c ∧ xs.length ≤ c ∧ Kd.C (Kd.int .i64) w A xs.length xs ∧ ∀ x ∈ xs, goodI x := by
  obtain ⟨a, l, c, rfl⟩ := okWide_slice Tryz.underlying29 hv
  obtain ⟨fuel, hf⟩ := h
  obtain ⟨A, xs, c', e, h1⟩ := opn_case (by simpa [Value.cells] using hf)
  refine ⟨A, xs, c', ?_, h1⟩
  injection e
end
end Go.Proofs.YtaigepddkgpplaaGreatDoor.M

