/- fact.Index: the index of the first fact with a name, -1 if there is none. -/
import Derived.Test.YtaigepddkgpplaaGreatDoorQFits
import Derived.Test.YtaigepddkgpplaaGreatDoorQIdx
namespace Go.Proofs.YtaigepddkgpplaaGreatDoor.M
open Go Go.RowKit Go.Maps Go.WideMaps Go.Proofs.YtaigepddkgpplaaGreatDoorW.PrintWords Go.Proofs.YtaigepddkgpplaaGreatDoorW.PrintLast Go.Proofs.YtaigepddkgpplaaGreatDoorW.PrintMore Go.Proofs.YtaigepddkgpplaaGreatDoor.B
set_option linter.unusedVariables false
set_option linter.unusedSimpArgs false

theorem str_eq (a b : ByteArray) : (a.toList == b.toList) = decide (a = b) := by
  rw [Bool.eq_iff_iff, beq_iff_eq, decide_eq_true_iff]
  refine ⟨fun h => WideShapes.bytes_inj ?_, fun h => by rw [h]⟩
  rwa [toList_data, toList_data] at h
/-- the fact has the name -/
def isNm (name : ByteArray) (x : S110) : Bool := decide (x.f0 = name)
def idxI (fs : List S110) (name : ByteArray) : Int := firstI (isNm name) fs

theorem enters {f : FuncId} {fn : Func} {c : Code} (hf : Tryz.prog.funcs[f]? = some fn) (hname : (fn.name == "runtime.NumGoroutine") = false) (hb : fn.body = some c) : ∀ args w, (callFunc f args).run Tryz.prog w = .ok (.enter f args) w := Go.Proofs.enters_of hf hname hb
theorem enters135 : ∀ args w, (callFunc 135 args).run Tryz.prog w = .ok (.enter 135 args) w := enters Tryz.func135 (by kernel_rfl) rfl

theorem indexClosure (name : ByteArray) (b : Nat) (x : S110) (W : World) (hb : W.cell? ⟨b, 0, none⟩ = some (.string name)) :
    Calls Tryz.prog 135 #[.agg #[.string x.f0, .int .i64 x.f1, .int .i64 x.f2, .int .i64 x.f3], .pointer (some ⟨b, 0, none⟩)] W (RetB (isNm name x) W) := by
  have hfin : ∀ W', Below W.heap.size W W' → RetB (isNm name x) W (.returned (.bool (x.f0.toList == name.toList))) W' := fun W' h => ⟨by rw [str_eq]; rfl, h⟩
  have HF := Lib.hid hfin; clear hfin
  have hb1 := cell_alloc hb (.cells #[.string x.f0, .int .i64 x.f1, .int .i64 x.f2, .int .i64 x.f3] 110)
  go_enter Tryz.func135, Tryz.ntmps135
  go_wp2
  go_ret
  exact HF.out _ ((Below.refl _ _).alloc (Nat.le_refl _) _)

/-- the call returns this number; what was there lies as it lay -/
def RetI (i : Int) (w : World) (e : Ending) (w' : World) : Prop := e = .returned (.int .i64 i) ∧ Below w.heap.size w w'
theorem index_calls (A : Option Addr) (c : Nat) (fs : List S110) (name : ByteArray) (w : World) (hC : Kd.C k110 w A fs.length fs) :
    Calls Tryz.prog 80 #[.agg #[.slice A fs.length c], .string name] w (RetI (idxI fs name) w) := by
  obtain ⟨w0, hw0⟩ : ∃ w0, w0 = (w.alloc (.cells #[.slice A fs.length c] 27)).alloc (.cells #[.string name] 9) := ⟨_, rfl⟩
  have hb : Below w.heap.size w w0 := by rw [hw0]; exact ((Below.refl _ _).alloc (Nat.le_refl _) _).alloc (by simp) _
  have hlt : w.heap.size + 1 < w0.heap.size := by rw [hw0]; simp
  have hc0 : w0.cell? ⟨w.heap.size, 0, none⟩ = some (.slice A fs.length c) := by rw [hw0]; simp
  have hc1 : w0.cell? ⟨w.heap.size + 1, 0, none⟩ = some (.string name) := by rw [hw0]; simp
  have hi := indexFunc_134 A c fs 135 #[.pointer (some ⟨w.heap.size + 1, 0, none⟩)] (isNm name) (fun W => Below w0.heap.size w0 W) enters135 (fun W hW => Kd.C_below hC (hb.trans (hW.mono (by omega)))) (fun x hx W cs hW hK => by
    obtain rfl := k110_open hK
    exact (indexClosure name (w.heap.size + 1) x W ((hW.cell (p := ⟨w.heap.size + 1, 0, none⟩) hlt).trans hc1)).mono fun e W' h => ⟨h.1, hW.trans (h.2.mono hW.size)⟩) w0 (Below.refl _ _)
  have HI := Lib.hid hi
  have hfin : ∀ W, Below w0.heap.size w0 W → RetI (idxI fs name) w (.returned (.int .i64 (firstI (isNm name) fs))) W := fun W hW => ⟨rfl, hb.trans (hW.mono (by omega))⟩
  have HF := Lib.hid hfin
  clear hi hfin hC
  go_enter Tryz.func80, Tryz.ntmps80
  subst hw0
  go_wp2_with (refine HI.out.mono ?_; rintro e W ⟨rfl, hJ2⟩)
  go_ret
  exact HF.out _ hJ2
end Go.Proofs.YtaigepddkgpplaaGreatDoor.M

