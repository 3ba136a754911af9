/- Reads of elements of a slice at a natural index. Written by a program (wip/genhelp.py) out of the printed base text. -/
import Derived.Test.YtaigepddkgpplaaGreatDoorQBx0
import Derived.Test.YtaigepddkgpplaaGreatDoorQMap
import Derived.Lib.Hide
import Derived.Outline
import Derived.RangeFuncOwn
import Derived.OneCell
namespace Go.Proofs.YtaigepddkgpplaaGreatDoor.M
open Go Go.RowKit Go.Maps Go.WideMaps Go.Proofs.YtaigepddkgpplaaGreatDoorW.PrintWords Go.Proofs.YtaigepddkgpplaaGreatDoorW.PrintLast Go.Proofs.YtaigepddkgpplaaGreatDoorW.PrintMore Go.Proofs.YtaigepddkgpplaaGreatDoor.B
set_option linter.unusedVariables false

theorem nt_T24 {w : World} {A : Option Addr} {n : Nat} {xs : List S24} (h : Kd.C k24 w A n xs) (i : Nat) (hi : i < xs.length) : ∃ ad A4 c4, A = some ad ∧ w.cell? (ad.add (i * 5)) = some (.int .i64 xs[i].f0) ∧ w.cell? ⟨(ad.add (i * 5)).block, (ad.add (i * 5)).off + 1, none⟩ = some (.string xs[i].f1) ∧ w.cell? ⟨(ad.add (i * 5)).block, (ad.add (i * 5)).off + 2, none⟩ = some (.int .i64 xs[i].f2) ∧ w.cell? ⟨(ad.add (i * 5)).block, (ad.add (i * 5)).off + 3, none⟩ = some (.int .i64 xs[i].f3) ∧ w.cell? ⟨(ad.add (i * 5)).block, (ad.add (i * 5)).off + 4, none⟩ = some (.slice A4 xs[i].f4.length c4) ∧ xs[i].f4.length ≤ c4 ∧ k24.C w A4 xs[i].f4.length xs[i].f4 := by
  have h2 := at_T24 h (i : Int) (by omega) (by have := h.1; omega)
  rwa [show rd_T24 xs (i : Int) = xs[i] from by simp [rd_T24, hi], Int.toNat_natCast] at h2
theorem nt_L4 {w : World} {A : Option Addr} {n : Nat} {xs : List (List Int)} (h : Kd.C (Kd.slice 3 (Kd.int .i64)) w A n xs) (i : Nat) (hi : i < xs.length) : ∃ ad A0 c0, A = some ad ∧ w.cell? (ad.add i) = some (.slice A0 xs[i].length c0) ∧ xs[i].length ≤ c0 ∧ (Kd.int .i64).C w A0 xs[i].length xs[i] := by
  have h2 := at_L4 h (i : Int) (by omega) (by have := h.1; omega)
  rwa [show rd_L4 xs (i : Int) = xs[i] from by simp [rd_L4, hi], Int.toNat_natCast] at h2
theorem nt_T110 {w : World} {A : Option Addr} {n : Nat} {xs : List S110} (h : Kd.C k110 w A n xs) (i : Nat) (hi : i < xs.length) : ∃ ad , A = some ad ∧ w.cell? (ad.add (i * 4)) = some (.string xs[i].f0) ∧ w.cell? ⟨(ad.add (i * 4)).block, (ad.add (i * 4)).off + 1, none⟩ = some (.int .i64 xs[i].f1) ∧ w.cell? ⟨(ad.add (i * 4)).block, (ad.add (i * 4)).off + 2, none⟩ = some (.int .i64 xs[i].f2) ∧ w.cell? ⟨(ad.add (i * 4)).block, (ad.add (i * 4)).off + 3, none⟩ = some (.int .i64 xs[i].f3) := by
  have h2 := at_T110 h (i : Int) (by omega) (by have := h.1; omega)
  rwa [show rd_T110 xs (i : Int) = xs[i] from by simp [rd_T110, hi], Int.toNat_natCast] at h2
theorem nt_L8 {w : World} {A : Option Addr} {n : Nat} {xs : List (List ByteArray)} (h : Kd.C (Kd.slice 9 Kd.string) w A n xs) (i : Nat) (hi : i < xs.length) : ∃ ad A0 c0, A = some ad ∧ w.cell? (ad.add i) = some (.slice A0 xs[i].length c0) ∧ xs[i].length ≤ c0 ∧ Kd.string.C w A0 xs[i].length xs[i] := by
  have h2 := at_L8 h (i : Int) (by omega) (by have := h.1; omega)
  rwa [show rd_L8 xs (i : Int) = xs[i] from by simp [rd_L8, hi], Int.toNat_natCast] at h2
theorem nt_T67 {w : World} {A : Option Addr} {n : Nat} {xs : List S67} (h : Kd.C k67 w A n xs) (i : Nat) (hi : i < xs.length) : ∃ ad A9 c9 A10 c10 A14 c14 A18 c18 A22 c22, A = some ad ∧ w.cell? (ad.add (i * 23)) = some (.string xs[i].f0) ∧ w.cell? ⟨(ad.add (i * 23)).block, (ad.add (i * 23)).off + 1, none⟩ = some (.int .i64 xs[i].f1) ∧ w.cell? ⟨(ad.add (i * 23)).block, (ad.add (i * 23)).off + 2, none⟩ = some (.int .i64 xs[i].f2) ∧ w.cell? ⟨(ad.add (i * 23)).block, (ad.add (i * 23)).off + 3, none⟩ = some (.string xs[i].f3) ∧ w.cell? ⟨(ad.add (i * 23)).block, (ad.add (i * 23)).off + 4, none⟩ = some (.int .i64 xs[i].f4) ∧ w.cell? ⟨(ad.add (i * 23)).block, (ad.add (i * 23)).off + 5, none⟩ = some (.int .i64 xs[i].f5.f0) ∧ w.cell? ⟨(ad.add (i * 23)).block, (ad.add (i * 23)).off + 6, none⟩ = some (.string xs[i].f5.f1) ∧ w.cell? ⟨(ad.add (i * 23)).block, (ad.add (i * 23)).off + 7, none⟩ = some (.int .i64 xs[i].f5.f2) ∧ w.cell? ⟨(ad.add (i * 23)).block, (ad.add (i * 23)).off + 8, none⟩ = some (.int .i64 xs[i].f5.f3) ∧ w.cell? ⟨(ad.add (i * 23)).block, (ad.add (i * 23)).off + 9, none⟩ = some (.slice A9 xs[i].f5.f4.length c9) ∧ w.cell? ⟨(ad.add (i * 23)).block, (ad.add (i * 23)).off + 10, none⟩ = some (.slice A10 xs[i].f6.length c10) ∧ w.cell? ⟨(ad.add (i * 23)).block, (ad.add (i * 23)).off + 11, none⟩ = some (.int .i64 xs[i].f7.f0) ∧ w.cell? ⟨(ad.add (i * 23)).block, (ad.add (i * 23)).off + 12, none⟩ = some (.string xs[i].f7.f1) ∧ w.cell? ⟨(ad.add (i * 23)).block, (ad.add (i * 23)).off + 13, none⟩ = some (.int .i64 xs[i].f7.f2) ∧ w.cell? ⟨(ad.add (i * 23)).block, (ad.add (i * 23)).off + 14, none⟩ = some (.slice A14 xs[i].f7.f3.length c14) ∧ w.cell? ⟨(ad.add (i * 23)).block, (ad.add (i * 23)).off + 15, none⟩ = some (.int .i64 xs[i].f8.f0) ∧ w.cell? ⟨(ad.add (i * 23)).block, (ad.add (i * 23)).off + 16, none⟩ = some (.string xs[i].f8.f1) ∧ w.cell? ⟨(ad.add (i * 23)).block, (ad.add (i * 23)).off + 17, none⟩ = some (.int .i64 xs[i].f8.f2) ∧ w.cell? ⟨(ad.add (i * 23)).block, (ad.add (i * 23)).off + 18, none⟩ = some (.slice A18 xs[i].f8.f3.length c18) ∧ w.cell? ⟨(ad.add (i * 23)).block, (ad.add (i * 23)).off + 19, none⟩ = some (.int .i64 xs[i].f9.f0) ∧ w.cell? ⟨(ad.add (i * 23)).block, (ad.add (i * 23)).off + 20, none⟩ = some (.string xs[i].f9.f1) ∧ w.cell? ⟨(ad.add (i * 23)).block, (ad.add (i * 23)).off + 21, none⟩ = some (.int .i64 xs[i].f9.f2) ∧ w.cell? ⟨(ad.add (i * 23)).block, (ad.add (i * 23)).off + 22, none⟩ = some (.slice A22 xs[i].f9.f3.length c22) ∧ xs[i].f5.f4.length ≤ c9 ∧ k24.C w A9 xs[i].f5.f4.length xs[i].f5.f4 ∧ xs[i].f6.length ≤ c10 ∧ Kd.string.C w A10 xs[i].f6.length xs[i].f6 ∧ xs[i].f7.f3.length ≤ c14 ∧ k65.C w A14 xs[i].f7.f3.length xs[i].f7.f3 ∧ xs[i].f8.f3.length ≤ c18 ∧ k65.C w A18 xs[i].f8.f3.length xs[i].f8.f3 ∧ xs[i].f9.f3.length ≤ c22 ∧ k65.C w A22 xs[i].f9.f3.length xs[i].f9.f3 := by
  have h2 := at_T67 h (i : Int) (by omega) (by have := h.1; omega)
  rwa [show rd_T67 xs (i : Int) = xs[i] from by simp [rd_T67, hi], Int.toNat_natCast] at h2
theorem nt_int {w : World} {A : Option Addr} {n : Nat} {xs : List Int} (h : Kd.C (Kd.int .i64) w A n xs) (i : Nat) (hi : i < xs.length) : ∃ ad, A = some ad ∧ w.cell? (ad.add i) = some (.int .i64 xs[i]) := by
  obtain ⟨ad, c, rfl, _, hK, hc⟩ := Kd.C_get h 0 (i : Int) (by omega) (by have := h.1; omega)
  obtain rfl := hK
  have := hc 0 _ rfl
  rw [show xs.getD (i : Int).toNat 0 = xs[i] from by simp [hi]] at this
  refine ⟨ad, rfl, ?_⟩
  have e : (Kd.sz (Kd.int .i64)) = 1 := rfl
  rw [e] at this
  simpa using this
theorem nt_str {w : World} {A : Option Addr} {n : Nat} {xs : List ByteArray} (h : Kd.C Kd.string w A n xs) (i : Nat) (hi : i < xs.length) : ∃ ad, A = some ad ∧ w.cell? (ad.add i) = some (.string xs[i]) := by
  obtain ⟨ad, c, rfl, _, hK, hc⟩ := Kd.C_get h ByteArray.empty (i : Int) (by omega) (by have := h.1; omega)
  obtain rfl := hK
  have := hc 0 _ rfl
  rw [show xs.getD (i : Int).toNat ByteArray.empty = xs[i] from by simp [hi]] at this
  refine ⟨ad, rfl, ?_⟩
  have e : (Kd.sz Kd.string) = 1 := rfl
  rw [e] at this
  simpa using this
end Go.Proofs.YtaigepddkgpplaaGreatDoor.M

