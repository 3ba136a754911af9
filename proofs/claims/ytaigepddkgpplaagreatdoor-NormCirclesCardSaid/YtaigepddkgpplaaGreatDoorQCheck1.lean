/- formula.Check$1: is the tag among the terms -/
import Derived.Test.YtaigepddkgpplaaGreatDoorQFIdx
namespace Go.Proofs.YtaigepddkgpplaaGreatDoor.M
open Go Go.RowKit Go.Maps Go.WideMaps Go.Proofs.YtaigepddkgpplaaGreatDoorW.PrintWords Go.Proofs.YtaigepddkgpplaaGreatDoorW.PrintLast Go.Proofs.YtaigepddkgpplaaGreatDoorW.PrintMore Go.Proofs.YtaigepddkgpplaaGreatDoor.B
set_option linter.unusedVariables false
set_option linter.unusedSimpArgs false

set_option maxRecDepth 100000 in
set_option maxHeartbeats 1000000 in
theorem index130 (A : Option Addr) (c : Nat) (xs : List ByteArray) (x : ByteArray) (w : World) (hC : Kd.C Kd.string w A xs.length xs) :
    Calls Tryz.prog 130 #[.slice A xs.length c, .string x] w fun e w' => e = .returned (.int .i64 (firstI (fun y => x.toList == y.toList) xs)) ∧ w' = w := by
  have hm := hC.2.1
  have HC := Lib.hid hC; clear hC
  go_enter Tryz.func130, Tryz.ntmps130
  go_wp2_with fail
  go_loopw [8] (fun i W => ∃ k : Nat, k ≤ xs.length ∧ i = .int .i64 k ∧ (∀ j, j < k → ∀ h : j < xs.length, (x.toList == xs[j].toList) = false) ∧ W = w) (fun i _ => xs.length - (intOf i).toNat)
  case atStart => exact ⟨0, Nat.zero_le _, rfl, fun j h => absurd h (Nat.not_lt_zero _), rfl⟩
  case round =>
    obtain ⟨k, hk, rfl, hno, rfl⟩ := hrel
    have HN := Lib.hid hno; clear hno
    by_cases hlt : k < xs.length
    · obtain ⟨ad, cs, rfl, hcl, hcK, hc1v, hcells⟩ := nt_cells HC.out k hlt
      have hcx : wr.cell? (ad.add k) = some (.string xs[k]) := by
        have e : cs = [.string xs[k]] := hcK
        subst e
        have h := hcells 0 _ rfl
        rwa [show Kd.string.sz = 1 from rfl, Nat.mul_one, add_add, Nat.add_zero] at h
      clear hcells hcK hc1v hcl
      cases hp : (x.toList == xs[k].toList) with
      | true =>
        have hfin : (Ending.returned (.int .i64 (k : Int))) = .returned (.int .i64 (firstI (fun y => x.toList == y.toList) xs)) := by rw [firstI_at hlt HN.out hp]
        have HF := Lib.hid hfin
        clear hfin
        go_wp2_with fail
        go_ret
        exact ⟨HF.out, rfl⟩
      | false =>
        have hnx : ∀ j, j < k + 1 → ∀ h : j < xs.length, (x.toList == xs[j].toList) = false := fun j hj h => by
          by_cases e : j = k
          · subst e; exact hp
          · exact HN.out j (by omega) h
        have HX := Lib.hid hnx
        clear hnx
        go_wp2_with fail
        go_roundw
        case rel => exact ⟨k + 1, by omega, by go_num, HX.out, trivial⟩
        case measure => simp [intOf]; omega
    · obtain rfl : k = xs.length := by omega
      have hfin : (Ending.returned (.int .i64 (-1))) = .returned (.int .i64 (firstI (fun y => x.toList == y.toList) xs)) := by rw [firstI_no HN.out]
      have HF := Lib.hid hfin
      clear hfin
      go_wp2
      go_ret
      exact ⟨HF.out, rfl⟩
set_option maxRecDepth 100000 in
theorem contains72 (A : Option Addr) (c : Nat) (ts : List ByteArray) (x : ByteArray) (w : World) (hC : Kd.C Kd.string w A ts.length ts) :
    Calls Tryz.prog 72 #[.slice A ts.length c, .string x] w fun e w' => e = .returned (.bool (decide (0 ≤ firstI (fun y => x.toList == y.toList) ts))) ∧ w' = w := by
  have HC := Lib.hid (index130 A c ts x w hC)
  clear hC
  go_enter Tryz.func72, Tryz.ntmps72
  go_wp2_with (go_at_call 130; refine (Calls.mono HC.out ?_); rintro e W ⟨rfl, rfl⟩)
  exact ⟨rfl, _, results_tmp rfl _ _ _, rfl, rfl⟩
set_option maxRecDepth 100000 in
theorem known71 (b : Nat) (A : Option Addr) (c : Nat) (ts : List ByteArray) (x : ByteArray) (w : World) (hb : w.cell? ⟨b, 0, none⟩ = some (.slice A ts.length c)) (hC : Kd.C Kd.string w A ts.length ts) :
    Calls Tryz.prog 71 #[.string x, .pointer (some ⟨b, 0, none⟩)] w fun e w' => e = .returned (.bool (decide (0 ≤ firstI (fun y => x.toList == y.toList) ts))) ∧ w' = w := by
  have HC := Lib.hid (contains72 A c ts x w hC)
  clear hC
  go_enter Tryz.func71, Tryz.ntmps71
  go_wp2_with (go_at_call 72; refine (Calls.mono HC.out ?_); rintro e W ⟨rfl, rfl⟩)
  exact ⟨rfl, _, results_tmp rfl _ _ _, rfl, rfl⟩
end Go.Proofs.YtaigepddkgpplaaGreatDoor.M

