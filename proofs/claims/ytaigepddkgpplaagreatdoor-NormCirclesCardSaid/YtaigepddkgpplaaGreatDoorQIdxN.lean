/- slices.Index and slices.Contains of numbers. -/
import Derived.Test.YtaigepddkgpplaaGreatDoorQNodes
namespace Go.Proofs.YtaigepddkgpplaaGreatDoor.M
open Go Go.RowKit Go.Maps Go.WideMaps Go.Proofs.YtaigepddkgpplaaGreatDoorW.PrintWords Go.Proofs.YtaigepddkgpplaaGreatDoorW.PrintLast Go.Proofs.YtaigepddkgpplaaGreatDoorW.PrintMore Go.Proofs.YtaigepddkgpplaaGreatDoor.B
set_option linter.unusedVariables false
set_option linter.unusedSimpArgs false

set_option maxRecDepth 100000 in
set_option maxHeartbeats 1000000 in
theorem index146 (A : Option Addr) (c : Nat) (xs : List Int) (x : Int) (w : World) (hC : Kd.C (Kd.int .i64) w A xs.length xs) :
    Calls Tryz.prog 146 #[.slice A xs.length c, .int .i64 x] w fun e w' => e = .returned (.int .i64 (firstI (fun y => x == y) xs)) ∧ w' = w := by
  have hm := hC.2.1
  have HC := Lib.hid hC; clear hC
  go_enter Tryz.func146, Tryz.ntmps146
  go_wp2_with fail
  go_loopw [8] (fun i W => ∃ k : Nat, k ≤ xs.length ∧ i = .int .i64 k ∧ (∀ j, j < k → ∀ h : j < xs.length, (x == xs[j]) = false) ∧ W = w) (fun i _ => xs.length - (intOf i).toNat)
  case atStart => exact ⟨0, Nat.zero_le _, rfl, fun j h => absurd h (Nat.not_lt_zero _), rfl⟩
  case round =>
    obtain ⟨k, hk, rfl, hno, rfl⟩ := hrel
    have HN := Lib.hid hno; clear hno
    by_cases hlt : k < xs.length
    · obtain ⟨ad, rfl, hcx⟩ := nt_int HC.out k hlt
      cases hp : (x == xs[k]) with
      | true =>
        have hfin : (Ending.returned (.int .i64 (k : Int))) = .returned (.int .i64 (firstI (fun y => x == y) xs)) := by rw [firstI_at hlt HN.out hp]
        have HF := Lib.hid hfin
        clear hfin
        go_wp2_with fail
        go_ret
        exact ⟨HF.out, rfl⟩
      | false =>
        have hnx : ∀ j, j < k + 1 → ∀ h : j < xs.length, (x == xs[j]) = false := fun j hj h => by
          by_cases e : j = k
          · subst e; exact hp
          · exact HN.out j (by omega) h
        have HX := Lib.hid hnx
        clear hnx
        go_wp2_with fail
        go_roundw
        case rel => exact ⟨k + 1, by omega, by go_num, HX.out, trivial⟩
        case measure => simp [intOf]; omega
    · obtain rfl : k = xs.length := by omega
      have hfin : (Ending.returned (.int .i64 (-1))) = .returned (.int .i64 (firstI (fun y => x == y) xs)) := by rw [firstI_no HN.out]
      have HF := Lib.hid hfin
      clear hfin
      go_wp2
      go_ret
      exact ⟨HF.out, rfl⟩
def hasI (xs : List Int) (x : Int) : Bool := xs.any (fun y => x == y)
theorem hasI_iff (xs : List Int) (x : Int) : hasI xs x = true ↔ x ∈ xs := by simp [hasI]
set_option maxRecDepth 100000 in
theorem contains144 (A : Option Addr) (c : Nat) (xs : List Int) (x : Int) (w : World) (hC : Kd.C (Kd.int .i64) w A xs.length xs) :
    Calls Tryz.prog 144 #[.slice A xs.length c, .int .i64 x] w fun e w' => e = .returned (.bool (hasI xs x)) ∧ w' = w := by
  have HC := Lib.hid (index146 A c xs x w hC)
  have hfin : Ending.returned (.bool (decide (0 ≤ firstI (fun y => x == y) xs))) = .returned (.bool (hasI xs x)) := by rw [firstI_any]; rfl
  have HF := Lib.hid hfin
  clear hC hfin
  go_enter Tryz.func144, Tryz.ntmps144
  go_wp2_with (go_at_call 146; refine (Calls.mono HC.out ?_); rintro e W ⟨rfl, rfl⟩)
  exact ⟨rfl, _, results_tmp rfl _ _ _, by rw [← HF.out]; rfl, rfl⟩
end Go.Proofs.YtaigepddkgpplaaGreatDoor.M

