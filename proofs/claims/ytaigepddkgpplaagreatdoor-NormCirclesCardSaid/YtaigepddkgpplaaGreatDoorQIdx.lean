/- slices.IndexFunc and slices.ContainsFunc at this program's types: they ask the function value in order, and stop at the first yes. Written by a program (wip/genidx.py). -/
import Derived.Test.YtaigepddkgpplaaGreatDoorQOps
import Derived.Shelf.Abstract
namespace Go.Proofs.YtaigepddkgpplaaGreatDoor.M
open Go Go.RowKit Go.Maps Go.WideMaps Go.Proofs.YtaigepddkgpplaaGreatDoorW.PrintWords Go.Proofs.YtaigepddkgpplaaGreatDoorW.PrintLast Go.Proofs.YtaigepddkgpplaaGreatDoorW.PrintMore Go.Proofs.YtaigepddkgpplaaGreatDoor.B
set_option linter.unusedVariables false
set_option linter.unusedSimpArgs false

def AnsJ (b : Bool) (J : World → Prop) (e : Ending) (w' : World) : Prop := e = .returned (.bool b) ∧ J w'
def IdxJ (i : Int) (J : World → Prop) (e : Ending) (w' : World) : Prop := e = .returned (.int .i64 i) ∧ J w'
def firstI {α : Type} (p : α → Bool) (xs : List α) : Int := match xs.findIdx? p with | some i => (i : Int) | none => -1
theorem firstI_at {α : Type} {p : α → Bool} {xs : List α} {k : Nat} (hk : k < xs.length) (hno : ∀ j, j < k → ∀ h : j < xs.length, p xs[j] = false) (hp : p xs[k] = true) : firstI p xs = (k : Int) := by
  have : xs.findIdx? p = some k := by
    rw [List.findIdx?_eq_some_iff_getElem]
    exact ⟨hk, hp, fun j hj => by simpa using hno j hj (by omega)⟩
  simp [firstI, this]
theorem firstI_no {α : Type} {p : α → Bool} {xs : List α} (hno : ∀ j, j < xs.length → ∀ h : j < xs.length, p xs[j] = false) : firstI p xs = -1 := by
  have : xs.findIdx? p = none := by
    rw [List.findIdx?_eq_none_iff]
    intro x hx
    obtain ⟨j, hj, rfl⟩ := List.getElem_of_mem hx
    exact hno j hj hj
  simp [firstI, this]
theorem firstI_any {α : Type} (p : α → Bool) (xs : List α) : decide (0 ≤ firstI p xs) = xs.any p := by
  unfold firstI
  cases h : xs.findIdx? p with
  | none =>
    have : xs.any p = false := by
      rw [List.any_eq_false]
      intro x hx
      simpa using List.findIdx?_eq_none_iff.1 h x hx
    simp [this]
  | some i =>
    obtain ⟨hi, hp, _⟩ := List.findIdx?_eq_some_iff_getElem.1 h
    have : xs.any p = true := List.any_eq_true.2 ⟨_, List.getElem_mem hi, hp⟩
    simp [this]


set_option maxRecDepth 100000 in
set_option maxHeartbeats 1000000 in
theorem indexFunc_134 (A : Option Addr) (c : Nat) (xs : List S110) (g : Nat) (cap : Array Value) (p : S110 → Bool) (J : World → Prop)
    (heg : ∀ args w, (callFunc g args).run Tryz.prog w = .ok (.enter g args) w) (hC : ∀ W, J W → Kd.C k110 W A xs.length xs)
    (hcall : ∀ x ∈ xs, ∀ W cs, J W → k110.K W x cs → Calls Tryz.prog g (#[.agg cs.toArray] ++ cap) W (AnsJ (p x) J)) (w : World) (hJ : J w) :
    Calls Tryz.prog 134 #[.slice A xs.length c, .func (.func g) #[] cap] w (IdxJ (firstI p xs) J) := by
  have hm := (hC w hJ).2.1
  have HC := Lib.hid hC; clear hC
  have HCA := Lib.hid hcall; clear hcall
  go_enter Tryz.func134, Tryz.ntmps134
  go_wp2_with fail
  go_loopw [8] (fun i W => ∃ k : Nat, k ≤ xs.length ∧ i = .int .i64 k ∧ (∀ j, j < k → ∀ h : j < xs.length, p xs[j] = false) ∧ J W) (fun i _ => xs.length - (intOf i).toNat)
  case atStart => exact ⟨0, Nat.zero_le _, rfl, fun j h => absurd h (Nat.not_lt_zero _), hJ⟩
  case round =>
    obtain ⟨k, hk, rfl, hno, hJ1⟩ := hrel
    have HN := Lib.hid hno; clear hno
    by_cases hlt : k < xs.length
    · have hCk := HC.out wr hJ1
      obtain ⟨ad, cs, rfl, hcl, hcK, hc1v, hcells⟩ := nt_cells hCk k hlt
      clear hCk
      have hcall := HCA.out
      have hc1 := hcall xs[k] (List.getElem_mem _) wr cs hJ1 hcK
      clear hcall
      have HCL := Lib.hid (show cs.length = 4 from hcl); have HCE := Lib.hid hcells; clear hcl hcells hcK hc1v
      cases hp : p xs[k] with
      | true =>
        rw [hp] at hc1
        have hfin : ∀ W, J W → IdxJ (firstI p xs) J (.returned (.int .i64 (k : Int))) W := fun W hW => ⟨by rw [firstI_at hlt HN.out hp], hW⟩
        have HF := Lib.hid hfin
        have HC1 := Lib.hid hc1
        clear hfin hc1 hp
        go_wp2_with (first | ((with_reducible refine gate_dst (N := 15) rfl ?_); refine wp_load_cells rfl 110 _ rfl (ad.add (k * 4)) rfl cs _ Tryz.underlying110 rfl (by rw [HCL.out]; kernel_rfl) HCE.out ?_) | (refine HC1.out.mono ?_; rintro e W ⟨rfl, hJ2⟩))
        go_ret
        exact HF.out _ hJ2
      | false =>
        rw [hp] at hc1
        have hnx : ∀ j, j < k + 1 → ∀ h : j < xs.length, p xs[j] = false := fun j hj h => by
          by_cases e : j = k
          · subst e; exact hp
          · exact HN.out j (by omega) h
        have HX := Lib.hid hnx
        have HC1 := Lib.hid hc1
        clear hnx hc1 hp
        go_wp2_with (first | ((with_reducible refine gate_dst (N := 15) rfl ?_); refine wp_load_cells rfl 110 _ rfl (ad.add (k * 4)) rfl cs _ Tryz.underlying110 rfl (by rw [HCL.out]; kernel_rfl) HCE.out ?_) | (refine HC1.out.mono ?_; rintro e W ⟨rfl, hJ2⟩))
        go_roundw
        case rel => exact ⟨k + 1, by omega, by go_num, HX.out, hJ2⟩
        case measure => simp [intOf]; omega
    · obtain rfl : k = xs.length := by omega
      have hfin : IdxJ (firstI p xs) J (.returned (.int .i64 (-1))) wr := ⟨by rw [firstI_no HN.out], hJ1⟩
      have HF := Lib.hid hfin; clear hfin
      go_wp2
      go_ret
      exact HF.out


set_option maxRecDepth 100000 in
set_option maxHeartbeats 1000000 in
theorem indexFunc_136 (A : Option Addr) (c : Nat) (xs : List S24) (g : Nat) (cap : Array Value) (p : S24 → Bool) (J : World → Prop)
    (heg : ∀ args w, (callFunc g args).run Tryz.prog w = .ok (.enter g args) w) (hC : ∀ W, J W → Kd.C k24 W A xs.length xs)
    (hcall : ∀ x ∈ xs, ∀ W cs, J W → k24.K W x cs → Calls Tryz.prog g (#[.agg cs.toArray] ++ cap) W (AnsJ (p x) J)) (w : World) (hJ : J w) :
    Calls Tryz.prog 136 #[.slice A xs.length c, .func (.func g) #[] cap] w (IdxJ (firstI p xs) J) := by
  have hm := (hC w hJ).2.1
  have HC := Lib.hid hC; clear hC
  have HCA := Lib.hid hcall; clear hcall
  go_enter Tryz.func136, Tryz.ntmps136
  go_wp2_with fail
  go_loopw [8] (fun i W => ∃ k : Nat, k ≤ xs.length ∧ i = .int .i64 k ∧ (∀ j, j < k → ∀ h : j < xs.length, p xs[j] = false) ∧ J W) (fun i _ => xs.length - (intOf i).toNat)
  case atStart => exact ⟨0, Nat.zero_le _, rfl, fun j h => absurd h (Nat.not_lt_zero _), hJ⟩
  case round =>
    obtain ⟨k, hk, rfl, hno, hJ1⟩ := hrel
    have HN := Lib.hid hno; clear hno
    by_cases hlt : k < xs.length
    · have hCk := HC.out wr hJ1
      obtain ⟨ad, cs, rfl, hcl, hcK, hc1v, hcells⟩ := nt_cells hCk k hlt
      clear hCk
      have hcall := HCA.out
      have hc1 := hcall xs[k] (List.getElem_mem _) wr cs hJ1 hcK
      clear hcall
      have HCL := Lib.hid (show cs.length = 5 from hcl); have HCE := Lib.hid hcells; clear hcl hcells hcK hc1v
      cases hp : p xs[k] with
      | true =>
        rw [hp] at hc1
        have hfin : ∀ W, J W → IdxJ (firstI p xs) J (.returned (.int .i64 (k : Int))) W := fun W hW => ⟨by rw [firstI_at hlt HN.out hp], hW⟩
        have HF := Lib.hid hfin
        have HC1 := Lib.hid hc1
        clear hfin hc1 hp
        go_wp2_with (first | ((with_reducible refine gate_dst (N := 15) rfl ?_); refine wp_load_cells rfl 24 _ rfl (ad.add (k * 5)) rfl cs _ Tryz.underlying24 rfl (by rw [HCL.out]; kernel_rfl) HCE.out ?_) | (refine HC1.out.mono ?_; rintro e W ⟨rfl, hJ2⟩))
        go_ret
        exact HF.out _ hJ2
      | false =>
        rw [hp] at hc1
        have hnx : ∀ j, j < k + 1 → ∀ h : j < xs.length, p xs[j] = false := fun j hj h => by
          by_cases e : j = k
          · subst e; exact hp
          · exact HN.out j (by omega) h
        have HX := Lib.hid hnx
        have HC1 := Lib.hid hc1
        clear hnx hc1 hp
        go_wp2_with (first | ((with_reducible refine gate_dst (N := 15) rfl ?_); refine wp_load_cells rfl 24 _ rfl (ad.add (k * 5)) rfl cs _ Tryz.underlying24 rfl (by rw [HCL.out]; kernel_rfl) HCE.out ?_) | (refine HC1.out.mono ?_; rintro e W ⟨rfl, hJ2⟩))
        go_roundw
        case rel => exact ⟨k + 1, by omega, by go_num, HX.out, hJ2⟩
        case measure => simp [intOf]; omega
    · obtain rfl : k = xs.length := by omega
      have hfin : IdxJ (firstI p xs) J (.returned (.int .i64 (-1))) wr := ⟨by rw [firstI_no HN.out], hJ1⟩
      have HF := Lib.hid hfin; clear hfin
      go_wp2
      go_ret
      exact HF.out

theorem containsFunc_81 (A : Option Addr) (c : Nat) (xs : List S24) (g : Nat) (cap : Array Value) (p : S24 → Bool) (J : World → Prop)
    (heg : ∀ args w, (callFunc g args).run Tryz.prog w = .ok (.enter g args) w) (hC : ∀ W, J W → Kd.C k24 W A xs.length xs)
    (hcall : ∀ x ∈ xs, ∀ W cs, J W → k24.K W x cs → Calls Tryz.prog g (#[.agg cs.toArray] ++ cap) W (AnsJ (p x) J)) (w : World) (hJ : J w) :
    Calls Tryz.prog 81 #[.slice A xs.length c, .func (.func g) #[] cap] w (AnsJ (xs.any p) J) := by
  have hi := indexFunc_136 A c xs g cap p J heg hC hcall w hJ
  have HI := Lib.hid hi
  have hfin : ∀ W, J W → AnsJ (xs.any p) J (.returned (.bool (decide (0 ≤ firstI p xs)))) W := fun W hW => ⟨by rw [firstI_any], hW⟩
  have HF := Lib.hid hfin
  clear hi hfin hC hcall heg
  go_enter Tryz.func81, Tryz.ntmps81
  go_wp2_with (refine HI.out.mono ?_; rintro e W ⟨rfl, hJ2⟩)
  go_ret
  exact HF.out _ hJ2


set_option maxRecDepth 100000 in
set_option maxHeartbeats 1000000 in
theorem indexFunc_168 (A : Option Addr) (c : Nat) (xs : List S67) (g : Nat) (cap : Array Value) (p : S67 → Bool) (J : World → Prop)
    (heg : ∀ args w, (callFunc g args).run Tryz.prog w = .ok (.enter g args) w) (hC : ∀ W, J W → Kd.C k67 W A xs.length xs)
    (hcall : ∀ x ∈ xs, ∀ W cs, J W → k67.K W x cs → Calls Tryz.prog g (#[.agg cs.toArray] ++ cap) W (AnsJ (p x) J)) (w : World) (hJ : J w) :
    Calls Tryz.prog 168 #[.slice A xs.length c, .func (.func g) #[] cap] w (IdxJ (firstI p xs) J) := by
  have hm := (hC w hJ).2.1
  have HC := Lib.hid hC; clear hC
  have HCA := Lib.hid hcall; clear hcall
  go_enter Tryz.func168, Tryz.ntmps168
  go_wp2_with fail
  go_loopw [8] (fun i W => ∃ k : Nat, k ≤ xs.length ∧ i = .int .i64 k ∧ (∀ j, j < k → ∀ h : j < xs.length, p xs[j] = false) ∧ J W) (fun i _ => xs.length - (intOf i).toNat)
  case atStart => exact ⟨0, Nat.zero_le _, rfl, fun j h => absurd h (Nat.not_lt_zero _), hJ⟩
  case round =>
    obtain ⟨k, hk, rfl, hno, hJ1⟩ := hrel
    have HN := Lib.hid hno; clear hno
    by_cases hlt : k < xs.length
    · have hCk := HC.out wr hJ1
      obtain ⟨ad, cs, rfl, hcl, hcK, hc1v, hcells⟩ := nt_cells hCk k hlt
      clear hCk
      have hcall := HCA.out
      have hc1 := hcall xs[k] (List.getElem_mem _) wr cs hJ1 hcK
      clear hcall
      have HCL := Lib.hid (show cs.length = 23 from hcl); have HCE := Lib.hid hcells; clear hcl hcells hcK hc1v
      cases hp : p xs[k] with
      | true =>
        rw [hp] at hc1
        have hfin : ∀ W, J W → IdxJ (firstI p xs) J (.returned (.int .i64 (k : Int))) W := fun W hW => ⟨by rw [firstI_at hlt HN.out hp], hW⟩
        have HF := Lib.hid hfin
        have HC1 := Lib.hid hc1
        clear hfin hc1 hp
        go_wp2_with (first | ((with_reducible refine gate_dst (N := 15) rfl ?_); refine wp_load_cells rfl 67 _ rfl (ad.add (k * 23)) rfl cs _ Tryz.underlying67 rfl (by rw [HCL.out]; kernel_rfl) HCE.out ?_) | (refine HC1.out.mono ?_; rintro e W ⟨rfl, hJ2⟩))
        go_ret
        exact HF.out _ hJ2
      | false =>
        rw [hp] at hc1
        have hnx : ∀ j, j < k + 1 → ∀ h : j < xs.length, p xs[j] = false := fun j hj h => by
          by_cases e : j = k
          · subst e; exact hp
          · exact HN.out j (by omega) h
        have HX := Lib.hid hnx
        have HC1 := Lib.hid hc1
        clear hnx hc1 hp
        go_wp2_with (first | ((with_reducible refine gate_dst (N := 15) rfl ?_); refine wp_load_cells rfl 67 _ rfl (ad.add (k * 23)) rfl cs _ Tryz.underlying67 rfl (by rw [HCL.out]; kernel_rfl) HCE.out ?_) | (refine HC1.out.mono ?_; rintro e W ⟨rfl, hJ2⟩))
        go_roundw
        case rel => exact ⟨k + 1, by omega, by go_num, HX.out, hJ2⟩
        case measure => simp [intOf]; omega
    · obtain rfl : k = xs.length := by omega
      have hfin : IdxJ (firstI p xs) J (.returned (.int .i64 (-1))) wr := ⟨by rw [firstI_no HN.out], hJ1⟩
      have HF := Lib.hid hfin; clear hfin
      go_wp2
      go_ret
      exact HF.out

theorem containsFunc_139 (A : Option Addr) (c : Nat) (xs : List S67) (g : Nat) (cap : Array Value) (p : S67 → Bool) (J : World → Prop)
    (heg : ∀ args w, (callFunc g args).run Tryz.prog w = .ok (.enter g args) w) (hC : ∀ W, J W → Kd.C k67 W A xs.length xs)
    (hcall : ∀ x ∈ xs, ∀ W cs, J W → k67.K W x cs → Calls Tryz.prog g (#[.agg cs.toArray] ++ cap) W (AnsJ (p x) J)) (w : World) (hJ : J w) :
    Calls Tryz.prog 139 #[.slice A xs.length c, .func (.func g) #[] cap] w (AnsJ (xs.any p) J) := by
  have hi := indexFunc_168 A c xs g cap p J heg hC hcall w hJ
  have HI := Lib.hid hi
  have hfin : ∀ W, J W → AnsJ (xs.any p) J (.returned (.bool (decide (0 ≤ firstI p xs)))) W := fun W hW => ⟨by rw [firstI_any], hW⟩
  have HF := Lib.hid hfin
  clear hi hfin hC hcall heg
  go_enter Tryz.func139, Tryz.ntmps139
  go_wp2_with (refine HI.out.mono ?_; rintro e W ⟨rfl, hJ2⟩)
  go_ret
  exact HF.out _ hJ2


end Go.Proofs.YtaigepddkgpplaaGreatDoor.M

