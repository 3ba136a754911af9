/- Which provisions apply, in plain Lean: on a net without circles there is just one answer. -/
import Derived.Test.YtaigepddkgpplaaGreatDoorQTar
section
namespace Go.Proofs.YtaigepddkgpplaaGreatDoor.T
set_option linter.unusedVariables false

/-- no vertex below n lies on a circle -/
def Acyc (adj : Nat → List Nat) (n : Nat) : Prop := ∀ v, v < n → ¬ Cyc adj v
/-- it applies: its condition holds, and none of those that except it applies; k rounds -/
def appF (adj : Nat → List Nat) (h : Nat → Bool) : Nat → Nat → Bool
  | 0, _ => false
  | k + 1, v => h v && !(adj v).any (appF adj h k)
open Classical in
/-- how many are reached by one step or more -/
noncomputable def reachN (adj : Nat → List Nat) (n v : Nat) : Nat := (List.range n).countP (fun u => decide (∃ y, y ∈ adj v ∧ Path adj y u))
theorem reachN_le (adj : Nat → List Nat) (n v : Nat) : reachN adj n v ≤ n := by
  unfold reachN
  refine Nat.le_trans (List.countP_le_length) ?_
  simp
theorem reachN_lt {adj : Nat → List Nat} {n : Nat} (hadj : ∀ v y, y ∈ adj v → y < n) (ha : Acyc adj n) {v y : Nat} (hy : y ∈ adj v) : reachN adj n y < reachN adj n v := by
  unfold reachN
  refine countP_lt_of _ y (by simpa using hadj v y hy) ?_ ?_ ?_
  · intro x _ hx
    simp only [decide_eq_true_eq] at hx ⊢
    obtain ⟨z, hz, hp⟩ := hx
    exact ⟨y, hy, .step hz hp⟩
  · simp only [decide_eq_false_iff_not]
    exact ha y (hadj v y hy)
  · simp only [decide_eq_true_eq]
    exact ⟨y, hy, .refl _⟩
theorem any_congr {α : Type} {p q : α → Bool} {l : List α} (h : ∀ x ∈ l, p x = q x) : l.any p = l.any q := by
  induction l with
  | nil => rfl
  | cons x r ih => rw [List.any_cons, List.any_cons, h x (by simp), ih fun y hy => h y (by simp [hy])]
theorem appF_more {adj : Nat → List Nat} {n : Nat} (hadj : ∀ v y, y ∈ adj v → y < n) (ha : Acyc adj n) (h : Nat → Bool) : ∀ k v, reachN adj n v < k → appF adj h k v = appF adj h (k + 1) v
  | 0, v, hk => absurd hk (Nat.not_lt_zero _)
  | k + 1, v, hk => by
    show (h v && !(adj v).any (appF adj h k)) = (h v && !(adj v).any (appF adj h (k + 1)))
    rw [any_congr fun y hy => appF_more hadj ha h k y (by have := reachN_lt hadj ha hy; omega)]
/-- it applies -/
def appB (adj : Nat → List Nat) (h : Nat → Bool) (n v : Nat) : Bool := appF adj h (n + 1) v
theorem appB_eq {adj : Nat → List Nat} {n : Nat} (hadj : ∀ v y, y ∈ adj v → y < n) (ha : Acyc adj n) (h : Nat → Bool) (v : Nat) : appB adj h n v = (h v && !(adj v).any (appB adj h n)) := by
  unfold appB
  rw [appF_more hadj ha h (n + 1) v (by have := reachN_le adj n v; omega)]
  rfl
/-- no groups: no circle -/
theorem acyc_of_found {adj : Nat → List Nat} {n : Nat} (h : Found adj n []) : Acyc adj n := fun v hv hc => by
  obtain ⟨g, hg, _⟩ := h.all v hv hc
  cases hg
theorem found_of_acyc {adj : Nat → List Nat} {n : Nat} {L : List (List Nat)} (h : Found adj n L) (ha : Acyc adj n) : L = [] := by
  cases L with
  | nil => rfl
  | cons g r =>
    obtain ⟨v, hv, hc, _⟩ := h.mem g (by simp)
    exact absurd hc (ha v hv)
end Go.Proofs.YtaigepddkgpplaaGreatDoor.T

end
section
/- Plain facts on nets for the laws of layer 14. -/
namespace Go.Proofs.YtaigepddkgpplaaGreatDoor.T
set_option linter.unusedVariables false

section turn
variable {adj adj' : Nat → List Nat} {n : Nat} {r : Nat → Nat}
theorem Path.map (hstep : ∀ v y, v < n → y ∈ adj v → r y ∈ adj' (r v)) (hadj : ∀ v y, y ∈ adj v → y < n) {a b : Nat} (h : Path adj a b) : a < n → Path adj' (r a) (r b) := by
  induction h with
  | refl => intro _; exact .refl _
  | step e _ ih => intro ha; exact .step (hstep _ _ ha e) (ih (hadj _ _ e))
theorem Cyc.map (hstep : ∀ v y, v < n → y ∈ adj v → r y ∈ adj' (r v)) (hadj : ∀ v y, y ∈ adj v → y < n) {a : Nat} (ha : a < n) (h : Cyc adj a) : Cyc adj' (r a) := by
  obtain ⟨y, hy, hp⟩ := h
  exact ⟨r y, hstep _ _ ha hy, hp.map hstep hadj (hadj _ _ hy)⟩
end turn
/-- of those whose conditions hold one applies -/
theorem app_some {adj : Nat → List Nat} {n : Nat} (hadj : ∀ v y, y ∈ adj v → y < n) {h A : Nat → Bool} (hA : ∀ v, v < n → A v = (h v && !(adj v).any A)) {v : Nat} (hv : v < n) (hh : h v = true) : ∃ u, u < n ∧ A u = true := by
  cases e : A v with
  | true => exact ⟨v, hv, e⟩
  | false =>
    rw [hA v hv, hh] at e
    simp only [Bool.true_and, Bool.not_eq_false', List.any_eq_true] at e
    obtain ⟨x, hx, h1⟩ := e
    exact ⟨x, hadj _ _ hx, h1⟩

/-- those taken away: none of them lies on a circle, and those that except them are taken away too -/
structure Gone (adj : Nat → List Nat) (g : Nat → Bool) : Prop where
  closed : ∀ v, g v = true → ∀ y, y ∈ adj v → g y = true
  nocyc : ∀ v, g v = true → ¬ Cyc adj v
theorem gone_path {adj : Nat → List Nat} {g : Nat → Bool} (h : Gone adj g) {a b : Nat} (p : Path adj a b) : g a = true → g b = true := by
  induction p with
  | refl => exact id
  | step e _ ih => intro ha; exact ih (h.closed _ ha _ e)
theorem Gone.next {adj : Nat → List Nat} {g : Nat → Bool} (h : Gone adj g) {i : Nat} (hi : g i = false) (hy : ∀ y, y ∈ adj i → g y = true) : Gone adj (fup g i true) := by
  refine ⟨fun v hv y hvy => ?_, fun v hv hc => ?_⟩
  · by_cases e : y = i
    · subst e; exact fup_same _ _ _
    · rw [fup_other _ _ e]
      by_cases e2 : v = i
      · subst e2; exact hy y hvy
      · rw [fup_other _ _ e2] at hv; exact h.closed v hv y hvy
  · by_cases e2 : v = i
    · subst e2
      obtain ⟨y, hvy, hp⟩ := hc
      have := gone_path h hp (hy y hvy)
      rw [hi] at this; cases this
    · rw [fup_other _ _ e2] at hv; exact h.nocyc v hv hc
theorem Gone.none (adj : Nat → List Nat) : Gone adj (fun _ => false) := ⟨(fun v hv => by cases hv), (fun v hv => by cases hv)⟩
/-- at the end: what is left has a circle -/
theorem left_cyc {adj : Nat → List Nat} {n : Nat} (hadj : ∀ v y, y ∈ adj v → y < n) {g : Nat → Bool} (hend : ∀ v, v < n → g v = false → ∃ y, y ∈ adj v ∧ g y = false) {v : Nat} (hv : v < n) (hg : g v = false) : ¬ Acyc adj n := fun ha => by
  have : ∀ k v, v < n → g v = false → reachN adj n v < k → False := by
    intro k
    induction k with
    | zero => intro v _ _ h; omega
    | succ k ih =>
      intro v hv hg hk
      obtain ⟨y, hy, hgy⟩ := hend v hv hg
      exact ih y (hadj _ _ hy) hgy (by have := reachN_lt hadj ha hy; omega)
  exact this _ v hv hg (Nat.lt_succ_self _)
end Go.Proofs.YtaigepddkgpplaaGreatDoor.T

end
