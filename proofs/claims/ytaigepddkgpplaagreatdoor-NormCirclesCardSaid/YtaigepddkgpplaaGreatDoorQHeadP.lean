/- The example of the chapter, in plain Lean. -/
import Derived.Test.YtaigepddkgpplaaGreatDoorQHead
import Derived.Test.YtaigepddkgpplaaGreatDoorQNormL
namespace Go.Proofs.YtaigepddkgpplaaGreatDoor.M
open Go Go.RowKit Go.Proofs.YtaigepddkgpplaaGreatDoor.B Go.Proofs.YtaigepddkgpplaaGreatDoor.T
set_option linter.unusedVariables false
set_option linter.unusedSimpArgs false

def ta : ByteArray := ⟨#[97]⟩
def tb : ByteArray := ⟨#[98]⟩
def tc : ByteArray := ⟨#[99]⟩
def trueF : S24 := ⟨1, ⟨#[]⟩, 0, 0, []⟩
theorem nodes_leaf (k : Int) (t : ByteArray) (l m : Int) : nodes ⟨k, t, l, m, []⟩ = [⟨k, t, l, m, []⟩] := by rw [nodes_eq]; rfl
theorem size_leaf (k : Int) (t : ByteArray) (l m : Int) : sizeD ⟨k, t, l, m, []⟩ = (1, 1) := by rw [sizeD_eq]; show ((1 : Int), wrap64 (0 + 1)) = (1, 1); unfold wrap64; decide +kernel
theorem check_leaf (fs : List S110) (kn : ByteArray → Bool) (k : Int) (t : ByteArray) (l m : Int) (h : nodeErr fs kn ⟨k, t, l, m, []⟩ = 0) : checkI fs kn ⟨k, t, l, m, []⟩ = 0 := by
  unfold checkI
  rw [size_leaf, nodes_leaf, if_neg (by omega)]
  simp [h]
theorem check_true (kn : ByteArray → Bool) : checkI fsE kn trueF = 0 := check_leaf _ _ _ _ _ _ (by unfold nodeErr; simp [formedK])
theorem name_m : nameB mtext = true := by decide +kernel
theorem name_p : nameB ptext = true := by decide +kernel
theorem idx_m : idxI fsE mtext = 0 := by decide +kernel
theorem idx_p : idxI fsE ptext = 1 := by decide +kernel
theorem check_m (kn : ByteArray → Bool) : checkI fsE kn (flagF mtext) = 0 := check_leaf _ _ _ _ _ _ (by unfold nodeErr; simp [formedK, name_m, idx_m])
theorem check_p (kn : ByteArray → Bool) : checkI fsE kn (flagF ptext) = 0 := check_leaf _ _ _ _ _ _ (by unfold nodeErr; simp [formedK, name_p, idx_p])
theorem val_true (cs : List Int) : valB fsE cs [] trueF = true := by rw [valB_eq]; rfl
theorem val_m (x y : Int) : valB fsE [x, y] [] (flagF mtext) = decide (x = 1) := by
  rw [valB_eq]
  simp [flagF, idx_m, cmpB]
theorem val_p (x y : Int) : valB fsE [x, y] [] (flagF ptext) = decide (y = 1) := by
  rw [valB_eq]
  simp [flagF, idx_p, cmpB]
theorem validE : validB fsE = true := by decide +kernel
theorem fits2 (x y : Int) (hx : x = 0 ∨ x = 1) (hy : y = 0 ∨ y = 1) : fitsB fsE [x, y] = true := by
  unfold fitsB
  rw [validE]
  rcases hx with rfl | rfl <;> rcases hy with rfl | rfl <;> decide +kernel
theorem idsE (xs : List ByteArray) : ids (psE xs) = [ta, tb, tc] := rfl
theorem nodE (xs : List ByteArray) : (ids (psE xs)).Nodup := by rw [idsE]; decide +kernel
theorem badE (xs : List ByteArray) : ∀ p ∈ psE xs, badP fsE p = false := fun p hp => by
  unfold psE at hp
  simp only [List.mem_cons, List.not_mem_nil, or_false] at hp
  rcases hp with rfl | rfl | rfl
  · unfold badP; show (checkI fsE (inTerms []) trueF != 0) = false; rw [check_true]; rfl
  · unfold badP; show (checkI fsE (inTerms []) (flagF mtext) != 0) = false; rw [check_m]; rfl
  · unfold badP; show (checkI fsE (inTerms []) (flagF ptext) != 0) = false; rw [check_p]; rfl
theorem holds0 (xs : List ByteArray) (x y : Int) (h : fitsB fsE [x, y] = true) : holdsP fsE [x, y] (psE xs) 0 = true := by
  show holdsB fsE [x, y] [] trueF = true
  unfold holdsB; rw [check_true, h, val_true]; rfl
theorem holds1 (xs : List ByteArray) (x y : Int) (h : fitsB fsE [x, y] = true) : holdsP fsE [x, y] (psE xs) 1 = decide (x = 1) := by
  show holdsB fsE [x, y] [] (flagF mtext) = _
  unfold holdsB; rw [check_m, h, val_m]; simp
theorem holds2 (xs : List ByteArray) (x y : Int) (h : fitsB fsE [x, y] = true) : holdsP fsE [x, y] (psE xs) 2 = decide (y = 1) := by
  show holdsB fsE [x, y] [] (flagF ptext) = _
  unfold holdsB; rw [check_p, h, val_p]; simp
theorem adj_b0 : adjP (psE [tb]) 0 = [1] := by decide +kernel
theorem adj_b1 : adjP (psE [tb]) 1 = [2] := by decide +kernel
theorem adj_b2 : adjP (psE [tb]) 2 = [] := by decide +kernel
theorem acyc_rank {adj : Nat → List Nat} {n : Nat} (hadj : ∀ v y, y ∈ adj v → y < n) (h : ∀ v y, v < n → y ∈ adj v → v < y) : Acyc adj n := fun v hv ⟨y, hy, hp⟩ => by
  have key : ∀ a b, Path adj a b → a < n → a ≤ b := fun a b hp => by
    induction hp with
    | refl => intro _; exact Nat.le_refl _
    | step e _ ih => intro ha; have := h _ _ ha e; have := ih (hadj _ _ e); omega
  have := h v y hv hy
  have := key y v hp (hadj _ _ hy)
  omega
theorem acyc_b : Acyc (adjP (psE [tb])) (psE [tb]).length := acyc_rank (adjP_lt _) fun v y hv hy => by
  have : v = 0 ∨ v = 1 ∨ v = 2 := by simp [psE] at hv; omega
  rcases this with rfl | rfl | rfl
  · rw [adj_b0] at hy; simp at hy; omega
  · rw [adj_b1] at hy; simp at hy; omega
  · rw [adj_b2] at hy; simp at hy
theorem fineE {x y : Int} (h : fitsB fsE [x, y] = true) : Fine fsE (psE [tb]) [x, y] := ⟨nodE _, h, by simp [psE], badE _, acyc_b⟩
theorem ap_all {x y : Int} (h : fitsB fsE [x, y] = true) : apB fsE (psE [tb]) [x, y] 2 = decide (y = 1) ∧ apB fsE (psE [tb]) [x, y] 1 = (decide (x = 1) && !decide (y = 1)) ∧ apB fsE (psE [tb]) [x, y] 0 = !(decide (x = 1) && !decide (y = 1)) := by
  have f := fineE h
  have h2 : apB fsE (psE [tb]) [x, y] 2 = decide (y = 1) := by rw [f.rule 2, adj_b2, holds2 _ _ _ h]; simp
  have h1 : apB fsE (psE [tb]) [x, y] 1 = (decide (x = 1) && !decide (y = 1)) := by rw [f.rule 1, adj_b1, holds1 _ _ _ h]; simp [h2]
  have h0 : apB fsE (psE [tb]) [x, y] 0 = !(decide (x = 1) && !decide (y = 1)) := by rw [f.rule 0, adj_b0, holds0 _ _ _ h]; simp [h1]
  exact ⟨h2, h1, h0⟩
theorem appIdsE (cs : List Int) : appIds fsE (psE [tb]) cs = ([0, 1, 2].filter (apB fsE (psE [tb]) cs)).map (idAt (psE [tb])) := rfl
theorem ap00 : appL fsE (psE [tb]) [0, 0] = [ta] ∧ appE fsE (psE [tb]) [0, 0] = 0 := by
  have h := fits2 0 0 (.inl rfl) (.inl rfl)
  obtain ⟨h2, h1, h0⟩ := ap_all h
  refine ⟨?_, (fineE h).e⟩
  rw [(fineE h).l, appIdsE]
  simp [List.filter_cons, h2, h1, h0]
  rfl
theorem ap10 : appL fsE (psE [tb]) [1, 0] = [tb] ∧ appE fsE (psE [tb]) [1, 0] = 0 := by
  have h := fits2 1 0 (.inr rfl) (.inl rfl)
  obtain ⟨h2, h1, h0⟩ := ap_all h
  refine ⟨?_, (fineE h).e⟩
  rw [(fineE h).l, appIdsE]
  simp [List.filter_cons, h2, h1, h0]
  rfl
theorem ap11 : appL fsE (psE [tb]) [1, 1] = [ta, tc] ∧ appE fsE (psE [tb]) [1, 1] = 0 := by
  have h := fits2 1 1 (.inr rfl) (.inr rfl)
  obtain ⟨h2, h1, h0⟩ := ap_all h
  refine ⟨?_, (fineE h).e⟩
  rw [(fineE h).l, appIdsE]
  simp [List.filter_cons, h2, h1, h0]
  exact ⟨rfl, rfl⟩
theorem bl10 : blkL fsE (psE [tb]) [1, 0] ta = [tb] ∧ blkE fsE (psE [tb]) [1, 0] ta = 0 := by
  have h := fits2 1 0 (.inr rfl) (.inl rfl)
  obtain ⟨h2, h1, h0⟩ := ap_all h
  have e : ta = idAt (psE [tb]) 0 := rfl
  rw [e, (fineE h).blkL (by simp [psE]), (fineE h).blkE (by simp [psE])]
  refine ⟨?_, rfl⟩
  unfold blkIds
  rw [adj_b0]
  simp [List.filter_cons, h1]
  rfl
theorem blx : blkL fsE (psE [tb]) [1, 0] ⟨#[120]⟩ = [] ∧ blkE fsE (psE [tb]) [1, 0] ⟨#[120]⟩ = 11 := by
  have h := fits2 1 0 (.inr rfl) (.inl rfl)
  have ht : tgP (psE [tb]) ⟨#[120]⟩ = none := by decide +kernel
  unfold blkL blkE
  rw [if_pos (fineE h).e, if_pos (fineE h).e, ht]
  exact ⟨rfl, rfl⟩
theorem ap0 : appL fsE (psE [tb]) [0] = [] ∧ appE fsE (psE [tb]) [0] = 1 := by
  have hf : fitsB fsE [0] = false := by decide +kernel
  have e : appE fsE (psE [tb]) [0] = 1 := by unfold appE; rw [if_pos (by unfold argBad; rw [hf]; simp)]
  exact ⟨by unfold appL; rw [e]; rfl, e⟩
theorem adj_c0 : adjP (psE [tb, tc]) 0 = [1] := by decide +kernel
theorem adj_c1 : adjP (psE [tb, tc]) 1 = [2] := by decide +kernel
theorem adj_c2 : adjP (psE [tb, tc]) 2 = [2] := by decide +kernel
theorem cyc_c : Cyc (adjP (psE [tb, tc])) 2 := ⟨2, by rw [adj_c2]; simp, .refl _⟩
theorem path_c {a b : Nat} (hp : Path (adjP (psE [tb, tc])) a b) : a ≤ 2 → a ≤ b := by
  induction hp with
  | refl => intro _; exact Nat.le_refl _
  | @step x y z e _ ih =>
    intro ha
    have : x = 0 ∨ x = 1 ∨ x = 2 := by omega
    rcases this with rfl | rfl | rfl
    · rw [adj_c0] at e; simp at e; have := ih (by omega); omega
    · rw [adj_c1] at e; simp at e; have := ih (by omega); omega
    · rw [adj_c2] at e; simp at e; have := ih (by omega); omega
theorem found_c : Go.Proofs.YtaigepddkgpplaaGreatDoor.T.Found (adjP (psE [tb, tc])) 3 [[2]] := by
  refine ⟨fun g hg => ?_, fun v hv hc => ?_, by simp⟩
  · simp at hg; subst hg
    refine ⟨2, by omega, cyc_c, fun u => ?_, by simp⟩
    constructor
    · intro h; simp at h; subst h; exact ⟨.refl _, .refl _⟩
    · rintro ⟨h1, h2⟩
      have a := path_c h1 (by omega)
      have hl := adjP_lt (psE [tb, tc])
      have b : u < 3 := path_lt (n := 3) hl h1 (by omega)
      simp; omega
  · have : v = 0 ∨ v = 1 ∨ v = 2 := by omega
    obtain ⟨y, hy, hp⟩ := hc
    rcases this with rfl | rfl | rfl
    · rw [adj_c0] at hy; simp at hy; subst hy; have := path_c hp (by omega); omega
    · rw [adj_c1] at hy; simp at hy; subst hy; have := path_c hp (by omega); omega
    · exact ⟨[2], by simp, by simp⟩
theorem apc (x y : Int) (h : fitsB fsE [x, y] = true) : appL fsE (psE [tb, tc]) [x, y] = [] ∧ appE fsE (psE [tb, tc]) [x, y] = 13 := by
  have hna : ¬ Acyc (adjP (psE [tb, tc])) (psE [tb, tc]).length := fun ha => ha 2 (by simp [psE]) cyc_c
  have hb : argBad fsE (psE [tb, tc]) [x, y] = false := by
    unfold argBad
    simp only [Bool.or_eq_false_iff, Bool.not_eq_false', decide_eq_true_eq, decide_eq_false_iff_not, List.any_eq_false]
    exact ⟨nodE _, by simp [psE], h, fun p hp => by rw [badE _ p hp]; simp⟩
  have e : appE fsE (psE [tb, tc]) [x, y] = 13 := by unfold appE; rw [if_neg (by rw [hb]; simp), if_neg hna]
  exact ⟨by unfold appL; rw [e]; rfl, e⟩
theorem cirE {w : World} {e : Ending} {W : World} (h : CirRet w (psE [tb, tc]) e W) : ∃ ov base, e = .returned ov ∧ Below w.heap.size w W ∧ (Go.Proofs.YtaigepddkgpplaaGreatDoorW.PrintWords.Kd.slice 9 Go.Proofs.YtaigepddkgpplaaGreatDoorW.PrintWords.Kd.string).R 54 W base (fun _ => True) ov [[tc]] := by
  obtain ⟨ov, base, L, rfl, hb, _, hR, hif⟩ := h
  rw [if_pos (nodE _)] at hif
  obtain ⟨f, n, gs, hat, hF, hs, rfl⟩ := hif
  rw [tgt_eq hat (nodE _)] at hF
  have : gs = [[2]] := found_unique (n := 3) hF found_c hs (by simp)
  subst this
  exact ⟨ov, base, rfl, hb, hR⟩
end Go.Proofs.YtaigepddkgpplaaGreatDoor.M

