/- The law NormCircles: the walk. -/
import Derived.Test.YtaigepddkgpplaaGreatDoorQHead2
import Derived.Test.YtaigepddkgpplaaGreatDoorQNormL
import Derived.Test.YtaigepddkgpplaaGreatDoorQCirW
section
namespace Go.Proofs.YtaigepddkgpplaaGreatDoor.M
open Go Go.RowKit Go.Maps Go.WideMaps Go.Proofs.YtaigepddkgpplaaGreatDoorW.PrintWords Go.Proofs.YtaigepddkgpplaaGreatDoorW.PrintLast Go.Proofs.YtaigepddkgpplaaGreatDoorW.PrintMore Go.Proofs.YtaigepddkgpplaaGreatDoor.B Go.Proofs.YtaigepddkgpplaaGreatDoor.T
set_option linter.unusedVariables false
set_option linter.unusedSimpArgs false

/-- no two of the first k have one Id -/
def diffK (ps : List S67) (k : Nat) : Prop := ∀ i j, j < i → i < k → idAt ps j ≠ idAt ps i
theorem diff_all {ps : List S67} (h : diffK ps ps.length) : (ids ps).Nodup := by
  unfold List.Nodup
  rw [List.pairwise_iff_getElem]
  intro i j hi hj hij e
  rw [ids_len] at hi hj
  refine h j i hij hj ?_
  have h1 := idAt_get ps hi
  have h2 := idAt_get ps hj
  rw [List.getElem?_eq_getElem (by rw [ids_len]; exact hi)] at h1
  rw [List.getElem?_eq_getElem (by rw [ids_len]; exact hj)] at h2
  injection h1 with h1; injection h2 with h2
  rw [← h1, ← h2]; exact e
theorem diff_no {ps : List S67} {i j : Nat} (hij : j < i) (hi : i < ps.length) (h : idAt ps j = idAt ps i) : ¬ (ids ps).Nodup := fun hn => by
  have := idAt_inj hn (by omega) hi h
  omega
set_option maxRecDepth 100000 in
set_option maxHeartbeats 2000000 in
theorem different41 (A : Option Addr) (fs : List S110) (c : Nat) (A2 : Option Addr) (ps : List S67) (c2 : Nat) (A3 : Option Addr) (n3 c3 : Nat) (w : World) (hC2 : Kd.C k67 w A2 ps.length ps) :
    Calls Tryz.prog 41 #[.agg #[.slice A fs.length c, .slice A2 ps.length c2, .slice A3 n3 c3]] w (RetB (decide (ids ps).Nodup) w) := by
  have hm := hC2.2.1
  obtain ⟨W0, hW0⟩ : ∃ W0, W0 = (w.alloc (.cells #[.slice A fs.length c, .slice A2 ps.length c2, .slice A3 n3 c3] 52 (0, 0))) := ⟨_, rfl⟩
  have hb0 : Below w.heap.size w W0 := by rw [hW0]; exact (Below.refl _ _).alloc (Nat.le_refl _) _
  have hl1 : W0.cell? ⟨w.heap.size, 1, none⟩ = some (.slice A2 ps.length c2) := by rw [hW0]; exact cell_blk (heap_at _ _ rfl) rfl
  have HB0 := Lib.hid hb0; have HW0 := Lib.hid hW0; have HL1 := Lib.hid hl1; have HC2 := Lib.hid hC2
  have HR0 := Lib.hid (Below.refl W0.heap.size W0)
  clear hb0 hW0 hl1 hC2
  go_enter Tryz.func41, Tryz.ntmps41
  go_upto_region 1 with (fail)
  rw [← HW0.out]
  clear HW0
  go_wp2_with fail
  go_loopw [3] (fun i W => ∃ k : Nat, k ≤ ps.length ∧ i = .int .i64 k ∧ diffK ps k ∧ Below W0.heap.size W0 W) (fun i _ => ps.length - (intOf i).toNat)
  case atStart => exact ⟨0, Nat.zero_le _, rfl, fun i j _ h => absurd h (Nat.not_lt_zero _), HR0.out⟩
  case round =>
    obtain ⟨k, hk, rfl, hd, hbr⟩ := hrel
    have HD := Lib.hid hd; have HBR := Lib.hid hbr
    have hl1 := (hbr.cell (World.block_lt_of_cell? _ _ HL1.out)).trans HL1.out
    clear hd hbr
    obtain ⟨wo, hwo⟩ : ∃ wo, wo = wr := ⟨_, rfl⟩
    subst hwo
    by_cases hlt : k < ps.length
    · obtain ⟨ak, _, _, _, _, _, _, _, _, _, _, hak, gk, _⟩ := nt_T67 (Kd.C_below HC2.out (below_to HB0.out HBR.out)) k hlt
      subst hak
      have hik : ps[k].f0 = idAt ps k := by simp [idAt, hlt]
      rw [hik] at gk
      have HGK := Lib.hid gk
      clear gk hik
      go_wp2_with fail
      go_loopw [4] (fun q W => ∃ j : Nat, j ≤ k ∧ q = .int .i64 j ∧ (∀ i, i < j → idAt ps i ≠ idAt ps k) ∧ Below wo.heap.size wo W) (fun q _ => k - (intOf q).toNat)
      case atStart => exact ⟨0, Nat.zero_le _, rfl, fun i h => absurd h (Nat.not_lt_zero _), Below.refl _ _⟩
      case round =>
        obtain ⟨j, hj, rfl, hne, hbj⟩ := hrel
        have HNE := Lib.hid hne; have HBJ := Lib.hid hbj
        have hl2 := (hbj.cell (World.block_lt_of_cell? _ _ hl1)).trans hl1
        have gk := (hbj.cell (World.block_lt_of_cell? _ _ HGK.out)).trans HGK.out
        clear hne hbj
        by_cases hjk : j < k
        · have hjl : j < ps.length := by omega
          obtain ⟨aj, _, _, _, _, _, _, _, _, _, _, haj, gj, _⟩ := nt_T67 (Kd.C_below HC2.out (below_to HB0.out (below_to HBR.out HBJ.out))) j hjl
          injection haj with haj
          subst haj
          have hij : ps[j].f0 = idAt ps j := by simp [idAt, hjl]
          rw [hij] at gj
          have he := str_eq (idAt ps j) (idAt ps k)
          have hk0 : (0 : Int) ≤ (k : Int) := by omega
          have hk1 : (k : Int) < (ps.length : Int) := by omega
          have hj0 : (0 : Int) ≤ (j : Int) := by omega
          have hj1 : (j : Int) < (ps.length : Int) := by omega
          have hnx : idAt ps j ≠ idAt ps k → ∀ i, i < j + 1 → idAt ps i ≠ idAt ps k := fun h i hi => by
            by_cases e : i = j
            · subst e; exact h
            · exact HNE.out i (by omega)
          have hno := fun h => diff_no (ps := ps) hjk hlt h
          clear hij
          generalize idAt ps j = sj at *
          generalize idAt ps k = sk at *
          by_cases hs : sj = sk
          · rw [decide_eq_true hs] at he
            have hret : ∀ W, Below wr.heap.size wr W → RetB (decide (ids ps).Nodup) w (.returned (.bool false)) W := fun W h => ⟨by rw [decide_eq_false (hno hs)], below_to HB0.out (below_to HBR.out (below_to HBJ.out h))⟩
            have HR := Lib.hid hret
            clear hret hnx hno hs
            go_upto_region 7 with (fail)
            go_quiet (fail)
            go_wp2
            go_ret
            exact HR.out _ (pw_below_drewN (Below.refl _ _) _)
          · rw [decide_eq_false hs] at he
            have HNX := Lib.hid (hnx hs)
            clear hnx hno hs
            go_upto_region 7 with (fail)
            go_quiet (fail)
            go_wp2
            go_roundw
            case rel => exact ⟨j + 1, by omega, by go_num, HNX.out, pw_below_drewN HBJ.out _⟩
            case measure => simp [intOf]; omega
        · obtain rfl : j = k := by omega
          have hdx : diffK ps (j + 1) := fun a b hab ha => by
            by_cases e : a = j
            · subst e; exact HNE.out b hab
            · exact HD.out a b hab (by omega)
          have HDX := Lib.hid hdx
          clear hdx
          go_wp2
          go_roundw
          case rel => exact ⟨j + 1, by omega, by go_num, HDX.out, below_to HBR.out HBJ.out⟩
          case measure => simp [intOf]; omega
    · obtain rfl : k = ps.length := by omega
      have hret : RetB (decide (ids ps).Nodup) w (.returned (.bool true)) wo := ⟨by rw [decide_eq_true (diff_all HD.out)], below_to HB0.out HBR.out⟩
      have HR := Lib.hid hret
      clear hret
      go_wp2
      go_ret
      exact HR.out
end Go.Proofs.YtaigepddkgpplaaGreatDoor.M

end
section
/- Plain facts for the law NormCircles: what is taken away, and what the circles are. -/
namespace Go.Proofs.YtaigepddkgpplaaGreatDoor.M
open Go Go.RowKit Go.Maps Go.WideMaps Go.Proofs.YtaigepddkgpplaaGreatDoorW.PrintWords Go.Proofs.YtaigepddkgpplaaGreatDoor.B Go.Proofs.YtaigepddkgpplaaGreatDoor.T
set_option linter.unusedVariables false
set_option linter.unusedSimpArgs false
/-- who excepts a provision, by the texts -/
def adjE (ps : List S67) (v : Nat) : List Nat := if v < ps.length then (List.range ps.length).filter (fun y => hasS (ps.getD y z67).f6 (idAt ps v)) else []
theorem adjE_mem {ps : List S67} {v : Nat} (hv : v < ps.length) (y : Nat) : y ∈ adjE ps v ↔ y < ps.length ∧ hasS (ps.getD y z67).f6 (idAt ps v) = true := by
  unfold adjE
  rw [if_pos hv, List.mem_filter, List.mem_range]
theorem adjE_dom {ps : List S67} {v y : Nat} (h : y ∈ adjE ps v) : v < ps.length := by
  unfold adjE at h
  split at h
  · assumption
  · cases h
theorem adjE_lt (ps : List S67) : ∀ v y, y ∈ adjE ps v → y < ps.length := fun v y h => ((adjE_mem (adjE_dom h) y).1 h).1
theorem adjE_eq {ps : List S67} (hn : (ids ps).Nodup) : adjE ps = adjP ps := by
  funext v
  by_cases hv : v < ps.length
  · unfold adjE adjP
    rw [if_pos hv, rowsJ_adj ps (tgP ps) hv]
    unfold rowF
    apply List.filter_congr
    intro y hy
    have hy : y < ps.length := by simpa using hy
    have h1 := adjP_mem hn hv y
    unfold adjP at h1
    rw [rowsJ_adj ps (tgP ps) hv] at h1
    unfold rowF at h1
    rw [List.mem_filter, List.mem_range] at h1
    rw [Bool.eq_iff_iff, hasS_iff]
    constructor
    · intro h; exact (h1.2 ⟨hy, h⟩).2
    · intro h; exact (h1.1 ⟨hy, h⟩).2
  · unfold adjE adjP adjL
    rw [if_neg hv, List.getD_eq_getElem?_getD, List.getElem?_eq_none (by rw [rowsJ_len]; omega)]
    rfl
theorem circN_get (ps : List S67) (gs : List (List Nat)) {i : Nat} (hi : i < gs.length) (hi2 : i < (circN ps gs).length) : (circN ps gs)[i] = gs[i].map (idAt ps) := by
  exact List.getElem_map (fun g : List Nat => g.map (idAt ps))
/-- who stands in a circle -/
theorem circ_at {ps : List S67} {gs : List (List Nat)} (hF : Go.Proofs.YtaigepddkgpplaaGreatDoor.T.Found (adjE ps) ps.length gs) {i : Nat} (hi : i < (circN ps gs).length) {k : Nat} (hk : k < (circN ps gs)[i].length) :
    ∃ v, v < ps.length ∧ Cyc (adjE ps) v ∧ (circN ps gs)[i][k] = idAt ps v ∧ ∃ m, m < ps.length ∧ hasS (circN ps gs)[i] (idAt ps m) = true ∧ hasS (ps.getD m z67).f6 ((circN ps gs)[i][k]) = true := by
  have hi2 : i < gs.length := by simpa [circN] using hi
  have hg := circN_get ps gs hi2 hi
  have hk2 : k < gs[i].length := by rw [hg] at hk; simpa using hk
  have hv : (circN ps gs)[i][k] = idAt ps gs[i][k] := by simp only [hg, List.getElem_map]
  obtain ⟨u, hu, hcu, hgr⟩ := hF.mem _ (List.getElem_mem hi2)
  have hs := (hgr.mem gs[i][k]).1 (List.getElem_mem hk2)
  have hc : Cyc (adjE ps) gs[i][k] := hs.cyc hcu
  obtain ⟨y, hy, hp⟩ := hc
  have hd := adjE_dom hy
  have hyl := (adjE_mem hd y).1 hy
  have hsy : Scc (adjE ps) gs[i][k] y := ⟨Path.one hy, hp⟩
  have hyg : y ∈ gs[i] := (hgr.mem y).2 (hs.trans hsy)
  refine ⟨gs[i][k], hd, ⟨y, hy, hp⟩, hv, y, hyl.1, ?_, ?_⟩
  · rw [hg, hasS_iff]; exact List.mem_map.2 ⟨y, hyg, rfl⟩
  · rw [hv]; exact hyl.2
/-- what is taken away so far -/
structure GoneB (ps : List S67) (gl : List Bool) (left : Nat) : Prop where
  len : gl.length = ps.length
  cnt : gl.count false = left
  gone : Gone (adjE ps) (fun v => gl.getD v false)
theorem GoneB.start (ps : List S67) : GoneB ps (List.replicate ps.length false) ps.length := by
  refine ⟨by simp, by simp, ?_⟩
  have : (fun v => (List.replicate ps.length false).getD v false) = fun _ => false := by
    funext v
    rw [List.getD_eq_getElem?_getD, List.getElem?_replicate]
    split <;> rfl
  rw [this]
  exact Gone.none _
theorem count_set : ∀ (l : List Bool) (i : Nat), l.getD i false = false → i < l.length → (l.set i true).count false + 1 = l.count false
  | [], i, _, h => by simp at h
  | a :: l, 0, h, _ => by simp at h; subst h; simp
  | a :: l, i + 1, h, hl => by
    have := count_set l i (by simpa using h) (by simpa using hl)
    simp only [List.set_cons_succ, List.count_cons]
    omega
theorem GoneB.next {ps : List S67} {gl : List Bool} {left : Nat} (h : GoneB ps gl left) {i : Nat} (hi : i < ps.length) (h0 : gl.getD i false = false) (hy : ∀ y, y ∈ adjE ps i → gl.getD y false = true) : 1 ≤ left ∧ GoneB ps (gl.set i true) (left - 1) := by
  have hc := count_set gl i h0 (by rw [h.len]; exact hi)
  have hc2 := h.cnt
  refine ⟨by omega, by rw [List.length_set]; exact h.len, by omega, ?_⟩
  have he : (fun v => (gl.set i true).getD v false) = fup (fun v => gl.getD v false) i true := by
    funext v
    by_cases e : v = i
    · subst e
      rw [fup_same, List.getD_eq_getElem?_getD, List.getElem?_set_self (by rw [h.len]; exact hi)]
      rfl
    · rw [fup_other _ _ e, List.getD_eq_getElem?_getD, List.getElem?_set_ne (fun h => e h.symm), ← List.getD_eq_getElem?_getD]
  rw [he]
  exact Gone.next h.gone h0 hy
theorem GoneB.le {ps : List S67} {gl : List Bool} {left : Nat} (h : GoneB ps gl left) : left ≤ ps.length := by
  rw [← h.cnt, ← h.len]; exact List.count_le_length
/-- is a provision free, after k of the others -/
def FreeK (ps : List S67) (gl : List Bool) (i k : Nat) (free : Bool) : Prop :=
  (free = true → gl.getD i false = false ∧ ∀ y, y < k → hasS (ps.getD y z67).f6 (idAt ps i) = true → gl.getD y false = true) ∧ (free = false → gl.getD i false = true ∨ ∃ y, y ∈ adjE ps i ∧ gl.getD y false = false)
theorem FreeK.start (ps : List S67) (gl : List Bool) (i : Nat) : FreeK ps gl i 0 (!gl.getD i false) := ⟨fun h => ⟨by simpa using h, fun y hy => absurd hy (Nat.not_lt_zero _)⟩, fun h => .inl (by simpa using h)⟩
theorem FreeK.next {ps : List S67} {gl : List Bool} {i k : Nat} (h : FreeK ps gl i k true) (hi : i < ps.length) (hk : k < ps.length) : FreeK ps gl i (k + 1) (gl.getD k false || !hasS (ps.getD k z67).f6 (idAt ps i)) := by
  refine ⟨fun hf => ⟨(h.1 rfl).1, fun y hy hs => ?_⟩, fun hf => .inr ⟨k, ?_, ?_⟩⟩
  · by_cases e : y = k
    · subst e
      rw [hs] at hf
      simpa using hf
    · exact (h.1 rfl).2 y (by omega) hs
  · rw [Bool.or_eq_false_iff] at hf
    exact (adjE_mem hi k).2 ⟨hk, by simpa using hf.2⟩
  · rw [Bool.or_eq_false_iff] at hf
    exact hf.1
theorem FreeK.full {ps : List S67} {gl : List Bool} {i : Nat} (hi : i < ps.length) (h : FreeK ps gl i ps.length true) : gl.getD i false = false ∧ ∀ y, y ∈ adjE ps i → gl.getD y false = true :=
  ⟨(h.1 rfl).1, fun y hy => (h.1 rfl).2 y (adjE_lt ps i y hy) ((adjE_mem hi y).1 hy).2⟩
/-- none of the first k can be taken away -/
def Stuck (ps : List S67) (gl : List Bool) (k : Nat) : Prop := ∀ v, v < k → gl.getD v false = false → ∃ y, y ∈ adjE ps v ∧ gl.getD y false = false
theorem Stuck.next {ps : List S67} {gl : List Bool} {i k : Nat} (h : Stuck ps gl i) (hf : FreeK ps gl i k false) : Stuck ps gl (i + 1) := fun v hv hg => by
  by_cases e : v = i
  · subst e
    rcases hf.2 rfl with h1 | h1
    · rw [h1] at hg; cases hg
    · exact h1
  · exact h v (by omega) hg
/-- the circles of a law whose Ids differ, beside what can be taken away -/
theorem circ_all {ps : List S67} {gs : List (List Nat)} {f : Lit → Option Value} {n : Nat} (hn : (ids ps).Nodup) (hat : AtOf ps ps.length f n) (hF : Go.Proofs.YtaigepddkgpplaaGreatDoor.T.Found (adjL (rowsJ ps (tgt f) ps.length 0)) ps.length gs) : Go.Proofs.YtaigepddkgpplaaGreatDoor.T.Found (adjE ps) ps.length gs := by
  rw [adjE_eq hn]
  rw [tgt_eq hat hn] at hF
  exact hF
theorem circ_gone {ps : List S67} {gl : List Bool} {left : Nat} (hn : (ids ps).Nodup) (h : GoneB ps gl left) {gs : List (List Nat)} (hF : Go.Proofs.YtaigepddkgpplaaGreatDoor.T.Found (adjE ps) ps.length gs) {i : Nat} (hi : i < (circN ps gs).length) {k : Nat} (hk : k < (circN ps gs)[i].length) {m : Nat} (hm : m < ps.length) (he : idAt ps m = (circN ps gs)[i][k]) : gl.getD m false = false := by
  obtain ⟨v, hv, hc, e, _⟩ := circ_at hF hi hk
  have := idAt_inj hn hm hv (he.trans e)
  subst this
  cases hg : gl.getD m false with
  | false => rfl
  | true => exact absurd hc (h.gone.nocyc m hg)
theorem circ_left {ps : List S67} {gl : List Bool} {left : Nat} (h : GoneB ps gl left) (hs : Stuck ps gl ps.length) {gs : List (List Nat)} (hF : Go.Proofs.YtaigepddkgpplaaGreatDoor.T.Found (adjE ps) ps.length gs) : decide (left = 0) = decide ((circN ps gs).length = 0) := by
  have hl : (circN ps gs).length = gs.length := by simp [circN]
  rw [hl, decide_eq_decide, ← h.cnt, List.count_eq_zero]
  constructor
  · intro hno
    cases hg : gs with
    | nil => rfl
    | cons g r =>
      obtain ⟨v, hv, hc, _⟩ := hF.mem g (by rw [hg]; simp)
      refine absurd hc (h.gone.nocyc v ?_)
      have hvl : v < gl.length := by rw [h.len]; exact hv
      show gl.getD v false = true
      rw [List.getD_eq_getElem?_getD, List.getElem?_eq_getElem hvl]
      cases e : gl[v] with
      | true => rfl
      | false => exact absurd (e ▸ List.getElem_mem hvl) hno
  · intro h0 hmem
    have hg0 : gs = [] := by cases gs with | nil => rfl | cons _ _ => simp at h0
    subst hg0
    obtain ⟨v, hvl, e⟩ := List.getElem_of_mem hmem
    have hv : v < ps.length := by rw [← h.len]; exact hvl
    have hgv : gl.getD v false = false := by rw [List.getD_eq_getElem?_getD, List.getElem?_eq_getElem hvl, e]; rfl
    exact left_cyc (adjE_lt ps) (g := fun v => gl.getD v false) hs hv hgv (fun u hu hc => by
      obtain ⟨g, hg, _⟩ := hF.all u hu hc
      cases hg)
/-- the row of what is taken away, in a world -/
def GoneAt (gb : Nat) (gl : List Bool) (W : World) : Prop := W.heap[gb]? = some (.cells (gl.map Value.bool).toArray 4 (0, 0))
theorem GoneAt.cell {gb : Nat} {gl : List Bool} {W : World} (h : GoneAt gb gl W) {k : Nat} (hk : k < gl.length) : W.cell? ⟨gb, k, none⟩ = some (.bool (gl.getD k false)) := by
  refine cell_blk h ?_
  rw [List.getElem?_toArray, List.getElem?_map, List.getD_eq_getElem?_getD, List.getElem?_eq_getElem hk]
  rfl
theorem GoneAt.frozen {gb : Nat} {gl : List Bool} {W : World} (h : GoneAt gb gl W) (k : Nat) : W.frozen? ⟨gb, k, none⟩ = false := by
  unfold GoneAt at h
  simp [World.frozen?, h]
theorem GoneAt.below {gb : Nat} {gl : List Bool} {W W' : World} (h : GoneAt gb gl W) (hb : Below W.heap.size W W') : GoneAt gb gl W' := (hb.block _ (blk_lt h)).trans h
theorem GoneAt.set {gb : Nat} {gl : List Bool} {W : World} (h : GoneAt gb gl W) (i : Nat) : GoneAt gb (gl.set i true) (W.setCell ⟨gb, i, none⟩ (.bool true)) := by
  unfold GoneAt
  rw [blk_set h i (.bool true)]
  congr 2
  apply Array.ext'
  simp [List.map_set]
theorem GoneAt.made {gb n : Nat} {W : World} (h : W.heap[gb]? = some (.cells (madeCells #[.bool false] n) 4 (0, 0))) : GoneAt gb (List.replicate n false) W := by
  unfold GoneAt
  rw [h, made_cells]
  simp
end Go.Proofs.YtaigepddkgpplaaGreatDoor.M

end
