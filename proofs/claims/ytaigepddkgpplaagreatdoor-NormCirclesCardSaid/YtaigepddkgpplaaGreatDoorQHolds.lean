/- formula.Check and formula.Holds. -/
import Derived.Test.YtaigepddkgpplaaGreatDoorQCheck
import Derived.Test.YtaigepddkgpplaaGreatDoorQVal2
namespace Go.Proofs.YtaigepddkgpplaaGreatDoor.M
open Go Go.RowKit Go.Maps Go.WideMaps Go.Proofs.YtaigepddkgpplaaGreatDoorW.PrintWords Go.Proofs.YtaigepddkgpplaaGreatDoorW.PrintLast Go.Proofs.YtaigepddkgpplaaGreatDoorW.PrintMore Go.Proofs.YtaigepddkgpplaaGreatDoor.B
set_option linter.unusedVariables false
set_option linter.unusedSimpArgs false

theorem enters71 : ∀ args w, (callFunc 71 args).run Tryz.prog w = .ok (.enter 71 args) w := enters Tryz.func71 (by kernel_rfl) rfl
theorem enters77 : ∀ args w, (callFunc 77 args).run Tryz.prog w = .ok (.enter 77 args) w := enters Tryz.func77 (by kernel_rfl) rfl
theorem true77 (s : ByteArray) (w : World) : Calls Tryz.prog 77 #[.string s] w (RetB true w) := by
  go_enter Tryz.func77, Tryz.ntmps77
  go_wp2
  go_ret
  exact ⟨rfl, Below.refl _ _⟩
set_option maxRecDepth 100000 in
set_option maxHeartbeats 1000000 in
theorem Check_calls (A : Option Addr) (c : Nat) (fs : List S110) (x : S24) (A4 : Option Addr) (c4 : Nat) (A3 : Option Addr) (c3 : Nat) (ts : List ByteArray) (w : World) (hC : Kd.C k110 w A fs.length fs)
    (hl4 : x.f4.length ≤ c4) (hC4 : Kd.C k24 w A4 x.f4.length x.f4) (hs : strOk x) (hC3 : Kd.C Kd.string w A3 ts.length ts) :
    Calls Tryz.prog 21 #[.agg #[.int .i64 x.f0, .string x.f1, .int .i64 x.f2, .int .i64 x.f3, .slice A4 x.f4.length c4], .agg #[.slice A fs.length c], .slice A3 ts.length c3] w (RetI (checkI fs (inTerms ts) x) w) := by
  obtain ⟨w1, hw1⟩ : ∃ w1, w1 = ((w.alloc (.cells #[.int .i64 x.f0, .string x.f1, .int .i64 x.f2, .int .i64 x.f3, .slice A4 x.f4.length c4] 24)).alloc (.cells #[.slice A fs.length c] 27)).alloc (.cells #[.slice A3 ts.length c3] 54) := ⟨_, rfl⟩
  have hb : Below w.heap.size w w1 := by rw [hw1]; exact (((Below.refl _ _).alloc (Nat.le_refl _) _).alloc (by simp) _).alloc (by simp; omega) _
  have c2 : w1.cell? ⟨w.heap.size + 1 + 1, 0, none⟩ = some (.slice A3 ts.length c3) := by rw [hw1]; exact cell_one (heap_at _ _ (by simp))
  have hck := check_calls A c fs x A4 c4 71 #[.pointer (some ⟨w.heap.size + 1 + 1, 0, none⟩)] (inTerms ts) w1 (Kd.C_below hC hb) hl4 (Kd.C_below hC4 hb) hs enters71
    (fun W s h => (known71 (w.heap.size + 1 + 1) A3 c3 ts s W ((h.cell (World.block_lt_of_cell? _ _ c2)).trans c2) (Kd.C_below hC3 (below_to hb h))).mono fun e W' ⟨h1, h2⟩ => ⟨h1, h2 ▸ Below.refl _ _⟩)
  have HCK := Lib.hid hck; have HB := Lib.hid hb
  clear hck c2 hC hC3 hC4 hb hs
  go_enter Tryz.func21, Tryz.ntmps21
  subst hw1
  go_wp2_with (go_at_call 70; refine HCK.out.mono ?_; rintro e W ⟨rfl, hb2⟩)
  go_ret
  exact ⟨rfl, below_to HB.out hb2⟩

/-- formula.Holds -/
def holdsB (fs : List S110) (cs : List Int) (ts : List ByteArray) (x : S24) : Bool := (checkI fs (fun _ => true) x == 0) && (fitsB fs cs && valB fs cs ts x)
theorem nodes_of_check {fs : List S110} {kn : ByteArray → Bool} {x : S24} (h : checkI fs kn x = 0) : ∀ y ∈ nodes x, nodeErr fs kn y = 0 := by
  unfold checkI at h
  split at h
  · cases h
  · intro y hy
    cases hf : ((nodes x).map (nodeErr fs kn)).find? (fun e => e != 0) with
    | none =>
      rw [List.find?_eq_none] at hf
      have := hf _ (List.mem_map_of_mem hy)
      simpa using this
    | some e =>
      rw [hf] at h
      have := List.find?_some hf
      simp at h this
      exact absurd h this
theorem okV_of_check {fs : List S110} {kn : ByteArray → Bool} {x : S24} (h : checkI fs kn x = 0) : okV fs x := fun y hy => by
  have h0 := nodes_of_check h y hy
  unfold nodeErr at h0
  split at h0
  · cases h0
  · rename_i hf
    split at h0
    · cases h0
    · split at h0
      · cases h0
      · rename_i hn
        refine ⟨fun h3 => ?_, fun h5 hnil => ?_⟩
        · by_cases hi : idxI fs y.f1 < 0
          · exact absurd (.inl ⟨h3, hi⟩) hn
          · omega
        · simp [formedK, h5, hnil] at hf
set_option maxRecDepth 100000 in
set_option maxHeartbeats 2000000 in
theorem Holds_calls (A : Option Addr) (c : Nat) (fs : List S110) (x : S24) (A4 : Option Addr) (c4 : Nat) (A2 : Option Addr) (c2 : Nat) (cs : List Int) (A3 : Option Addr) (c3 : Nat) (ts : List ByteArray) (w : World) (hC : Kd.C k110 w A fs.length fs)
    (hsz : ∀ x ∈ fs, x.f0.size ≤ maxLen) (hl4 : x.f4.length ≤ c4) (hC4 : Kd.C k24 w A4 x.f4.length x.f4) (hs : strOk x) (hC2 : Kd.C (Kd.int .i64) w A2 cs.length cs) (hC3 : Kd.C Kd.string w A3 ts.length ts) :
    Calls Tryz.prog 25 #[.agg #[.int .i64 x.f0, .string x.f1, .int .i64 x.f2, .int .i64 x.f3, .slice A4 x.f4.length c4], .agg #[.slice A fs.length c], .slice A2 cs.length c2, .slice A3 ts.length c3] w (RetB (holdsB fs cs ts x) w) := by
  obtain ⟨w1, hw1⟩ : ∃ w1, w1 = (((w.alloc (.cells #[.int .i64 x.f0, .string x.f1, .int .i64 x.f2, .int .i64 x.f3, .slice A4 x.f4.length c4] 24)).alloc (.cells #[.slice A fs.length c] 27)).alloc (.cells #[.slice A2 cs.length c2] 29)).alloc (.cells #[.slice A3 ts.length c3] 54) := ⟨_, rfl⟩
  have hb : Below w.heap.size w w1 := by rw [hw1]; exact ((((Below.refl _ _).alloc (Nat.le_refl _) _).alloc (by simp) _).alloc (by simp; omega) _).alloc (by simp; omega) _
  have e0 : w1.heap[w.heap.size]? = some (.cells #[.int .i64 x.f0, .string x.f1, .int .i64 x.f2, .int .i64 x.f3, .slice A4 x.f4.length c4] 24 (0, 0)) := by rw [hw1]; exact blk_alloc (blk_alloc (blk_alloc (World.alloc_heap_new _ _) _) _) _
  have hz1 : w1.heap.size = w.heap.size + 4 := by rw [hw1]; simp
  have e1 : w1.cell? ⟨w.heap.size + 1, 0, none⟩ = some (.slice A fs.length c) := by rw [hw1]; exact cell_one (blk_alloc (blk_alloc (heap_at _ _ (by simp)) _) _)
  have e2 : w1.cell? ⟨w.heap.size + 1 + 1, 0, none⟩ = some (.slice A2 cs.length c2) := by rw [hw1]; exact cell_one (blk_alloc (heap_at _ _ (by simp)) _)
  have e3 : w1.cell? ⟨w.heap.size + 1 + 1 + 1, 0, none⟩ = some (.slice A3 ts.length c3) := by rw [hw1]; exact cell_one (heap_at _ _ (by simp))
  have hce : ∀ W, Below w1.heap.size w1 W → (W.cell? ⟨w.heap.size, 0, none⟩ = some (.int .i64 x.f0) ∧ W.cell? ⟨w.heap.size, 1, none⟩ = some (.string x.f1) ∧ W.cell? ⟨w.heap.size, 2, none⟩ = some (.int .i64 x.f2) ∧ W.cell? ⟨w.heap.size, 3, none⟩ = some (.int .i64 x.f3) ∧ W.cell? ⟨w.heap.size, 4, none⟩ = some (.slice A4 x.f4.length c4)) ∧ W.cell? ⟨w.heap.size + 1, 0, none⟩ = some (.slice A fs.length c) ∧ W.cell? ⟨w.heap.size + 1 + 1, 0, none⟩ = some (.slice A2 cs.length c2) ∧ W.cell? ⟨w.heap.size + 1 + 1 + 1, 0, none⟩ = some (.slice A3 ts.length c3) :=
    fun W h => ⟨cells5 ((h.block _ (by omega)).trans e0), (h.cell (World.block_lt_of_cell? _ _ e1)).trans e1, (h.cell (World.block_lt_of_cell? _ _ e2)).trans e2, (h.cell (World.block_lt_of_cell? _ _ e3)).trans e3⟩
  have hck := check_calls A c fs x A4 c4 77 #[] (fun _ => true) w1 (Kd.C_below hC hb) hl4 (Kd.C_below hC4 hb) hs enters77 (fun W s h => true77 s W)
  have hft : ∀ W, Below w1.heap.size w1 W → Calls Tryz.prog 23 #[.agg #[.slice A fs.length c], .slice A2 cs.length c2] W (RetB (fitsB fs cs) W) := fun W h => fits_calls A c fs A2 c2 cs W (Kd.C_below hC (below_to hb h)) hsz (Kd.C_below hC2 (below_to hb h))
  have HCK := Lib.hid hck; have HFT := Lib.hid hft; have HB := Lib.hid hb; have HCE := Lib.hid hce
  clear hck hft e0 e1 e2 e3 hce hsz
  have HC := Lib.hid hC; have HC2 := Lib.hid hC2; have HC3 := Lib.hid hC3; have HC4 := Lib.hid hC4; have HZ1 := Lib.hid hz1
  clear hC hC2 hC3 hC4 hb hs hz1
  obtain ⟨r, hr⟩ : ∃ r, r = checkI fs (fun _ => true) x := ⟨_, rfl⟩
  rw [← hr] at HCK
  by_cases h0 : r = 0
  · subst h0
    have hok := okV_of_check hr.symm
    cases hfb : fitsB fs cs with
    | false =>
      have hres : holdsB fs cs ts x = false := by unfold holdsB; rw [hfb]; simp
      rw [hfb] at HFT
      have HRES := Lib.hid hres
      clear hres hfb hok hr
      go_enter Tryz.func25, Tryz.ntmps25
      subst hw1
      go_wp2_with (first | (go_at_call 70; refine HCK.out.mono ?_; rintro e W ⟨rfl, hb2⟩; obtain ⟨⟨c0, c1, c2, c3, c4⟩, c5, c6, c7⟩ := HCE.out _ hb2) | (go_at_call 23; refine (HFT.out _ hb2).mono ?_; rintro e W2 ⟨rfl, hb3⟩))
      go_ret
      exact ⟨by rw [HRES.out]; rfl, below_to HB.out (below_to hb2 hb3)⟩
    | true =>
      have hlen : cs.length = fs.length := by
        unfold fitsB at hfb
        simp only [Bool.and_eq_true, decide_eq_true_eq] at hfb
        exact hfb.2.1
      have hres : holdsB fs cs ts x = valB fs cs ts x := by unfold holdsB; rw [hfb, ← hr]; simp
      rw [hfb] at HFT
      have HRES := Lib.hid hres; have HLEN := Lib.hid hlen; have HOK := Lib.hid hok
      clear hres hfb hok hr hlen
      have hv : ∀ W bf, Below w1.heap.size w1 W → W.cell? ⟨bf, 0, none⟩ = some (.func (.func 78) #[] (valCap (w.heap.size + 1 + 1) (w.heap.size + 1) (w.heap.size + 1 + 1 + 1) bf)) →
          Calls Tryz.prog 78 #[.agg #[.int .i64 x.f0, .string x.f1, .int .i64 x.f2, .int .i64 x.f3, .slice A4 x.f4.length c4], .pointer (some ⟨w.heap.size + 1 + 1, 0, none⟩), .pointer (some ⟨w.heap.size + 1, 0, none⟩), .pointer (some ⟨w.heap.size + 1 + 1 + 1, 0, none⟩), .pointer (some ⟨bf, 0, none⟩)] W (RetB (valB fs cs ts x) W) := fun W bf h hc => by
        obtain ⟨_, k1, k2, k3⟩ := HCE.out W h
        have hbW := below_to HB.out h
        exact val78 ⟨Kd.C_below HC.out hbW, Kd.C_below HC2.out hbW, Kd.C_below HC3.out hbW, HLEN.out, k2, k1, k3, hc⟩ x HOK.out W _ (Below.refl _ _) (k24_mk W x hl4 (Kd.C_below HC4.out hbW))
      have HV := Lib.hid hv
      clear hv
      have heg := enters78
      go_enter Tryz.func25, Tryz.ntmps25
      subst hw1
      go_wp2_with (first | (go_at_call 70; refine HCK.out.mono ?_; rintro e W ⟨rfl, hb2⟩; obtain ⟨⟨c0, c1, c2, c3, c4⟩, c5, c6, c7⟩ := HCE.out _ hb2) | (go_at_call 23; refine (HFT.out _ hb2).mono ?_; rintro e W2 ⟨rfl, hb3⟩; have hb4 := below_to hb2 hb3; have hb5 := below_at hb4 ((Below.refl W2.heap.size W2).alloc (Nat.le_refl _) (.cells #[.func (.func 78) #[] #[.pointer (some ⟨w.heap.size + 1 + 1, 0, none⟩), .pointer (some ⟨w.heap.size + 1, 0, none⟩), .pointer (some ⟨w.heap.size + 1 + 1 + 1, 0, none⟩), .pointer (some ⟨W2.heap.size, 0, none⟩)]] 120)) (Nat.le_refl _); obtain ⟨⟨c0, c1, c2, c3, c4⟩, c5, c6, c7⟩ := HCE.out _ hb5) | ((with_reducible refine (HV.out _ W2.heap.size hb5 (cell_one (World.alloc_heap_new _ _))).mono ?_); rintro e W3 ⟨rfl, hb6⟩))
      go_ret
      exact ⟨by rw [HRES.out]; rfl, below_to HB.out (below_to hb5 hb6)⟩
  · have hres : holdsB fs cs ts x = false := by unfold holdsB; rw [← hr]; simp [h0]
    have n0 : (r != 0) = true := by simpa using h0
    have HRES := Lib.hid hres
    clear hres hr h0
    go_enter Tryz.func25, Tryz.ntmps25
    subst hw1
    go_wp2_with (first | (go_at_call 70; refine HCK.out.mono ?_; rintro e W ⟨rfl, hb2⟩))
    go_ret
    exact ⟨by rw [HRES.out]; rfl, below_to HB.out hb2⟩
end Go.Proofs.YtaigepddkgpplaaGreatDoor.M

