/- The check that each law of layer 14 begins with: it is true. -/
import Derived.Test.YtaigepddkgpplaaGreatDoorQHeadP
import Derived.Test.YtaigepddkgpplaaGreatDoorQLawAt
namespace Go.Proofs.YtaigepddkgpplaaGreatDoor.M
open Go Go.RowKit Go.Maps Go.WideMaps Go.Proofs.YtaigepddkgpplaaGreatDoorW.PrintWords Go.Proofs.YtaigepddkgpplaaGreatDoorW.PrintLast Go.Proofs.YtaigepddkgpplaaGreatDoorW.PrintMore Go.Proofs.YtaigepddkgpplaaGreatDoor.B Go.Proofs.YtaigepddkgpplaaGreatDoor.T
set_option linter.unusedVariables false
set_option linter.unusedSimpArgs false
theorem goodI_of {n : Int} (h : -1000 ≤ n) (h2 : n ≤ 1000) : goodI n := ⟨by omega, by omega⟩
theorem good_leaf {k : Int} {t : ByteArray} {l m : Int} (h1 : goodI k) (h2 : goodS t) (h3 : goodI l) (h4 : goodI m) : good24 ⟨k, t, l, m, []⟩ := fun y hy => by
  rw [nodes_leaf] at hy
  simp at hy; subst hy
  exact ⟨h1, h2, h3, h4, by simp⟩
theorem good_prov {id : ByteArray} {f : S24} {ex : List ByteArray} (h1 : goodS id) (h2 : good24 f) (h3 : goodL goodS ex) : good67 (provE id f ex) :=
  ⟨h1, (goodI_of (n := 0) (by omega) (by omega) : goodI 0), (goodI_of (n := 0) (by omega) (by omega) : goodI 0), (by show (0 : Nat) ≤ _; omega), (goodI_of (n := 0) (by omega) (by omega) : goodI 0), h2, h3⟩
theorem goodE {xs : List ByteArray} (hx : goodL goodS xs) : ∀ p ∈ psE xs, good67 p := fun p hp => by
  unfold psE at hp
  simp only [List.mem_cons, List.not_mem_nil, or_false] at hp
  rcases hp with rfl | rfl | rfl
  · exact good_prov (by show (1 : Nat) ≤ _; omega) (good_leaf (goodI_of (by decide) (by decide)) (by show (0 : Nat) ≤ _; omega) (goodI_of (by decide) (by decide)) (goodI_of (by decide) (by decide))) ⟨by simp, by simp⟩
  · exact good_prov (by show (1 : Nat) ≤ _; omega) (good_leaf (goodI_of (by decide) (by decide)) (by show (6 : Nat) ≤ _; omega) (goodI_of (by decide) (by decide)) (goodI_of (by decide) (by decide))) ⟨by simp, fun x hx => by simp at hx; subst hx; show (1 : Nat) ≤ _; omega⟩
  · exact good_prov (by show (1 : Nat) ≤ _; omega) (good_leaf (goodI_of (by decide) (by decide)) (by show (4 : Nat) ≤ _; omega) (goodI_of (by decide) (by decide)) (goodI_of (by decide) (by decide))) hx
theorem goodFs : ∀ x ∈ fsE, goodS x.f0 := fun x hx => by
  unfold fsE at hx
  simp only [List.mem_cons, List.not_mem_nil, or_false] at hx
  rcases hx with rfl | rfl
  · show (6 : Nat) ≤ _; omega
  · show (4 : Nat) ≤ _; omega
theorem lit_ints {W : World} {b : Nat} {fr : Nat × Nat} (xs : List Int) (h : W.heap[b]? = some (.cells (xs.map (Value.int .i64)).toArray 3 fr)) (hm : xs.length ≤ 1000) : Kd.C (Kd.int .i64) W (some ⟨b, 0, none⟩) xs.length xs :=
  C_blk (d := Kd.int .i64) (xs := xs) h (Kd.reps_scalar xs) (by omega)
theorem lit_strs {W : World} {b : Nat} {fr : Nat × Nat} (xs : List ByteArray) (h : W.heap[b]? = some (.cells (xs.map Value.string).toArray 9 fr)) (hm : xs.length ≤ 1000) : Kd.C Kd.string W (some ⟨b, 0, none⟩) xs.length xs :=
  C_blk (d := Kd.string) (xs := xs) h (Kd.reps_scalar xs) (by omega)
theorem below_one (W : World) (o : Obj) : Below W.heap.size W (W.alloc o) := (Below.refl _ _).alloc (Nat.le_refl _) _
theorem exB (W : World) : Calls Tryz.prog 86 #[.slice (some ⟨W.heap.size, 0, none⟩) 1 1] (W.alloc (.cells #[.string ⟨#[98]⟩] 9)) (ExRet (W.alloc (.cells #[.string ⟨#[98]⟩] 9)) [tb]) :=
  example86 _ 1 [tb] _ (lit_strs [tb] (heap_at _ _ rfl) (by simp)) (by simp)
theorem exBC (W : World) : Calls Tryz.prog 86 #[.slice (some ⟨W.heap.size, 0, none⟩) 2 2] (W.alloc (.cells #[.string ⟨#[98]⟩, .string ⟨#[99]⟩] 9)) (ExRet (W.alloc (.cells #[.string ⟨#[98]⟩, .string ⟨#[99]⟩] 9)) [tb, tc]) :=
  example86 _ 2 [tb, tc] _ (lit_strs [tb, tc] (heap_at _ _ rfl) (by simp)) (by simp)
theorem LawAt.ap {W : World} {A : Option Addr} {A2 : Option Addr} {ps : List S67} (h : LawAt W A fsE A2 ps) (hn : ps.length ≤ 1048576) (A3 : Option Addr) (c c2 n3 c3 : Nat) (cs : List Int) (hm : cs.length ≤ 1000) {L : List ByteArray} {E : Int} (hL : appL fsE ps cs = L ∧ appE fsE ps cs = E) :
    Calls Tryz.prog 31 #[.agg #[.slice A fsE.length c, .slice A2 ps.length c2, .slice A3 n3 c3], .slice (some ⟨W.heap.size, 0, none⟩) cs.length cs.length] (W.alloc (.cells (cs.map (Value.int .i64)).toArray 3)) (StrsRet (W.alloc (.cells (cs.map (Value.int .i64)).toArray 3)) L E) := by
  have := (h.below (below_one W (.cells (cs.map (Value.int .i64)).toArray 3))).applies hn c c2 A3 n3 c3 (some ⟨W.heap.size, 0, none⟩) cs cs.length (lit_ints cs (heap_at _ _ rfl) hm)
  rwa [hL.1, hL.2] at this
theorem LawAt.bl {W : World} {A : Option Addr} {A2 : Option Addr} {ps : List S67} (h : LawAt W A fsE A2 ps) (hn : ps.length ≤ 1048576) (A3 : Option Addr) (c c2 n3 c3 : Nat) (id : ByteArray) (hi : goodS id) (cs : List Int) (hm : cs.length ≤ 1000) {L : List ByteArray} {E : Int} (hL : blkL fsE ps cs id = L ∧ blkE fsE ps cs id = E) :
    Calls Tryz.prog 33 #[.agg #[.slice A fsE.length c, .slice A2 ps.length c2, .slice A3 n3 c3], .string id, .slice (some ⟨W.heap.size, 0, none⟩) cs.length cs.length] (W.alloc (.cells (cs.map (Value.int .i64)).toArray 3)) (StrsRet (W.alloc (.cells (cs.map (Value.int .i64)).toArray 3)) L E) := by
  have := (h.below (below_one W (.cells (cs.map (Value.int .i64)).toArray 3))).blocked hn c c2 A3 n3 c3 id hi (some ⟨W.heap.size, 0, none⟩) cs cs.length (lit_ints cs (heap_at _ _ rfl) hm)
  rwa [hL.1, hL.2] at this
theorem h00 {W : World} {Af Ap : Option Addr} (h : LawAt W Af fsE Ap (psE [tb])) : Calls Tryz.prog 31 #[.agg #[.slice Af 2 2, .slice Ap 3 3, .slice none 0 0], .slice (some ⟨W.heap.size, 0, none⟩) 2 2] (W.alloc (.cells #[.int .i64 0, .int .i64 0] 3)) (StrsRet (W.alloc (.cells #[.int .i64 0, .int .i64 0] 3)) [ta] 0) :=
  h.ap (by simp [psE]) none 2 3 0 0 [0, 0] (by simp) ap00
theorem h10 {W : World} {Af Ap : Option Addr} (h : LawAt W Af fsE Ap (psE [tb])) : Calls Tryz.prog 31 #[.agg #[.slice Af 2 2, .slice Ap 3 3, .slice none 0 0], .slice (some ⟨W.heap.size, 0, none⟩) 2 2] (W.alloc (.cells #[.int .i64 1, .int .i64 0] 3)) (StrsRet (W.alloc (.cells #[.int .i64 1, .int .i64 0] 3)) [tb] 0) :=
  h.ap (by simp [psE]) none 2 3 0 0 [1, 0] (by simp) ap10
theorem h11 {W : World} {Af Ap : Option Addr} (h : LawAt W Af fsE Ap (psE [tb])) : Calls Tryz.prog 31 #[.agg #[.slice Af 2 2, .slice Ap 3 3, .slice none 0 0], .slice (some ⟨W.heap.size, 0, none⟩) 2 2] (W.alloc (.cells #[.int .i64 1, .int .i64 1] 3)) (StrsRet (W.alloc (.cells #[.int .i64 1, .int .i64 1] 3)) [ta, tc] 0) :=
  h.ap (by simp [psE]) none 2 3 0 0 [1, 1] (by simp) ap11
theorem h0 {W : World} {Af Ap : Option Addr} (h : LawAt W Af fsE Ap (psE [tb])) : Calls Tryz.prog 31 #[.agg #[.slice Af 2 2, .slice Ap 3 3, .slice none 0 0], .slice (some ⟨W.heap.size, 0, none⟩) 1 1] (W.alloc (.cells #[.int .i64 0] 3)) (StrsRet (W.alloc (.cells #[.int .i64 0] 3)) [] 1) :=
  h.ap (by simp [psE]) none 2 3 0 0 [0] (by simp) ap0
theorem hb10 {W : World} {Af Ap : Option Addr} (h : LawAt W Af fsE Ap (psE [tb])) : Calls Tryz.prog 33 #[.agg #[.slice Af 2 2, .slice Ap 3 3, .slice none 0 0], .string ⟨#[97]⟩, .slice (some ⟨W.heap.size, 0, none⟩) 2 2] (W.alloc (.cells #[.int .i64 1, .int .i64 0] 3)) (StrsRet (W.alloc (.cells #[.int .i64 1, .int .i64 0] 3)) [tb] 0) :=
  h.bl (by simp [psE]) none 2 3 0 0 ta (by show (1 : Nat) ≤ _; omega) [1, 0] (by simp) bl10
theorem hbx {W : World} {Af Ap : Option Addr} (h : LawAt W Af fsE Ap (psE [tb])) : Calls Tryz.prog 33 #[.agg #[.slice Af 2 2, .slice Ap 3 3, .slice none 0 0], .string ⟨#[120]⟩, .slice (some ⟨W.heap.size, 0, none⟩) 2 2] (W.alloc (.cells #[.int .i64 1, .int .i64 0] 3)) (StrsRet (W.alloc (.cells #[.int .i64 1, .int .i64 0] 3)) [] 11) :=
  h.bl (by simp [psE]) none 2 3 0 0 ⟨#[120]⟩ (by show (1 : Nat) ≤ _; omega) [1, 0] (by simp) blx
theorem hc00 {W : World} {Af Ap : Option Addr} (h : LawAt W Af fsE Ap (psE [tb, tc])) : Calls Tryz.prog 31 #[.agg #[.slice Af 2 2, .slice Ap 3 3, .slice none 0 0], .slice (some ⟨W.heap.size, 0, none⟩) 2 2] (W.alloc (.cells #[.int .i64 0, .int .i64 0] 3)) (StrsRet (W.alloc (.cells #[.int .i64 0, .int .i64 0] 3)) [] 13) :=
  h.ap (by simp [psE]) none 2 3 0 0 [0, 0] (by simp) (apc 0 0 (fits2 0 0 (.inl rfl) (.inl rfl)))
theorem hcir {W : World} {Af Ap : Option Addr} (h : LawAt W Af fsE Ap (psE [tb, tc])) : Calls Tryz.prog 37 #[.agg #[.slice Af 2 2, .slice Ap 3 3, .slice none 0 0]] W (CirRet W (psE [tb, tc])) := h.circles (by simp [psE]) 2 3 none 0 0
theorem LawAt.ofEx {W : World} {Af Ap : Option Addr} {xs : List ByteArray} (h1 : Kd.C k110 W Af 2 fsE) (h2 : Kd.C k67 W Ap 3 (psE xs)) (hx : goodL goodS xs) : LawAt W Af fsE Ap (psE xs) := ⟨h1, h2, goodFs, goodE hx⟩
/-- what a list of texts comes as -/
theorem StrsRet.open_ {w : World} {L : List ByteArray} {er : Int} {e : Ending} {W : World} (h : StrsRet w L er e W) : ∃ A c, e = .returned (.tuple #[.slice A L.length c, .int .i64 er]) ∧ Below w.heap.size w W ∧ L.length ≤ c ∧ Kd.C Kd.string W A L.length L := by
  obtain ⟨ov, rfl, hb, hR⟩ := h
  obtain ⟨A, c, rfl, hl, hC⟩ := Kd.R_reads hR
  exact ⟨A, c, rfl, hb, hl, hC⟩
theorem same_lit (xs : List ByteArray) {A : Option Addr} (c : Nat) {W : World} (h : Kd.C Kd.string W A xs.length xs) (hm : xs.length ≤ 1000) :
    Calls Tryz.prog 35 #[.slice A xs.length c, .slice (some ⟨W.heap.size, 0, none⟩) xs.length xs.length] (W.alloc (.cells (xs.map Value.string).toArray 9)) (RetB true (W.alloc (.cells (xs.map Value.string).toArray 9))) := by
  have := same35 A c xs (some ⟨W.heap.size, 0, none⟩) xs.length xs (W.alloc (.cells (xs.map Value.string).toArray 9)) (Kd.C_below h (below_one W _)) (lit_strs xs (heap_at _ _ rfl) hm)
  rwa [decide_eq_true rfl] at this
theorem same_a {A : Option Addr} {c : Nat} {W : World} (h : Kd.C Kd.string W A 1 [ta]) : Calls Tryz.prog 35 #[.slice A 1 c, .slice (some ⟨W.heap.size, 0, none⟩) 1 1] (W.alloc (.cells #[.string ⟨#[97]⟩] 9)) (RetB true (W.alloc (.cells #[.string ⟨#[97]⟩] 9))) := same_lit [ta] c h (by simp)
theorem same_b {A : Option Addr} {c : Nat} {W : World} (h : Kd.C Kd.string W A 1 [tb]) : Calls Tryz.prog 35 #[.slice A 1 c, .slice (some ⟨W.heap.size, 0, none⟩) 1 1] (W.alloc (.cells #[.string ⟨#[98]⟩] 9)) (RetB true (W.alloc (.cells #[.string ⟨#[98]⟩] 9))) := same_lit [tb] c h (by simp)
theorem same_ac {A : Option Addr} {c : Nat} {W : World} (h : Kd.C Kd.string W A 2 [ta, tc]) : Calls Tryz.prog 35 #[.slice A 2 c, .slice (some ⟨W.heap.size, 0, none⟩) 2 2] (W.alloc (.cells #[.string ⟨#[97]⟩, .string ⟨#[99]⟩] 9)) (RetB true (W.alloc (.cells #[.string ⟨#[97]⟩, .string ⟨#[99]⟩] 9))) := same_lit [ta, tc] c h (by simp)
theorem lists_c {A : Option Addr} {c : Nat} {W : World} (h : Kd.C (Kd.slice 9 Kd.string) W A 1 [[tc]]) :
    Calls Tryz.prog 36 #[.slice A 1 c, .slice (some ⟨W.heap.size + 1, 0, none⟩) 1 1] ((W.alloc (.cells #[.string ⟨#[99]⟩] 9)).alloc (.cells #[.slice (some ⟨W.heap.size, 0, none⟩) 1 1] 54)) (RetB true ((W.alloc (.cells #[.string ⟨#[99]⟩] 9)).alloc (.cells #[.slice (some ⟨W.heap.size, 0, none⟩) 1 1] 54))) := by
  have hb1 := below_one W (.cells #[.string ⟨#[99]⟩] 9)
  have hb := below_to hb1 (below_one (W.alloc (.cells #[.string ⟨#[99]⟩] 9)) (.cells #[.slice (some ⟨W.heap.size, 0, none⟩) 1 1] 54))
  have hi : Kd.C Kd.string ((W.alloc (.cells #[.string ⟨#[99]⟩] 9)).alloc (.cells #[.slice (some ⟨W.heap.size, 0, none⟩) 1 1] 54)) (some ⟨W.heap.size, 0, none⟩) 1 [tc] := lit_strs [tc] (blk_alloc (heap_at _ _ rfl) _) (by simp)
  have hc : Kd.C (Kd.slice 9 Kd.string) ((W.alloc (.cells #[.string ⟨#[99]⟩] 9)).alloc (.cells #[.slice (some ⟨W.heap.size, 0, none⟩) 1 1] 54)) (some ⟨W.heap.size + 1, 0, none⟩) 1 [[tc]] :=
    C_blk (d := Kd.slice 9 Kd.string) (xs := [[tc]]) (cs := [.slice (some ⟨W.heap.size, 0, none⟩) 1 1]) (heap_at _ _ (by simp)) ((Reps.none _ 1).snoc ⟨_, 1, rfl, by simp, hi⟩ rfl) (by simp)
  have := lists36 A c [[tc]] (some ⟨W.heap.size + 1, 0, none⟩) 1 [[tc]] _ (Kd.C_below h hb) hc
  rwa [decide_eq_true rfl] at this
set_option maxRecDepth 100000 in
set_option maxHeartbeats 4000000 in
theorem head29 (w : World) : Calls Tryz.prog 29 #[] w (RetB true w) := by
  go_enter Tryz.func29, Tryz.ntmps29
  go_upto_region 2 with (go_at_call 86; (with_reducible refine (exB _).mono ?_); rintro e W1 ⟨Af, Ap, rfl, hb1, hF1, hP1⟩)
  have hl1 := LawAt.ofEx hF1 hP1 (xs := [tb]) ⟨by simp, fun x hx => by simp at hx; subst hx; show (1 : Nat) ≤ _; omega⟩
  have hlb : (W1.alloc (.cells #[.slice Af 2 2, .slice Ap 3 3, .slice none 0 0] 52)).heap[W1.heap.size]? = some (.cells #[.slice Af 2 2, .slice Ap 3 3, .slice none 0 0] 52 (0, 0)) := heap_at _ _ rfl
  obtain ⟨Wl, hWl⟩ : ∃ Wl, Wl = W1.alloc (.cells #[.slice Af 2 2, .slice Ap 3 3, .slice none 0 0] 52) := ⟨_, rfl⟩
  have hbl : Below w.heap.size w Wl := by rw [hWl]; exact below_to (below_one w (.cells #[.string ⟨#[98]⟩] 9)) hb1 |>.trans ((below_one W1 _).mono (by have := hb1.size; simp at this; omega))
  have hll := hl1.below (below_one W1 (.cells #[.slice Af 2 2, .slice Ap 3 3, .slice none 0 0] 52))
  rw [← hWl] at hlb hll ⊢
  have hlw : ∀ W, Below Wl.heap.size Wl W → W.cell? ⟨W1.heap.size, 0, none⟩ = some (.slice Af 2 2) ∧ W.cell? ⟨W1.heap.size, 1, none⟩ = some (.slice Ap 3 3) ∧ W.cell? ⟨W1.heap.size, 2, none⟩ = some (.slice none 0 0) := fun W h =>
    have hb := (h.block _ (blk_lt hlb)).trans hlb
    ⟨cell_blk hb rfl, cell_blk hb rfl, cell_blk hb rfl⟩
  have HLW := Lib.hid hlw; have HLL := Lib.hid hll; have HBL := Lib.hid hbl
  have HR0 := Lib.hid (Below.refl Wl.heap.size Wl)
  clear hl1 hlb hlw hll hbl hF1 hP1 hb1 hWl
  obtain ⟨e0, e1, e2⟩ := HLW.out _ HR0.out
  have h2 := Lib.hid (h00 HLL.out)
  go_upto_region 3 with (go_at_call 31; (with_reducible refine h2.out.mono ?_); rintro e W2 h; obtain ⟨A2, c2, rfl, hb2, _, hC2⟩ := h.open_; replace hb2 := Lib.hid hb2; replace hC2 := Lib.hid hC2; clear h)
  have hB2 := Lib.hid (below_to (below_one Wl (.cells #[.int .i64 0, .int .i64 0] 3)) hb2.out)
  clear e0 e1 e2
  obtain ⟨e0, e1, e2⟩ := HLW.out _ hB2.out
  have h3 := Lib.hid (h10 (HLL.out.below hB2.out))
  go_upto_region 4 with (go_at_call 31; (with_reducible refine h3.out.mono ?_); rintro e W3 h; obtain ⟨A3, c3, rfl, hb3, _, hC3⟩ := h.open_; replace hb3 := Lib.hid hb3; replace hC3 := Lib.hid hC3; clear h)
  have hS3 := Lib.hid (below_to (below_one W2 (.cells #[.int .i64 1, .int .i64 0] 3)) hb3.out)
  have hB3 := Lib.hid (below_to hB2.out hS3.out)
  clear e0 e1 e2
  obtain ⟨e0, e1, e2⟩ := HLW.out _ hB3.out
  have h4 := Lib.hid (h11 (HLL.out.below hB3.out))
  go_upto_region 5 with (go_at_call 31; (with_reducible refine h4.out.mono ?_); rintro e W4 h; obtain ⟨A4, c4, rfl, hb4, _, hC4⟩ := h.open_; replace hb4 := Lib.hid hb4; replace hC4 := Lib.hid hC4; clear h)
  have hS4 := Lib.hid (below_to (below_one W3 (.cells #[.int .i64 1, .int .i64 1] 3)) hb4.out)
  have hB4 := Lib.hid (below_to hB3.out hS4.out)
  clear e0 e1 e2
  obtain ⟨e0, e1, e2⟩ := HLW.out _ hB4.out
  have h5 := Lib.hid (hb10 (HLL.out.below hB4.out))
  go_upto_region 6 with (go_at_call 33; (with_reducible refine h5.out.mono ?_); rintro e W5 h; obtain ⟨A5, c5, rfl, hb5, _, hC5⟩ := h.open_; replace hb5 := Lib.hid hb5; replace hC5 := Lib.hid hC5; clear h)
  have hS5 := Lib.hid (below_to (below_one W4 (.cells #[.int .i64 1, .int .i64 0] 3)) hb5.out)
  have hB5 := Lib.hid (below_to hB4.out hS5.out)
  have h6 := Lib.hid (exBC W5)
  have htb : goodL goodS [tb, tc] := ⟨by simp, fun x hx => by simp at hx; rcases hx with rfl | rfl <;> (show (1 : Nat) ≤ _; omega)⟩
  have HTB := Lib.hid htb
  clear htb
  go_upto_region 7 with (first | (go_at_call 86; (with_reducible refine h6.out.mono ?_); rintro e W6 ⟨Af6, Ap6, rfl, hb6, hF6, hP6⟩; have h7 := Lib.hid (hc00 (LawAt.ofEx hF6 hP6 HTB.out)); replace hb6 := Lib.hid hb6; clear hF6 hP6) | (go_at_call 31; (with_reducible refine h7.out.mono ?_); rintro e W7 h; obtain ⟨A7, c7, rfl, hb7, _, _⟩ := h.open_; replace hb7 := Lib.hid hb7; clear h))
  have hS7 := Lib.hid (below_to (below_to (below_one W5 (.cells #[.string ⟨#[98]⟩, .string ⟨#[99]⟩] 9)) hb6.out) (below_to (below_one W6 (.cells #[.int .i64 0, .int .i64 0] 3)) hb7.out))
  have hB7 := Lib.hid (below_to hB5.out hS7.out)
  clear e0 e1 e2
  obtain ⟨e0, e1, e2⟩ := HLW.out _ hB7.out
  have h8 := Lib.hid (h0 (HLL.out.below hB7.out))
  go_upto_region 8 with (go_at_call 31; (with_reducible refine h8.out.mono ?_); rintro e W8 h; obtain ⟨A8, c8, rfl, hb8, _, hC8⟩ := h.open_; replace hb8 := Lib.hid hb8; replace hC8 := Lib.hid hC8; clear h)
  have hS8 := Lib.hid (below_to (below_one W7 (.cells #[.int .i64 0] 3)) hb8.out)
  have hB8 := Lib.hid (below_to hB7.out hS8.out)
  clear e0 e1 e2
  obtain ⟨e0, e1, e2⟩ := HLW.out _ hB8.out
  have h9 := Lib.hid (hbx (HLL.out.below hB8.out))
  go_upto_region 9 with (go_at_call 33; (with_reducible refine h9.out.mono ?_); rintro e W9 h; obtain ⟨A9, c9, rfl, hb9, _, hC9⟩ := h.open_; replace hb9 := Lib.hid hb9; replace hC9 := Lib.hid hC9; clear h)
  have hS9 := Lib.hid (below_to (below_one W8 (.cells #[.int .i64 1, .int .i64 0] 3)) hb9.out)
  have hB9 := Lib.hid (below_to hB8.out hS9.out)
  clear e0 e1 e2
  have hq8 := below_to hS8.out hS9.out
  have hq7 := below_to hS7.out hq8
  have hC5 := Lib.hid (Kd.C_below hC5.out hq7)
  have hq5 := below_to hS5.out hq7
  have hC4 := Lib.hid (Kd.C_below hC4.out hq5)
  have hq4 := below_to hS4.out hq5
  have hC3 := Lib.hid (Kd.C_below hC3.out hq4)
  have hq3 := below_to hS3.out hq4
  have hC2 := Lib.hid (Kd.C_below hC2.out hq3)
  have HB9 := Lib.hid (below_to HBL.out hB9.out)
  clear hq8 hq7 hq5 hq4 hq3
  go_upto_region 10 with (fail)
  have hs1 := Lib.hid (same_a (c := c2) hC2.out)
  go_wp2_with (first
    | (go_at_call 35; (with_reducible refine hs1.out.mono ?_); rintro e V1 ⟨rfl, hv1⟩; have hw1 := Lib.hid (below_to (below_one W9 _) hv1); have hs2 := Lib.hid (same_b (c := c3) (Kd.C_below hC3.out hw1.out)); clear hv1)
    | (go_at_call 35; (with_reducible refine hs2.out.mono ?_); rintro e V2 ⟨rfl, hv2⟩; have hw2 := Lib.hid (below_to hw1.out (below_to (below_one V1 _) hv2)); have hs3 := Lib.hid (same_ac (c := c4) (Kd.C_below hC4.out hw2.out)); clear hv2)
    | (go_at_call 35; (with_reducible refine hs3.out.mono ?_); rintro e V3 ⟨rfl, hv3⟩; have hw3 := Lib.hid (below_to hw2.out (below_to (below_one V2 _) hv3)); have hs4 := Lib.hid (same_b (c := c5) (Kd.C_below hC5.out hw3.out)); clear hv3)
    | (go_at_call 35; (with_reducible refine hs4.out.mono ?_); rintro e V4 ⟨rfl, hv4⟩; have hw4 := Lib.hid (below_to hw3.out (below_to (below_one V3 _) hv4)); have hs5 := Lib.hid (exBC V4); clear hv4)
    | (go_at_call 86; (with_reducible refine hs5.out.mono ?_); rintro e V5 ⟨Af9, Ap9, rfl, hv5, hF9, hP9⟩; have hw5 := Lib.hid (below_to hw4.out (below_to (below_one V4 _) hv5)); have hs6 := Lib.hid (hcir (LawAt.ofEx hF9 hP9 HTB.out)); clear hv5 hF9 hP9)
    | (go_at_call 37; (with_reducible refine hs6.out.mono ?_); rintro e V6 hcr; obtain ⟨cv, base, rfl, hv6, hRc⟩ := cirE hcr; obtain ⟨Ac, cc, rfl, _, hCc⟩ := Kd.R_reads hRc; have hw6 := Lib.hid (below_to hw5.out hv6); have hs7 := Lib.hid (lists_c (c := cc) hCc); clear hv6 hRc hCc hcr)
    | (go_at_call 36; (with_reducible refine hs7.out.mono ?_); rintro e V7 ⟨rfl, hv7⟩; have hw7 := Lib.hid (below_to hw6.out (below_to (below_to (below_one V6 _) (below_one _ _)) hv7)); clear hv7))
  go_ret
  exact ⟨rfl, below_to HB9.out hw7.out⟩
end Go.Proofs.YtaigepddkgpplaaGreatDoor.M

