/- formula.check -/
import Derived.Test.YtaigepddkgpplaaGreatDoorQFormed
import Derived.Test.YtaigepddkgpplaaGreatDoorQSize
import Derived.Outline
namespace Go.Proofs.YtaigepddkgpplaaGreatDoor.M
open Go Go.RowKit Go.Maps Go.WideMaps Go.Proofs.YtaigepddkgpplaaGreatDoorW.PrintWords Go.Proofs.YtaigepddkgpplaaGreatDoorW.PrintLast Go.Proofs.YtaigepddkgpplaaGreatDoorW.PrintMore Go.Proofs.YtaigepddkgpplaaGreatDoor.B
set_option linter.unusedVariables false
set_option linter.unusedSimpArgs false
attribute [local go_sem] Oper.semAt_some

/-- what is wrong with one node -/
def nodeErr (fs : List S110) (kn : ByteArray → Bool) (y : S24) : Int :=
  if formedK y.f0 y.f1 y.f2 y.f3 y.f4.length = false then 1
  else if y.f0 = 3 ∧ (y.f3 < 0 ∨ 1000000 < y.f3) then 10
  else if (y.f0 = 3 ∧ idxI fs y.f1 < 0) ∨ (y.f0 = 4 ∧ kn y.f1 = false) then 7
  else 0
/-- what formula.check answers -/
def checkI (fs : List S110) (kn : ByteArray → Bool) (x : S24) : Int :=
  if 200 < (sizeD x).1 ∨ 20 < (sizeD x).2 then 2 else (((nodes x).map (nodeErr fs kn)).find? (fun e => e != 0)).getD 0
theorem below_putObj {B l : Nat} {w W : World} (h : Below B w W) (hl : B ≤ l) (o : Obj) : Below B w (W.putObj l o) := ⟨h.os, h.tape, h.output, by simpa using h.size, fun k hk => (World.putObj_heap_other (by omega)).trans (h.block k hk)⟩
theorem none_fn {p : FuncId → Prop} : ∀ f : FuncId, (none : Option FuncId) = some f → p f := fun _ h => by cases h
theorem lens_of_K {w : World} : ∀ (x : S24) (vs : List Value), k24.K w x vs → lensOk x := by
  refine S24.ind fun x ih => ?_
  intro vs hK y hy
  obtain ⟨A4, c4, rfl, hl, hC⟩ := k24_open hK
  rw [nodes_eq] at hy
  rcases List.mem_cons.1 hy with rfl | hy
  · have := hC.2.1; unfold maxLen at this; omega
  · obtain ⟨l, hl1, hy⟩ := List.mem_flatten.1 hy
    obtain ⟨z, hz, rfl⟩ := List.mem_map.1 hl1
    obtain ⟨i, hi, rfl⟩ := List.getElem_of_mem hz
    obtain ⟨ad, cs, _, _, hK2, _⟩ := nt_cells hC i hi
    exact ih _ hz _ hK2 y hy

/-- the frame of a round -/
def chkTm (x : S24) (A4 : Option Addr) (c4 : Nat) (A : Option Addr) (fs : List S110) (c : Nat) (g : Nat) (cap : Array Value) (sn sd : Int) (B Zb gb : Nat) (vs : List Value) : Array Value := #[.agg #[.int .i64 x.f0, .string x.f1, .int .i64 x.f2, .int .i64 x.f3, .slice A4 x.f4.length c4], .agg #[.slice A fs.length c], .func (.func g) #[] cap, .pointer (some ⟨B, 0, none⟩), .pointer (some ⟨(B + 1), 0, none⟩), .pointer (some ⟨(B + 1 + 1), 0, none⟩), .pointer (some ⟨(B + 1 + 1 + 1), 0, none⟩), .int .i64 sn, .int .i64 sd, .pointer (some ⟨gb, 0, none⟩), .tuple #[.int .i64 sn, .int .i64 sd], .agg #[.int .i64 x.f0, .string x.f1, .int .i64 x.f2, .int .i64 x.f3, .slice A4 x.f4.length c4], .tuple #[.int .i64 sn, .int .i64 sd], .int .i64 sn, .int .i64 sd, .int .i64 sn, .bool false, .bool false, .int .i64 sd, .bool false, .bool false, .agg #[.int .i64 x.f0, .string x.f1, .int .i64 x.f2, .int .i64 x.f3, .slice A4 x.f4.length c4], .func (.func 164) #[] #[.pointer (some ⟨Zb, 0, none⟩)], .agg vs.toArray, undef, undef, undef, undef, undef, undef, undef, undef, undef, undef, undef, undef, undef, undef, undef, undef, undef, undef, undef, undef, undef, undef, undef, undef, undef, undef, undef, undef, undef, undef, undef, undef, undef, undef, undef, undef, undef, undef, undef]
def prj {w : World} (pre : List (El w)) : List S24 := pre.map (fun p => p.1.1)
theorem prj_snoc {w : World} (pre : List (El w)) (p : El w) : prj (pre ++ [p]) = prj pre ++ [p.1.1] := by simp [prj]
/-- rounds that found nothing -/
structure CkJ (w2 : World) (fs : List S110) (kn : ByteArray → Bool) (pre : List S24) (W : World) : Prop where
  below : Below w2.heap.size w2 W
  size : w2.heap.size + 2 ≤ W.heap.size
  zero : ∀ y ∈ pre, nodeErr fs kn y = 0
/-- a round that found something -/
structure CkX (w : World) (Z : Nat) (fs : List S110) (kn : ByteArray → Bool) (pre : List S24) (W : World) : Prop where
  below : Below w.heap.size w W
  size : Z + 2 ≤ W.heap.size
  lt : w.heap.size + 4 ≤ Z
  res : ∃ err, err ≠ 0 ∧ W.heap[w.heap.size + 1 + 1 + 1]? = some (.cells #[.int .i64 err] 35 (0, 0)) ∧ ∃ p y, pre = p ++ [y] ∧ (∀ z ∈ p, nodeErr fs kn z = 0) ∧ nodeErr fs kn y = err
theorem CkJ.kept {w2 : World} {fs : List S110} {kn : ByteArray → Bool} {pre : List S24} {W W' : World} (h : CkJ w2 fs kn pre W) (hk : Keep (fun k => k = w2.heap.size + 1) W W') : CkJ w2 fs kn pre W' :=
  ⟨h.below.trans (hk.below (Nat.le_trans (Nat.le_add_right _ 2) h.size) (fun k hk' e => by omega)), Nat.le_trans h.size hk.size, h.zero⟩
theorem CkX.kept {w : World} {Z : Nat} {fs : List S110} {kn : ByteArray → Bool} {pre : List S24} {W W' : World} (h : CkX w Z fs kn pre W) (hk : Keep (fun k => k = Z + 1) W W') : CkX w Z fs kn pre W' := by
  obtain ⟨err, h0, h1, h2⟩ := h.res
  have h3 := h.lt
  have h4 := h.size
  exact ⟨h.below.trans (hk.below (by omega) (fun k hk' e => by omega)), Nat.le_trans h.size hk.size, h.lt, err, h0, (hk.block _ (by omega) (by omega)).trans h1, h2⟩
theorem CkJ.next {w2 : World} {fs : List S110} {kn : ByteArray → Bool} {pre : List S24} {y : S24} {W W' : World} (h : CkJ w2 fs kn pre W) (hb : Below W.heap.size W W') (hy : nodeErr fs kn y = 0) : CkJ w2 fs kn (pre ++ [y]) W' :=
  ⟨h.below.trans (hb.mono (Nat.le_trans (Nat.le_add_right _ 2) h.size)), Nat.le_trans h.size hb.size, fun z hz => by
    rcases List.mem_append.1 hz with hz | hz
    · exact h.zero z hz
    · simp at hz; subst hz; exact hy⟩
theorem CkJ.stop {w w2 : World} {fs : List S110} {kn : ByteArray → Bool} {pre : List S24} {y : S24} {W W' : World} {v : Value} (h : CkJ w2 fs kn pre W) (hw : Below w.heap.size w w2) (hlt : w.heap.size + 4 ≤ w2.heap.size) (h3 : w2.heap[w.heap.size + 1 + 1 + 1]? = some (.cells #[v] 35 (0, 0)))
    (hb : Below W.heap.size W W') {err : Int} (he : err ≠ 0) (hy : nodeErr fs kn y = err) : CkX w w2.heap.size fs kn (pre ++ [y]) (W'.setCell ⟨w.heap.size + 1 + 1 + 1, 0, none⟩ (.int .i64 err)) := by
  have h4 := h.size
  have h5 := hb.size
  have e3 : W'.heap[w.heap.size + 1 + 1 + 1]? = some (.cells #[v] 35 (0, 0)) := (hb.block _ (by omega)).trans ((h.below.block _ (by omega)).trans h3)
  refine ⟨Below.setCell (hw.trans ((h.below.mono (by omega)).trans (hb.mono (by omega)))) (by simp; omega) _, by simp; omega, hlt, err, he, heap_one e3, pre, y, rfl, h.zero, hy⟩
theorem chk_all {fs : List S110} {kn : ByteArray → Bool} {x : S24} (hs : ¬ (200 < (sizeD x).1 ∨ 20 < (sizeD x).2)) (h : ∀ y ∈ nodes x, nodeErr fs kn y = 0) : checkI fs kn x = 0 := by
  unfold checkI
  rw [if_neg hs]
  have : ((nodes x).map (nodeErr fs kn)).find? (fun e => e != 0) = none := by
    rw [List.find?_eq_none]
    intro e he
    obtain ⟨y, hy, rfl⟩ := List.mem_map.1 he
    simp [h y hy]
  rw [this]; rfl
theorem chk_pre {fs : List S110} {kn : ByteArray → Bool} {x : S24} {p : List S24} {y : S24} (hs : ¬ (200 < (sizeD x).1 ∨ 20 < (sizeD x).2)) (hp : p ++ [y] <+: nodes x) (h : ∀ z ∈ p, nodeErr fs kn z = 0) (hy : nodeErr fs kn y ≠ 0) : checkI fs kn x = nodeErr fs kn y := by
  unfold checkI
  rw [if_neg hs]
  obtain ⟨t, ht⟩ := hp
  have : ((nodes x).map (nodeErr fs kn)).find? (fun e => e != 0) = some (nodeErr fs kn y) := by
    rw [← ht, List.map_append, List.map_append, List.append_assoc, List.find?_append]
    have e : (p.map (nodeErr fs kn)).find? (fun e => e != 0) = none := by
      rw [List.find?_eq_none]
      intro e he
      obtain ⟨z, hz, rfl⟩ := List.mem_map.1 he
      simp [h z hz]
    rw [e]
    simp [hy]
  rw [this]; rfl
theorem cells5 {W : World} {b : Nat} {v0 v1 v2 v3 v4 : Value} {t : TypeId} (h : W.heap[b]? = some (.cells #[v0, v1, v2, v3, v4] t (0, 0))) :
    W.cell? ⟨b, 0, none⟩ = some v0 ∧ W.cell? ⟨b, 1, none⟩ = some v1 ∧ W.cell? ⟨b, 2, none⟩ = some v2 ∧ W.cell? ⟨b, 3, none⟩ = some v3 ∧ W.cell? ⟨b, 4, none⟩ = some v4 := by
  simp [World.cell?, h]
set_option maxRecDepth 100000 in
set_option maxHeartbeats 8000000 in
theorem check_calls (A : Option Addr) (c : Nat) (fs : List S110) (x : S24) (A4 : Option Addr) (c4 : Nat) (g : Nat) (cap : Array Value) (kn : ByteArray → Bool) (w : World) (hC : Kd.C k110 w A fs.length fs)
    (hl4 : x.f4.length ≤ c4) (hC4 : Kd.C k24 w A4 x.f4.length x.f4) (hs : strOk x) (heg : ∀ args w, (callFunc g args).run Tryz.prog w = .ok (.enter g args) w)
    (hkn : ∀ W s, Below w.heap.size w W → Calls Tryz.prog g (#[.string s] ++ cap) W (RetB (kn s) W)) :
    Calls Tryz.prog 70 #[.agg #[.int .i64 x.f0, .string x.f1, .int .i64 x.f2, .int .i64 x.f3, .slice A4 x.f4.length c4], .agg #[.slice A fs.length c], .func (.func g) #[] cap] w (RetI (checkI fs kn x) w) := by
  refine callsIn_wide.1 (?_ : CallsIn Fence.wide 3 _ _ _ _ _)
  refine callsIn_of_wp_marks Tryz.func70 rfl trivial ?_ rfl
  simp only [Tryz.ntmps70, List.size_toArray, List.length_cons, List.length_nil, Nat.reduceAdd, Nat.reduceSub, Array.replicate_succ, Array.replicate_zero, List.push_toArray, List.append_toArray, List.nil_append, List.cons_append]
  have hdd : ∀ k : Nat, (Fence.wide.depth.isSome = true → 1 ≤ k) := fun k h => by cases h
  obtain ⟨ks, hks⟩ := size_some x (lens_of_K x _ (k24_mk w x hl4 hC4))
  obtain ⟨sn, hsn⟩ : ∃ sn, sn = (sizeD x).1 := ⟨_, rfl⟩
  obtain ⟨sd, hsd⟩ : ∃ sd, sd = (sizeD x).2 := ⟨_, rfl⟩
  have hsz : ∀ W, Below w.heap.size w W → Calls Tryz.prog 127 #[.agg #[.int .i64 x.f0, .string x.f1, .int .i64 x.f2, .int .i64 x.f3, .slice A4 x.f4.length c4]] W fun e w' => e = .returned (.tuple #[.int .i64 sn, .int .i64 sd]) ∧ Below W.heap.size W w' := fun W h =>
    formula_Size.calls ks _ _ _ _ A4 c4 x.f4 sn sd W (Kd.C_below hC4 h) hl4 (by rw [hks, hsn, hsd])
  obtain ⟨w1, hw1⟩ : ∃ w1, w1 = (((w.alloc (.cells #[.int .i64 x.f0, .string x.f1, .int .i64 x.f2, .int .i64 x.f3, .slice A4 x.f4.length c4] 24)).alloc (.cells #[.slice A fs.length c] 27)).alloc (.cells #[.func (.func g) #[] cap] 114)).alloc (.cells #[.int .i64 0] 35) := ⟨_, rfl⟩
  have hb1 : Below w.heap.size w w1 := by rw [hw1]; exact ((((Below.refl _ _).alloc (Nat.le_refl _) _).alloc (by simp) _).alloc (by simp; omega) _).alloc (by simp; omega) _
  have hz1 : w1.heap.size = w.heap.size + 4 := by rw [hw1]; simp
  have hn : ∀ (u : World) (o : Obj) (k : Nat), u.heap.size = k → (u.alloc o).heap[k]? = some o := fun u o k h => by rw [← h]; exact World.alloc_heap_new u o
  have r0 : w1.heap[w.heap.size]? = some (.cells #[.int .i64 x.f0, .string x.f1, .int .i64 x.f2, .int .i64 x.f3, .slice A4 x.f4.length c4] 24 (0, 0)) := by rw [hw1]; exact blk_alloc (blk_alloc (blk_alloc (hn _ _ _ rfl) _) _) _
  have r1 : w1.heap[w.heap.size + 1]? = some (.cells #[.slice A fs.length c] 27 (0, 0)) := by rw [hw1]; exact blk_alloc (blk_alloc (hn _ _ _ (by simp)) _) _
  have r2 : w1.heap[w.heap.size + 1 + 1]? = some (.cells #[.func (.func g) #[] cap] 114 (0, 0)) := by rw [hw1]; exact blk_alloc (hn _ _ _ (by simp)) _
  have r3 : w1.heap[w.heap.size + 1 + 1 + 1]? = some (.cells #[.int .i64 0] 35 (0, 0)) := by rw [hw1]; exact hn _ _ _ (by simp)
  have hcs := hsz w1 hb1
  have HSZ := Lib.hid hcs; have R0 := Lib.hid r0; have R1 := Lib.hid r1; have R2 := Lib.hid r2; have R3 := Lib.hid r3; have HB1 := Lib.hid hb1; have HZ1 := Lib.hid hz1
  have HKN := Lib.hid hkn; have HC := Lib.hid hC; have HC4 := Lib.hid hC4; have HS := Lib.hid hs; have HSN := Lib.hid hsn; have HSD := Lib.hid hsd
  clear hcs hsz r0 r1 r2 r3 hb1 hz1 hkn hC hC4 hs hsn hsd hks
  by_cases hbig : 200 < sn ∨ 20 < sd
  · have hz0 : checkI fs kn x = 2 := by unfold checkI; rw [if_pos (by rw [← HSN.out, ← HSD.out]; exact hbig)]
    have HZ0 := Lib.hid hz0
    clear hz0
    by_cases hs1 : 200 < sn
    · have d1 : decide ((200 : Int) < sn) = true := by simpa using hs1
      clear hbig hs1
      subst hw1
      gi_wp2_with (first | ((try refine ⟨trivial, ?_⟩); gi_at_call 127; refine (CallsIn.mono (callsIn_wide.2 HSZ.out) ?_); rintro e W ⟨rfl, hbW⟩; have r3 := (hbW.block _ (by rw [HZ1.out]; omega)).trans R3.out; have c3 : W.cell? ⟨w.heap.size + 1 + 1 + 1, 0, none⟩ = some (.int .i64 0) := cell_one r3; have f3 : W.frozen? ⟨w.heap.size + 1 + 1 + 1, 0, none⟩ = false := frozen_one r3))
      have k3 : (W.setCell ⟨w.heap.size + 1 + 1 + 1, 0, none⟩ (.int .i64 2)).heap[w.heap.size + 1 + 1 + 1]? = some (.cells #[.int .i64 2] 35 (0, 0)) := heap_one r3
      have p0 := cell_one k3
      refine ⟨.int .i64 2, by simp [results, Tryz.results70, go_sem, p0], ?_⟩
      exact ⟨by rw [HZ0.out], (HB1.out.trans (hbW.mono (by rw [HZ1.out]; omega))).setCell (by simp; omega) _⟩
    · have d1 : decide ((200 : Int) < sn) = false := by simpa using hs1
      have d2 : decide ((20 : Int) < sd) = true := by simp; omega
      clear hbig hs1
      subst hw1
      gi_wp2_with (first | ((try refine ⟨trivial, ?_⟩); gi_at_call 127; refine (CallsIn.mono (callsIn_wide.2 HSZ.out) ?_); rintro e W ⟨rfl, hbW⟩; have r3 := (hbW.block _ (by rw [HZ1.out]; omega)).trans R3.out; have c3 : W.cell? ⟨w.heap.size + 1 + 1 + 1, 0, none⟩ = some (.int .i64 0) := cell_one r3; have f3 : W.frozen? ⟨w.heap.size + 1 + 1 + 1, 0, none⟩ = false := frozen_one r3))
      have k3 : (W.setCell ⟨w.heap.size + 1 + 1 + 1, 0, none⟩ (.int .i64 2)).heap[w.heap.size + 1 + 1 + 1]? = some (.cells #[.int .i64 2] 35 (0, 0)) := heap_one r3
      have p0 := cell_one k3
      refine ⟨.int .i64 2, by simp [results, Tryz.results70, go_sem, p0], ?_⟩
      exact ⟨by rw [HZ0.out], (HB1.out.trans (hbW.mono (by rw [HZ1.out]; omega))).setCell (by simp; omega) _⟩
  · have d1 : decide ((200 : Int) < sn) = false := by simp; omega
    have d2 : decide ((20 : Int) < sd) = false := by simp; omega
    have hnc := fun W => nodes_calls x A4 c4 W
    have HNC := Lib.hid hnc
    clear hnc hbig
    subst hw1
    gi_wp2_with (first | ((try refine ⟨trivial, ?_⟩); gi_at_call 127; refine (CallsIn.mono (callsIn_wide.2 HSZ.out) ?_); rintro e W ⟨rfl, hbW⟩; have q0 : ∀ k o, k < w.heap.size + 4 → _ → W.heap[k]? = some o := fun k o h1 (h2 : _ = some o) => (hbW.block k (by rw [HZ1.out]; exact h1)).trans h2; obtain ⟨c0, c1, c2, c3, c4'⟩ := cells5 (q0 _ _ (by omega) R0.out)) | ((try refine ⟨trivial, ?_⟩); gi_at_call 128; refine (CallsIn.mono (callsIn_wide.2 (HNC.out _)) ?_); rintro e W2 ⟨rfl, rfl⟩))
    have HW2 := Lib.hid (rfl : W.heap.size = W.heap.size)
    obtain ⟨w2, hw2⟩ : ∃ w2, w2 = W.alloc (.cells #[.int .i64 x.f0, .string x.f1, .int .i64 x.f2, .int .i64 x.f3, .slice A4 x.f4.length c4] 24) := ⟨_, rfl⟩
    have hzW : w.heap.size + 4 ≤ W.heap.size := by have := hbW.size; rw [HZ1.out] at this; exact this
    have hz2 : w2.heap.size = W.heap.size + 1 := by rw [hw2]; simp
    have hb2 : Below w.heap.size w w2 := by rw [hw2]; exact (HB1.out.trans (hbW.mono (by rw [HZ1.out]; omega))).alloc (by omega) _
    have q2 : ∀ k o, k < w.heap.size + 4 → _ → w2.heap[k]? = some o := fun k o h1 (h2 : _ = some o) => by rw [hw2]; exact blk_alloc (q0 k o h1 h2) _
    have p1 := q2 _ _ (by omega) R1.out
    have p2 := q2 _ _ (by omega) R2.out
    have p3 := q2 _ _ (by omega) R3.out
    have d5 : W.heap.size < w2.heap.size := by omega
    have hbx : w2.heap[W.heap.size]? = some (.cells #[.int .i64 x.f0, .string x.f1, .int .i64 x.f2, .int .i64 x.f3, .slice A4 x.f4.length c4] 24 (0, 0)) := by rw [hw2]; exact World.alloc_heap_new W _
    have hzL : w.heap.size + 4 ≤ w2.heap.size := by omega
    rw [← hw2]
    have P1 := Lib.hid p1; have P2 := Lib.hid p2; have P3 := Lib.hid p3; have HBX := Lib.hid hbx; have HB2 := Lib.hid hb2
    clear p1 p2 p3 q2 q0 hbx hb2 hw2 c0 c1 c2 c3 c4' hbW HW2
    refine wp_range2 (α := El w) (gf := 164) (lb := #[.pointer (some ⟨W.heap.size, 0, none⟩)]) (encs := elEnc) rfl (fun _ _ => rfl) (fun _ => rfl) (nodes x).length
      (fun _ => False) (fun h => h) (fun h => h) (fun pre W' => CkJ w2 fs kn (prj pre) W') (fun c pre W' => c = .ret ∧ CkX w w2.heap.size fs kn (prj pre) W') (fun _ _ _ h k => h.kept k) (fun _ _ _ _ h k => ⟨h.1, h.2.kept k⟩)
      (fun W' h hz => ⟨h, by omega, by simp [prj]⟩)
      (fun p A' W' => ∃ gb, w2.heap.size + 2 ≤ gb ∧ W'.heap[gb]? = some (.cells p.1.2.toArray 24 (0, 0)) ∧ A' = { tmps := chkTm x A4 c4 A fs c g cap sn sd w.heap.size W.heap.size gb p.1.2, defers := [] })
      ?_ ?_ ?_ (fun xs => prj xs = nodes x) (fun pre => prj pre <+: nodes x) ?_ ?_ ?_
    · rintro p A' W1 W2 ⟨gb, hg, hc, hA⟩ hk
      have := (Array.getElem?_eq_some_iff.1 hc).1
      exact ⟨gb, hg, (hk.block gb this (by omega)).trans hc, hA⟩
    · rintro ⟨⟨y, vs⟩, hK, hsy⟩ W1 K hz HK
      obtain ⟨A5, c5, rfl, hl5, hC5⟩ := k24_open (show k24.K w y vs from hK)
      simp only [elEnc, List.zip_toArray, List.zip_cons_cons, List.zip_nil_right, List.foldl_toArray', List.foldl_toArray, List.foldl_cons, List.foldl_nil, List.size_toArray, List.length_cons, List.length_nil]
      gi_wp2_with fail
      refine HK _ _ ⟨W1.heap.size, hz, ?_, rfl⟩ ?_
      · exact World.alloc_heap_new W1 _
      · exact (Below.refl _ _).alloc (Nat.le_refl _) _
    · rintro pre ⟨⟨y, vs⟩, hK, hsy⟩ W0 W1 A' hJ ⟨gb, hg, hc, rfl⟩ hk hz hl
      obtain ⟨A5, c5, rfl, hl5, hC5⟩ := k24_open (show k24.K w y vs from hK)
      have hJ1 := hJ.kept hk
      have hbJ := hJ1.below
      have hzJ := hJ1.size
      have hn5 : y.f4.length ≤ 9223372036854775807 := by have := hC5.2.1; unfold maxLen at this; exact this
      obtain ⟨g0, g1, g2, g3, g4⟩ := cells5 hc
      have c1 := cell_one ((hbJ.block _ (by omega)).trans P1.out)
      have c2 : W1.cell? ⟨w.heap.size + 1 + 1, 0, none⟩ = some (.func (.func g) #[] cap) := cell_one ((hbJ.block _ (by omega)).trans P2.out)
      have r3 := (hbJ.block _ (by omega)).trans P3.out
      have c3 : W1.cell? ⟨w.heap.size + 1 + 1 + 1, 0, none⟩ = some (.int .i64 0) := cell_one r3
      have f3 : W1.frozen? ⟨w.heap.size + 1 + 1 + 1, 0, none⟩ = false := frozen_one r3
      have hbw : Below w.heap.size w W1 := HB2.out.trans (hbJ.mono (by omega))
      -- what the round leaves
      have hgo : ∀ W', Below W1.heap.size W1 W' → nodeErr fs kn y = 0 → Keep (fun k => False ∧ k < W0.heap.size) W1 W' ∧ CkJ w2 fs kn (prj (pre ++ [⟨(y, [.int .i64 y.f0, .string y.f1, .int .i64 y.f2, .int .i64 y.f3, .slice A5 y.f4.length c5]), hK, hsy⟩])) W' := fun W' h he => ⟨Keep.of_below h, by rw [prj_snoc]; exact hJ1.next h he⟩
      have hst : ∀ W' err, Below W1.heap.size W1 W' → err ≠ 0 → nodeErr fs kn y = err → ((W'.setCell ⟨w.heap.size + 1 + 1 + 1, 0, none⟩ (.int .i64 err)).heap[w2.heap.size]? = W1.heap[w2.heap.size]? ∧ (W'.setCell ⟨w.heap.size + 1 + 1 + 1, 0, none⟩ (.int .i64 err)).heap[w2.heap.size + 1]? = W1.heap[w2.heap.size + 1]?) ∧ Code.ret = Code.ret ∧ CkX w w2.heap.size fs kn (prj (pre ++ [⟨(y, [.int .i64 y.f0, .string y.f1, .int .i64 y.f2, .int .i64 y.f3, .slice A5 y.f4.length c5]), hK, hsy⟩])) (W'.setCell ⟨w.heap.size + 1 + 1 + 1, 0, none⟩ (.int .i64 err)) := fun W' err h he hy =>
        ⟨⟨(heap_other (by omega)).trans (h.block _ (by omega)), (heap_other (by omega)).trans (h.block _ (by omega))⟩, rfl, by rw [prj_snoc]; exact hJ1.stop HB2.out hzL P3.out h he hy⟩
      have HGO := Lib.hid hgo; have HST := Lib.hid hst; have HBW := Lib.hid hbw
      clear hgo hst hbw hJ hJ1 hbJ r3
      have hce : ∀ W', Below W1.heap.size W1 W' → W'.cell? ⟨gb, 0, none⟩ = some (.int .i64 y.f0) ∧ W'.cell? ⟨gb, 1, none⟩ = some (.string y.f1) ∧ W'.cell? ⟨gb, 3, none⟩ = some (.int .i64 y.f3) ∧ W'.cell? ⟨w.heap.size + 1, 0, none⟩ = some (.slice A fs.length c) ∧ W'.cell? ⟨w.heap.size + 1 + 1, 0, none⟩ = some (.func (.func g) #[] cap) ∧ W'.cell? ⟨w.heap.size + 1 + 1 + 1, 0, none⟩ = some (.int .i64 0) ∧ W'.frozen? ⟨w.heap.size + 1 + 1 + 1, 0, none⟩ = false :=
        fun W' h => ⟨(h.cell (World.block_lt_of_cell? _ _ g0)).trans g0, (h.cell (World.block_lt_of_cell? _ _ g1)).trans g1, (h.cell (World.block_lt_of_cell? _ _ g3)).trans g3, (h.cell (World.block_lt_of_cell? _ _ c1)).trans c1, (h.cell (World.block_lt_of_cell? _ _ c2)).trans c2, (h.cell (World.block_lt_of_cell? _ _ c3)).trans c3, (h.frozen (World.block_lt_of_cell? _ _ c3)).trans f3⟩
      have hfm := fun W' => formed_calls y.f0 y.f1 y.f2 y.f3 A5 y.f4.length c5 hsy hn5 W'
      obtain ⟨ix, hix0⟩ : ∃ ix, ix = idxI fs y.f1 := ⟨_, rfl⟩
      obtain ⟨kb, hkb⟩ : ∃ kb, kb = kn y.f1 := ⟨_, rfl⟩
      have hix : ∀ W', Below W1.heap.size W1 W' → Calls Tryz.prog 80 #[.agg #[.slice A fs.length c], .string y.f1] W' (RetI ix W') := fun W' h => hix0 ▸ index_calls A c fs y.f1 W' (Kd.C_below HC.out (HBW.out.trans (h.mono HBW.out.size)))
      have hkc : ∀ W', Below W1.heap.size W1 W' → Calls Tryz.prog g (#[.string y.f1] ++ cap) W' (RetB kb W') := fun W' h => hkb ▸ HKN.out W' y.f1 (HBW.out.trans (h.mono HBW.out.size))
      obtain ⟨ne, hnq⟩ : ∃ ne, ne = nodeErr fs kn y := ⟨_, rfl⟩
      have hne := hnq
      rw [nodeErr] at hne
      rw [← hnq] at HGO HST
      obtain ⟨fm, hfe⟩ : ∃ b, b = formedK y.f0 y.f1 y.f2 y.f3 y.f4.length := ⟨_, rfl⟩
      have hfm' : ∀ W', Calls Tryz.prog 129 #[.agg #[.int .i64 y.f0, .string y.f1, .int .i64 y.f2, .int .i64 y.f3, .slice A5 y.f4.length c5]] W' (RetB fm W') := fun W' => hfe ▸ hfm W'
      rw [← hfe, ← hix0, ← hkb] at hne
      have HFM := Lib.hid hfm'; have HCE := Lib.hid hce; have HIX := Lib.hid hix; have HKC := Lib.hid hkc; have HR1 := Lib.hid (Below.refl W1.heap.size W1)
      clear hfm hfm' hfe hix hix0 hkc hkb hce hk hC5 hl5 hc hn5 hl HKN HC HC4 HS HSN HSD
      have heg' := Lib.hid heg
      clear hnq
      obtain ⟨k, t, l, m, kids⟩ := y
      dsimp only at *
      simp only [chkTm]
      cases fm with
      | false =>
        obtain rfl : ne = 1 := by rw [hne]; simp
        clear hne
        gi_wp2_with (first | ((try refine ⟨trivial, ?_⟩); gi_at_call 129; refine (CallsIn.mono (callsIn_wide.2 (HFM.out _)) ?_); rintro e V ⟨rfl, hbA⟩; obtain ⟨g0, g1, g3, c1, c2, c3, f3⟩ := HCE.out _ hbA))
        exact have hq := HST.out _ _ hbA (by decide) rfl; ⟨hq.1, rfl, hq.2.2⟩
      | true =>
        by_cases h3 : k = 3
        · subst h3
          by_cases hr : m < 0 ∨ 1000000 < m
          · obtain rfl : ne = 10 := by rw [hne]; simp [hr]
            clear hne
            by_cases hr1 : m < 0
            · have e1 : decide (m < 0) = true := by simpa using hr1
              clear hr hr1
              gi_wp2_with (first | ((try refine ⟨trivial, ?_⟩); gi_at_call 129; refine (CallsIn.mono (callsIn_wide.2 (HFM.out _)) ?_); rintro e V ⟨rfl, hbA⟩; obtain ⟨g0, g1, g3, c1, c2, c3, f3⟩ := HCE.out _ hbA))
              exact have hq := HST.out _ _ hbA (by decide) rfl; ⟨hq.1, rfl, hq.2.2⟩
            · have e1 : decide (m < 0) = false := by simpa using hr1
              have e2 : decide (1000000 < m) = true := by simp; omega
              clear hr hr1
              gi_wp2_with (first | ((try refine ⟨trivial, ?_⟩); gi_at_call 129; refine (CallsIn.mono (callsIn_wide.2 (HFM.out _)) ?_); rintro e V ⟨rfl, hbA⟩; obtain ⟨g0, g1, g3, c1, c2, c3, f3⟩ := HCE.out _ hbA))
              exact have hq := HST.out _ _ hbA (by decide) rfl; ⟨hq.1, rfl, hq.2.2⟩
          · have e1 : decide (m < 0) = false := by simp; omega
            have e2 : decide (1000000 < m) = false := by simp; omega
            by_cases hi : ix < 0
            · obtain rfl : ne = 7 := by rw [hne]; simp [hr, hi]
              have e3 : decide (ix < 0) = true := by simpa using hi
              clear hne hr hi
              gi_wp2_with (first | ((try refine ⟨trivial, ?_⟩); gi_at_call 129; refine (CallsIn.mono (callsIn_wide.2 (HFM.out _)) ?_); rintro e V ⟨rfl, hbA⟩; obtain ⟨g0, g1, g3, c1, c2, c3, f3⟩ := HCE.out _ hbA) | ((try refine ⟨trivial, ?_⟩); gi_at_call 80; refine (CallsIn.mono (callsIn_wide.2 (HIX.out _ hbA)) ?_); rintro e V2 ⟨rfl, hbB⟩; have hbC := below_to hbA hbB; obtain ⟨g0, g1, g3, c1, c2, c3, f3⟩ := HCE.out _ hbC) | (refine ⟨trivial, ?_⟩) | (with_reducible refine And.intro none_fn ?_))
              exact have hq := HST.out _ _ hbC (by decide) rfl; ⟨hq.1, rfl, hq.2.2⟩
            · obtain rfl : ne = 0 := by rw [hne]; simp [hr, hi]
              have e3 : decide (ix < 0) = false := by simpa using hi
              clear hne hr hi
              gi_wp2_with (first | ((try refine ⟨trivial, ?_⟩); gi_at_call 129; refine (CallsIn.mono (callsIn_wide.2 (HFM.out _)) ?_); rintro e V ⟨rfl, hbA⟩; obtain ⟨g0, g1, g3, c1, c2, c3, f3⟩ := HCE.out _ hbA) | ((try refine ⟨trivial, ?_⟩); gi_at_call 80; refine (CallsIn.mono (callsIn_wide.2 (HIX.out _ hbA)) ?_); rintro e V2 ⟨rfl, hbB⟩; have hbC := below_to hbA hbB; obtain ⟨g0, g1, g3, c1, c2, c3, f3⟩ := HCE.out _ hbC) | (refine ⟨trivial, ?_⟩) | (with_reducible refine And.intro none_fn ?_))
              exact HGO.out _ hbC (by trivial)
        · have n3 : (k == 3) = false := by simpa using h3
          by_cases h4 : k = 4
          · subst h4
            cases kb with
            | false =>
              obtain rfl : ne = 7 := by rw [hne]; simp
              clear hne
              gi_wp2_with (first | ((try refine ⟨trivial, ?_⟩); gi_at_call 129; refine (CallsIn.mono (callsIn_wide.2 (HFM.out _)) ?_); rintro e V ⟨rfl, hbA⟩; obtain ⟨g0, g1, g3, c1, c2, c3, f3⟩ := HCE.out _ hbA) | ((try refine ⟨trivial, hdd _, ?_⟩); refine (CallsIn.mono (callsIn_wide.2 (HKC.out _ hbA)) ?_); rintro e V2 ⟨rfl, hbB⟩; have hbC := below_to hbA hbB; obtain ⟨g0, g1, g3, c1, c2, c3, f3⟩ := HCE.out _ hbC) | (refine ⟨trivial, ?_⟩) | (with_reducible refine And.intro none_fn ?_))
              exact have hq := HST.out _ _ hbC (by decide) rfl; ⟨hq.1, rfl, hq.2.2⟩
            | true =>
              obtain rfl : ne = 0 := by rw [hne]; simp
              clear hne
              gi_wp2_with (first | ((try refine ⟨trivial, ?_⟩); gi_at_call 129; refine (CallsIn.mono (callsIn_wide.2 (HFM.out _)) ?_); rintro e V ⟨rfl, hbA⟩; obtain ⟨g0, g1, g3, c1, c2, c3, f3⟩ := HCE.out _ hbA) | ((try refine ⟨trivial, hdd _, ?_⟩); refine (CallsIn.mono (callsIn_wide.2 (HKC.out _ hbA)) ?_); rintro e V2 ⟨rfl, hbB⟩; have hbC := below_to hbA hbB; obtain ⟨g0, g1, g3, c1, c2, c3, f3⟩ := HCE.out _ hbC) | (refine ⟨trivial, ?_⟩) | (with_reducible refine And.intro none_fn ?_))
              exact HGO.out _ hbC (by trivial)
          · have n4 : (k == 4) = false := by simpa using h4
            obtain rfl : ne = 0 := by rw [hne]; simp [h3, h4]
            clear hne
            gi_wp2_with (first | ((try refine ⟨trivial, ?_⟩); gi_at_call 129; refine (CallsIn.mono (callsIn_wide.2 (HFM.out _)) ?_); rintro e V ⟨rfl, hbA⟩; obtain ⟨g0, g1, g3, c1, c2, c3, f3⟩ := HCE.out _ hbA) | (refine ⟨trivial, ?_⟩) | (with_reducible refine And.intro none_fn ?_))
            exact HGO.out _ hbA (by trivial)
    · intro R Rx hR hRx hY W0 hR0 hbw hz
      have hi := nodes1_in w (w2.heap.size + 1) W.heap.size (fun s W' => R s W' ∧ Below w.heap.size w W') (fun s W' => Rx s W') (fun _ _ h => h.2) (fun s Wa Wb h hb => ⟨hR s Wa Wb h.1 hb, below_to h.2 hb⟩) hRx x HS.out A4 c4
        (fun m pre y Wa h hl => (YieldAt.anyDepth m (hY pre y Wa Wa h.1 (Below.refl _ _) hl)).mono (fun e W' hp => by
          rcases hp with ⟨he, h1, hk⟩ | ⟨he, h1⟩
          · have hb : Below Wa.heap.size Wa W' := Keep.all (hk.mono (fun k _ h => h.1))
            exact .inl ⟨he, ⟨h1, below_to h.2 hb⟩, hb⟩
          · exact .inr ⟨he, h1⟩)) 2 W0 (k24_mk w x hl4 HC4.out) ⟨hR0, below_to HB2.out hbw⟩
      obtain ⟨k0, k1, k2, k3, k4⟩ := cells5 ((hbw.block _ d5).trans HBX.out)
      refine CallsIn.anyDepth _ ((hi k0 k1 k2 k3 k4).mono (fun e W' hp => ⟨hp.1, ?_⟩))
      rcases hp.2 with ⟨ys, h1, h2⟩ | ⟨ys, h1, h2⟩
      · exact .inl ⟨ys, h1, h2.1⟩
      · exact .inr ⟨ys, h1, h2⟩
    · intro xs W1 hS hJ hD
      have hbJ := hJ.below
      have hzJ := hJ.size
      have r3 := (hbJ.block _ (by omega)).trans P3.out
      have c3 : W1.cell? ⟨w.heap.size + 1 + 1 + 1, 0, none⟩ = some (.int .i64 0) := cell_one r3
      have f3 : W1.frozen? ⟨w.heap.size + 1 + 1 + 1, 0, none⟩ = false := frozen_one r3
      have hz0 : checkI fs kn x = 0 := chk_all (by rw [← HSN.out, ← HSD.out]; rintro (h | h); exact absurd d1 (by simpa using h); exact absurd d2 (by simpa using h)) (fun y hy => hJ.zero y (hS ▸ hy))
      have HJ := Lib.hid hJ; have HD := Lib.hid hD; have HR := Lib.hid r3; have HB := Lib.hid hbJ; have HZ0 := Lib.hid hz0
      clear hJ hD r3 hbJ hz0
      gi_wp2_with fail
      refine ⟨by simp, .inl ⟨_, _, rfl, run_takeDeferred ((heap_other (by omega)).trans HD.out), ?_⟩⟩
      have k3 : (W1.setCell ⟨w.heap.size + 1 + 1 + 1, 0, none⟩ (.int .i64 0)).heap[w.heap.size + 1 + 1 + 1]? = some (.cells #[.int .i64 0] 35 (0, 0)) := heap_one HR.out
      have p0 := (put_cell (D := w2.heap.size) (o := .deferred none) (a := ⟨w.heap.size + 1 + 1 + 1, 0, none⟩) (by simp; omega)).trans (cell_one k3)
      refine ⟨.int .i64 0, by simp [results, Tryz.results70, go_sem, p0], ?_⟩
      refine ⟨by rw [HZ0.out], ?_⟩
      exact below_putObj ((HB2.out.trans (HB.out.mono (by omega))).setCell (by show w.heap.size ≤ w.heap.size + 1 + 1 + 1; omega) _) (by omega) _
    · rintro c pre W1 hS ⟨rfl, hX⟩ hD
      obtain ⟨err, he, hr3, p, y, hpy, hpz, hpe⟩ := hX.res
      have hxl := hX.lt
      have hxz := hX.size
      have hz0 : checkI fs kn x = err := by
        rw [← hpe]
        exact chk_pre (by rw [← HSN.out, ← HSD.out]; rintro (h | h); exact absurd d1 (by simpa using h); exact absurd d2 (by simpa using h)) (hpy ▸ hS) hpz (by rw [hpe]; exact he)
      gi_wp2_with fail
      refine ⟨by simp, .inl ⟨_, _, rfl, run_takeDeferred hD, ?_⟩⟩
      have p0 := (put_cell (D := w2.heap.size) (o := .deferred none) (a := ⟨w.heap.size + 1 + 1 + 1, 0, none⟩) (by simp; omega)).trans (cell_one hr3)
      refine ⟨.int .i64 err, by simp [results, Tryz.results70, go_sem, p0], ?_⟩
      refine ⟨by rw [hz0], ?_⟩
      exact below_putObj hX.below (by omega) _
end Go.Proofs.YtaigepddkgpplaaGreatDoor.M

