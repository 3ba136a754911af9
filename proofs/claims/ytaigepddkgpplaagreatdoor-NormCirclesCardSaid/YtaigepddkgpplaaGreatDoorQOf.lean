/- norm.of -/
import Derived.Test.YtaigepddkgpplaaGreatDoorQFIdx
import Derived.Test.YtaigepddkgpplaaGreatDoorQOps
import Derived.Test.YtaigepddkgpplaaGreatDoorQIdxN
import Derived.Test.YtaigepddkgpplaaGreatDoorQNormP
import Derived.Test.YtaigepddkgpplaaGreatDoorQBy
import Derived.Deep.OwnRows
import Derived.StillTailTactics
import Derived.Deep.RegionHeld3
import Derived.Deep.RegionLaw
import Derived.Deep.AppendLies
import Derived.StillTactics
import Derived.Outline
namespace Go.Proofs.YtaigepddkgpplaaGreatDoor.M
open Go Go.RowKit Go.Maps Go.WideMaps Go.Proofs.YtaigepddkgpplaaGreatDoorW.PrintWords Go.Proofs.YtaigepddkgpplaaGreatDoorW.PrintLast Go.Proofs.YtaigepddkgpplaaGreatDoorW.PrintMore Go.Proofs.YtaigepddkgpplaaGreatDoor.B
set_option linter.unusedVariables false
set_option linter.unusedSimpArgs false

theorem info28 : (Tryz.prog.info? 28).map (fun i => (i.zero, i.size, i.bytes)) = some (some (.slice none 0 0), 1, 24) := by kernel_rfl
theorem info3 : (Tryz.prog.info? 3).map (fun i => (i.zero, i.size, i.bytes)) = some (some (.int .i64 0), 1, 8) := by kernel_rfl
/-- the law's three slices -/
def lawCells (A : Option Addr) (fs : List S110) (c : Nat) (A2 : Option Addr) (ps : List S67) (c2 : Nat) (A3 : Option Addr) (n3 c3 : Nat) : Array Value := #[.slice A fs.length c, .slice A2 ps.length c2, .slice A3 n3 c3]
def netCells (A : Option Addr) (fs : List S110) (c : Nat) (A2 : Option Addr) (ps : List S67) (c2 : Nat) (A3 : Option Addr) (n3 c3 bm bs : Nat) : Array Value := #[.slice A fs.length c, .slice A2 ps.length c2, .slice A3 n3 c3, .map (some bm), .slice (some ⟨bs, 0, none⟩) ps.length ps.length]
/-- the blocks of the net -/
structure NetB (w : World) (bn bm bs : Nat) (law net : Array Value) (W : World) : Prop where
  below : Below w.heap.size w W
  lt : w.heap.size + 4 ≤ W.heap.size
  bl : W.heap[w.heap.size]? = some (.cells law 52 (0, 0))
  n0 : w.heap.size < bn
  m0 : w.heap.size < bm
  s0 : w.heap.size < bs
  n1 : bn < w.heap.size + 4
  m1 : bm < w.heap.size + 4
  s1 : bs < w.heap.size + 4
  nm : bn ≠ bm
  ns : bn ≠ bs
  ms : bm ≠ bs
  net : W.heap[bn]? = some (.cells net 139 (0, 0))
theorem NetB.next {w : World} {bn bm bs : Nat} {law net : Array Value} {W W' : World} (h : NetB w bn bm bs law net W) (hb : Below w.heap.size W W') (h1 : W'.heap[w.heap.size]? = W.heap[w.heap.size]?) (h2 : W'.heap[bn]? = W.heap[bn]?) : NetB w bn bm bs law net W' :=
  ⟨h.below.trans hb, Nat.le_trans h.lt hb.size, h1.trans h.bl, h.n0, h.m0, h.s0, h.n1, h.m1, h.s1, h.nm, h.ns, h.ms, h2.trans h.net⟩
/-- what the first statements leave -/
def OfPost (w : World) (A : Option Addr) (fs : List S110) (c : Nat) (A2 : Option Addr) (ps : List S67) (c2 : Nat) (A3 : Option Addr) (n3 c3 : Nat) (e : Exit) (a : Act) (W : World) : Prop :=
  e = .normal ∧ ∃ bn bm bs, a = { tmps := #[.agg #[.slice A fs.length c, .slice A2 ps.length c2, .slice A3 n3 c3], .pointer (some ⟨w.heap.size, 0, none⟩), .pointer none, .bool false, .pointer (some ⟨bn, 0, none⟩), undef, undef, undef, undef, undef, undef, undef, undef, .agg #[.slice A fs.length c, .slice A2 ps.length c2, .slice A3 n3 c3], .map (some bm), .pointer (some ⟨w.heap.size, 1, none⟩), .slice A2 ps.length c2, .int .i64 ps.length, .slice (some ⟨bs, 0, none⟩) ps.length ps.length, .agg #[.slice A fs.length c, .slice A2 ps.length c2, .slice A3 n3 c3, .map (some bm), .slice (some ⟨bs, 0, none⟩) ps.length ps.length], .pointer (some ⟨bn, 0, none⟩), undef, undef, undef, undef, undef, undef, undef, undef, undef, undef, undef, undef, undef, undef, undef, undef, undef, undef, undef, undef, undef, undef, undef, undef, undef, undef, undef, undef, undef, undef, undef, undef, undef, undef, undef, undef, undef, undef, undef, undef, undef, undef, undef, undef, undef, undef, undef, undef, undef, undef, undef, undef, undef, undef, undef, undef, undef, undef, undef, undef, undef, undef, undef, undef, undef, undef, undef, undef, undef, undef, undef, undef, undef, undef, undef, undef, undef, undef, undef, undef, undef], defers := [] } ∧ NetB w bn bm bs (lawCells A fs c A2 ps c2 A3 n3 c3) (netCells A fs c A2 ps c2 A3 n3 c3 bm bs) W ∧ W.heap[bm]? = some (.map #[] 0) ∧ W.heap[bs]? = some (.cells (madeCells #[.slice none 0 0] ps.length) 28 (0, 0))


theorem frozen_new {W : World} {b t : Nat} {v : Value} {o : Obj} (hc : W.cell? ⟨b, t, none⟩ = some v) (hf : W.frozen? ⟨b, t, none⟩ = false) : (W.alloc o).drew.frozen? ⟨b, t, none⟩ = false := by
  have hlt : b < W.heap.size := World.block_lt_of_cell? _ _ hc
  rw [← hf]
  exact (((Below.refl W.heap.size W).alloc (Nat.le_refl _) o).drew).frozen hlt
theorem of_pushed {w wr w1 : World} {bn bm bs t m gg cap : Nat} {law net : Array Value} {L : List (List Nat)} {vs : List Value} {row : List Nat} {A5 : Option Addr} {c5 : Nat} {o : Obj}
    (hn : NetB w bn bm bs law net wr) (hby : ByAt (w.heap.size + 4) wr bs L vs) (hrow : L[t]? = some row) (hv : vs[t]? = some (.slice A5 row.length c5)) (hob : ∀ b, (Value.slice A5 row.length c5).ownBlock = some b → w.heap.size + 4 ≤ b)
    (hown : w1.ownsRow (w.heap.size + 4) 3 1 (.slice (some ⟨gg, 0, none⟩) (row.length + 1) cap) (row.length + 1) (nats row ++ [.int .i64 (m : Int)])) (hg : (wr.alloc o).drew.grownBy w1 (Value.slice A5 row.length c5).ownBlock)
    (hat : (Value.slice A5 row.length c5).ownBlock = some gg ∨ gg = wr.heap.size + 1) :
    NetB w bn bm bs law net (w1.setCell ⟨bs, t, none⟩ (.slice (some ⟨gg, 0, none⟩) (row.length + 1) cap)) ∧ (w1.setCell ⟨bs, t, none⟩ (.slice (some ⟨gg, 0, none⟩) (row.length + 1) cap)).heap[bm]? = wr.heap[bm]? ∧
    ByAt (w.heap.size + 4) (w1.setCell ⟨bs, t, none⟩ (.slice (some ⟨gg, 0, none⟩) (row.length + 1) cap)) bs (L.set t (row ++ [m])) (vs.set t (.slice (some ⟨gg, 0, none⟩) (row.length + 1) cap)) := by
  have hlt := hn.lt; have n1 := hn.n1; have m1 := hn.m1; have s1 := hn.s1; have n0 := hn.n0; have m0 := hn.m0; have s0 := hn.s0
  have hb0 : Below wr.heap.size wr (wr.alloc o).drew := ((Below.refl _ _).alloc (Nat.le_refl _) o).drew
  have kb : ∀ b, b < w.heap.size + 4 → b ≠ bs → (w1.setCell ⟨bs, t, none⟩ (.slice (some ⟨gg, 0, none⟩) (row.length + 1) cap)).heap[b]? = wr.heap[b]? := fun b hb hne =>
    (Below.heap_setCell _ _ _ _ hne).trans ((hg.block b (by have := hb0.size; omega) (fun e => by have := hob b e.symm; omega)).trans (hb0.block b (by omega)))
  refine ⟨hn.next ?_ (kb _ (by omega) (by omega)) (kb _ (by omega) hn.ns), kb _ (by omega) hn.ms, ?_⟩
  · refine Below.setCell ((hb0.mono (by omega)).grown hg (by have := hb0.size; omega) (fun b hb => by have := hob b hb; omega)) (by show w.heap.size ≤ bs; omega) _
  · refine (hby.below hb0).push hrow hv hown hg ?_ (by omega)
    rcases hat with h | h
    · exact .inl (by rw [h]; simp [Value.ownBlock])
    · exact .inr ⟨gg, by simp [Value.ownBlock], by rw [h]; simp⟩
/-- the net lies in W -/
structure NetAt (w : World) (A : Option Addr) (fs : List S110) (c : Nat) (A2 : Option Addr) (ps : List S67) (c2 : Nat) (A3 : Option Addr) (n3 c3 bn bm bs n : Nat) (f : Lit → Option Value) (vs : List Value) (W : World) : Prop where
  net : NetB w bn bm bs (lawCells A fs c A2 ps c2 A3 n3 c3) (netCells A fs c A2 ps c2 A3 n3 c3 bm bs) W
  at_ : AtOf ps ps.length f n
  map : MapAt Tryz.prog 9 W bm f n
  by_ : ByAt (w.heap.size + 4) W bs (rowsJ ps (tgt f) ps.length 0) vs
theorem NetAt.next {w : World} {A : Option Addr} {fs : List S110} {c : Nat} {A2 : Option Addr} {ps : List S67} {c2 : Nat} {A3 : Option Addr} {n3 c3 bn bm bs n : Nat} {f : Lit → Option Value} {vs : List Value} {W W' : World}
    (h : NetAt w A fs c A2 ps c2 A3 n3 c3 bn bm bs n f vs W) (hb : Below W.heap.size W W') : NetAt w A fs c A2 ps c2 A3 n3 c3 bn bm bs n f vs W' :=
  have := h.net.lt; have := h.net.n1; have := h.net.m1
  ⟨h.net.next (hb.mono (by omega)) (hb.block _ (by omega)) (hb.block _ (by omega)), h.at_, h.map.of_block (hb.block _ (by omega)), h.by_.below hb⟩
/-- what norm.of returns -/
def OfRet (w : World) (A : Option Addr) (fs : List S110) (c : Nat) (A2 : Option Addr) (ps : List S67) (c2 : Nat) (A3 : Option Addr) (n3 c3 : Nat) (e : Ending) (W : World) : Prop :=
  ∃ bn bm bs n f vs, e = .returned (.tuple #[.pointer (some ⟨bn, 0, none⟩), .bool (decide (ids ps).Nodup)]) ∧ NetAt w A fs c A2 ps c2 A3 n3 c3 bn bm bs n f vs W
theorem zero3 (w : World) : (zeroValue 3).run Tryz.prog w = .ok (.int .i64 0) w := by kernel_rfl
set_option maxRecDepth 100000 in
set_option maxHeartbeats 1000000 in
theorem of_calls (A : Option Addr) (fs : List S110) (c : Nat) (A2 : Option Addr) (ps : List S67) (c2 : Nat) (A3 : Option Addr) (n3 c3 : Nat) (w : World) (hC2 : Kd.C k67 w A2 ps.length ps) (hn : ps.length ≤ 1048576) (hid : ∀ p ∈ ps, p.f0.size ≤ maxLen ∧ ∀ s ∈ p.f6, s.size ≤ maxLen) :
    Calls Tryz.prog 91 #[.agg #[.slice A fs.length c, .slice A2 ps.length c2, .slice A3 n3 c3]] w (OfRet w A fs c A2 ps c2 A3 n3 c3) := by
  have hmm := @run_makeMap Tryz.prog
  have hbytes : 24 * ps.length ≤ 281474976710656 := by omega
  have hm2 : ps.length ≤ 9223372036854775807 := by omega
  have hmk := fun W => run_make_row' (P := Tryz.prog) 137 28 (.slice none 0 0) 24 Tryz.underlying137 info28 rfl .i64 .i64 ps.length hbytes hm2 W
  have HC2 := Lib.hid hC2; clear hC2
  go_enter Tryz.func91, Tryz.ntmps91
  go_wp2_with fail
  refine Code.wp_mono (Q := OfPost w A fs c A2 ps c2 A3 n3 c3) ?_ ?_
  rotate_left
  · go_region
    all_goals refine ⟨rfl, ?_⟩
    · refine ⟨w.heap.size + 3, w.heap.size + 1, w.heap.size + 2, by simp [Nat.add_assoc], ?_, ?_, ?_⟩
      · refine ⟨?_, by simp, ?_, by omega, by omega, by omega, by omega, by omega, by omega, by omega, by omega, by omega, ?_⟩
        · exact ((((Below.refl _ _).alloc (Nat.le_refl _) _).alloc (by simp) _).alloc (by simp; omega) _).alloc (by simp; omega) _ |>.drew
        · exact blk_alloc (blk_alloc (blk_alloc (heap_at _ _ rfl) _) _) _
        · exact heap_at _ _ (by simp)
      · exact blk_alloc (blk_alloc (heap_at _ _ (by simp)) _) _
      · exact blk_alloc (heap_at _ _ (by simp)) _
    · refine ⟨w.heap.size + 3, w.heap.size + 2, w.heap.size + 1, by simp [Nat.add_assoc], ?_, ?_, ?_⟩
      · refine ⟨?_, by simp, ?_, by omega, by omega, by omega, by omega, by omega, by omega, by omega, by omega, by omega, ?_⟩
        · exact ((((Below.refl _ _).alloc (Nat.le_refl _) _).alloc (by simp) _).alloc (by simp; omega) _).alloc (by simp; omega) _ |>.drew
        · exact blk_alloc (blk_alloc (blk_alloc (heap_at _ _ rfl) _) _) _
        · exact heap_at _ _ (by simp)
      · exact blk_alloc (heap_at _ _ (by simp)) _
      · exact blk_alloc (blk_alloc (heap_at _ _ (by simp)) _) _
  rintro e a W ⟨rfl, bn, bm, bs, rfl, hN, hM, hS⟩
  have l1 : W.cell? ⟨w.heap.size, 1, none⟩ = some (.slice A2 ps.length c2) := cell_blk hN.bl rfl
  have hM0 : MapAt Tryz.prog 9 W bm (fun _ => none) 0 := MapAt.of_empty _ _ hM
  have HN := Lib.hid hN; have HM := Lib.hid hM; have HS := Lib.hid hS; have HID := Lib.hid hid
  have HLN := Lib.hid hn
  clear hN hM hS hid hmm hmk hbytes
  go_wp2_with fail
  go_loopw [24] (fun i Wr => ∃ (k n : Nat) (f : Lit → Option Value), k ≤ ps.length ∧ i = .int .i64 k ∧ AtOf ps k f n ∧ MapAt Tryz.prog 9 Wr bm f n ∧ NetB w bn bm bs (lawCells A fs c A2 ps c2 A3 n3 c3) (netCells A fs c A2 ps c2 A3 n3 c3 bm bs) Wr ∧ Wr.heap[bs]? = W.heap[bs]?) (fun i _ => ps.length - (intOf i).toNat)
  case atStart => exact ⟨0, 0, _, Nat.zero_le _, rfl, AtOf.zero ps, hM0, HN.out, rfl⟩
  case round =>
    obtain ⟨k, n, f, hk, rfl, hat, hmap, hnr, hbr⟩ := hrel
    have HAT := Lib.hid hat; have HNR := Lib.hid hnr; have HBR := Lib.hid hbr; have HMAP := Lib.hid hmap
    have hltb := hnr.lt; have hn1 := hnr.n1; have hm1 := hnr.m1; have hs1 := hnr.s1; have hn0 := hnr.n0; have hm0 := hnr.m0; have hs0 := hnr.s0
    clear hat hnr hbr hmap hM0
    by_cases hlt : k < ps.length
    · obtain ⟨ad, cs, rfl, hcl, hcK, hc1v, hcells⟩ := nt_cells (Kd.C_below HC2.out HNR.out.below) k hlt
      have h0s : cs[0]? = some (.string ps[k].f0) := by
        obtain ⟨A9, c9, A10, c10, A14, c14, A18, c18, A22, c22, rfl, _⟩ := k67_open hcK
        rfl
      have hid1 := (HID.out _ (List.getElem_mem hlt)).1
      have hnx := HAT.out.next hlt
      generalize ps[k].f0 = s at h0s hid1 hnx
      have hkey := keyOf_string_mk Tryz.underlying9 hid1
      have HCL := Lib.hid (show cs.length = 23 from hcl); have HCE := Lib.hid hcells; have HONE := Lib.hid hc1v; have H0S := Lib.hid h0s; have HNX := Lib.hid hnx; have HKEY := Lib.hid hkey
      clear hcl hcells hc1v hcK h0s hnx hid1 hkey
      go_wp2_with (first | ((with_reducible refine gate_dst (N := 28) rfl ?_); refine wp_load_cells rfl 67 _ rfl (ad.add (k * 23)) rfl cs _ Tryz.underlying67 rfl (by rw [HCL.out]; kernel_rfl) HCE.out ?_) | ((with_reducible refine gate_store (t := 67) (p := 6) rfl ?_); refine wp_store_new rfl 67 _ _ rfl rfl _ rfl cs rfl (by rw [HCL.out]; kernel_rfl) (by rw [HCL.out]; kernel_rfl) HONE.out ?_; intro W2 h2 hb2 hs2; have d0 : W2.cell? ⟨wr.heap.size, 0, none⟩ = some (.string s) := cell_blk h2 (by simpa using H0S.out); have d1 : W2.cell? ⟨bn, 3, none⟩ = some (.map (some bm)) := cell_blk ((hb2.block _ (by omega)).trans HNR.out.net) rfl))
      go_still_tail 7, (by kernel_rfl)
      have hmap2 : MapAt Tryz.prog 9 W2.drew bm f n := (HMAP.out.of_block (hb2.block _ (by omega))).drew
      have hnl : n < maxLen := by unfold maxLen; have := HAT.out.le; omega
      have hz2 := hb2.size
      go_wp2_with (at_mapUpdate; refine wp_put rfl _ _ _ 93 rfl 9 3 law9 Tryz.underlying93 bm n f rfl hmap2 hnl (.string s) (.int .i64 (k : Int)) _ rfl rfl HKEY.out ?_; intro w9 hm9 hg9)
      have hk1 : ∀ b, b < wr.heap.size → b ≠ bm → w9.heap[b]? = wr.heap[b]? := fun b hb hne => (hg9.block b (by show b < W2.heap.size; omega) (fun e => hne (by injection e))).trans (hb2.block b hb)
      have hk2 : Below w.heap.size wr w9 := (hb2.mono (by omega)).drew.grown hg9 (by show w.heap.size ≤ W2.heap.size; omega) (fun b hb => by injection hb with hb; omega)
      have HK1 := Lib.hid hk1; have HK2 := Lib.hid hk2; have HM9 := Lib.hid hm9
      clear hk1 hk2 hm9 hg9 hmap2 hb2 hs2 h2 d0 d1
      go_roundw
      case rel => exact ⟨k + 1, _, _, by omega, by go_num, HNX.out, HM9.out, HNR.out.next HK2.out (HK1.out _ (by omega) (by omega)) (HK1.out _ (by omega) (by have := HNR.out.nm; omega)), (HK1.out _ (by omega) (by have := HNR.out.ms; omega)).trans HBR.out⟩
      case measure => simp [intOf]; omega
    · obtain rfl : k = ps.length := by omega
      have l1r : wr.cell? ⟨w.heap.size, 1, none⟩ = some (.slice A2 ps.length c2) := cell_blk HNR.out.bl rfl
      clear l1
      go_wp2_with fail
      obtain ⟨W1, hW1⟩ : ∃ W1 : World, W1 = wr := ⟨_, rfl⟩
      subst hW1
      have hby0 : ByAt (w.heap.size + 4) W1 bs (rowsJ ps (tgt f) 0 0) (List.replicate ps.length (.slice none 0 0)) := by
        rw [rowsJ_zero]; exact ByAt.made _ (HBR.out.trans HS.out)
      have HBY0 := Lib.hid hby0
      have HREF : W1.heap[bm]? = W1.heap[bm]? := rfl
      have HREF := Lib.hid HREF
      clear hby0 l1r
      go_loopw [40] (fun i Wr => ∃ (m : Nat) (vs : List Value), m ≤ ps.length ∧ i = .int .i64 m ∧ NetB w bn bm bs (lawCells A fs c A2 ps c2 A3 n3 c3) (netCells A fs c A2 ps c2 A3 n3 c3 bm bs) Wr ∧ Wr.heap[bm]? = W1.heap[bm]? ∧ ByAt (w.heap.size + 4) Wr bs (rowsJ ps (tgt f) m 0) vs) (fun i _ => ps.length - (intOf i).toNat)
      case atStart => exact ⟨0, _, Nat.zero_le _, rfl, HNR.out, rfl, HBY0.out⟩
      case round =>
        obtain ⟨m, vs, hm, rfl, hnr, hbm, hby⟩ := hrel
        have HN2 := Lib.hid hnr; have HBM := Lib.hid hbm; have HBY := Lib.hid hby
        have hltb2 := hnr.lt
        clear hnr hbm hby HBY0
        by_cases hlt2 : m < ps.length
        · obtain ⟨ad, cs, rfl, hcl, hcK, hc1v, hcells0⟩ := nt_cells HC2.out m hlt2
          have hcells : ∀ j u, cs[j]? = some u → wr.cell? ((ad.add (m * k67.sz)).add j) = some u := fun j u hu => (HN2.out.below.cell (World.block_lt_of_cell? _ _ (hcells0 j u hu))).trans (hcells0 j u hu)
          clear hcells0
          obtain ⟨A9, c9, A10, c10, A14, c14, A18, c18, A22, c22, hcs, _, _, hl10, hC10, _⟩ := k67_open hcK
          have h10 : cs[10]? = some (.slice A10 ps[m].f6.length c10) := by rw [hcs]; rfl
          have hle : ps[m].f6.length ≤ 9223372036854775807 := by have := hC10.2.1; unfold maxLen at this; exact this
          have hes : ps.getD m z67 = ps[m] := by simp [hlt2]
          have hids := (HID.out _ (List.getElem_mem hlt2)).2
          have hpn := rowsJ_next ps (tgt f) m
          have hp1 : ∀ j, (h : j < ps[m].f6.length) → tgt f ps[m].f6[j] = none → rowsJ ps (tgt f) m (j + 1) = rowsJ ps (tgt f) m j := fun j h hn => rowsJ_none (by rw [hes]; exact h) (by simp only [hes]; exact hn)
          have hp2 : ∀ j t, (h : j < ps[m].f6.length) → tgt f ps[m].f6[j] = some t → m ∈ rowJ ps (tgt f) m j t → rowsJ ps (tgt f) m (j + 1) = rowsJ ps (tgt f) m j := fun j t h hn hm => rowsJ_had (by rw [hes]; exact h) (by simp only [hes]; exact hn) hm
          have hp3 : ∀ j t, (h : j < ps[m].f6.length) → tgt f ps[m].f6[j] = some t → m ∉ rowJ ps (tgt f) m j t → rowsJ ps (tgt f) m (j + 1) = (rowsJ ps (tgt f) m j).set t (rowJ ps (tgt f) m j t ++ [m]) := fun j t h hn hm => rowsJ_push (by rw [hes]; exact h) (by simp only [hes]; exact hn) hm
          rw [hes] at hpn
          generalize ps[m].f6 = es at hle h10 hl10 hC10 hids hpn hp1 hp2 hp3
          have HCL := Lib.hid (show cs.length = 23 from hcl); have HCE := Lib.hid hcells; have HONE := Lib.hid hc1v; have H10 := Lib.hid h10; have HC10 := Lib.hid hC10; have HIDS := Lib.hid hids
          have HPN := Lib.hid hpn; have HP1 := Lib.hid hp1; have HP2 := Lib.hid hp2; have HP3 := Lib.hid hp3
          clear hcl hcells hc1v hcK h10 hcs hes hids hC10 hpn hp1 hp2 hp3
          go_wp2_with (first | ((with_reducible refine gate_dst (N := 44) rfl ?_); refine wp_load_cells rfl 67 _ rfl (ad.add (m * 23)) rfl cs _ Tryz.underlying67 rfl (by rw [HCL.out]; kernel_rfl) HCE.out ?_) | ((with_reducible refine gate_store (t := 67) (p := 8) rfl ?_); refine wp_store_new rfl 67 _ _ rfl rfl _ rfl cs rfl (by rw [HCL.out]; kernel_rfl) (by rw [HCL.out]; kernel_rfl) HONE.out ?_; intro W2 h2 hb2 hs2; have d0 : W2.cell? ⟨wr.heap.size, 10, none⟩ = some (.slice A10 es.length c10) := cell_blk h2 (by simpa using H10.out)))
          have hn2 : NetB w bn bm bs (lawCells A fs c (some ad) ps c2 A3 n3 c3) (netCells A fs c (some ad) ps c2 A3 n3 c3 bm bs) W2 := HN2.out.next (hb2.mono (by omega)) (hb2.block _ (by omega)) (hb2.block _ (by omega))
          have HN3 := Lib.hid hn2; have HBM3 := Lib.hid ((hb2.block bm (by omega)).trans HBM.out); have HBY3 := Lib.hid (HBY.out.below hb2)
          clear hn2
          go_loopw [48] (fun i Wr => ∃ (j : Nat) (vs : List Value), j ≤ es.length ∧ i = .int .i64 j ∧ NetB w bn bm bs (lawCells A fs c (some ad) ps c2 A3 n3 c3) (netCells A fs c (some ad) ps c2 A3 n3 c3 bm bs) Wr ∧ Wr.heap[bm]? = W1.heap[bm]? ∧ ByAt (w.heap.size + 4) Wr bs (rowsJ ps (tgt f) m j) vs) (fun i _ => es.length - (intOf i).toNat)
          case atStart => exact ⟨0, vs, Nat.zero_le _, rfl, HN3.out, HBM3.out, HBY3.out⟩
          case round =>
            obtain ⟨j, vs2, hj, rfl, hnr, hbm, hby⟩ := hrel
            have HN4 := Lib.hid hnr; have HBM4 := Lib.hid hbm; have HBY4 := Lib.hid hby
            have hltb3 := hnr.lt
            by_cases hlt3 : j < es.length
            · obtain ⟨ad2, rfl, hcx⟩ := nt_str (Kd.C_below HC10.out hnr.below) j hlt3
              have hks := keyOf_string_mk Tryz.underlying9 (HIDS.out _ (List.getElem_mem hlt3))
              have hmp : MapAt Tryz.prog 9 wr bm f n := HMAP.out.of_block2 hbm
              have hlk := hmp.look true law9 Tryz.underlying93 (zero3 _) hks
              have hq1 := HP1.out j hlt3; have hq2 := fun t => HP2.out j t hlt3; have hq3 := fun t => HP3.out j t hlt3
              have d1 : wr.cell? ⟨bn, 3, none⟩ = some (.map (some bm)) := cell_blk hnr.net rfl
              have d2 : wr.cell? ⟨bn, 4, none⟩ = some (.slice (some ⟨bs, 0, none⟩) ps.length ps.length) := cell_blk hnr.net rfl
              generalize es[j] = s at hcx hks hlk hq1 hq2 hq3
              cases htg : tgt f s with
              | none =>
                have hf := (tgt_none HAT.out htg).1
                have hlk' : (Instr.lookup 93 (.map (some bm)) (.string s) true).run Tryz.prog wr = .ok (.tuple #[.int .i64 0, .bool false]) wr := by rw [hf] at hlk; exact hlk
                have HR1 := Lib.hid (hq1 htg)
                clear hlk hf hq1 hq2 hq3 htg hks hmp hnr hbm hby
                go_wp2_with fail
                go_roundw
                case rel => exact ⟨j + 1, vs2, by omega, by go_num, HN4.out, HBM4.out, by rw [HR1.out]; exact HBY4.out⟩
                case measure => simp [intOf]; omega
              | some t =>
                obtain ⟨htl, _, hf⟩ := tgt_some HAT.out htg
                have hlk' : (Instr.lookup 93 (.map (some bm)) (.string s) true).run Tryz.prog wr = .ok (.tuple #[.int .i64 (t : Int), .bool true]) wr := by rw [hf] at hlk; exact hlk
                have hrg := rowsJ_get ps (tgt f) m j htl
                have hrl := rowJ_len ps (tgt f) m j t
                obtain ⟨A5, c5, hv5, hcell5, hfz5, hlc5, hC5, hown5⟩ := hby.get hrg
                have hr2 := hq2 t htg; have hr3 := hq3 t htg
                generalize hrow : rowJ ps (tgt f) m j t = row at *
                have hct : Calls Tryz.prog 144 #[.slice A5 row.length c5, .int .i64 (m : Int)] wr fun e w' => e = .returned (.bool (hasI (ints row) (m : Int))) ∧ wr = w' := by
                  have h := contains144 A5 c5 (ints row) (m : Int) wr hC5
                  rw [ints_len] at h
                  exact h.mono fun e w' ⟨h1, h2⟩ => ⟨h1, h2.symm⟩
                have ht0 : (0 : Int) ≤ (t : Int) := by omega
                have ht1 : (t : Int) < (ps.length : Int) := by omega
                have HR2 := Lib.hid hr2; have HR3 := Lib.hid hr3; have HV5 := Lib.hid hv5; have HOWN5 := Lib.hid hown5; have HRG := Lib.hid hrg
                clear hlk hf hq1 hq2 hq3 htg hks hmp hnr hbm hby hrg hrow hr2 hr3 hv5 hown5 hC5
                by_cases hin : m ∈ row
                · have hh : hasI (ints row) (m : Int) = true := by rw [hasI_iff]; exact List.mem_map.2 ⟨m, hin, rfl⟩
                  rw [hh] at hct
                  have HCT := Lib.hid hct; clear hct hh
                  go_wp2_with (go_at_call 144; refine (Calls.mono HCT.out ?_); rintro e W' ⟨rfl, rfl⟩)
                  go_roundw
                  case rel => exact ⟨j + 1, vs2, by omega, by go_num, HN4.out, HBM4.out, by rw [HR2.out hin]; exact HBY4.out⟩
                  case measure => simp [intOf]; omega
                · have hh : hasI (ints row) (m : Int) = false := by
                    rw [Bool.eq_false_iff, ne_eq, hasI_iff]
                    intro hc
                    obtain ⟨a, ha, e⟩ := List.mem_map.1 hc
                    have : a = m := by omega
                    exact hin (this ▸ ha)
                  rw [hh] at hct
                  have HCT := Lib.hid hct; clear hct hh
                  go_wp2_with (go_at_call 144; refine (Calls.mono HCT.out ?_); rintro e W' ⟨rfl, rfl⟩)
                  obtain ⟨i0, hi0, hz0, hz1, hz2⟩ := info_parts info3
                  have hob : ∀ b, (Value.slice A5 row.length c5).ownBlock = some b → w.heap.size + 4 ≤ b := fun b hb => by
                    rcases HOWN5.out.2 with ⟨e, _⟩ | ⟨g, cap, cur, e, hg0, _⟩
                    · rw [e] at hb; simp [Value.ownBlock] at hb
                    · rw [e] at hb
                      have : g = b := by simpa [Value.ownBlock] using hb
                      omega
                  have hnb : (Value.slice A5 row.length c5).ownBlock ≠ some bn := fun e => by have := hob _ e; omega
                  have hnsb : (Value.slice A5 row.length c5).ownBlock ≠ some bs := fun e => by have := hob _ e; omega
                  have HOB := Lib.hid hob
                  have d2n : (wr.alloc (.cells #[.int .i64 (m : Int)] 3)).drew.cell? ⟨bn, 4, none⟩ = some (.slice (some ⟨bs, 0, none⟩) ps.length ps.length) := (((Below.refl wr.heap.size wr).alloc (Nat.le_refl _) _).drew.cell (World.block_lt_of_cell? _ _ d2)).trans d2
                  have hcelln : (wr.alloc (.cells #[.int .i64 (m : Int)] 3)).drew.cell? ⟨bs, t, none⟩ = some (.slice A5 row.length c5) := (((Below.refl wr.heap.size wr).alloc (Nat.le_refl _) _).drew.cell (World.block_lt_of_cell? _ _ hcell5)).trans hcell5
                  have hfzn : (wr.alloc (.cells #[.int .i64 (m : Int)] 3)).drew.frozen? ⟨bs, t, none⟩ = false := frozen_new hcell5 hfz5
                  clear hob
                  have hd4 := hltb3
                  go_region_law ((refine step_append_lies _ (by rfl) _ _ _ (by rfl) (w.heap.size + 4) 3 i0 _ 1 8 Tryz.underlying28 hi0 hz0 hz1 hz2 rfl (by omega) (.slice A5 row.length c5) row.length (nats row) (by rfl) ((HOWN5.out.alloc _).drew) ⟨wr.heap.size, 0, none⟩ 1 1 [.int .i64 (m : Int)] (by rfl) (by rfl) (World.news_of_block (cs := #[.int .i64 (m : Int)]) (t := 3) (fr := (0, 0)) (heap_alloc_new wr _)) (by simp [Value.oneCell']) (by omega) (by unfold maxLen; omega) (by omega) (by simp; omega) (wr.heap.size + 1) (by simp) ?_; intro gg cap w1 hown1 hgrow hat hlt; have e4 := (hgrow.cell_far ⟨bn, 4, none⟩ (by simp; omega) (Ne.symm hnb)).trans (by simpa using d2n); have e5 := (hgrow.cell_far ⟨bs, t, none⟩ (by simp; omega) (Ne.symm hnsb)).trans (by simpa using hcelln); have e6 := (hgrow.frozen_far ⟨bs, t, none⟩ (by simp; omega) (Ne.symm hnsb)).trans hfzn))
                  all_goals
                    have hpu := of_pushed HN4.out HBY4.out HRG.out HV5.out HOB.out hown1 hgrow hat
                    have HPU := Lib.hid hpu
                    clear hpu hown1 hgrow hat hlt e4 e5 e6 d2n hcelln hfzn
                    go_wp2_with fail
                    go_roundw
                    case rel => exact ⟨j + 1, _, by omega, by go_num, HPU.out.1, HPU.out.2.1.trans HBM4.out, by rw [HR3.out hin]; exact HPU.out.2.2⟩
                    case measure => simp [intOf]; omega
            · obtain rfl : j = es.length := by omega
              have hlast := HPN.out
              have HL := Lib.hid hlast
              clear hlast hnr hbm hby
              go_wp2_with fail
              go_roundw
              case rel => exact ⟨m + 1, vs2, by omega, by go_num, HN4.out, HBM4.out, by rw [← HL.out]; exact HBY4.out⟩
              case measure => simp [intOf]; omega
        · obtain rfl : m = ps.length := by omega
          have hmp : MapAt Tryz.prog 9 wr bm f n := HMAP.out.of_block2 HBM.out
          have hln : ∀ ty k, (Builtin.len_ #[93] ty #[.map (some bm)]).run Tryz.prog (wr.drewN k) = .ok (.int .i64 (n : Int)) (wr.drewN k) := fun ty k => by
            obtain ⟨D, hD, hs⟩ := (hmp.drewN k).of_len
            rw [hD.len Tryz.underlying93 ty, hs]
          have l1r : wr.cell? ⟨w.heap.size, 1, none⟩ = some (.slice A2 ps.length c2) := cell_blk HN2.out.bl rfl
          have l2r : wr.cell? ⟨bn, 3, none⟩ = some (.map (some bm)) := cell_blk HN2.out.net rfl
          have hnd : ((n : Int) == (ps.length : Int)) = decide (ids ps).Nodup := by
            have h1 := HAT.out.nod
            rw [show (ids ps).take ps.length = ids ps from by rw [← ids_len]; exact List.take_length] at h1
            rw [Bool.eq_iff_iff, beq_iff_eq, decide_eq_true_iff, ← h1]
            omega
          have hfin : ∀ k, OfRet w A fs c A2 ps c2 A3 n3 c3 (.returned (.tuple #[.pointer (some ⟨bn, 0, none⟩), .bool ((n : Int) == (ps.length : Int))])) (wr.drewN k) := fun k =>
            ⟨bn, bm, bs, n, f, vs, by rw [hnd], NetAt.next ⟨HN2.out, HAT.out, hmp, HBY.out⟩ (pw_below_drewN (Below.refl _ _) k)⟩
          have HF := Lib.hid hfin; have HM := Lib.hid hmp
          clear hfin hmp hnd
          go_wp2_with fail
          go_quiet (fail)
          go_wp2_with fail
          go_ret2
          exact HF.out _
end Go.Proofs.YtaigepddkgpplaaGreatDoor.M

