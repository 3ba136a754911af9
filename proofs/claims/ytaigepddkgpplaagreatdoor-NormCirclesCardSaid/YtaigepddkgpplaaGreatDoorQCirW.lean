/- norm.Circles: the walk. -/
import Derived.Test.YtaigepddkgpplaaGreatDoorQCir
namespace Go.Proofs.YtaigepddkgpplaaGreatDoor.M
open Go Go.RowKit Go.Maps Go.WideMaps Go.Proofs.YtaigepddkgpplaaGreatDoorW.PrintWords Go.Proofs.YtaigepddkgpplaaGreatDoorW.PrintLast Go.Proofs.YtaigepddkgpplaaGreatDoorW.PrintMore Go.Proofs.YtaigepddkgpplaaGreatDoor.B Go.Proofs.YtaigepddkgpplaaGreatDoor.T
set_option linter.unusedVariables false
theorem srt_len : ∀ (l : List Nat) (a n : Nat), l.Pairwise (· < ·) → (∀ x ∈ l, a ≤ x ∧ x < n) → l.length + a ≤ n ∨ l = []
  | [], _, _, _, _ => .inr rfl
  | x :: r, a, n, h, hx => by
    rw [List.pairwise_cons] at h
    have h0 := hx x (by simp)
    rcases srt_len r (x + 1) n h.2 (fun y hy => ⟨h.1 y hy, (hx y (by simp [hy])).2⟩) with h1 | h1
    · left; simp; omega
    · subst h1; left; simp; omega
theorem grp_len {adj : Nat → List Nat} {n : Nat} (hadj : ∀ v y, y ∈ adj v → y < n) {L : List (List Nat)} (h : Go.Proofs.YtaigepddkgpplaaGreatDoor.T.Found adj n L) {l : List Nat} (hl : l ∈ L) : l.length ≤ n := by
  obtain ⟨v, hv, _, hg⟩ := h.mem l hl
  rcases srt_len l 0 n hg.sorted (fun x hx => ⟨Nat.zero_le _, path_lt hadj ((hg.mem x).1 hx).1 hv⟩) with h | h
  · omega
  · subst h; simp
theorem gs_len {adj : Nat → List Nat} {n : Nat} (hadj : ∀ v y, y ∈ adj v → y < n) {L : List (List Nat)} (h : Go.Proofs.YtaigepddkgpplaaGreatDoor.T.Found adj n L) (hs : L.Pairwise (fun a b => a.headD 0 < b.headD 0)) : L.length ≤ n := by
  have h1 : (L.map (fun g => g.headD 0)).Pairwise (· < ·) := by rw [List.pairwise_map]; exact hs
  rcases srt_len _ 0 n h1 (fun x hx => by
    obtain ⟨g, hg, rfl⟩ := List.mem_map.1 hx
    exact ⟨Nat.zero_le _, (found_ne hadj h g hg).2⟩) with h2 | h2
  · simp at h2; omega
  · have : L.length = 0 := by simpa using congrArg List.length h2
    omega
def circN (ps : List S67) (gs : List (List Nat)) : List (List ByteArray) := gs.map fun g => g.map fun i => (ps.getD i z67).f0
/-- what Circles returns -/
def CirRet (w : World) (ps : List S67) (e : Ending) (W : World) : Prop :=
  ∃ (ov : Value) (base : Nat) (L : List (List ByteArray)), e = .returned ov ∧ Below w.heap.size w W ∧ w.heap.size ≤ base ∧ (Kd.slice 9 Kd.string).R 54 W base (fun _ => True) ov L ∧
    if (ids ps).Nodup then ∃ (f : Lit → Option Value) (n : Nat) (gs : List (List Nat)), AtOf ps ps.length f n ∧ Go.Proofs.YtaigepddkgpplaaGreatDoor.T.Found (adjL (rowsJ ps (tgt f) ps.length 0)) ps.length gs ∧ gs.Pairwise (fun a b => a.headD 0 < b.headD 0) ∧ L = circN ps gs
    else L = []
set_option maxRecDepth 100000 in
set_option maxHeartbeats 1000000 in
theorem circles_calls (A : Option Addr) (fs : List S110) (c : Nat) (A2 : Option Addr) (ps : List S67) (c2 : Nat) (A3 : Option Addr) (n3 c3 : Nat) (w : World) (hC2 : Kd.C k67 w A2 ps.length ps) (hn : ps.length ≤ 1048576) (hid : ∀ p ∈ ps, p.f0.size ≤ maxLen ∧ ∀ s ∈ p.f6, s.size ≤ maxLen) :
    Calls Tryz.prog 37 #[.agg #[.slice A fs.length c, .slice A2 ps.length c2, .slice A3 n3 c3]] w (CirRet w ps) := by
  obtain ⟨W0, hW0⟩ : ∃ W0, W0 = (w.alloc (.cells #[.slice A fs.length c, .slice A2 ps.length c2, .slice A3 n3 c3] 52 (0, 0))) := ⟨_, rfl⟩
  have hC2' : Kd.C k67 W0 A2 ps.length ps := by rw [hW0]; exact Kd.C_below hC2 ((Below.refl _ _).alloc (Nat.le_refl _) _)
  have hof := of_calls A fs c A2 ps c2 A3 n3 c3 W0 hC2' hn hid
  have hC2w := Lib.hid hC2
  have HOF := Lib.hid hof; have HC2 := Lib.hid hC2'; have HW0 := Lib.hid hW0
  clear hof hC2' hW0
  go_enter Tryz.func37, Tryz.ntmps37
  go_upto_region 2 with (go_at_call 91; (with_reducible refine (HW0.out ▸ HOF.out).mono ?_); rintro e W1 ⟨bn, bm, bs, n, f, vs, rfl, hN⟩)
  rw [← HW0.out] at hN
  have HN := Lib.hid hN
  clear hN
  have hb1 : Below w.heap.size w W1 := by
    have h1 : Below w.heap.size w W0 := by rw [HW0.out]; exact (Below.refl _ _).alloc (Nat.le_refl _) _
    exact h1.trans (HN.out.net.below.mono h1.size)
  have HB1 := Lib.hid hb1
  clear hb1
  by_cases hd : (ids ps).Nodup
  · have hdd : decide (ids ps).Nodup = true := by simp [hd]
    simp only [hdd]
    have HD := Lib.hid hd
    clear hd hdd
    have hg := groups92 (HN.out.netR hn) (fun v y h => rowsJ_adj_lt ps (tgt f) v y h) HN.out.cell1
    have HG := Lib.hid hg
    clear hg
    go_upto_region 6 with (go_at_call 92; (with_reducible refine HG.out.mono ?_); rintro e W2 ⟨gv, base, gs, out, rfl, hbase, hb2, hF, hp, hs, hR⟩; obtain ⟨A7, c7, hv⟩ := Kd.R_slice hR; rw [List.length_map] at hv; subst hv)
    have HR := Lib.hid hR; have HB2 := Lib.hid hb2; have HFS := Lib.hid (found_sorted (rowsJ_adj_lt ps (tgt f)) hF hp hs); have HBS := Lib.hid hbase
    clear hR hb2 hF hp hs hbase
    have hgs1 : gs.length ≤ 1048576 := Nat.le_trans (gs_len (rowsJ_adj_lt ps (tgt f)) HFS.out.1 HFS.out.2) hn
    obtain ⟨H2, hH2⟩ : ∃ H2, H2 = W2.heap.size := ⟨_, rfl⟩
    have HH2 := Lib.hid hH2
    clear hH2
    go_loopw [21, 5] (fun q v Wr => ∃ (k : Nat), k ≤ gs.length ∧ q = .int .i64 k ∧ Below H2 W2 Wr ∧ (Kd.slice 9 Kd.string).R 54 Wr H2 (fun _ => True) v (circN ps (gs.take k))) (fun q _ _ => gs.length - (intOf q).toNat)
    case atStart => exact ⟨0, Nat.zero_le _, rfl, HH2.out ▸ Below.refl _ _, Kd.R_nil _ _ _ _ _⟩
    case round =>
      obtain ⟨k, hk, rfl, hbr, hRv⟩ := hrel
      obtain ⟨Av, cv, hv⟩ := Kd.R_slice hRv
      generalize (circN ps (gs.take k)).length = lv at hv
      subst hv
      have HBR := Lib.hid hbr; have HRV := Lib.hid hRv
      clear hbr hRv
      by_cases hlt : k < gs.length
      · have hbr2 : Below W2.heap.size W2 wr := HH2.out ▸ HBR.out
        have hC7 : Kd.C (Kd.slice 3 (Kd.int .i64)) wr A7 (gs.map ints).length (gs.map ints) := Kd.C_below (Kd.R_reads' HR.out).2.2 hbr2
        obtain ⟨ad, A0, c0, rfl, hcell, hle0, hC0⟩ := nt_L4 hC7 k (by simpa using hlt)
        have hgk : (gs.map ints)[k]'(by simpa using hlt) = ints gs[k] := by simp
        rw [hgk, ints_len] at hcell hle0
        rw [hgk, ints_len] at hC0
        have hgl : gs[k].length ≤ 1048576 := Nat.le_trans (grp_len (rowsJ_adj_lt ps (tgt f)) HFS.out.1 (List.getElem_mem hlt)) hn
        have HC0 := Lib.hid hC0
        clear hC7 hC0 hle0 hgk
        generalize hG : gs[k] = grp at *
        have HGK := Lib.hid hG
        clear hG
        go_upto_region 10 with (fail)
        have hglt : ∀ j (h : j < grp.length), grp[j] < ps.length := by
          intro j h
          have hm : grp ∈ gs := HGK.out ▸ List.getElem_mem hlt
          obtain ⟨v, hv, _, hgr⟩ := HFS.out.1.mem grp hm
          exact path_lt (rowsJ_adj_lt ps (tgt f)) ((hgr.mem _).1 (List.getElem_mem h)).1 hv
        have hbw : Below w.heap.size w wr := (HB1.out.trans ((HB2.out.trans (hbr2.mono HB2.out.size)).mono HB1.out.size))
        have hcl : wr.cell? ⟨w.heap.size, 1, none⟩ = some (.slice A2 ps.length c2) := by
          have hb0 : Below W0.heap.size W0 wr := HN.out.net.below.trans ((HB2.out.trans (hbr2.mono HB2.out.size)).mono HN.out.net.below.size)
          have hc0 : W0.cell? ⟨w.heap.size, 1, none⟩ = some (.slice A2 ps.length c2) := by rw [HW0.out]; exact cell_blk (heap_at _ _ rfl) rfl
          exact (hb0.cell (World.block_lt_of_cell? _ _ hc0)).trans hc0
        have hcp : Kd.C k67 wr A2 ps.length ps := Kd.C_below hC2w.out hbw
        have HGLT := Lib.hid hglt; have HCL := Lib.hid hcl; have HCP := Lib.hid hcp; have HBW := Lib.hid hbw
        clear hglt hcl hcp hbw
        obtain ⟨wo, hwo⟩ : ∃ wo, wo = wr := ⟨_, rfl⟩
        subst hwo
        go_loopw [27, 8] (fun q v Wr => ∃ (j : Nat), j ≤ grp.length ∧ q = .int .i64 j ∧ Below wo.heap.size wo Wr ∧ Kd.string.R 9 Wr wo.heap.size (fun _ => True) v ((grp.take j).map fun i => (ps.getD i z67).f0)) (fun q _ _ => grp.length - (intOf q).toNat)
        case atStart => exact ⟨0, Nat.zero_le _, rfl, Below.refl _ _, Kd.R_nil _ _ _ _ _⟩
        case round =>
          obtain ⟨j, hj, rfl, hbj, hRj⟩ := hrel
          obtain ⟨Aj, cj, hvj⟩ := Kd.R_slice hRj
          have hlj : ((grp.take j).map fun i => (ps.getD i z67).f0).length = j := by simp; omega
          rw [hlj] at hvj
          subst hvj
          by_cases hjl : j < grp.length
          · obtain ⟨ai, rfl, hci⟩ := nt_int (Kd.C_below HC0.out hbj) j (by rw [ints_len]; exact hjl)
            have hgj : (ints grp)[j]'(by rw [ints_len]; exact hjl) = ((grp[j] : Nat) : Int) := by simp [ints]
            rw [hgj] at hci
            have hpj := HGLT.out j hjl
            obtain ⟨ap, _, _, _, _, _, _, _, _, _, _, rfl, hcp0, _⟩ := nt_T67 (Kd.C_below HCP.out hbj) grp[j] hpj
            have hcl' := (hbj.cell (World.block_lt_of_cell? _ _ HCL.out)).trans HCL.out
            generalize hPJ : grp[j] = pj at *
            have hxs : (grp.take (j+1)).map (fun i => (ps.getD i z67).f0) = (grp.take j).map (fun i => (ps.getD i z67).f0) ++ [ps[pj].f0] := by
              rw [List.take_succ_eq_append_getElem hjl, List.map_append, hPJ]
              simp [List.getD_eq_getElem?_getD, hpj]
            have HXS := Lib.hid hxs; have HBJ := Lib.hid hbj; have HRJ := Lib.hid hRj
            have hq3 : (((grp.take j).map fun i => (ps.getD i z67).f0).length + 1) * 16 ≤ 140737488355328 := by rw [hlj]; omega
            have HQ3 := Lib.hid hq3
            clear hxs hbj hq3 hcell
            go_wp2_with ((with_reducible refine gate_dst (N := 39) rfl ?_); refine Kd.R_append Kd.string (w0 := wo) wo.heap.size rfl _ _ 54 9 (.string ⟨#[]⟩) 16 rfl Tryz.underlying54 info9 rfl (by decide) (by decide) _ ((grp.take j).map fun i => (ps.getD i z67).f0) (ps[pj].f0) [.string ps[pj].f0] (fun _ => True) (fun _ => False) rfl rfl rfl (fun _ hk => hk.elim) (fun _ _ => trivial) ?aO ?aB ?aS HQ3.out ?_; (case aO => exact (by (with_reducible repeat (first | apply Kd.R_alloc | apply Kd.R_drewN | apply Kd.R_drew)); exact HRJ.out)); (case aB => exact (by repeat (first | (with_reducible first | exact HBJ.out | apply below_alloc | apply pw_below_drewN | apply below_drew1) | exact HBJ.out))); (case aS => exact below_size (by repeat (first | (with_reducible first | exact HBJ.out | apply below_alloc | apply pw_below_drewN | apply below_drew1) | exact HBJ.out))); intro v1 w1 hR1 hb1 hg1 hat1)
            go_roundw
            case rel => exact ⟨j + 1, by omega, by go_num, hb1, by rw [HXS.out]; exact hR1⟩
            case measure => simp [intOf]; omega
          · obtain rfl : j = grp.length := by omega
            rw [List.take_length] at hRj
            have hM : (Kd.slice 9 Kd.string).M wr H2 (fun q => wo.heap.size ≤ q) (grp.map fun i => (ps.getD i z67).f0) [.slice Aj grp.length cj] :=
              Kd.M_row (Kd.R_of_own (own_weaken (Kd.own_of_R hRj) (by have := HBR.out.size; have := HH2.out; omega)) (fun q hq => Kd.R_base hRj q hq))
            have hA : Below H2 W2 wr := HBR.out.trans (hbj.mono (by have := HBR.out.size; have := HH2.out; omega))
            have hV : (Kd.slice 9 Kd.string).R 54 wr H2 (fun _ => True) (.slice Av lv cv) (circN ps (gs.take k)) := Kd.R_below HRV.out hbj
            have hVlt : ∀ q, wo.heap.size ≤ q → True ∧ some q ≠ (Value.slice Av lv cv).ownBlock := by
              intro q hq
              refine ⟨trivial, fun e => ?_⟩
              obtain ⟨inner, ho⟩ := Kd.R_own HRV.out
              have := (own_hi ho e.symm).2
              omega
            have hcl' : (circN ps (gs.take k)).length = k := by simp [circN]; omega
            have hq3 : ((circN ps (gs.take k)).length + 1) * 24 ≤ 140737488355328 := by rw [hcl']; have := gs_len (rowsJ_adj_lt ps (tgt f)) HFS.out.1 HFS.out.2; omega
            have hnx : circN ps (gs.take (k + 1)) = circN ps (gs.take k) ++ [grp.map fun i => (ps.getD i z67).f0] := by
              unfold circN
              rw [List.take_succ_eq_append_getElem hlt, List.map_append, HGK.out]
              rfl
            have HM := Lib.hid hM; have HBA := Lib.hid hA; have HV := Lib.hid hV; have HVL := Lib.hid hVlt; have HQ3 := Lib.hid hq3; have HNX := Lib.hid hnx
            clear hM hA hV hVlt hq3 hnx hcl' hRj hbj hlj hcell
            have HS2 := Lib.hid (show H2 ≤ wr.heap.size from by have := HBA.out.size; have := HH2.out; omega)
            go_wp2_with ((with_reducible refine gate_dst (N := 44) rfl ?_); refine Kd.R_append (Kd.slice 9 Kd.string) (w0 := W2) H2 rfl _ _ 60 54 (.slice none 0 0) 24 rfl Tryz.underlying60 info54 rfl (by decide) (by decide) (.slice Av lv cv) (circN ps (gs.take k)) (grp.map fun i => (ps.getD i z67).f0) [.slice Aj grp.length cj] (fun _ => True) (fun q => wo.heap.size ≤ q) rfl rfl ?bP HVL.out (fun _ _ => trivial) ?bO ?bB ?bS HQ3.out ?_; (case bP => exact HM.out); (case bO => exact HV.out); (case bB => exact HBA.out); (case bS => exact HS2.out); intro v1 w1 hR1 hb1 hg1 hat1)
            go_roundw
            case rel => exact ⟨k + 1, by omega, by go_num, hb1, by rw [HNX.out]; exact hR1⟩
            case measure => simp [intOf]; omega
      · obtain rfl : k = gs.length := by omega
        go_wp2_with fail
        go_ret
        refine ⟨_, H2, circN ps gs, rfl, HB1.out.trans (?_ : Below w.heap.size W1 wr), ?_, ?_, ?_⟩
        · exact (HB2.out.trans (HBR.out.mono (by have := HB2.out.size; have := HH2.out; omega))).mono HB1.out.size
        · have := HB1.out.size; have := HB2.out.size; have := HH2.out; omega
        · have := HRV.out; rwa [List.take_length] at this
        · rw [if_pos HD.out]; exact ⟨f, n, gs, HN.out.at_, HFS.out.1, HFS.out.2, rfl⟩
  · have hdd : decide (ids ps).Nodup = false := by simp [hd]
    simp only [hdd]
    have HD := Lib.hid hd
    clear hd hdd
    go_wp2_with fail
    go_ret
    exact ⟨_, W1.heap.size, [], rfl, HB1.out, HB1.out.size, Kd.R_nil _ _ _ _ _, by rw [if_neg HD.out]⟩
end Go.Proofs.YtaigepddkgpplaaGreatDoor.M

