/- The law NormCircles: the walk. -/
import Derived.Test.YtaigepddkgpplaaGreatDoorQCirP
namespace Go.Proofs.YtaigepddkgpplaaGreatDoor.M
open Go Go.RowKit Go.Maps Go.WideMaps Go.Proofs.YtaigepddkgpplaaGreatDoorW.PrintWords Go.Proofs.YtaigepddkgpplaaGreatDoorW.PrintLast Go.Proofs.YtaigepddkgpplaaGreatDoorW.PrintMore Go.Proofs.YtaigepddkgpplaaGreatDoor.B Go.Proofs.YtaigepddkgpplaaGreatDoor.T
set_option linter.unusedVariables false
set_option linter.unusedSimpArgs false
def bitOf : Value → Nat
  | .bool true => 1
  | _ => 0
theorem info4 : (Tryz.prog.info? 4).map (fun i => (i.zero, i.size, i.bytes)) = some (some (.bool false), 1, 1) := by kernel_rfl

theorem nt_E {w : World} {A : Option Addr} {n : Nat} {ps : List S67} (h : Kd.C k67 w A n ps) (i : Nat) (hi : i < ps.length) : ∃ ad A10 c10, A = some ad ∧ w.cell? (ad.add (i * 23)) = some (.string (idAt ps i)) ∧ w.cell? ⟨(ad.add (i * 23)).block, (ad.add (i * 23)).off + 10, none⟩ = some (.slice A10 (ps.getD i z67).f6.length c10) ∧ (ps.getD i z67).f6.length ≤ c10 ∧ Kd.C Kd.string w A10 (ps.getD i z67).f6.length (ps.getD i z67).f6 := by
  have hid : idAt ps i = ps[i].f0 := by simp [idAt, hi]
  have hgd : ps.getD i z67 = ps[i] := by simp [hi]
  rw [hid, hgd]
  obtain ⟨ad, A9, c9, A10, c10, A14, c14, A18, c18, A22, c22, rfl, h0, h1, h2, h3, h4, h5, h6, h7, h8, h9, h10, h11, h12, h13, h14, h15, h16, h17, h18, h19, h20, h21, h22, _, _, l10, g10, _⟩ := nt_T67 h i hi
  exact ⟨ad, A10, c10, rfl, h0, h10, l10, g10⟩
set_option maxRecDepth 100000 in
set_option maxHeartbeats 4000000 in
theorem circles9 (A : Option Addr) (fs : List S110) (c : Nat) (A2 : Option Addr) (ps : List S67) (c2 : Nat) (A3 : Option Addr) (n3 c3 : Nat) (w : World) (hL : LawAt w A fs A2 ps) :
    Calls Tryz.prog 9 #[.agg #[.slice A fs.length c, .slice A2 ps.length c2, .slice A3 n3 c3]] w (RetB true w) := by
  obtain ⟨W0, hW0⟩ : ∃ W0, W0 = (w.alloc (.cells #[.slice A fs.length c, .slice A2 ps.length c2, .slice A3 n3 c3] 52 (0, 0))) := ⟨_, rfl⟩
  have hb0 : Below w.heap.size w W0 := by rw [hW0]; exact (Below.refl _ _).alloc (Nat.le_refl _) _
  have hblk : W0.heap[w.heap.size]? = some (.cells #[.slice A fs.length c, .slice A2 ps.length c2, .slice A3 n3 c3] 52 (0, 0)) := by rw [hW0]; exact heap_at _ _ rfl
  have hret : ∀ W, Below W0.heap.size W0 W → RetB true w (.returned (.bool true)) W := fun W h => ⟨rfl, below_to hb0 h⟩
  have hlw : ∀ W, Below W0.heap.size W0 W → W.cell? ⟨w.heap.size, 0, none⟩ = some (.slice A fs.length c) ∧ W.cell? ⟨w.heap.size, 1, none⟩ = some (.slice A2 ps.length c2) ∧ W.cell? ⟨w.heap.size, 2, none⟩ = some (.slice A3 n3 c3) := fun W h =>
    have hb := (h.block _ (blk_lt hblk)).trans hblk
    ⟨cell_blk hb rfl, cell_blk hb rfl, cell_blk hb rfl⟩
  have hla : ∀ W, Below W0.heap.size W0 W → LawAt W A fs A2 ps := fun W h => hL.below (below_to hb0 h)
  have HB0 := Lib.hid hb0; have HW0 := Lib.hid hW0; have HR := Lib.hid hret; have HLW := Lib.hid hlw; have HLA := Lib.hid hla
  have HR0 := Lib.hid (Below.refl W0.heap.size W0)
  clear hb0 hW0 hblk hret hlw hla hL
  go_enter Tryz.func9, Tryz.ntmps9
  go_upto_region 1 with (fail)
  rw [← HW0.out]
  clear HW0
  obtain ⟨e0, e1, e2⟩ := HLW.out _ HR0.out
  have HH := Lib.hid (head29 W0)
  go_upto_region 2 with (go_at_call 29; (with_reducible refine HH.out.mono ?_); rintro e W1 ⟨rfl, hb1⟩)
  obtain ⟨e0, e1, e2⟩ := HLW.out _ hb1
  have HF := Lib.hid ((HLA.out _ hb1).few c c2 A3 n3 c3 30)
  go_upto_if 20 with (go_at_call 30; (with_reducible refine HF.out.mono ?_); rintro e W2 ⟨b, rfl, hb2, hfew⟩)
  have hb02 : Below W0.heap.size W0 W2 := below_to hb1 hb2
  have HB02 := Lib.hid hb02
  clear hb02 e0 e1 e2
  cases b with
  | false =>
    clear hfew
    go_wp2
    go_ret
    exact HR.out _ HB02.out
  | true =>
    have hn40 : ps.length ≤ 30 := by have := (hfew rfl).1; omega
    clear hfew
    obtain ⟨e0, e1, e2⟩ := HLW.out _ HB02.out
    have hci := (HLA.out _ HB02.out).circles (by omega) c c2 A3 n3 c3
    have HCI := Lib.hid hci
    clear hci
    go_upto_region 5 with (go_at_call 37; (with_reducible refine HCI.out.mono ?_); rintro e W3 ⟨ov, bs, L, rfl, hb3, hbs, hR3, hL3⟩; obtain ⟨Ao, co, hv⟩ := Kd.R_slice hR3; subst hv)
    have hb03 : Below W0.heap.size W0 W3 := below_to HB02.out hb3
    have hCo : Kd.C (Kd.slice 9 Kd.string) W3 Ao L.length L := (Kd.R_reads' hR3).2.2
    have HB03 := Lib.hid hb03; have HCO := Lib.hid hCo; have HL3 := Lib.hid hL3
    have hol := hCo.2.1
    clear hb03 hCo hR3 hb3 e0 e1 e2 hL3 HCI
    obtain ⟨e0, e1, e2⟩ := HLW.out _ HB03.out
    have hbytes : 1 * ps.length ≤ 281474976710656 := by omega
    have hm2 : ps.length ≤ 9223372036854775807 := by omega
    have hmk := fun W => run_make_row' (P := Tryz.prog) 72 4 (.bool false) 1 Tryz.underlying72 info4 rfl .i64 .i64 ps.length hbytes hm2 W
    go_upto_region 7 with (fail)
    obtain ⟨gb, hgb⟩ : ∃ gb, gb = W3.heap.size := ⟨_, rfl⟩
    have hmd : GoneAt gb (List.replicate ps.length false) (W3.alloc (.cells (madeCells #[.bool false] ps.length) 4 (0, 0))) := GoneAt.made (by rw [hgb]; exact heap_at _ _ rfl)
    have hb34 : Below W3.heap.size W3 (W3.alloc (.cells (madeCells #[.bool false] ps.length) 4 (0, 0))) := (Below.refl _ _).alloc (Nat.le_refl _) _
    have hgs : gb = W3.heap.size := hgb
    rw [← hgb]
    generalize W3.alloc (.cells (madeCells #[.bool false] ps.length) 4 (0, 0)) = W4 at *
    have HGB := Lib.hid hgb; have HMD := Lib.hid hmd; have HB34 := Lib.hid hb34
    have HGS := Lib.hid (GoneB.start ps)
    clear hgb hmd hb34 hgs hmk hbytes e0 e1 e2
    go_wp2_with fail
    go_loopw [7, 8] (fun q v Wr => ∃ (gl : List Bool) (left : Nat) (ag : Bool), q = .int .i64 left ∧ v = .bool ag ∧ GoneB ps gl left ∧ GoneAt gb gl Wr ∧ (ag = false → Stuck ps gl ps.length) ∧ Below W3.heap.size W3 Wr) (fun q v _ => 2 * (intOf q).toNat + bitOf v)
    case atStart => exact ⟨_, _, true, rfl, rfl, HGS.out, HMD.out, fun h => (by cases h), HB34.out⟩
    case round =>
      obtain ⟨gl, left, ag, rfl, rfl, hgo, hga, hst, hbr⟩ := hrel
      have HGO := Lib.hid hgo; have HGA := Lib.hid hga; have HST := Lib.hid hst; have HBR := Lib.hid hbr
      have hleft := hgo.le
      clear hgo hga hst hbr
      cases ag with
      | true =>
        clear HST
        go_wp2_with fail
        go_loopw [9, 7, 8] (fun q u v Wr => ∃ (k : Nat) (gl : List Bool) (left2 : Nat) (ag : Bool), k ≤ ps.length ∧ q = .int .i64 k ∧ u = .int .i64 left2 ∧ v = .bool ag ∧ GoneB ps gl left2 ∧ GoneAt gb gl Wr ∧ (ag = false → left2 = left ∧ Stuck ps gl k) ∧ (ag = true → left2 + 1 ≤ left) ∧ Below W3.heap.size W3 Wr) (fun q _ _ _ => ps.length - (intOf q).toNat)
        case atStart => exact ⟨0, gl, left, false, Nat.zero_le _, rfl, rfl, rfl, HGO.out, HGA.out, fun _ => ⟨rfl, fun v hv => absurd hv (Nat.not_lt_zero _)⟩, fun h => (by cases h), HBR.out⟩
        case round =>
          clear HGO HGA HBR
          obtain ⟨k, gl, left2, ag, hk, rfl, rfl, rfl, hgo, hga, hag0, hag1, hbr⟩ := hrel
          have HGO := Lib.hid hgo; have HGA := Lib.hid hga; have HAG0 := Lib.hid hag0; have HAG1 := Lib.hid hag1; have HBR := Lib.hid hbr
          have hl2 := hgo.le
          have HGLN := Lib.hid hgo.len
          clear hgo hga hag0 hag1 hbr
          obtain ⟨wo, hwo⟩ : ∃ wo, wo = wr := ⟨_, rfl⟩
          subst hwo
          by_cases hlt : k < ps.length
          · have g0 := HGA.out.cell (k := k) (by rw [HGLN.out]; exact hlt)
            go_wp2_with fail
            go_loopw [11, 10] (fun q v Wr => ∃ (j : Nat) (fr : Bool), j ≤ ps.length ∧ q = .int .i64 j ∧ v = .bool fr ∧ FreeK ps gl k j fr ∧ Below wo.heap.size wo Wr) (fun q _ _ => ps.length - (intOf q).toNat)
            case atStart => exact ⟨0, _, Nat.zero_le _, rfl, rfl, FreeK.start ps gl k, Below.refl _ _⟩
            case round =>
              obtain ⟨j, fr, hj, rfl, rfl, hfr, hbj⟩ := hrel
              have HFR := Lib.hid hfr; have HBJ := Lib.hid hbj
              clear hfr hbj g0
              cases fr with
              | false =>
                have hsk : ag = false → left2 = left ∧ Stuck ps gl (k + 1) := fun h => ⟨(HAG0.out h).1, (HAG0.out h).2.next HFR.out⟩
                have HSK := Lib.hid hsk
                clear hsk
                by_cases hjl : j < ps.length
                all_goals
                  go_wp2_with fail
                  go_roundw
                  case rel => exact ⟨k + 1, gl, left2, ag, by omega, by go_num, rfl, rfl, HGO.out, HGA.out.below HBJ.out, HSK.out, HAG1.out, below_to HBR.out HBJ.out⟩
                  case measure => simp [intOf]; omega
              | true =>
                by_cases hjl : j < ps.length
                · obtain ⟨ak, _, _, rfl, p0, _⟩ := nt_E (HLA.out _ (below_to HB03.out (below_to HBR.out HBJ.out))).C2 k hlt
                  obtain ⟨aj, A10, c10, haj, q0, q10, l10, g10⟩ := nt_E (HLA.out _ (below_to HB03.out (below_to HBR.out HBJ.out))).C2 j hjl
                  injection haj with haj
                  subst haj
                  obtain ⟨e0, e1, e2⟩ := HLW.out _ (below_to HB03.out (below_to HBR.out HBJ.out))
                  have gj := (HGA.out.below HBJ.out).cell (k := j) (by rw [HGLN.out]; exact hjl)
                  have hnx := HFR.out.next hlt hjl
                  have hk0 : (0 : Int) ≤ (k : Int) := by omega
                  have hk1 : (k : Int) < (ps.length : Int) := by omega
                  have hj0 : (0 : Int) ≤ (j : Int) := by omega
                  have hj1 : (j : Int) < (ps.length : Int) := by omega
                  have hi1 := fun W => in39d A10 c10 (ps.getD j z67).f6 (idAt ps k) W
                  generalize (ps.getD j z67).f6 = f6 at *
                  generalize idAt ps k = idk at *
                  generalize idAt ps j = idj at *
                  cases hg : gl.getD j false with
                  | true =>
                    rw [hg, Bool.true_or] at hnx
                    rw [hg] at gj
                    have HNX := Lib.hid hnx
                    clear hnx hi1 g10 hg
                    go_wp2_with fail
                    go_quiet (fail)
                    go_wp2_with fail
                    go_roundw
                    case rel => exact ⟨j + 1, _, by omega, by go_num, rfl, HNX.out, pw_below_drewN HBJ.out _⟩
                    case measure => simp [intOf]; omega
                  | false =>
                    rw [hg, Bool.false_or] at hnx
                    rw [hg] at gj
                    cases hs : hasS f6 idk with
                    | true =>
                      rw [hs] at hnx
                      have HNX := Lib.hid hnx
                      have HC1 := Lib.hid (hi1 wr g10 hs)
                      clear hnx hi1 g10 hg hs
                      go_wp2_with fail
                      go_quiet ((go_at_call 39; (with_reducible exact Calls.quiet_of_same (HC1.out _))))
                      go_wp2_with fail
                      go_roundw
                      case rel => exact ⟨j + 1, _, by omega, by go_num, rfl, HNX.out, pw_below_drewN HBJ.out _⟩
                      case measure => simp [intOf]; omega
                    | false =>
                      rw [hs] at hnx
                      have HNX := Lib.hid hnx
                      have HC1 := Lib.hid (hi1 wr g10 hs)
                      clear hnx hi1 g10 hg hs
                      go_wp2_with fail
                      go_quiet ((go_at_call 39; (with_reducible exact Calls.quiet_of_same (HC1.out _))))
                      go_wp2_with fail
                      go_roundw
                      case rel => exact ⟨j + 1, _, by omega, by go_num, rfl, HNX.out, pw_below_drewN HBJ.out _⟩
                      case measure => simp [intOf]; omega
                · obtain rfl : j = ps.length := by omega
                  have hfull := HFR.out.full hlt
                  have hnext := HGO.out.next hlt hfull.1 hfull.2
                  have h1l := hnext.1
                  have hga := HGA.out.below HBJ.out
                  have g0 := hga.cell (k := k) (by rw [HGLN.out]; exact hlt)
                  have g1 := hga.frozen k
                  have hgb2 : W3.heap.size ≤ gb := by rw [HGB.out]; exact Nat.le_refl _
                  have hbs : Below W3.heap.size W3 (wr.setCell ⟨gb, k, none⟩ (.bool true)) := (below_to HBR.out HBJ.out).setCell hgb2 _
                  have hle : left2 - 1 + 1 ≤ left := by
                    cases ag with
                    | false => have := (HAG0.out rfl).1; omega
                    | true => have := HAG1.out rfl; omega
                  have HLE := Lib.hid hle
                  have HNX := Lib.hid hnext.2; have HGA2 := Lib.hid (hga.set k); have HBS := Lib.hid hbs
                  clear hfull hnext hga hbs
                  go_wp2_with fail
                  go_roundw
                  case rel => exact ⟨k + 1, gl.set k true, left2 - 1, true, by omega, by go_num, by go_num, rfl, HNX.out, HGA2.out, fun h => (by cases h), fun _ => HLE.out, HBS.out⟩
                  case measure => simp [intOf]; omega
          · obtain rfl : k = ps.length := by omega
            go_wp2_with fail
            go_roundw
            case rel => exact ⟨gl, left2, ag, rfl, rfl, HGO.out, HGA.out, fun h => (HAG0.out h).2, HBR.out⟩
            case measure =>
              have h0 := HAG0.out; have h1 := HAG1.out
              cases ag with
              | false => have := (h0 rfl).1; simp [intOf, bitOf]; omega
              | true => have := h1 rfl; simp [intOf, bitOf]; omega
      | false =>
        have hb0r : Below W0.heap.size W0 wr := below_to HB03.out HBR.out
        have hst := HST.out rfl
        have hdf := different41 A fs c A2 ps c2 A3 n3 c3 wr (HLA.out _ hb0r).C2
        obtain ⟨e0, e1, e2⟩ := HLW.out _ hb0r
        have HB0R := Lib.hid hb0r
        clear hb0r
        have hl3 := HL3.out
        by_cases hn : (ids ps).Nodup
        · rw [if_pos hn] at hl3
          rw [decide_eq_true hn] at hdf
          have HDF := Lib.hid hdf
          obtain ⟨f, nn, gs, hat, hF0, _, hLg⟩ := hl3
          have hF := circ_all hn hat hF0
          have hp1 : ∀ i (hi : i < L.length) k (hk : k < L[i].length), ∃ m, m < ps.length ∧ hasS L[i] (idAt ps m) = true ∧ hasS (ps.getD m z67).f6 L[i][k] = true := by
            subst hLg; intro i hi k hk
            obtain ⟨v, _, _, _, h⟩ := circ_at hF hi hk
            exact h
          have hp2 : ∀ i (hi : i < L.length) k (hk : k < L[i].length) m, m < ps.length → idAt ps m = L[i][k] → gl.getD m false = false := by
            subst hLg; intro i hi k hk m hm he
            exact circ_gone hn HGO.out hF hi hk hm he
          have hp3 : decide (left = 0) = decide (L.length = 0) := by
            subst hLg
            exact circ_left HGO.out hst hF
          have HP1 := Lib.hid hp1; have HP2 := Lib.hid hp2; have HP3 := Lib.hid hp3
          have HGLN := Lib.hid HGO.out.len
          clear hdf hat hF0 hLg hF hp1 hp2 hp3 hst HST HGO HL3
          go_upto_if 77 with (go_at_call 41; (with_reducible refine HDF.out.mono ?_); rintro e W5 ⟨rfl, hb5⟩)
          have hb05 := below_to HB0R.out hb5
          have hga5 := HGA.out.below hb5
          have HCO5 := Lib.hid (Kd.C_below HCO.out (below_to HBR.out hb5))
          have HB05 := Lib.hid hb05; have HGA5 := Lib.hid hga5
          clear hb05 hga5 hb5 HGA HBR HCO HDF e0 e1 e2
          go_wp2_with fail
          go_loopw [12] (fun q Wr => ∃ i : Nat, i ≤ L.length ∧ q = .int .i64 i ∧ Below W5.heap.size W5 Wr) (fun q _ => L.length - (intOf q).toNat)
          case atStart => exact ⟨0, Nat.zero_le _, rfl, Below.refl _ _⟩
          case round =>
            obtain ⟨i, hi, rfl, hbi⟩ := hrel
            have HBI := Lib.hid hbi
            clear hbi
            obtain ⟨wi, hwi⟩ : ∃ wi, wi = wr := ⟨_, rfl⟩
            subst hwi
            by_cases hil : i < L.length
            · obtain ⟨ad, A0, c0, rfl, h0, hl0, hC0⟩ := nt_L8 (Kd.C_below HCO5.out HBI.out) i hil
              have hq1 := HP1.out i hil
              have hq2 := HP2.out i hil
              have hlim := hC0.2.1
              have hi0 : (0 : Int) ≤ (i : Int) := by omega
              have hi1 : (i : Int) < (L.length : Int) := by omega
              generalize L[i] = li at *
              have H0 := Lib.hid h0; have HC0 := Lib.hid hC0; have HQ1 := Lib.hid hq1; have HQ2 := Lib.hid hq2
              clear h0 hC0 hq1 hq2
              go_wp2_with fail
              go_loopw [13] (fun q Wr => ∃ k : Nat, k ≤ li.length ∧ q = .int .i64 k ∧ Below wi.heap.size wi Wr) (fun q _ => li.length - (intOf q).toNat)
              case atStart => exact ⟨0, Nat.zero_le _, rfl, Below.refl _ _⟩
              case round =>
                obtain ⟨k, hk, rfl, hbk⟩ := hrel
                have HBK := Lib.hid hbk
                have h0 := (hbk.cell (World.block_lt_of_cell? _ _ H0.out)).trans H0.out
                clear hbk
                obtain ⟨wk, hwk⟩ : ∃ wk, wk = wr := ⟨_, rfl⟩
                subst hwk
                by_cases hkl : k < li.length
                · obtain ⟨sd, rfl, s0⟩ := nt_str (Kd.C_below HC0.out HBK.out) k hkl
                  have hr1 := HQ1.out k hkl
                  have hr2 := HQ2.out k hkl
                  have hk0 : (0 : Int) ≤ (k : Int) := by omega
                  have hk1 : (k : Int) < (li.length : Int) := by omega
                  obtain ⟨sk, hsk⟩ : ∃ sk, sk = li[k] := ⟨_, rfl⟩
                  rw [← hsk] at hr1 hr2 s0
                  obtain ⟨F, hFd⟩ : ∃ F : Nat → Bool, F = fun m => hasS li (idAt ps m) && hasS (ps.getD m z67).f6 sk := ⟨_, rfl⟩
                  have hall : (List.range ps.length).any F = true := by
                    obtain ⟨m, hm, a1, a2⟩ := hr1
                    rw [List.any_eq_true]
                    exact ⟨m, by simpa using hm, by rw [hFd]; exact Bool.and_eq_true_iff.2 ⟨a1, a2⟩⟩
                  have HALL := Lib.hid hall; have HFD := Lib.hid hFd; have HR2 := Lib.hid hr2; have HS0 := Lib.hid s0; have H0K := Lib.hid h0
                  clear hr1 hr2 s0 hsk hFd hall
                  have hF0 : (List.range 0).any F = false := rfl
                  go_wp2_with fail
                  go_loopw [15, 14] (fun q v Wr => ∃ m : Nat, m ≤ ps.length ∧ q = .int .i64 m ∧ v = .bool ((List.range m).any F) ∧ Below wk.heap.size wk Wr) (fun q _ _ => ps.length - (intOf q).toNat)
                  case atStart => exact ⟨0, Nat.zero_le _, rfl, rfl, Below.refl _ _⟩
                  case round =>
                    obtain ⟨m, hm, rfl, rfl, hbm⟩ := hrel
                    clear hF0 h0
                    have hb0m : Below W0.heap.size W0 wr := below_to HB05.out (below_to HBI.out (below_to HBK.out hbm))
                    have HBM := Lib.hid hbm; have HB0M := Lib.hid hb0m
                    obtain ⟨e0, e1, e2⟩ := HLW.out _ hb0m
                    clear hbm hb0m
                    by_cases hml : m < ps.length
                    · obtain ⟨ad2, qs2, had, hcl, hcK, hc1v, hcells⟩ := nt_cells (HLA.out _ HB0M.out).C2 m hml
                      subst had
                      obtain ⟨_, _, A10, c10, q0, _, _, _, _, _, _, q10, _, _, l10, g10⟩ := k67_some hcK
                      have hid1 : ps[m].f0 = idAt ps m := by simp [idAt, hml]
                      have hpm : ps.getD m z67 = ps[m] := by simp [hml]
                      rw [hid1] at q0
                      have hsk1 : (List.range (m + 1)).any F = ((List.range m).any F || F m) := by rw [List.range_succ, List.any_append]; simp
                      rw [HFD.out] at hsk1
                      rw [← HFD.out] at hsk1
                      have hFm : F m = (hasS li (idAt ps m) && hasS ps[m].f6 sk) := by rw [HFD.out]; show (hasS li (idAt ps m) && hasS (ps.getD m z67).f6 sk) = _; rw [hpm]
                      rw [hFm] at hsk1
                      have hr2 := HR2.out m hml
                      have he := str_eq (idAt ps m) sk
                      have gm := HGA5.out.below (below_to HBI.out (below_to HBK.out HBM.out))
                      have hi1 := fun W => in39d (some sd) c0 li (idAt ps m) W
                      have hi3 := fun W => in39d A10 c10 ps[m].f6 sk W
                      have hm0 : (0 : Int) ≤ (m : Int) := by omega
                      have hm1 : (m : Int) < (ps.length : Int) := by omega
                      clear hFm hpm hid1
                      obtain ⟨b1, hb1⟩ : ∃ b1, b1 = hasS li (idAt ps m) := ⟨_, rfl⟩
                      obtain ⟨b2, hb2⟩ : ∃ b2, b2 = hasS ps[m].f6 sk := ⟨_, rfl⟩
                      rw [← hb1, ← hb2] at hsk1
                      generalize idAt ps m = idm at *
                      generalize ps[m].f6 = f6m at *
                      generalize ps[m] = pm at *
                      generalize (List.range m).any F = so at *
                      have HCL := Lib.hid (show qs2.length = 23 from hcl); have HCE := Lib.hid hcells; have HONE := Lib.hid hc1v
                      have hcs2 : ∀ (W2 : World), W2.heap[wr.heap.size]? = some (.cells qs2.toArray 67 (0, 0)) → W2.cell? ⟨wr.heap.size, 0, none⟩ = some (.string idm) ∧ W2.cell? ⟨wr.heap.size, 10, none⟩ = some (.slice A10 f6m.length c10) := fun W2 h => ⟨cell_blk h (by simpa using q0), cell_blk h (by simpa using q10)⟩
                      have HCS2 := Lib.hid hcs2; have HI1 := Lib.hid hi1; have HI3 := Lib.hid hi3; have HG10 := Lib.hid g10; have HSK := Lib.hid hsk1; have HEQ := Lib.hid he; have HGM := Lib.hid gm; have HRR := Lib.hid hr2; have HB1 := Lib.hid hb1; have HB2 := Lib.hid hb2
                      clear hcl hcells hc1v hcK hcs2 hi1 hi3 q0 q10 l10 g10 hsk1 he gm hr2 hb1 hb2
                      go_upto_region 36 with (first | ((with_reducible refine gate_dst (N := 108) rfl ?_); refine wp_load_cells rfl 67 _ rfl (ad2.add (m * 23)) rfl qs2 _ Tryz.underlying67 rfl (by rw [HCL.out]; kernel_rfl) HCE.out ?_) | ((with_reducible refine gate_store (t := 67) (p := 16) rfl ?_); refine wp_store_new rfl 67 _ _ rfl rfl _ rfl qs2 rfl (by rw [HCL.out]; kernel_rfl) (by rw [HCL.out]; kernel_rfl) HONE.out ?_; intro W8 h8 hb8 hs8))
                      obtain ⟨d0, d10⟩ := HCS2.out W8 h8
                      have HB8 := Lib.hid (below_to HBM.out hb8)
                      have h0 := (HB8.out.cell (World.block_lt_of_cell? _ _ H0K.out)).trans H0K.out
                      have s0 := (HB8.out.cell (World.block_lt_of_cell? _ _ HS0.out)).trans HS0.out
                      have gm := (HGM.out.below hb8).cell (k := m) (by rw [HGLN.out]; exact hml)
                      have HC1 := Lib.hid (HI1.out W8 (Kd.C_below HC0.out (below_to HBK.out HB8.out)) HB1.out.symm)
                      have HC3 := Lib.hid (HI3.out W8 (Kd.C_below HG10.out hb8) HB2.out.symm)
                      have he := HEQ.out
                      clear e0 e1 e2 h8 hb8 HB1 HB2
                      by_cases heq : idm = sk
                      · rw [HRR.out heq] at gm
                        rw [decide_eq_true heq] at he
                        clear heq HRR
                        cases so
                        all_goals cases b1
                        all_goals cases b2
                        all_goals
                          go_quiet ((go_at_call 39; first | (with_reducible exact Calls.quiet_of_same (HC1.out _)) | (with_reducible exact Calls.quiet_of_same (HC3.out _))))
                          go_wp2_with fail
                          go_quiet (fail)
                          go_wp2_with fail
                          go_roundw
                          case rel => exact ⟨m + 1, by omega, by go_num, by rw [HSK.out]; rfl, pw_below_drewN HB8.out _⟩
                          case measure => simp [intOf]; omega
                      · rw [decide_eq_false heq] at he
                        clear heq HRR gm
                        cases so
                        all_goals cases b1
                        all_goals cases b2
                        all_goals
                          go_quiet ((go_at_call 39; first | (with_reducible exact Calls.quiet_of_same (HC1.out _)) | (with_reducible exact Calls.quiet_of_same (HC3.out _))))
                          go_wp2_with fail
                          go_quiet (fail)
                          go_wp2_with fail
                          go_roundw
                          case rel => exact ⟨m + 1, by omega, by go_num, by rw [HSK.out]; rfl, pw_below_drewN HB8.out _⟩
                          case measure => simp [intOf]; omega
                    · obtain rfl : m = ps.length := by omega
                      rw [HALL.out]
                      go_wp2_with fail
                      go_roundw
                      case rel => exact ⟨k + 1, by omega, by go_num, below_to HBK.out HBM.out⟩
                      case measure => simp [intOf]; omega
                · obtain rfl : k = li.length := by omega
                  go_wp2_with fail
                  go_roundw
                  case rel => exact ⟨i + 1, by omega, by go_num, below_to HBI.out HBK.out⟩
                  case measure => simp [intOf]; omega
            · obtain rfl : i = L.length := by omega
              have hp3 := HP3.out
              have HRX := Lib.hid (HR.out wi (below_to HB05.out HBI.out))
              by_cases hz : L.length = 0
              · rw [decide_eq_true hz, decide_eq_true_eq] at hp3
                subst hp3
                have hz1 : ((L.length : Int) == 0) = true := by simp [hz]
                clear hz
                go_wp2_with fail
                go_ret
                exact HRX.out
              · rw [decide_eq_false hz, decide_eq_false_iff_not] at hp3
                have hz1 : ((L.length : Int) == 0) = false := by simpa using hz
                have hz2 : ((left : Int) == 0) = false := by simpa using hp3
                clear hz hp3
                go_wp2_with fail
                go_ret
                exact HRX.out
        · rw [if_neg hn] at hl3
          subst hl3
          rw [decide_eq_false hn] at hdf
          have HDF := Lib.hid hdf
          clear hdf hn hst HST
          rw [List.length_nil]
          go_wp2_with (go_at_call 41; (with_reducible refine HDF.out.mono ?_); rintro e W5 ⟨rfl, hb5⟩)
          go_ret
          exact HR.out _ (below_to HB0R.out hb5)
end Go.Proofs.YtaigepddkgpplaaGreatDoor.M

