/- The law NormDecides: the walk. -/
import Derived.Test.YtaigepddkgpplaaGreatDoorQHead2
namespace Go.Proofs.YtaigepddkgpplaaGreatDoor.M
open Go Go.RowKit Go.Maps Go.WideMaps Go.Proofs.YtaigepddkgpplaaGreatDoorW.PrintWords Go.Proofs.YtaigepddkgpplaaGreatDoorW.PrintLast Go.Proofs.YtaigepddkgpplaaGreatDoorW.PrintMore Go.Proofs.YtaigepddkgpplaaGreatDoor.B Go.Proofs.YtaigepddkgpplaaGreatDoor.T
set_option linter.unusedVariables false
set_option linter.unusedSimpArgs false

set_option maxRecDepth 100000 in
set_option maxHeartbeats 4000000 in
theorem decides6 (A : Option Addr) (fs : List S110) (c : Nat) (A2 : Option Addr) (ps : List S67) (c2 : Nat) (A3 : Option Addr) (n3 c3 : Nat) (Ac : Option Addr) (cs : List Int) (cc : Nat) (w : World) (hL : LawAt w A fs A2 ps) (hC3 : Kd.C (Kd.int .i64) w Ac cs.length cs) :
    Calls Tryz.prog 6 #[.agg #[.slice A fs.length c, .slice A2 ps.length c2, .slice A3 n3 c3], .slice Ac cs.length cc] w (RetB true w) := by
  obtain ⟨W0, hW0⟩ : ∃ W0, W0 = (w.alloc (.cells #[.slice A fs.length c, .slice A2 ps.length c2, .slice A3 n3 c3] 52 (0, 0))) := ⟨_, rfl⟩
  have hb0 : Below w.heap.size w W0 := by rw [hW0]; exact (Below.refl _ _).alloc (Nat.le_refl _) _
  have hblk : W0.heap[w.heap.size]? = some (.cells #[.slice A fs.length c, .slice A2 ps.length c2, .slice A3 n3 c3] 52 (0, 0)) := by rw [hW0]; exact heap_at _ _ rfl
  have hret : ∀ W, Below W0.heap.size W0 W → RetB true w (.returned (.bool true)) W := fun W h => ⟨rfl, below_to hb0 h⟩
  have hlw : ∀ W, Below W0.heap.size W0 W → W.cell? ⟨w.heap.size, 0, none⟩ = some (.slice A fs.length c) ∧ W.cell? ⟨w.heap.size, 1, none⟩ = some (.slice A2 ps.length c2) ∧ W.cell? ⟨w.heap.size, 2, none⟩ = some (.slice A3 n3 c3) := fun W h =>
    have hb := (h.block _ (blk_lt hblk)).trans hblk
    ⟨cell_blk hb rfl, cell_blk hb rfl, cell_blk hb rfl⟩
  have hla : ∀ W, Below W0.heap.size W0 W → LawAt W A fs A2 ps := fun W h => hL.below (below_to hb0 h)
  have hca : ∀ W, Below W0.heap.size W0 W → Kd.C (Kd.int .i64) W Ac cs.length cs := fun W h => Kd.C_below hC3 (below_to hb0 h)
  have hL2 := hL.g2
  have HB0 := Lib.hid hb0; have HW0 := Lib.hid hW0; have HR := Lib.hid hret; have HLW := Lib.hid hlw; have HLA := Lib.hid hla; have HCA := Lib.hid hca
  have HR0 := Lib.hid (Below.refl W0.heap.size W0)
  clear hb0 hW0 hblk hret hlw hla hca hL hC3
  go_enter Tryz.func6, Tryz.ntmps6
  go_upto_region 1 with (fail)
  rw [← HW0.out]
  clear HW0
  obtain ⟨e0, e1, e2⟩ := HLW.out _ HR0.out
  have HH := Lib.hid (head29 W0)
  go_upto_region 2 with (go_at_call 29; (with_reducible refine HH.out.mono ?_); rintro e W1 ⟨rfl, hb1⟩)
  obtain ⟨e0, e1, e2⟩ := HLW.out _ hb1
  have HF := Lib.hid ((HLA.out _ hb1).few c c2 A3 n3 c3 40)
  go_upto_if 19 with (go_at_call 30; (with_reducible refine HF.out.mono ?_); rintro e W2 ⟨b, rfl, hb2, hfew⟩)
  have hb02 : Below W0.heap.size W0 W2 := below_to hb1 hb2
  have HB02 := Lib.hid hb02
  clear hb02 e0 e1 e2
  cases b with
  | false =>
    clear hfew
    go_wp2
    go_ret
    exact HR.out _ HB02.out
  | true =>
    have hn40 : ps.length ≤ 40 := by have := (hfew rfl).1; omega
    clear hfew
    obtain ⟨e0, e1, e2⟩ := HLW.out _ HB02.out
    have hap := (HLA.out _ HB02.out).applies (by omega) c c2 A3 n3 c3 Ac cs cc (HCA.out _ HB02.out)
    by_cases hE : appE fs ps cs = 0
    · have hfine := fine_of hE
      rw [hE, hfine.l] at hap
      have HAP := Lib.hid hap; have HFI := Lib.hid hfine
      clear hap hfine hE
      go_upto_region 7 with (go_at_call 31; (with_reducible refine HAP.out.mono ?_); rintro e W3 ⟨ov, rfl, hb3, hR3⟩; obtain ⟨Ao, co, hv⟩ := Kd.R_slice hR3; subst hv)
      have hb03 : Below W0.heap.size W0 W3 := below_to HB02.out hb3
      have hCo : Kd.C Kd.string W3 Ao (appIds fs ps cs).length (appIds fs ps cs) := (Kd.R_reads' hR3).2.2
      obtain ⟨ao, hao⟩ : ∃ ao, ao = appIds fs ps cs := ⟨_, rfl⟩
      rw [← hao] at hCo
      rw [← hao]
      have HB03 := Lib.hid hb03; have HCO := Lib.hid hCo; have HAO := Lib.hid hao
      have hol := hCo.2.1
      clear hb03 hCo hao hR3 hb3 e0 e1 e2
      have hany0 : (List.range 0).any (holdsP fs cs ps) = false := rfl
      obtain ⟨e0, e1, e2⟩ := HLW.out _ HB03.out
      go_wp2_with fail
      go_loopw [9, 8] (fun q v Wr => ∃ (k : Nat), k ≤ ps.length ∧ q = .int .i64 k ∧ v = .bool ((List.range k).any (holdsP fs cs ps)) ∧ Below W3.heap.size W3 Wr) (fun q _ _ => ps.length - (intOf q).toNat)
      case atStart => exact ⟨0, Nat.zero_le _, rfl, rfl, Below.refl _ _⟩
      case round =>
        obtain ⟨k, hk, rfl, rfl, hbr⟩ := hrel
        clear e0 e1 e2 hany0
        have hb0r : Below W0.heap.size W0 wr := below_to HB03.out hbr
        obtain ⟨e0, e1, e2⟩ := HLW.out _ hb0r
        have HBR := Lib.hid hbr; have HB0R := Lib.hid hb0r
        clear hbr hb0r
        by_cases hlt : k < ps.length
        · obtain ⟨ad, qs, rfl, hcl, hcK, hc1v, hcells⟩ := nt_cells (HLA.out _ HB0R.out).C2 k hlt
          obtain ⟨A9, c9, A10, c10, q0, q3, q5, q6, q7, q8, q9, q10, l9, g9, l10, g10⟩ := k67_some hcK
          have hgd := hL2 _ (List.getElem_mem hlt)
          have hid0 : ps[k].f0 = idAt ps k := by simp [idAt, hlt]
          have hhk : holdsP fs cs ps k = holdsB fs cs [] ps[k].f5 := by unfold holdsP; simp [hlt]
          have hone := HFI.out.one hlt
          have htwo : ∀ m, m < ps.length → _ := fun m hm => HFI.out.two hlt hm
          have hbl : ∀ W, Below W0.heap.size W0 W → Calls Tryz.prog 33 #[.agg #[.slice A fs.length c, .slice (some ad) ps.length c2, .slice A3 n3 c3], .string (idAt ps k), .slice Ac cs.length cc] W (StrsRet W (blkIds fs ps cs k) 0) := fun W h => by
            have := (HLA.out _ h).blocked (by omega) c c2 A3 n3 c3 (idAt ps k) (by rw [← hid0]; exact hgd.1) Ac cs cc (HCA.out _ h)
            rwa [HFI.out.blkL hlt, HFI.out.blkE hlt] at this
          have hsk1 : (List.range (k + 1)).any (holdsP fs cs ps) = ((List.range k).any (holdsP fs cs ps) || holdsP fs cs ps k) := by rw [List.range_succ, List.any_append]; simp
          have hln : (blkIds fs ps cs k).length ≤ 9223372036854775807 := by
            unfold blkIds
            rw [List.length_map]
            refine Nat.le_trans (List.length_filter_le _ _) ?_
            unfold adjP
            rw [rowsJ_adj ps (tgP ps) hlt]
            have := rowF_len ps (tgP ps) ps.length k
            omega
          rw [hid0] at q0
          rw [← HAO.out] at hone htwo
          have hg5 := hgd.2.2.2.2.2.1
          generalize ps[k] = p at *
          obtain ⟨id, hidd⟩ : ∃ id, id = idAt ps k := ⟨_, rfl⟩
          rw [← hidd] at q0 hone htwo hbl
          obtain ⟨bl, hbld⟩ : ∃ bl, bl = blkIds fs ps cs k := ⟨_, rfl⟩
          rw [← hbld] at hone htwo hbl hln
          obtain ⟨hb, hhb⟩ : ∃ hb, hb = holdsP fs cs ps k := ⟨_, rfl⟩
          rw [← hhb] at hone hsk1 hhk
          have hho : ∀ W, Below wr.heap.size wr W → Calls Tryz.prog 25 #[.agg #[.int .i64 p.f5.f0, .string p.f5.f1, .int .i64 p.f5.f2, .int .i64 p.f5.f3, .slice A9 p.f5.f4.length c9], .agg #[.slice A fs.length c], .slice Ac cs.length cc, .slice none 0 0] W (RetB hb W) := fun W h => by
            have := (HLA.out _ (below_to HB0R.out h)).holds c p.f5 hg5 A9 c9 l9 (Kd.C_below g9 h) Ac cs cc (HCA.out _ (below_to HB0R.out h))
            rwa [← hhk] at this
          have hcs : ∀ (W2 : World), W2.heap[wr.heap.size]? = some (.cells qs.toArray 67 (0, 0)) → ∀ W, Below W2.heap.size W2 W → W.cell? ⟨wr.heap.size, 0, none⟩ = some (.string id) ∧ W.cell? ⟨wr.heap.size, 5, none⟩ = some (.int .i64 p.f5.f0) ∧ W.cell? ⟨wr.heap.size, 6, none⟩ = some (.string p.f5.f1) ∧ W.cell? ⟨wr.heap.size, 7, none⟩ = some (.int .i64 p.f5.f2) ∧ W.cell? ⟨wr.heap.size, 8, none⟩ = some (.int .i64 p.f5.f3) ∧ W.cell? ⟨wr.heap.size, 9, none⟩ = some (.slice A9 p.f5.f4.length c9) := fun W2 h W hb => by
            have hx := (hb.block _ (blk_lt h)).trans h
            exact ⟨cell_blk hx (by simpa using q0), cell_blk hx (by simpa using q5), cell_blk hx (by simpa using q6), cell_blk hx (by simpa using q7), cell_blk hx (by simpa using q8), cell_blk hx (by simpa using q9)⟩
          generalize (List.range k).any (holdsP fs cs ps) = sk at *
          have HCL := Lib.hid (show qs.length = 23 from hcl); have HCE := Lib.hid hcells; have HONE := Lib.hid hc1v; have HCS := Lib.hid hcs; have HBL := Lib.hid hbl; have HHO := Lib.hid hho; have HTWO := Lib.hid htwo; have HSK := Lib.hid hsk1; have HON := Lib.hid hone
          clear hcl hcells hc1v hcK hcs hbl hho htwo hsk1 hone q0 q3 q5 q6 q7 q8 q9 q10 l9 g9 l10 g10 hgd hid0 hhk hg5 hidd hbld hhb
          go_upto_region 12 with (first | ((with_reducible refine gate_dst (N := 46) rfl ?_); refine wp_load_cells rfl 67 _ rfl (ad.add (k * 23)) rfl qs _ Tryz.underlying67 rfl (by rw [HCL.out]; kernel_rfl) HCE.out ?_) | ((with_reducible refine gate_store (t := 67) (p := 10) rfl ?_); refine wp_store_new rfl 67 _ _ rfl rfl _ rfl qs rfl (by rw [HCL.out]; kernel_rfl) (by rw [HCL.out]; kernel_rfl) HONE.out ?_; intro W4 h4 hb4 hs4))
          have HCW := Lib.hid (HCS.out W4 h4)
          have HBR4 := Lib.hid hb4
          have HB4 := Lib.hid (below_to HB0R.out hb4)
          clear h4 hb4 e0 e1 e2
          obtain ⟨e0, e1, e2⟩ := HLW.out _ HB4.out
          obtain ⟨d0, d5, d6, d7, d8, d9⟩ := HCW.out _ (Below.refl _ _)
          go_upto_region 13 with (go_at_call 33; (with_reducible refine (HBL.out _ HB4.out).mono ?_); rintro e W5 ⟨bv, rfl, hb5, hR5⟩; obtain ⟨Ab, cb, hv⟩ := Kd.R_slice hR5; subst hv)
          have hCb : Kd.C Kd.string W5 Ab bl.length bl := (Kd.R_reads' hR5).2.2
          clear d0 d5 d6 d7 d8 d9 e0 e1 e2 hR5
          obtain ⟨d0, d5, d6, d7, d8, d9⟩ := HCW.out _ hb5
          obtain ⟨e0, e1, e2⟩ := HLW.out _ (below_to HB4.out hb5)
          have HB45 := Lib.hid hb5; have HCB := Lib.hid hCb
          clear hb5 hCb
          have HHO5 := Lib.hid (HHO.out _ (below_to HBR4.out HB45.out))
          go_upto_region 14 with (go_at_call 25; (with_reducible refine HHO5.out.mono ?_); rintro e W6 ⟨rfl, hb6⟩)
          clear d0 d5 d6 d7 d8 d9 e0 e1 e2
          have HB46 := Lib.hid (below_to HB45.out hb6); have HCB6 := Lib.hid (Kd.C_below HCB.out hb6)
          have HB06 := Lib.hid (below_to HB4.out HB46.out)
          have HB36 := Lib.hid (below_to HBR.out (below_to HBR4.out HB46.out))
          have HCO6 := Lib.hid (Kd.C_below HCO.out HB36.out)
          obtain ⟨d0, d5, d6, d7, d8, d9⟩ := HCW.out _ HB46.out
          obtain ⟨e0, e1, e2⟩ := HLW.out _ HB06.out
          have HD0 := Lib.hid d0
          clear hb6 d5 d6 d7 d8 d9
          have hin := in39q Ao co ao id W6 HCO6.out
          rw [HON.out] at hin
          obtain ⟨wo, hwo⟩ : ∃ wo, wo = wr := ⟨_, rfl⟩
          subst hwo
          cases hb with
          | false =>
            rw [Bool.false_and] at hin
            have HIN := Lib.hid hin
            clear hin
            cases sk
            all_goals
              go_upto_region 17 with (go_at_call 39; (with_reducible refine HIN.out.mono ?_); rintro e W7 ⟨rfl, rfl⟩)
              clear d0
              go_wp2_with fail
              go_loopw [14] (fun q Wr => ∃ (m : Nat), m ≤ ps.length ∧ q = .int .i64 m ∧ Below W6.heap.size W6 Wr) (fun q _ => ps.length - (intOf q).toNat)
              case atStart => exact ⟨0, Nat.zero_le _, rfl, Below.refl _ _⟩
              case round =>
                obtain ⟨m, hm, rfl, hbm⟩ := hrel
                have HBM := Lib.hid hbm
                have HB0M := Lib.hid (below_to HB06.out hbm)
                clear hbm e0 e1 e2
                obtain ⟨e0, e1, e2⟩ := HLW.out _ HB0M.out
                by_cases hml : m < ps.length
                · obtain ⟨ad2, qs2, had, hcl, hcK, hc1v, hcells⟩ := nt_cells (HLA.out _ HB0M.out).C2 m hml
                  injection had with had
                  subst had
                  obtain ⟨_, _, A10, c10, q0, _, _, _, _, _, _, q10, _, _, l10, g10⟩ := k67_some hcK
                  have hid1 : ps[m].f0 = idAt ps m := by simp [idAt, hml]
                  have hpm : ps.getD m z67 = ps[m] := by simp [hml]
                  have ht := HTWO.out m hml
                  rw [hpm] at ht
                  rw [hid1] at q0
                  have hi1 := fun W => in39d Ab cb bl (idAt ps m) W
                  have hi2 := fun W => in39d Ao co ao (idAt ps m) W
                  have hi3 := fun W => in39d A10 c10 ps[m].f6 id W
                  generalize idAt ps m = idm at *
                  generalize ps[m].f6 = f6m at *
                  generalize ps[m] = pm at *
                  have HCL := Lib.hid (show qs2.length = 23 from hcl); have HCE := Lib.hid hcells; have HONE := Lib.hid hc1v
                  have hcs2 : ∀ (W2 : World), W2.heap[wr.heap.size]? = some (.cells qs2.toArray 67 (0, 0)) → W2.cell? ⟨wr.heap.size, 0, none⟩ = some (.string idm) ∧ W2.cell? ⟨wr.heap.size, 10, none⟩ = some (.slice A10 f6m.length c10) := fun W2 h => ⟨cell_blk h (by simpa using q0), cell_blk h (by simpa using q10)⟩
                  have HCS2 := Lib.hid hcs2; have HI1 := Lib.hid hi1; have HI2 := Lib.hid hi2; have HI3 := Lib.hid hi3; have HG10 := Lib.hid g10
                  have HT := Lib.hid ht
                  clear hcl hcells hc1v hcK hcs2 hi1 hi2 hi3 q0 q10 l10 g10 ht hid1 hpm
                  go_upto_region 21 with (first | ((with_reducible refine gate_dst (N := 91) rfl ?_); refine wp_load_cells rfl 67 _ rfl (ad.add (m * 23)) rfl qs2 _ Tryz.underlying67 rfl (by rw [HCL.out]; kernel_rfl) HCE.out ?_) | ((with_reducible refine gate_store (t := 67) (p := 15) rfl ?_); refine wp_store_new rfl 67 _ _ rfl rfl _ rfl qs2 rfl (by rw [HCL.out]; kernel_rfl) (by rw [HCL.out]; kernel_rfl) HONE.out ?_; intro W8 h8 hb8 hs8))
                  obtain ⟨d20, d210⟩ := HCS2.out W8 h8
                  have d0 := ((below_to HBM.out hb8).cell (World.block_lt_of_cell? _ _ HD0.out)).trans HD0.out
                  have HB8 := Lib.hid (below_to HBM.out hb8)
                  have hc1 := Kd.C_below HCB6.out HB8.out
                  have hc2 := Kd.C_below HCO6.out HB8.out
                  have hc3 := Kd.C_below HG10.out hb8
                  clear e0 e1 e2 h8 hb8
                  have ht := HT.out
                  cases hx2 : hasS ao idm with
                  | false =>
                    rw [hx2, Bool.false_and] at ht
                    have HC1 := Lib.hid (HI1.out W8 hc1 ht); have HC2 := Lib.hid (HI2.out W8 hc2 hx2)
                    clear hc1 hc2 hc3 ht hx2
                    go_quiet ((go_at_call 39; first | (with_reducible exact Calls.quiet_of_same (HC1.out _)) | (with_reducible exact Calls.quiet_of_same (HC2.out _))))
                    go_wp2_with fail
                    go_roundw
                    case rel => exact ⟨m + 1, by omega, by go_num, pw_below_drewN HB8.out _⟩
                    case measure => simp [intOf]; omega
                  | true =>
                    rw [hx2, Bool.true_and] at ht
                    cases hx3 : hasS f6m id with
                    | false =>
                      rw [hx3] at ht
                      have HC1 := Lib.hid (HI1.out W8 hc1 ht); have HC2 := Lib.hid (HI2.out W8 hc2 hx2); have HC3 := Lib.hid (HI3.out W8 hc3 hx3)
                      clear hc1 hc2 hc3 ht hx2 hx3
                      go_quiet ((go_at_call 39; first | (with_reducible exact Calls.quiet_of_same (HC1.out _)) | (with_reducible exact Calls.quiet_of_same (HC2.out _)) | (with_reducible exact Calls.quiet_of_same (HC3.out _))))
                      go_wp2_with fail
                      go_roundw
                      case rel => exact ⟨m + 1, by omega, by go_num, pw_below_drewN HB8.out _⟩
                      case measure => simp [intOf]; omega
                    | true =>
                      rw [hx3] at ht
                      have HC1 := Lib.hid (HI1.out W8 hc1 ht); have HC2 := Lib.hid (HI2.out W8 hc2 hx2); have HC3 := Lib.hid (HI3.out W8 hc3 hx3)
                      clear hc1 hc2 hc3 ht hx2 hx3
                      go_quiet ((go_at_call 39; first | (with_reducible exact Calls.quiet_of_same (HC1.out _)) | (with_reducible exact Calls.quiet_of_same (HC2.out _)) | (with_reducible exact Calls.quiet_of_same (HC3.out _))))
                      go_wp2_with fail
                      go_roundw
                      case rel => exact ⟨m + 1, by omega, by go_num, pw_below_drewN HB8.out _⟩
                      case measure => simp [intOf]; omega
                · obtain rfl : m = ps.length := by omega
                  go_wp2_with fail
                  go_roundw
                  case rel => exact ⟨k + 1, by omega, by go_num, by rw [HSK.out]; rfl, below_to HB36.out HBM.out⟩
                  case measure => simp [intOf]; omega
          | true =>
            rw [Bool.true_and] at hin
            by_cases hz : bl.length = 0
            · rw [decide_eq_true hz] at hin
              have hzz : ((bl.length : Int) == 0) = true := by simp [hz]
              have HIN := Lib.hid hin
              clear hin hz
              cases sk
              all_goals
                go_upto_region 17 with (go_at_call 39; (with_reducible refine HIN.out.mono ?_); rintro e W7 ⟨rfl, rfl⟩)
                clear d0
                go_wp2_with fail
                go_loopw [14] (fun q Wr => ∃ (m : Nat), m ≤ ps.length ∧ q = .int .i64 m ∧ Below W6.heap.size W6 Wr) (fun q _ => ps.length - (intOf q).toNat)
                case atStart => exact ⟨0, Nat.zero_le _, rfl, Below.refl _ _⟩
                case round =>
                  obtain ⟨m, hm, rfl, hbm⟩ := hrel
                  have HBM := Lib.hid hbm
                  have HB0M := Lib.hid (below_to HB06.out hbm)
                  clear hbm e0 e1 e2
                  obtain ⟨e0, e1, e2⟩ := HLW.out _ HB0M.out
                  by_cases hml : m < ps.length
                  · obtain ⟨ad2, qs2, had, hcl, hcK, hc1v, hcells⟩ := nt_cells (HLA.out _ HB0M.out).C2 m hml
                    injection had with had
                    subst had
                    obtain ⟨_, _, A10, c10, q0, _, _, _, _, _, _, q10, _, _, l10, g10⟩ := k67_some hcK
                    have hid1 : ps[m].f0 = idAt ps m := by simp [idAt, hml]
                    have hpm : ps.getD m z67 = ps[m] := by simp [hml]
                    have ht := HTWO.out m hml
                    rw [hpm] at ht
                    rw [hid1] at q0
                    have hi1 := fun W => in39d Ab cb bl (idAt ps m) W
                    have hi2 := fun W => in39d Ao co ao (idAt ps m) W
                    have hi3 := fun W => in39d A10 c10 ps[m].f6 id W
                    generalize idAt ps m = idm at *
                    generalize ps[m].f6 = f6m at *
                    generalize ps[m] = pm at *
                    have HCL := Lib.hid (show qs2.length = 23 from hcl); have HCE := Lib.hid hcells; have HONE := Lib.hid hc1v
                    have hcs2 : ∀ (W2 : World), W2.heap[wr.heap.size]? = some (.cells qs2.toArray 67 (0, 0)) → W2.cell? ⟨wr.heap.size, 0, none⟩ = some (.string idm) ∧ W2.cell? ⟨wr.heap.size, 10, none⟩ = some (.slice A10 f6m.length c10) := fun W2 h => ⟨cell_blk h (by simpa using q0), cell_blk h (by simpa using q10)⟩
                    have HCS2 := Lib.hid hcs2; have HI1 := Lib.hid hi1; have HI2 := Lib.hid hi2; have HI3 := Lib.hid hi3; have HG10 := Lib.hid g10
                    have HT := Lib.hid ht
                    clear hcl hcells hc1v hcK hcs2 hi1 hi2 hi3 q0 q10 l10 g10 ht hid1 hpm
                    go_upto_region 21 with (first | ((with_reducible refine gate_dst (N := 91) rfl ?_); refine wp_load_cells rfl 67 _ rfl (ad.add (m * 23)) rfl qs2 _ Tryz.underlying67 rfl (by rw [HCL.out]; kernel_rfl) HCE.out ?_) | ((with_reducible refine gate_store (t := 67) (p := 15) rfl ?_); refine wp_store_new rfl 67 _ _ rfl rfl _ rfl qs2 rfl (by rw [HCL.out]; kernel_rfl) (by rw [HCL.out]; kernel_rfl) HONE.out ?_; intro W8 h8 hb8 hs8))
                    obtain ⟨d20, d210⟩ := HCS2.out W8 h8
                    have d0 := ((below_to HBM.out hb8).cell (World.block_lt_of_cell? _ _ HD0.out)).trans HD0.out
                    have HB8 := Lib.hid (below_to HBM.out hb8)
                    have hc1 := Kd.C_below HCB6.out HB8.out
                    have hc2 := Kd.C_below HCO6.out HB8.out
                    have hc3 := Kd.C_below HG10.out hb8
                    clear e0 e1 e2 h8 hb8
                    have ht := HT.out
                    cases hx2 : hasS ao idm with
                    | false =>
                      rw [hx2, Bool.false_and] at ht
                      have HC1 := Lib.hid (HI1.out W8 hc1 ht); have HC2 := Lib.hid (HI2.out W8 hc2 hx2)
                      clear hc1 hc2 hc3 ht hx2
                      go_quiet ((go_at_call 39; first | (with_reducible exact Calls.quiet_of_same (HC1.out _)) | (with_reducible exact Calls.quiet_of_same (HC2.out _))))
                      go_wp2_with fail
                      go_roundw
                      case rel => exact ⟨m + 1, by omega, by go_num, pw_below_drewN HB8.out _⟩
                      case measure => simp [intOf]; omega
                    | true =>
                      rw [hx2, Bool.true_and] at ht
                      cases hx3 : hasS f6m id with
                      | false =>
                        rw [hx3] at ht
                        have HC1 := Lib.hid (HI1.out W8 hc1 ht); have HC2 := Lib.hid (HI2.out W8 hc2 hx2); have HC3 := Lib.hid (HI3.out W8 hc3 hx3)
                        clear hc1 hc2 hc3 ht hx2 hx3
                        go_quiet ((go_at_call 39; first | (with_reducible exact Calls.quiet_of_same (HC1.out _)) | (with_reducible exact Calls.quiet_of_same (HC2.out _)) | (with_reducible exact Calls.quiet_of_same (HC3.out _))))
                        go_wp2_with fail
                        go_roundw
                        case rel => exact ⟨m + 1, by omega, by go_num, pw_below_drewN HB8.out _⟩
                        case measure => simp [intOf]; omega
                      | true =>
                        rw [hx3] at ht
                        have HC1 := Lib.hid (HI1.out W8 hc1 ht); have HC2 := Lib.hid (HI2.out W8 hc2 hx2); have HC3 := Lib.hid (HI3.out W8 hc3 hx3)
                        clear hc1 hc2 hc3 ht hx2 hx3
                        go_quiet ((go_at_call 39; first | (with_reducible exact Calls.quiet_of_same (HC1.out _)) | (with_reducible exact Calls.quiet_of_same (HC2.out _)) | (with_reducible exact Calls.quiet_of_same (HC3.out _))))
                        go_wp2_with fail
                        go_roundw
                        case rel => exact ⟨m + 1, by omega, by go_num, pw_below_drewN HB8.out _⟩
                        case measure => simp [intOf]; omega
                  · obtain rfl : m = ps.length := by omega
                    go_wp2_with fail
                    go_roundw
                    case rel => exact ⟨k + 1, by omega, by go_num, by rw [HSK.out]; rfl, below_to HB36.out HBM.out⟩
                    case measure => simp [intOf]; omega
            · rw [decide_eq_false hz] at hin
              have hzz : ((bl.length : Int) == 0) = false := by simpa using hz
              have HIN := Lib.hid hin
              clear hin hz
              cases sk
              all_goals
                go_upto_region 17 with (go_at_call 39; (with_reducible refine HIN.out.mono ?_); rintro e W7 ⟨rfl, rfl⟩)
                clear d0
                go_wp2_with fail
                go_loopw [14] (fun q Wr => ∃ (m : Nat), m ≤ ps.length ∧ q = .int .i64 m ∧ Below W6.heap.size W6 Wr) (fun q _ => ps.length - (intOf q).toNat)
                case atStart => exact ⟨0, Nat.zero_le _, rfl, Below.refl _ _⟩
                case round =>
                  obtain ⟨m, hm, rfl, hbm⟩ := hrel
                  have HBM := Lib.hid hbm
                  have HB0M := Lib.hid (below_to HB06.out hbm)
                  clear hbm e0 e1 e2
                  obtain ⟨e0, e1, e2⟩ := HLW.out _ HB0M.out
                  by_cases hml : m < ps.length
                  · obtain ⟨ad2, qs2, had, hcl, hcK, hc1v, hcells⟩ := nt_cells (HLA.out _ HB0M.out).C2 m hml
                    injection had with had
                    subst had
                    obtain ⟨_, _, A10, c10, q0, _, _, _, _, _, _, q10, _, _, l10, g10⟩ := k67_some hcK
                    have hid1 : ps[m].f0 = idAt ps m := by simp [idAt, hml]
                    have hpm : ps.getD m z67 = ps[m] := by simp [hml]
                    have ht := HTWO.out m hml
                    rw [hpm] at ht
                    rw [hid1] at q0
                    have hi1 := fun W => in39d Ab cb bl (idAt ps m) W
                    have hi2 := fun W => in39d Ao co ao (idAt ps m) W
                    have hi3 := fun W => in39d A10 c10 ps[m].f6 id W
                    generalize idAt ps m = idm at *
                    generalize ps[m].f6 = f6m at *
                    generalize ps[m] = pm at *
                    have HCL := Lib.hid (show qs2.length = 23 from hcl); have HCE := Lib.hid hcells; have HONE := Lib.hid hc1v
                    have hcs2 : ∀ (W2 : World), W2.heap[wr.heap.size]? = some (.cells qs2.toArray 67 (0, 0)) → W2.cell? ⟨wr.heap.size, 0, none⟩ = some (.string idm) ∧ W2.cell? ⟨wr.heap.size, 10, none⟩ = some (.slice A10 f6m.length c10) := fun W2 h => ⟨cell_blk h (by simpa using q0), cell_blk h (by simpa using q10)⟩
                    have HCS2 := Lib.hid hcs2; have HI1 := Lib.hid hi1; have HI2 := Lib.hid hi2; have HI3 := Lib.hid hi3; have HG10 := Lib.hid g10
                    have HT := Lib.hid ht
                    clear hcl hcells hc1v hcK hcs2 hi1 hi2 hi3 q0 q10 l10 g10 ht hid1 hpm
                    go_upto_region 21 with (first | ((with_reducible refine gate_dst (N := 91) rfl ?_); refine wp_load_cells rfl 67 _ rfl (ad.add (m * 23)) rfl qs2 _ Tryz.underlying67 rfl (by rw [HCL.out]; kernel_rfl) HCE.out ?_) | ((with_reducible refine gate_store (t := 67) (p := 15) rfl ?_); refine wp_store_new rfl 67 _ _ rfl rfl _ rfl qs2 rfl (by rw [HCL.out]; kernel_rfl) (by rw [HCL.out]; kernel_rfl) HONE.out ?_; intro W8 h8 hb8 hs8))
                    obtain ⟨d20, d210⟩ := HCS2.out W8 h8
                    have d0 := ((below_to HBM.out hb8).cell (World.block_lt_of_cell? _ _ HD0.out)).trans HD0.out
                    have HB8 := Lib.hid (below_to HBM.out hb8)
                    have hc1 := Kd.C_below HCB6.out HB8.out
                    have hc2 := Kd.C_below HCO6.out HB8.out
                    have hc3 := Kd.C_below HG10.out hb8
                    clear e0 e1 e2 h8 hb8
                    have ht := HT.out
                    cases hx2 : hasS ao idm with
                    | false =>
                      rw [hx2, Bool.false_and] at ht
                      have HC1 := Lib.hid (HI1.out W8 hc1 ht); have HC2 := Lib.hid (HI2.out W8 hc2 hx2)
                      clear hc1 hc2 hc3 ht hx2
                      go_quiet ((go_at_call 39; first | (with_reducible exact Calls.quiet_of_same (HC1.out _)) | (with_reducible exact Calls.quiet_of_same (HC2.out _))))
                      go_wp2_with fail
                      go_roundw
                      case rel => exact ⟨m + 1, by omega, by go_num, pw_below_drewN HB8.out _⟩
                      case measure => simp [intOf]; omega
                    | true =>
                      rw [hx2, Bool.true_and] at ht
                      cases hx3 : hasS f6m id with
                      | false =>
                        rw [hx3] at ht
                        have HC1 := Lib.hid (HI1.out W8 hc1 ht); have HC2 := Lib.hid (HI2.out W8 hc2 hx2); have HC3 := Lib.hid (HI3.out W8 hc3 hx3)
                        clear hc1 hc2 hc3 ht hx2 hx3
                        go_quiet ((go_at_call 39; first | (with_reducible exact Calls.quiet_of_same (HC1.out _)) | (with_reducible exact Calls.quiet_of_same (HC2.out _)) | (with_reducible exact Calls.quiet_of_same (HC3.out _))))
                        go_wp2_with fail
                        go_roundw
                        case rel => exact ⟨m + 1, by omega, by go_num, pw_below_drewN HB8.out _⟩
                        case measure => simp [intOf]; omega
                      | true =>
                        rw [hx3] at ht
                        have HC1 := Lib.hid (HI1.out W8 hc1 ht); have HC2 := Lib.hid (HI2.out W8 hc2 hx2); have HC3 := Lib.hid (HI3.out W8 hc3 hx3)
                        clear hc1 hc2 hc3 ht hx2 hx3
                        go_quiet ((go_at_call 39; first | (with_reducible exact Calls.quiet_of_same (HC1.out _)) | (with_reducible exact Calls.quiet_of_same (HC2.out _)) | (with_reducible exact Calls.quiet_of_same (HC3.out _))))
                        go_wp2_with fail
                        go_roundw
                        case rel => exact ⟨m + 1, by omega, by go_num, pw_below_drewN HB8.out _⟩
                        case measure => simp [intOf]; omega
                  · obtain rfl : m = ps.length := by omega
                    go_wp2_with fail
                    go_roundw
                    case rel => exact ⟨k + 1, by omega, by go_num, by rw [HSK.out]; rfl, below_to HB36.out HBM.out⟩
                    case measure => simp [intOf]; omega
        · obtain rfl : k = ps.length := by omega
          have hsm := HFI.out.some
          rw [← HAO.out] at hsm
          rw [hsm]
          have HRX := Lib.hid (HR.out wr HB0R.out)
          clear hsm
          by_cases hpos : (0 : Int) < (ao.length : Int)
          · have hd : decide (0 < ao.length) = true := decide_eq_true (by omega)
            rw [hd]
            go_wp2_with fail
            go_ret
            exact HRX.out
          · have hd : decide (0 < ao.length) = false := decide_eq_false (by omega)
            rw [hd]
            go_wp2_with fail
            go_ret
            exact HRX.out
    · have hL0 : appL fs ps cs = [] := by unfold appL; rw [if_neg hE]
      rw [hL0] at hap
      obtain ⟨er, her⟩ : ∃ er, er = appE fs ps cs := ⟨_, rfl⟩
      rw [← her] at hap
      have hne : (er != 0) = true := by rw [her]; simpa using hE
      have HAP := Lib.hid hap
      clear hap hL0 her hE
      go_wp2_with (go_at_call 31; (with_reducible refine HAP.out.mono ?_); rintro e W3 ⟨ov, rfl, hb3, hR3⟩; obtain ⟨Ao, co, hv⟩ := Kd.R_slice hR3; subst hv; rw [List.length_nil])
      go_ret
      exact HR.out _ (below_to HB02.out hb3)
end Go.Proofs.YtaigepddkgpplaaGreatDoor.M

