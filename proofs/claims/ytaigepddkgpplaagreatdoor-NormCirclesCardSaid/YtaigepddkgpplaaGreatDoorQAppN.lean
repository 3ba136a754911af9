/- norm.Applies and norm.Blocked. -/
import Derived.Test.YtaigepddkgpplaaGreatDoorQAsk
namespace Go.Proofs.YtaigepddkgpplaaGreatDoor.M
open Go Go.RowKit Go.Maps Go.WideMaps Go.Proofs.YtaigepddkgpplaaGreatDoorW.PrintWords Go.Proofs.YtaigepddkgpplaaGreatDoorW.PrintLast Go.Proofs.YtaigepddkgpplaaGreatDoorW.PrintMore Go.Proofs.YtaigepddkgpplaaGreatDoor.B Go.Proofs.YtaigepddkgpplaaGreatDoor.T
set_option linter.unusedVariables false
set_option linter.unusedSimpArgs false

open Classical in
/-- the error of a law and a case -/
noncomputable def appE (fs : List S110) (ps : List S67) (cs : List Int) : Int := if argBad fs ps cs = true then 1 else if Acyc (adjP ps) ps.length then 0 else 13
/-- a provision applies -/
def apB (fs : List S110) (ps : List S67) (cs : List Int) (i : Nat) : Bool := appB (adjP ps) (holdsP fs cs ps) ps.length i
def idAt (ps : List S67) (i : Nat) : ByteArray := (ps.getD i z67).f0
/-- the Ids of those of the first k that apply -/
def appK (fs : List S110) (ps : List S67) (cs : List Int) (k : Nat) : List ByteArray := ((List.range k).filter (apB fs ps cs)).map (idAt ps)
theorem appK_len (fs : List S110) (ps : List S67) (cs : List Int) (k : Nat) : (appK fs ps cs k).length ≤ k := by
  unfold appK
  rw [List.length_map]
  have := List.length_filter_le (apB fs ps cs) (List.range k)
  simpa using this
theorem appK_succ (fs : List S110) (ps : List S67) (cs : List Int) (k : Nat) : appK fs ps cs (k + 1) = appK fs ps cs k ++ (if apB fs ps cs k then [idAt ps k] else []) := by
  unfold appK
  rw [List.range_succ, List.filter_append, List.map_append]
  cases h : apB fs ps cs k <;> simp [List.filter_cons, h]
/-- the Ids of those that apply -/
def appIds (fs : List S110) (ps : List S67) (cs : List Int) : List ByteArray := ((List.range ps.length).filter (apB fs ps cs)).map (idAt ps)
noncomputable def appL (fs : List S110) (ps : List S67) (cs : List Int) : List ByteArray := if appE fs ps cs = 0 then appIds fs ps cs else []
/-- what keeps one from applying -/
noncomputable def blkE (fs : List S110) (ps : List S67) (cs : List Int) (id : ByteArray) : Int := if appE fs ps cs = 0 then (if (tgP ps id).isSome then 0 else 11) else appE fs ps cs
noncomputable def blkL (fs : List S110) (ps : List S67) (cs : List Int) (id : ByteArray) : List ByteArray :=
  if appE fs ps cs = 0 then (match tgP ps id with | some i => ((adjP ps i).filter (apB fs ps cs)).map (idAt ps) | none => []) else []
/-- a list of texts and an error -/
def StrsRet (w : World) (L : List ByteArray) (er : Int) (e : Ending) (W : World) : Prop :=
  ∃ ov, e = .returned (.tuple #[ov, .int .i64 er]) ∧ Below w.heap.size w W ∧ Kd.string.R 9 W w.heap.size (fun _ => True) ov L
theorem AskRet.form {w : World} {A : Option Addr} {fs : List S110} {c : Nat} {A2 : Option Addr} {ps : List S67} {c2 : Nat} {A3 : Option Addr} {n3 c3 : Nat} {Ac : Option Addr} {cs : List Int} {cc : Nat} {e : Ending} {W : World} (h : AskRet w A fs c A2 ps c2 A3 n3 c3 Ac cs cc e W) :
    ∃ av er, e = .returned (.tuple #[av, .int .i64 er]) := by
  rcases h with ⟨_, h, _⟩ | ⟨_, _, h, _⟩ | ⟨_, _, W1, bn, bm, bs, base, ba, bk, vs, f, m, h, _⟩
  · exact ⟨_, _, h⟩
  · exact ⟨_, _, h⟩
  · exact ⟨_, _, h⟩
theorem JA.low {W1 : World} {Ac : Option Addr} {ncs cc bn ba bk n : Nat} {Ab : Nat → Bool} {W W' W2 : World} {H : Nat} (h : JA W1 Ac ncs cc bn ba bk n Ab W W') (hb : Below H W' W2) (h0 : W1.heap.size ≤ H) (hH : H = W.heap.size) (h1 : ba < H) (h2 : bk < H) : JA W1 Ac ncs cc bn ba bk n Ab W W2 := by
  subst hH
  obtain ⟨⟨D, hD⟩, hk⟩ := h
  exact ⟨⟨D, hD.below.trans (hb.mono h0), (hb.block ba h1).trans hD.ask, hD.known.of_block (hb.block bk h2)⟩, ⟨hb.os.trans hk.os, hb.tape.trans hk.tape, hb.output.trans hk.output, Nat.le_trans hk.size hb.size, fun k hlt hn => (hb.block k hlt).trans (hk.block k hlt hn)⟩⟩
theorem ret_inj {a b : Value} {x y : Int} (h : Ending.returned (.tuple #[a, .int .i64 x]) = .returned (.tuple #[b, .int .i64 y])) : a = b ∧ x = y := by
  injection h with h
  injection h with h
  have h := congrArg Array.toList h
  simp at h
  exact h
set_option maxRecDepth 100000 in
set_option maxHeartbeats 2000000 in
theorem Applies_calls (A : Option Addr) (fs : List S110) (c : Nat) (A2 : Option Addr) (ps : List S67) (c2 : Nat) (A3 : Option Addr) (n3 c3 : Nat) (Ac : Option Addr) (cs : List Int) (cc : Nat) (w : World) (hC1 : Kd.C k110 w A fs.length fs) (hC2 : Kd.C k67 w A2 ps.length ps) (hC3 : Kd.C (Kd.int .i64) w Ac cs.length cs)
    (hn : ps.length ≤ 1048576) (hid : ∀ p ∈ ps, p.f0.size ≤ maxLen ∧ ∀ s ∈ p.f6, s.size ≤ maxLen) (hsz : ∀ x ∈ fs, x.f0.size ≤ maxLen) (hstr : ∀ p ∈ ps, strOk p.f5) :
    Calls Tryz.prog 31 #[.agg #[.slice A fs.length c, .slice A2 ps.length c2, .slice A3 n3 c3], .slice Ac cs.length cc] w (StrsRet w (appL fs ps cs) (appE fs ps cs)) := by
  obtain ⟨W0, hW0⟩ : ∃ W0, W0 = (w.alloc (.cells #[.slice A fs.length c, .slice A2 ps.length c2, .slice A3 n3 c3] 52 (0, 0))) := ⟨_, rfl⟩
  have hb0 : Below w.heap.size w W0 := by rw [hW0]; exact (Below.refl _ _).alloc (Nat.le_refl _) _
  have hask := ask_calls A fs c A2 ps c2 A3 n3 c3 Ac cs cc W0 (Kd.C_below hC1 hb0) (Kd.C_below hC2 hb0) (Kd.C_below hC3 hb0) hn hid hsz hstr
  have hl1 : W0.cell? ⟨w.heap.size, 1, none⟩ = some (.slice A2 ps.length c2) := by rw [hW0]; exact cell_blk (heap_at _ _ rfl) rfl
  have HB0 := Lib.hid hb0; have HASK := Lib.hid hask; have HW0 := Lib.hid hW0; have HL1 := Lib.hid hl1
  have HC1 := Lib.hid hC1; have HC2 := Lib.hid hC2; have HC3 := Lib.hid hC3; have HID := Lib.hid hid; have HSZ := Lib.hid hsz; have HSTR := Lib.hid hstr
  clear hb0 hask hW0 hl1 hC1 hC2 hC3 hid hsz hstr
  go_enter Tryz.func31, Tryz.ntmps31
  go_upto_region 2 with (go_at_call 87; (with_reducible refine (HW0.out ▸ HASK.out).mono ?_); rintro e Wa hA; obtain ⟨av, er, rfl⟩ := AskRet.form hA; replace hA := Lib.hid hA)
  rw [← HW0.out] at hA
  rcases hA.out with ⟨hbd, he, hb⟩ | ⟨hbd, hna, he, hb⟩ | ⟨hbd, hac, W1, bn, bm, bs, base, ba, bk, vs, f, m, he, hat, hkn, hmp, hatf, hnd, hbl⟩
  · obtain ⟨rfl, rfl⟩ := ret_inj he
    have hE : appE fs ps cs = 1 := by unfold appE; rw [if_pos hbd]
    have hL : appL fs ps cs = [] := by unfold appL; rw [hE]; rfl
    have hret : ∀ W, Below W0.heap.size W0 W → StrsRet w (appL fs ps cs) (appE fs ps cs) (.returned (.tuple #[.slice none 0 0, .int .i64 1])) W := fun W h => by rw [hE, hL]; exact ⟨_, rfl, below_to HB0.out h, Kd.R_nil _ _ _ _ _⟩
    have HR := Lib.hid hret; have HB := Lib.hid hb
    clear hret hE hL hbd he hA hb
    go_wp2_with fail
    go_ret2
    exact HR.out _ HB.out
  · obtain ⟨rfl, rfl⟩ := ret_inj he
    have hE : appE fs ps cs = 13 := by unfold appE; rw [if_neg (by simp [hbd]), if_neg hna]
    have hL : appL fs ps cs = [] := by unfold appL; rw [hE]; rfl
    have hret : ∀ W, Below W0.heap.size W0 W → StrsRet w (appL fs ps cs) (appE fs ps cs) (.returned (.tuple #[.slice none 0 0, .int .i64 13])) W := fun W h => by rw [hE, hL]; exact ⟨_, rfl, below_to HB0.out h, Kd.R_nil _ _ _ _ _⟩
    have HR := Lib.hid hret; have HB := Lib.hid hb
    clear hret hE hL hbd he hA hb hna
    go_wp2_with fail
    go_ret2
    exact HR.out _ HB.out
  · obtain ⟨rfl, rfl⟩ := ret_inj he
    have hE : appE fs ps cs = 0 := by unfold appE; rw [if_neg (by simp [hbd]), if_pos hac]
    have hL : appL fs ps cs = appIds fs ps cs := by unfold appL; rw [hE]; rfl
    obtain ⟨Ab, hAb⟩ : ∃ Ab, Ab = apB fs ps cs := ⟨_, rfl⟩
    have hA1 : ∀ v, v < ps.length → Ab v = (holdsP fs cs ps v && !(adjL (rowsJ ps (tgP ps) ps.length 0) v).any Ab) := fun v hv => by rw [hAb]; exact appB_eq (adjP_lt ps) hac (holdsP fs cs ps) v
    have hk0 := hkn Ab
    have hJ0 : JA W1 Ac cs.length cc bn ba bk ps.length Ab Wa Wa := ⟨⟨_, hk0⟩, Keep.refl _ _⟩
    have hap : ∀ i, i < ps.length → ∀ W', JA W1 Ac cs.length cc bn ba bk ps.length Ab Wa W' → Calls Tryz.prog 88 #[.pointer (some ⟨ba, 0, none⟩), .int .i64 (i : Int)] W' (AppRet W1 Ac cs.length cc bn ba bk ps.length Ab (Ab i) W') := fun i hi W' h => by
      obtain ⟨D, hD⟩ := h.kn
      exact applies88 hat hA1 _ i hi (Nat.lt_succ_self _) D W' hD
    have hC67 : ∀ W', JA W1 Ac cs.length cc bn ba bk ps.length Ab Wa W' → Kd.C k67 W' A2 ps.length ps := fun W' h => by
      obtain ⟨D, hD⟩ := h.kn
      exact Kd.C_below hat.C2 hD.below
    have hbw : ∀ W', JA W1 Ac cs.length cc bn ba bk ps.length Ab Wa W' → Below w.heap.size w W' := fun W' h => by
      obtain ⟨D, hD⟩ := h.kn
      exact below_to (below_to HB0.out hbl) hD.below
    obtain ⟨H, hH⟩ : ∃ H, H = Wa.heap.size := ⟨_, rfl⟩
    have hba : ba < H := hH ▸ blk_lt hk0.ask
    have hbk' : bk < H := hH ▸ hk0.known.lt
    have h0 : W1.heap.size ≤ H := hH ▸ hk0.below.size
    have hw1 : w.heap.size ≤ H := by have := (below_to HB0.out hbl).size; omega
    have hcl1 : Wa.cell? ⟨w.heap.size, 1, none⟩ = some (.slice A2 ps.length c2) := ((below_to hbl hk0.below).cell (World.block_lt_of_cell? _ _ HL1.out)).trans HL1.out
    have hidA : ∀ i, i < ps.length → (idAt ps i).size ≤ maxLen := fun i hi => by unfold idAt; rw [show ps.getD i z67 = ps[i] from by simp [hi]]; exact (HID.out _ (List.getElem_mem hi)).1
    have HJ0 := Lib.hid hJ0; have HAP := Lib.hid hap; have HC67 := Lib.hid hC67; have HBW := Lib.hid hbw; have HHH := Lib.hid hH; have HAB := Lib.hid hAb; have HEE := Lib.hid hE; have HLL := Lib.hid hL; have HIDA := Lib.hid hidA
    clear hJ0 hap hC67 hbw hH hAb hE hL hA1 hk0 hkn hat hmp hatf hbl hac hA he hbd hidA
    go_wp2_with fail
    go_loopw [23, 8] (fun q v Wr => ∃ (k : Nat), k ≤ ps.length ∧ q = .int .i64 k ∧ JA W1 Ac cs.length cc bn ba bk ps.length Ab Wa Wr ∧ Kd.string.R 9 Wr H (fun _ => True) v (appK fs ps cs k)) (fun q _ _ => ps.length - (intOf q).toNat)
    case atStart => exact ⟨0, Nat.zero_le _, rfl, HJ0.out, Kd.R_nil _ _ _ _ _⟩
    case round =>
      obtain ⟨k, hk, rfl, hJr, hRr⟩ := hrel
      obtain ⟨Av, cv, hv⟩ := Kd.R_slice hRr
      have hlen := appK_len fs ps cs k
      generalize (appK fs ps cs k).length = lv at hv hlen
      subst hv
      have HJR := Lib.hid hJr; have HRR := Lib.hid hRr
      clear hJr hRr
      by_cases hlt : k < ps.length
      · obtain ⟨ad, qs, rfl, hcl, hcK, hc1v, hcells⟩ := nt_cells (HC67.out wr HJR.out) k hlt
        have h0s : qs[0]? = some (.string (idAt ps k)) := by
          obtain ⟨A9, c9, A10, c10, A14, c14, A18, c18, A22, c22, rfl, _⟩ := k67_open hcK
          simp [idAt, hlt]
        have hap := HAP.out k hlt
        have hnx := appK_succ fs ps cs k
        rw [← HAB.out] at hnx
        generalize idAt ps k = s at h0s hnx
        have HCL := Lib.hid (show qs.length = 23 from hcl); have HCE := Lib.hid hcells; have HONE := Lib.hid hc1v; have H0S := Lib.hid h0s
        clear hcl hcells hc1v hcK h0s
        have HAPK := Lib.hid hap
        clear hap
        cases hbk : Ab k with
        | false =>
          rw [hbk] at HAPK hnx
          simp only [Bool.false_eq_true, if_false, List.append_nil] at hnx
          have HNX := Lib.hid hnx
          clear hnx hbk
          go_wp2_with (first | ((with_reducible refine gate_dst (N := 27) rfl ?_); refine wp_load_cells rfl 67 _ rfl (ad.add (k * 23)) rfl qs _ Tryz.underlying67 rfl (by rw [HCL.out]; kernel_rfl) HCE.out ?_) | ((with_reducible refine gate_store (t := 67) (p := 10) rfl ?_); refine wp_store_new rfl 67 _ _ rfl rfl _ rfl qs rfl (by rw [HCL.out]; kernel_rfl) (by rw [HCL.out]; kernel_rfl) HONE.out ?_; intro W2 h2 hb2 hs2; have hJ2 := Lib.hid (HJR.out.below hb2)) | (go_at_call 88; (with_reducible refine (HAPK.out _ hJ2.out).mono ?_); rintro e W3 ⟨rfl, hJ3⟩))
          go_roundw
          case rel =>
            refine ⟨k + 1, by omega, by go_num, hJ2.out.trans hJ3, ?_⟩
            rw [HNX.out]
            exact R_hi (Kd.R_below HRR.out hb2) (fun q hq hlt' => hJ3.keep.block q hlt' (by omega))
          case measure => simp [intOf]; omega
        | true =>
          rw [hbk] at HAPK hnx
          simp only [if_true] at hnx
          have HNX := Lib.hid hnx
          clear hnx hbk
          have hq3 : ((appK fs ps cs k).length + 1) * 16 ≤ 140737488355328 := by have := appK_len fs ps cs k; omega
          have HQ3 := Lib.hid hq3
          clear hq3
          go_wp2_with (first | ((with_reducible refine gate_dst (N := 27) rfl ?_); refine wp_load_cells rfl 67 _ rfl (ad.add (k * 23)) rfl qs _ Tryz.underlying67 rfl (by rw [HCL.out]; kernel_rfl) HCE.out ?_) | ((with_reducible refine gate_store (t := 67) (p := 10) rfl ?_); refine wp_store_new rfl 67 _ _ rfl rfl _ rfl qs rfl (by rw [HCL.out]; kernel_rfl) (by rw [HCL.out]; kernel_rfl) HONE.out ?_; intro W2 h2 hb2 hs2; have d2 : W2.cell? ⟨wr.heap.size, 0, none⟩ = some (.string s) := cell_blk h2 (by simpa using H0S.out); have hJ2 := Lib.hid (HJR.out.below hb2)) | (go_at_call 88; (with_reducible refine (HAPK.out _ hJ2.out).mono ?_); rintro e W3 ⟨rfl, hJ3⟩; have d3 : W3.cell? ⟨wr.heap.size, 0, none⟩ = some (.string s) := (hJ3.keep.cell (World.block_lt_of_cell? _ _ d2) (fun e => by have := HJR.out.keep.size; have := HHH.out; simp at e; omega)).trans d2; have HJ3 := Lib.hid (hJ2.out.trans hJ3); have HR3 := Lib.hid (R_hi (Kd.R_below HRR.out hb2) (fun q hq hlt' => hJ3.keep.block q hlt' (by omega))); have HS3 := Lib.hid (show H ≤ W3.heap.size from by have := HJ3.out.keep.size; have := HHH.out; omega)) | ((with_reducible refine gate_dst (N := 35) rfl ?_); refine Kd.R_append Kd.string (w0 := W3) H rfl _ _ 54 9 (.string ⟨#[]⟩) 16 rfl Tryz.underlying54 info9 rfl (by decide) (by decide) (.slice Av lv cv) (appK fs ps cs k) s [.string s] (fun _ => True) (fun _ => False) rfl rfl rfl (fun _ hk => hk.elim) (fun _ _ => trivial) HR3.out (Below.refl _ _) HS3.out HQ3.out ?_; intro v1 w1 hR1 hb1 hg1 hat1))
          go_roundw
          case rel =>
            refine ⟨k + 1, by omega, by go_num, HJ3.out.low hb1 h0 HHH.out hba hbk', ?_⟩
            rw [HNX.out]
            exact hR1
          case measure => simp [intOf]; omega
      · obtain rfl : k = ps.length := by omega
        have hret : StrsRet w (appL fs ps cs) (appE fs ps cs) (.returned (.tuple #[.slice Av lv cv, .int .i64 0])) wr := by
          rw [HEE.out, HLL.out]
          exact ⟨_, rfl, HBW.out _ HJR.out, Kd.R_lower HRR.out hw1⟩
        have HR := Lib.hid hret
        clear hret
        go_wp2_with fail
        go_ret2
        exact HR.out
/-- of the first j of a row those that apply -/
def blkK (ps : List S67) (Ab : Nat → Bool) (row : List Nat) (j : Nat) : List ByteArray := ((row.take j).filter Ab).map (idAt ps)
theorem blkK_len (ps : List S67) (Ab : Nat → Bool) (row : List Nat) (j : Nat) : (blkK ps Ab row j).length ≤ row.length := by
  unfold blkK
  rw [List.length_map]
  have := List.length_filter_le Ab (row.take j)
  have := List.length_take_le j row
  simp at *
  omega
theorem blkK_succ (ps : List S67) (Ab : Nat → Bool) (row : List Nat) (j : Nat) (h : j < row.length) : blkK ps Ab row (j + 1) = blkK ps Ab row j ++ (if Ab row[j] then [idAt ps row[j]] else []) := by
  unfold blkK
  rw [List.take_succ_eq_append_getElem h, List.filter_append, List.map_append]
  cases hb : Ab row[j] <;> simp [List.filter_cons, hb]
set_option maxRecDepth 100000 in
set_option maxHeartbeats 2000000 in
theorem Blocked_calls (A : Option Addr) (fs : List S110) (c : Nat) (A2 : Option Addr) (ps : List S67) (c2 : Nat) (A3 : Option Addr) (n3 c3 : Nat) (id : ByteArray) (Ac : Option Addr) (cs : List Int) (cc : Nat) (w : World) (hC1 : Kd.C k110 w A fs.length fs) (hC2 : Kd.C k67 w A2 ps.length ps) (hC3 : Kd.C (Kd.int .i64) w Ac cs.length cs)
    (hn : ps.length ≤ 1048576) (hid : ∀ p ∈ ps, p.f0.size ≤ maxLen ∧ ∀ s ∈ p.f6, s.size ≤ maxLen) (hsz : ∀ x ∈ fs, x.f0.size ≤ maxLen) (hstr : ∀ p ∈ ps, strOk p.f5) (hi : id.size ≤ maxLen) :
    Calls Tryz.prog 33 #[.agg #[.slice A fs.length c, .slice A2 ps.length c2, .slice A3 n3 c3], .string id, .slice Ac cs.length cc] w (StrsRet w (blkL fs ps cs id) (blkE fs ps cs id)) := by
  obtain ⟨W0, hW0⟩ : ∃ W0, W0 = (w.alloc (.cells #[.slice A fs.length c, .slice A2 ps.length c2, .slice A3 n3 c3] 52 (0, 0))) := ⟨_, rfl⟩
  have hb0 : Below w.heap.size w W0 := by rw [hW0]; exact (Below.refl _ _).alloc (Nat.le_refl _) _
  have hask := ask_calls A fs c A2 ps c2 A3 n3 c3 Ac cs cc W0 (Kd.C_below hC1 hb0) (Kd.C_below hC2 hb0) (Kd.C_below hC3 hb0) hn hid hsz hstr
  have hl1 : W0.cell? ⟨w.heap.size, 1, none⟩ = some (.slice A2 ps.length c2) := by rw [hW0]; exact cell_blk (heap_at _ _ rfl) rfl
  have HB0 := Lib.hid hb0; have HASK := Lib.hid hask; have HW0 := Lib.hid hW0; have HL1 := Lib.hid hl1; have HI := Lib.hid hi
  have HC1 := Lib.hid hC1; have HC2 := Lib.hid hC2; have HC3 := Lib.hid hC3; have HID := Lib.hid hid; have HSZ := Lib.hid hsz; have HSTR := Lib.hid hstr
  clear hb0 hask hW0 hl1 hC1 hC2 hC3 hid hsz hstr hi
  go_enter Tryz.func33, Tryz.ntmps33
  go_upto_region 2 with (go_at_call 87; (with_reducible refine (HW0.out ▸ HASK.out).mono ?_); rintro e Wa hA; obtain ⟨av, er, rfl⟩ := AskRet.form hA; replace hA := Lib.hid hA)
  rw [← HW0.out] at hA
  rcases hA.out with ⟨hbd, he, hb⟩ | ⟨hbd, hna, he, hb⟩ | ⟨hbd, hac, W1, bn, bm, bs, base, ba, bk, vs, f, m, he, hat, hkn, hmp, hatf, hnd, hbl⟩
  · obtain ⟨rfl, rfl⟩ := ret_inj he
    have hE : appE fs ps cs = 1 := by unfold appE; rw [if_pos hbd]
    have hE2 : blkE fs ps cs id = 1 := by unfold blkE; rw [hE]; rfl
    have hL : blkL fs ps cs id = [] := by unfold blkL; rw [hE]; rfl
    have hret : ∀ W, Below W0.heap.size W0 W → StrsRet w (blkL fs ps cs id) (blkE fs ps cs id) (.returned (.tuple #[.slice none 0 0, .int .i64 1])) W := fun W h => by rw [hE2, hL]; exact ⟨_, rfl, below_to HB0.out h, Kd.R_nil _ _ _ _ _⟩
    have HR := Lib.hid hret; have HB := Lib.hid hb
    clear hret hE hE2 hL hbd he hA hb
    go_wp2_with fail
    go_ret2
    exact HR.out _ HB.out
  · obtain ⟨rfl, rfl⟩ := ret_inj he
    have hE : appE fs ps cs = 13 := by unfold appE; rw [if_neg (by simp [hbd]), if_neg hna]
    have hE2 : blkE fs ps cs id = 13 := by unfold blkE; rw [hE]; rfl
    have hL : blkL fs ps cs id = [] := by unfold blkL; rw [hE]; rfl
    have hret : ∀ W, Below W0.heap.size W0 W → StrsRet w (blkL fs ps cs id) (blkE fs ps cs id) (.returned (.tuple #[.slice none 0 0, .int .i64 13])) W := fun W h => by rw [hE2, hL]; exact ⟨_, rfl, below_to HB0.out h, Kd.R_nil _ _ _ _ _⟩
    have HR := Lib.hid hret; have HB := Lib.hid hb
    clear hret hE hE2 hL hbd he hA hb hna
    go_wp2_with fail
    go_ret2
    exact HR.out _ HB.out
  · obtain ⟨rfl, rfl⟩ := ret_inj he
    have hE : appE fs ps cs = 0 := by unfold appE; rw [if_neg (by simp [hbd]), if_pos hac]
    obtain ⟨Ab, hAb⟩ : ∃ Ab, Ab = apB fs ps cs := ⟨_, rfl⟩
    have hA1 : ∀ v, v < ps.length → Ab v = (holdsP fs cs ps v && !(adjL (rowsJ ps (tgP ps) ps.length 0) v).any Ab) := fun v hv => by rw [hAb]; exact appB_eq (adjP_lt ps) hac (holdsP fs cs ps) v
    have hk0 := hkn Ab
    have hJ0 : JA W1 Ac cs.length cc bn ba bk ps.length Ab Wa Wa := ⟨⟨_, hk0⟩, Keep.refl _ _⟩
    have hap : ∀ i, i < ps.length → ∀ W', JA W1 Ac cs.length cc bn ba bk ps.length Ab Wa W' → Calls Tryz.prog 88 #[.pointer (some ⟨ba, 0, none⟩), .int .i64 (i : Int)] W' (AppRet W1 Ac cs.length cc bn ba bk ps.length Ab (Ab i) W') := fun i hi W' h => by
      obtain ⟨D, hD⟩ := h.kn
      exact applies88 hat hA1 _ i hi (Nat.lt_succ_self _) D W' hD
    have hb1 : ∀ W', JA W1 Ac cs.length cc bn ba bk ps.length Ab Wa W' → Below W1.heap.size W1 W' := fun W' h => by
      obtain ⟨D, hD⟩ := h.kn
      exact hD.below
    obtain ⟨H, hH⟩ : ∃ H, H = Wa.heap.size := ⟨_, rfl⟩
    have hba : ba < H := hH ▸ blk_lt hk0.ask
    have hbk' : bk < H := hH ▸ hk0.known.lt
    have h0 : W1.heap.size ≤ H := hH ▸ hk0.below.size
    have hw1 : w.heap.size ≤ H := by have := (below_to HB0.out hbl).size; omega
    have ca0 : Wa.cell? ⟨ba, 0, none⟩ = some (.pointer (some ⟨bn, 0, none⟩)) := cell_blk hk0.ask rfl
    have cn3 : Wa.cell? ⟨bn, 3, none⟩ = some (.map (some bm)) := cell_blk ((hk0.below.block _ (blk_lt hat.net)).trans hat.net) rfl
    have cn4 : Wa.cell? ⟨bn, 4, none⟩ = some (.slice (some ⟨bs, 0, none⟩) ps.length ps.length) := cell_blk ((hk0.below.block _ (blk_lt hat.net)).trans hat.net) rfl
    have hma : MapAt Tryz.prog 9 Wa bm f m := hmp.of_block (hk0.below.block _ hmp.lt)
    have hlk := hma.look true law9 Tryz.underlying93 (zero3 _) (keyOf_string_mk Tryz.underlying9 HI.out)
    have htg := tgt_eq hatf hnd
    cases htk : tgP ps id with
    | none =>
      have hfn := (tgt_none hatf (s := id) (by rw [htg]; exact htk)).1
      rw [hfn] at hlk
      have hlk' : (Instr.lookup 93 (.map (some bm)) (.string id) true).run Tryz.prog Wa = .ok (.tuple #[.int .i64 0, .bool false]) Wa := hlk
      have hE2 : blkE fs ps cs id = 11 := by unfold blkE; rw [hE, htk]; rfl
      have hL : blkL fs ps cs id = [] := by unfold blkL; rw [hE, htk]; rfl
      have hret : StrsRet w (blkL fs ps cs id) (blkE fs ps cs id) (.returned (.tuple #[.slice none 0 0, .int .i64 11])) Wa := by rw [hE2, hL]; exact ⟨_, rfl, below_to (below_to HB0.out hbl) hk0.below, Kd.R_nil _ _ _ _ _⟩
      have HR := Lib.hid hret
      clear hret hE hE2 hL hA1 hkn hap hb1 hJ0 hk0 hat hma hlk hmp hatf hfn htg htk hbl hac hA he hbd hAb hH
      go_wp2_with fail
      go_ret2
      exact HR.out
    | some i =>
      have hti := tgt_some hatf (s := id) (k := i) (by rw [htg]; exact htk)
      rw [hti.2.2] at hlk
      have hlk' : (Instr.lookup 93 (.map (some bm)) (.string id) true).run Tryz.prog Wa = .ok (.tuple #[.int .i64 (i : Int), .bool true]) Wa := hlk
      have hil := hti.1
      obtain ⟨row, hrow⟩ : ∃ row, row = adjP ps i := ⟨_, rfl⟩
      obtain ⟨A7, c7, _, hcr, _, hl7, hC7, _⟩ := hat.by_.get (k := i) (xs := row) (by
        rw [hrow]; unfold adjP adjL; rw [List.getD_eq_getElem?_getD]
        have : i < (rowsJ ps (tgP ps) ps.length 0).length := by rw [rowsJ_len]; exact hil
        simp [this])
      have crow : Wa.cell? ⟨bs, i, none⟩ = some (.slice A7 row.length c7) := (hk0.below.cell (World.block_lt_of_cell? _ _ hcr)).trans hcr
      have hrl : ∀ y ∈ row, y < ps.length := fun y hy => adjP_lt ps i y (hrow ▸ hy)
      have hrs : row.length ≤ 1048576 := by
        rw [hrow]; unfold adjP; rw [rowsJ_adj ps (tgP ps) hil]
        exact Nat.le_trans (rowF_len _ _ _ _) hn
      have hE2 : blkE fs ps cs id = 0 := by unfold blkE; rw [hE, htk]; rfl
      have hL : blkL fs ps cs id = blkK ps Ab row row.length := by unfold blkL blkK; rw [hE, htk, List.take_length, hrow, hAb]; rfl
      have hbw : ∀ W', JA W1 Ac cs.length cc bn ba bk ps.length Ab Wa W' → Below W0.heap.size W0 W' := fun W' h => below_to hbl (hb1 W' h)
      have hi0 : (0 : Int) ≤ (i : Int) := by omega
      have hi1 : (i : Int) < (ps.length : Int) := by omega
      have HJ0 := Lib.hid hJ0; have HAP := Lib.hid hap; have HB1 := Lib.hid hb1; have HBW := Lib.hid hbw; have HHH := Lib.hid hH; have HEE := Lib.hid hE2; have HLL := Lib.hid hL; have HRL := Lib.hid hrl; have HC7 := Lib.hid hC7
      clear hE hE2 hL hA1 hkn hap hb1 hbw hJ0 hk0 hat hma hlk hmp hatf htg htk hbl hac hA he hbd hAb hH hti hrow hrl hC7 hcr hl7
      go_wp2_with fail
      go_loopw [49, 12] (fun q v Wr => ∃ (k : Nat), k ≤ row.length ∧ q = .int .i64 k ∧ JA W1 Ac cs.length cc bn ba bk ps.length Ab Wa Wr ∧ Kd.string.R 9 Wr H (fun _ => True) v (blkK ps Ab row k)) (fun q _ _ => row.length - (intOf q).toNat)
      case atStart => exact ⟨0, Nat.zero_le _, rfl, HJ0.out, Kd.R_nil _ _ _ _ _⟩
      case round =>
        obtain ⟨k, hk, rfl, hJr, hRr⟩ := hrel
        obtain ⟨Av, cv, hv⟩ := Kd.R_slice hRr
        have hlen := blkK_len ps Ab row k
        generalize (blkK ps Ab row k).length = lv at hv hlen
        subst hv
        have HJR := Lib.hid hJr; have HRR := Lib.hid hRr
        clear hJr hRr
        by_cases hlt : k < row.length
        · obtain ⟨ai, rfl, hci⟩ := nt_int (Kd.C_below HC7.out (HB1.out _ HJR.out)) k (by rw [ints_len]; exact hlt)
          have hgj : (ints row)[k]'(by rw [ints_len]; exact hlt) = ((row[k] : Nat) : Int) := by simp [ints]
          rw [hgj] at hci
          have hpj := HRL.out _ (List.getElem_mem hlt)
          have hnx := blkK_succ ps Ab row k hlt
          generalize row[k] = y at hci hpj hnx
          have hy0 : (0 : Int) ≤ (y : Int) := by omega
          have hy1 : (y : Int) < (ps.length : Int) := by omega
          have hap := Lib.hid (HAP.out y hpj)
          cases hbk : Ab y with
          | false =>
            rw [hbk] at hap hnx
            simp only [Bool.false_eq_true, if_false, List.append_nil] at hnx
            have HNX := Lib.hid hnx
            clear hnx hbk
            go_wp2_with (go_at_call 88; (with_reducible refine (hap.out _ HJR.out).mono ?_); rintro e W3 ⟨rfl, hJ3⟩)
            go_roundw
            case rel =>
              refine ⟨k + 1, by omega, by go_num, HJR.out.trans hJ3, ?_⟩
              rw [HNX.out]
              exact R_hi HRR.out (fun q hq hlt' => hJ3.keep.block q hlt' (by omega))
            case measure => simp [intOf]; omega
          | true =>
            rw [hbk] at hap hnx
            simp only [if_true] at hnx
            have HNX := Lib.hid hnx
            clear hnx hbk
            obtain ⟨ap, _, _, _, _, _, _, _, _, _, _, rfl, hcp0, _⟩ := nt_T67 HC2.out y hpj
            have hs0 : ps[y].f0 = idAt ps y := by simp [idAt, hpj]
            rw [hs0] at hcp0
            have hcp1 : ∀ W', JA W1 Ac cs.length cc bn ba bk ps.length Ab Wa W' → W'.cell? (ap.add (y * 23)) = some (.string (idAt ps y)) ∧ W'.cell? ⟨w.heap.size, 1, none⟩ = some (.slice (some ap) ps.length c2) := fun W' h =>
              have hb := below_to HB0.out (HBW.out W' h)
              ⟨(hb.cell (World.block_lt_of_cell? _ _ hcp0)).trans hcp0, ((HBW.out W' h).cell (World.block_lt_of_cell? _ _ HL1.out)).trans HL1.out⟩
            have HCP := Lib.hid hcp1
            generalize idAt ps y = s at HCP HNX
            have hq3 : ((blkK ps Ab row k).length + 1) * 16 ≤ 140737488355328 := by have := blkK_len ps Ab row k; omega
            have HQ3 := Lib.hid hq3
            clear hq3 hcp1 hcp0 hs0
            go_wp2_with (first | (go_at_call 88; (with_reducible refine (hap.out _ HJR.out).mono ?_); rintro e W3 ⟨rfl, hJ3⟩; have HJ3 := Lib.hid (HJR.out.trans hJ3); have hc1 := (HCP.out _ HJ3.out).1; have hc2 := (HCP.out _ HJ3.out).2; have HR3 := Lib.hid (R_hi HRR.out (fun q hq hlt' => hJ3.keep.block q hlt' (by omega))); have HS3 := Lib.hid (show H ≤ W3.heap.size from by have := HJ3.out.keep.size; have := HHH.out; omega)) | ((with_reducible refine gate_dst (N := 64) rfl ?_); refine Kd.R_append Kd.string (w0 := W3) H rfl _ _ 54 9 (.string ⟨#[]⟩) 16 rfl Tryz.underlying54 info9 rfl (by decide) (by decide) (.slice Av lv cv) (blkK ps Ab row k) s [.string s] (fun _ => True) (fun _ => False) rfl rfl rfl (fun _ hk => hk.elim) (fun _ _ => trivial) HR3.out (Below.refl _ _) HS3.out HQ3.out ?_; intro v1 w1 hR1 hb1 hg1 hat1))
            go_roundw
            case rel =>
              refine ⟨k + 1, by omega, by go_num, HJ3.out.low hb1 h0 HHH.out hba hbk', ?_⟩
              rw [HNX.out]
              exact hR1
            case measure => simp [intOf]; omega
        · obtain rfl : k = row.length := by omega
          have hret : StrsRet w (blkL fs ps cs id) (blkE fs ps cs id) (.returned (.tuple #[.slice Av lv cv, .int .i64 0])) wr := by
            rw [HEE.out, HLL.out]
            exact ⟨_, rfl, below_to HB0.out (HBW.out _ HJR.out), Kd.R_lower HRR.out hw1⟩
          have HR := Lib.hid hret
          clear hret
          go_wp2_with fail
          go_ret2
          exact HR.out
end Go.Proofs.YtaigepddkgpplaaGreatDoor.M

