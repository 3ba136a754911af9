/- norm.ask: what is wrong with a law and a case, or the asker. -/
import Derived.Test.YtaigepddkgpplaaGreatDoorQApp
import Derived.Test.YtaigepddkgpplaaGreatDoorQCirW
namespace Go.Proofs.YtaigepddkgpplaaGreatDoor.M
open Go Go.RowKit Go.Maps Go.WideMaps Go.Proofs.YtaigepddkgpplaaGreatDoorW.PrintWords Go.Proofs.YtaigepddkgpplaaGreatDoorW.PrintLast Go.Proofs.YtaigepddkgpplaaGreatDoorW.PrintMore Go.Proofs.YtaigepddkgpplaaGreatDoor.B Go.Proofs.YtaigepddkgpplaaGreatDoor.T
set_option linter.unusedVariables false
set_option linter.unusedSimpArgs false

/-- the condition of a provision is wrong -/
def badP (fs : List S110) (p : S67) : Bool := checkI fs (inTerms []) p.f5 != 0
/-- what a text stands for: the place of the provision with this Id -/
def tgP (ps : List S67) (s : ByteArray) : Option Nat := (ids ps).findIdx? (fun x => decide (x = s))
theorem tgP_iff {ps : List S67} (hn : (ids ps).Nodup) (s : ByteArray) (k : Nat) : tgP ps s = some k ↔ (ids ps)[k]? = some s := by
  unfold tgP
  rw [List.findIdx?_eq_some_iff_getElem]
  constructor
  · rintro ⟨h, h1, _⟩
    rw [List.getElem?_eq_getElem h]
    simpa using h1
  · intro h
    obtain ⟨hk, he⟩ := List.getElem?_eq_some_iff.1 h
    refine ⟨hk, by simp [he], fun j hj => ?_⟩
    simp only [decide_eq_true_eq]
    intro hc
    have := (List.getElem_inj (xs := ids ps) (i := j) (j := k) (h₀ := by omega) (h₁ := hk) hn).1 (by rw [hc, he])
    omega
theorem tgt_eq {ps : List S67} {n : Nat} {f : Lit → Option Value} (h : AtOf ps ps.length f n) (hn : (ids ps).Nodup) : tgt f = tgP ps := by
  funext s
  cases h1 : tgt f s with
  | some k => exact ((tgP_iff hn s k).2 (tgt_some h h1).2.1).symm
  | none =>
    have := (tgt_none h h1).2
    cases h2 : tgP ps s with
    | none => rfl
    | some k => exact absurd (List.mem_of_getElem? ((tgP_iff hn s k).1 h2)) this
/-- those that except a provision -/
def adjP (ps : List S67) : Nat → List Nat := adjL (rowsJ ps (tgP ps) ps.length 0)
theorem adjP_lt (ps : List S67) : ∀ v y, y ∈ adjP ps v → y < ps.length := fun v y h => rowsJ_adj_lt ps (tgP ps) v y h
/-- the arguments are wrong -/
def argBad (fs : List S110) (ps : List S67) (cs : List Int) : Bool := !(decide (ids ps).Nodup) || (decide (2000 < ps.length) || (!(fitsB fs cs) || ps.any (badP fs)))
theorem enters138 : ∀ args w, (callFunc 138 args).run Tryz.prog w = .ok (.enter 138 args) w := enters Tryz.func138 (by kernel_rfl) rfl
set_option maxRecDepth 100000 in
set_option maxHeartbeats 1000000 in
theorem bad138 (A : Option Addr) (c : Nat) (fs : List S110) (h : Nat) (p : S67) (cs : List Value) (W : World) (hC : Kd.C k110 W A fs.length fs) (hh : W.cell? ⟨h, 0, none⟩ = some (.slice A fs.length c)) (hs : strOk p.f5) (hK : k67.K W p cs) :
    Calls Tryz.prog 138 #[.agg cs.toArray, .pointer (some ⟨h, 0, none⟩)] W (RetB (badP fs p) W) := by
  obtain ⟨A9, c9, A10, c10, A14, c14, A18, c18, A22, c22, rfl, l9, g9, _, _, _, _, _, _, _, _⟩ := k67_open hK
  obtain ⟨W0, hW0⟩ : ∃ W0, W0 = W.alloc (.cells #[.string p.f0, .int .i64 p.f1, .int .i64 p.f2, .string p.f3, .int .i64 p.f4, .int .i64 p.f5.f0, .string p.f5.f1, .int .i64 p.f5.f2, .int .i64 p.f5.f3, .slice A9 p.f5.f4.length c9, .slice A10 p.f6.length c10, .int .i64 p.f7.f0, .string p.f7.f1, .int .i64 p.f7.f2, .slice A14 p.f7.f3.length c14, .int .i64 p.f8.f0, .string p.f8.f1, .int .i64 p.f8.f2, .slice A18 p.f8.f3.length c18, .int .i64 p.f9.f0, .string p.f9.f1, .int .i64 p.f9.f2, .slice A22 p.f9.f3.length c22] 67) := ⟨_, rfl⟩
  have hb : Below W.heap.size W W0 := by rw [hW0]; exact (Below.refl _ _).alloc (Nat.le_refl _) _
  have hck := Check_calls A c fs p.f5 A9 c9 none 0 [] W0 (Kd.C_below hC hb) l9 (Kd.C_below g9 hb) hs ⟨rfl, by simp, fun h => absurd h (Nat.lt_irrefl _)⟩
  have hh' := (hb.cell (World.block_lt_of_cell? _ _ hh)).trans hh
  obtain ⟨r, hr⟩ : ∃ r, r = checkI fs (inTerms []) p.f5 := ⟨_, rfl⟩
  rw [← hr] at hck
  simp only [List.length_nil] at hck
  have hfin : ∀ W', Below W0.heap.size W0 W' → RetB (badP fs p) W (.returned (.bool (r != 0))) W' := fun W' h => ⟨by unfold badP; rw [hr], below_to hb h⟩
  have HCK := Lib.hid hck; have HF := Lib.hid hfin; have HB := Lib.hid hb
  clear hck hfin hC hK hs hb g9 l9 hr hh
  subst hW0
  go_enter Tryz.func138, Tryz.ntmps138
  go_wp2_with (go_at_call 21; (with_reducible refine HCK.out.mono ?_); rintro e W2 ⟨rfl, hb2⟩)
  go_ret
  exact HF.out _ hb2
/-- what ask hands back -/
def AskRet (w : World) (A : Option Addr) (fs : List S110) (c : Nat) (A2 : Option Addr) (ps : List S67) (c2 : Nat) (A3 : Option Addr) (n3 c3 : Nat) (Ac : Option Addr) (cs : List Int) (cc : Nat) (e : Ending) (W : World) : Prop :=
  (argBad fs ps cs = true ∧ e = .returned (.tuple #[.pointer none, .int .i64 1]) ∧ Below w.heap.size w W) ∨
  (argBad fs ps cs = false ∧ ¬ Acyc (adjP ps) ps.length ∧ e = .returned (.tuple #[.pointer none, .int .i64 13]) ∧ Below w.heap.size w W) ∨
  (argBad fs ps cs = false ∧ Acyc (adjP ps) ps.length ∧ ∃ W1 bn bm bs base ba bk vs f m, e = .returned (.tuple #[.pointer (some ⟨ba, 0, none⟩), .int .i64 0]) ∧ AskAt W1 A fs c A2 ps c2 A3 n3 c3 Ac cs bn bm bs base ba bk (rowsJ ps (tgP ps) ps.length 0) vs ∧
    (∀ Ab, KnownAt W1 Ac cs.length cc bn ba bk ps.length Ab (fun _ => false) W) ∧ MapAt Tryz.prog 9 W1 bm f m ∧ AtOf ps ps.length f m ∧ (ids ps).Nodup ∧ Below w.heap.size w W1)
set_option maxRecDepth 100000 in
set_option maxHeartbeats 2000000 in
theorem ask_calls (A : Option Addr) (fs : List S110) (c : Nat) (A2 : Option Addr) (ps : List S67) (c2 : Nat) (A3 : Option Addr) (n3 c3 : Nat) (Ac : Option Addr) (cs : List Int) (cc : Nat) (w : World) (hC1 : Kd.C k110 w A fs.length fs) (hC2 : Kd.C k67 w A2 ps.length ps) (hC3 : Kd.C (Kd.int .i64) w Ac cs.length cs)
    (hn : ps.length ≤ 1048576) (hid : ∀ p ∈ ps, p.f0.size ≤ maxLen ∧ ∀ s ∈ p.f6, s.size ≤ maxLen) (hsz : ∀ x ∈ fs, x.f0.size ≤ maxLen) (hstr : ∀ p ∈ ps, strOk p.f5) :
    Calls Tryz.prog 87 #[.agg #[.slice A fs.length c, .slice A2 ps.length c2, .slice A3 n3 c3], .slice Ac cs.length cc] w (AskRet w A fs c A2 ps c2 A3 n3 c3 Ac cs cc) := by
  obtain ⟨W0, hW0⟩ : ∃ W0, W0 = (w.alloc (.cells #[.slice A fs.length c, .slice A2 ps.length c2, .slice A3 n3 c3] 52 (0, 0))) := ⟨_, rfl⟩
  have hb0 : Below w.heap.size w W0 := by rw [hW0]; exact (Below.refl _ _).alloc (Nat.le_refl _) _
  have hof := of_calls A fs c A2 ps c2 A3 n3 c3 W0 (Kd.C_below hC2 hb0) hn hid
  have hl0 : W0.cell? ⟨w.heap.size, 0, none⟩ = some (.slice A fs.length c) := by rw [hW0]; exact cell_blk (heap_at _ _ rfl) rfl
  have hl1 : W0.cell? ⟨w.heap.size, 1, none⟩ = some (.slice A2 ps.length c2) := by rw [hW0]; exact cell_blk (heap_at _ _ rfl) rfl
  have HB0 := Lib.hid hb0; have HOF := Lib.hid hof; have HW0 := Lib.hid hW0; have HL0 := Lib.hid hl0; have HL1 := Lib.hid hl1
  have HC1 := Lib.hid hC1; have HC2 := Lib.hid hC2; have HC3 := Lib.hid hC3; have HID := Lib.hid hid; have HSZ := Lib.hid hsz; have HSTR := Lib.hid hstr
  clear hb0 hof hW0 hl0 hl1 hC1 hC2 hC3 hid hsz hstr
  have hmf : ∀ (fn : Fn) (first cap : Array Value) (w : World), (Instr.makeFunc fn first cap).run Tryz.prog w = .ok (.func fn first cap) w := fun _ _ _ _ => rfl
  have hmm := @run_makeMap Tryz.prog
  go_enter Tryz.func87, Tryz.ntmps87
  go_upto_region 3 with (go_at_call 91; (with_reducible refine (HW0.out ▸ HOF.out).mono ?_); rintro e W1 ⟨bn, bm, bs, n, f, vs, rfl, hN⟩)
  rw [← HW0.out] at hN
  have hb1 : Below w.heap.size w W1 := HB0.out.trans (hN.net.below.mono HB0.out.size)
  have hb01 : Below W0.heap.size W0 W1 := hN.net.below
  have hcl0 : W1.cell? ⟨w.heap.size, 0, none⟩ = some (.slice A fs.length c) := (hb01.cell (World.block_lt_of_cell? _ _ HL0.out)).trans HL0.out
  have hcl1 : W1.cell? ⟨w.heap.size, 1, none⟩ = some (.slice A2 ps.length c2) := (hb01.cell (World.block_lt_of_cell? _ _ HL1.out)).trans HL1.out
  have HN := Lib.hid hN; have HB1 := Lib.hid hb1; have HB01 := Lib.hid hb01
  clear hN hb1 hb01
  by_cases hd : (ids ps).Nodup
  · have hdd : decide (ids ps).Nodup = true := by simp [hd]
    simp only [hdd]
    have HD := Lib.hid hd
    clear hd hdd
    by_cases hl : 2000 < ps.length
    · have hret : ∀ W, Below w.heap.size w W → AskRet w A fs c A2 ps c2 A3 n3 c3 Ac cs cc (.returned (.tuple #[.pointer none, .int .i64 1])) W := fun W h => .inl ⟨by unfold argBad; simp [hl], rfl, h⟩
      have HR := Lib.hid hret
      clear hret
      go_wp2_with fail
      go_ret2
      exact HR.out _ HB1.out
    · have hft := fits_calls A c fs Ac cc cs W1 (Kd.C_below HC1.out HB1.out) HSZ.out (Kd.C_below HC3.out HB1.out)
      cases hf : fitsB fs cs with
      | false =>
        rw [hf] at hft
        have hret : ∀ W, Below W1.heap.size W1 W → AskRet w A fs c A2 ps c2 A3 n3 c3 Ac cs cc (.returned (.tuple #[.pointer none, .int .i64 1])) W := fun W h => .inl ⟨by unfold argBad; simp [hf], rfl, below_to HB1.out h⟩
        have HR := Lib.hid hret; have HFT := Lib.hid hft
        clear hret hft hf
        go_wp2_with (go_at_call 23; (with_reducible refine HFT.out.mono ?_); rintro e W2 ⟨rfl, hb2⟩)
        go_ret2
        exact HR.out _ hb2
      | true =>
        rw [hf] at hft
        have HFT := Lib.hid hft; have HFB := Lib.hid hf
        clear hft hf
        have hbad : ∀ W2, Below W1.heap.size W1 W2 → Calls Tryz.prog 139 #[.slice A2 ps.length c2, .func (.func 138) #[] #[.pointer (some ⟨w.heap.size, 0, none⟩)]] W2 (AnsJ (ps.any (badP fs)) (fun W => Below W1.heap.size W1 W)) := fun W2 h =>
          containsFunc_139 A2 c2 ps 138 #[.pointer (some ⟨w.heap.size, 0, none⟩)] (badP fs) (fun W => Below W1.heap.size W1 W) enters138 (fun W h => Kd.C_below HC2.out (below_to HB1.out h))
            (fun x hx W cs' h hK => (bad138 A c fs w.heap.size x cs' W (Kd.C_below HC1.out (below_to HB1.out h)) ((h.cell (World.block_lt_of_cell? _ _ hcl0)).trans hcl0) (HSTR.out x hx) hK).mono fun e W' ⟨h1, h2⟩ => ⟨h1, below_to h h2⟩) W2 h
        have hm2 : ∀ W2, Below W1.heap.size W1 W2 → W2.cell? ⟨w.heap.size, 1, none⟩ = some (.slice A2 ps.length c2) := fun W2 h => (h.cell (World.block_lt_of_cell? _ _ hcl1)).trans hcl1
        have heg := enters138
        have HM2 := Lib.hid hm2
        clear hm2
        cases hbd : ps.any (badP fs) with
        | true =>
          rw [hbd] at hbad
          have hret : ∀ W, Below W1.heap.size W1 W → AskRet w A fs c A2 ps c2 A3 n3 c3 Ac cs cc (.returned (.tuple #[.pointer none, .int .i64 1])) W := fun W h => .inl ⟨by unfold argBad; simp [hbd], rfl, below_to HB1.out h⟩
          have HR := Lib.hid hret; have HBAD := Lib.hid hbad
          clear hret hbad hbd
          go_wp2_with (first | (go_at_call 23; (with_reducible refine HFT.out.mono ?_); rintro e W2 ⟨rfl, hb2⟩; have hcl2 := HM2.out _ hb2) | (go_at_call 139; (with_reducible refine (HBAD.out _ hb2).mono ?_); rintro e W3 ⟨rfl, hb3⟩))
          go_ret2
          exact HR.out _ hb3
        | false =>
          rw [hbd] at hbad
          have harg : argBad fs ps cs = false := by unfold argBad; simp [HD.out, hl, HFB.out, hbd]
          have HBAD := Lib.hid hbad; have HARG := Lib.hid harg
          clear hbad hbd harg
          go_upto_region 5 with (first | (go_at_call 23; (with_reducible refine HFT.out.mono ?_); rintro e W2 ⟨rfl, hb2⟩; have hcl2 := HM2.out _ hb2) | (go_at_call 139; (with_reducible refine (HBAD.out _ hb2).mono ?_); rintro e W3 ⟨rfl, hb3⟩))
          have hN3 := HN.out.next hb3
          have htg := tgt_eq hN3.at_ HD.out
          have hg := groups92 (hN3.netR hn) (fun v y h => rowsJ_adj_lt ps (tgt f) v y h) hN3.cell1
          have hgs1 : ∀ gs : List (List Nat), gs.Perm gs → True := fun _ _ => trivial
          clear hgs1
          have HG := Lib.hid hg; have HN3 := Lib.hid hN3; have HTG := Lib.hid htg; have HB3 := Lib.hid hb3
          clear hg hN3 htg hb3 hcl2 hcl0 hcl1 hb2
          go_upto_region 5 with fail
          go_wp2_with (go_at_call 92; (with_reducible refine HG.out.mono ?_); rintro e W4 ⟨gv, base, gs, out, rfl, hbase, hb4, hF, hp, hs, hR⟩; obtain ⟨A7, c7, hv⟩ := Kd.R_slice hR; rw [List.length_map] at hv; subst hv; refine RowKit.Hid.out (?_ : RowKit.Hid _))
          refine Lib.hid ?_
          have hFG := (found_sorted (rowsJ_adj_lt ps (tgt f)) hF hp hs).1
          rw [HTG.out] at hFG
          have hFG : Go.Proofs.YtaigepddkgpplaaGreatDoor.T.Found (adjP ps) ps.length gs := hFG
          have hb14 : Below W1.heap.size W1 W4 := below_to HB3.out hb4
          have hbw4 : Below w.heap.size w W4 := below_to HB1.out hb14
          have hN4 := HN3.out.next hb4
          have HFG := Lib.hid hFG; have HB14 := Lib.hid hb14; have HBW4 := Lib.hid hbw4; have HN4 := Lib.hid hN4
          clear hFG hb14 hbw4 hN4 hF hp hs hR hb4 hbase
          by_cases hgz : gs = []
          · subst hgz
            have hac := acyc_of_found HFG.out
            have hret : ∀ W, W = (W4.alloc (.map #[] 0)).alloc (.cells #[.pointer (some ⟨bn, 0, none⟩), .slice Ac cs.length cc, .map (some W4.heap.size)] 136) → AskRet w A fs c A2 ps c2 A3 n3 c3 Ac cs cc (.returned (.tuple #[.pointer (some ⟨W4.heap.size + 1, 0, none⟩), .int .i64 0])) W := fun W h => by
              subst h
              have hby := HN4.out.by_
              rw [HTG.out] at hby
              have hb : Below W4.heap.size W4 ((W4.alloc (.map #[] 0)).alloc (.cells #[.pointer (some ⟨bn, 0, none⟩), .slice Ac cs.length cc, .map (some W4.heap.size)] 136)) := ((Below.refl _ _).alloc (Nat.le_refl _) _).alloc (by simp) _
              exact .inr (.inr ⟨HARG.out, hac, W4, bn, bm, bs, _, W4.heap.size + 1, W4.heap.size, vs, f, n, rfl,
                ⟨HN4.out.net.net, hby, rowsJ_len _ _ _ _, hn, adjP_lt ps, hac, Kd.C_below HC1.out HBW4.out, Kd.C_below HC2.out HBW4.out, Kd.C_below HC3.out HBW4.out, HSZ.out, HSTR.out, by omega, by omega, by omega⟩,
                fun Ab => ⟨hb, heap_at _ _ (by simp), (by
                  have hm := (MapAt.made Tryz.prog 3 W4).alloc (.cells #[.pointer (some ⟨bn, 0, none⟩), .slice Ac cs.length cc, .map (some W4.heap.size)] 136)
                  have e1 : (List.range ps.length).countP (fun _ => false) = 0 := by simp
                  rw [e1]
                  refine hm.congr fun l _ => ?_
                  unfold fK
                  cases l with
                  | int k n => cases k <;> simp
                  | _ => rfl)⟩, HN4.out.map, HN4.out.at_, HD.out, HBW4.out⟩)
            have HR := Lib.hid hret
            clear hret hac hn
            simp only [List.length_nil]
            go_wp2_with fail
            go_ret2
            exact HR.out _ rfl
          · have hna : ¬ Acyc (adjP ps) ps.length := fun ha => hgz (found_of_acyc HFG.out ha)
            have hpos : (0 : Int) < (gs.length : Int) := by have := List.length_pos_iff.2 hgz; omega
            have hret : ∀ W, W = W4 → AskRet w A fs c A2 ps c2 A3 n3 c3 Ac cs cc (.returned (.tuple #[.pointer none, .int .i64 13])) W := fun W h => by subst h; exact .inr (.inl ⟨HARG.out, hna, rfl, HBW4.out⟩)
            have HR := Lib.hid hret
            clear hret hna hgz
            go_wp2_with fail
            go_ret2
            exact HR.out _ rfl
  · have hdd : decide (ids ps).Nodup = false := by simp [hd]
    simp only [hdd]
    have hret : ∀ W, Below w.heap.size w W → AskRet w A fs c A2 ps c2 A3 n3 c3 Ac cs cc (.returned (.tuple #[.pointer none, .int .i64 1])) W := fun W h => .inl ⟨by unfold argBad; simp [hdd], rfl, h⟩
    have HR := Lib.hid hret
    clear hret hd hdd
    go_wp2_with fail
    go_ret2
    exact HR.out _ HB1.out
end Go.Proofs.YtaigepddkgpplaaGreatDoor.M

