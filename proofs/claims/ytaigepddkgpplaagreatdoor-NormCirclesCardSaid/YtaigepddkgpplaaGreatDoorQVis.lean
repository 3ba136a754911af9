/- norm.groups$1: the search from one provision. -/
import Derived.Test.YtaigepddkgpplaaGreatDoorQTarG
import Derived.Test.YtaigepddkgpplaaGreatDoorQOf
import Derived.Test.YtaigepddkgpplaaGreatDoorQShelf
import Derived.Test.YtaigepddkgpplaaGreatDoorQSortOwn
import Derived.Deep.RegionLaw
import Derived.Deep.AppendLies
import Derived.StillTactics
import Derived.Outline
namespace Go.Proofs.YtaigepddkgpplaaGreatDoor.M
open Go Go.RowKit Go.Maps Go.WideMaps Go.Proofs.YtaigepddkgpplaaGreatDoorW.PrintWords Go.Proofs.YtaigepddkgpplaaGreatDoorW.PrintLast Go.Proofs.YtaigepddkgpplaaGreatDoorW.PrintMore Go.Proofs.YtaigepddkgpplaaGreatDoor.B Go.Proofs.YtaigepddkgpplaaGreatDoor.T
set_option linter.unusedVariables false
set_option linter.unusedSimpArgs false
attribute [local go_sem] max2_int min2_int max_two min_two

/-- what the maps hold -/
structure TarM (st : TS) (fn fl fo : Lit → Option Value) (nl no : Nat) : Prop where
  n : ∀ k : Nat, fn (.int .i64 (k : Int)) = (st.num k).map (fun m : Nat => Value.int .i64 (m : Int))
  l : ∀ k m : Nat, st.num k = some m → fl (.int .i64 (k : Int)) = some (.int .i64 (st.low k : Int))
  l0 : ∀ k : Nat, st.num k = none → fl (.int .i64 (k : Int)) = none
  o : ∀ k m : Nat, st.num k = some m → fo (.int .i64 (k : Int)) = some (.bool (st.on k))
  o0 : ∀ k : Nat, st.num k = none → fo (.int .i64 (k : Int)) = none
  nl : nl ≤ st.cnt
  no : no ≤ st.cnt
def TarAt (w0 : World) (B bn : Nat) (W : World) (st : TS) : Prop := ∃ fn fl fo nl no A c ov, TarG w0 B bn fn fl fo st.cnt nl no st.stack st.out (.slice A st.stack.length c) ov W ∧ TarM st fn fl fo nl no
/-- the net that is searched -/
structure NetR (w0 : World) (bn bs n base : Nat) (L : List (List Nat)) (vs : List Value) : Prop where
  cell : w0.cell? ⟨bn, 4, none⟩ = some (.slice (some ⟨bs, 0, none⟩) n n)
  by_ : ByAt base w0 bs L vs
  len : L.length = n
  small : n ≤ 1048576
def adjL (L : List (List Nat)) (i : Nat) : List Nat := L.getD i []
def VisRet (w0 : World) (B bn : Nat) (L : List (List Nat)) (f i : Nat) (st : TS) (e : Ending) (W : World) : Prop := e = .returned (.tuple #[]) ∧ ∃ st', visitF (adjL L) f i st = some st' ∧ TarAt w0 B bn W st'
theorem law3 : Keyed Tryz.prog 3 := int_keyed Tryz.underlying3
theorem key3 {k : Nat} (h : k < 9223372036854775807) : keyOf Tryz.prog 3 (.int .i64 (k : Int)) = some (.int .i64 (k : Int)) := keyOf_int_mk Tryz.underlying3 (by simp [Lit.wf, IntKind.min, IntKind.max, IntKind.signed, IntKind.bits]; omega)
theorem zero4' (w : World) : (zeroValue 4).run Tryz.prog w = .ok (.bool false) w := by kernel_rfl
theorem enters145 : ∀ args w, (callFunc 145 args).run Tryz.prog w = .ok (.enter 145 args) w := enters Tryz.func145 (by kernel_rfl) rfl
theorem key_ne {a b : Nat} (h : a ≠ b) : (Lit.int .i64 (a : Int)) ≠ .int .i64 (b : Int) := fun e => by injection e with _ e; omega
theorem TarM.ent {st : TS} {fn fl fo : Lit → Option Value} {nl no i : Nat} (h : TarM st fn fl fo nl no) (hi : st.num i = none) :
    TarM (enter i st) (upd fn (.int .i64 (i : Int)) (.int .i64 (st.cnt : Int))) (upd fl (.int .i64 (i : Int)) (.int .i64 (st.cnt : Int))) (upd fo (.int .i64 (i : Int)) (.bool true)) (nl + 1) (no + 1) := by
  have hne : ∀ k, k ≠ i → (enter i st).num k = st.num k := fun k hk => fup_other _ _ hk
  have hs : (enter i st).num i = some st.cnt := fup_same _ _ _
  refine ⟨fun k => ?_, fun k m hk => ?_, fun k hk => ?_, fun k m hk => ?_, fun k hk => ?_, Nat.succ_le_succ h.nl, Nat.succ_le_succ h.no⟩
  · by_cases e : k = i
    · subst e; rw [upd_same, hs]; rfl
    · rw [upd_other _ _ _ (key_ne e), hne k e]; exact h.n k
  · by_cases e : k = i
    · subst e; rw [upd_same]; show _ = some (Value.int .i64 ((fup st.low k st.cnt k : Nat) : Int)); rw [fup_same]
    · rw [upd_other _ _ _ (key_ne e)]; show _ = some (Value.int .i64 ((fup st.low i st.cnt k : Nat) : Int)); rw [fup_other _ _ e]; exact h.l k m (by rw [← hne k e]; exact hk)
  · by_cases e : k = i
    · subst e; rw [hs] at hk; cases hk
    · rw [upd_other _ _ _ (key_ne e)]; exact h.l0 k (by rw [← hne k e]; exact hk)
  · by_cases e : k = i
    · subst e; rw [upd_same]; show _ = some (Value.bool (fup st.on k true k)); rw [fup_same]
    · rw [upd_other _ _ _ (key_ne e)]; show _ = some (Value.bool (fup st.on i true k)); rw [fup_other _ _ e]; exact h.o k m (by rw [← hne k e]; exact hk)
  · by_cases e : k = i
    · subst e; rw [hs] at hk; cases hk
    · rw [upd_other _ _ _ (key_ne e)]; exact h.o0 k (by rw [← hne k e]; exact hk)
theorem TarM.setL {st : TS} {fn fl fo : Lit → Option Value} {nl no i m : Nat} (h : TarM st fn fl fo nl no) (hi : st.num i = some m) (v : Nat) : TarM (setLow st i v) fn (upd fl (.int .i64 (i : Int)) (.int .i64 (v : Int))) fo nl no := by
  refine ⟨h.n, fun k m hk => ?_, fun k hk => ?_, h.o, h.o0, h.nl, h.no⟩
  · by_cases e : k = i
    · subst e; rw [upd_same]; show _ = some (Value.int .i64 ((fup st.low k v k : Nat) : Int)); rw [fup_same]
    · rw [upd_other _ _ _ (key_ne e)]; show _ = some (Value.int .i64 ((fup st.low i v k : Nat) : Int)); rw [fup_other _ _ e]; exact h.l k m hk
  · by_cases e : k = i
    · subst e; rw [show st.num k = none from hk] at hi; cases hi
    · rw [upd_other _ _ _ (key_ne e)]; exact h.l0 k hk
/-- j of the group are off the stack -/
def offT (st : TS) (stk grp : List Nat) (j : Nat) : TS := { st with stack := stk, on := fun k => if k ∈ grp.take j then false else st.on k }
theorem TarM.cutS {st : TS} {fn fl fo : Lit → Option Value} {nl no : Nat} (h : TarM st fn fl fo nl no) (stk grp : List Nat) : TarM (offT st stk grp 0) fn fl fo nl no := by
  refine ⟨h.n, h.l, h.l0, fun k m hk => ?_, h.o0, h.nl, h.no⟩
  show _ = some (Value.bool (if k ∈ grp.take 0 then false else st.on k))
  simp
  exact h.o k m hk
theorem TarM.off {st : TS} {stk grp : List Nat} {fn fl fo : Lit → Option Value} {nl no j m : Nat} (h : TarM (offT st stk grp j) fn fl fo nl no) (hj : j < grp.length) (hm : st.num grp[j] = some m) :
    TarM (offT st stk grp (j + 1)) fn fl (upd fo (.int .i64 ((grp[j] : Nat) : Int)) (.bool false)) nl no := by
  have ht : ∀ x, x ∈ grp.take (j + 1) ↔ x ∈ grp.take j ∨ x = grp[j] := fun x => by rw [List.take_succ_eq_append_getElem hj, List.mem_append, List.mem_singleton]
  refine ⟨h.n, h.l, h.l0, fun k m hk => ?_, fun k hk => ?_, h.nl, h.no⟩
  · show _ = some (Value.bool (if k ∈ grp.take (j + 1) then false else st.on k))
    by_cases e : k = grp[j]
    · rw [if_pos ((ht k).2 (.inr e)), e, upd_same]
    · rw [upd_other _ _ _ (key_ne e)]
      have := h.o k m hk
      rw [this]
      show some (Value.bool (if k ∈ grp.take j then false else st.on k)) = _
      by_cases h1 : k ∈ grp.take j
      · rw [if_pos h1, if_pos ((ht k).2 (.inl h1))]
      · rw [if_neg h1, if_neg (fun hc => by rcases (ht k).1 hc with hc | hc; exact h1 hc; exact e hc)]
  · by_cases e : k = grp[j]
    · subst e; rw [show st.num _ = none from hk] at hm; cases hm
    · rw [upd_other _ _ _ (key_ne e)]; exact h.o0 k hk
theorem TarM.on_some {st : TS} {fn fl fo : Lit → Option Value} {nl no k m : Nat} (h : TarM st fn fl fo nl no) (hk : st.num k = some m) : (fo (.int .i64 (k : Int))).isSome = true := by rw [h.o k m hk]; rfl
theorem cell_grown {W W' : World} {b o : Nat} {v : Value} {row : Option Nat} (h : W.cell? ⟨b, o, none⟩ = some v) (hg : W.grownBy W' row) (hne : some b ≠ row) : W'.cell? ⟨b, o, none⟩ = some v := (World.cell?_of_block (a := ⟨b, o, none⟩) (hg.block b (World.block_lt_of_cell? _ _ h) hne)).trans h
theorem frozen_grown {W W' : World} {b o : Nat} {v : Value} {row : Option Nat} (h : W.cell? ⟨b, o, none⟩ = some v) (hf : W.frozen? ⟨b, o, none⟩ = false) (hg : W.grownBy W' row) (hne : some b ≠ row) : W'.frozen? ⟨b, o, none⟩ = false := (World.frozen?_of_block (a := ⟨b, o, none⟩) (hg.block b (World.block_lt_of_cell? _ _ h) hne)).trans hf
theorem sort_ints (l : List Nat) : (ints l).mergeSort (fun x y => decide (x ≤ y)) = ints (sortN l) := by
  unfold ints sortN
  rw [List.map_mergeSort (s := fun x y => decide (x ≤ y))]
  intro a _ b _
  simp [leN]
def SrtRet (w0 : World) (B bn : Nat) (fn fl fo : Lit → Option Value) (nn nl no : Nat) (stk : List Nat) (out : List (List Nat)) (sv ov : Value) (grp : List Nat) (g8 c8 Hc : Nat) (wr : World) (e : Ending) (W : World) : Prop :=
  e = .returned (.tuple #[]) ∧ TarG w0 B bn fn fl fo nn nl no stk out sv ov W ∧ (Kd.int .i64).R 3 W (B + 10) (fun k => k = g8) (.slice (some ⟨g8, 0, none⟩) grp.length c8) (ints (sortN grp)) ∧
    (Kd.slice 3 (Kd.int .i64)).R 28 W (B + 10) (fun k => some k ≠ sv.ownBlock ∧ k < Hc) ov (out.map ints)
theorem sort_group {w0 wr : World} {B bn : Nat} {fn fl fo : Lit → Option Value} {nn nl no : Nat} {stk : List Nat} {out : List (List Nat)} {sv ov : Value} {grp : List Nat} {g8 c8 Hc : Nat}
    (hG : TarG w0 B bn fn fl fo nn nl no stk out sv ov wr) (hR : (Kd.int .i64).R 3 wr Hc (fun _ => True) (.slice (some ⟨g8, 0, none⟩) grp.length c8) (ints grp)) (hO : (Kd.slice 3 (Kd.int .i64)).R 28 wr (B + 10) (fun k => some k ≠ sv.ownBlock ∧ k < Hc) ov (out.map ints))
    (hHc : B + 10 ≤ Hc) (hsv : ∀ k, sv.ownBlock = some k → k < Hc) (hsm : grp.length ≤ 1048576) :
    Calls Tryz.prog 101 #[.slice (some ⟨g8, 0, none⟩) grp.length c8] wr (SrtRet w0 B bn fn fl fo nn nl no stk out sv ov grp g8 c8 Hc wr) := by
  have hown := Kd.own_of_R hR
  rw [ints_len] at hown
  rcases hown.2 with ⟨e, _⟩ | ⟨g, cap, cur, e, hg, hb, h1, h2, h3, h4⟩
  · cases e
  · injection e with e1 e2 e3
    injection e1 with e1
    injection e1 with e1
    subst e1; subst e3
    rw [Nat.mul_one] at h4
    have hH : Go.Sort.Holds (Value.int .i64) wr g8 0 (ints grp).toArray := holds_blk hb (by rw [ints_len, h4]; rfl)
    have h := Tryz.slices_Sort_int g8 0 c8 (ints grp) wr hH (Array.getElem?_eq_some_iff.1 hb).1 (by rw [ints_len]; omega)
    rw [ints_len] at h
    refine h.mono fun e w' ⟨he, n, os, hw⟩ => ?_
    rw [sort_ints] at hw
    have hlen : (sortN grp).length = grp.length := List.length_mergeSort _
    have hgr : wr.grownBy w' (some g8) := by rw [hw]; exact grown_srt _
    have hk : ∀ k, k < wr.heap.size → k ≠ g8 → w'.heap[k]? = wr.heap[k]? := fun k h1 h2 => hgr.block k h1 (fun e => h2 (by injection e))
    have hs := hG.size
    have how' : w'.ownsRow Hc 3 1 (.slice (some ⟨g8, 0, none⟩) grp.length c8) grp.length ((ints (sortN grp)).map (Value.int .i64)) := by
      rw [hw]
      have := own_srt (enc := Value.int .i64) (w := wr) (base := Hc) (n := n) (os := os) (xs := ints grp) (ts := ints (sortN grp)) (by rw [ints_len, ints_len, hlen]) hg hb (by rw [ints_len]; exact h1) h2 h3
      rwa [ints_len] at this
    refine ⟨he, ?_, ?_, ?_⟩
    · have hr1 := Kd.own_of_R hG.rs
      refine ⟨hG.below.grown hgr (by omega) (fun k e => by injection e with e; omega), Nat.le_trans hs hgr.size, (hk _ (by omega) (by omega)).trans hG.vb, (hk _ (by omega) (by omega)).trans hG.vl, (hk _ (by omega) (by omega)).trans hG.vn, (hk _ (by omega) (by omega)).trans hG.vo, (hk _ (by omega) (by omega)).trans hG.vv,
        (hk _ (by omega) (by omega)).trans hG.vs, (hk _ (by omega) (by omega)).trans hG.vt, hG.mn.of_block (hk _ (by omega) (by omega)), hG.ml.of_block (hk _ (by omega) (by omega)), hG.mo.of_block (hk _ (by omega) (by omega)), ?_, ?_⟩
      · exact Kd.R_of_own (own_move hr1 (fun k hk' => hk k (own_hi hr1 hk').2 (by have := hsv k hk'; omega))) (fun _ _ => trivial)
      · exact Kd.R_mono (Kd.R_step hO (fun k hk' hlt => hk k hlt (by have := hk'.2; omega))) (fun k hk' => hk'.1)
    · refine Kd.R_of_own ?_ (fun k hk' => by simpa [Value.ownBlock] using hk'.symm)
      rw [ints_len, hlen]
      exact ⟨how'.1, how'.2.imp id (fun ⟨g, cap, cur, e1, e2, e3⟩ => ⟨g, cap, cur, e1, Nat.le_trans hHc e2, e3⟩)⟩
    · exact Kd.R_step hO (fun k hk' hlt => hk k hlt (by have := hk'.2; omega))
/-- what the first statements leave -/
def EntPost (w0 : World) (B bn i : Nat) (st : TS) (A : Option Addr) (c : Nat) : Exit → Act → World → Prop
  | .normal, a, W => ∃ h sv2, a = { tmps := #[.int .i64 (i : Int), .pointer (some ⟨(B + 6), 0, none⟩), .pointer (some ⟨(B + 5), 0, none⟩), .pointer (some ⟨(B + 2), 0, none⟩), .pointer (some ⟨(B + 8), 0, none⟩), .pointer (some ⟨B, 0, none⟩), .pointer (some ⟨(B + 9), 0, none⟩), .pointer (some ⟨(B + 1), 0, none⟩), undef, undef, undef, undef, undef, undef, undef, undef, undef, .map (some (B + 4)), .int .i64 (i : Int), .map (some (B + 4)), .int .i64 (st.cnt : Int), .map (some (B + 3)), .int .i64 (i : Int), .map (some (B + 4)), .int .i64 (i : Int), .int .i64 (st.cnt : Int), .map (some (B + 7)), .int .i64 (i : Int), .slice A st.stack.length c, .int .i64 (i : Int), .slice (some ⟨h, 0, none⟩) 1 1, sv2, undef, undef, undef, undef, undef, undef, undef, undef, undef, undef, undef, undef, undef, undef, undef, undef, undef, undef, undef, undef, undef, undef, undef, undef, undef, undef, undef, undef, undef, undef, undef, undef, undef, undef, undef, undef, undef, undef, undef, undef, undef, undef, undef, undef, undef, undef, undef, undef, undef, undef, undef, undef, undef, undef, undef, undef, undef, undef, undef, undef, undef, undef, undef, undef, undef, undef, undef, undef, undef, undef, undef, undef, undef, undef, undef, undef, undef, undef, undef, undef, undef, undef, undef, undef, undef, undef, undef, undef, undef, undef, undef], defers := [] } ∧ TarAt w0 B bn W (enter i st)
  | _, _, _ => False
set_option maxRecDepth 100000 in
set_option maxHeartbeats 4000000 in
theorem vis145 {w0 : World} {bn bs n base : Nat} {L : List (List Nat)} {vs : List Value} (hnet : NetR w0 bn bs n base L vs) (hadj : ∀ v y, y ∈ adjL L v → y < n) :
    ∀ (f : Nat) (G : Nat → Prop) (i : Nat) (st : TS), Inv (adjL L) n G st → st.num i = none → i < n → unv n st ≤ f → ∀ W, TarAt w0 w0.heap.size bn W st → Calls Tryz.prog 145 (#[.int .i64 (i : Int)] ++ tarCap w0.heap.size) W (VisRet w0 w0.heap.size bn L f i st) := by
  intro f
  induction f with
  | zero =>
    intro G i st hi hn hin hu
    obtain ⟨st', e, _⟩ := visit_some hadj 0 G i st hi hn hin hu
    cases e
  | succ f ih =>
  intro G i st hi hni hin hu W hT
  obtain ⟨fn, fl, fo, nl, no, A, c, ov, hG, hM⟩ := hT
  obtain ⟨B, hB⟩ : ∃ B, B = w0.heap.size := ⟨_, rfl⟩
  rw [← hB] at hG ⊢
  have hsm := hnet.small
  have hcnt := hi.cntv
  have hslen := hi.slen
  have hik := key3 (k := i) (by omega)
  show Calls Tryz.prog 145 #[.int .i64 (i : Int), .pointer (some ⟨B + 6, 0, none⟩), .pointer (some ⟨B + 5, 0, none⟩), .pointer (some ⟨B + 2, 0, none⟩), .pointer (some ⟨B + 8, 0, none⟩), .pointer (some ⟨B, 0, none⟩), .pointer (some ⟨B + 9, 0, none⟩), .pointer (some ⟨B + 1, 0, none⟩)] W _
  have HI := Lib.hid hi; have HNET := Lib.hid hnet; have HADJ := Lib.hid hadj; have HIH := Lib.hid ih; have HG := Lib.hid hG; have HM := Lib.hid hM; have HB := Lib.hid hB; have HNI := Lib.hid hni
  have c6 := cell_one hG.vn
  have hlen : ∀ ty, (Builtin.len_ #[174] ty #[.map (some (B + 4))]).run Tryz.prog W = .ok (.int .i64 (st.cnt : Int)) W := fun ty => by
    obtain ⟨D, hD, hs⟩ := hG.mn.of_len
    rw [hD.len Tryz.underlying174 ty, hs]
  have hmn := hG.mn
  have hfi : fn (.int .i64 (i : Int)) = none := by rw [hM.n, hni]; rfl
  have hcn : st.cnt ≤ 1048576 := by omega
  have hcl : st.cnt < maxLen := by unfold maxLen; omega
  have HFI := Lib.hid hfi; have HIK := Lib.hid hik; have HMN := Lib.hid hmn; have HU := Lib.hid hu
  clear hnet hadj ih hG hM hB hi hni hmn hfi hik hu hcnt
  go_enter Tryz.func145, Tryz.ntmps145
  go_upto_region 1 with (at_mapUpdate; refine wp_put rfl _ _ _ 174 rfl 3 3 law3 Tryz.underlying174 (B + 4) st.cnt fn rfl HMN.out hcl (.int .i64 (i : Int)) (.int .i64 (st.cnt : Int)) _ rfl rfl HIK.out ?_; intro W1 hm1 hg1)
  have hG1 := HG.out.putN hm1 hg1
  rw [HFI.out] at hG1
  simp only [Option.isSome_none, Bool.false_eq_true, if_false] at hG1
  have hm1' := hG1.mn
  have c5 := cell_one hG1.vl
  have c61 := cell_one hG1.vn
  have hlk : (Instr.lookup 174 (.map (some (B + 4))) (.int .i64 (i : Int)) false).run Tryz.prog W1 = .ok (.int .i64 (st.cnt : Int)) W1 := by
    have := hm1'.look false law3 Tryz.underlying174 (zero3 _) HIK.out
    rw [upd_same] at this
    exact this
  have HG1 := Lib.hid hG1
  have hml := hG1.ml
  have hnl : nl < maxLen := by unfold maxLen; have := HM.out.nl; omega
  have HML := Lib.hid hml
  clear hm1 hg1 hG1 hm1' hml c6 hlen
  go_upto_region 2 with (at_mapUpdate; refine wp_put rfl _ _ _ 174 rfl 3 3 law3 Tryz.underlying174 (B + 3) nl fl rfl HML.out hnl (.int .i64 (i : Int)) (.int .i64 (st.cnt : Int)) _ rfl rfl HIK.out ?_; intro W2 hm2 hg2)
  have hfl : fl (.int .i64 (i : Int)) = none := HM.out.l0 i HNI.out
  have hG2 := HG1.out.putL hm2 hg2
  rw [hfl] at hG2
  simp only [Option.isSome_none, Bool.false_eq_true, if_false] at hG2
  have c2 := cell_one hG2.vs
  have f2 := frozen_one hG2.vs
  have c8 := cell_one hG2.vo
  have hfo : fo (.int .i64 (i : Int)) = none := HM.out.o0 i HNI.out
  have HG2 := Lib.hid hG2; have HFO := Lib.hid hfo
  clear hm2 hg2 hG2 hfl hfo c5 c61 hlk
  refine Code.wp_mono (Q := EntPost w0 B bn i st A c) ?_ ?_
  rotate_left
  · have hnoc : no < maxLen := by unfold maxLen; have := HM.out.no; omega
    obtain ⟨i0, hi0, hz0, hz1, hz2⟩ := info_parts info3
    have hsz2 := HG2.out.size
    have hown : W2.ownsRow (B + 10) 3 1 (.slice A st.stack.length c) st.stack.length (nats st.stack) := by
      have h := Kd.own_of_R HG2.out.rs
      rw [ints_len, ← nats_encs] at h
      exact h
    have hslk : st.stack.length ≤ 1048576 := by omega
    have HOWN := Lib.hid hown
    clear hown
    have hob : ∀ k, (Value.slice A st.stack.length c).ownBlock = some k → B + 10 ≤ k := fun k e => (own_hi HOWN.out e).1
    have n8 : (Value.slice A st.stack.length c).ownBlock ≠ some (B + 8) := fun e => by have := hob _ e; omega
    have n2 : (Value.slice A st.stack.length c).ownBlock ≠ some (B + 2) := fun e => by have := hob _ e; omega
    have HOB := Lib.hid hob
    have hbn : Below W2.heap.size W2 (W2.alloc (.cells #[.int .i64 (i : Int)] 3)).drew := ((Below.refl _ _).alloc (Nat.le_refl _) _).drew
    have c8n := (hbn.cell (World.block_lt_of_cell? _ _ c8)).trans c8
    have c2n := (hbn.cell (World.block_lt_of_cell? _ _ c2)).trans c2
    have f2n := (hbn.frozen (World.block_lt_of_cell? _ _ c2)).trans f2
    have HBN := Lib.hid hbn
    clear hob hbn
    go_region_law ((refine step_append_lies _ (by rfl) _ _ _ (by rfl) (B + 10) 3 i0 _ 1 8 Tryz.underlying28 hi0 hz0 hz1 hz2 rfl (by omega) (.slice A st.stack.length c) st.stack.length (nats st.stack) (by rfl) ((HOWN.out.alloc _).drew) ⟨W2.heap.size, 0, none⟩ 1 1 [.int .i64 (i : Int)] (by rfl) (by rfl) (World.news_of_block (cs := #[.int .i64 (i : Int)]) (t := 3) (fr := (0, 0)) (heap_alloc_new W2 _)) (by simp [Value.oneCell']) (by omega) (by unfold maxLen; omega) (by omega) (by simp; omega) (W2.heap.size + 1) (by simp) ?_; intro gg cap w1 hown1 hgrow hat hlt; have e8 := (hgrow.cell_far ⟨B + 8, 0, none⟩ (by simp; omega) (Ne.symm n8)).trans c8n; have e2 := (hgrow.cell_far ⟨B + 2, 0, none⟩ (by simp; omega) (Ne.symm n2)).trans c2n; have e3 := (hgrow.frozen_far ⟨B + 2, 0, none⟩ (by simp; omega) (Ne.symm n2)).trans f2n; have hGp := ((HG2.out.next HBN.out).push hown1 hgrow (hat.imp id (fun h => by rw [h]; simp))); obtain ⟨w9, hrun9, hm9, hg9⟩ := hGp.mo.put law3 Tryz.underlying134 hnoc HIK.out (.bool true); have HGP := Lib.hid hGp; have HM9 := Lib.hid hm9; have HG9 := Lib.hid hg9; clear hGp hm9 hg9))
    all_goals
      have hm9' := HM9.out
      rw [HFO.out] at hm9'
      simp only [Option.isSome_none, Bool.false_eq_true, if_false] at hm9'
      refine ⟨W2.heap.size, .slice (some ⟨gg, 0, none⟩) (st.stack.length + 1) cap, rfl, ?_⟩
      have hfin := HGP.out.putO hm9' HG9.out
      refine ⟨_, _, _, nl + 1, no + 1, some ⟨gg, 0, none⟩, cap, ov, ?_, HM.out.ent HNI.out⟩
      have el : (enter i st).stack.length = st.stack.length + 1 := by simp [enter]
      rw [el]
      exact hfin
  · rintro e a W3 hP
    cases e <;> try exact hP.elim
    obtain ⟨h, sv2, rfl, hT3⟩ := hP
    obtain ⟨row, hrow⟩ : ∃ row, row = adjL L i := ⟨_, rfl⟩
    have hLi : L[i]? = some row := by
      have hl := HNET.out.len
      rw [hrow]; unfold adjL
      rw [List.getD_eq_getElem?_getD, List.getElem?_eq_getElem (by omega)]; rfl
    obtain ⟨A5, c5, hv5, hcell5, hfz5, hlc5, hC5, hown5⟩ := HNET.out.by_.get hLi
    rw [ints_len] at hC5
    have hbe : ∀ W', (∃ st', TarAt w0 B bn W' st') → Below w0.heap.size w0 W' := fun W' h => by
      obtain ⟨st', _, _, _, _, _, _, _, _, h1, _⟩ := h
      rw [← HB.out]; exact h1.below
    have hb3 := hbe _ ⟨_, hT3⟩
    have d1 : W3.cell? ⟨B, 0, none⟩ = some (.pointer (some ⟨bn, 0, none⟩)) := by obtain ⟨_, _, _, _, _, _, _, _, h1, _⟩ := hT3; exact cell_one h1.vb
    have d2 := (hb3.cell (World.block_lt_of_cell? _ _ HNET.out.cell)).trans HNET.out.cell
    have d3 := (hb3.cell (World.block_lt_of_cell? _ _ hcell5)).trans hcell5
    have hi0 : (0 : Int) ≤ (i : Int) := by omega
    have hi1 : (i : Int) < (n : Int) := by omega
    have hmid := mid_enter HI.out HNI.out hin
    have hrl : row.length ≤ 9223372036854775807 := by have := hC5.2.1; unfold maxLen at this; exact this
    have HMID := Lib.hid hmid; have HROW := Lib.hid hrow; have HT3 := Lib.hid hT3; have HBE := Lib.hid hbe; have HC5 := Lib.hid hC5
    clear hmid hrow hT3 hbe hv5 hfz5 hown5 hC5 hcell5 hb3 hLi c2 f2 c8 hcl hnl
    go_wp2_with fail
    go_loopw [40] (fun q Wr => ∃ (j : Nat) (sj : TS), j ≤ row.length ∧ q = .int .i64 j ∧ TarAt w0 B bn Wr sj ∧ Mid (adjL L) n G i st (row.take j) sj ∧ loopF (visitF (adjL L) f) i (row.drop j) sj = loopF (visitF (adjL L) f) i row (enter i st)) (fun q _ => row.length - (intOf q).toNat)
    case atStart => exact ⟨0, _, Nat.zero_le _, rfl, HT3.out, HMID.out, rfl⟩
    case round =>
      obtain ⟨j, sj, hj, rfl, hTj, hmj, hlj⟩ := hrel
      have HTJ := Lib.hid hTj; have HMJ := Lib.hid hmj; have HLJ := Lib.hid hlj
      obtain ⟨gn, gl, go, ml, mo, A6, cp6, ov6, hG6, hM6⟩ := hTj
      clear hmj hlj
      by_cases hlt : j < row.length
      · obtain ⟨ad, hA5, hcx⟩ := nt_int (Kd.C_below HC5.out (HBE.out wr ⟨_, HTJ.out⟩)) j (by rw [ints_len]; exact hlt)
        subst hA5
        have hxj : (ints row)[j]'(by rw [ints_len]; exact hlt) = ((row[j] : Nat) : Int) := by simp [ints]
        rw [hxj] at hcx
        have hmem : row[j] ∈ adjL L i := by rw [← HROW.out]; exact List.getElem_mem hlt
        have hkn := HADJ.out _ _ hmem
        have hdrop : row.drop j = row[j] :: row.drop (j + 1) := List.drop_eq_getElem_cons hlt
        have htake : row.take (j + 1) = row.take j ++ [row[j]] := List.take_succ_eq_append_getElem hlt
        generalize row[j] = k at hcx hmem hkn hdrop htake
        have hkk := key3 (k := k) (by omega)
        have c6 := cell_one hG6.vn
        have hlk := hG6.mn.look true law3 Tryz.underlying174 (zero3 _) hkk
        rw [hM6.n k] at hlk
        have HG6 := Lib.hid hG6; have HM6 := Lib.hid hM6; have HKK := Lib.hid hkk; have HDR := Lib.hid hdrop; have HTK := Lib.hid htake; have HMEM := Lib.hid hmem
        clear hG6 hM6 hkk hdrop htake hmem hxj
        cases hnk : sj.num k with
        | none =>
          rw [hnk] at hlk
          have hlk' : (Instr.lookup 174 (.map (some (B + 4))) (.int .i64 (k : Int)) true).run Tryz.prog wr = .ok (.tuple #[.int .i64 0, .bool false]) wr := hlk
          have hcv : wr.cell? ⟨B + 9, 0, none⟩ = some (.func (.func 145) #[] (tarCap B)) := cell_one HG6.out.vv
          have hun : unv n sj ≤ f := by
            have h1 : unv n sj < unv n st := unv_lt HMJ.out.num hin HNI.out (by rw [HMJ.out.self]; simp)
            have h2 := HU.out
            omega
          have hcall := HIH.out _ k sj HMJ.out.inv hnk hkn hun wr (HB.out ▸ HTJ.out)
          rw [← HB.out] at hcall
          have HCALL := Lib.hid hcall; have HNK := Lib.hid hnk; have HUN := Lib.hid hun
          have heg := enters145
          clear hlk hcall hnk hun
          go_upto_region 9 with ((with_reducible refine HCALL.out.mono ?_); rintro e W4 ⟨rfl, s4, hv4, hT4⟩)
          obtain ⟨s4', e4, hP⟩ := visit_some HADJ.out f _ k sj HMJ.out.inv HNK.out hkn HUN.out
          obtain rfl : s4' = s4 := by rw [e4] at hv4; injection hv4
          obtain ⟨pn, pl, po, ql, qo, A7, c7, ov7, hG7, hM7⟩ := hT4
          have hni4 : s4'.num i = some st.cnt := hP.num i _ HMJ.out.self
          obtain ⟨mk, hnk4⟩ : ∃ mk, s4'.num k = some mk := by
            cases h : s4'.num k with
            | none => exact absurd h hP.self
            | some mk => exact ⟨mk, rfl⟩
          have c5' := cell_one hG7.vl
          have hl1 : (Instr.lookup 174 (.map (some (B + 3))) (.int .i64 (i : Int)) false).run Tryz.prog W4 = .ok (.int .i64 (s4'.low i : Int)) W4 := by
            have := hG7.ml.look false law3 Tryz.underlying174 (zero3 _) HIK.out
            rw [hM7.l i _ hni4] at this
            exact this
          have hl2 : (Instr.lookup 174 (.map (some (B + 3))) (.int .i64 (k : Int)) false).run Tryz.prog W4 = .ok (.int .i64 (s4'.low k : Int)) W4 := by
            have := hG7.ml.look false law3 Tryz.underlying174 (zero3 _) HKK.out
            rw [hM7.l k _ hnk4] at this
            exact this
          have hmid := mid_new HI.out HMJ.out HMEM.out HNK.out HNI.out hP
          rw [← HTK.out] at hmid
          have hlp : loopF (visitF (adjL L) f) i (row.drop (j + 1)) (setLow s4' i (min (s4'.low i) (s4'.low k))) = loopF (visitF (adjL L) f) i row (enter i st) := by
            rw [← HLJ.out, HDR.out]
            simp only [loopF, HNK.out, e4, Option.bind_some]
          have hML := hG7.ml
          have hq : ql < maxLen := by unfold maxLen; have := hM7.nl; have := hP.inv.cntv; omega
          have hmin : mn (s4'.low i : Int) (s4'.low k : Int) = ((min (s4'.low i) (s4'.low k) : Nat) : Int) := by unfold mn; split <;> omega
          have hfs : pl (.int .i64 (i : Int)) = some (.int .i64 (s4'.low i : Int)) := hM7.l i _ hni4
          have HMIN := Lib.hid hmin; have HML := Lib.hid hML; have HFS := Lib.hid hfs; have HG7 := Lib.hid hG7; have HM7 := Lib.hid hM7; have HMD := Lib.hid hmid; have HLP := Lib.hid hlp; have HNI4 := Lib.hid hni4
          clear hmin hML hfs hG7 hM7 hmid hlp hni4 hnk4 hP e4 hv4
          by_cases hc : s4'.low k < s4'.low i
          · have hci : (s4'.low k : Int) < (s4'.low i : Int) := by omega
            go_upto_region 12 with (at_mapUpdate; refine wp_put rfl _ _ _ 174 rfl 3 3 law3 Tryz.underlying174 (B + 3) ql pl rfl HML.out hq (.int .i64 (i : Int)) (.int .i64 (s4'.low k : Int)) _ rfl rfl HIK.out ?_; intro W5 hm5 hg5)
            have hG8 := HG7.out.putL hm5 hg5
            rw [HFS.out] at hG8
            simp only [Option.isSome_some, if_true] at hG8
            have hfin : TarAt w0 B bn W5 (setLow s4' i (min (s4'.low i) (s4'.low k))) := by
              have h9 := HM7.out.setL HNI4.out (min (s4'.low i) (s4'.low k))
              rw [show min (s4'.low i) (s4'.low k) = s4'.low k from by omega] at h9 ⊢
              exact ⟨_, _, _, _, _, _, _, _, hG8, h9⟩
            have HFIN := Lib.hid hfin
            clear hfin hG8 hm5 hg5
            go_wp2_with fail
            go_roundw
            case rel => exact ⟨j + 1, _, by omega, by go_num, HFIN.out, HMD.out, HLP.out⟩
            case measure => simp [intOf]; omega
          · have hci : ¬ (s4'.low k : Int) < (s4'.low i : Int) := by omega
            go_upto_region 12 with (at_mapUpdate; refine wp_put rfl _ _ _ 174 rfl 3 3 law3 Tryz.underlying174 (B + 3) ql pl rfl HML.out hq (.int .i64 (i : Int)) (.int .i64 (s4'.low i : Int)) _ rfl rfl HIK.out ?_; intro W5 hm5 hg5)
            have hG8 := HG7.out.putL hm5 hg5
            rw [HFS.out] at hG8
            simp only [Option.isSome_some, if_true] at hG8
            have hfin : TarAt w0 B bn W5 (setLow s4' i (min (s4'.low i) (s4'.low k))) := by
              have h9 := HM7.out.setL HNI4.out (min (s4'.low i) (s4'.low k))
              rw [show min (s4'.low i) (s4'.low k) = s4'.low i from by omega] at h9 ⊢
              exact ⟨_, _, _, _, _, _, _, _, hG8, h9⟩
            have HFIN := Lib.hid hfin
            clear hfin hG8 hm5 hg5
            go_wp2_with fail
            go_roundw
            case rel => exact ⟨j + 1, _, by omega, by go_num, HFIN.out, HMD.out, HLP.out⟩
            case measure => simp [intOf]; omega
        | some m =>
          rw [hnk] at hlk
          have hlk' : (Instr.lookup 174 (.map (some (B + 4))) (.int .i64 (k : Int)) true).run Tryz.prog wr = .ok (.tuple #[.int .i64 (m : Int), .bool true]) wr := hlk
          have c8 : wr.cell? ⟨B + 8, 0, none⟩ = some (.map (some (B + 7))) := cell_one HG6.out.vo
          have hlo : (Instr.lookup 134 (.map (some (B + 7))) (.int .i64 (k : Int)) false).run Tryz.prog wr = .ok (.bool (sj.on k)) wr := by
            have := HG6.out.mo.look false law3 Tryz.underlying134 (zero4' _) HKK.out
            rw [HM6.out.o k m hnk] at this
            exact this
          have hmid := mid_seen HI.out HMJ.out HMEM.out hnk HNI.out
          rw [← HTK.out] at hmid
          have hlp : loopF (visitF (adjL L) f) i (row.drop (j + 1)) (if sj.on k then setLow sj i (min (sj.low i) m) else sj) = loopF (visitF (adjL L) f) i row (enter i st) := by
            rw [← HLJ.out, HDR.out]
            simp only [loopF, hnk]
          have HNK := Lib.hid hnk
          clear hlk hnk
          cases hon : sj.on k with
          | false =>
            rw [hon] at hlo hmid hlp
            simp only [Bool.false_eq_true, if_false] at hmid hlp
            have HMD := Lib.hid hmid; have HLP := Lib.hid hlp
            clear hmid hlp hon
            go_wp2_with fail
            go_roundw
            case rel => exact ⟨j + 1, _, by omega, by go_num, HTJ.out, HMD.out, HLP.out⟩
            case measure => simp [intOf]; omega
          | true =>
            rw [hon] at hlo hmid hlp
            simp only [if_true] at hmid hlp
            have hni4 : sj.num i = some st.cnt := HMJ.out.self
            have c5' : wr.cell? ⟨B + 5, 0, none⟩ = some (.map (some (B + 3))) := cell_one HG6.out.vl
            have hl1 : (Instr.lookup 174 (.map (some (B + 3))) (.int .i64 (i : Int)) false).run Tryz.prog wr = .ok (.int .i64 (sj.low i : Int)) wr := by
              have := HG6.out.ml.look false law3 Tryz.underlying174 (zero3 _) HIK.out
              rw [HM6.out.l i _ hni4] at this
              exact this
            have hl2 : (Instr.lookup 174 (.map (some (B + 4))) (.int .i64 (k : Int)) false).run Tryz.prog wr = .ok (.int .i64 (m : Int)) wr := by
              have := HG6.out.mn.look false law3 Tryz.underlying174 (zero3 _) HKK.out
              rw [HM6.out.n k, HNK.out] at this
              exact this
            have hML := HG6.out.ml
            have hq : ml < maxLen := by unfold maxLen; have := HM6.out.nl; have := HMJ.out.inv.cntv; omega
            have hfs : gl (.int .i64 (i : Int)) = some (.int .i64 (sj.low i : Int)) := HM6.out.l i _ hni4
            have HML := Lib.hid hML; have HFS := Lib.hid hfs; have HMD := Lib.hid hmid; have HLP := Lib.hid hlp; have HNI4 := Lib.hid hni4
            clear hML hfs hmid hlp hni4 hon
            by_cases hc : m < sj.low i
            · have hci : (m : Int) < (sj.low i : Int) := by omega
              go_upto_region 12 with (at_mapUpdate; refine wp_put rfl _ _ _ 174 rfl 3 3 law3 Tryz.underlying174 (B + 3) ml gl rfl HML.out hq (.int .i64 (i : Int)) (.int .i64 (m : Int)) _ rfl rfl HIK.out ?_; intro W5 hm5 hg5)
              have hG8 := HG6.out.putL hm5 hg5
              rw [HFS.out] at hG8
              simp only [Option.isSome_some, if_true] at hG8
              have hfin : TarAt w0 B bn W5 (setLow sj i (min (sj.low i) m)) := by
                have h9 := HM6.out.setL HNI4.out (min (sj.low i) m)
                rw [show min (sj.low i) m = m from by omega] at h9 ⊢
                exact ⟨_, _, _, _, _, _, _, _, hG8, h9⟩
              have HFIN := Lib.hid hfin
              clear hfin hG8 hm5 hg5
              go_wp2_with fail
              go_roundw
              case rel => exact ⟨j + 1, _, by omega, by go_num, HFIN.out, HMD.out, HLP.out⟩
              case measure => simp [intOf]; omega
            · have hci : ¬ (m : Int) < (sj.low i : Int) := by omega
              go_upto_region 12 with (at_mapUpdate; refine wp_put rfl _ _ _ 174 rfl 3 3 law3 Tryz.underlying174 (B + 3) ml gl rfl HML.out hq (.int .i64 (i : Int)) (.int .i64 (sj.low i : Int)) _ rfl rfl HIK.out ?_; intro W5 hm5 hg5)
              have hG8 := HG6.out.putL hm5 hg5
              rw [HFS.out] at hG8
              simp only [Option.isSome_some, if_true] at hG8
              have hfin : TarAt w0 B bn W5 (setLow sj i (min (sj.low i) m)) := by
                have h9 := HM6.out.setL HNI4.out (min (sj.low i) m)
                rw [show min (sj.low i) m = sj.low i from by omega] at h9 ⊢
                exact ⟨_, _, _, _, _, _, _, _, hG8, h9⟩
              have HFIN := Lib.hid hfin
              clear hfin hG8 hm5 hg5
              go_wp2_with fail
              go_roundw
              case rel => exact ⟨j + 1, _, by omega, by go_num, HFIN.out, HMD.out, HLP.out⟩
              case measure => simp [intOf]; omega
      · obtain rfl : j = row.length := by omega
        have hmE := HMJ.out
        rw [List.take_length, HROW.out] at hmE
        have hvE : visitF (adjL L) (f + 1) i st = some (leave (adjL L) i sj) := by
          have h := HLJ.out
          rw [List.drop_length] at h
          simp only [loopF] at h
          simp only [visitF]
          rw [← HROW.out, ← h]; rfl
        have c5' : wr.cell? ⟨B + 5, 0, none⟩ = some (.map (some (B + 3))) := cell_one hG6.vl
        have c6 := cell_one hG6.vn
        have hl1 : (Instr.lookup 174 (.map (some (B + 3))) (.int .i64 (i : Int)) false).run Tryz.prog wr = .ok (.int .i64 (sj.low i : Int)) wr := by
          have := hG6.ml.look false law3 Tryz.underlying174 (zero3 _) HIK.out
          rw [hM6.l i _ hmE.self] at this
          exact this
        have hl2 : (Instr.lookup 174 (.map (some (B + 4))) (.int .i64 (i : Int)) false).run Tryz.prog wr = .ok (.int .i64 (st.cnt : Int)) wr := by
          have := hG6.mn.look false law3 Tryz.underlying174 (zero3 _) HIK.out
          rw [hM6.n i, hmE.self] at this
          exact this
        by_cases hroot : sj.low i = st.cnt
        · have hd : ((sj.low i : Int) != (st.cnt : Int)) = false := by simp; omega
          obtain ⟨s, hs, hsn, hsl⟩ := hmE.seg
          have hi0 : i ∉ st.stack := fun hc => by obtain ⟨m, hm⟩ := HI.out.vis i hc; rw [HNI.out] at hm; cases hm
          have hix : sj.stack.idxOf i = st.stack.length := by rw [hs]; exact idxOf_seg hi0
          have htake : sj.stack.take (sj.stack.idxOf i) = st.stack := by rw [hix, hs]; simp
          have hdrop : sj.stack.drop (sj.stack.idxOf i) = i :: s := by rw [hix, hs]; simp
          have heq : leave (adjL L) i sj = { sj with stack := st.stack, on := fun k => if k ∈ i :: s then false else sj.on k, out := if 1 < (i :: s).length ∨ i ∈ adjL L i then sj.out ++ [sortN (i :: s)] else sj.out } := by
            unfold leave
            rw [hmE.self, htake, hdrop]
            exact if_pos hroot
          have hlen : sj.stack.length = st.stack.length + (s.length + 1) := by rw [hs]; simp
          have hrs := hG6.rs
          obtain ⟨g, cap, hv, hbase, hglt, cells, hcells⟩ := Kd.R_form hrs (by rw [ints_len]; omega)
          have e1 : A6 = some ⟨g, 0, none⟩ := by injection hv
          have e2 : cp6 = cap := by injection hv
          subst e1
          have hlc := (Kd.R_reads' hrs).2.1
          have hC := (Kd.R_reads' hrs).2.2
          have hixc : Calls Tryz.prog 146 #[.slice (some ⟨g, 0, none⟩) sj.stack.length cp6, .int .i64 (i : Int)] wr fun e w' => e = .returned (.int .i64 (st.stack.length : Int)) ∧ wr = w' := by
            have h := index146 (some ⟨g, 0, none⟩) cp6 (ints sj.stack) (i : Int) wr hC
            rw [ints_len, hs, firstI_seg hi0, ← hs] at h
            exact h.mono fun e w' ⟨h1, h2⟩ => ⟨h1, h2.symm⟩
          have cB2 := cell_one hG6.vs
          have hq0 : (0 : Int) ≤ (st.stack.length : Int) := by omega
          have hq1 : (st.stack.length : Int) ≤ (sj.stack.length : Int) := by omega
          have HIXC := Lib.hid hixc; have HG6 := Lib.hid hG6; have HM6 := Lib.hid hM6; have HS := Lib.hid hs; have HHEQ := Lib.hid heq; have HC := Lib.hid hC; have HVE := Lib.hid hvE; have HME := Lib.hid hmE
          have hcne : ¬ cp6 = st.stack.length := by omega
          have hcln : Calls Tryz.prog 126 #[.slice (some ⟨g, st.stack.length, none⟩) (sj.stack.length - st.stack.length) (cp6 - st.stack.length)] wr fun e w' => ∃ A8 c8, e = .returned (.slice A8 (s.length + 1) c8) ∧ w'.ownsRow wr.heap.size 3 1 (.slice A8 (s.length + 1) c8) (s.length + 1) (nats (i :: s)) ∧ Below wr.heap.size wr w' := by
            have hsl2 := hmE.inv.slen
            have hcv2 := hmE.inv.cntv
            rw [show sj.stack.length - st.stack.length = s.length + 1 from by omega]
            have h := Tryz.slices_Clone_int g st.stack.length (s.length + 1) (cp6 - st.stack.length) (ints (i :: s)) wr (by rw [ints_len]; simp) (by omega) (fun q hq => by
              rw [ints_len, List.length_cons] at hq
              obtain ⟨ad, ea, hcq⟩ := nt_int hC (st.stack.length + q) (by rw [ints_len]; omega)
              injection ea with ea
              subst ea
              have e3 : some ((ints sj.stack)[st.stack.length + q]'(by rw [ints_len]; omega)) = some ((ints (i :: s)).getD q 0) := by
                rw [← List.getElem?_eq_getElem, List.getD_eq_getElem?_getD]
                have e4 : (ints sj.stack)[st.stack.length + q]? = (ints (i :: s))[q]? := by
                  rw [hs]
                  simp only [ints, List.getElem?_map]
                  rw [List.getElem?_append_right (by omega), Nat.add_sub_cancel_left]
                rw [e4, List.getElem?_eq_getElem (by rw [ints_len]; exact hq)]; rfl
              injection e3 with e3
              rw [← e3]
              have ea2 : (⟨g, 0, none⟩ : Addr).add (st.stack.length + q) = ⟨g, st.stack.length + q, none⟩ := by unfold Addr.add; split <;> simp_all
              rw [ea2] at hcq
              exact hcq)
            refine h.mono fun e w' ⟨v', he, ho, _, hb⟩ => ?_
            rw [show (ints (i :: s)).take (s.length + 1) = ints (i :: s) from by rw [List.take_of_length_le]; rw [ints_len]; simp] at ho
            obtain ⟨A8, c8, rfl⟩ := own_shape ho
            exact ⟨A8, c8, he, by rw [nats_encs]; exact ho, hb⟩
          have HCLN := Lib.hid hcln
          clear hcln
          have fB2 := frozen_one hG6.vs
          have HLEN := Lib.hid hlen; have HE2 := Lib.hid e2; have HLC := Lib.hid hlc
          clear hixc hG6 hM6 hs heq hC hvE hmE hrs hsn hsl hix htake hdrop hv hlen e2 hroot
          go_upto_region 15 with (go_at_call 146; (with_reducible refine (HIXC.out).mono ?_); rintro e W' ⟨rfl, rfl⟩)
          go_upto_region 17 with (first | (go_at_call 126; (with_reducible refine (HCLN.out).mono ?_); rintro e W4 ⟨A8, c8, rfl, hown8, hb8⟩; have cB2' := (hb8.cell (World.block_lt_of_cell? _ _ cB2)).trans cB2; have fB2' := (hb8.frozen (World.block_lt_of_cell? _ _ cB2)).trans fB2))
          obtain ⟨W5, hW5⟩ : ∃ W5, W5 = W4.setCell ⟨B + 2, 0, none⟩ (.slice (some ⟨g, 0, none⟩) st.stack.length cp6) := ⟨_, rfl⟩
          have hsz6 := HG6.out.size
          have hG8 := (HG6.out.next hb8).cut (m := st.stack.length) (by have := HLEN.out; omega)
          rw [show sj.stack.take st.stack.length = st.stack from by rw [HS.out]; simp, ← hW5] at hG8
          have hM8 : TarM (offT sj st.stack (i :: s) 0) gn gl go ml mo := HM6.out.cutS _ _
          have hR8 : (Kd.int .i64).R 3 W5 wr.heap.size (fun _ => True) (.slice A8 (s.length + 1) c8) (ints (i :: s)) := by
            refine Kd.R_of_own ?_ (fun _ _ => trivial)
            rw [ints_len, ← nats_encs, hW5]
            exact own_move hown8 (fun k hk => heap_other (by have := (own_hi hown8 hk).1; omega))
          have hO8 : (Kd.slice 3 (Kd.int .i64)).R 28 W5 (B + 10) (fun k => some k ≠ (Value.slice (some ⟨g, 0, none⟩) st.stack.length cp6).ownBlock ∧ k < wr.heap.size) ov6 (sj.out.map ints) := by
            have h1 := Kd.R_mono (Kd.R_bound HG6.out.ro) (ok' := fun k => some k ≠ (Value.slice (some ⟨g, 0, none⟩) st.stack.length cp6).ownBlock ∧ k < wr.heap.size) (fun k hk => ⟨hk.1, hk.2.2.1⟩)
            rw [hW5]
            exact R_hi (Kd.R_below h1 hb8) (fun k hk _ => heap_other (by omega))
          have hz5 : wr.heap.size ≤ W5.heap.size := by rw [hW5]; simp; exact hb8.size
          have hvis : ∀ q, (hq : q < (i :: s).length) → ∃ m, sj.num (i :: s)[q] = some m := fun q hq => HME.out.inv.vis _ (by rw [HS.out]; exact List.mem_append_right _ (List.getElem_mem hq))
          have hgl : (i :: s).length = s.length + 1 := rfl
          have hsb : s.length + 1 ≤ 1048576 := by have := HLEN.out; have := HME.out.inv.slen; have := HME.out.inv.cntv; omega
          generalize hgrp : (i :: s) = grp at *
          generalize hln : s.length + 1 = ln at *
          obtain ⟨Hc, hHc⟩ : ∃ Hc, Hc = wr.heap.size := ⟨_, rfl⟩
          rw [← hHc] at hR8 hz5 hO8 hsz6
          have HM8 := Lib.hid hM8; have HG8 := Lib.hid hG8; have HO8 := Lib.hid hO8; have HR8 := Lib.hid hR8; have HW5 := Lib.hid hW5; have HZ5 := Lib.hid hz5; have HVIS := Lib.hid hvis; have HGL := Lib.hid hgl; have HGRP := Lib.hid hgrp; have HHC := Lib.hid hHc; have HLN := Lib.hid hln
          rw [← hW5]
          clear hM8 hG8 hO8 hR8 hz5 hvis hgl hgrp hW5 cB2' fB2' cB2 fB2 hb8 hown8 hl1 hl2 c6 c5' hHc hln
          go_wp2_with fail
          go_loopw [96] (fun q Wr => ∃ (p : Nat) (fo' : Lit → Option Value) (no' : Nat), p ≤ ln ∧ q = .int .i64 p ∧ TarG w0 B bn gn gl fo' sj.cnt ml no' st.stack sj.out (.slice (some ⟨g, 0, none⟩) st.stack.length cp6) ov6 Wr ∧ TarM (offT sj st.stack grp p) gn gl fo' ml no' ∧ (Kd.int .i64).R 3 Wr Hc (fun _ => True) (.slice A8 ln c8) (ints grp) ∧
              (Kd.slice 3 (Kd.int .i64)).R 28 Wr (B + 10) (fun k => some k ≠ (Value.slice (some ⟨g, 0, none⟩) st.stack.length cp6).ownBlock ∧ k < Hc) ov6 (sj.out.map ints) ∧ Hc ≤ Wr.heap.size) (fun q _ => ln - (intOf q).toNat)
          case atStart => exact ⟨0, _, _, Nat.zero_le _, rfl, HG8.out, HM8.out, HR8.out, HO8.out, HZ5.out⟩
          case round =>
            obtain ⟨p, po, qo, hp, rfl, hG7, hM7, hRp, hOp, hzp⟩ := hrel
            have HRP := Lib.hid hRp; have HZP := Lib.hid hzp; have HOP := Lib.hid hOp
            clear hOp
            by_cases hlt3 : p < ln
            · have hlg : p < grp.length := by rw [HGL.out]; exact hlt3
              have hC8 := (Kd.R_reads' hRp).2.2
              obtain ⟨ad8, hA8, hcx8⟩ := nt_int hC8 p (by rw [ints_len]; exact hlg)
              subst hA8
              rw [show (ints grp)[p]'(by rw [ints_len]; exact hlg) = ((grp[p] : Nat) : Int) from by simp [ints]] at hcx8
              obtain ⟨mk, hmk⟩ := HVIS.out p hlg
              have hkk := key3 (k := grp[p]) (by have := (HME.out.inv.dom _ _ hmk).1; omega)
              have hos := hM7.on_some (show (offT sj st.stack grp p).num grp[p] = some mk from hmk)
              have hoff := hM7.off hlg hmk
              generalize grp[p] = kk at hcx8 hkk hos hoff
              have c8' := cell_one hG7.vo
              have hMO := hG7.mo
              have hq : qo < maxLen := by unfold maxLen; have h1 := hM7.no; have := HME.out.inv.cntv; rw [show (offT sj st.stack grp p).cnt = sj.cnt from rfl] at h1; omega
              have HKK := Lib.hid hkk; have HOS := Lib.hid hos; have HOFF := Lib.hid hoff; have HG7 := Lib.hid hG7; have HMO := Lib.hid hMO
              clear hkk hos hoff hG7 hM7 hMO hC8 hRp hmk hlg
              go_upto_region 21 with (at_mapUpdate; refine wp_put rfl _ _ _ 134 rfl 3 4 law3 Tryz.underlying134 (B + 7) qo po rfl HMO.out hq (.int .i64 (kk : Int)) (.bool false) _ rfl rfl HKK.out ?_; intro W6 hm6 hg6)
              have hG9 := HG7.out.putO hm6 hg6
              rw [HOS.out] at hG9
              simp only [if_true] at hG9
              have hR9 : (Kd.int .i64).R 3 W6 Hc (fun _ => True) (.slice (some ad8) ln c8) (ints grp) := R_hi HRP.out (fun b h1 h2 => hg6.block b h2 (fun e => by injection e with e; omega))
              have hO9 := R_hi (W' := W6) HOP.out (fun b h1 h2 => hg6.block b h2 (fun e => by injection e with e; omega))
              have hz9 : Hc ≤ W6.heap.size := Nat.le_trans HZP.out hg6.size
              have HG9 := Lib.hid hG9; have HR9 := Lib.hid hR9; have HO9 := Lib.hid hO9; have HZ9 := Lib.hid hz9
              clear hR9 hG9 hm6 hg6 hz9 hO9
              go_wp2_with fail
              go_roundw
              case rel => exact ⟨p + 1, _, _, by omega, by go_num, HG9.out, HOFF.out, HR9.out, HO9.out, HZ9.out⟩
              case measure => simp [intOf]; omega
            · obtain rfl : p = ln := by omega
              have hb9 : Below w0.heap.size w0 wr := HB.out ▸ hG7.below
              have hon : (offT sj st.stack grp p).on = fun k => if k ∈ grp then false else sj.on k := by
                show (fun k => if k ∈ grp.take p then false else sj.on k) = _
                rw [List.take_of_length_le (by rw [HGL.out]; exact Nat.le_refl _)]
              have d1' : wr.cell? ⟨B, 0, none⟩ = some (.pointer (some ⟨bn, 0, none⟩)) := cell_one hG7.vb
              have d2' := (hb9.cell (World.block_lt_of_cell? _ _ HNET.out.cell)).trans HNET.out.cell
              have d7' := cell_one hG7.vt
              have hLi2 : L[i]? = some row := by
                have hl := HNET.out.len
                rw [HROW.out]; unfold adjL
                rw [List.getD_eq_getElem?_getD, List.getElem?_eq_getElem (by omega)]; rfl
              obtain ⟨A5', c5x, _, hcell5, _, _, hC5x, _⟩ := HNET.out.by_.get hLi2
              have hcl5 := (hb9.cell (World.block_lt_of_cell? _ _ hcell5)).trans hcell5
              have hct : Calls Tryz.prog 144 #[.slice A5' row.length c5x, .int .i64 (i : Int)] wr fun e w' => e = .returned (.bool (hasI (ints row) (i : Int))) ∧ wr = w' := by
                have h := contains144 A5' c5x (ints row) (i : Int) wr (Kd.C_below hC5x hb9)
                rw [ints_len] at h
                exact h.mono fun e w' ⟨h1, h2⟩ => ⟨h1, h2.symm⟩
              obtain ⟨g8, cap8, hv8, hg8, _, _⟩ := Kd.R_form HRP.out (by rw [ints_len, HGL.out]; have := HLN.out; omega)
              have e8 : A8 = some ⟨g8, 0, none⟩ := by injection hv8
              subst e8
              have hsv : ∀ k, (Value.slice (some ⟨g, 0, none⟩) st.stack.length cp6).ownBlock = some k → k < Hc := fun k e => by
                have : g = k := by simpa [Value.ownBlock] using e
                have := HHC.out; omega
              have HSV := Lib.hid hsv; have HG7 := Lib.hid hG7; have HM7 := Lib.hid hM7; have HON := Lib.hid hon; have HG8B := Lib.hid hg8
              clear hsv hG7 hM7 hon hg8 hv8 hcell5 hC5x hLi2 hb9 hRp
              by_cases hbig : 1 < p
              · have db : decide ((1 : Int) < (p : Int)) = true := by simp; omega
                clear hct
                go_upto_region 23 with (fail)
                have hsrt := sort_group HG7.out (HGL.out.symm ▸ HRP.out) HOP.out hsz6 HSV.out (by rw [HGL.out]; exact hsb)
                rw [HGL.out] at hsrt
                have HSRT := Lib.hid hsrt
                clear hsrt
                go_upto_region 24 with (go_at_call 101; (with_reducible refine HSRT.out.mono ?_); rintro e W7 ⟨rfl, hG10, hR10, hO10⟩)
                have k1 := cell_one hG10.vt
                have k2 := frozen_one hG10.vt
                have hsz10 := hG10.size
                have hov : ∀ k, ov6.ownBlock = some k → B + 10 ≤ k ∧ k < Hc := fun k e => ⟨Kd.R_base hO10 k e, (hO10.1 k e).2⟩
                have hM10 : (Kd.slice 3 (Kd.int .i64)).M W7 (B + 10) (fun k => k = g8) (ints (sortN grp)) [.slice (some ⟨g8, 0, none⟩) p c8] := Kd.M_row (HGL.out ▸ hR10)
                have hg8 : Hc ≤ g8 := HG8B.out
                have hro10 := hG10.ro
                have hol : (sj.out.map ints).length ≤ 1048576 := by rw [List.length_map]; have := HME.out.inv.slen; have := HME.out.inv.cntv; omega
                have HG10 := Lib.hid hG10; have HM10 := Lib.hid hM10; have HOV := Lib.hid hov; have HRO10 := Lib.hid hro10; have HOL := Lib.hid hol
                have q1 : ∀ k, k = g8 → some k ≠ (Value.slice (some ⟨g, 0, none⟩) st.stack.length cp6).ownBlock ∧ some k ≠ ov6.ownBlock := fun k hk => ⟨fun e => by have := HSV.out k e.symm; omega, fun e => by have := (hov k e.symm).2; omega⟩
                have q2 : ∀ k, W7.heap.size ≤ k → some k ≠ (Value.slice (some ⟨g, 0, none⟩) st.stack.length cp6).ownBlock := fun k hk e => by have := (own_hi (Kd.own_of_R hG10.rs) e.symm).2; omega
                have q3 : ((sj.out.map ints).length + 1) * 24 ≤ 140737488355328 := by omega
                have Q1 := Lib.hid q1; have Q2 := Lib.hid q2
                clear hG10 hR10 hO10 hM10 hov hro10 hol q1 q2
                go_wp2_with ((with_reducible refine gate_dst (N := 122) rfl ?_); refine Kd.R_append (Kd.slice 3 (Kd.int .i64)) (w0 := W7) (B + 10) rfl _ _ 137 28 (.slice none 0 0) 24 rfl Tryz.underlying137 info28 rfl (by decide) (by decide) ov6 (sj.out.map ints) (ints (sortN grp)) [.slice (some ⟨g8, 0, none⟩) p c8] (fun k => some k ≠ (Value.slice (some ⟨g, 0, none⟩) st.stack.length cp6).ownBlock) (fun k => k = g8) rfl rfl HM10.out Q1.out Q2.out HRO10.out (Below.refl _ _) (by omega) q3 ?_; intro v1 w1 hR1 hb1 hg1 hat1; obtain ⟨Av, cv, ev⟩ := Kd.R_slice hR1; generalize (sj.out.map ints ++ [ints (sortN grp)]).length = lv at ev; subst ev; have k1' := (cell_grown k1 hg1 (fun e => by have := (HOV.out _ e.symm).1; omega)); have k2' := (frozen_grown k1 k2 hg1 (fun e => by have := (HOV.out _ e.symm).1; omega)))
                have hG11 := HG10.out.grow (grp := sortN grp) (by rw [List.map_append]; exact hR1) hg1 (fun k e => ⟨(HOV.out k e).1, fun e2 => by have h1 := HOV.out k e; exact (HRO10.out.1 k e) e2⟩)
                go_end0
                refine ⟨rfl, leave (adjL L) i sj, HVE.out, ?_⟩
                rw [HHEQ.out, if_pos (by rw [HGL.out, ← HROW.out]; first | exact .inl hbig | exact .inr hin)]
                exact ⟨_, _, _, _, _, _, _, _, hG11, ⟨HM7.out.n, HM7.out.l, HM7.out.l0, fun k m hk => by rw [HM7.out.o k m hk, HON.out], HM7.out.o0, HM7.out.nl, HM7.out.no⟩⟩
              · have db : decide ((1 : Int) < (p : Int)) = false := by simp; omega
                by_cases hin : i ∈ row
                · have hh : hasI (ints row) (i : Int) = true := by rw [hasI_iff]; exact List.mem_map.2 ⟨i, hin, rfl⟩
                  rw [hh] at hct
                  have HCT := Lib.hid hct
                  clear hct hh
                  go_upto_region 23 with (first | (go_at_call 144; (with_reducible refine HCT.out.mono ?_); rintro e W' ⟨rfl, rfl⟩))
                  have hsrt := sort_group HG7.out (HGL.out.symm ▸ HRP.out) HOP.out hsz6 HSV.out (by rw [HGL.out]; exact hsb)
                  rw [HGL.out] at hsrt
                  have HSRT := Lib.hid hsrt
                  clear hsrt
                  go_upto_region 24 with (go_at_call 101; (with_reducible refine HSRT.out.mono ?_); rintro e W7 ⟨rfl, hG10, hR10, hO10⟩)
                  have k1 := cell_one hG10.vt
                  have k2 := frozen_one hG10.vt
                  have hsz10 := hG10.size
                  have hov : ∀ k, ov6.ownBlock = some k → B + 10 ≤ k ∧ k < Hc := fun k e => ⟨Kd.R_base hO10 k e, (hO10.1 k e).2⟩
                  have hM10 : (Kd.slice 3 (Kd.int .i64)).M W7 (B + 10) (fun k => k = g8) (ints (sortN grp)) [.slice (some ⟨g8, 0, none⟩) p c8] := Kd.M_row (HGL.out ▸ hR10)
                  have hg8 : Hc ≤ g8 := HG8B.out
                  have hro10 := hG10.ro
                  have hol : (sj.out.map ints).length ≤ 1048576 := by rw [List.length_map]; have := HME.out.inv.slen; have := HME.out.inv.cntv; omega
                  have HG10 := Lib.hid hG10; have HM10 := Lib.hid hM10; have HOV := Lib.hid hov; have HRO10 := Lib.hid hro10; have HOL := Lib.hid hol
                  have q1 : ∀ k, k = g8 → some k ≠ (Value.slice (some ⟨g, 0, none⟩) st.stack.length cp6).ownBlock ∧ some k ≠ ov6.ownBlock := fun k hk => ⟨fun e => by have := HSV.out k e.symm; omega, fun e => by have := (hov k e.symm).2; omega⟩
                  have q2 : ∀ k, W7.heap.size ≤ k → some k ≠ (Value.slice (some ⟨g, 0, none⟩) st.stack.length cp6).ownBlock := fun k hk e => by have := (own_hi (Kd.own_of_R hG10.rs) e.symm).2; omega
                  have q3 : ((sj.out.map ints).length + 1) * 24 ≤ 140737488355328 := by omega
                  have Q1 := Lib.hid q1; have Q2 := Lib.hid q2
                  clear hG10 hR10 hO10 hM10 hov hro10 hol q1 q2
                  go_wp2_with ((with_reducible refine gate_dst (N := 122) rfl ?_); refine Kd.R_append (Kd.slice 3 (Kd.int .i64)) (w0 := W7) (B + 10) rfl _ _ 137 28 (.slice none 0 0) 24 rfl Tryz.underlying137 info28 rfl (by decide) (by decide) ov6 (sj.out.map ints) (ints (sortN grp)) [.slice (some ⟨g8, 0, none⟩) p c8] (fun k => some k ≠ (Value.slice (some ⟨g, 0, none⟩) st.stack.length cp6).ownBlock) (fun k => k = g8) rfl rfl HM10.out Q1.out Q2.out HRO10.out (Below.refl _ _) (by omega) q3 ?_; intro v1 w1 hR1 hb1 hg1 hat1; obtain ⟨Av, cv, ev⟩ := Kd.R_slice hR1; generalize (sj.out.map ints ++ [ints (sortN grp)]).length = lv at ev; subst ev; have k1' := (cell_grown k1 hg1 (fun e => by have := (HOV.out _ e.symm).1; omega)); have k2' := (frozen_grown k1 k2 hg1 (fun e => by have := (HOV.out _ e.symm).1; omega)))
                  have hG11 := HG10.out.grow (grp := sortN grp) (by rw [List.map_append]; exact hR1) hg1 (fun k e => ⟨(HOV.out k e).1, fun e2 => by have h1 := HOV.out k e; exact (HRO10.out.1 k e) e2⟩)
                  go_end0
                  refine ⟨rfl, leave (adjL L) i sj, HVE.out, ?_⟩
                  rw [HHEQ.out, if_pos (by rw [HGL.out, ← HROW.out]; first | exact .inl hbig | exact .inr hin)]
                  exact ⟨_, _, _, _, _, _, _, _, hG11, ⟨HM7.out.n, HM7.out.l, HM7.out.l0, fun k m hk => by rw [HM7.out.o k m hk, HON.out], HM7.out.o0, HM7.out.nl, HM7.out.no⟩⟩
                · have hh : hasI (ints row) (i : Int) = false := by
                    rw [Bool.eq_false_iff, ne_eq, hasI_iff]
                    intro hc
                    obtain ⟨a, ha, e⟩ := List.mem_map.1 hc
                    have : a = i := by omega
                    exact hin (this ▸ ha)
                  rw [hh] at hct
                  have HCT := Lib.hid hct
                  clear hct hh
                  go_wp2_with (first | (go_at_call 144; (with_reducible refine HCT.out.mono ?_); rintro e W' ⟨rfl, rfl⟩))
                  go_end0
                  refine ⟨rfl, leave (adjL L) i sj, HVE.out, ?_⟩
                  rw [HHEQ.out, if_neg (by rw [HGL.out, ← HROW.out]; rintro (h | h); exact hbig h; exact hin h)]
                  exact ⟨_, _, _, _, _, _, _, _, HG7.out, ⟨HM7.out.n, HM7.out.l, HM7.out.l0, fun k m hk => by rw [HM7.out.o k m hk, HON.out], HM7.out.o0, HM7.out.nl, HM7.out.no⟩⟩
        · have hd : ((sj.low i : Int) != (st.cnt : Int)) = true := by simp; omega
          have hlv : leave (adjL L) i sj = sj := by
            unfold leave
            rw [hmE.self]
            exact if_neg hroot
          have hfin : VisRet w0 B bn L (f + 1) i st (.returned (.tuple #[])) wr := ⟨rfl, sj, by rw [hvE, hlv], HTJ.out⟩
          have HF := Lib.hid hfin; have HG6 := Lib.hid hG6; have HM6 := Lib.hid hM6
          clear hfin hlv hvE hmE hroot hG6 hM6
          go_wp2_with fail
          go_end0
          exact HF.out
end Go.Proofs.YtaigepddkgpplaaGreatDoor.M

