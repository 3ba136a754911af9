/- norm.groups: the groups in the order of their first members. -/
import Derived.Test.YtaigepddkgpplaaGreatDoorQVis
import Derived.Test.YtaigepddkgpplaaGreatDoorQSortF
import Derived.Shelf.SlSortCmp.NoneTotal
import Derived.Deep.QuietTactic
import Derived.BigQuiet
import Derived.IntWalk
section
namespace Go.Proofs.YtaigepddkgpplaaGreatDoor.M
open Go Go.RowKit Go.Maps Go.WideMaps Go.Proofs.YtaigepddkgpplaaGreatDoorW.PrintWords Go.Proofs.YtaigepddkgpplaaGreatDoorW.PrintLast Go.Proofs.YtaigepddkgpplaaGreatDoorW.PrintMore Go.Proofs.YtaigepddkgpplaaGreatDoor.B Go.Proofs.YtaigepddkgpplaaGreatDoor.T
set_option linter.unusedVariables false
set_option linter.unusedSimpArgs false

theorem enters148 : ∀ args w, (callFunc 148 args).run Tryz.prog w = .ok (.enter 148 args) w := enters Tryz.func148 (by kernel_rfl) rfl
set_option maxRecDepth 100000 in
set_option maxHeartbeats 1000000 in
theorem cmp148 (a b : Addr) (n c m d : Nat) (x y : Int) (W : World) (hx : W.cell? a = some (.int .i64 x)) (hy : W.cell? b = some (.int .i64 y)) (hn : 0 < n) (hm : 0 < m)
    (hx0 : 0 ≤ x) (hx1 : x ≤ 1048576) (hy0 : 0 ≤ y) (hy1 : y ≤ 1048576) :
    Calls Tryz.prog 148 #[.slice (some a) n c, .slice (some b) m d] W fun e W' => e = .returned (.int .i64 (x - y)) ∧ ∃ q, W' = W.drewN q := by
  have hn' : (0 : Int) < (n : Int) := by omega
  have hm' : (0 : Int) < (m : Int) := by omega
  have hw : IntKind.i64.wrap (x - y) = x - y := IntWalk.i64_in _ (by omega)
  have ha : a.add 0 = a := by simp [Addr.add]
  have hb : b.add 0 = b := by simp [Addr.add]
  go_enter Tryz.func148, Tryz.ntmps148
  go_wp2_with fail
  go_quiet (fail)
  go_wp2_with fail
  go_ret
  exact ⟨rfl, _, rfl⟩
/-- a group as the slice that it lies in -/
structure GEl (W : World) (blk base : Nat) where
  g : Nat
  c : Nat
  l : List Nat
  ne : l ≠ []
  hd : l.headD 0 ≤ 1048576
  lo : base ≤ g
  lt : g < W.heap.size
  away : g ≠ blk
  R : (Kd.int .i64).R 3 W base (fun _ => True) (.slice (some ⟨g, 0, none⟩) l.length c) (ints l)
def gEnc {W : World} {blk base : Nat} (x : GEl W blk base) : Value := .slice (some ⟨x.g, 0, none⟩) x.l.length x.c
def gCmp {W : World} {blk base : Nat} (x y : GEl W blk base) : Int := (x.l.headD 0 : Int) - (y.l.headD 0 : Int)
theorem ints_head (l : List Nat) (h : 0 < (ints l).length) : (ints l)[0] = (l.headD 0 : Int) := by
  cases l with
  | nil => simp [ints] at h
  | cons a r => simp [ints]
theorem GEl.cell {W : World} {blk base : Nat} (x : GEl W blk base) : W.cell? ⟨x.g, 0, none⟩ = some (.int .i64 (x.l.headD 0 : Int)) := by
  have hC := (Kd.R_reads' x.R).2.2
  have hpos : 0 < x.l.length := List.length_pos_iff.2 x.ne
  obtain ⟨ad, e, hc⟩ := nt_int hC 0 (by rw [ints_len]; exact hpos)
  injection e with e
  subst e
  have h0 : (⟨x.g, 0, none⟩ : Addr).add 0 = ⟨x.g, 0, none⟩ := by simp [Addr.add]
  rw [h0] at hc
  rw [hc, ints_head]
theorem gSwo {W : World} {blk base : Nat} : Sort.SWO (ltOf (gCmp (W := W) (blk := blk) (base := base))) where
  irrefl x := by simp [ltOf, gCmp]
  trans x y z h1 h2 := by simp [ltOf, gCmp] at *; omega
  ntrans x y z h1 h2 := by simp [ltOf, gCmp] at *; omega
theorem gLays {W : World} {blk base : Nat} [Inhabited (GEl W blk base)] (size : Nat) : CmpLays1 Tryz.prog 148 #[] (gEnc (W := W) (blk := blk) (base := base)) gCmp blk 0 size W := by
  intro m os dk hsz x y
  have hgr : W.grownBy (sortWorld gEnc W blk 0 m dk os) (some blk) := grown_srt dk
  have h1 := cell_grown x.cell hgr (fun e => x.away (by injection e))
  have h2 := cell_grown y.cell hgr (fun e => y.away (by injection e))
  have h := cmp148 ⟨x.g, 0, none⟩ ⟨y.g, 0, none⟩ x.l.length x.c y.l.length y.c _ _ _ h1 h2 (List.length_pos_iff.2 x.ne) (List.length_pos_iff.2 y.ne) (by omega) (by have := x.hd; omega) (by omega) (by have := y.hd; omega)
  exact h.mono fun e w' ⟨he, q, hq⟩ => ⟨he, q, #[], by rw [hq, Sort.grow_empty]⟩
/-- what the sort of the groups leaves -/
def GSRet (W : World) (base : Nat) (ov : Value) (gs : List (List Nat)) (e : Ending) (W' : World) : Prop :=
  e = .returned (.tuple #[]) ∧ W.grownBy W' ov.ownBlock ∧ ∃ gs' : List (List Nat), gs'.Perm gs ∧ gs'.Pairwise (fun a b => a.headD 0 ≤ b.headD 0) ∧ (Kd.slice 3 (Kd.int .i64)).R 28 W' base (fun _ => True) ov (gs'.map ints)
theorem gs_none (p : Option Addr) (cap : Nat) (W : World) : Calls Tryz.prog 147 #[.slice p 0 cap, .func (.func 148) #[] #[]] W fun e w' => e = .returned (.tuple #[]) ∧ w' = W :=
  AnyF.slices_SortFunc_none (P := Tryz.prog) (ρ := Tryz.sortFn_ren) { Tryz.sortFn with } p cap (.func (.func 148) #[] #[]) W
set_option maxHeartbeats 1000000 in
theorem sort_groups {W : World} {base : Nat} {ok : Nat → Prop} {ov : Value} {gs : List (List Nat)} (hR : (Kd.slice 3 (Kd.int .i64)).R 28 W base ok ov (gs.map ints)) (hne : ∀ l ∈ gs, l ≠ [] ∧ l.headD 0 ≤ 1048576) (hsm : gs.length ≤ 1048576) :
    Calls Tryz.prog 147 #[ov, .func (.func 148) #[] #[]] W (GSRet W base ov gs) := by
  by_cases h0 : gs.length = 0
  · have hnil : gs = [] := List.length_eq_zero_iff.1 h0
    subst hnil
    obtain ⟨A, c, hv⟩ := Kd.R_slice hR
    subst hv
    refine (gs_none A c W).mono fun e w' ⟨he, hw⟩ => ⟨he, by subst hw; exact ⟨rfl, rfl, rfl, Nat.le_refl _, fun _ _ _ => rfl⟩, [], List.Perm.refl _, List.Pairwise.nil, by subst hw; exact Kd.R_mono hR (fun _ _ => trivial)⟩
  · obtain ⟨_, inner, hown, hr⟩ := hR
    rw [List.length_map] at hown
    rcases hown.2 with ⟨_, e⟩ | ⟨g, cap, cur, rfl, hg, hb, h1, h2, h3, h4⟩
    · omega
    · have hil : inner.length = gs.length := by have := hr.1; rw [List.length_map] at this; simpa [Kd.slice] using this
      have hel : ∀ j (hj : j < gs.length), ∃ x : GEl W g base, gEnc x = inner[j]'(by omega) ∧ x.l = gs[j] := by
        intro j hj
        have hm := hr.2 j (ints gs[j]) (by rw [List.getElem?_map, List.getElem?_eq_getElem hj]; rfl)
        obtain ⟨v, hv, hRv⟩ := hm
        have hgj := hne gs[j] (List.getElem_mem hj)
        obtain ⟨g', c', hv', hg', hlt', cells', hcells'⟩ := Kd.R_form hRv (by rw [ints_len]; exact List.length_pos_iff.2 hgj.1)
        rw [ints_len] at hv'
        subst hv'
        refine ⟨⟨g', c', gs[j], hgj.1, hgj.2, hg', hlt', fun e => ?_, Kd.R_mono hRv (fun _ _ => trivial)⟩, ?_, rfl⟩
        · subst e
          rw [hb] at hcells'
          injection hcells' with hcells'
          injection hcells' with _ h5 _
          cases h5
        · have e1 : ((inner.drop (j * 1)).take 1)[0]? = some (Value.slice (some ⟨g', 0, none⟩) gs[j].length c') := by
            have : ((inner.drop (j * (Kd.slice 3 (Kd.int .i64)).sz)).take (Kd.slice 3 (Kd.int .i64)).sz) = ((inner.drop (j * 1)).take 1) := rfl
            rw [← this, hv]; rfl
          rw [List.getElem?_take_of_lt (by omega), List.getElem?_drop, Nat.mul_one, Nat.add_zero, List.getElem?_eq_getElem (by omega)] at e1
          injection e1 with e1
          exact e1.symm
      have hgs : (List.ofFn fun j : Fin gs.length => (hel j.1 j.2).choose).map (·.l) = gs := by
        apply List.ext_getElem (by simp)
        intro j h1 h2
        simp only [List.getElem_map, List.getElem_ofFn]
        exact (hel j h2).choose_spec.2
      have hin : (List.ofFn fun j : Fin gs.length => (hel j.1 j.2).choose).map gEnc = inner := by
        apply List.ext_getElem (by simp [hil])
        intro j h1 h2
        simp only [List.getElem_map, List.getElem_ofFn]
        exact (hel j (by omega)).choose_spec.1
      generalize (List.ofFn fun j : Fin gs.length => (hel j.1 j.2).choose) = els at hgs hin
      have hel' : els.length = gs.length := by rw [← hgs, List.length_map]
      clear hel hr
      haveI : Inhabited (GEl W g base) := ⟨els[0]'(by omega)⟩
      have h4' : cur.toList.take els.length = els.map gEnc := by
        rw [hin, hel', ← h4]; exact congrArg (fun n => cur.toList.take n) (Nat.mul_one _).symm
      have hH : Go.Sort.Holds (gEnc (W := W) (blk := g) (base := base)) W g 0 els.toArray := holds_blk hb h4'
      have h := Any.slices_SortFunc (P := Tryz.prog) Tryz.sortFn (gEnc (W := W) (blk := g) (base := base)) (fun _ => rfl) gCmp gSwo 148 #[] g 0 cap els.toArray W enters148 (gLays _) hH (Array.getElem?_eq_some_iff.1 hb).1 (by simp; omega)
      rw [List.size_toArray, hel'] at h
      refine h.mono fun e w' ⟨he, d', n, os, hp, hs, hw⟩ => ?_
      have hdl : d'.size = gs.length := by have := hp.1; simp at this; omega
      have hperm : d'.toList.Perm els := by
        have h5 := hp.2.2
        have e1 : (els.toArray.extract 0 gs.length) = els.toArray := by have := Array.extract_size (xs := els.toArray); rw [List.size_toArray, hel'] at this; exact this
        have e2 : (d'.extract 0 gs.length) = d' := by rw [← hdl, Array.extract_size]
        rw [e1, e2] at h5
        exact h5
      have hgr : W.grownBy w' (some g) := by rw [hw]; exact grown_srt d'
      have hgl : (d'.toList.map (·.l)).length = gs.length := by simp [hdl]
      refine ⟨he, hgr, d'.toList.map (·.l), by rw [← hgs]; exact hperm.map _, ?_, ?_⟩
      · rw [List.pairwise_map, List.pairwise_iff_getElem]
        intro i j hi hj hij
        have hi' : i < d'.size := by simpa using hi
        have hj' : j < d'.size := by simpa using hj
        have := hs i j (Nat.zero_le _) hij (by omega)
        rw [getElem!_pos d' i hi', getElem!_pos d' j hj'] at this
        simp [ltOf, gCmp] at this
        simpa using this
      · refine ⟨fun _ _ => trivial, d'.toList.map gEnc, ?_, ?_, ?_⟩
        · have ho := own_srt (enc := (gEnc (W := W) (blk := g) (base := base))) (w := W) (base := base) (n := n) (os := os) (xs := els) (ts := d'.toList) (by simp [hel', hdl]) hg hb (by rw [hel']; exact h1) h2 h3
          rw [hw, List.length_map, hgl]
          rw [hel'] at ho
          exact ho
        · simp [Kd.slice]
        · intro j p hj
          rw [List.map_map, List.getElem?_map] at hj
          obtain ⟨x, hx, rfl⟩ := Option.map_eq_some_iff.1 hj
          refine ⟨gEnc x, ?_, ?_⟩
          · obtain ⟨hjl, hx'⟩ := List.getElem?_eq_some_iff.1 hx
            show ((d'.toList.map gEnc).drop (j * 1)).take 1 = _
            rw [Nat.mul_one, List.drop_eq_getElem_cons (by simpa using hjl)]
            simp [← hx']
          · refine Kd.R_of_own (own_move (Kd.own_of_R x.R) fun k hk => ?_) (fun k hk => ⟨trivial, fun e => ?_⟩)
            · injection hk with hk
              subst hk
              exact hgr.block _ x.lt (fun e => x.away (by injection e))
            · injection hk with hk
              injection e with e
              exact x.away (by first | omega | (simp at e hk; omega))
end Go.Proofs.YtaigepddkgpplaaGreatDoor.M

end
section
/- norm.groups: the circles of a law. -/
namespace Go.Proofs.YtaigepddkgpplaaGreatDoor.M
open Go Go.RowKit Go.Maps Go.WideMaps Go.Proofs.YtaigepddkgpplaaGreatDoorW.PrintWords Go.Proofs.YtaigepddkgpplaaGreatDoorW.PrintLast Go.Proofs.YtaigepddkgpplaaGreatDoorW.PrintMore Go.Proofs.YtaigepddkgpplaaGreatDoor.B Go.Proofs.YtaigepddkgpplaaGreatDoor.T
set_option linter.unusedVariables false
set_option linter.unusedSimpArgs false

theorem unv_le_n (n : Nat) (st : TS) : unv n st ≤ n := by
  have := List.countP_le_length (p := fun v => (st.num v).isNone) (l := List.range n)
  simpa [unv] using this
theorem path_lt {adj : Nat → List Nat} {n a b : Nat} (hadj : ∀ v y, y ∈ adj v → y < n) (h : Path adj a b) : a < n → b < n := by
  induction h with
  | refl => exact id
  | step e _ ih => exact fun _ => ih (hadj _ _ e)
theorem found_ne {adj : Nat → List Nat} {n : Nat} (hadj : ∀ v y, y ∈ adj v → y < n) {L : List (List Nat)} (h : Go.Proofs.YtaigepddkgpplaaGreatDoor.T.Found adj n L) : ∀ l ∈ L, l ≠ [] ∧ l.headD 0 < n := by
  intro l hl
  obtain ⟨v, hv, hc, hg⟩ := h.mem l hl
  have hm : v ∈ l := (hg.mem v).2 ⟨.refl _, .refl _⟩
  cases l with
  | nil => simp at hm
  | cons a r => exact ⟨by simp, path_lt hadj ((hg.mem a).1 (by simp)).1 hv⟩
/-- what groups leaves: the groups, ordered by their first members -/
def GrpRet (w0 : World) (adj : Nat → List Nat) (n : Nat) (e : Ending) (W : World) : Prop :=
  ∃ (ov : Value) (base : Nat) (gs out : List (List Nat)), e = .returned ov ∧ w0.heap.size ≤ base ∧ Below w0.heap.size w0 W ∧ Go.Proofs.YtaigepddkgpplaaGreatDoor.T.Found adj n out ∧ gs.Perm out ∧ gs.Pairwise (fun a b => a.headD 0 ≤ b.headD 0) ∧ (Kd.slice 3 (Kd.int .i64)).R 28 W base (fun _ => True) ov (gs.map ints)
set_option maxRecDepth 100000 in
set_option maxHeartbeats 4000000 in
theorem groups92 {w0 : World} {bn bs n base : Nat} {L : List (List Nat)} {vs : List Value} {A2 : Option Addr} {c2 : Nat} (hnet : NetR w0 bn bs n base L vs) (hadj : ∀ v y, y ∈ adjL L v → y < n) (hc1 : w0.cell? ⟨bn, 1, none⟩ = some (.slice A2 n c2)) :
    Calls Tryz.prog 92 #[.pointer (some ⟨bn, 0, none⟩)] w0 (GrpRet w0 (adjL L) n) := by
  have hmm := @run_makeMap Tryz.prog
  have HNET := Lib.hid hnet; have HADJ := Lib.hid hadj; have HC1 := Lib.hid hc1
  have hsm := hnet.small
  clear hnet hadj
  obtain ⟨B, hB⟩ : ∃ B, B = w0.heap.size := ⟨_, rfl⟩
  have HB := Lib.hid hB
  clear hB
  go_enter Tryz.func92, Tryz.ntmps92
  go_upto_region 7 with (fail)
  simp only [Nat.add_assoc, Nat.reduceAdd]
  rw [← HB.out]
  generalize hw1 : World.alloc _ _ = W1
  have hb1 : Below B w0 W1 := by
    rw [← hw1, HB.out]
    exact ((((((((((Below.refl _ _).alloc (Nat.le_refl _) _).alloc (by simp) _).alloc (by simp; omega) _).alloc (by simp; omega) _).alloc (by simp; omega) _).alloc (by simp; omega) _).alloc (by simp; omega) _).alloc (by simp; omega) _).alloc (by simp; omega) _).alloc (by simp; omega) _
  have e0 : W1.heap[B + 0]? = some (.cells #[.pointer (some ⟨bn, 0, none⟩)] 133 (0, 0)) := by rw [← hw1]; exact blk_alloc (blk_alloc (blk_alloc (blk_alloc (blk_alloc (blk_alloc (blk_alloc (blk_alloc (blk_alloc (heap_at _ _ (by simp [HB.out, Nat.add_assoc])) _) _) _) _) _) _) _) _) _
  have e1 : W1.heap[B + 1]? = some (.cells #[.slice none 0 0] 137 (0, 0)) := by rw [← hw1]; exact blk_alloc (blk_alloc (blk_alloc (blk_alloc (blk_alloc (blk_alloc (blk_alloc (blk_alloc (heap_at _ _ (by simp [HB.out, Nat.add_assoc])) _) _) _) _) _) _) _) _
  have e2 : W1.heap[B + 2]? = some (.cells #[.slice none 0 0] 28 (0, 0)) := by rw [← hw1]; exact blk_alloc (blk_alloc (blk_alloc (blk_alloc (blk_alloc (blk_alloc (blk_alloc (heap_at _ _ (by simp [HB.out, Nat.add_assoc])) _) _) _) _) _) _) _
  have e3 : W1.heap[B + 3]? = some (.map #[] 0) := by rw [← hw1]; exact blk_alloc (blk_alloc (blk_alloc (blk_alloc (blk_alloc (blk_alloc (heap_at _ _ (by simp [HB.out, Nat.add_assoc])) _) _) _) _) _) _
  have e4 : W1.heap[B + 4]? = some (.map #[] 0) := by rw [← hw1]; exact blk_alloc (blk_alloc (blk_alloc (blk_alloc (blk_alloc (heap_at _ _ (by simp [HB.out, Nat.add_assoc])) _) _) _) _) _
  have e5 : W1.heap[B + 5]? = some (.cells #[.map (some (B + 3))] 174 (0, 0)) := by rw [← hw1]; exact blk_alloc (blk_alloc (blk_alloc (blk_alloc (heap_at _ _ (by simp [HB.out, Nat.add_assoc])) _) _) _) _
  have e6 : W1.heap[B + 6]? = some (.cells #[.map (some (B + 4))] 174 (0, 0)) := by rw [← hw1]; exact blk_alloc (blk_alloc (blk_alloc (heap_at _ _ (by simp [HB.out, Nat.add_assoc])) _) _) _
  have e7 : W1.heap[B + 7]? = some (.map #[] 0) := by rw [← hw1]; exact blk_alloc (blk_alloc (heap_at _ _ (by simp [HB.out, Nat.add_assoc])) _) _
  have e8 : W1.heap[B + 8]? = some (.cells #[.map (some (B + 7))] 134 (0, 0)) := by rw [← hw1]; exact blk_alloc (heap_at _ _ (by simp [HB.out, Nat.add_assoc])) _
  have e9 : W1.heap[B + 9]? = some (.cells #[.func (.func 145) #[] (tarCap B)] 175 (0, 0)) := by rw [← hw1]; exact heap_at _ _ (by simp [HB.out, Nat.add_assoc])
  have hz1 : B + 10 ≤ W1.heap.size := by rw [← hw1]; simp [HB.out]
  have hT : TarAt w0 B bn W1 zeroT := by
    refine ⟨fun _ => none, fun _ => none, fun _ => none, 0, 0, none, 0, .slice none 0 0, ?_, ⟨fun k => rfl, fun k m h => (by cases h), fun k _ => rfl, fun k m h => (by cases h), fun k _ => rfl, Nat.le_refl _, Nat.le_refl _⟩⟩
    exact ⟨hb1, hz1, e0, e5, e6, e8, e9, e2, e1, MapAt.of_empty _ _ e4, MapAt.of_empty _ _ e3, MapAt.of_empty _ _ e7, Kd.R_nil _ _ _ _ _, Kd.R_nil _ _ _ _ _⟩
  have c0 : W1.cell? ⟨B, 0, none⟩ = some (.pointer (some ⟨bn, 0, none⟩)) := cell_one e0
  have d1 := (HB.out ▸ hb1 : Below w0.heap.size w0 W1).cell (World.block_lt_of_cell? _ _ HC1.out) |>.trans HC1.out
  have HT := Lib.hid hT; have HB1 := Lib.hid hb1; have HZ1 := Lib.hid hz1
  clear hw1 hb1 hz1 hT e0 e1 e2 e3 e4 e5 e6 e7 e8 e9
  go_wp2_with fail
  go_loopw [22] (fun q Wr => ∃ (k : Nat) (st : TS), k ≤ n ∧ q = .int .i64 k ∧ TarAt w0 B bn Wr st ∧ Inv (adjL L) n (fun _ => False) st ∧ allF (adjL L) n ((List.range n).drop k) st = allF (adjL L) n (List.range n) zeroT) (fun q _ => n - (intOf q).toNat)
  case atStart => exact ⟨0, _, Nat.zero_le _, rfl, HT.out, inv_zero, rfl⟩
  case round =>
    obtain ⟨k, st, hk, rfl, hTk, hik, hak⟩ := hrel
    have HTK := Lib.hid hTk; have HIK := Lib.hid hik; have HAK := Lib.hid hak
    obtain ⟨gn, gl, go, ml, mo, A6, cp6, ov6, hG6, hM6⟩ := hTk
    clear hik hak
    by_cases hlt : k < n
    · have hdrop : (List.range n).drop k = k :: (List.range n).drop (k + 1) := by
        rw [List.drop_eq_getElem_cons (by simpa using hlt)]; simp
      have hkk := key3 (k := k) (by omega)
      have c6 := cell_one hG6.vn
      have hlk := hG6.mn.look true law3 Tryz.underlying174 (zero3 _) hkk
      rw [hM6.n k] at hlk
      have hcv : wr.cell? ⟨B + 9, 0, none⟩ = some (.func (.func 145) #[] (tarCap B)) := cell_one hG6.vv
      have HDR := Lib.hid hdrop
      clear hG6 hM6 hkk hdrop
      cases hnk : st.num k with
      | none =>
        rw [hnk] at hlk
        have hlk' : (Instr.lookup 174 (.map (some (B + 4))) (.int .i64 (k : Int)) true).run Tryz.prog wr = .ok (.tuple #[.int .i64 0, .bool false]) wr := hlk
        have hcall := vis145 HNET.out HADJ.out n _ k st HIK.out hnk hlt (unv_le_n n st) wr (HB.out ▸ HTK.out)
        rw [← HB.out] at hcall
        have HCALL := Lib.hid hcall; have HNK := Lib.hid hnk
        have heg := enters145
        clear hlk hcall hnk
        go_wp2_with ((with_reducible refine HCALL.out.mono ?_); rintro e W4 ⟨rfl, s4, hv4, hT4⟩)
        obtain ⟨s4', e4, hP⟩ := visit_some HADJ.out n _ k st HIK.out HNK.out hlt (unv_le_n n st)
        obtain rfl : s4' = s4 := by rw [e4] at hv4; injection hv4
        have hnext : allF (adjL L) n ((List.range n).drop (k + 1)) s4' = allF (adjL L) n (List.range n) zeroT := by
          rw [← HAK.out, HDR.out]; simp only [allF, HNK.out, e4, Option.bind_some]
        have HNX := Lib.hid hnext; have HT4 := Lib.hid hT4; have HP := Lib.hid hP
        clear hnext hT4 hP e4 hv4
        go_roundw
        case rel => exact ⟨k + 1, _, by omega, by go_num, HT4.out, HP.out.inv, HNX.out⟩
        case measure => simp [intOf]; omega
      | some m =>
        rw [hnk] at hlk
        have hlk' : (Instr.lookup 174 (.map (some (B + 4))) (.int .i64 (k : Int)) true).run Tryz.prog wr = .ok (.tuple #[.int .i64 (m : Int), .bool true]) wr := hlk
        have hnext : allF (adjL L) n ((List.range n).drop (k + 1)) st = allF (adjL L) n (List.range n) zeroT := by
          rw [← HAK.out, HDR.out]; simp only [allF, hnk]
        have HNX := Lib.hid hnext
        clear hlk hnk hnext
        go_wp2_with fail
        go_roundw
        case rel => exact ⟨k + 1, _, by omega, by go_num, HTK.out, HIK.out, HNX.out⟩
        case measure => simp [intOf]; omega
    · obtain rfl : k = n := by omega
      have hst : allF (adjL L) k (List.range k) zeroT = some st := by
        rw [← HAK.out, List.drop_of_length_le (by simp)]; rfl
      obtain ⟨st', e', hF⟩ := found_of_all HADJ.out
      obtain rfl : st' = st := by rw [e'] at hst; injection hst
      have hne := found_ne HADJ.out hF
      have hol : st'.out.length ≤ 1048576 := by have := HIK.out.slen; have := HIK.out.cntv; omega
      have hsg := sort_groups hG6.ro (fun l hl => ⟨(hne l hl).1, by have := (hne l hl).2; omega⟩) hol
      have k1 := cell_one hG6.vt
      have k2 := frozen_one hG6.vt
      have hov : ∀ j, ov6.ownBlock = some j → B + 10 ≤ j := fun j e => Kd.R_base hG6.ro j e
      have hbl := hG6.below
      have HSG := Lib.hid hsg; have HF := Lib.hid hF; have HOV := Lib.hid hov; have HBL := Lib.hid hbl
      clear hsg hF hov hbl hne hol hst e' hG6 hM6
      go_upto_region 15 with (go_at_call 147; (with_reducible refine HSG.out.mono ?_); rintro e W7 ⟨rfl, hgr, gs', hp, hs, hR7⟩)
      have k1' := cell_grown k1 hgr (fun e => by have := HOV.out _ e.symm; omega)
      have k2' := frozen_grown k1 k2 hgr (fun e => by have := HOV.out _ e.symm; omega)
      have hb7 : Below w0.heap.size w0 W7 := HB.out ▸ HBL.out.grown hgr (by have := HBL.out.size; have := HB.out; omega) (fun j e => by have := HOV.out j e; omega)
      have HB7 := Lib.hid hb7; have HP := Lib.hid hp; have HS7 := Lib.hid hs; have HR7 := Lib.hid hR7
      clear hb7 hp hs hR7 hgr
      go_wp2_with fail
      go_ret
      exact ⟨ov6, B + 10, gs', st'.out, rfl, by have := HB.out; omega, HB7.out, HF.out, HP.out, HS7.out, HR7.out⟩
end Go.Proofs.YtaigepddkgpplaaGreatDoor.M

end
