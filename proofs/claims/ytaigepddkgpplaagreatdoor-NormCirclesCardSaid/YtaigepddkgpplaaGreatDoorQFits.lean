/- Layer fact: what fact.Valid, fact.Fits, fact.Index and fact.Least compute, and that the Go functions compute it. -/
import Derived.Test.YtaigepddkgpplaaGreatDoorQBx1
import Derived.Test.YtaigepddkgpplaaGreatDoorQMap
import Derived.Lib.Hide
import Derived.Outline
import Derived.RangeFuncOwn
import Derived.OneCell
import Derived.Test.YtaigepddkgpplaaGreatDoorQHelp
section
namespace Go.Proofs.YtaigepddkgpplaaGreatDoor.M
open Go Go.RowKit Go.Maps Go.WideMaps Go.Proofs.YtaigepddkgpplaaGreatDoorW.PrintWords Go.Proofs.YtaigepddkgpplaaGreatDoorW.PrintLast Go.Proofs.YtaigepddkgpplaaGreatDoorW.PrintMore Go.Proofs.YtaigepddkgpplaaGreatDoor.B
set_option linter.unusedVariables false
set_option linter.unusedSimpArgs false

def letterB (c : Int) : Bool := (decide (97 ≤ c) && decide (c ≤ 122)) || (decide (65 ≤ c) && decide (c ≤ 90))
def digitB (c : Int) : Bool := (decide (48 ≤ c) && decide (c ≤ 57)) || decide (c = 95)
/-- the byte at i may stand in a name -/
def okAt (s : ByteArray) (i : Nat) : Bool := letterB (bt s i) || (decide (i ≠ 0) && digitB (bt s i))
/-- s is a name -/
def nameB (s : ByteArray) : Bool := (List.range s.size).all (okAt s) && decide (s.size ≠ 0) && decide (s.size ≤ 24)

theorem isName_step (s : ByteArray) (k : Nat) (i : Nat) (hi : i < s.size) (hs : s.size ≤ 9223372036854775807) :
    fact_isName.l0 (k + 1) s (s.size : Int) (i : Int) = if okAt s i then fact_isName.l0 k s (s.size : Int) ((i + 1 : Nat) : Int) else some false := by
  have hw : wrap64 ((i : Int) + 1) = ((i + 1 : Nat) : Int) := by unfold wrap64; omega
  simp only [fact_isName.l0]
  rw [hw, if_pos (by omega), if_pos (by omega), if_pos (by omega)]
  unfold okAt letterB digitB
  generalize bt s (i : Int) = c
  have hi0 : ((i : Int) = 0) = (i = 0) := by simp
  simp only [hi0]
  generalize fact_isName.l0 k s (s.size : Int) ((i + 1 : Nat) : Int) = R
  by_cases h1 : 97 ≤ c <;> by_cases h2 : c ≤ 122 <;> by_cases h3 : 65 ≤ c <;> by_cases h4 : c ≤ 90 <;> by_cases h5 : 48 ≤ c <;> by_cases h6 : c ≤ 57 <;> first | (exfalso; omega) | skip
  all_goals by_cases h7 : c = 95 <;> by_cases h8 : i = 0 <;> simp [*]

theorem toList_data (s : ByteArray) : s.toList = s.data.toList := ByteArray.toList_eq s
theorem isName_run (s : ByteArray) (hs : s.size ≤ 9223372036854775807) : ∀ (d i : Nat), i ≤ s.size → s.size - i = d →
    ∃ k, fact_isName.l0 k s (s.size : Int) (i : Int) = some ((List.range' i d).all (okAt s) && (decide (s.size ≠ 0) && decide (s.size ≤ 24)))
  | 0, i, hi, hd => by
    refine ⟨1, ?_⟩
    have h1 : ¬ ((i : Int) < (s.size : Int)) := by omega
    simp only [fact_isName.l0]
    rw [if_neg h1]
    obtain rfl : i = s.size := by omega
    have e : (s.toList = []) ↔ s.size = 0 := by
      rw [← List.length_eq_zero_iff, toList_data]
      exact Iff.of_eq (by rw [Array.length_toList]; rfl)
    by_cases h0 : s.size = 0
    · rw [if_pos (e.2 h0)]; simp [h0]
    · rw [if_neg (fun h => h0 (e.1 h))]; simp [h0]; omega
  | d + 1, i, hi, hd => by
    obtain ⟨k, hk⟩ := isName_run s hs d (i + 1) (by omega) (by omega)
    refine ⟨k + 1, ?_⟩
    rw [isName_step s k i (by omega) hs]
    cases h : okAt s i with
    | true => simp [List.range'_succ, h]; simpa using hk
    | false => simp [List.range'_succ, h]

theorem isName_calls (s : ByteArray) (hs : s.size ≤ maxLen) (w : World) : Calls Tryz.prog 69 #[.string s] w fun e w' => e = .returned (.bool (nameB s)) ∧ ∃ n, w' = w.drewN n := by
  unfold maxLen at hs
  obtain ⟨k, hk⟩ := isName_run s hs s.size 0 (by omega) (by omega)
  refine (fact_isName.calls k s (nameB s) w ?_).mono fun e w' ⟨he, hw⟩ => ⟨he, hw.out⟩
  show fact_isName.l0 k s (s.size : Int) 0 = _
  rw [show (0 : Int) = ((0 : Nat) : Int) from rfl, hk]
  simp [nameB, List.range_eq_range', Bool.and_assoc]

def flagB (x : S110) : Bool := x.f1 == 1 && (x.f2 == 0 && x.f3 == 1)
def otherB (x : S110) : Bool := (x.f1 == 2 || x.f1 == 3) && (decide (0 ≤ x.f2) && (decide (x.f2 ≤ x.f3) && decide (x.f3 ≤ 1000000)))
def okFact (x : S110) : Bool := (flagB x || otherB x) && nameB x.f0
def names (fs : List S110) : List ByteArray := fs.map (·.f0)
/-- the domain is valid -/
def validB (fs : List S110) : Bool := fs.all okFact && decide (names fs).Nodup && decide (fs.length ≤ 60)
/-- the call returns this bool; what was there lies as it lay -/
def RetB (b : Bool) (w : World) (e : Ending) (w' : World) : Prop := e = .returned (.bool b) ∧ Below w.heap.size w w'

theorem valid_bad {fs : List S110} {k : Nat} (h : k < fs.length) (hb : okFact fs[k] = false) : validB fs = false := by
  unfold validB
  have : fs.all okFact = false := by
    rw [List.all_eq_false]
    exact ⟨fs[k], List.getElem_mem _, by simp [hb]⟩
  simp [this]
theorem valid_twice {fs : List S110} {k : Nat} (h : k < fs.length) (hb : fs[k].f0 ∈ names (fs.take k)) : validB fs = false := by
  unfold validB
  have : ¬ (names fs).Nodup := by
    intro hn
    have e : names fs = names (fs.take k) ++ names (fs.drop k) := by
      unfold names
      rw [← List.map_append, List.take_append_drop]
    rw [e, List.nodup_append] at hn
    refine hn.2.2 _ hb _ ?_ rfl
    rw [List.drop_eq_getElem_cons h]
    exact List.mem_cons_self
  simp [this]
theorem names_snoc (fs : List S110) {k : Nat} (h : k < fs.length) : names (fs.take (k + 1)) = names (fs.take k) ++ [fs[k].f0] := by
  unfold names
  rw [List.take_succ_eq_append_getElem h, List.map_append]
  rfl
/-- after k rounds -/
structure ValidAt (fs : List S110) (k : Nat) (f : Lit → Option Value) : Prop where
  ok : ∀ j, j < k → ∀ h : j < fs.length, okFact fs[j] = true
  nodup : (names (fs.take k)).Nodup
  seen : ∀ s : ByteArray, s ∈ names (fs.take k) → f (.string s.data.toList) = some (.bool true)
  new : ∀ s : ByteArray, s ∉ names (fs.take k) → f (.string s.data.toList) = none
theorem ValidAt.zero (fs : List S110) : ValidAt fs 0 (fun _ => none) := ⟨fun j h => by omega, by simp [names], fun s h => by simp [names] at h, fun s _ => rfl⟩
theorem str_inj {s t : ByteArray} (h : Lit.string s.data.toList = Lit.string t.data.toList) : s = t := by
  injection h with h
  rcases s with ⟨s⟩
  rcases t with ⟨t⟩
  congr
  exact Array.toList_inj.1 h
theorem ValidAt.next {fs : List S110} {k : Nat} {f : Lit → Option Value} (h : ValidAt fs k f) (hk : k < fs.length) (hok : okFact fs[k] = true) (hno : fs[k].f0 ∉ names (fs.take k)) :
    ValidAt fs (k + 1) (upd f (.string fs[k].f0.data.toList) (.bool true)) := by
  refine ⟨fun j hj hl => ?_, ?_, fun s hs => ?_, fun s hs => ?_⟩
  · by_cases e : j = k
    · subst e; exact hok
    · exact h.ok j (by omega) hl
  · rw [names_snoc fs hk, List.nodup_append]
    refine ⟨h.nodup, by simp, fun a ha b hb => ?_⟩
    simp at hb
    rintro rfl
    exact hno (hb ▸ ha)
  · rw [names_snoc fs hk] at hs
    by_cases e : s = fs[k].f0
    · subst e
      rw [upd_same]
    · rw [upd_other _ _ _ (fun h' => e (str_inj h'))]
      simp [e] at hs
      exact h.seen s hs
  · rw [names_snoc fs hk] at hs
    simp at hs
    rw [upd_other _ _ _ (fun h' => hs.2 (str_inj h'))]
    exact h.new s hs.1
theorem ValidAt.all {fs : List S110} {f : Lit → Option Value} (h : ValidAt fs fs.length f) : validB fs = decide (fs.length ≤ 60) := by
  have h1 : fs.all okFact = true := by
    rw [List.all_eq_true]
    intro x hx
    obtain ⟨j, hj, rfl⟩ := List.getElem_of_mem hx
    exact h.ok j hj hj
  have h2 := h.nodup
  rw [List.take_length] at h2
  simp [validB, h1, h2]
theorem law9 : Keyed Tryz.prog 9 := string_keyed Tryz.underlying9
theorem zero4 (w : World) : (zeroValue 4).run Tryz.prog w = .ok (.bool false) w := by kernel_rfl
theorem grown_below {B b : Nat} {w w1 w2 : World} (h : Below B w w1) (hg : w1.grownBy w2 (some b)) (hB : B ≤ w1.heap.size) (hb : B ≤ b) : Below B w w2 := h.grown hg hB (fun k hk => by cases hk; exact hb)
set_option maxRecDepth 100000 in
set_option maxHeartbeats 2000000 in
theorem valid_calls (A : Option Addr) (c : Nat) (fs : List S110) (w : World) (hC : Kd.C k110 w A fs.length fs) (hsz : ∀ x ∈ fs, x.f0.size ≤ maxLen) :
    Calls Tryz.prog 20 #[.agg #[.slice A fs.length c]] w (RetB (validB fs) w) := by
  have hm := hC.2.1
  have hmm := @run_makeMap Tryz.prog
  have HS := Lib.hid hsz; clear hsz
  go_enter Tryz.func20, Tryz.ntmps20
  go_wp2_with fail
  clear hmm
  go_loopw [12] (fun i W => ∃ (k n : Nat) (f : Lit → Option Value), k ≤ fs.length ∧ n ≤ k ∧ i = .int .i64 k ∧ ValidAt fs k f ∧ MapAt Tryz.prog 9 W (w.heap.size + 1) f n ∧ Below w.heap.size w W ∧ W.heap[w.heap.size]? = some (.cells #[.slice A fs.length c] 27 (0, 0))) (fun i _ => fs.length - (intOf i).toNat)
  case atStart =>
    refine ⟨0, 0, _, Nat.zero_le _, Nat.zero_le _, rfl, ValidAt.zero fs, by simpa using MapAt.made Tryz.prog 9 (w.alloc (.cells #[.slice A fs.length c] 27)), ((Below.refl _ _).alloc (Nat.le_refl _) _).alloc (by simp) _, ?_⟩
    exact (Below.heap_alloc _ _ _ (by simp)).trans (World.alloc_heap_new w _)
  case round =>
    obtain ⟨k, n, f, hk, hn, rfl, hva, hmap, hbel, hbox⟩ := hrel
    have hws := hbel.size
    have hlt2 := hmap.lt
    have HV := Lib.hid hva; clear hva
    have HX := Lib.hid hbox; clear hbox
    have hcm := Kd.C_below hC hbel
    have HC := Lib.hid hC; clear hC
    by_cases hlt : k < fs.length
    · obtain ⟨ad, rfl, h0, h1, h2, h3⟩ := at_T110 hcm (k : Int) (by omega) (by omega)
      have e0 : rd_T110 fs (k : Int) = fs[k] := by simp [rd_T110, List.getD_eq_getElem?_getD, hlt]
      rw [e0, Int.toNat_natCast] at h0 h1 h2 h3
      clear e0 hcm
      have hxs := HS.out _ (List.getElem_mem hlt)
      obtain ⟨x, hx⟩ : ∃ x, x = fs[k] := ⟨_, rfl⟩
      rw [← hx] at h0 h1 h2 h3 hxs
      have HXK := Lib.hid hx; clear hx
      obtain ⟨R, hR⟩ : ∃ R : World → Prop, ∀ W, R W ↔ (W.cell? ⟨wr.heap.size, 0, none⟩ = some (.string x.f0) ∧ W.cell? ⟨wr.heap.size, 1, none⟩ = some (.int .i64 x.f1) ∧ W.cell? ⟨wr.heap.size, 2, none⟩ = some (.int .i64 x.f2) ∧ W.cell? ⟨wr.heap.size, 3, none⟩ = some (.int .i64 x.f3) ∧ Below wr.heap.size wr W ∧ wr.heap.size < W.heap.size) := ⟨_, fun _ => Iff.rfl⟩
      have hR1 : R (wr.alloc (.cells #[.string x.f0, .int .i64 x.f1, .int .i64 x.f2, .int .i64 x.f3] 110)) := (hR _).2 ⟨by simp, by simp, by simp, by simp, (Below.refl _ _).alloc (Nat.le_refl _) _, by simp⟩
      go_upto_region 5 with (fail)
      go_cut [6] (fun v W => v = .bool (flagB x) ∧ R W)
      case first =>
        cases b1 : (x.f1 == 1) <;> cases b2 : (x.f2 == 0) <;> cases b3 : (x.f3 == 1) <;> (go_wp2; go_meet; exact ⟨congrArg Value.bool (by simp only [flagB, b1, b2, b3]; rfl), hR1⟩)
      case rest =>
        obtain ⟨rfl, hR2⟩ := hcut
        obtain ⟨c0, c1, c2, c3, hb5, hz5⟩ := (hR _).1 hR2
        clear hR1 h0 h1 h2 h3
        go_upto_region 6 with (fail)
        go_cut [7] (fun v W => v = .bool (otherB x) ∧ R W)
        case first =>
          have HR := Lib.hid hR; clear hR
          cases b1 : (x.f1 == 2) <;> cases b2 : (x.f1 == 3) <;> cases b3 : decide (0 ≤ x.f2) <;> cases b4 : decide (x.f2 ≤ x.f3) <;> cases b5 : decide (x.f3 ≤ 1000000) <;> (go_wp2; go_meet; exact ⟨congrArg Value.bool (by simp only [otherB, b1, b2, b3, b4, b5]; rfl), hR2⟩)
        case rest =>
          clear c0 c1 c2 c3 hb5 hz5 hR2
          obtain ⟨rfl, hR2⟩ := hcut
          obtain ⟨c0, c1, c2, c3, hb5, hz5⟩ := (hR _).1 hR2
          clear hR hR2
          have hm2 := hmap.below hb5 hlt2
          have hb2 : Below w.heap.size w wc := hbel.trans (hb5.mono hws)
          clear hmap hbel
          cases hfo : (flagB x || otherB x) with
          | false =>
            rw [Bool.or_eq_false_iff] at hfo
            rw [hfo.1, hfo.2]
            have hbad : RetB (validB fs) w (.returned (.bool false)) wc := ⟨by rw [valid_bad hlt (by rw [← HXK.out]; simp [okFact, hfo.1, hfo.2])], hb2⟩
            clear hfo
            go_wp2
            go_ret
            exact hbad
          | true =>
            cases hnm : nameB x.f0 with
            | false =>
              have hbad : ∀ W, Below w.heap.size w W → RetB (validB fs) w (.returned (.bool false)) W := fun W hW => ⟨by rw [valid_bad hlt (by rw [← HXK.out]; simp [okFact, hnm])], hW⟩
              have HBAD := Lib.hid hbad; clear hbad
              have hin := isName_calls x.f0 hxs
              rw [hnm] at hin
              have HIN := Lib.hid hin; clear hin hnm
              cases e1 : flagB x <;> cases e2 : otherB x <;> simp [e1, e2] at hfo <;> clear e1 e2
              all_goals
                go_wp2_with (go_at_call 69; refine (HIN.out _).mono ?_; rintro e W ⟨rfl, n7, rfl⟩)
                go_ret
                exact HBAD.out _ (pw_below_drewN hb2 _)
            | true =>
              have hin := isName_calls x.f0 hxs
              rw [hnm] at hin
              have HIN := Lib.hid hin; clear hin
              have hok : okFact fs[k] = true := by rw [← HXK.out]; simp [okFact, hfo, hnm]
              have hkey := keyOf_string_mk Tryz.underlying9 hxs
              by_cases hmem : x.f0 ∈ names (fs.take k)
              · have hbad : ∀ W, Below w.heap.size w W → RetB (validB fs) w (.returned (.bool false)) W := fun W hW => ⟨by rw [valid_twice hlt (by rw [← HXK.out]; exact hmem)], hW⟩
                have HBAD := Lib.hid hbad; clear hbad
                have hf := HV.out.seen _ hmem
                have HF := Lib.hid hf
                have hlk : ∀ n7, (Instr.lookup 90 (.map (some (w.heap.size + 1))) (.string x.f0) false).run Tryz.prog (wc.drewN n7) = .ok (.bool true) (wc.drewN n7) := fun n7 => by
                  have := (hm2.drewN n7).look false law9 Tryz.underlying90 (zero4 _) hkey; rw [hf] at this; exact this
                clear hf hkey hmem hok hnm
                cases e1 : flagB x <;> cases e2 : otherB x <;> simp [e1, e2] at hfo <;> clear e1 e2
                all_goals
                  go_wp2_with (first | (go_at_call 69; refine (HIN.out _).mono ?_; rintro e W ⟨rfl, n7, rfl⟩))
                  go_ret
                  exact HBAD.out _ (pw_below_drewN hb2 _)
              · have hf := HV.out.new _ hmem
                have hnext := HV.out.next hlt hok (by rw [← HXK.out]; exact hmem)
                rw [← HXK.out] at hnext
                have HN := Lib.hid hnext
                have HF := Lib.hid hf
                have HK := Lib.hid hkey
                have hlk : ∀ n7, (Instr.lookup 90 (.map (some (w.heap.size + 1))) (.string x.f0) false).run Tryz.prog (wc.drewN n7) = .ok (.bool false) (wc.drewN n7) := fun n7 => by
                  have := (hm2.drewN n7).look false law9 Tryz.underlying90 (zero4 _) HK.out; rw [HF.out] at this; exact this
                have hnl : n < maxLen := by unfold maxLen; omega
                clear hf hkey hmem hok hnm hnext
                cases e1 : flagB x <;> cases e2 : otherB x <;> simp [e1, e2] at hfo <;> clear e1 e2
                all_goals
                  go_wp2_with (first | (go_at_call 69; refine (HIN.out _).mono ?_; rintro e W ⟨rfl, n7, rfl⟩) | (at_mapUpdate; refine wp_put rfl _ _ _ 90 rfl 9 4 law9 Tryz.underlying90 (w.heap.size + 1) n f rfl (hm2.drewN _) hnl (.string x.f0) (.bool true) _ rfl rfl HK.out ?_; intro w9 hm9 hg9; rw [HF.out] at hm9))
                  go_roundw
                  case rel =>
                    exact ⟨k + 1, n + 1, _, by omega, by omega, by go_num, HN.out, by simpa using hm9, grown_below (pw_below_drewN hb2 _) hg9 (by have := hb2.size; simpa using this) (by omega), (hg9.block _ (by have := hb2.size; simp; omega) (by simp)).trans ((hb5.block _ (by omega)).trans HX.out)⟩
                  case measure => simp [intOf]; omega
    · obtain rfl : k = fs.length := by omega
      have hfin : ∀ W, Below w.heap.size w W → RetB (validB fs) w (.returned (.bool (decide ((fs.length : Int) ≤ 60)))) W := fun W hW => ⟨by rw [HV.out.all, show decide ((fs.length : Int) ≤ 60) = decide (fs.length ≤ 60) from decide_eq_decide.2 (by omega)], hW⟩
      have HFIN := Lib.hid hfin; clear hfin
      have hc := cell_of_one HX.out
      go_wp2
      go_ret
      exact HFIN.out _ hbel
end Go.Proofs.YtaigepddkgpplaaGreatDoor.M

end
section
/- What fact.Fits and fact.Index compute, and that the Go functions compute it. -/
namespace Go.Proofs.YtaigepddkgpplaaGreatDoor.M
open Go Go.RowKit Go.Maps Go.WideMaps Go.Proofs.YtaigepddkgpplaaGreatDoorW.PrintWords Go.Proofs.YtaigepddkgpplaaGreatDoorW.PrintLast Go.Proofs.YtaigepddkgpplaaGreatDoorW.PrintMore Go.Proofs.YtaigepddkgpplaaGreatDoor.B
set_option linter.unusedVariables false
set_option linter.unusedSimpArgs false

theorem cell_alloc {w : World} {a : Addr} {v : Value} (h : w.cell? a = some v) (o : Obj) : (w.alloc o).cell? a = some v := (((Below.refl w.heap.size w).alloc (Nat.le_refl _) o).cell (World.block_lt_of_cell? w a h)).trans h
def inB (fs : List S110) (cs : List Int) (i : Nat) : Bool := match fs[i]?, cs[i]? with | some x, some v => decide (x.f2 ≤ v) && decide (v ≤ x.f3) | _, _ => false
/-- the case fits the domain -/
def fitsB (fs : List S110) (cs : List Int) : Bool := validB fs && (decide (cs.length = fs.length) && (List.range fs.length).all (inB fs cs))

theorem fits_len {fs : List S110} {cs : List Int} (h : ¬ cs.length = fs.length) : fitsB fs cs = false := by simp [fitsB, h]
theorem fits_bad {fs : List S110} {cs : List Int} {k : Nat} (hk : k < fs.length) (hk2 : k < cs.length) (h : (decide (fs[k].f2 ≤ cs[k]) && decide (cs[k] ≤ fs[k].f3)) = false) : fitsB fs cs = false := by
  have : (List.range fs.length).all (inB fs cs) = false := by
    rw [List.all_eq_false]
    exact ⟨k, by simpa using hk, by simp [inB, hk, hk2] at *; exact h⟩
  simp [fitsB, this]
theorem fits_all {fs : List S110} {cs : List Int} (hv : validB fs = true) (hl : cs.length = fs.length) (h : ∀ j, ∀ h1 : j < fs.length, ∀ h2 : j < cs.length, (decide (fs[j].f2 ≤ cs[j]) && decide (cs[j] ≤ fs[j].f3)) = true) : fitsB fs cs = true := by
  have : (List.range fs.length).all (inB fs cs) = true := by
    rw [List.all_eq_true]
    intro j hj
    have hj : j < fs.length := by simpa using hj
    have := h j hj (by omega)
    simp [inB, hj, hl] at *
    exact this
  simp [fitsB, hv, hl, this]
set_option maxRecDepth 100000 in
set_option maxHeartbeats 2000000 in
theorem fits_calls (A : Option Addr) (c : Nat) (fs : List S110) (A2 : Option Addr) (c2 : Nat) (cs : List Int) (w : World) (hC : Kd.C k110 w A fs.length fs) (hsz : ∀ x ∈ fs, x.f0.size ≤ maxLen) (hC2 : Kd.C (Kd.int .i64) w A2 cs.length cs) :
    Calls Tryz.prog 23 #[.agg #[.slice A fs.length c], .slice A2 cs.length c2] w (RetB (fitsB fs cs) w) := by
  have hm := hC.2.1
  have hm2 := hC2.2.1
  obtain ⟨w0, hw0⟩ : ∃ w0, w0 = w.alloc (.cells #[.slice A fs.length c] 27) := ⟨_, rfl⟩
  have hb : Below w.heap.size w w0 := by rw [hw0]; exact (Below.refl _ _).alloc (Nat.le_refl _) _
  have hlt : w.heap.size < w0.heap.size := by rw [hw0]; simp
  have hc0 : w0.cell? ⟨w.heap.size, 0, none⟩ = some (.slice A fs.length c) := by rw [hw0]; simp
  have hv := valid_calls A c fs w0 (Kd.C_below hC hb) hsz
  have HV := Lib.hid hv; clear hv hsz
  have HC := Lib.hid hC; clear hC
  have HC2 := Lib.hid hC2; clear hC2
  go_enter Tryz.func23, Tryz.ntmps23
  have HW := Lib.hid hw0
  subst hw0
  cases hvb : validB fs with
  | false =>
    have hfin : ∀ W, Below w.heap.size w W → RetB (fitsB fs cs) w (.returned (.bool false)) W := fun W hW => ⟨by simp [fitsB, hvb], hW⟩
    rw [hvb] at HV
    have HFIN := Lib.hid hfin; clear hfin hvb
    go_wp2_with (go_at_call 20; refine HV.out.mono ?_; rintro e W ⟨rfl, hb0⟩)
    go_ret
    exact HFIN.out _ (hb.trans (hb0.mono (Nat.le_of_lt hlt)))
  | true =>
    rw [hvb] at HV
    by_cases hlen : cs.length = fs.length
    · have hnl : ((cs.length : Int) != (fs.length : Int)) = false := by simp [hlen]
      have HL := Lib.hid hlen; have HVB := Lib.hid hvb; clear hlen hvb
      go_wp2_with (go_at_call 20; refine HV.out.mono ?_; rintro e W ⟨rfl, hb0⟩; have hcW := (hb0.cell (p := ⟨w.heap.size, 0, none⟩) (by simp)).trans hc0)
      have hb1 : Below w.heap.size w W := hb.trans (hb0.mono (Nat.le_of_lt hlt))
      have hzW : w.heap.size < W.heap.size := Nat.lt_of_lt_of_le hlt hb0.size
      go_loopw [21] (fun i W' => ∃ k : Nat, k ≤ fs.length ∧ i = .int .i64 k ∧ (∀ j, j < k → ∀ h1 : j < fs.length, ∀ h2 : j < cs.length, (decide (fs[j].f2 ≤ cs[j]) && decide (cs[j] ≤ fs[j].f3)) = true) ∧ Below W.heap.size W W') (fun i _ => fs.length - (intOf i).toNat)
      case atStart => exact ⟨0, Nat.zero_le _, rfl, fun j h => by omega, Below.refl _ _⟩
      case round =>
        obtain ⟨k, hk, rfl, hall, hbr⟩ := hrel
        have HA := Lib.hid hall; clear hall
        have hbw : Below w.heap.size w wr := hb1.trans (hbr.mono (Nat.le_of_lt hzW))
        by_cases hlt2 : k < fs.length
        · have hlt3 : k < cs.length := by rw [HL.out]; exact hlt2
          obtain ⟨ad, rfl, h0, h1, h2, h3⟩ := nt_T110 (Kd.C_below HC.out hbw) k hlt2
          obtain ⟨ad2, rfl, g0⟩ := nt_int (Kd.C_below HC2.out hbw) k hlt3
          have hbad : (decide (fs[k].f2 ≤ cs[k]) && decide (cs[k] ≤ fs[k].f3)) = false → ∀ W, Below w.heap.size w W → RetB (fitsB fs cs) w (.returned (.bool false)) W := fun h W hW => ⟨by rw [fits_bad hlt2 hlt3 h], hW⟩
          have HBAD := Lib.hid hbad; clear hbad
          have hnext : (decide (fs[k].f2 ≤ cs[k]) && decide (cs[k] ≤ fs[k].f3)) = true → ∀ j, j < k + 1 → ∀ h1 : j < fs.length, ∀ h2 : j < cs.length, (decide (fs[j].f2 ≤ cs[j]) && decide (cs[j] ≤ fs[j].f3)) = true := fun h j hj h1 h2 => by
            by_cases e : j = k
            · subst e; exact h
            · exact HA.out j (by omega) h1 h2
          have HN := Lib.hid hnext; clear hnext
          generalize fs[k] = x at h0 h1 h2 h3 HBAD HN
          generalize cs[k] = v at g0 HBAD HN
          have hgd : w.heap.size + 1 ≤ wr.heap.size := by have := hbr.size; omega
          have g1 : (wr.alloc (.cells #[.string x.f0, .int .i64 x.f1, .int .i64 x.f2, .int .i64 x.f3] 110)).cell? (ad2.add k) = some (.int .i64 v) := by
            exact cell_alloc g0 _
          have HG0 := Lib.hid g0; clear g0
          cases b1 : decide (v < x.f2) with
          | true =>
            have hff := HBAD.out (by have := of_decide_eq_true b1; simp; omega)
            have HFF := Lib.hid hff
            go_upto_region 6 with (fail)
            go_quiet (fail)
            go_wp2
            go_ret
            exact HFF.out _ (pw_below_drewN (below_step hbw ((Below.refl _ _).alloc (Nat.le_refl _) _)) _)
          | false =>
            cases b2 : decide (x.f3 < v) with
            | true =>
              have hff := HBAD.out (by have := of_decide_eq_true b2; simp; omega)
              have HFF := Lib.hid hff
              go_upto_region 6 with (fail)
              go_quiet (fail)
              go_wp2
              go_ret
              exact HFF.out _ (pw_below_drewN (below_step hbw ((Below.refl _ _).alloc (Nat.le_refl _) _)) _)
            | false =>
              have hff := HN.out (by have := of_decide_eq_false b1; have := of_decide_eq_false b2; simp; omega)
              have HFF := Lib.hid hff
              go_upto_region 6 with (fail)
              go_quiet (fail)
              go_wp2
              go_roundw
              case rel => exact ⟨k + 1, by omega, by go_num, HFF.out, pw_below_drewN (below_step hbr ((Below.refl _ _).alloc (Nat.le_refl _) _)) _⟩
              case measure => simp [intOf]; omega
        · obtain rfl : k = fs.length := by omega
          have hfin : RetB (fitsB fs cs) w (.returned (.bool true)) wr := ⟨by rw [fits_all HVB.out HL.out (fun j h1 h2 => HA.out j h1 h1 h2)], hbw⟩
          have HFIN := Lib.hid hfin; clear hfin
          go_wp2
          go_ret
          exact HFIN.out
    · have hnl : ((cs.length : Int) != (fs.length : Int)) = true := by simp; omega
      have hfin : ∀ W, Below w.heap.size w W → RetB (fitsB fs cs) w (.returned (.bool false)) W := fun W hW => ⟨by rw [fits_len hlen], hW⟩
      have HFIN := Lib.hid hfin; clear hfin hvb hlen
      go_wp2_with (go_at_call 20; refine HV.out.mono ?_; rintro e W ⟨rfl, hb0⟩; have hcW := (hb0.cell (p := ⟨w.heap.size, 0, none⟩) (by simp)).trans hc0)
      go_ret
      exact HFIN.out _ (hb.trans (hb0.mono (Nat.le_of_lt hlt)))
end Go.Proofs.YtaigepddkgpplaaGreatDoor.M

end
