/- The small functions of the reference of layer 14. -/
import Derived.Test.YtaigepddkgpplaaGreatDoorQAppN
import Derived.Test.YtaigepddkgpplaaGreatDoorQBx57
import Derived.Deep.QuietTactic
import Derived.BigQuiet
namespace Go.Proofs.YtaigepddkgpplaaGreatDoor.M
open Go Go.RowKit Go.Maps Go.WideMaps Go.Proofs.YtaigepddkgpplaaGreatDoorW.PrintWords Go.Proofs.YtaigepddkgpplaaGreatDoorW.PrintLast Go.Proofs.YtaigepddkgpplaaGreatDoorW.PrintMore Go.Proofs.YtaigepddkgpplaaGreatDoor.B Go.Proofs.YtaigepddkgpplaaGreatDoor.T
set_option linter.unusedVariables false
set_option linter.unusedSimpArgs false

/-- the list has the text -/
def hasS (l : List ByteArray) (s : ByteArray) : Bool := l.any (fun x => decide (x = s))
theorem hasS_iff (l : List ByteArray) (s : ByteArray) : hasS l s = true ↔ s ∈ l := by
  unfold hasS
  rw [List.any_eq_true]
  constructor
  · rintro ⟨x, hx, h⟩
    have : x = s := by simpa using h
    exact this ▸ hx
  · intro h; exact ⟨s, h, by simp⟩
theorem hasS_no {l : List ByteArray} {s : ByteArray} (h : s ∉ l) : hasS l s = false := by
  rw [Bool.eq_false_iff]; exact fun hc => h ((hasS_iff l s).1 hc)
/-- a bool; the world is as it was -/
def RetQ (b : Bool) (w : World) (e : Ending) (w' : World) : Prop := e = .returned (.bool b) ∧ w = w'
set_option maxHeartbeats 1000000 in
theorem in39q (A : Option Addr) (c : Nat) (l : List ByteArray) (s : ByteArray) (w : World) (hC : Kd.C Kd.string w A l.length l) :
    Calls Tryz.prog 39 #[.slice A l.length c, .string s] w (RetQ (hasS l s) w) := by
  have hm := hC.2.1
  have HC := Lib.hid hC; clear hC
  go_enter Tryz.func39, Tryz.ntmps39
  go_wp2_with fail
  go_loop [5] (fun i => ∃ k : Nat, k ≤ l.length ∧ i = .int .i64 k ∧ s ∉ l.take k) (fun i => l.length - (intOf i).toNat)
  case atStart => exact ⟨0, Nat.zero_le _, rfl, by simp⟩
  case round =>
    obtain ⟨k, hk, rfl, hno⟩ := hrel
    have HN := Lib.hid hno; clear hno
    by_cases hlt : k < l.length
    · obtain ⟨ad, rfl, h0⟩ := nt_str HC.out k hlt
      have he := str_eq l[k] s
      have htk : l.take (k + 1) = l.take k ++ [l[k]] := List.take_succ_eq_append_getElem hlt
      have hmem : l[k] ∈ l := List.getElem_mem hlt
      generalize l[k] = t at *
      by_cases hts : t = s
      · have hr : hasS l s = true := (hasS_iff l s).2 (hts ▸ hmem)
        rw [decide_eq_true hts] at he
        have hret : RetQ (hasS l s) w (.returned (.bool true)) w := ⟨by rw [hr], rfl⟩
        have HR := Lib.hid hret
        clear hr hts htk hmem hret
        go_wp2
        go_ret
        exact HR.out
      · rw [decide_eq_false hts] at he
        have hn : s ∉ l.take (k + 1) := by rw [htk]; simp; exact ⟨HN.out, fun e => hts e.symm⟩
        have HN2 := Lib.hid hn
        clear hn hts htk hmem
        go_wp2
        go_round
        case rel => exact ⟨k + 1, by omega, by go_num, HN2.out⟩
        case measure => simp [intOf]; omega
    · obtain rfl : k = l.length := by omega
      have hr : hasS l s = false := hasS_no (by have := HN.out; rwa [List.take_length] at this)
      have hret : RetQ (hasS l s) w (.returned (.bool false)) w := ⟨by rw [hr], rfl⟩
      have HR := Lib.hid hret
      clear hr hret
      go_wp2
      go_ret
      exact HR.out
theorem in39d (A : Option Addr) (c : Nat) (l : List ByteArray) (s : ByteArray) (w : World) (hC : Kd.C Kd.string w A l.length l) {b : Bool} (hb : hasS l s = b) (n : Nat) : Calls Tryz.prog 39 #[.slice A l.length c, .string s] (w.drewN n) fun e w' => e = .returned (.bool b) ∧ w' = w.drewN n :=
  (in39q A c l s (w.drewN n) (Kd.C_below hC (pw_below_drewN (Below.refl _ _) n))).mono fun e w' ⟨h1, h2⟩ => ⟨hb ▸ h1, h2.symm⟩
theorem take_ne {α : Type} {a b : List α} {k : Nat} (ha : k < a.length) (hb : k < b.length) (h : a[k] ≠ b[k]) : a ≠ b := fun e => by subst e; exact h rfl
theorem eq_of_takes {α : Type} {a b : List α} (hl : a.length = b.length) (h : a.take a.length = b.take a.length) : a = b := by
  rw [List.take_length, hl, List.take_length] at h; exact h
theorem take_next {α : Type} {a b : List α} {k : Nat} (ha : k < a.length) (hb : k < b.length) (h : a.take k = b.take k) (he : a[k] = b[k]) : a.take (k + 1) = b.take (k + 1) := by
  rw [List.take_succ_eq_append_getElem ha, List.take_succ_eq_append_getElem hb, h, he]
set_option maxHeartbeats 1000000 in
theorem same35 (A : Option Addr) (c : Nat) (a : List ByteArray) (B : Option Addr) (d : Nat) (b : List ByteArray) (w : World) (hA : Kd.C Kd.string w A a.length a) (hB : Kd.C Kd.string w B b.length b) :
    Calls Tryz.prog 35 #[.slice A a.length c, .slice B b.length d] w (RetB (decide (a = b)) w) := by
  have hm := hA.2.1
  have hm2 := hB.2.1
  have HA := Lib.hid hA; have HB := Lib.hid hB; clear hA hB
  by_cases hl : a.length = b.length
  · have hneq : ((a.length : Int) != (b.length : Int)) = false := by simp [hl]
    have HL := Lib.hid hl; clear hl
    go_enter Tryz.func35, Tryz.ntmps35
    go_wp2_with fail
    go_loopw [5] (fun i W => ∃ k : Nat, k ≤ a.length ∧ i = .int .i64 k ∧ a.take k = b.take k ∧ Below w.heap.size w W) (fun i _ => a.length - (intOf i).toNat)
    case atStart => exact ⟨0, Nat.zero_le _, rfl, by simp, Below.refl _ _⟩
    case round =>
      obtain ⟨k, hk, rfl, hno, hbr⟩ := hrel
      have HN := Lib.hid hno; clear hno
      by_cases hlt : k < a.length
      · have hlt2 : k < b.length := by rw [← HL.out]; exact hlt
        obtain ⟨ad, rfl, h0⟩ := nt_str (Kd.C_below HA.out hbr) k hlt
        obtain ⟨bd, rfl, g0⟩ := nt_str (Kd.C_below HB.out hbr) k hlt2
        have he := str_eq a[k] b[k]
        have hn1 := fun h => take_next hlt hlt2 HN.out h
        have hn2 := fun h => take_ne hlt hlt2 h
        generalize a[k] = t at *
        generalize b[k] = u at *
        by_cases hts : t = u
        · rw [decide_eq_true hts] at he
          have HN2 := Lib.hid (hn1 hts)
          clear hn1 hn2 hts
          go_upto_region 6 with (fail)
          go_quiet (fail)
          go_wp2
          go_roundw
          case rel => exact ⟨k + 1, by omega, by go_num, HN2.out, pw_below_drewN hbr _⟩
          case measure => simp [intOf]; omega
        · rw [decide_eq_false hts] at he
          have hret : ∀ W, Below w.heap.size w W → RetB (decide (a = b)) w (.returned (.bool false)) W := fun W h => ⟨by rw [decide_eq_false (hn2 hts)], h⟩
          have HR := Lib.hid hret; clear hret
          clear hn1 hn2 hts
          go_upto_region 6 with (fail)
          go_quiet (fail)
          go_wp2
          go_ret
          exact HR.out _ (pw_below_drewN hbr _)
      · obtain rfl : k = a.length := by omega
        have hret : RetB (decide (a = b)) w (.returned (.bool true)) wr := ⟨by rw [decide_eq_true (eq_of_takes HL.out HN.out)], hbr⟩
        have HR := Lib.hid hret; clear hret
        go_wp2
        go_ret
        exact HR.out
  · have hneq : ((a.length : Int) != (b.length : Int)) = true := by simp; omega
    have hret : RetB (decide (a = b)) w (.returned (.bool false)) w := ⟨by rw [decide_eq_false (fun e => hl (by rw [e]))], Below.refl _ _⟩
    have HR := Lib.hid hret; clear hret
    clear hl
    go_enter Tryz.func35, Tryz.ntmps35
    go_wp2
    go_ret
    exact HR.out
set_option maxHeartbeats 1000000 in
theorem lists36 (A : Option Addr) (c : Nat) (a : List (List ByteArray)) (B : Option Addr) (d : Nat) (b : List (List ByteArray)) (w : World) (hA : Kd.C (Kd.slice 9 Kd.string) w A a.length a) (hB : Kd.C (Kd.slice 9 Kd.string) w B b.length b) :
    Calls Tryz.prog 36 #[.slice A a.length c, .slice B b.length d] w (RetB (decide (a = b)) w) := by
  have hm := hA.2.1
  have hm2 := hB.2.1
  have HA := Lib.hid hA; have HB := Lib.hid hB; clear hA hB
  by_cases hl : a.length = b.length
  · have hneq : ((a.length : Int) != (b.length : Int)) = false := by simp [hl]
    have HL := Lib.hid hl; clear hl
    go_enter Tryz.func36, Tryz.ntmps36
    go_wp2_with fail
    go_loopw [5] (fun i W => ∃ k : Nat, k ≤ a.length ∧ i = .int .i64 k ∧ a.take k = b.take k ∧ Below w.heap.size w W) (fun i _ => a.length - (intOf i).toNat)
    case atStart => exact ⟨0, Nat.zero_le _, rfl, by simp, Below.refl _ _⟩
    case round =>
      obtain ⟨k, hk, rfl, hno, hbr⟩ := hrel
      have HN := Lib.hid hno; clear hno
      by_cases hlt : k < a.length
      · have hlt2 : k < b.length := by rw [← HL.out]; exact hlt
        obtain ⟨ad, A0, c0, rfl, h0, hl0, hC0⟩ := nt_L8 (Kd.C_below HA.out hbr) k hlt
        obtain ⟨bd, B0, d0, rfl, g0, gl0, gC0⟩ := nt_L8 (Kd.C_below HB.out hbr) k hlt2
        have hn1 := fun h => take_next hlt hlt2 HN.out h
        have hn2 := fun h => take_ne hlt hlt2 h
        have hsm : ∀ W', Below wr.heap.size wr W' → Calls Tryz.prog 35 #[.slice A0 a[k].length c0, .slice B0 b[k].length d0] W' (RetB (decide (a[k] = b[k])) W') := fun W' h => same35 A0 c0 a[k] B0 d0 b[k] W' (Kd.C_below hC0 h) (Kd.C_below gC0 h)
        generalize a[k] = t at *
        generalize b[k] = u at *
        have hS : ∀ W', Below wr.heap.size wr W' → Below wr.heap.size wr W' ∧ W'.cell? (ad.add k) = some (.slice A0 t.length c0) ∧ W'.cell? (bd.add k) = some (.slice B0 u.length d0) := fun W' h => ⟨h, (h.cell (World.block_lt_of_cell? _ _ h0)).trans h0, (h.cell (World.block_lt_of_cell? _ _ g0)).trans g0⟩
        have HS := Lib.hid hS; have HBR := Lib.hid hbr
        have HR0 := Lib.hid (Below.refl wr.heap.size wr)
        clear hC0 gC0 hS hbr
        by_cases hts : t = u
        · rw [decide_eq_true hts] at hsm
          have HN2 := Lib.hid (hn1 hts); have HSM := Lib.hid hsm
          clear hn1 hn2 hts hsm
          go_upto_region 6 with (fail)
          go_region_held3 (fun W' => Below wr.heap.size wr W' ∧ W'.cell? (ad.add k) = some (.slice A0 t.length c0) ∧ W'.cell? (bd.add k) = some (.slice B0 u.length d0))
            (first | exact HS.out _ HR0.out.drew | (go_split_ands; exact HS.out _ (below_to (by assumption) hb2)) | go_keep)
            (first | (go_at_call 35; go_split_ands; refine (HSM.out _ (by assumption)).mono ?_; rintro e W' ⟨rfl, hb2⟩))
          go_wp2_with fail
          go_split_ands
          go_roundw
          case rel => exact ⟨k + 1, by omega, by go_num, HN2.out, below_to HBR.out (by assumption)⟩
          case measure => simp [intOf]; omega
        · rw [decide_eq_false hts] at hsm
          have hret : ∀ W, Below wr.heap.size wr W → RetB (decide (a = b)) w (.returned (.bool false)) W := fun W h => ⟨by rw [decide_eq_false (hn2 hts)], below_to HBR.out h⟩
          have HR := Lib.hid hret; have HSM := Lib.hid hsm
          clear hn1 hn2 hts hsm hret
          go_upto_region 6 with (fail)
          go_region_held3 (fun W' => Below wr.heap.size wr W' ∧ W'.cell? (ad.add k) = some (.slice A0 t.length c0) ∧ W'.cell? (bd.add k) = some (.slice B0 u.length d0))
            (first | exact HS.out _ HR0.out.drew | (go_split_ands; exact HS.out _ (below_to (by assumption) hb2)) | go_keep)
            (first | (go_at_call 35; go_split_ands; refine (HSM.out _ (by assumption)).mono ?_; rintro e W' ⟨rfl, hb2⟩))
          go_wp2_with fail
          go_split_ands
          go_ret
          exact HR.out _ (by assumption)
      · obtain rfl : k = a.length := by omega
        have hret : RetB (decide (a = b)) w (.returned (.bool true)) wr := ⟨by rw [decide_eq_true (eq_of_takes HL.out HN.out)], hbr⟩
        have HR := Lib.hid hret; clear hret
        go_wp2
        go_ret
        exact HR.out
  · have hneq : ((a.length : Int) != (b.length : Int)) = true := by simp; omega
    have hret : RetB (decide (a = b)) w (.returned (.bool false)) w := ⟨by rw [decide_eq_false (fun e => hl (by rw [e]))], Below.refl _ _⟩
    have HR := Lib.hid hret; clear hret
    clear hl
    go_enter Tryz.func36, Tryz.ntmps36
    go_wp2
    go_ret
    exact HR.out
theorem count_f_le {k k' : Nat} (h : k ≤ k') {a b c d e m r} (hr : pandectref07_count.f k a b c d e m = some r) : pandectref07_count.f k' a b c d e m = some r := by
  induction h with
  | refl => exact hr
  | step _ ih => exact (pandectref07_count.mono_l _).1 _ _ _ _ _ _ _ ih
theorem count_l_le {k k' : Nat} (h : k ≤ k') {a b c d e f g l r} (hr : pandectref07_count.l0 k a b c d e f g l = some r) : pandectref07_count.l0 k' a b c d e f g l = some r := by
  induction h with
  | refl => exact hr
  | step _ ih => exact (pandectref07_count.mono_l _).2 _ _ _ _ _ _ _ _ _ ih
theorem count_some (x : S24) : lensOk x → ∀ m : Int, 0 ≤ m → m ≤ 1000000 → ∃ k r, pandectref07_count.f k x.f0 x.f1 x.f2 x.f3 x.f4 m = some r ∧ 1 ≤ r ∧ r ≤ m + 1 := by
  induction x using S24.ind with
  | h x ih =>
    intro hx m h0 h1
    have hl : x.f4.length ≤ 9223372036854775807 := hx x (nodes_self x)
    have key : ∀ (j i : Nat) (n : Int), i + j = x.f4.length → 1 ≤ n → n ≤ m + 1 → ∃ k r, pandectref07_count.l0 k m n (i : Int) x.f0 x.f1 x.f2 x.f3 x.f4 = some r ∧ 1 ≤ r ∧ r ≤ m + 1 := by
      intro j
      induction j with
      | zero =>
        intro i n hi hn1 hn2
        exact ⟨1, n, by rw [pandectref07_count.l0, if_neg (by omega)], hn1, hn2⟩
      | succ j ihj =>
        intro i n hi hn1 hn2
        have hlt : i < x.f4.length := by omega
        by_cases hnm : n ≤ m
        · obtain ⟨k1, r1, h2, h3, h4⟩ := ih x.f4[i] (List.getElem_mem hlt) (hx.kid (List.getElem_mem hlt)) (m - n) (by omega) (by omega)
          obtain ⟨k2, r2, h5, h6, h7⟩ := ihj (i + 1) (n + r1) (by omega) (by omega) (by omega)
          refine ⟨max k1 k2 + 1, r2, ?_, h6, h7⟩
          have er : rd_T24 x.f4 (i : Int) = x.f4[i] := by simp [rd_T24, hlt]
          have ew : wrap64 ((i : Int) + 1) = ((i + 1 : Nat) : Int) := by rw [show ((i : Int) + 1) = ((i + 1 : Nat) : Int) from by omega]; unfold wrap64; omega
          have e2 : wrap64 (m - n) = m - n := by unfold wrap64; omega
          have e3 : wrap64 (n + r1) = n + r1 := by unfold wrap64; omega
          rw [pandectref07_count.l0, if_pos (by omega), if_pos hnm, if_pos (by omega), er, e2, count_f_le (Nat.le_max_left k1 k2) h2, ew]
          simp only [Option.bind_some]
          rw [e3]
          exact count_l_le (Nat.le_max_right k1 k2) h5
        · exact ⟨1, n, by rw [pandectref07_count.l0, if_pos (by omega), if_neg hnm], hn1, hn2⟩
    obtain ⟨k, r, h2, h3, h4⟩ := key x.f4.length 0 1 (by omega) (by omega) (by omega)
    refine ⟨k + 1, r, ?_, h3, h4⟩
    rw [pandectref07_count.f]
    simpa using h2
theorem small_any (x : S24) (m : Int) (h0 : 0 ≤ m) (h1 : m ≤ 1000000) (hx : lensOk x) :
    ∃ b : Bool, ∀ (A4 : Option Addr) (c4 : Nat) (w : World), Kd.C k24 w A4 x.f4.length x.f4 → x.f4.length ≤ c4 → Calls Tryz.prog 42 #[.agg #[.int .i64 x.f0, .string x.f1, .int .i64 x.f2, .int .i64 x.f3, .slice A4 x.f4.length c4], .int .i64 m] w (RetB b w) := by
  obtain ⟨k, r, h, _, _⟩ := count_some x hx m h0 h1
  exact ⟨decide (r ≤ m), fun A4 c4 w hC hl => pandectref07_Small.calls k x.f0 x.f1 x.f2 x.f3 A4 c4 x.f4 m (decide (r ≤ m)) w hC hl (by unfold pandectref07_Small.f; rw [h]; rfl)⟩
/-- what Few tells -/
def FewP (ps : List S67) (m : Int) (w : World) (e : Ending) (W : World) : Prop :=
  ∃ b : Bool, e = .returned (.bool b) ∧ Below w.heap.size w W ∧ (b = true → (ps.length : Int) ≤ m ∧ ∀ p ∈ ps, p.f6.length ≤ 30)
/-- some cells of a provision -/
theorem k67_some {w : World} {p : S67} {qs : List Value} (h : k67.K w p qs) : ∃ A9 c9 A10 c10, qs[0]? = some (.string p.f0) ∧ qs[3]? = some (.string p.f3) ∧ qs[5]? = some (.int .i64 p.f5.f0) ∧ qs[6]? = some (.string p.f5.f1) ∧ qs[7]? = some (.int .i64 p.f5.f2) ∧ qs[8]? = some (.int .i64 p.f5.f3) ∧
    qs[9]? = some (.slice A9 p.f5.f4.length c9) ∧ qs[10]? = some (.slice A10 p.f6.length c10) ∧ p.f5.f4.length ≤ c9 ∧ k24.C w A9 p.f5.f4.length p.f5.f4 ∧ p.f6.length ≤ c10 ∧ Kd.string.C w A10 p.f6.length p.f6 := by
  obtain ⟨A9, c9, A10, c10, A14, c14, A18, c18, A22, c22, rfl, l9, g9, l10, g10, _⟩ := k67_open h
  exact ⟨A9, c9, A10, c10, rfl, rfl, rfl, rfl, rfl, rfl, rfl, rfl, l9, g9, l10, g10⟩
set_option maxRecDepth 100000 in
set_option maxHeartbeats 4000000 in
theorem few30 (A : Option Addr) (fs : List S110) (c : Nat) (A2 : Option Addr) (ps : List S67) (c2 : Nat) (A3 : Option Addr) (n3 c3 : Nat) (m : Int) (w : World) (hfl : fs.length ≤ 9223372036854775807) (hC2 : Kd.C k67 w A2 ps.length ps) (hlo : ∀ p ∈ ps, lensOk p.f5) :
    Calls Tryz.prog 30 #[.agg #[.slice A fs.length c, .slice A2 ps.length c2, .slice A3 n3 c3], .int .i64 m] w (FewP ps m w) := by
  have hpl := hC2.2.1
  obtain ⟨W0, hW0⟩ : ∃ W0, W0 = (w.alloc (.cells #[.slice A fs.length c, .slice A2 ps.length c2, .slice A3 n3 c3] 52 (0, 0))) := ⟨_, rfl⟩
  have hb0 : Below w.heap.size w W0 := by rw [hW0]; exact (Below.refl _ _).alloc (Nat.le_refl _) _
  have hl0 : W0.cell? ⟨w.heap.size, 0, none⟩ = some (.slice A fs.length c) := by rw [hW0]; exact cell_blk (heap_at _ _ rfl) rfl
  have hl1 : W0.cell? ⟨w.heap.size, 1, none⟩ = some (.slice A2 ps.length c2) := by rw [hW0]; exact cell_blk (heap_at _ _ rfl) rfl
  have hfalse : ∀ W, Below W0.heap.size W0 W → FewP ps m w (.returned (.bool false)) W := fun W h => ⟨false, rfl, below_to hb0 h, fun e => by cases e⟩
  have HB0 := Lib.hid hb0; have HW0 := Lib.hid hW0; have HL1 := Lib.hid hl1; have HL0 := Lib.hid hl0; have HC2 := Lib.hid hC2; have HF := Lib.hid hfalse; have HLO := Lib.hid hlo
  have HR0 := Lib.hid (Below.refl W0.heap.size W0)
  clear hb0 hW0 hC2 hfalse hlo
  by_cases hmn : m < (ps.length : Int)
  · go_enter Tryz.func30, Tryz.ntmps30
    go_upto_region 1 with (fail)
    rw [← HW0.out]
    clear HW0
    go_wp2
    go_ret
    exact HF.out _ HR0.out
  · by_cases h70 : (70 : Int) < (fs.length : Int)
    · go_enter Tryz.func30, Tryz.ntmps30
      go_upto_region 1 with (fail)
      rw [← HW0.out]
      clear HW0
      go_wp2
      go_ret
      exact HF.out _ HR0.out
    · go_enter Tryz.func30, Tryz.ntmps30
      go_upto_region 1 with (fail)
      rw [← HW0.out]
      clear HW0
      go_wp2_with fail
      have hps : (ps.length : Int) ≤ m := by omega
      have HPS := Lib.hid hps
      clear hps hmn h70 hl0 hl1
      go_loopw [5] (fun i W => ∃ k : Nat, k ≤ ps.length ∧ i = .int .i64 k ∧ Below W0.heap.size W0 W ∧ (∀ j (h : j < ps.length), j < k → ps[j].f6.length ≤ 30)) (fun i _ => ps.length - (intOf i).toNat)
      case atStart => exact ⟨0, Nat.zero_le _, rfl, HR0.out, fun j h h' => absurd h' (Nat.not_lt_zero _)⟩
      case round =>
        obtain ⟨k, hk, rfl, hbr, hall⟩ := hrel
        have hl1 : wr.cell? ⟨w.heap.size, 1, none⟩ = some (.slice A2 ps.length c2) := (hbr.cell (World.block_lt_of_cell? _ _ HL1.out)).trans HL1.out
        have HBR := Lib.hid hbr; have HALL := Lib.hid hall
        clear hall
        by_cases hlt : k < ps.length
        · obtain ⟨ad, qs, rfl, hcl, hcK, hc1v, hcells⟩ := nt_cells (Kd.C_below HC2.out (below_to HB0.out HBR.out)) k hlt
          obtain ⟨A9, c9, A10, c10, q0, q3, q5, q6, q7, q8, q9, q10, l9, g9, l10, g10⟩ := k67_some hcK
          obtain ⟨sb, hsb⟩ := small_any ps[k].f5 250 (by omega) (by omega) (HLO.out _ (List.getElem_mem hlt))
          have hnext : ps[k].f6.length ≤ 30 → ∀ j (h : j < ps.length), j < k + 1 → ps[j].f6.length ≤ 30 := fun h30 j hj hjk => by
            by_cases e : j = k
            · subst e; exact h30
            · exact HALL.out j hj (by omega)
          generalize ps[k] = p at *
          have HCL := Lib.hid (show qs.length = 23 from hcl); have HCE := Lib.hid hcells; have HONE := Lib.hid hc1v
          have hcs : ∀ (W2 : World), W2.heap[wr.heap.size]? = some (.cells qs.toArray 67 (0, 0)) → ∀ j v, qs[j]? = some v → W2.cell? ⟨wr.heap.size, j, none⟩ = some v := fun W2 h j v hv => cell_blk h (by simpa using hv)
          have HCS := Lib.hid hcs; have HQ := Lib.hid (And.intro q0 (And.intro q3 (And.intro q5 (And.intro q6 (And.intro q7 (And.intro q8 (And.intro q9 q10)))))))
          have HG9 := Lib.hid g9; have HG10 := Lib.hid g10; have HNX := Lib.hid hnext; have HSB := Lib.hid hsb
          clear hcl hcells hc1v hcK hcs q0 q3 q5 q6 q7 q8 q9 q10 g9 g10 hnext hsb hbr
          go_upto_region 7 with (first | ((with_reducible refine gate_dst (N := 31) rfl ?_); refine wp_load_cells rfl 67 _ rfl (ad.add (k * 23)) rfl qs _ Tryz.underlying67 rfl (by rw [HCL.out]; kernel_rfl) HCE.out ?_) | ((with_reducible refine gate_store (t := 67) (p := 6) rfl ?_); refine wp_store_new rfl 67 _ _ rfl rfl _ rfl qs rfl (by rw [HCL.out]; kernel_rfl) (by rw [HCL.out]; kernel_rfl) HONE.out ?_; intro W2 h2 hb2 hs2))
          obtain ⟨q0, q3, q5, q6, q7, q8, q9, q10⟩ := HQ.out
          have d0 := HCS.out W2 h2 0 _ q0
          have d3 := HCS.out W2 h2 3 _ q3
          have d5 := HCS.out W2 h2 5 _ q5
          have d6 := HCS.out W2 h2 6 _ q6
          have d7 := HCS.out W2 h2 7 _ q7
          have d8 := HCS.out W2 h2 8 _ q8
          have d9 := HCS.out W2 h2 9 _ q9
          have d10 := HCS.out W2 h2 10 _ q10
          have hsm := HSB.out A9 c9 W2 (Kd.C_below HG9.out hb2) l9
          have HSM := Lib.hid hsm
          have HD := Lib.hid (And.intro d0 (And.intro d3 d10))
          have hb02 : Below W0.heap.size W0 W2 := below_to HBR.out hb2
          have HB02 := Lib.hid hb02
          clear q0 q3 q5 q6 q7 q8 q9 q10 hsm hb02 d0 d3 d10 HQ h2 hl1 l10
          cases sb with
          | false =>
            go_wp2_with (go_at_call 42; (with_reducible refine HSM.out.mono ?_); rintro e W3 ⟨rfl, hb3⟩)
            go_ret
            exact HF.out _ (below_to HB02.out hb3)
          | true =>
            by_cases h30 : (30 : Int) < (p.f6.length : Int)
            · go_wp2_with (go_at_call 42; (with_reducible refine HSM.out.mono ?_); rintro e W3 ⟨rfl, hb3⟩; obtain ⟨d0, d3, d10⟩ := HD.out; replace d10 := (hb3.cell (World.block_lt_of_cell? _ _ d10)).trans d10)
              go_ret
              exact HF.out _ (below_to HB02.out hb3)
            · by_cases h100 : (100 : Int) < (p.f0.size : Int)
              · go_wp2_with (go_at_call 42; (with_reducible refine HSM.out.mono ?_); rintro e W3 ⟨rfl, hb3⟩; obtain ⟨d0, d3, d10⟩ := HD.out; replace d10 := (hb3.cell (World.block_lt_of_cell? _ _ d10)).trans d10; replace d0 := (hb3.cell (World.block_lt_of_cell? _ _ d0)).trans d0)
                go_ret
                exact HF.out _ (below_to HB02.out hb3)
              · by_cases h103 : (100 : Int) < (p.f3.size : Int)
                · go_wp2_with (go_at_call 42; (with_reducible refine HSM.out.mono ?_); rintro e W3 ⟨rfl, hb3⟩; obtain ⟨d0, d3, d10⟩ := HD.out; replace d10 := (hb3.cell (World.block_lt_of_cell? _ _ d10)).trans d10; replace d0 := (hb3.cell (World.block_lt_of_cell? _ _ d0)).trans d0; replace d3 := (hb3.cell (World.block_lt_of_cell? _ _ d3)).trans d3)
                  go_ret
                  exact HF.out _ (below_to HB02.out hb3)
                · go_upto_region 9 with (go_at_call 42; (with_reducible refine HSM.out.mono ?_); rintro e W3 ⟨rfl, hb3⟩; obtain ⟨d0, d3, d10⟩ := HD.out; replace d10 := (hb3.cell (World.block_lt_of_cell? _ _ d10)).trans d10; replace d0 := (hb3.cell (World.block_lt_of_cell? _ _ d0)).trans d0; replace d3 := (hb3.cell (World.block_lt_of_cell? _ _ d3)).trans d3)
                  have HB03 := Lib.hid (below_to HB02.out hb3)
                  have HG3 := Lib.hid (Kd.C_below (Kd.C_below HG10.out hb2) hb3)
                  have HD10 := Lib.hid d10
                  have HNX2 := Lib.hid (HNX.out (by omega))
                  have hlen30 : p.f6.length ≤ 30 := by omega
                  clear d0 d3 d5 d6 d7 d8 d9 d10 hb2 hb3 h30 h100 h103
                  obtain ⟨wo, hwo⟩ : ∃ wo, wo = wr := ⟨_, rfl⟩
                  subst hwo
                  go_wp2_with fail
                  go_loopw [7] (fun i W => ∃ j : Nat, j ≤ p.f6.length ∧ i = .int .i64 j ∧ Below W3.heap.size W3 W) (fun i _ => p.f6.length - (intOf i).toNat)
                  case atStart => exact ⟨0, Nat.zero_le _, rfl, Below.refl _ _⟩
                  case round =>
                    obtain ⟨j, hj, rfl, hbj⟩ := hrel
                    have d10 := (hbj.cell (World.block_lt_of_cell? _ _ HD10.out)).trans HD10.out
                    have HBJ := Lib.hid hbj
                    by_cases hjl : j < p.f6.length
                    · obtain ⟨bd, rfl, g0⟩ := nt_str (Kd.C_below HG3.out hbj) j hjl
                      generalize p.f6[j] = t at g0
                      clear hbj
                      by_cases ht : (100 : Int) < (t.size : Int)
                      · go_wp2
                        go_ret
                        exact HF.out _ (below_to HB03.out HBJ.out)
                      · go_wp2
                        go_roundw
                        case rel => exact ⟨j + 1, by omega, by go_num, HBJ.out⟩
                        case measure => simp [intOf]; omega
                    · obtain rfl : j = p.f6.length := by omega
                      clear hbj
                      go_wp2
                      go_roundw
                      case rel => exact ⟨k + 1, by omega, by go_num, below_to HB03.out HBJ.out, HNX2.out⟩
                      case measure => simp [intOf]; omega
        · obtain rfl : k = ps.length := by omega
          have hret : FewP ps m w (.returned (.bool true)) wr := ⟨true, rfl, below_to HB0.out HBR.out, fun _ => ⟨HPS.out, fun p hp => by
            obtain ⟨j, hj, rfl⟩ := List.getElem_of_mem hp
            exact HALL.out j hj hj⟩⟩
          have HR := Lib.hid hret
          clear hret hbr
          go_wp2
          go_ret
          exact HR.out
end Go.Proofs.YtaigepddkgpplaaGreatDoor.M

