/- norm.applies: a provision applies exactly if its condition holds and none of those that except it applies. -/
import Derived.Test.YtaigepddkgpplaaGreatDoorQCir
import Derived.Test.YtaigepddkgpplaaGreatDoorQHolds
import Derived.Test.YtaigepddkgpplaaGreatDoorQNormB
import Derived.Deep.RegionHeld3
namespace Go.Proofs.YtaigepddkgpplaaGreatDoor.M
open Go Go.RowKit Go.Maps Go.WideMaps Go.Proofs.YtaigepddkgpplaaGreatDoorW.PrintWords Go.Proofs.YtaigepddkgpplaaGreatDoorW.PrintLast Go.Proofs.YtaigepddkgpplaaGreatDoorW.PrintMore Go.Proofs.YtaigepddkgpplaaGreatDoor.B Go.Proofs.YtaigepddkgpplaaGreatDoor.T
set_option linter.unusedVariables false
set_option linter.unusedSimpArgs false

set_option maxRecDepth 100000 in
set_option maxHeartbeats 1000000 in
theorem indexFunc_84p (A : Option Addr) (c : Nat) (xs : List Int) (g : Nat) (pv : Value) (p : Int → Bool) (J : World → Prop)
    (heg : ∀ args w, (callFunc g args).run Tryz.prog w = .ok (.enter g args) w) (hC : ∀ W, J W → Kd.C (Kd.int .i64) W A xs.length xs)
    (hcall : ∀ x ∈ xs, ∀ W, J W → Calls Tryz.prog g #[pv, .int .i64 x] W (AnsJ (p x) J)) (w : World) (hJ : J w) :
    Calls Tryz.prog 84 #[.slice A xs.length c, .func (.func g) #[pv] #[]] w (IdxJ (firstI p xs) J) := by
  have hm := (hC w hJ).2.1
  have HC := Lib.hid hC; clear hC
  have HCA := Lib.hid hcall; clear hcall
  go_enter Tryz.func84, Tryz.ntmps84
  go_wp2_with fail
  go_loopw [8] (fun i W => ∃ k : Nat, k ≤ xs.length ∧ i = .int .i64 k ∧ (∀ j, j < k → ∀ h : j < xs.length, p xs[j] = false) ∧ J W) (fun i _ => xs.length - (intOf i).toNat)
  case atStart => exact ⟨0, Nat.zero_le _, rfl, fun j h => absurd h (Nat.not_lt_zero _), hJ⟩
  case round =>
    obtain ⟨k, hk, rfl, hno, hJ1⟩ := hrel
    have HN := Lib.hid hno; clear hno
    by_cases hlt : k < xs.length
    · have hCk := HC.out wr hJ1
      obtain ⟨ad, rfl, h0⟩ := nt_int hCk k hlt
      clear hCk
      have hcall := HCA.out
      have hc1 := hcall xs[k] (List.getElem_mem _) wr hJ1
      clear hcall
      cases hp : p xs[k] with
      | true =>
        rw [hp] at hc1
        have hfin : ∀ W, J W → IdxJ (firstI p xs) J (.returned (.int .i64 (k : Int))) W := fun W hW => ⟨by rw [firstI_at hlt HN.out hp], hW⟩
        have HF := Lib.hid hfin
        have HC1 := Lib.hid hc1
        clear hfin hc1 hp
        go_wp2_with (first | (refine HC1.out.mono ?_; rintro e W ⟨rfl, hJ2⟩))
        go_ret
        exact HF.out _ hJ2
      | false =>
        rw [hp] at hc1
        have hnx : ∀ j, j < k + 1 → ∀ h : j < xs.length, p xs[j] = false := fun j hj h => by
          by_cases e : j = k
          · subst e; exact hp
          · exact HN.out j (by omega) h
        have HX := Lib.hid hnx
        have HC1 := Lib.hid hc1
        clear hnx hc1 hp
        go_wp2_with (first | (refine HC1.out.mono ?_; rintro e W ⟨rfl, hJ2⟩))
        go_roundw
        case rel => exact ⟨k + 1, by omega, by go_num, HX.out, hJ2⟩
        case measure => simp [intOf]; omega
    · obtain rfl : k = xs.length := by omega
      have hfin : IdxJ (firstI p xs) J (.returned (.int .i64 (-1))) wr := ⟨by rw [firstI_no HN.out], hJ1⟩
      have HF := Lib.hid hfin; clear hfin
      go_wp2
      go_ret
      exact HF.out
theorem containsFunc_140p (A : Option Addr) (c : Nat) (xs : List Int) (g : Nat) (pv : Value) (p : Int → Bool) (J : World → Prop)
    (heg : ∀ args w, (callFunc g args).run Tryz.prog w = .ok (.enter g args) w) (hC : ∀ W, J W → Kd.C (Kd.int .i64) W A xs.length xs)
    (hcall : ∀ x ∈ xs, ∀ W, J W → Calls Tryz.prog g #[pv, .int .i64 x] W (AnsJ (p x) J)) (w : World) (hJ : J w) :
    Calls Tryz.prog 140 #[.slice A xs.length c, .func (.func g) #[pv] #[]] w (AnsJ (xs.any p) J) := by
  have hi := indexFunc_84p A c xs g pv p J heg hC hcall w hJ
  have HI := Lib.hid hi
  have hfin : ∀ W, J W → AnsJ (xs.any p) J (.returned (.bool (decide (0 ≤ firstI p xs)))) W := fun W hW => ⟨by rw [firstI_any], hW⟩
  have HF := Lib.hid hfin
  clear hi hfin hC hcall heg
  go_enter Tryz.func140, Tryz.ntmps140
  go_wp2_with (refine HI.out.mono ?_; rintro e W ⟨rfl, hJ2⟩)
  go_ret
  exact HF.out _ hJ2

/-- the map of what is known: those of D -/
def fK (D Ab : Nat → Bool) : Lit → Option Value
  | .int .i64 k => if decide (0 ≤ k) && D k.toNat then some (.bool (Ab k.toNat)) else none
  | _ => none
theorem fK_at (D Ab : Nat → Bool) (i : Nat) : fK D Ab (.int .i64 (i : Int)) = if D i then some (.bool (Ab i)) else none := by
  simp [fK]
theorem fK_put (D Ab : Nat → Bool) (i : Nat) : upd (fK D Ab) (.int .i64 (i : Int)) (.bool (Ab i)) = fK (fup D i true) Ab := by
  funext l
  by_cases e : l = .int .i64 (i : Int)
  · subst e; rw [upd_same, fK_at, fup_same]; rfl
  · rw [upd_other _ _ _ e]
    cases l with
    | int k n =>
      cases k <;> try rfl
      show (if decide (0 ≤ n) && D n.toNat then some (Value.bool (Ab n.toNat)) else none) = (if decide (0 ≤ n) && fup D i true n.toNat then some (Value.bool (Ab n.toNat)) else none)
      by_cases h0 : 0 ≤ n
      · have : n.toNat ≠ i := fun h => e (by rw [← h, Int.toNat_of_nonneg h0])
        rw [fup_other _ _ this]
      · simp [h0]
    | _ => rfl
theorem cnt_put {D : Nat → Bool} {n i : Nat} (hi : i < n) (h : D i = false) : (List.range n).countP D + 1 = (List.range n).countP (fup D i true) :=
  countP_eq_of _ i List.nodup_range (by simpa using hi) (fun x hx => by rw [fup_other _ _ hx]) h (fup_same _ _ _)
theorem fup_id {D : Nat → Bool} {i : Nat} (h : D i = true) : fup D i true = D := by
  funext x
  by_cases e : x = i
  · subst e; rw [fup_same, h]
  · rw [fup_other _ _ e]

/-- what stands behind an asker: the world W1 in which its net was made -/
structure AskAt (W1 : World) (A : Option Addr) (fs : List S110) (c : Nat) (A2 : Option Addr) (ps : List S67) (c2 : Nat) (A3 : Option Addr) (n3 c3 : Nat) (Ac : Option Addr) (cs : List Int) (bn bm bs base ba bk : Nat) (rows : List (List Nat)) (vs : List Value) : Prop where
  net : W1.heap[bn]? = some (.cells (netCells A fs c A2 ps c2 A3 n3 c3 bm bs) 139 (0, 0))
  by_ : ByAt base W1 bs rows vs
  len : rows.length = ps.length
  small : ps.length ≤ 1048576
  lt : ∀ v y, y ∈ adjL rows v → y < ps.length
  acyc : Acyc (adjL rows) ps.length
  C1 : Kd.C k110 W1 A fs.length fs
  C2 : Kd.C k67 W1 A2 ps.length ps
  C3 : Kd.C (Kd.int .i64) W1 Ac cs.length cs
  sz : ∀ x ∈ fs, x.f0.size ≤ maxLen
  str : ∀ p ∈ ps, strOk p.f5
  hba : W1.heap.size ≤ ba
  hbk : W1.heap.size ≤ bk
  ne : ba ≠ bk
/-- what is known so far -/
structure KnownAt (W1 : World) (Ac : Option Addr) (ncs cc bn ba bk n : Nat) (Ab : Nat → Bool) (D : Nat → Bool) (W : World) : Prop where
  below : Below W1.heap.size W1 W
  ask : W.heap[ba]? = some (.cells #[.pointer (some ⟨bn, 0, none⟩), .slice Ac ncs cc, .map (some bk)] 136 (0, 0))
  known : MapAt Tryz.prog 3 W bk (fK D Ab) ((List.range n).countP D)
/-- what holds behind calls of applies that began in W -/
structure JA (W1 : World) (Ac : Option Addr) (ncs cc bn ba bk n : Nat) (Ab : Nat → Bool) (W W' : World) : Prop where
  kn : ∃ D, KnownAt W1 Ac ncs cc bn ba bk n Ab D W'
  keep : Keep (fun k => k = bk) W W'
theorem enters88 : ∀ args w, (callFunc 88 args).run Tryz.prog w = .ok (.enter 88 args) w := enters Tryz.func88 (by kernel_rfl) rfl
theorem KnownAt.keep {W1 : World} {Ac : Option Addr} {ncs cc bn ba bk n : Nat} {Ab D : Nat → Bool} {W W' : World} (h : KnownAt W1 Ac ncs cc bn ba bk n Ab D W) (hb : Below W.heap.size W W') : KnownAt W1 Ac ncs cc bn ba bk n Ab D W' :=
  ⟨h.below.trans (hb.mono h.below.size), (hb.block _ (blk_lt h.ask)).trans h.ask, h.known.of_block (hb.block _ h.known.lt)⟩
def holdsP (fs : List S110) (cs : List Int) (ps : List S67) (i : Nat) : Bool := holdsB fs cs [] (ps.getD i z67).f5
theorem JA.below {W1 : World} {Ac : Option Addr} {ncs cc bn ba bk n : Nat} {Ab : Nat → Bool} {W W' W2 : World} (h : JA W1 Ac ncs cc bn ba bk n Ab W W') (hb : Below W'.heap.size W' W2) : JA W1 Ac ncs cc bn ba bk n Ab W W2 := by
  obtain ⟨⟨D, hD⟩, hk⟩ := h
  exact ⟨⟨D, hD.keep hb⟩, hk.trans (Keep.of_below hb)⟩
theorem JA.drew {W1 : World} {Ac : Option Addr} {ncs cc bn ba bk n : Nat} {Ab : Nat → Bool} {W W' : World} (h : JA W1 Ac ncs cc bn ba bk n Ab W W') : JA W1 Ac ncs cc bn ba bk n Ab W W'.drew := h.below (Below.refl _ _).drew
theorem JA.trans {W1 : World} {Ac : Option Addr} {ncs cc bn ba bk n : Nat} {Ab : Nat → Bool} {W W' W2 : World} (h : JA W1 Ac ncs cc bn ba bk n Ab W W') (h2 : JA W1 Ac ncs cc bn ba bk n Ab W' W2) : JA W1 Ac ncs cc bn ba bk n Ab W W2 := ⟨h2.kn, h.keep.trans h2.keep⟩
theorem any_ints (l : List Nat) (A : Nat → Bool) : (ints l).any (fun x => A x.toNat) = l.any A := by
  unfold ints
  rw [List.any_map]
  congr 1
theorem KnownAt.put {W1 : World} {Ac : Option Addr} {ncs cc bn ba bk n : Nat} {Ab D : Nat → Bool} {W W' : World} {i : Nat} (h : KnownAt W1 Ac ncs cc bn ba bk n Ab D W) (hbk : W1.heap.size ≤ bk) (hne : ba ≠ bk) (hi : i < n)
    (hm : MapAt Tryz.prog 3 W' bk (upd (fK D Ab) (.int .i64 (i : Int)) (.bool (Ab i))) (if (fK D Ab (.int .i64 (i : Int))).isSome then (List.range n).countP D else (List.range n).countP D + 1)) (hg : W.grownBy W' (some bk)) :
    KnownAt W1 Ac ncs cc bn ba bk n Ab (fup D i true) W' := by
  refine ⟨h.below.grown hg h.below.size (fun k hk => by cases hk; exact hbk), (hg.block ba (blk_lt h.ask) (by simp [hne])).trans h.ask, ?_⟩
  rw [fK_put, fK_at] at hm
  cases hD : D i with
  | true => rw [hD] at hm; rw [fup_id hD] at hm ⊢; exact hm
  | false => rw [hD] at hm; rw [← cnt_put hi hD]; exact hm
/-- the walk -/
def AppRet (W1 : World) (Ac : Option Addr) (ncs cc bn ba bk n : Nat) (Ab : Nat → Bool) (b : Bool) (W : World) : Ending → World → Prop := AnsJ b (JA W1 Ac ncs cc bn ba bk n Ab W)
set_option maxRecDepth 100000 in
set_option maxHeartbeats 8000000 in
theorem applies88 {W1 : World} {A : Option Addr} {fs : List S110} {c : Nat} {A2 : Option Addr} {ps : List S67} {c2 : Nat} {A3 : Option Addr} {n3 c3 : Nat} {Ac : Option Addr} {cs : List Int} {cc bn bm bs base ba bk : Nat} {rows : List (List Nat)} {vs : List Value} {Ab : Nat → Bool}
    (H : AskAt W1 A fs c A2 ps c2 A3 n3 c3 Ac cs bn bm bs base ba bk rows vs) (hA : ∀ v, v < ps.length → Ab v = (holdsP fs cs ps v && !(adjL rows v).any Ab)) :
    ∀ (m i : Nat), i < ps.length → reachN (adjL rows) ps.length i < m → ∀ (D : Nat → Bool) (W : World), KnownAt W1 Ac cs.length cc bn ba bk ps.length Ab D W →
      Calls Tryz.prog 88 #[.pointer (some ⟨ba, 0, none⟩), .int .i64 (i : Int)] W (AppRet W1 Ac cs.length cc bn ba bk ps.length Ab (Ab i) W) := by
  intro m
  induction m with
  | zero => intro i _ h; omega
  | succ m ih =>
  intro i hi hm D W hK
  have hik := key3 (k := i) (by have := H.small; omega)
  have hca : W.cell? ⟨ba, 0, none⟩ = some (.pointer (some ⟨bn, 0, none⟩)) := cell_blk hK.ask rfl
  have hca1 : W.cell? ⟨ba, 1, none⟩ = some (.slice Ac cs.length cc) := cell_blk hK.ask rfl
  have hca2 : W.cell? ⟨ba, 2, none⟩ = some (.map (some bk)) := cell_blk hK.ask rfl
  have hlk := hK.known.look true law3 Tryz.underlying134 (zero4' _) hik
  rw [fK_at] at hlk
  cases hD : D i with
  | true =>
    rw [hD] at hlk
    have hlk' : (Instr.lookup 134 (.map (some bk)) (.int .i64 (i : Int)) true).run Tryz.prog W = .ok (.tuple #[.bool (Ab i), .bool true]) W := hlk
    have hfin : AppRet W1 Ac cs.length cc bn ba bk ps.length Ab (Ab i) W (.returned (.bool (Ab i))) W := ⟨rfl, ⟨D, hK⟩, Keep.refl _ _⟩
    have HF := Lib.hid hfin
    clear hfin hlk hik hD hm hA ih hK H
    go_enter Tryz.func88, Tryz.ntmps88
    go_wp2
    go_ret
    exact HF.out
  | false =>
    rw [hD] at hlk
    have hlk' : (Instr.lookup 134 (.map (some bk)) (.int .i64 (i : Int)) true).run Tryz.prog W = .ok (.tuple #[.bool false, .bool false]) W := hlk
    have hbW : ∀ W', Keep (fun k => k = bk) W W' → Below W1.heap.size W1 W' := fun W' h => hK.below.trans (h.below hK.below.size (fun k hk e => by have := H.hbk; omega))
    obtain ⟨ad, A9, c9, _, _, _, _, _, _, _, _, hA2, _, _, _, _, _, q5, q6, q7, q8, q9, _, _, _, _, _, _, _, _, _, _, _, _, _, hl9, hC9, _⟩ := nt_T67 H.C2 i hi
    subst hA2
    have hil : i < rows.length := by rw [H.len]; exact hi
    obtain ⟨A7, c7, _, hrow, _, hl7, hC7, _⟩ := H.by_.get (k := i) (xs := adjL rows i) (by unfold adjL; rw [List.getD_eq_getElem?_getD]; simp [hil])
    have e5 : ps.getD i z67 = ps[i] := by simp [hi]
    have hAi := hA i hi
    have hhold : holdsP fs cs ps i = holdsB fs cs [] ps[i].f5 := by unfold holdsP; rw [e5]
    have hnet0 : W1.cell? ⟨bn, 0, none⟩ = some (.slice A fs.length c) := cell_blk H.net rfl
    have hnet1 : W1.cell? ⟨bn, 1, none⟩ = some (.slice (some ad) ps.length c2) := cell_blk H.net rfl
    have hnet4 : W1.cell? ⟨bn, 4, none⟩ = some (.slice (some ⟨bs, 0, none⟩) ps.length ps.length) := cell_blk H.net rfl
    have hJ0 : JA W1 Ac cs.length cc bn ba bk ps.length Ab W W := ⟨⟨D, hK⟩, Keep.refl _ _⟩
    have mv : ∀ W', JA W1 Ac cs.length cc bn ba bk ps.length Ab W W' → ∀ {a : Addr} {v : Value}, W1.cell? a = some v → W'.cell? a = some v := fun W' h a v hc => (((hbW W' h.keep)).cell (World.block_lt_of_cell? _ _ hc)).trans hc
    have hst : strOk ps[i].f5 := H.str _ (List.getElem_mem hi)
    have hcall25 : ∀ W', JA W1 Ac cs.length cc bn ba bk ps.length Ab W W' → Calls Tryz.prog 25 #[.agg #[.int .i64 ps[i].f5.f0, .string ps[i].f5.f1, .int .i64 ps[i].f5.f2, .int .i64 ps[i].f5.f3, .slice A9 ps[i].f5.f4.length c9], .agg #[.slice A fs.length c], .slice Ac cs.length cc, .slice none 0 0] W' (RetB (holdsP fs cs ps i) W') := fun W' h => by
      rw [hhold]
      have hb := hbW W' h.keep
      exact Holds_calls A c fs ps[i].f5 A9 c9 Ac cc cs none 0 [] W' (Kd.C_below H.C1 hb) H.sz hl9 (Kd.C_below hC9 hb) hst (Kd.C_below H.C3 hb) ⟨rfl, by simp, fun h => absurd h (Nat.lt_irrefl _)⟩
    have hrowlt : ∀ x ∈ ints (adjL rows i), ∃ y : Nat, x = (y : Int) ∧ y < ps.length ∧ reachN (adjL rows) ps.length y < m := fun x hx => by
      obtain ⟨y, hy, rfl⟩ := List.mem_map.1 hx
      exact ⟨y, rfl, H.lt _ _ hy, by have := reachN_lt H.lt H.acyc hy; omega⟩
    have hcall140 : ∀ W', JA W1 Ac cs.length cc bn ba bk ps.length Ab W W' → Calls Tryz.prog 140 #[.slice A7 (adjL rows i).length c7, .func (.func 88) #[.pointer (some ⟨ba, 0, none⟩)] #[]] W' (AnsJ ((adjL rows i).any Ab) (JA W1 Ac cs.length cc bn ba bk ps.length Ab W)) := fun W' h => by
      have := containsFunc_140p A7 c7 (ints (adjL rows i)) 88 (.pointer (some ⟨ba, 0, none⟩)) (fun x => Ab x.toNat) (JA W1 Ac cs.length cc bn ba bk ps.length Ab W) enters88
        (fun W2 h2 => Kd.C_below hC7 (hbW W2 h2.keep))
        (fun x hx W2 h2 => by
          obtain ⟨y, rfl, hy, hr⟩ := hrowlt x hx
          obtain ⟨⟨D2, hD2⟩, hk2⟩ := h2
          refine (ih y hy hr D2 W2 hD2).mono ?_
          rintro e W3 ⟨rfl, h3⟩
          exact ⟨rfl, ⟨h3.kn, hk2.trans h3.keep⟩⟩) W' h
      rwa [any_ints, ints_len] at this
    have hS : ∀ W', JA W1 Ac cs.length cc bn ba bk ps.length Ab W W' → JA W1 Ac cs.length cc bn ba bk ps.length Ab W W' ∧ W'.cell? ⟨ba, 0, none⟩ = some (.pointer (some ⟨bn, 0, none⟩)) ∧ W'.cell? ⟨ba, 1, none⟩ = some (.slice Ac cs.length cc) ∧ W'.cell? ⟨bn, 0, none⟩ = some (.slice A fs.length c) ∧ W'.cell? ⟨bn, 1, none⟩ = some (.slice (some ad) ps.length c2) ∧ W'.cell? ⟨bn, 4, none⟩ = some (.slice (some ⟨bs, 0, none⟩) ps.length ps.length) ∧ W'.cell? ⟨bs, i, none⟩ = some (.slice A7 (adjL rows i).length c7) ∧ W'.cell? ⟨(ad.add (i * 23)).block, (ad.add (i * 23)).off + 5, none⟩ = some (.int .i64 ps[i].f5.f0) ∧ W'.cell? ⟨(ad.add (i * 23)).block, (ad.add (i * 23)).off + 6, none⟩ = some (.string ps[i].f5.f1) ∧ W'.cell? ⟨(ad.add (i * 23)).block, (ad.add (i * 23)).off + 7, none⟩ = some (.int .i64 ps[i].f5.f2) ∧ W'.cell? ⟨(ad.add (i * 23)).block, (ad.add (i * 23)).off + 8, none⟩ = some (.int .i64 ps[i].f5.f3) ∧ W'.cell? ⟨(ad.add (i * 23)).block, (ad.add (i * 23)).off + 9, none⟩ = some (.slice A9 ps[i].f5.f4.length c9) := fun W' h => by
      have hk : ∃ D', KnownAt W1 Ac cs.length cc bn ba bk ps.length Ab D' W' := h.kn
      obtain ⟨D', hD'⟩ := hk
      exact ⟨h, cell_blk hD'.ask rfl, cell_blk hD'.ask rfl, mv W' h hnet0, mv W' h hnet1, mv W' h hnet4, mv W' h hrow, mv W' h q5, mv W' h q6, mv W' h q7, mv W' h q8, mv W' h q9⟩
    have hfin : ∀ (b : Bool) W' W2, Ab i = b → JA W1 Ac cs.length cc bn ba bk ps.length Ab W W' → (∀ D2, KnownAt W1 Ac cs.length cc bn ba bk ps.length Ab D2 W' → MapAt Tryz.prog 3 W2 bk (upd (fK D2 Ab) (.int .i64 (i : Int)) (.bool b)) (if (fK D2 Ab (.int .i64 (i : Int))).isSome then (List.range ps.length).countP D2 else (List.range ps.length).countP D2 + 1) → W'.grownBy W2 (some bk) → AppRet W1 Ac cs.length cc bn ba bk ps.length Ab (Ab i) W (.returned (.bool b)) W2) := fun b W' W2 e h D2 hD2 hm hg => by
      subst e
      exact ⟨rfl, ⟨_, hD2.put H.hbk H.ne hi hm hg⟩, h.keep.grown hg (fun k hk => by cases hk; exact .inl rfl)⟩
    have hsm : ∀ D2 : Nat → Bool, (List.range ps.length).countP D2 < maxLen := fun D2 => by
      have := List.countP_le_length (p := D2) (l := List.range ps.length)
      have := H.small
      simp at *
      unfold maxLen
      omega
    have hi' : (0 : Int) ≤ (i : Int) := by omega
    have hi'' : (i : Int) < (ps.length : Int) := by omega
    have heg := enters88
    generalize adjL rows i = row at *
    generalize ps[i] = pi at *
    have HF := Lib.hid hfin; have HS := Lib.hid hS; have H25 := Lib.hid hcall25; have H140 := Lib.hid hcall140; have HJ0 := Lib.hid hJ0; have HSM := Lib.hid hsm; have HIK := Lib.hid hik; have HAI := Lib.hid hAi; have HH := Lib.hid H
    clear hfin hS hcall25 hcall140 hJ0 hsm hik hAi hlk hD hm hA ih hK H hbW mv hst hhold hnet0 hnet1 hnet4 hrow hrowlt hC7 hC9 hl9 hl7 e5 q5 q6 q7 q8 q9 hil
    generalize hhb : holdsP fs cs ps i = hb at *
    clear hhb
    cases hb with
    | false =>
      go_enter Tryz.func88, Tryz.ntmps88
      go_wp2_with fail
      refine wp_region_held_drew (S := (fun W' => JA W1 Ac cs.length cc bn ba bk ps.length Ab W W' ∧ W'.cell? ⟨ba, 0, none⟩ = some (.pointer (some ⟨bn, 0, none⟩)) ∧ W'.cell? ⟨ba, 1, none⟩ = some (.slice Ac cs.length cc) ∧ W'.cell? ⟨bn, 0, none⟩ = some (.slice A fs.length c) ∧ W'.cell? ⟨bn, 1, none⟩ = some (.slice (some ad) ps.length c2) ∧ W'.cell? ⟨bn, 4, none⟩ = some (.slice (some ⟨bs, 0, none⟩) ps.length ps.length) ∧ W'.cell? ⟨bs, i, none⟩ = some (.slice A7 row.length c7) ∧ W'.cell? ⟨(ad.add (i * 23)).block, (ad.add (i * 23)).off + 5, none⟩ = some (.int .i64 pi.f5.f0) ∧ W'.cell? ⟨(ad.add (i * 23)).block, (ad.add (i * 23)).off + 6, none⟩ = some (.string pi.f5.f1) ∧ W'.cell? ⟨(ad.add (i * 23)).block, (ad.add (i * 23)).off + 7, none⟩ = some (.int .i64 pi.f5.f2) ∧ W'.cell? ⟨(ad.add (i * 23)).block, (ad.add (i * 23)).off + 8, none⟩ = some (.int .i64 pi.f5.f3) ∧ W'.cell? ⟨(ad.add (i * 23)).block, (ad.add (i * 23)).off + 9, none⟩ = some (.slice A9 pi.f5.f4.length c9))) (by kernel_rfl) (HS.out _ HJ0.out.drew) (fun hHeld => ?_)
      refine wpAnyH_take (i := 0) (v := ?_) rfl (by kernel_rfl) (by kernel_rfl) (by kernel_rfl) (fun _ _ _ h => h) (Or.inl ⟨by kernel_rfl, ?_⟩) (by assumption) ?_
      rotate_left
      · (intro w hSw; (try dsimp only at hSw); go_simp; try with_reducible rfl)
      try simp only [Act.put, List.setIfInBounds_toArray, List.set_cons_zero, List.set_cons_succ]
      refine wpAnyH_take (i := 1) (v := ?_) rfl (by kernel_rfl) (by kernel_rfl) (by kernel_rfl) (fun _ _ _ h => h) (Or.inl ⟨by kernel_rfl, ?_⟩) (by assumption) ?_
      rotate_left
      · (intro w hSw; (try dsimp only at hSw); go_simp; try with_reducible rfl)
      try simp only [Act.put, List.setIfInBounds_toArray, List.set_cons_zero, List.set_cons_succ]
      refine wpAnyH_take (i := 2) (v := ?_) rfl (by kernel_rfl) (by kernel_rfl) (by kernel_rfl) (fun _ _ _ h => h) (Or.inl ⟨by kernel_rfl, ?_⟩) (by assumption) ?_
      rotate_left
      · (intro w hSw; (try dsimp only at hSw); go_simp; try with_reducible rfl)
      try simp only [Act.put, List.setIfInBounds_toArray, List.set_cons_zero, List.set_cons_succ]
      refine wpAnyH_take (i := 3) (v := ?_) rfl (by kernel_rfl) (by kernel_rfl) (by kernel_rfl) (fun _ _ _ h => h) (Or.inl ⟨by kernel_rfl, ?_⟩) (by assumption) ?_
      rotate_left
      · (intro w hSw; (try dsimp only at hSw); go_simp; try with_reducible rfl)
      try simp only [Act.put, List.setIfInBounds_toArray, List.set_cons_zero, List.set_cons_succ]
      refine wpAnyH_take (i := 4) (v := ?_) rfl (by kernel_rfl) (by kernel_rfl) (by kernel_rfl) (fun _ _ _ h => h) (Or.inl ⟨by kernel_rfl, ?_⟩) (by assumption) ?_
      rotate_left
      · (intro w hSw; (try dsimp only at hSw); go_simp; try with_reducible rfl)
      try simp only [Act.put, List.setIfInBounds_toArray, List.set_cons_zero, List.set_cons_succ]
      refine wpAnyH_take (i := 5) (v := ?_) rfl (by kernel_rfl) (by kernel_rfl) (by kernel_rfl) (fun _ _ _ h => h) (Or.inl ⟨by kernel_rfl, ?_⟩) (by assumption) ?_
      rotate_left
      · (intro w hSw; (try dsimp only at hSw); go_simp; try with_reducible rfl)
      try simp only [Act.put, List.setIfInBounds_toArray, List.set_cons_zero, List.set_cons_succ]
      refine wpAnyH_take (i := 6) (v := ?_) rfl (by kernel_rfl) (by kernel_rfl) (by kernel_rfl) (fun _ _ _ h => h) (Or.inl ⟨by kernel_rfl, ?_⟩) (by assumption) ?_
      rotate_left
      · (intro w hSw; (try dsimp only at hSw); go_simp; try with_reducible rfl)
      try simp only [Act.put, List.setIfInBounds_toArray, List.set_cons_zero, List.set_cons_succ]
      refine wpAnyH_take (i := 7) (v := ?_) rfl (by kernel_rfl) (by kernel_rfl) (by kernel_rfl) (fun _ _ _ h => h) (Or.inl ⟨by kernel_rfl, ?_⟩) (by assumption) ?_
      rotate_left
      · (intro w hSw; (try dsimp only at hSw); go_simp; try with_reducible rfl)
      try simp only [Act.put, List.setIfInBounds_toArray, List.set_cons_zero, List.set_cons_succ]
      refine wpAnyH_take (i := 8) (v := ?_) rfl (by kernel_rfl) (by kernel_rfl) (by kernel_rfl) (fun _ _ _ h => h) (Or.inl ⟨by kernel_rfl, ?_⟩) (by assumption) ?_
      rotate_left
      · (intro w hSw; (try dsimp only at hSw); go_simp; try with_reducible rfl)
      try simp only [Act.put, List.setIfInBounds_toArray, List.set_cons_zero, List.set_cons_succ]
      refine wpAnyH_take (i := 9) (v := ?_) rfl (by kernel_rfl) (by kernel_rfl) (by kernel_rfl) (fun _ _ _ h => h) (Or.inl ⟨by kernel_rfl, ?_⟩) (by assumption) ?_
      rotate_left
      · (intro w hSw; (try dsimp only at hSw); go_simp; try with_reducible rfl)
      try simp only [Act.put, List.setIfInBounds_toArray, List.set_cons_zero, List.set_cons_succ]
      refine wpAnyH_take (i := 10) (v := ?_) rfl (by kernel_rfl) (by kernel_rfl) (by kernel_rfl) (fun _ _ _ h => h) (Or.inl ⟨by kernel_rfl, ?_⟩) (by assumption) ?_
      rotate_left
      · (intro w hSw; (try dsimp only at hSw); go_simp; try with_reducible rfl)
      try simp only [Act.put, List.setIfInBounds_toArray, List.set_cons_zero, List.set_cons_succ]
      refine wpAnyH_take (i := 11) (v := ?_) rfl (by kernel_rfl) (by kernel_rfl) (by kernel_rfl) (fun _ _ _ h => h) (Or.inl ⟨by kernel_rfl, ?_⟩) (by assumption) ?_
      rotate_left
      · (intro w hSw; (try dsimp only at hSw); go_simp; try with_reducible rfl)
      try simp only [Act.put, List.setIfInBounds_toArray, List.set_cons_zero, List.set_cons_succ]
      refine wpAnyH_take (i := 12) (v := ?_) rfl (by kernel_rfl) (by kernel_rfl) (by kernel_rfl) (fun _ _ _ h => h) (Or.inl ⟨by kernel_rfl, ?_⟩) (by assumption) ?_
      rotate_left
      · (intro w hSw; (try dsimp only at hSw); go_simp; try with_reducible rfl)
      try simp only [Act.put, List.setIfInBounds_toArray, List.set_cons_zero, List.set_cons_succ]
      refine wpAnyH_take (i := 13) (v := ?_) rfl (by kernel_rfl) (by kernel_rfl) (by kernel_rfl) (fun _ _ _ h => h) (Or.inl ⟨by kernel_rfl, ?_⟩) (by assumption) ?_
      rotate_left
      · (intro w hSw; (try dsimp only at hSw); go_simp; try with_reducible rfl)
      try simp only [Act.put, List.setIfInBounds_toArray, List.set_cons_zero, List.set_cons_succ]
      refine wpAnyH_take (i := 14) (v := ?_) rfl (by kernel_rfl) (by kernel_rfl) (by kernel_rfl) (fun _ _ _ h => h) (Or.inl ⟨by kernel_rfl, ?_⟩) (by assumption) ?_
      rotate_left
      · (intro w hSw; (try dsimp only at hSw); go_simp; try with_reducible rfl)
      try simp only [Act.put, List.setIfInBounds_toArray, List.set_cons_zero, List.set_cons_succ]
      refine wpAnyH_take (i := 15) (v := ?_) rfl (by kernel_rfl) (by kernel_rfl) (by kernel_rfl) (fun _ _ _ h => h) (Or.inl ⟨by kernel_rfl, ?_⟩) (by assumption) ?_
      rotate_left
      · (intro w hSw; (try dsimp only at hSw); go_simp; try with_reducible rfl)
      try simp only [Act.put, List.setIfInBounds_toArray, List.set_cons_zero, List.set_cons_succ]
      refine wpAnyH_take (i := 16) (v := ?_) rfl (by kernel_rfl) (by kernel_rfl) (by kernel_rfl) (fun _ _ _ h => h) (Or.inl ⟨by kernel_rfl, ?_⟩) (by assumption) ?_
      rotate_left
      · (intro w hSw; (try dsimp only at hSw); go_simp; try with_reducible rfl)
      try simp only [Act.put, List.setIfInBounds_toArray, List.set_cons_zero, List.set_cons_succ]
      refine wpAnyH_take (i := 17) (v := ?_) rfl (by kernel_rfl) (by kernel_rfl) (by kernel_rfl) (fun _ _ _ h => h) (Or.inl ⟨by kernel_rfl, ?_⟩) (by assumption) ?_
      rotate_left
      · (intro w hSw; (try dsimp only at hSw); go_simp; try with_reducible rfl)
      try simp only [Act.put, List.setIfInBounds_toArray, List.set_cons_zero, List.set_cons_succ]
      refine wpAnyH_take (i := 18) (v := ?_) rfl (by kernel_rfl) (by kernel_rfl) (by kernel_rfl) (fun _ _ _ h => h) (Or.inl ⟨by kernel_rfl, ?_⟩) (by assumption) ?_
      rotate_left
      · (intro w hSw; (try dsimp only at hSw); go_simp; try with_reducible rfl)
      try simp only [Act.put, List.setIfInBounds_toArray, List.set_cons_zero, List.set_cons_succ]
      refine wpAnyH_take (i := 19) (v := ?_) rfl (by kernel_rfl) (by kernel_rfl) (by kernel_rfl) (fun _ _ _ h => h) (Or.inl ⟨by kernel_rfl, ?_⟩) (by assumption) ?_
      rotate_left
      · (intro w hSw; (try dsimp only at hSw); go_simp; try with_reducible rfl)
      try simp only [Act.put, List.setIfInBounds_toArray, List.set_cons_zero, List.set_cons_succ]
      refine wpAnyH_take (i := 20) (v := ?_) rfl (by kernel_rfl) (by kernel_rfl) (by kernel_rfl) (fun _ _ _ h => h) (Or.inl ⟨by kernel_rfl, ?_⟩) (by assumption) ?_
      rotate_left
      · (intro w hSw; (try dsimp only at hSw); go_simp; try with_reducible rfl)
      try simp only [Act.put, List.setIfInBounds_toArray, List.set_cons_zero, List.set_cons_succ]
      refine wpAnyH_take (i := 21) (v := ?_) rfl (by kernel_rfl) (by kernel_rfl) (by kernel_rfl) (fun _ _ _ h => h) (Or.inl ⟨by kernel_rfl, ?_⟩) (by assumption) ?_
      rotate_left
      · (intro w hSw; (try dsimp only at hSw); go_simp; try with_reducible rfl)
      try simp only [Act.put, List.setIfInBounds_toArray, List.set_cons_zero, List.set_cons_succ]
      refine wpAnyH_take (i := 22) (v := ?_) rfl (by kernel_rfl) (by kernel_rfl) (by kernel_rfl) (fun _ _ _ h => h) (Or.inl ⟨by kernel_rfl, ?_⟩) (by assumption) ?_
      rotate_left
      · (intro w hSw; (try dsimp only at hSw); go_simp; try with_reducible rfl)
      try simp only [Act.put, List.setIfInBounds_toArray, List.set_cons_zero, List.set_cons_succ]
      refine wpAnyH_take (i := 23) (v := ?_) rfl (by kernel_rfl) (by kernel_rfl) (by kernel_rfl) (fun _ _ _ h => h) (Or.inl ⟨by kernel_rfl, ?_⟩) (by assumption) ?_
      rotate_left
      · (intro w hSw; (try dsimp only at hSw); go_simp; try with_reducible rfl)
      try simp only [Act.put, List.setIfInBounds_toArray, List.set_cons_zero, List.set_cons_succ]
      refine wpAnyH_ready (rs := [24]) (by kernel_rfl) (by simp) ?_
      refine AllReadyH.cons rfl (fun K hK => ?_) AllReadyH.nil
      go_simp
      go_at_call 25
      go_split_ands
      refine (H25.out _ (by assumption)).mono ?_
      rintro e W' ⟨rfl, hb2⟩
      refine hK.out _ _ (HS.out _ (JA.below (by assumption) hb2)) (fun hHeld => ?_)
      clear hK K
      try simp only [Act.put, List.setIfInBounds_toArray, List.set_cons_zero, List.set_cons_succ]
      refine wpAnyH_take (i := 25) (v := ?_) rfl (by kernel_rfl) (by kernel_rfl) (by kernel_rfl) (fun _ _ _ h => h) (Or.inl ⟨by kernel_rfl, ?_⟩) (by assumption) ?_
      rotate_left
      · (intro w hSw; (try dsimp only at hSw); go_simp; try with_reducible rfl)
      try simp only [Act.put, List.setIfInBounds_toArray, List.set_cons_zero, List.set_cons_succ]
      refine wpAnyH_take (i := 26) (v := undef) rfl (by kernel_rfl) (by kernel_rfl) (by kernel_rfl) (fun _ _ _ h => h) (Or.inr ⟨by kernel_rfl, rfl⟩) (by assumption) ?_
      try simp only [Act.put, List.setIfInBounds_toArray, List.set_cons_zero, List.set_cons_succ]
      refine wpAnyH_take (i := 27) (v := undef) rfl (by kernel_rfl) (by kernel_rfl) (by kernel_rfl) (fun _ _ _ h => h) (Or.inr ⟨by kernel_rfl, rfl⟩) (by assumption) ?_
      try simp only [Act.put, List.setIfInBounds_toArray, List.set_cons_zero, List.set_cons_succ]
      refine wpAnyH_take (i := 28) (v := undef) rfl (by kernel_rfl) (by kernel_rfl) (by kernel_rfl) (fun _ _ _ h => h) (Or.inr ⟨by kernel_rfl, rfl⟩) (by assumption) ?_
      try simp only [Act.put, List.setIfInBounds_toArray, List.set_cons_zero, List.set_cons_succ]
      refine wpAnyH_take (i := 29) (v := undef) rfl (by kernel_rfl) (by kernel_rfl) (by kernel_rfl) (fun _ _ _ h => h) (Or.inr ⟨by kernel_rfl, rfl⟩) (by assumption) ?_
      try simp only [Act.put, List.setIfInBounds_toArray, List.set_cons_zero, List.set_cons_succ]
      refine wpAnyH_take (i := 30) (v := undef) rfl (by kernel_rfl) (by kernel_rfl) (by kernel_rfl) (fun _ _ _ h => h) (Or.inr ⟨by kernel_rfl, rfl⟩) (by assumption) ?_
      try simp only [Act.put, List.setIfInBounds_toArray, List.set_cons_zero, List.set_cons_succ]
      refine wpAnyH_take (i := 31) (v := undef) rfl (by kernel_rfl) (by kernel_rfl) (by kernel_rfl) (fun _ _ _ h => h) (Or.inr ⟨by kernel_rfl, rfl⟩) (by assumption) ?_
      try simp only [Act.put, List.setIfInBounds_toArray, List.set_cons_zero, List.set_cons_succ]
      refine wpAnyH_take (i := 32) (v := undef) rfl (by kernel_rfl) (by kernel_rfl) (by kernel_rfl) (fun _ _ _ h => h) (Or.inr ⟨by kernel_rfl, rfl⟩) (by assumption) ?_
      try simp only [Act.put, List.setIfInBounds_toArray, List.set_cons_zero, List.set_cons_succ]
      refine wpAnyH_take (i := 33) (v := undef) rfl (by kernel_rfl) (by kernel_rfl) (by kernel_rfl) (fun _ _ _ h => h) (Or.inr ⟨by kernel_rfl, rfl⟩) (by assumption) ?_
      try simp only [Act.put, List.setIfInBounds_toArray, List.set_cons_zero, List.set_cons_succ]
      refine wpAnyH_take (i := 34) (v := undef) rfl (by kernel_rfl) (by kernel_rfl) (by kernel_rfl) (fun _ _ _ h => h) (Or.inr ⟨by kernel_rfl, rfl⟩) (by assumption) ?_
      try simp only [Act.put, List.setIfInBounds_toArray, List.set_cons_zero, List.set_cons_succ]
      refine wpAnyH_take (i := 35) (v := undef) rfl (by kernel_rfl) (by kernel_rfl) (by kernel_rfl) (fun _ _ _ h => h) (Or.inr ⟨by kernel_rfl, rfl⟩) (by assumption) ?_
      try simp only [Act.put, List.setIfInBounds_toArray, List.set_cons_zero, List.set_cons_succ]
      refine wpAnyH_take (i := 36) (v := undef) rfl (by kernel_rfl) (by kernel_rfl) (by kernel_rfl) (fun _ _ _ h => h) (Or.inr ⟨by kernel_rfl, rfl⟩) (by assumption) ?_
      try simp only [Act.put, List.setIfInBounds_toArray, List.set_cons_zero, List.set_cons_succ]
      refine wpAnyH_take (i := 37) (v := undef) rfl (by kernel_rfl) (by kernel_rfl) (by kernel_rfl) (fun _ _ _ h => h) (Or.inr ⟨by kernel_rfl, rfl⟩) (by assumption) ?_
      try simp only [Act.put, List.setIfInBounds_toArray, List.set_cons_zero, List.set_cons_succ]
      refine wpAnyH_take (i := 38) (v := undef) rfl (by kernel_rfl) (by kernel_rfl) (by kernel_rfl) (fun _ _ _ h => h) (Or.inr ⟨by kernel_rfl, rfl⟩) (by assumption) ?_
      try simp only [Act.put, List.setIfInBounds_toArray, List.set_cons_zero, List.set_cons_succ]
      refine wpAnyH_take (i := 39) (v := undef) rfl (by kernel_rfl) (by kernel_rfl) (by kernel_rfl) (fun _ _ _ h => h) (Or.inr ⟨by kernel_rfl, rfl⟩) (by assumption) ?_
      try simp only [Act.put, List.setIfInBounds_toArray, List.set_cons_zero, List.set_cons_succ]
      refine wpAnyH_take (i := 40) (v := ?_) rfl (by kernel_rfl) (by kernel_rfl) (by kernel_rfl) (fun _ _ _ h => h) (Or.inl ⟨by kernel_rfl, ?_⟩) (by assumption) ?_
      rotate_left
      · (intro w hSw; (try dsimp only at hSw); go_simp; try with_reducible rfl)
      try simp only [Act.put, List.setIfInBounds_toArray, List.set_cons_zero, List.set_cons_succ]
      refine wpAnyH_take (i := 41) (v := ?_) rfl (by kernel_rfl) (by kernel_rfl) (by kernel_rfl) (fun _ _ _ h => h) (Or.inl ⟨by kernel_rfl, ?_⟩) (by assumption) ?_
      rotate_left
      · (intro w hSw; (try dsimp only at hSw); go_simp; try with_reducible rfl)
      try simp only [Act.put, List.setIfInBounds_toArray, List.set_cons_zero, List.set_cons_succ]
      refine wpAnyH_done (by kernel_rfl) ?_ _
      have hJ2 : JA W1 Ac cs.length cc bn ba bk ps.length Ab W W' := hHeld.1
      refine Exists.elim hJ2.kn fun D3 hD3 => ?_
      have cm := cell_blk hD3.ask (j := 2) rfl
      have HJ2 := Lib.hid hJ2; have HD3 := Lib.hid hD3
      clear hJ2 hD3
      go_wp2_with (at_mapUpdate; refine wp_put rfl _ _ _ 134 rfl 3 4 law3 Tryz.underlying134 bk _ _ rfl HD3.out.known (HSM.out D3) (.int .i64 (i : Int)) (.bool false) _ rfl rfl HIK.out ?_; intro W5 hm5 hg5)
      go_ret
      exact HF.out _ _ _ (by rw [HAI.out]; rfl) HJ2.out D3 HD3.out hm5 hg5
    | true =>
      go_enter Tryz.func88, Tryz.ntmps88
      go_wp2_with fail
      go_region_held3 (fun W' => JA W1 Ac cs.length cc bn ba bk ps.length Ab W W' ∧ W'.cell? ⟨ba, 0, none⟩ = some (.pointer (some ⟨bn, 0, none⟩)) ∧ W'.cell? ⟨ba, 1, none⟩ = some (.slice Ac cs.length cc) ∧ W'.cell? ⟨bn, 0, none⟩ = some (.slice A fs.length c) ∧ W'.cell? ⟨bn, 1, none⟩ = some (.slice (some ad) ps.length c2) ∧ W'.cell? ⟨bn, 4, none⟩ = some (.slice (some ⟨bs, 0, none⟩) ps.length ps.length) ∧ W'.cell? ⟨bs, i, none⟩ = some (.slice A7 row.length c7) ∧ W'.cell? ⟨(ad.add (i * 23)).block, (ad.add (i * 23)).off + 5, none⟩ = some (.int .i64 pi.f5.f0) ∧ W'.cell? ⟨(ad.add (i * 23)).block, (ad.add (i * 23)).off + 6, none⟩ = some (.string pi.f5.f1) ∧ W'.cell? ⟨(ad.add (i * 23)).block, (ad.add (i * 23)).off + 7, none⟩ = some (.int .i64 pi.f5.f2) ∧ W'.cell? ⟨(ad.add (i * 23)).block, (ad.add (i * 23)).off + 8, none⟩ = some (.int .i64 pi.f5.f3) ∧ W'.cell? ⟨(ad.add (i * 23)).block, (ad.add (i * 23)).off + 9, none⟩ = some (.slice A9 pi.f5.f4.length c9))
        (first | exact HS.out _ HJ0.out.drew | (go_split_ands; exact HS.out _ (JA.drew (by assumption))) | (go_split_ands; exact HS.out _ (JA.below (by assumption) hb2)) | exact HS.out _ hJ2 | go_keep)
        (first | (go_at_call 25; go_split_ands; refine (H25.out _ (by assumption)).mono ?_; rintro e W' ⟨rfl, hb2⟩) | ((with_reducible refine (H140.out _ (by (go_split_ands; assumption))).mono ?_); rintro e W' ⟨rfl, hJ2⟩))
      go_split_ands
      obtain ⟨D3, hD3⟩ := hJ2.kn
      have cm := cell_blk hD3.ask (j := 2) rfl
      have HJ2 := Lib.hid hJ2; have HD3 := Lib.hid hD3
      clear hJ2 hD3
      go_wp2_with (at_mapUpdate; refine wp_put rfl _ _ _ 134 rfl 3 4 law3 Tryz.underlying134 bk _ _ rfl HD3.out.known (HSM.out D3) (.int .i64 (i : Int)) (.bool (!row.any Ab)) _ rfl rfl HIK.out ?_; intro W5 hm5 hg5)
      go_ret
      exact HF.out _ _ _ (by rw [HAI.out]; rfl) HJ2.out D3 HD3.out hm5 hg5
end Go.Proofs.YtaigepddkgpplaaGreatDoor.M

