/- formula.compare: two numbers compared as the test's word says. -/
import Derived.Test.YtaigepddkgpplaaGreatDoorQFIdx
import Derived.Test.YtaigepddkgpplaaGreatDoorQCheck1
import Derived.Test.YtaigepddkgpplaaGreatDoorQSize
import Derived.Deep.RegionHeld3
import Derived.Outline
section
namespace Go.Proofs.YtaigepddkgpplaaGreatDoor.M
open Go Go.RowKit Go.Maps Go.WideMaps Go.Proofs.YtaigepddkgpplaaGreatDoorW.PrintWords Go.Proofs.YtaigepddkgpplaaGreatDoorW.PrintLast Go.Proofs.YtaigepddkgpplaaGreatDoorW.PrintMore Go.Proofs.YtaigepddkgpplaaGreatDoor.B
set_option linter.unusedVariables false
set_option linter.unusedSimpArgs false

/-- how a compares with b -/
def cmpB (a how b : Int) : Bool :=
  if how = 1 then decide (a = b) else if how = 2 then decide (a ≠ b) else if how = 3 then decide (a < b) else if how = 4 then decide (a ≤ b) else if how = 5 then decide (b < a) else if how = 6 then decide (b ≤ a) else false
def sgn (a b : Int) : Int := if a < b then -1 else if b < a then 1 else 0
set_option maxRecDepth 100000 in
theorem isNaN_calls (a : Int) (w : World) : Calls Tryz.prog 167 #[.int .i64 a] w fun e w' => e = .returned (.bool false) ∧ w = w' := by
  go_enter Tryz.func167, Tryz.ntmps167
  go_wp2
  go_ret
  exact ⟨by simp, rfl⟩
theorem int_tri (a b : Int) : a < b ∨ a = b ∨ b < a := by omega
set_option maxRecDepth 100000 in
theorem cmpCompare_calls (a b : Int) (w : World) : Calls Tryz.prog 133 #[.int .i64 a, .int .i64 b] w fun e w' => e = .returned (.int .i64 (sgn a b)) ∧ w = w' := by
  have HN := isNaN_calls
  rcases int_tri a b with h | h | h
  · have e : sgn a b = -1 := by unfold sgn; rw [if_pos h]
    have d1 : decide (a < b) = true := by simpa using h
    have HE := Lib.hid e; clear e
    go_enter Tryz.func133, Tryz.ntmps133
    go_wp2_with (go_at_call 167; refine (HN _ _).mono ?_; rintro e W ⟨rfl, rfl⟩)
    go_ret
    exact ⟨by rw [HE.out]; rfl, rfl⟩
  · subst h
    have e : sgn a a = 0 := by unfold sgn; rw [if_neg (by omega), if_neg (by omega)]
    have HE := Lib.hid e; clear e
    go_enter Tryz.func133, Tryz.ntmps133
    go_wp2_with (go_at_call 167; refine (HN _ _).mono ?_; rintro e W ⟨rfl, rfl⟩)
    go_ret
    exact ⟨by rw [HE.out]; rfl, rfl⟩
  · have e : sgn a b = 1 := by unfold sgn; rw [if_neg (by omega), if_pos h]
    have d1 : decide (a < b) = false := by simp; omega
    have d2 : decide (b < a) = true := by simpa using h
    have HE := Lib.hid e; clear e
    go_enter Tryz.func133, Tryz.ntmps133
    go_wp2_with (go_at_call 167; refine (HN _ _).mono ?_; rintro e W ⟨rfl, rfl⟩)
    go_ret
    exact ⟨by rw [HE.out]; rfl, rfl⟩
set_option maxRecDepth 100000 in
set_option maxHeartbeats 1000000 in
theorem compare_calls (a how b : Int) (w : World) : Calls Tryz.prog 79 #[.int .i64 a, .int .i64 how, .int .i64 b] w fun e w' => e = .returned (.bool (cmpB a how b)) ∧ w = w' := by
  have HN := Lib.hid cmpCompare_calls
  obtain ⟨s, hs⟩ : ∃ s, s = sgn a b := ⟨_, rfl⟩
  have hc : ∀ w, Calls Tryz.prog 133 #[.int .i64 a, .int .i64 b] w fun e w' => e = .returned (.int .i64 s) ∧ w = w' := fun w => hs ▸ HN.out a b w
  have HC := Lib.hid hc
  have hsv : (a < b ∧ s = -1) ∨ (a = b ∧ s = 0) ∨ (b < a ∧ s = 1) := by
    unfold sgn at hs
    rcases int_tri a b with h | h | h
    · rw [if_pos h] at hs; exact .inl ⟨h, hs⟩
    · rw [if_neg (by omega), if_neg (by omega)] at hs; exact .inr (.inl ⟨h, hs⟩)
    · rw [if_neg (by omega), if_pos h] at hs; exact .inr (.inr ⟨h, hs⟩)
  clear hs hc
  have key : ∀ h : Int, how = h → (h = 1 ∨ h = 2 ∨ h = 3 ∨ h = 4 ∨ h = 5 ∨ h = 6) → True := fun _ _ _ => trivial
  clear key
  by_cases h1 : how = 1 ∨ how = 2 ∨ how = 3 ∨ how = 4 ∨ how = 5 ∨ how = 6
  · rcases h1 with rfl | rfl | rfl | rfl | rfl | rfl <;> rcases hsv with ⟨h, rfl⟩ | ⟨h, rfl⟩ | ⟨h, rfl⟩
    all_goals
      have H := Lib.hid h
      clear h
      go_enter Tryz.func79, Tryz.ntmps79
      go_wp2_with (go_at_call 133; refine (HC.out _).mono ?_; rintro e W ⟨rfl, rfl⟩)
      go_ret
      refine ⟨?_, rfl⟩
      have h := H.out
      simp [cmpB]
      try omega
  · have d1 : (how == 1) = false := by simp; omega
    have d2 : (how == 2) = false := by simp; omega
    have d3 : (how == 3) = false := by simp; omega
    have d4 : (how == 4) = false := by simp; omega
    have d5 : (how == 5) = false := by simp; omega
    have d6 : (how == 6) = false := by simp; omega
    have e : cmpB a how b = false := by
      unfold cmpB
      rw [if_neg (by omega), if_neg (by omega), if_neg (by omega), if_neg (by omega), if_neg (by omega), if_neg (by omega)]
    have HE := Lib.hid e; clear e
    clear h1 hsv
    go_enter Tryz.func79, Tryz.ntmps79
    go_wp2_with (go_at_call 133; refine (HC.out _).mono ?_; rintro e W ⟨rfl, rfl⟩)
    go_ret
    exact ⟨by rw [HE.out]; rfl, rfl⟩
end Go.Proofs.YtaigepddkgpplaaGreatDoor.M

end
section
/- The closure in formula.Holds: the value of a formula. -/
namespace Go.Proofs.YtaigepddkgpplaaGreatDoor.M
open Go Go.RowKit Go.Maps Go.WideMaps Go.Proofs.YtaigepddkgpplaaGreatDoorW.PrintWords Go.Proofs.YtaigepddkgpplaaGreatDoorW.PrintLast Go.Proofs.YtaigepddkgpplaaGreatDoorW.PrintMore Go.Proofs.YtaigepddkgpplaaGreatDoor.B
set_option linter.unusedVariables false
set_option linter.unusedSimpArgs false

/-- is the text among the terms -/
def inTerms (ts : List ByteArray) (t : ByteArray) : Bool := decide (0 ≤ firstI (fun y => t.toList == y.toList) ts)
/-- the value of a formula for a case, if just the given terms hold -/
def valB (fs : List S110) (cs : List Int) (ts : List ByteArray) (x : S24) : Bool :=
  if x.f0 = 3 then cmpB (cs.getD (idxI fs x.f1).toNat 0) x.f2 x.f3
  else if x.f0 = 4 then inTerms ts x.f1
  else if x.f0 = 5 then !((x.f4.attach.map fun y => valB fs cs ts y.1).headD false)
  else if x.f0 = 6 then (x.f4.attach.map fun y => valB fs cs ts y.1).all id
  else if x.f0 = 7 then (x.f4.attach.map fun y => valB fs cs ts y.1).any id
  else decide (x.f0 = 1)
termination_by SizeOf.sizeOf x
decreasing_by all_goals exact kid_lt y.2
theorem valB_eq (fs : List S110) (cs : List Int) (ts : List ByteArray) (x : S24) : valB fs cs ts x =
    if x.f0 = 3 then cmpB (cs.getD (idxI fs x.f1).toNat 0) x.f2 x.f3
    else if x.f0 = 4 then inTerms ts x.f1
    else if x.f0 = 5 then !((x.f4.map (valB fs cs ts)).headD false)
    else if x.f0 = 6 then x.f4.all (valB fs cs ts)
    else if x.f0 = 7 then x.f4.any (valB fs cs ts)
    else decide (x.f0 = 1) := by
  rw [valB]
  have e : (x.f4.attach.map fun y => valB fs cs ts y.1) = x.f4.map (valB fs cs ts) := List.attach_map_val
  simp only [e, List.all_map, List.any_map]
  rfl
/-- each test's fact is there, each negation has a kid -/
def okV (fs : List S110) (x : S24) : Prop := ∀ y ∈ nodes x, (y.f0 = 3 → 0 ≤ idxI fs y.f1) ∧ (y.f0 = 5 → y.f4 ≠ [])
theorem okV.kid {fs : List S110} {x y : S24} (h : okV fs x) (hy : y ∈ x.f4) : okV fs y := fun z hz => h z (nodes_kid hy hz)
theorem idxI_lt {fs : List S110} {nm : ByteArray} (h : 0 ≤ idxI fs nm) : (idxI fs nm).toNat < fs.length := by
  unfold idxI firstI at *
  cases hf : fs.findIdx? (isNm nm) with
  | none => rw [hf] at h; simp at h
  | some i => obtain ⟨hi, _⟩ := List.findIdx?_eq_some_iff_getElem.1 hf; simpa using hi
/-- where the captured variables lie -/
structure ValCtx (w0 : World) (fs : List S110) (cs : List Int) (ts : List ByteArray) (A A2 A3 : Option Addr) (c c2 c3 bc bd bt bf : Nat) : Prop where
  hC : Kd.C k110 w0 A fs.length fs
  hC2 : Kd.C (Kd.int .i64) w0 A2 cs.length cs
  hC3 : Kd.C Kd.string w0 A3 ts.length ts
  hlen : cs.length = fs.length
  cc : w0.cell? ⟨bc, 0, none⟩ = some (.slice A2 cs.length c2)
  cd : w0.cell? ⟨bd, 0, none⟩ = some (.slice A fs.length c)
  ct : w0.cell? ⟨bt, 0, none⟩ = some (.slice A3 ts.length c3)
  cf : w0.cell? ⟨bf, 0, none⟩ = some (.func (.func 78) #[] #[.pointer (some ⟨bc, 0, none⟩), .pointer (some ⟨bd, 0, none⟩), .pointer (some ⟨bt, 0, none⟩), .pointer (some ⟨bf, 0, none⟩)])
theorem enters78 : ∀ args w, (callFunc 78 args).run Tryz.prog w = .ok (.enter 78 args) w := enters Tryz.func78 (by kernel_rfl) rfl
theorem enters82 : ∀ args w, (callFunc 82 args).run Tryz.prog w = .ok (.enter 82 args) w := enters Tryz.func82 (by kernel_rfl) rfl
def valCap (bc bd bt bf : Nat) : Array Value := #[.pointer (some ⟨bc, 0, none⟩), .pointer (some ⟨bd, 0, none⟩), .pointer (some ⟨bt, 0, none⟩), .pointer (some ⟨bf, 0, none⟩)]

set_option maxRecDepth 100000 in
set_option maxHeartbeats 2000000 in
/-- the closure that turns a kid's value round -/
theorem val82 (bf : Nat) (cap : Array Value) (b : Bool) (k : Int) (t : ByteArray) (l m : Int) (A : Option Addr) (n c : Nat) (W : World)
    (hf : W.cell? ⟨bf, 0, none⟩ = some (.func (.func 78) #[] cap))
    (h : ∀ V, Below W.heap.size W V → Calls Tryz.prog 78 (#[.agg #[.int .i64 k, .string t, .int .i64 l, .int .i64 m, .slice A n c]] ++ cap) V (RetB b V)) :
    Calls Tryz.prog 82 #[.agg #[.int .i64 k, .string t, .int .i64 l, .int .i64 m, .slice A n c], .pointer (some ⟨bf, 0, none⟩)] W (RetB (!b) W) := by
  have heg := enters78
  have hf1 := cell_alloc hf (.cells #[.int .i64 k, .string t, .int .i64 l, .int .i64 m, .slice A n c] 24)
  have hb : Below W.heap.size W (W.alloc (.cells #[.int .i64 k, .string t, .int .i64 l, .int .i64 m, .slice A n c] 24)) := (Below.refl _ _).alloc (Nat.le_refl _) _
  have H := Lib.hid (h _ hb)
  have HB := Lib.hid hb
  clear h hf hb
  go_enter Tryz.func82, Tryz.ntmps82
  go_wp2_with (refine H.out.mono ?_; rintro e W' ⟨rfl, hJ2⟩)
  go_ret
  exact ⟨rfl, HB.out.trans (hJ2.mono HB.out.size)⟩
end Go.Proofs.YtaigepddkgpplaaGreatDoor.M

end
section
/- The closure in formula.Holds: the value of a formula. -/
namespace Go.Proofs.YtaigepddkgpplaaGreatDoor.M
open Go Go.RowKit Go.Maps Go.WideMaps Go.Proofs.YtaigepddkgpplaaGreatDoorW.PrintWords Go.Proofs.YtaigepddkgpplaaGreatDoorW.PrintLast Go.Proofs.YtaigepddkgpplaaGreatDoorW.PrintMore Go.Proofs.YtaigepddkgpplaaGreatDoor.B
set_option linter.unusedVariables false
set_option linter.unusedSimpArgs false


theorem below_at {B : Nat} {w0 W W1 : World} (h : Below B w0 W) (h1 : Below W.heap.size W W1) (hB : B ≤ w0.heap.size) : Below B w0 W1 := h.trans (h1.mono (Nat.le_trans hB h.size))

set_option maxRecDepth 100000 in
set_option maxHeartbeats 400000 in
theorem val78 {w0 : World} {fs : List S110} {cs : List Int} {ts : List ByteArray} {A A2 A3 : Option Addr} {c c2 c3 bc bd bt bf : Nat} (H0 : ValCtx w0 fs cs ts A A2 A3 c c2 c3 bc bd bt bf) :
    ∀ (x : S24), okV fs x → ∀ (W : World) (vs : List Value), Below w0.heap.size w0 W → k24.K W x vs →
      Calls Tryz.prog 78 (#[.agg vs.toArray] ++ valCap bc bd bt bf) W (RetB (valB fs cs ts x) W) := by
  refine S24.ind fun x ih => ?_
  intro hok W vs hbW hK
  obtain ⟨A4, c4, rfl, hl4, hC4⟩ := k24_open hK
  obtain ⟨k, t, l, m, kids⟩ := x
  have hself := hok _ (nodes_self _)
  have hval := valB_eq fs cs ts ⟨k, t, l, m, kids⟩
  simp only at hself hval hl4 hC4 ih
  have hkok : ∀ y ∈ kids, okV fs y := fun y hy => hok.kid (x := ⟨k, t, l, m, kids⟩) hy
  obtain ⟨W1, hW1⟩ : ∃ W1, W1 = W.alloc (.cells #[.int .i64 k, .string t, .int .i64 l, .int .i64 m, .slice A4 kids.length c4] 24) := ⟨_, rfl⟩
  have hb1 : Below W.heap.size W W1 := by rw [hW1]; exact (Below.refl _ _).alloc (Nat.le_refl _) _
  have hbW1 := below_to hbW hb1
  have cc := (hbW1.cell (World.block_lt_of_cell? _ _ H0.cc)).trans H0.cc
  have cd := (hbW1.cell (World.block_lt_of_cell? _ _ H0.cd)).trans H0.cd
  have ct := (hbW1.cell (World.block_lt_of_cell? _ _ H0.ct)).trans H0.ct
  have cf := (hbW1.cell (World.block_lt_of_cell? _ _ H0.cf)).trans H0.cf
  have hz1 : W1.heap.size = W.heap.size + 1 := by rw [hW1]; simp
  have hkid : ∀ W', Below W1.heap.size W1 W' → Kd.C k24 W' A4 kids.length kids := fun W' h => Kd.C_below (Kd.C_below hC4 hb1) h
  have hcall : ∀ y ∈ kids, ∀ W' vs, Below w0.heap.size w0 W' → k24.K W' y vs → Calls Tryz.prog 78 (#[.agg vs.toArray] ++ valCap bc bd bt bf) W' (RetB (valB fs cs ts y) W') := fun y hy W' vs h1 h2 => ih y hy (hkok y hy) W' vs h1 h2
  have HCALL := Lib.hid hcall; have HKID := Lib.hid hkid; have HB1 := Lib.hid hb1; have HBW1 := Lib.hid hbW1; have HBW := Lib.hid hbW; have HH := Lib.hid H0; have HC4 := Lib.hid hC4
  clear hcall hkid hkok ih hok hK
  show Calls Tryz.prog 78 #[.agg #[.int .i64 k, .string t, .int .i64 l, .int .i64 m, .slice A4 kids.length c4], .pointer (some ⟨bc, 0, none⟩), .pointer (some ⟨bd, 0, none⟩), .pointer (some ⟨bt, 0, none⟩), .pointer (some ⟨bf, 0, none⟩)] W _
  by_cases h4 : k = 4
  · subst h4
    have e : valB fs cs ts ⟨4, t, l, m, kids⟩ = inTerms ts t := by rw [hval]; rfl
    have hfin : RetB (valB fs cs ts ⟨4, t, l, m, kids⟩) W (.returned (.bool (inTerms ts t))) W1 := ⟨by rw [e], hb1⟩
    have hcc : Calls Tryz.prog 72 #[.slice A3 ts.length c3, .string t] W1 fun e w' => e = .returned (.bool (inTerms ts t)) ∧ w' = W1 := contains72 A3 c3 ts t W1 (Kd.C_below H0.hC3 hbW1)
    have HF := Lib.hid hfin; have HCC := Lib.hid hcc
    clear hz1 hfin hval e hself H0 hcc hb1 hbW1 hbW hC4
    subst hW1
    go_enter Tryz.func78, Tryz.ntmps78
    go_wp2_with (go_at_call 72; refine HCC.out.mono ?_; rintro e W' ⟨rfl, rfl⟩)
    go_ret
    exact HF.out
  · have n4 : (k == 4) = false := by simpa using h4
    by_cases h3 : k = 3
    · subst h3
      have hi0 : 0 ≤ idxI fs t := hself.1 rfl
      have hi1 : idxI fs t < (cs.length : Int) := by have := idxI_lt hi0; rw [H0.hlen]; omega
      obtain ⟨i, hi⟩ : ∃ i : Nat, idxI fs t = i := ⟨(idxI fs t).toNat, by omega⟩
      have hil : i < cs.length := by omega
      have e : valB fs cs ts ⟨3, t, l, m, kids⟩ = cmpB cs[i] l m := by rw [hval, if_pos rfl, hi]; simp [hil]
      obtain ⟨ad, hA2, g0⟩ := nt_int (Kd.C_below H0.hC2 hbW1) i hil
      subst hA2
      have hfin : ∀ W', Below (W.heap.size + 1) W1 W' → RetB (valB fs cs ts ⟨3, t, l, m, kids⟩) W (.returned (.bool (cmpB cs[i] l m))) W' := fun W' h => ⟨by rw [e], below_to hb1 (hz1 ▸ h)⟩
      have hix : ∀ W', Below (W.heap.size + 1) W1 W' → Calls Tryz.prog 80 #[.agg #[.slice A fs.length c], .string t] W' (RetI (i : Int) W') := fun W' h => hi ▸ index_calls A c fs t W' (Kd.C_below H0.hC (below_to hbW1 (hz1 ▸ h)))
      have hcp := compare_calls
      generalize cs[i] = v at *
      have hi' : (0 : Int) ≤ (i : Int) := by omega
      have hi'' : (i : Int) < (cs.length : Int) := by omega
      have ek : (ad.add i) = (ad.add i) := rfl
      have s1 : W1.cell? ⟨W.heap.size, 1, none⟩ = some (.string t) := by rw [hW1]; simp
      have s2 : W1.cell? ⟨W.heap.size, 2, none⟩ = some (.int .i64 l) := by rw [hW1]; simp
      have s3 : W1.cell? ⟨W.heap.size, 3, none⟩ = some (.int .i64 m) := by rw [hW1]; simp
      have hS : ∀ W', Below (W.heap.size + 1) W1 W' → Below (W.heap.size + 1) W1 W' ∧ W'.cell? ⟨bc, 0, none⟩ = some (.slice (some ad) cs.length c2) ∧ W'.cell? ⟨bd, 0, none⟩ = some (.slice A fs.length c) ∧ W'.cell? ⟨W.heap.size, 1, none⟩ = some (.string t) ∧ W'.cell? ⟨W.heap.size, 2, none⟩ = some (.int .i64 l) ∧ W'.cell? ⟨W.heap.size, 3, none⟩ = some (.int .i64 m) ∧ W'.cell? (ad.add i) = some (.int .i64 v) :=
        fun W' h0 => have h := hz1.symm ▸ h0; ⟨h0, (h.cell (World.block_lt_of_cell? _ _ cc)).trans cc, (h.cell (World.block_lt_of_cell? _ _ cd)).trans cd, (h.cell (World.block_lt_of_cell? _ _ s1)).trans s1, (h.cell (World.block_lt_of_cell? _ _ s2)).trans s2, (h.cell (World.block_lt_of_cell? _ _ s3)).trans s3, (h.cell (World.block_lt_of_cell? _ _ g0)).trans g0⟩
      have HF := Lib.hid hfin; have HIX := Lib.hid hix; have HCP := Lib.hid hcp; have HS := Lib.hid hS
      have HR := Lib.hid (Below.refl (W.heap.size + 1) W1)
      have HZ : W.heap.size + 1 ≤ W1.heap.size := Nat.le_of_eq hz1.symm
      have HZ := Lib.hid HZ
      clear hz1 hfin hval e hself H0 hb1 hbW1 hbW hC4 hix hcp hS hi hi0 hi1 s1 s2 s3 g0 ek cc cd ct cf hil
      subst hW1
      go_enter Tryz.func78, Tryz.ntmps78
      go_wp2_with fail
      go_region_held3 (fun W' => Below (W.heap.size + 1) (W.alloc (.cells #[.int .i64 3, .string t, .int .i64 l, .int .i64 m, .slice A4 kids.length c4] 24)) W' ∧ W'.cell? ⟨bc, 0, none⟩ = some (.slice (some ad) cs.length c2) ∧ W'.cell? ⟨bd, 0, none⟩ = some (.slice A fs.length c) ∧ W'.cell? ⟨W.heap.size, 1, none⟩ = some (.string t) ∧ W'.cell? ⟨W.heap.size, 2, none⟩ = some (.int .i64 l) ∧ W'.cell? ⟨W.heap.size, 3, none⟩ = some (.int .i64 m) ∧ W'.cell? (ad.add i) = some (.int .i64 v))
        (first | exact HS.out _ HR.out.drew | (go_split_ands; exact HS.out _ (Below.drew (by assumption))) | (go_split_ands; exact HS.out _ (below_at (by assumption) hb2 HZ.out)) | go_keep)
        (first | (go_at_call 80; go_split_ands; refine (HIX.out _ (by assumption)).mono ?_; rintro e W' ⟨rfl, hb2⟩) | (go_at_call 79; refine (HCP.out _ _ _ _).mono ?_; rintro e W' ⟨rfl, rfl⟩))
      go_wp2_with fail
      go_ret
      go_split_ands
      exact HF.out _ (by first | assumption | exact below_at HR.out.drew hb2 HZ.out)
    · have n3 : (k == 3) = false := by simpa using h3
      have hRB : ∀ b W', Below (W.heap.size + 1) W1 W' → valB fs cs ts ⟨k, t, l, m, kids⟩ = b → RetB (valB fs cs ts ⟨k, t, l, m, kids⟩) W (.returned (.bool b)) W' := fun b W' h e => ⟨by rw [e], below_to hb1 (hz1 ▸ h)⟩
      have HRB := Lib.hid hRB; clear hRB
      have HR := Lib.hid (Below.refl (W.heap.size + 1) W1)
      have HZ0 : W.heap.size + 1 ≤ W1.heap.size := Nat.le_of_eq hz1.symm
      have HZ := Lib.hid HZ0; clear HZ0
      have hJ : ∀ W', Below (W.heap.size + 1) W1 W' → ∀ y ∈ kids, ∀ vs, k24.K W' y vs → Calls Tryz.prog 78 (#[.agg vs.toArray] ++ valCap bc bd bt bf) W' (RetB (valB fs cs ts y) W') := fun W' h y hy vs hK => HCALL.out y hy W' vs (below_to hbW1 (hz1 ▸ h)) hK
      have HJ := Lib.hid hJ; clear hJ
      have hCk : ∀ W', Below (W.heap.size + 1) W1 W' → Kd.C k24 W' A4 kids.length kids := fun W' h => HKID.out W' (hz1 ▸ h)
      have HCK := Lib.hid hCk; clear hCk
      have s4 : W1.cell? ⟨W.heap.size, 4, none⟩ = some (.slice A4 kids.length c4) := by rw [hW1]; simp
      by_cases h5 : k = 5
      · subst h5
        have hne := hself.2 rfl
        have hlen : 0 < kids.length := List.length_pos_iff.2 hne
        have e : valB fs cs ts ⟨5, t, l, m, kids⟩ = !(valB fs cs ts kids[0]) := by
          rw [hval, if_neg (by omega), if_neg (by omega), if_pos rfl]
          cases kids with
          | nil => exact absurd rfl hne
          | cons y r => rfl
        obtain ⟨ad, A5, c5, hA4, g0, g1, g2, g3, g4, hl5, hC5⟩ := nt_T24 (HCK.out W1 HR.out) 0 hlen
        subst hA4
        have hmem : kids[0] ∈ kids := List.getElem_mem hlen
        have hcl : ∀ W', Below (W.heap.size + 1) W1 W' → Calls Tryz.prog 78 (#[.agg #[.int .i64 kids[0].f0, .string kids[0].f1, .int .i64 kids[0].f2, .int .i64 kids[0].f3, .slice A5 kids[0].f4.length c5]] ++ valCap bc bd bt bf) W' (RetB (valB fs cs ts kids[0]) W') := fun W' h => HJ.out W' h _ hmem _ (k24_mk W' kids[0] hl5 (Kd.C_below hC5 (hz1 ▸ h)))
        generalize kids[0] = y at *
        have hS : ∀ W', Below (W.heap.size + 1) W1 W' → Below (W.heap.size + 1) W1 W' ∧ W'.cell? ⟨bf, 0, none⟩ = some (.func (.func 78) #[] (valCap bc bd bt bf)) ∧ W'.cell? ⟨W.heap.size, 4, none⟩ = some (.slice (some ad) kids.length c4) ∧ W'.cell? ad = some (.int .i64 y.f0) ∧ W'.cell? ⟨ad.block, ad.off + 1, none⟩ = some (.string y.f1) ∧ W'.cell? ⟨ad.block, ad.off + 2, none⟩ = some (.int .i64 y.f2) ∧ W'.cell? ⟨ad.block, ad.off + 3, none⟩ = some (.int .i64 y.f3) ∧ W'.cell? ⟨ad.block, ad.off + 4, none⟩ = some (.slice A5 y.f4.length c5) := by
          rw [show ad.add (0 * 5) = ad from by simp [Addr.add]] at g0 g1 g2 g3 g4
          exact fun W' h0 => have h := hz1.symm ▸ h0; ⟨h0, (h.cell (World.block_lt_of_cell? _ _ cf)).trans cf, (h.cell (World.block_lt_of_cell? _ _ s4)).trans s4, (h.cell (World.block_lt_of_cell? _ _ g0)).trans g0, (h.cell (World.block_lt_of_cell? _ _ g1)).trans g1, (h.cell (World.block_lt_of_cell? _ _ g2)).trans g2, (h.cell (World.block_lt_of_cell? _ _ g3)).trans g3, (h.cell (World.block_lt_of_cell? _ _ g4)).trans g4⟩
        have HS := Lib.hid hS; have HCL := Lib.hid hcl; have HE := Lib.hid e
        have hb0 : (0 : Int) < (kids.length : Int) := by omega
        have heg := enters78
        clear hS hcl e hval hself H0 hb1 hbW1 hbW hC4 cc cd ct cf s4 g0 g1 g2 g3 g4 hC5 hz1 hmem hne
        subst hW1
        go_enter Tryz.func78, Tryz.ntmps78
        go_wp2_with fail
        go_region_held3 (fun W' => Below (W.heap.size + 1) (W.alloc (.cells #[.int .i64 5, .string t, .int .i64 l, .int .i64 m, .slice (some ad) kids.length c4] 24)) W' ∧ W'.cell? ⟨bf, 0, none⟩ = some (.func (.func 78) #[] (valCap bc bd bt bf)) ∧ W'.cell? ⟨W.heap.size, 4, none⟩ = some (.slice (some ad) kids.length c4) ∧ W'.cell? ad = some (.int .i64 y.f0) ∧ W'.cell? ⟨ad.block, ad.off + 1, none⟩ = some (.string y.f1) ∧ W'.cell? ⟨ad.block, ad.off + 2, none⟩ = some (.int .i64 y.f2) ∧ W'.cell? ⟨ad.block, ad.off + 3, none⟩ = some (.int .i64 y.f3) ∧ W'.cell? ⟨ad.block, ad.off + 4, none⟩ = some (.slice A5 y.f4.length c5))
          (first | exact HS.out _ HR.out.drew | (go_split_ands; exact HS.out _ (Below.drew (by assumption))) | (go_split_ands; exact HS.out _ (below_at (by assumption) hb2 HZ.out)) | go_keep)
          (first | (go_split_ands; (with_reducible refine (HCL.out _ (by assumption)).mono ?_); rintro e W' ⟨rfl, hb2⟩))
        go_wp2_with fail
        go_ret
        go_split_ands
        exact HRB.out _ _ (by first | assumption | exact below_at HR.out.drew hb2 HZ.out) HE.out
      · have n5 : (k == 5) = false := by simpa using h5
        have J0 : ∀ W', Below (W.heap.size + 1) W1 W' → True := fun _ _ => trivial
        clear J0
        by_cases h7 : k = 7
        · subst h7
          have e : valB fs cs ts ⟨7, t, l, m, kids⟩ = kids.any (valB fs cs ts) := by rw [hval]; rfl
          have hcf := containsFunc_81 A4 c4 kids 78 (valCap bc bd bt bf) (valB fs cs ts) (fun W' => Below (W.heap.size + 1) W1 W') enters78 HCK.out (fun y hy W' vs h hK => (HJ.out W' h y hy vs hK).mono fun e W2 ⟨h1, h2⟩ => ⟨h1, below_at h h2 HZ.out⟩) W1 HR.out
          have HCF := Lib.hid hcf; have HE := Lib.hid e
          clear hcf e hval hself H0 hb1 hbW1 hbW hC4 cc cd ct hz1
          subst hW1
          go_enter Tryz.func78, Tryz.ntmps78
          go_wp2_with (refine HCF.out.mono ?_; rintro e W' ⟨rfl, hb2⟩)
          go_ret
          exact HRB.out _ _ hb2 HE.out
        · have n7 : (k == 7) = false := by simpa using h7
          by_cases h6 : k = 6
          · subst h6
            have e : valB fs cs ts ⟨6, t, l, m, kids⟩ = !(kids.any fun y => !(valB fs cs ts y)) := by rw [hval]; exact List.all_eq_not_any_not
            have hcf := containsFunc_81 A4 c4 kids 82 #[.pointer (some ⟨bf, 0, none⟩)] (fun y => !(valB fs cs ts y)) (fun W' => Below (W.heap.size + 1) W1 W') enters82 HCK.out (fun y hy W' vs h hK => by
              obtain ⟨A5, c5, rfl, hl5, hC5⟩ := k24_open hK
              refine (val82 bf (valCap bc bd bt bf) (valB fs cs ts y) y.f0 y.f1 y.f2 y.f3 A5 y.f4.length c5 W' ?_ (fun V hV => HJ.out V (below_at h hV HZ.out) y hy _ (k24_mk V y hl5 (Kd.C_below hC5 hV)))).mono fun e W2 ⟨h1, h2⟩ => ⟨h1, below_at h h2 HZ.out⟩
              exact ((hz1.symm ▸ h : Below W1.heap.size W1 W').cell (World.block_lt_of_cell? _ _ cf)).trans cf) W1 HR.out
            have HCF := Lib.hid hcf; have HE := Lib.hid e
            clear hcf e hval hself H0 hb1 hbW1 hbW hC4 cc cd ct cf hz1
            subst hW1
            go_enter Tryz.func78, Tryz.ntmps78
            go_wp2_with (refine HCF.out.mono ?_; rintro e W' ⟨rfl, hb2⟩)
            go_ret
            exact HRB.out _ _ hb2 HE.out
          · have n6 : (k == 6) = false := by simpa using h6
            have e : valB fs cs ts ⟨k, t, l, m, kids⟩ = (k == 1) := by
              rw [hval, if_neg h3, if_neg h4, if_neg h5, if_neg h6, if_neg h7]
              rw [Bool.eq_iff_iff]; simp
            have HE := Lib.hid e
            clear e hval hself H0 hb1 hbW1 hbW hC4 cc cd ct cf hz1
            subst hW1
            go_enter Tryz.func78, Tryz.ntmps78
            go_wp2_with fail
            go_ret
            exact HRB.out _ _ HR.out HE.out
end Go.Proofs.YtaigepddkgpplaaGreatDoor.M

end
