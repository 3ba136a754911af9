/- formula.nodes: what is called with each node of a formula, a node before its kids. -/
import Derived.Test.YtaigepddkgpplaaGreatDoorQRange
import Derived.Test.YtaigepddkgpplaaGreatDoorQFIdx
import Derived.Test.YtaigepddkgpplaaGreatDoorQOps
import Derived.OwnWalkIn
import Derived.TacticsInMore
import Derived.LoopIn
import Derived.Laws.EntriesVeiled
namespace Go.Proofs.YtaigepddkgpplaaGreatDoor.M
open Go Go.RowKit Go.Maps Go.WideMaps Go.Proofs.YtaigepddkgpplaaGreatDoorW.PrintWords Go.Proofs.YtaigepddkgpplaaGreatDoorW.PrintLast Go.Proofs.YtaigepddkgpplaaGreatDoorW.PrintMore Go.Proofs.YtaigepddkgpplaaGreatDoor.B
set_option linter.unusedVariables false
set_option linter.unusedSimpArgs false
attribute [local go_sem] Oper.semAt_some

theorem below_to {w0 W W1 : World} (h : Below w0.heap.size w0 W) (h1 : Below W.heap.size W W1) : Below w0.heap.size w0 W1 := h.trans (h1.mono h.size)
theorem heap_at (u : World) (o : Obj) {k : Nat} (h : u.heap.size = k) : (u.alloc o).heap[k]? = some o := by rw [← h]; exact World.alloc_heap_new u o
theorem kid_lt {x y : S24} (h : y ∈ x.f4) : SizeOf.sizeOf y < SizeOf.sizeOf x := by
  have := List.sizeOf_lt_of_mem h
  cases x
  simp at *
  omega
theorem S24.ind {motive : S24 → Prop} (h : ∀ x, (∀ y ∈ x.f4, motive y) → motive x) : ∀ x, motive x := fun x => by
  have key : ∀ (n : Nat) (x : S24), SizeOf.sizeOf x < n → motive x := by
    intro n
    induction n with
    | zero => intro x hx; omega
    | succ n ih => intro x hx; exact h x (fun y hy => ih y (by have := kid_lt hy; omega))
  exact key _ x (Nat.lt_succ_self _)
/-- the nodes of a formula, a node before its kids -/
def nodes (x : S24) : List S24 := x :: (x.f4.attach.map fun y => nodes y.1).flatten
termination_by SizeOf.sizeOf x
decreasing_by exact kid_lt y.2
theorem nodes_eq (x : S24) : nodes x = x :: (x.f4.map nodes).flatten := by
  rw [nodes]
  congr 2
  exact List.attach_map_val

theorem nodes_self (x : S24) : x ∈ nodes x := by rw [nodes_eq]; simp
theorem nodes_kid {x y z : S24} (h : y ∈ x.f4) (hz : z ∈ nodes y) : z ∈ nodes x := by
  rw [nodes_eq]
  exact List.mem_cons_of_mem _ (List.mem_flatten.2 ⟨nodes y, List.mem_map_of_mem h, hz⟩)
/-- the texts of a formula are of a length that a text has -/
def strOk (x : S24) : Prop := ∀ y ∈ nodes x, y.f1.size ≤ 9223372036854775807
theorem strOk.kid {x y : S24} (h : strOk x) (hy : y ∈ x.f4) : strOk y := fun z hz => h z (nodes_kid hy hz)
/-- an element that is handed on: a formula, and its cells in the world w0 -/
abbrev El (w0 : World) := { p : S24 × List Value // k24.K w0 p.1 p.2 ∧ p.1.f1.size ≤ 9223372036854775807 }
def elEnc {w0 : World} (p : El w0) : Array Value := #[.agg p.1.2.toArray]
/-- the first k kids have been gone through -/
def kidNodes (x : S24) (k : Nat) : List S24 := ((x.f4.take k).map nodes).flatten
theorem kidNodes_succ (x : S24) {k : Nat} (h : k < x.f4.length) : kidNodes x (k + 1) = kidNodes x k ++ nodes x.f4[k] := by
  unfold kidNodes
  rw [List.take_succ_eq_append_getElem h, List.map_append, List.flatten_append]
  simp
theorem kidNodes_all (x : S24) : nodes x = x :: kidNodes x x.f4.length := by
  rw [nodes_eq]; simp [kidNodes]
theorem kidNodes_le (x : S24) {k : Nat} (h : k < x.f4.length) : (kidNodes x k).length + (nodes x.f4[k]).length ≤ (kidNodes x x.f4.length).length := by
  have e : kidNodes x x.f4.length = kidNodes x (k + 1) ++ ((x.f4.drop (k + 1)).map nodes).flatten := by
    unfold kidNodes
    rw [← List.flatten_append, ← List.map_append, List.take_length, List.take_append_drop]
  rw [e, kidNodes_succ x h]
  simp only [List.length_append]; omega
theorem kidNodes_pre (x : S24) {k : Nat} (h : k < x.f4.length) : kidNodes x k ++ nodes x.f4[k] <+: kidNodes x x.f4.length := by
  have e : kidNodes x x.f4.length = kidNodes x (k + 1) ++ ((x.f4.drop (k + 1)).map nodes).flatten := by
    unfold kidNodes
    rw [← List.flatten_append, ← List.map_append, List.take_length, List.take_append_drop]
  rw [e, kidNodes_succ x h]
  exact List.prefix_append _ _

def VisPost {w0 : World} (R Rx : List (El w0) → World → Prop) (pre : List (El w0)) (x : S24) (W : World) (e : Ending) (W' : World) : Prop :=
  (e = .returned (.bool true) ∧ ∃ ys : List (El w0), ys.map (·.1.1) = nodes x ∧ R (pre ++ ys) W' ∧ Below W.heap.size W W') ∨ (e = .returned (.bool false) ∧ ∃ ys : List (El w0), ys.map (·.1.1) <+: nodes x ∧ Rx (pre ++ ys) W')
set_option maxRecDepth 100000 in
set_option maxHeartbeats 1000000 in
theorem visit_in (w0 : World) (l N by_ bv : Nat) (R Rx : List (El w0) → World → Prop) (hRb : ∀ s W, R s W → Below w0.heap.size w0 W)
    (hRn : ∀ s W W', R s W → Below W.heap.size W W' → R s W') (hRxn : ∀ s W W', Rx s W → Below W.heap.size W W' → Rx s W')
    (hY : ∀ m pre x W, R pre W → pre.length < N → YieldAt Fence.wide m Tryz.prog l (elEnc x) W fun e W' => (e = .returned (.bool true) ∧ R (pre ++ [x]) W' ∧ Below W.heap.size W W') ∨ (e = .returned (.bool false) ∧ Rx (pre ++ [x]) W')) :
    ∀ (x : S24) (n : Nat) (cs : List Value) (pre : List (El w0)) (W : World), strOk x → k24.K w0 x cs → R pre W → pre.length + (nodes x).length ≤ N →
      W.cell? ⟨by_, 0, none⟩ = some (.func (.yield l) #[] #[]) → W.cell? ⟨bv, 0, none⟩ = some (.func (.func 165) #[] #[.pointer (some ⟨by_, 0, none⟩), .pointer (some ⟨bv, 0, none⟩)]) →
      CallsIn Fence.wide n Tryz.prog 165 #[.agg cs.toArray, .pointer (some ⟨by_, 0, none⟩), .pointer (some ⟨bv, 0, none⟩)] W (VisPost R Rx pre x W) := by
  refine S24.ind fun x ih => ?_
  intro n cs pre W hs hK hR hN cy cv
  obtain ⟨A4, c4, rfl, hl, hC⟩ := k24_open hK
  have hm := hC.2.1
  refine callsIn_of_wp Tryz.func165 rfl trivial ?_ rfl
  simp only [Tryz.ntmps165, List.size_toArray, List.length_cons, List.length_nil, Nat.reduceAdd, Nat.reduceSub, Array.replicate_succ, Array.replicate_zero, List.push_toArray, List.append_toArray, List.nil_append, List.cons_append]
  have hdd : ∀ k : Nat, (Fence.wide.depth.isSome = true → 1 ≤ k) := fun k h => by cases h
  obtain ⟨cs, hcs⟩ : ∃ cs, cs = [Value.int .i64 x.f0, .string x.f1, .int .i64 x.f2, .int .i64 x.f3, .slice A4 x.f4.length c4] := ⟨_, rfl⟩
  have hs0 := hs x (nodes_self x)
  obtain ⟨e0, he0⟩ : ∃ e0 : El w0, e0 = ⟨(x, _), hK, hs0⟩ := ⟨_, rfl⟩
  have hbW0 : Below W.heap.size W (W.alloc (.cells #[.int .i64 x.f0, .string x.f1, .int .i64 x.f2, .int .i64 x.f3, .slice A4 x.f4.length c4] 24)) := (Below.refl _ _).alloc (Nat.le_refl _) _
  have hK1 := (hY (n - 1) pre e0 _ (hRn _ _ _ hR hbW0) (by rw [nodes_eq] at hN; simp at hN; omega))
  rw [show elEnc e0 = #[.agg #[.int .i64 x.f0, .string x.f1, .int .i64 x.f2, .int .i64 x.f3, .slice A4 x.f4.length c4]] from by rw [he0]; rfl] at hK1
  obtain ⟨fn, tmps, assign, body, hy, hRd⟩ := hK1
  have hbR := hRb pre W hR
  have HY := Lib.hid hY; have HRN := Lib.hid hRn; have HRX := Lib.hid hRxn; have HRB := Lib.hid hRb; have HIH := Lib.hid ih
  have HRD := Lib.hid hRd
  have HSTR := Lib.hid hs
  have HCY := Lib.hid cy; have HCV := Lib.hid cv; have HCS := Lib.hid hcs; have HE := Lib.hid he0
  have cy0 := cell_alloc cy (.cells #[.int .i64 x.f0, .string x.f1, .int .i64 x.f2, .int .i64 x.f3, .slice A4 x.f4.length c4] 24)
  clear hY hRn hRxn hRb ih hRd hcs he0 cy cv hs
  gi_wp2_with ((try refine ⟨hdd _, ?_⟩); refine HRD.out.mono ?_; clear HRD; rintro e W2 (⟨rfl, hR2, hb2⟩ | ⟨rfl, hx2⟩); try have hcx : W2.cell? ⟨W.heap.size, 4, none⟩ = some (.slice A4 x.f4.length c4) := (hb2.cell (p := ⟨W.heap.size, 4, none⟩) (by simp)).trans (by simp))
  · gi_loopw [14] (fun i W' => ∃ (k : Nat) (ys : List (El w0)), k ≤ x.f4.length ∧ i = .int .i64 k ∧ ys.map (·.1.1) = kidNodes x k ∧ R (pre ++ [e0] ++ ys) W' ∧ Below W2.heap.size W2 W') (fun i _ => x.f4.length - (intOf i).toNat)
    case atStart => exact ⟨0, [], Nat.zero_le _, rfl, rfl, by simpa using hR2, Below.refl _ _⟩
    case round =>
      obtain ⟨k, ys, hk, rfl, hys, hRw, hbr⟩ := hrel
      have hzW : W.heap.size < W2.heap.size := by have := hb2.size; simp at this; omega
      have hbW2 : Below W.heap.size W W2 := hbW0.trans (hb2.mono (by simp))
      have hbWr : Below W.heap.size W wr := hbW2.trans (hbr.mono (Nat.le_of_lt hzW))
      have hb0r := HRB.out _ _ hRw
      by_cases hlt : k < x.f4.length
      · obtain ⟨ad, A5, c5, rfl, g0, g1, g2, g3, g4, hl5, hC5⟩ := nt_T24 hC k hlt
        have hKk := k24_mk w0 x.f4[k] hl5 hC5
        have hmem : x.f4[k] ∈ x.f4 := List.getElem_mem hlt
        have hsk := HSTR.out.kid hmem
        have hnl := kidNodes_le x hlt
        have hnp := kidNodes_pre x hlt
        have hns := kidNodes_succ x hlt
        have hall := kidNodes_all x
        have ih2 := HIH.out _ hmem
        generalize hxk : x.f4[k] = y at *
        have HG := Lib.hid hxk; have HMEM := Lib.hid hmem
        have r0 := (hb0r.cell (World.block_lt_of_cell? _ _ g0)).trans g0
        have r1 := (hb0r.cell (World.block_lt_of_cell? _ _ g1)).trans g1
        have r2 := (hb0r.cell (World.block_lt_of_cell? _ _ g2)).trans g2
        have r3 := (hb0r.cell (World.block_lt_of_cell? _ _ g3)).trans g3
        have r4 := (hb0r.cell (World.block_lt_of_cell? _ _ g4)).trans g4
        clear g0 g1 g2 g3 g4 hmem hxk
        have cvk := cell_alloc ((hbWr.cell (World.block_lt_of_cell? _ _ HCV.out)).trans HCV.out) (.cells #[.int .i64 y.f0, .string y.f1, .int .i64 y.f2, .int .i64 y.f3, .slice A5 y.f4.length c5] 24)
        have cyk := cell_alloc ((hbWr.cell (World.block_lt_of_cell? _ _ HCY.out)).trans HCY.out) (.cells #[.int .i64 y.f0, .string y.f1, .int .i64 y.f2, .int .i64 y.f3, .slice A5 y.f4.length c5] 24)
        have hbk : Below wr.heap.size wr (wr.alloc (.cells #[.int .i64 y.f0, .string y.f1, .int .i64 y.f2, .int .i64 y.f3, .slice A5 y.f4.length c5] 24)) := (Below.refl _ _).alloc (Nat.le_refl _) _
        have hlen : (pre ++ [e0] ++ ys).length + (nodes y).length ≤ N := by
          have e1 : ys.length = (kidNodes x k).length := by rw [← hys, List.length_map]
          rw [hall] at hN
          simp at hN ⊢
          omega
        have hvis := ih2 (n - 1) _ _ _ hsk hKk (HRN.out _ _ _ hRw hbk) hlen cyk cvk
        have HV := Lib.hid hvis
        have HNS := Lib.hid hns; have HYS := Lib.hid hys; have HALL := Lib.hid hall; have HNP := Lib.hid hnp
        clear hvis ih2 hKk hsk hlen cyk hns hys hall hnp hnl
        gi_wp2_with ((try refine ⟨trivial, hdd _, ?_⟩); gi_at_call 165; refine HV.out.mono ?_; rintro e W5 (⟨rfl, ys2, hys2, hR5, hb5⟩ | ⟨rfl, ys2, hys2, hx5⟩))
        · go_roundw
          case rel => exact ⟨k + 1, ys ++ ys2, by omega, by go_num, by rw [List.map_append, hys2, HYS.out, HNS.out], by rw [← List.append_assoc]; exact hR5, hbr.trans ((hbk.mono hbr.size).trans (hb5.mono (Nat.le_trans hbr.size hbk.size)))⟩
          case measure => simp [intOf]; omega
        · go_ret
          refine .inr ⟨rfl, [e0] ++ ys ++ ys2, ?_, by rw [← List.append_assoc, ← List.append_assoc]; exact hx5⟩
          rw [HALL.out, List.map_append, List.map_append, HYS.out, HE.out]
          obtain ⟨t, ht⟩ := hys2
          obtain ⟨t2, ht2⟩ := HNP.out
          exact ⟨t ++ t2, by rw [← ht2, ← ht]; simp⟩
      · obtain rfl : k = x.f4.length := by omega
        have hfin : VisPost R Rx pre x W (.returned (.bool true)) wr := .inl ⟨rfl, [e0] ++ ys, by rw [List.map_append, hys, kidNodes_all, HE.out]; rfl, by rw [← List.append_assoc]; exact hRw, hbWr⟩
        have HF := Lib.hid hfin
        clear hfin hys
        gi_wp2
        go_ret
        exact HF.out
  · go_ret
    exact .inr ⟨rfl, [e0], by rw [kidNodes_all, HE.out]; exact ⟨_, rfl⟩, hx2⟩

def NodesPost {w0 : World} (R Rx : List (El w0) → World → Prop) (x : S24) (e : Ending) (W' : World) : Prop :=
  (∃ v, e = .returned v) ∧ ((∃ ys : List (El w0), ys.map (·.1.1) = nodes x ∧ R ys W') ∨ (∃ ys : List (El w0), ys.map (·.1.1) <+: nodes x ∧ Rx ys W'))
set_option maxRecDepth 100000 in
set_option maxHeartbeats 1000000 in
theorem nodes1_in (w0 : World) (l bx : Nat) (R Rx : List (El w0) → World → Prop) (hRb : ∀ s W, R s W → Below w0.heap.size w0 W)
    (hRn : ∀ s W W', R s W → Below W.heap.size W W' → R s W') (hRxn : ∀ s W W', Rx s W → Below W.heap.size W W' → Rx s W') (x : S24) (hs : strOk x) (A4 : Option Addr) (c4 : Nat)
    (hY : ∀ m pre y W, R pre W → pre.length < (nodes x).length → YieldAt Fence.wide m Tryz.prog l (elEnc y) W fun e W' => (e = .returned (.bool true) ∧ R (pre ++ [y]) W' ∧ Below W.heap.size W W') ∨ (e = .returned (.bool false) ∧ Rx (pre ++ [y]) W'))
    (n : Nat) (W : World) (hK : k24.K w0 x [.int .i64 x.f0, .string x.f1, .int .i64 x.f2, .int .i64 x.f3, .slice A4 x.f4.length c4]) (hR : R [] W)
    (c0 : W.cell? ⟨bx, 0, none⟩ = some (.int .i64 x.f0)) (c1 : W.cell? ⟨bx, 1, none⟩ = some (.string x.f1)) (c2 : W.cell? ⟨bx, 2, none⟩ = some (.int .i64 x.f2)) (c3 : W.cell? ⟨bx, 3, none⟩ = some (.int .i64 x.f3)) (c4' : W.cell? ⟨bx, 4, none⟩ = some (.slice A4 x.f4.length c4)) :
    CallsIn Fence.wide n Tryz.prog 164 #[.func (.yield l) #[] #[], .pointer (some ⟨bx, 0, none⟩)] W (NodesPost R Rx x) := by
  have hdd : ∀ k : Nat, (Fence.wide.depth.isSome = true → 1 ≤ k) := fun k h => by cases h
  refine callsIn_of_wp Tryz.func164 rfl trivial ?_ rfl
  simp only [Tryz.ntmps164, List.size_toArray, List.length_cons, List.length_nil, Nat.reduceAdd, Nat.reduceSub, Array.replicate_succ, Array.replicate_zero, List.push_toArray, List.append_toArray, List.nil_append, List.cons_append]
  obtain ⟨W1, hW1⟩ : ∃ W1, W1 = (W.alloc (.cells #[.func (.yield l) #[] #[]] 120)).alloc (.cells #[.func (.func 165) #[] #[.pointer (some ⟨W.heap.size, 0, none⟩), .pointer (some ⟨W.heap.size + 1, 0, none⟩)]] 120) := ⟨_, rfl⟩
  have hb : Below W.heap.size W W1 := by rw [hW1]; exact ((Below.refl _ _).alloc (Nat.le_refl _) _).alloc (by simp) _
  have d0 := (hb.cell (World.block_lt_of_cell? _ _ c0)).trans c0
  have d1 := (hb.cell (World.block_lt_of_cell? _ _ c1)).trans c1
  have d2 := (hb.cell (World.block_lt_of_cell? _ _ c2)).trans c2
  have d3 := (hb.cell (World.block_lt_of_cell? _ _ c3)).trans c3
  have d4 := (hb.cell (World.block_lt_of_cell? _ _ c4')).trans c4'
  have hv := visit_in w0 l (nodes x).length W.heap.size (W.heap.size + 1) R Rx hRb hRn hRxn hY x (n - 1) _ [] W1 hs hK (hRn _ _ _ hR hb) (by simp) (by rw [hW1]; simp) (by rw [hW1]; simp)
  have HV := Lib.hid hv
  clear hv hY hRn hRxn hRb c0 c1 c2 c3 c4'
  subst hW1
  gi_wp2_with ((try refine ⟨trivial, hdd _, ?_⟩); gi_at_call 165; refine HV.out.mono ?_; rintro e W5 (⟨rfl, ys2, hys2, hR5, hb5⟩ | ⟨rfl, ys2, hys2, hx5⟩))
  · go_end0
    exact ⟨⟨_, rfl⟩, .inl ⟨ys2, hys2, by simpa using hR5⟩⟩
  · go_end0
    exact ⟨⟨_, rfl⟩, .inr ⟨ys2, hys2, by simpa using hx5⟩⟩

theorem nodes_calls (x : S24) (A4 : Option Addr) (c4 : Nat) (w : World) :
    Calls Tryz.prog 128 #[.agg #[.int .i64 x.f0, .string x.f1, .int .i64 x.f2, .int .i64 x.f3, .slice A4 x.f4.length c4]] w fun e w' => e = .returned (.func (.func 164) #[] #[.pointer (some ⟨w.heap.size, 0, none⟩)]) ∧ w' = w.alloc (.cells #[.int .i64 x.f0, .string x.f1, .int .i64 x.f2, .int .i64 x.f3, .slice A4 x.f4.length c4] 24) := by
  go_enter Tryz.func128, Tryz.ntmps128
  go_wp2
  go_ret
  exact ⟨rfl, rfl⟩
end Go.Proofs.YtaigepddkgpplaaGreatDoor.M

