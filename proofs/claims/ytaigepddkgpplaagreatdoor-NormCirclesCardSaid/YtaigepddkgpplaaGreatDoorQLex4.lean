/- lexer.Lex, as far as a name is told by it. -/
import Derived.Test.YtaigepddkgpplaaGreatDoorQLex4a
namespace Go.Proofs.YtaigepddkgpplaaGreatDoor.M
open Go Go.RowKit Go.Maps Go.WideMaps Go.Proofs.YtaigepddkgpplaaGreatDoorW.PrintWords
set_option linter.unusedVariables false
set_option linter.unusedSimpArgs false
attribute [local go_sem] Oper.semAt_some

/-- the round's registers -/
def lexTm (s : ByteArray) (B g b1 b3 : Nat) (x : Fe) : Array Value :=
  #[.string s, undef, .pointer (some ⟨B, 0, none⟩), .pointer (some ⟨B + 1, 0, none⟩), .pointer (some ⟨B + 1 + 1, 0, none⟩), .pointer (some ⟨B + 1 + 1 + 1, 0, none⟩), .pointer (some ⟨g, 0, none⟩), .string s, .int .i64 s.size, .bool false, .string s,
    .func (.func 223) #[] #[.pointer (some ⟨b1, 0, none⟩), .pointer (some ⟨b3, 0, none⟩)], .agg #[.int .i64 x.1.kind, .string x.1.text, .int .i64 x.1.n, .int .i64 x.1.place, .int .i64 x.1.err],
    undef, undef, undef, undef, undef, undef, undef, undef, undef, undef, undef, undef, undef, undef, undef, undef, undef, undef, undef, undef, undef, undef]
def lexCells (x : Fe) : Array Value := #[.int .i64 x.1.kind, .string x.1.text, .int .i64 x.1.n, .int .i64 x.1.place, .int .i64 x.1.err]
/-- what the statement before the round leaves -/
def LexAsg (s : ByteArray) (B Z b1 b3 : Nat) (x : Fe) (A : Act) (W : World) : Prop := ∃ g, Z + 2 ≤ g ∧ W.heap[g]? = some (.cells (lexCells x) 250 (0, 0)) ∧ A = { tmps := lexTm s B g b1 b3 x, defers := [] }

set_option maxRecDepth 100000 in
set_option maxHeartbeats 4000000 in
theorem lex_calls (s : ByteArray) (hs : s.size ≤ 9223372036854775807) (w : World) : Calls Tryz.prog 193 #[.string s] w (LexRet s w) := by
  refine callsIn_wide.1 (?_ : CallsIn Fence.wide 3 _ _ _ _ _)
  refine callsIn_of_wp_marks Tryz.func193 rfl trivial ?_ rfl
  simp only [Tryz.ntmps193, List.size_toArray, List.length_cons, List.length_nil, Nat.reduceAdd, Nat.reduceSub, Array.replicate_succ, Array.replicate_zero, List.push_toArray, List.append_toArray, List.nil_append, List.cons_append]
  have hdd : ∀ k : Nat, (Fence.wide.depth.isSome = true → 1 ≤ k) := fun k h => by cases h
  by_cases hbig : 20000 < s.size
  · have hd : decide ((20000 : Int) < (s.size : Int)) = true := by simp; omega
    gi_wp2_with fail
    refine ⟨.tuple #[.slice none 0 0, .int .i64 2, .int .i64 (-1)], by simp [results, Tryz.results193, go_sem], ?_, none, 0, 0, 2, -1, rfl, by omega, fun hn => ?_, fun h => by cases h⟩
    · exact (((Below.refl _ _).alloc (Nat.le_refl _) _).alloc (by simp) _).alloc (by simp; omega) _
    · have := ((nameB_iff s).1 hn).2.1; omega
  · have hd : decide ((20000 : Int) < (s.size : Int)) = false := by simp; omega
    obtain ⟨w1, hw1⟩ : ∃ w1, w1 = (((w.alloc (.cells #[.slice none 0 0] 225)).alloc (.cells #[.int .i64 0] 35)).alloc (.cells #[.int .i64 0] 3)).alloc (.cells #[.slice none 0 0] 225) := ⟨_, rfl⟩
    have hb1 : Below w.heap.size w w1 := by rw [hw1]; exact ((((Below.refl _ _).alloc (Nat.le_refl _) _).alloc (by simp) _).alloc (by simp; omega) _).alloc (by simp; omega) _
    have hz1 : w1.heap.size = w.heap.size + 4 := by rw [hw1]; simp
    have hn : ∀ (u : World) (o : Obj) (k : Nat), u.heap.size = k → (u.alloc o).heap[k]? = some o := fun u o k h => by rw [← h]; exact World.alloc_heap_new u o
    have r0 : w1.heap[w.heap.size]? = some (.cells #[.slice none 0 0] 225 (0, 0)) := by rw [hw1]; exact blk_alloc (blk_alloc (blk_alloc (hn _ _ _ rfl) _) _) _
    have r1 : w1.heap[w.heap.size + 1]? = some (.cells #[.int .i64 0] 35 (0, 0)) := by rw [hw1]; exact blk_alloc (blk_alloc (hn _ _ _ (by simp)) _) _
    have r2 : w1.heap[w.heap.size + 1 + 1]? = some (.cells #[.int .i64 0] 3 (0, 0)) := by rw [hw1]; exact blk_alloc (hn _ _ _ (by simp)) _
    have r3 : w1.heap[w.heap.size + 1 + 1 + 1]? = some (.cells #[.slice none 0 0] 225 (0, 0)) := by rw [hw1]; exact hn _ _ _ (by simp)
    have htc := tokens_calls s w1
    have HTC := Lib.hid htc; have R0 := Lib.hid r0; have R1 := Lib.hid r1; have R2 := Lib.hid r2; have R3 := Lib.hid r3; have HB1 := Lib.hid hb1; have HZ1 := Lib.hid hz1
    clear htc r0 r1 r2 r3 hb1 hz1
    subst hw1
    gi_wp2_with ((try refine ⟨trivial, ?_⟩); gi_at_call 214; refine (CallsIn.mono (callsIn_wide.2 HTC.out) ?_); rintro e W ⟨b1, b2, b3, rfl, hT, hbW, g1, g2, g3, l1, l2, l3⟩)
    have hzW : W.heap.size = W.heap.size := rfl
    have hz0 : w.heap.size + 4 ≤ W.heap.size := by have := HZ1.out; have := hbW.size; omega
    rw [HZ1.out] at hbW g1 g2 g3
    have hj0 : ∀ W', Below W.heap.size W W' → W'.heap.size = W.heap.size + 2 → LexJ w w.heap.size W.heap.size [] W' := fun W' h hz => by
      have hk : ∀ k o, k < w.heap.size + 4 → _ → W'.heap[k]? = some o := fun k o h1 (h2 : _ = some o) => (h.block k (by omega)).trans ((hbW.block k h1).trans h2)
      refine ⟨?_, by omega, by omega, hk _ _ (by omega) R0.out, hk _ _ (by omega) R1.out, hk _ _ (by omega) R2.out, ⟨_, hk _ _ (by omega) R3.out, World.ownsRow_nil _ _ _ _⟩, by simp, by simp⟩
      exact HB1.out.trans ((hbW.mono (by omega)).trans (h.mono (by omega)))
    have HT := Lib.hid hT; have HJ0 := Lib.hid hj0
    clear hT hj0
    refine wp_range2 (α := Fe) (gf := 223) (lb := #[.pointer (some ⟨b1, 0, none⟩), .pointer (some ⟨b3, 0, none⟩)]) (encs := feEnc) rfl (fun _ _ => rfl) (fun x => rfl) (s.size + 1)
      (LexM w.heap.size W.heap.size) (by unfold LexM; omega) (by unfold LexM; omega) (LexJ w w.heap.size W.heap.size) (fun c pre W' => c = .ret ∧ LexX w w.heap.size W.heap.size pre W') (fun _ _ _ h k => h.kept k) (fun _ _ _ _ h k => ⟨h.1, h.2.kept k⟩) HJ0.out
      (LexAsg s w.heap.size W.heap.size b1 b3)
      ?_ ?_ ?_ (DoneL s) (PartL s) ?_ ?_ ?_
    · rintro x A W1 W2 ⟨g, hg, hc, hA⟩ hk
      have := (Array.getElem?_eq_some_iff.1 hc).1
      exact ⟨g, hg, (hk.block g this (by omega)).trans hc, hA⟩
    · intro x W1 K hz HK
      simp only [feEnc, List.zip_toArray, List.zip_cons_cons, List.zip_nil_right, List.foldl_toArray', List.foldl_toArray, List.foldl_cons, List.foldl_nil, List.size_toArray, List.length_cons, List.length_nil]
      gi_wp2_with fail
      refine HK _ _ ⟨W1.heap.size, hz, ?_, rfl⟩ ?_
      · exact World.alloc_heap_new W1 _
      · exact (Below.refl _ _).alloc (Nat.le_refl _) _
    · rintro pre x W0 W1 A hJ ⟨g, hg, hc, rfl⟩ hk hz hl
      have hJ1 := hJ.kept hk
      obtain ⟨v, hv, ho⟩ := hJ1.own
      obtain ⟨vA, vc, rfl⟩ := own_shape ho
      have hlt := hJ1.lt
      have c0 := cell_one hJ1.r0
      have c1 := cell_one hJ1.r1
      have c2 : W1.cell? ⟨w.heap.size + 1 + 1, 0, none⟩ = some (.int .i64 0) := cell_one hJ1.r2
      have c3 : W1.cell? ⟨w.heap.size + 1 + 1 + 1, 0, none⟩ = some (.slice vA pre.length vc) := cell_one hv
      have f0 := frozen_one hJ1.r0
      have f1 := frozen_one hJ1.r1
      have f2 : W1.frozen? ⟨w.heap.size + 1 + 1, 0, none⟩ = false := frozen_one hJ1.r2
      have f3 : W1.frozen? ⟨w.heap.size + 1 + 1 + 1, 0, none⟩ = false := frozen_one hv
      have g0 : W1.cell? ⟨g, 0, none⟩ = some (.int .i64 x.1.kind) := by simp [World.cell?, hc, lexCells]
      have g1' : W1.cell? ⟨g, 1, none⟩ = some (.string x.1.text) := by simp [World.cell?, hc, lexCells]
      have g2' : W1.cell? ⟨g, 2, none⟩ = some (.int .i64 x.1.n) := by simp [World.cell?, hc, lexCells]
      have g3' : W1.cell? ⟨g, 3, none⟩ = some (.int .i64 x.1.place) := by simp [World.cell?, hc, lexCells]
      have g4 : W1.cell? ⟨g, 4, none⟩ = some (.int .i64 x.1.err) := by simp [World.cell?, hc, lexCells]
      have HJ := Lib.hid hJ1; have HV := Lib.hid hv; have HO := Lib.hid ho; have HC := Lib.hid hc; have HK := Lib.hid hk
      have HJ0' := Lib.hid hJ
      clear hJ hJ1 hv ho hc hk
      have hm : Tryz.prog.follows .mixedOrders = true := rfl
      simp only [lexTm]
      by_cases hx : x.1.err = 0
      · have d1 : decide (x.1.err = 0) = true := by simpa using hx
        have d1' : (x.1.err == 0) = true := by simpa using hx
        by_cases hfull : pre.length = 5000
        · have d2 : decide ((pre.length : Int) = 5000) = true := by simp; omega
          have d2' : ((pre.length : Int) == 5000) = true := by simp; omega
          gi_wp2_with fail
          refine Code.wpIn_mono (Q := fun e _ W' => e = .normal ∧ W' = ((W1.drew.setCell ⟨w.heap.size, 0, none⟩ (.slice none 0 0)).setCell ⟨w.heap.size + 1, 0, none⟩ (.int .i64 2)).setCell ⟨w.heap.size + 1 + 1, 0, none⟩ (.int .i64 x.1.place)) ?_ (by gi_region; all_goals exact ⟨rfl, rfl⟩)
          rintro e a W' ⟨rfl, rfl⟩
          gi_wp2_with fail
          have hX := lex_x HJ.out (2) x.1.place (by decide) (pre ++ [x]) (.inr (by simp; omega))
          exact ⟨⟨hX.1 _ (by omega), hX.1 _ (by omega)⟩, rfl, hX.2⟩
        · have d2 : decide ((pre.length : Int) = 5000) = false := by simp; omega
          have d2' : ((pre.length : Int) == 5000) = false := by simp; omega
          have hlp := HJ.out.len
          have hsz1 := HJ.out.size
          obtain ⟨i0, hi, hz0, hz1, hz2⟩ := info_parts (P := Tryz.prog) (e := 229) (z := .agg #[.int .i64 0, .string ⟨#[]⟩, .int .i64 0, .int .i64 0]) (size := 4) (bytes := 40) rfl
          gi_wp2_with (first
            | (gi_at_builtin; refine wpListIn_append_own_at _ rfl _ _ 225 rfl (W.heap.size + 2) 229 i0 (.agg #[.int .i64 0, .string ⟨#[]⟩, .int .i64 0, .int .i64 0]) 4 40 rfl hi hz0 hz1 hz2 rfl (by decide) _ _ _ rfl (own_of HO.out (fun k h1 h2 => Below.heap_alloc _ _ _ h2)) ⟨W1.heap.size, 0, none⟩ 1 1 [.int .i64 x.1.kind, .string x.1.text, .int .i64 x.1.n, .int .i64 x.1.place] rfl rfl ?c1 ?c2 ?c3 ?c4 ?c5 ?_)
            | gi_in)
          case c2 => simp [Value.oneCell']
          case c3 => unfold maxLen; omega
          case c4 => omega
          case c5 => omega
          intro v' w2 hown' hgrow hnil hat
          obtain ⟨vA', vc', rfl⟩ := own_shape hown'
          obtain ⟨hw3, hkeep, hj⟩ := lex_push HJ0'.out HK.out HJ.out HV.out hx hfull hown' hgrow
          have c3' : w2.cell? ⟨w.heap.size + 1 + 1 + 1, 0, none⟩ = some (.slice vA pre.length vc) := cell_one hw3
          have f3' : w2.frozen? ⟨w.heap.size + 1 + 1 + 1, 0, none⟩ = false := frozen_one hw3
          have HKP := Lib.hid hkeep; have HJP := Lib.hid hj
          clear hkeep hj hown' hgrow hnil hat hw3
          gi_wp2_with fail
          exact ⟨HKP.out, HJP.out⟩
      · have d1 : decide (x.1.err = 0) = false := by simpa using hx
        have d1' : (x.1.err == 0) = false := by simpa using hx
        gi_wp2_with fail
        refine Code.wpIn_mono (Q := fun e _ W' => e = .normal ∧ W' = ((W1.drew.setCell ⟨w.heap.size, 0, none⟩ (.slice none 0 0)).setCell ⟨w.heap.size + 1, 0, none⟩ (.int .i64 x.1.err)).setCell ⟨w.heap.size + 1 + 1, 0, none⟩ (.int .i64 x.1.place)) ?_ (by gi_region; all_goals exact ⟨rfl, rfl⟩)
        rintro e a W' ⟨rfl, rfl⟩
        gi_wp2_with fail
        have hX := lex_x HJ.out (x.1.err) x.1.place hx (pre ++ [x]) (.inl ⟨x, by simp, hx⟩)
        exact ⟨⟨hX.1 _ (by omega), hX.1 _ (by omega)⟩, rfl, hX.2⟩
    · intro R Rx hR hRx hY W0 hR0 hbw hz
      have hy' : ∀ m, _ := fun (m : Nat) pre x Wa Wb h1 h2 h3 => YieldAt.anyDepth m (hY pre x Wa Wb h1 h2 h3)
      refine CallsIn.anyDepth _ (tokens2_in s hs (W.heap.size + 1) b1 b2 b3 (LexM w.heap.size W.heap.size) ?_ ?_ ?_ R Rx hR hy' 2 W0 ?_ ?_ ?_ ?_ hR0)
      · unfold LexM; omega
      · unfold LexM; omega
      · unfold LexM; omega
      · exact HT.out.keep (hbw.block _ l1) (hbw.block _ l2) (hbw.block _ l3)
      · have := hbw.size; omega
      · have := hbw.size; omega
      · have := hbw.size; omega
    · intro xs W1 hS hJ hD
      obtain ⟨v, hv, ho⟩ := hJ.own
      obtain ⟨vA, vc, rfl⟩ := own_shape ho
      have c0 := cell_one hJ.r0
      have c1 := cell_one hJ.r1
      have c2 : W1.cell? ⟨w.heap.size + 1 + 1, 0, none⟩ = some (.int .i64 0) := cell_one hJ.r2
      have c3 : W1.cell? ⟨w.heap.size + 1 + 1 + 1, 0, none⟩ = some (.slice vA xs.length vc) := cell_one hv
      have f0 := frozen_one hJ.r0
      have f1 := frozen_one hJ.r1
      have f2 : W1.frozen? ⟨w.heap.size + 1 + 1, 0, none⟩ = false := frozen_one hJ.r2
      have HJ := Lib.hid hJ; have HV := Lib.hid hv; have HO := Lib.hid ho; have HD := Lib.hid hD
      clear hJ hv ho hD
      gi_wp2_with fail
      obtain ⟨Wf, hWf⟩ : ∃ Wf, Wf = ((W1.setCell ⟨w.heap.size, 0, none⟩ (.slice vA xs.length vc)).setCell ⟨w.heap.size + 1, 0, none⟩ (.int .i64 0)).setCell ⟨w.heap.size + 1 + 1, 0, none⟩ (.int .i64 0) := ⟨_, rfl⟩
      rw [← hWf]
      have hJ := HJ.out
      have hlt := hJ.lt
      have k0 : Wf.heap[w.heap.size]? = some (.cells #[.slice vA xs.length vc] 225 (0, 0)) := by rw [hWf, heap_other (by omega), heap_other (by omega)]; exact heap_one hJ.r0
      have k1 : Wf.heap[w.heap.size + 1]? = some (.cells #[.int .i64 0] 35 (0, 0)) := by rw [hWf, heap_other (by omega)]; exact heap_one ((heap_other (by omega)).trans hJ.r1)
      have k2 : Wf.heap[w.heap.size + 1 + 1]? = some (.cells #[.int .i64 0] 3 (0, 0)) := by rw [hWf]; exact heap_one ((heap_other (by omega)).trans ((heap_other (by omega)).trans hJ.r2))
      have kk : ∀ k, w.heap.size + 3 < k → Wf.heap[k]? = W1.heap[k]? := fun k hk => by rw [hWf]; exact (heap_other (by omega)).trans ((heap_other (by omega)).trans (heap_other (by omega)))
      have kb : Below w.heap.size w Wf := by rw [hWf]; exact ((hJ.below.setCell (by simp) _).setCell (by simp) _).setCell (by simp; omega) _
      refine ⟨by simp, .inl ⟨_, _, rfl, run_takeDeferred ((kk _ (by omega)).trans HD.out), ?_⟩⟩
      have p0 := (put_cell (D := W.heap.size) (o := .deferred none) (a := ⟨w.heap.size, 0, none⟩) (by simp; omega)).trans (cell_one k0)
      have p1 := (put_cell (D := W.heap.size) (o := .deferred none) (a := ⟨w.heap.size + 1, 0, none⟩) (by simp; omega)).trans (cell_one k1)
      have p2 := (put_cell (D := W.heap.size) (o := .deferred none) (a := ⟨w.heap.size + 1 + 1, 0, none⟩) (by simp; omega)).trans (cell_one k2)
      refine ⟨.tuple #[.slice vA xs.length vc, .int .i64 0, .int .i64 0], by simp [results, Tryz.results193, go_sem, p0, p1, p2], lex_close rfl hlt kb (by have := hJ.len; omega) kb.size (fun hn => ⟨rfl, ?_⟩) (fun _ h1 => ?_)⟩
      · have := congrArg List.length (hS hn); simpa using this
      · obtain ⟨x, hx⟩ := List.length_eq_one_iff.1 h1
        obtain ⟨g, c, hv, hg, q1, q2⟩ := tokCells_one hx HO.out
        have hva : vA = some ⟨g, 0, none⟩ := by injection hv
        have hgk := kk g (by omega)
        refine ⟨g, x.1.kind, x.1.text, hva, by omega, (World.cell?_of_block (a := ⟨g, 0, none⟩) hgk).trans q1, (World.cell?_of_block (a := ⟨g, 1, none⟩) hgk).trans q2, fun e1 e2 => ?_, fun hn => ?_⟩
        · rw [← e2]; exact x.2 (hJ.ok x (by rw [hx]; simp)) e1
        · have := hS hn
          rw [hx] at this
          simp only [List.map_cons, List.map_nil, List.cons.injEq, and_true] at this
          rw [this]; exact ⟨rfl, rfl⟩
    · rintro c pre W1 hS ⟨rfl, hX⟩ hD
      obtain ⟨err, pos, he, x0, x1, x2⟩ := hX.res
      have hlt := hX.lt
      gi_wp2_with fail
      refine ⟨by simp, .inl ⟨_, _, rfl, run_takeDeferred hD, ?_⟩⟩
      have p0 := (put_cell (D := W.heap.size) (o := .deferred none) (a := ⟨w.heap.size, 0, none⟩) (by simp; omega)).trans (cell_one x0)
      have p1 := (put_cell (D := W.heap.size) (o := .deferred none) (a := ⟨w.heap.size + 1, 0, none⟩) (by simp; omega)).trans (cell_one x1)
      have p2 : (W1.putObj W.heap.size (.deferred none)).cell? ⟨w.heap.size + 1 + 1, 0, none⟩ = some (.int .i64 pos) := (put_cell (D := W.heap.size) (o := .deferred none) (a := ⟨w.heap.size + 1 + 1, 0, none⟩) (by simp; omega)).trans (cell_one x2)
      refine ⟨.tuple #[.slice none 0 0, .int .i64 err, .int .i64 pos], by simp [results, Tryz.results193, go_sem, p0, p1, p2], lex_close rfl hlt hX.below (by omega) hX.below.size (fun hn => ?_) (fun h _ => absurd h he)⟩
      exfalso
      have hp := hS hn
      have hl : pre.length ≤ 1 := by have := hp.length_le; simpa using this
      rcases hX.why with ⟨x, hx, hex⟩ | h5
      · have hm : x.1 ∈ [tokS s] := hp.subset (List.mem_map_of_mem hx)
        simp only [List.mem_singleton] at hm
        exact hex (by rw [hm]; rfl)
      · omega
end Go.Proofs.YtaigepddkgpplaaGreatDoor.M

