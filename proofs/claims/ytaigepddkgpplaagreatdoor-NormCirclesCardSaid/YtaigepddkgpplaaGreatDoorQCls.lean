/- lexer.classes: the class of each byte. -/
import Derived.Test.YtaigepddkgpplaaGreatDoorQFIdx
import Derived.Test.YtaigepddkgpplaaGreatDoorQShelf
import Derived.Test.YtaigepddkgpplaaGreatDoorQOps
namespace Go.Proofs.YtaigepddkgpplaaGreatDoor.M
open Go Go.RowKit Go.Maps Go.WideMaps Go.Proofs.YtaigepddkgpplaaGreatDoorW.PrintWords
set_option linter.unusedVariables false
set_option linter.unusedSimpArgs false

def blankB (k : Nat) : Bool := decide (0 ≤ Lib.indexByte [32, 9, 10] k.toUInt8)
def symB (k : Nat) : Bool := decide (0 ≤ Lib.indexByte [59, 44, 46, 58, 40, 41, 91, 93, 123, 125, 61] k.toUInt8)
def cls0 (k : Nat) : Int :=
  if (97 ≤ k ∧ k ≤ 122) ∨ (65 ≤ k ∧ k ≤ 90) then 3 else if 48 ≤ k ∧ k ≤ 57 then 4 else if blankB k = true then 1 else if symB k = true then 6 else if k = 60 ∨ k = 62 then 7 else 0
/-- the classes of the first n bytes, the others 0 -/
def clsUpTo (n : Nat) : List Value := (List.range 256).map fun i => .int .u8 (if i < n then cls0 i else 0)
theorem clsUpTo_at {n k : Nat} (hk : k < 256) (hn : n ≤ k) : (clsUpTo n).toArray[k]? = some (.int .u8 0) := by
  simp [clsUpTo, hk]; omega
theorem clsUpTo_set {k : Nat} (hk : k < 256) : (clsUpTo k).toArray.setIfInBounds k (.int .u8 (cls0 k)) = (clsUpTo (k + 1)).toArray := by
  apply Array.ext
  · simp [clsUpTo]
  · intro i h1 h2
    have hi : i < 256 := by simpa [clsUpTo] using h2
    by_cases e : k = i
    · subst e; simp [clsUpTo]
    · simp [clsUpTo, Array.getElem_setIfInBounds, e]
      by_cases h : i < k
      · simp [h, show i < k + 1 by omega]
      · simp [h, show ¬ i < k + 1 by omega]
theorem clsUpTo_zero {k : Nat} (hk : k < 256) (h : cls0 k = 0) : (clsUpTo k).toArray = (clsUpTo (k + 1)).toArray := by
  rw [← clsUpTo_set hk, h]
  apply Array.ext
  · simp
  · intro i h1 h2
    by_cases e : k = i
    · subst e; simp [clsUpTo]
    · simp [Array.getElem_setIfInBounds, e]
theorem row_setCell {w : World} {b k : Nat} {cs : Array Value} {t : TypeId} (h : w.heap[b]? = some (.cells cs t (0, 0))) (v : Value) : (w.setCell ⟨b, k, none⟩ v).heap[b]? = some (.cells (cs.setIfInBounds k v) t (0, 0)) := by
  simp [World.setCell, Array.getElem?_modify, h]
theorem row_cell {w : World} {b k : Nat} {cs : Array Value} {t : TypeId} {fr : Nat × Nat} (h : w.heap[b]? = some (.cells cs t fr)) : w.cell? ⟨b, k, none⟩ = cs[k]? := by simp [World.cell?, h]
theorem row_free {w : World} {b k : Nat} {cs : Array Value} {t : TypeId} (h : w.heap[b]? = some (.cells cs t (0, 0))) : w.frozen? ⟨b, k, none⟩ = false := by simp [World.frozen?, h]
/-- the classes -/
def clsArr : Array Value := (((clsUpTo 256).toArray.setIfInBounds 35 (.int .u8 2)).setIfInBounds 95 (.int .u8 5)).setIfInBounds 33 (.int .u8 8)
theorem zc255 : Tryz.zeroCells255 = (clsUpTo 0).toArray := by kernel_rfl
theorem wrapu8 {k : Nat} (h : k < 256) : IntKind.u8.wrap (k : Int) = (k : Int) := by
  have h1 : (k : Int) % 256 = k := by omega
  simp [IntKind.wrap, IntKind.bits, h1, IntKind.signed]
theorem cls_letter {k : Nat} (h : (97 ≤ k ∧ k ≤ 122) ∨ (65 ≤ k ∧ k ≤ 90)) : (3 : Int) = cls0 k := by simp [cls0, h]
theorem cls_digit {k : Nat} (h0 : ¬ ((97 ≤ k ∧ k ≤ 122) ∨ (65 ≤ k ∧ k ≤ 90))) (h : 48 ≤ k ∧ k ≤ 57) : (4 : Int) = cls0 k := by simp [cls0, h0, h]
theorem cls_blank {k : Nat} (h0 : ¬ ((97 ≤ k ∧ k ≤ 122) ∨ (65 ≤ k ∧ k ≤ 90))) (h1 : ¬ (48 ≤ k ∧ k ≤ 57)) (h : 0 ≤ Lib.indexByte [32, 9, 10] (UInt8.ofNat k)) : (1 : Int) = cls0 k := by
  have : blankB k = true := decide_eq_true h
  simp [cls0, h0, h1, this]
theorem cls_sym {k : Nat} (h0 : ¬ ((97 ≤ k ∧ k ≤ 122) ∨ (65 ≤ k ∧ k ≤ 90))) (h1 : ¬ (48 ≤ k ∧ k ≤ 57)) (h2 : Lib.indexByte [32, 9, 10] (UInt8.ofNat k) < 0) (h : 0 ≤ Lib.indexByte [59, 44, 46, 58, 40, 41, 91, 93, 123, 125, 61] (UInt8.ofNat k)) : (6 : Int) = cls0 k := by
  have e2 : blankB k = false := decide_eq_false (by show ¬ 0 ≤ Lib.indexByte _ (UInt8.ofNat k); omega)
  have e3 : symB k = true := decide_eq_true h
  simp [cls0, h0, h1, e2, e3]
theorem cls_pre {k : Nat} (h0 : ¬ ((97 ≤ k ∧ k ≤ 122) ∨ (65 ≤ k ∧ k ≤ 90))) (h1 : ¬ (48 ≤ k ∧ k ≤ 57)) (h2 : Lib.indexByte [32, 9, 10] (UInt8.ofNat k) < 0) (h3 : Lib.indexByte [59, 44, 46, 58, 40, 41, 91, 93, 123, 125, 61] (UInt8.ofNat k) < 0) (h : k = 60 ∨ k = 62) : (7 : Int) = cls0 k := by
  have e2 : blankB k = false := decide_eq_false (by show ¬ 0 ≤ Lib.indexByte _ (UInt8.ofNat k); omega)
  have e3 : symB k = false := decide_eq_false (by show ¬ 0 ≤ Lib.indexByte _ (UInt8.ofNat k); omega)
  simp [cls0, h0, h1, e2, e3, h]
theorem cls_none {k : Nat} (h0 : ¬ ((97 ≤ k ∧ k ≤ 122) ∨ (65 ≤ k ∧ k ≤ 90))) (h1 : ¬ (48 ≤ k ∧ k ≤ 57)) (h2 : Lib.indexByte [32, 9, 10] (UInt8.ofNat k) < 0) (h3 : Lib.indexByte [59, 44, 46, 58, 40, 41, 91, 93, 123, 125, 61] (UInt8.ofNat k) < 0) (h4 : ((k : Int) == 60) = false) (h5 : ((k : Int) == 62) = false) : cls0 k = 0 := by
  have e2 : blankB k = false := decide_eq_false (by show ¬ 0 ≤ Lib.indexByte _ (UInt8.ofNat k); omega)
  have e3 : symB k = false := decide_eq_false (by show ¬ 0 ≤ Lib.indexByte _ (UInt8.ofNat k); omega)
  have a : ¬ (k = 60 ∨ k = 62) := by simp at h4 h5; omega
  simp [cls0, h0, h1, e2, e3, a]

set_option maxRecDepth 100000 in
set_option maxHeartbeats 4000000 in
theorem classes_calls (w : World) : Calls Tryz.prog 221 #[] w fun e w' => e = .returned (.agg clsArr) ∧ Below w.heap.size w w' := by
  go_enter Tryz.func221, Tryz.ntmps221
  go_wp2_with fail
  go_loopw [4] (fun i W => ∃ k : Nat, k ≤ 256 ∧ i = .int .i64 k ∧ W.heap[w.heap.size + 1]? = some (.cells (clsUpTo k).toArray 255 (0, 0)) ∧ W.heap[w.heap.size]? = some (.cells Tryz.zeroCells255 255 (0, 0)) ∧ Below w.heap.size w W) (fun i _ => 256 - (intOf i).toNat)
  case atStart =>
    refine ⟨0, Nat.zero_le _, rfl, ?_, ?_, ((Below.refl _ _).alloc (Nat.le_refl _) _).alloc (by simp) _⟩
    · rw [← zc255]; have := World.alloc_heap_new (w.alloc (.cells Tryz.zeroCells255 255)) (.cells Tryz.zeroCells255 255); rwa [World.size_alloc] at this
    · exact (Below.heap_alloc _ _ _ (by simp)).trans (World.alloc_heap_new w _)
  case round =>
    obtain ⟨k, hk, rfl, hrow, hres, hbel⟩ := hrel
    have HROW := Lib.hid hrow; have HRES := Lib.hid hres
    by_cases hlt : k < 256
    · have hw8 := wrapu8 hlt
      have hcell := (row_cell (k := k) hrow).trans (clsUpTo_at hlt (Nat.le_refl _))
      have hfree := row_free (k := k) hrow
      have hstep : ∀ v : Int, v = cls0 k → ((wr.setCell ⟨w.heap.size + 1, k, none⟩ (.int .u8 v)).heap[w.heap.size + 1]? = some (.cells (clsUpTo (k + 1)).toArray 255 (0, 0)) ∧ (wr.setCell ⟨w.heap.size + 1, k, none⟩ (.int .u8 v)).heap[w.heap.size]? = some (.cells Tryz.zeroCells255 255 (0, 0)) ∧ Below w.heap.size w (wr.setCell ⟨w.heap.size + 1, k, none⟩ (.int .u8 v))) := fun v hv => by
        subst hv
        exact ⟨by rw [row_setCell HROW.out, clsUpTo_set hlt], (Below.heap_setCell _ _ _ _ (by simp)).trans HRES.out, hbel.setCell (by simp) _⟩
      have hsame : cls0 k = 0 → wr.heap[w.heap.size + 1]? = some (.cells (clsUpTo (k + 1)).toArray 255 (0, 0)) := fun h => by rw [← clsUpTo_zero hlt h]; exact HROW.out
      have HST := Lib.hid hstep; have HSA := Lib.hid hsame
      clear hrow hres hstep hsame
      clear hw8
      by_cases h67 : k = 60 ∨ k = 62
      · have hi1 : Lib.indexByte [32, 9, 10] (k : Int).toNat.toUInt8 < 0 := by rcases h67 with rfl | rfl <;> decide
        have hi2 : Lib.indexByte [59, 44, 46, 58, 40, 41, 91, 93, 123, 125, 61] (k : Int).toNat.toUInt8 < 0 := by rcases h67 with rfl | rfl <;> decide
        have hc7 : (7 : Int) = cls0 k := cls_pre (by omega) (by omega) hi1 hi2 h67
        have hw8 := wrapu8 hlt
        have HC7 := Lib.hid hc7
        have hd1 : decide (0 ≤ Lib.indexByte [32, 9, 10] (UInt8.ofNat k)) = false := decide_eq_false (Int.not_le.2 hi1)
        have hd2 : decide (0 ≤ Lib.indexByte [59, 44, 46, 58, 40, 41, 91, 93, 123, 125, 61] (UInt8.ofNat k)) = false := decide_eq_false (Int.not_le.2 hi2)
        clear hc7 hi1 hi2
        have k1 : decide (97 ≤ (k : Int)) = false := by simp; omega
        have k2 : decide (65 ≤ (k : Int)) = false := by simp; omega
        have k3 : decide (48 ≤ (k : Int)) = true := by simp; omega
        have k4 : decide ((k : Int) ≤ 57) = false := by simp; omega
        cases b60 : ((k : Int) == 60) with
        | true =>
          clear h67
          go_wp2_with (go_at_call 226; refine (Tryz.strings_IndexByte _ _ _).mono ?_; rintro e W ⟨rfl, rfl⟩)
          go_roundw
          case rel => exact ⟨k + 1, by omega, by go_num, HST.out 7 HC7.out⟩
          case measure => simp [intOf]; omega
        | false =>
          have b62 : ((k : Int) == 62) = true := by simp at b60 ⊢; omega
          clear h67
          go_wp2_with (go_at_call 226; refine (Tryz.strings_IndexByte _ _ _).mono ?_; rintro e W ⟨rfl, rfl⟩)
          go_roundw
          case rel => exact ⟨k + 1, by omega, by go_num, HST.out 7 HC7.out⟩
          case measure => simp [intOf]; omega
      · have b60 : ((k : Int) == 60) = false := by simp; omega
        have b62 : ((k : Int) == 62) = false := by simp; omega
        have hw8 := wrapu8 hlt
        clear h67
        go_wp2_with (go_at_call 226; refine (Tryz.strings_IndexByte _ _ _).mono ?_; rintro e W ⟨rfl, rfl⟩)
        all_goals
          go_roundw
          case measure => simp [intOf]; omega
          case rel =>
            refine ⟨k + 1, by omega, by go_num, ?_⟩
            first
            | (with_reducible (refine HST.out _ ?_)
               first
               | exact cls_letter (by omega)
               | exact cls_digit (by omega) (by omega)
               | exact cls_blank (by omega) (by omega) (by assumption)
               | exact cls_sym (by omega) (by omega) (by assumption) (by assumption))
            | exact ⟨HSA.out (cls_none (by omega) (by omega) (by assumption) (by assumption) b60 b62), HRES.out, hbel⟩
    · obtain rfl : k = 256 := by omega
      clear hrow hres
      obtain ⟨C, hC⟩ : ∃ C, C = (clsUpTo 256).toArray := ⟨_, rfl⟩
      have hz : C.size = 256 := by rw [hC]; simp [clsUpTo]
      have hone : ∀ v ∈ C.toList, v.oneCell' = true := by rw [hC]; simp [clsUpTo]; intro a _; rfl
      have hcls : clsArr = ((C.setIfInBounds 35 (.int .u8 2)).setIfInBounds 95 (.int .u8 5)).setIfInBounds 33 (.int .u8 8) := by rw [hC]; rfl
      have hrow := HROW.out
      rw [← hC] at hrow
      have c1 : wr.cell? ⟨w.heap.size + 1, 35, none⟩ = some C[35] := (row_cell hrow).trans (by simp [hz])
      have c2 : (wr.setCell ⟨w.heap.size + 1, 35, none⟩ (.int .u8 2)).cell? ⟨w.heap.size + 1, 95, none⟩ = some C[95] := (row_cell (row_setCell hrow _)).trans (by simp [hz, Array.getElem_setIfInBounds])
      have c3 : ((wr.setCell ⟨w.heap.size + 1, 35, none⟩ (.int .u8 2)).setCell ⟨w.heap.size + 1, 95, none⟩ (.int .u8 5)).cell? ⟨w.heap.size + 1, 33, none⟩ = some C[33] := (row_cell (row_setCell (row_setCell hrow _) _)).trans (by simp [hz, Array.getElem_setIfInBounds])
      have f1 := row_free (k := 35) hrow
      have f2 := row_free (k := 95) (row_setCell (k := 35) hrow (.int .u8 2))
      have f3 := row_free (k := 33) (row_setCell (k := 95) (row_setCell (k := 35) hrow (.int .u8 2)) (.int .u8 5))
      have hend := row_setCell (k := 33) (row_setCell (k := 95) (row_setCell (k := 35) hrow (.int .u8 2)) (.int .u8 5)) (.int .u8 8)
      rw [← hcls] at hend
      have d2 : wr.cell? ⟨w.heap.size + 1, 95, none⟩ = some C[95] := (row_cell hrow).trans (by simp [hz])
      have d3 : wr.cell? ⟨w.heap.size + 1, 33, none⟩ = some C[33] := (row_cell hrow).trans (by simp [hz])
      have e2 := row_free (k := 95) hrow
      have e3 := row_free (k := 33) hrow
      have hres : (((wr.setCell ⟨w.heap.size + 1, 35, none⟩ (.int .u8 2)).setCell ⟨w.heap.size + 1, 95, none⟩ (.int .u8 5)).setCell ⟨w.heap.size + 1, 33, none⟩ (.int .u8 8)).heap[w.heap.size]? = some (.cells Tryz.zeroCells255 255 (0, 0)) :=
        (Below.heap_setCell _ _ _ _ (by simp)).trans ((Below.heap_setCell _ _ _ _ (by simp)).trans ((Below.heap_setCell _ _ _ _ (by simp)).trans HRES.out))
      have hbe : Below w.heap.size w (((wr.setCell ⟨w.heap.size + 1, 35, none⟩ (.int .u8 2)).setCell ⟨w.heap.size + 1, 95, none⟩ (.int .u8 5)).setCell ⟨w.heap.size + 1, 33, none⟩ (.int .u8 8)) := ((hbel.setCell (by simp) _).setCell (by simp) _).setCell (by simp) _
      have HEND := Lib.hid hend; have HRES2 := Lib.hid hres; have HBE := Lib.hid hbe; have HONE := Lib.hid hone; have HCLS := Lib.hid hcls; have HZ := Lib.hid hz
      have hszC : clsArr.toList.length = 256 := by simp [hcls, hz]
      have HSZ := Lib.hid hszC
      have hone2 : ∀ v ∈ clsArr.toList, v.oneCell' = true := fun v hv => by
        have : v ∈ clsArr := by simpa using hv
        rw [HCLS.out] at this
        rcases Array.mem_or_eq_of_mem_setIfInBounds this with h | rfl
        · rcases Array.mem_or_eq_of_mem_setIfInBounds h with h | rfl
          · rcases Array.mem_or_eq_of_mem_setIfInBounds h with h | rfl
            · exact HONE.out v (by simpa using h)
            · rfl
          · rfl
        · rfl
      have HO2 := Lib.hid hone2
      clear hend hres hbe hone hcls hC hszC hone2 hrow
      go_wp2_with (first
        | ((with_reducible refine gate_dst (N := 56) rfl ?_); refine wpList_load_row rfl 255 _ rfl (w.heap.size + 1) rfl 255 clsArr (0, 0) _ HEND.out Tryz.underlying255 rfl (by rw [← Array.length_toList, HSZ.out]; kernel_rfl) ?_)
        | ((with_reducible refine gate_store (t := 255) (p := 0) rfl ?_); refine wp_store_row rfl 255 _ _ rfl rfl w.heap.size 255 Tryz.zeroCells255 HRES2.out rfl clsArr.toList rfl (by rw [HSZ.out]; kernel_rfl) (by rw [HSZ.out]; kernel_rfl) HO2.out ?_; intro w9 h9 hg9 hs9))
      refine bodyPost_ret (v := .agg clsArr) (results_cell_row rfl _ _ w.heap.size 255 clsArr (0, 0) _ rfl h9 Tryz.underlying255 rfl (by rw [← Array.length_toList, HSZ.out]; kernel_rfl)) rfl ?_
      exact ⟨rfl, HBE.out.grown hg9 HBE.out.size (fun k hk => by cases hk; exact Nat.le_refl _)⟩
end Go.Proofs.YtaigepddkgpplaaGreatDoor.M

