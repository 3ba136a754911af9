/- lexer.tokens: the closures that it makes; the class of the byte at a place. -/
import Derived.Test.YtaigepddkgpplaaGreatDoorQCls
import Derived.Laws.EntriesVeiled
import Derived.OwnWalkIn
import Derived.TacticsInMore
import Derived.LoopIn
namespace Go.Proofs.YtaigepddkgpplaaGreatDoor.M
open Go Go.RowKit Go.Maps Go.WideMaps Go.Proofs.YtaigepddkgpplaaGreatDoorW.PrintWords
set_option linter.unusedVariables false
set_option linter.unusedSimpArgs false

def cls (k : Nat) : Int := if k = 33 then 8 else if k = 95 then 5 else if k = 35 then 2 else cls0 k
theorem clsArr_at {k : Nat} (h : k < 256) : clsArr[k]? = some (.int .u8 (cls k)) := by
  obtain ⟨C, hC⟩ : ∃ C, C = (clsUpTo 256).toArray := ⟨_, rfl⟩
  have hz : C.size = 256 := by rw [hC]; simp [clsUpTo]
  have hat : C[k]? = some (.int .u8 (cls0 k)) := by rw [hC]; simp [clsUpTo, h]
  have e : clsArr = ((C.setIfInBounds 35 (.int .u8 2)).setIfInBounds 95 (.int .u8 5)).setIfInBounds 33 (.int .u8 8) := by rw [hC]; rfl
  rw [e]
  unfold cls
  by_cases h1 : k = 33
  · subst h1; simp [Array.getElem?_setIfInBounds, hz]
  · by_cases h2 : k = 95
    · subst h2; simp [Array.getElem?_setIfInBounds, hz]
    · by_cases h3 : k = 35
      · subst h3; simp [Array.getElem?_setIfInBounds, hz]
      · simp [Array.getElem?_setIfInBounds, h1, h2, h3, Ne.symm h1, Ne.symm h2, Ne.symm h3, hat]
/-- the class of the byte at a place, 0 behind the end -/
def atC (s : ByteArray) (i : Nat) : Int := if h : i < s.size then cls s[i].toNat else 0

theorem at_calls (s : ByteArray) (i b1 b2 : Nat) (w : World) (hi : i ≤ 9223372036854775807) (h1 : w.cell? ⟨b1, 0, none⟩ = some (.string s)) (h2 : w.heap[b2]? = some (.cells clsArr 255 (0, 0))) :
    Calls Tryz.prog 222 #[.int .i64 i, .pointer (some ⟨b1, 0, none⟩), .pointer (some ⟨b2, 0, none⟩)] w fun e w' => e = .returned (.int .u8 (atC s i)) ∧ w' = w := by
  by_cases hlt : i < s.size
  · have hb : decide ((s.size : Int) ≤ (i : Int)) = false := by simp; omega
    have ha : atC s i = cls s[i].toNat := by simp [atC, hlt]
    have hc := (row_cell (k := s[i].toNat) h2).trans (clsArr_at s[i].toNat_lt)
    have hbd : s[i].toNat < 256 := s[i].toNat_lt
    rw [ha]
    clear h2 ha
    go_enter Tryz.func222, Tryz.ntmps222
    go_wp2
    go_ret
    exact ⟨rfl, rfl⟩
  · have hb : decide ((s.size : Int) ≤ (i : Int)) = true := by simp; omega
    have ha : atC s i = 0 := by simp [atC, hlt]
    rw [ha]
    clear h2 ha
    go_enter Tryz.func222, Tryz.ntmps222
    go_wp2
    go_ret
    exact ⟨rfl, rfl⟩

/-- the closures of lexer.tokens(s), and what they hold -/
structure TokBox (s : ByteArray) (w : World) (b1 b2 b3 : Nat) : Prop where
  text : w.cell? ⟨b1, 0, none⟩ = some (.string s)
  cls : w.heap[b2]? = some (.cells clsArr 255 (0, 0))
  at_ : w.cell? ⟨b3, 0, none⟩ = some (.func (.func 222) #[] #[.pointer (some ⟨b1, 0, none⟩), .pointer (some ⟨b2, 0, none⟩)])
theorem TokBox.keep {s : ByteArray} {w w' : World} {b1 b2 b3 : Nat} (h : TokBox s w b1 b2 b3) (k1 : w'.heap[b1]? = w.heap[b1]?) (k2 : w'.heap[b2]? = w.heap[b2]?) (k3 : w'.heap[b3]? = w.heap[b3]?) : TokBox s w' b1 b2 b3 :=
  ⟨(World.cell?_of_block (a := ⟨b1, 0, none⟩) k1).trans h.text, k2.trans h.cls, (World.cell?_of_block (a := ⟨b3, 0, none⟩) k3).trans h.at_⟩

set_option maxRecDepth 100000 in
theorem tokens_calls (s : ByteArray) (w : World) :
    Calls Tryz.prog 214 #[.string s] w fun e w' => ∃ b1 b2 b3, e = .returned (.func (.func 223) #[] #[.pointer (some ⟨b1, 0, none⟩), .pointer (some ⟨b3, 0, none⟩)]) ∧ TokBox s w' b1 b2 b3 ∧ Below w.heap.size w w' ∧ w.heap.size ≤ b1 ∧ w.heap.size ≤ b2 ∧ w.heap.size ≤ b3 ∧ b1 < w'.heap.size ∧ b2 < w'.heap.size ∧ b3 < w'.heap.size := by
  obtain ⟨w0, hw0⟩ : ∃ w0, w0 = w.alloc (.cells #[.string s] 9) := ⟨_, rfl⟩
  have hb : Below w.heap.size w w0 := by rw [hw0]; exact (Below.refl _ _).alloc (Nat.le_refl _) _
  have hc0 : w0.cell? ⟨w.heap.size, 0, none⟩ = some (.string s) := by rw [hw0]; simp
  have hz : w0.heap.size = w.heap.size + 1 := by rw [hw0]; simp
  have hcl : clsArr.toList.length = 256 := by
    have e : clsArr.size = 256 := by simp [clsArr, clsUpTo]
    simpa using e
  have hone : ∀ v ∈ clsArr.toList, v.oneCell' = true := fun v hv => by
    obtain ⟨k, hk, rfl⟩ := List.getElem_of_mem hv
    have h := clsArr_at (k := k) (by omega)
    have : clsArr.toList[k] = .int .u8 (cls k) := by
      have e : clsArr.toList[k]? = some clsArr.toList[k] := List.getElem?_eq_getElem hk
      rw [Array.getElem?_toList, h] at e
      exact (Option.some.inj e).symm
    rw [this]; rfl
  have HCL := Lib.hid hcl; have HONE := Lib.hid hone; have HC0 := Lib.hid hc0; have HZ := Lib.hid hz; have HB := Lib.hid hb
  clear hcl hone hc0 hz hb
  go_enter Tryz.func214, Tryz.ntmps214
  subst hw0
  go_wp2_with (first
    | (go_at_call 221; refine (classes_calls _).mono ?_; rintro e W ⟨rfl, hbW⟩)
    | ((with_reducible refine gate_store (t := 255) (p := 3) rfl ?_); refine wp_store_new rfl 255 _ _ rfl rfl _ rfl clsArr.toList rfl (by rw [HCL.out]; kernel_rfl) (by rw [HCL.out]; kernel_rfl) HONE.out ?_; intro W2 h2 hb2 hs2))
  have hzW : w.heap.size + 1 ≤ W.heap.size := by have := hbW.size; have := HZ.out; omega
  have hbw : Below w.heap.size w W2 := HB.out.trans ((hbW.mono (by simp)).trans (hb2.mono (by omega)))
  have c1 : W2.cell? ⟨w.heap.size, 0, none⟩ = some (.string s) := (hb2.cell (p := ⟨w.heap.size, 0, none⟩) (by simp; omega)).trans ((hbW.cell (p := ⟨w.heap.size, 0, none⟩) (by simp)).trans HC0.out)
  go_ret
  refine ⟨w.heap.size, W.heap.size, W.heap.size + 1, rfl, ⟨cell_alloc c1 _, (Below.heap_alloc _ _ _ (by omega)).trans h2, by rw [← hs2]; simp⟩, hbw.trans ((Below.refl _ _).alloc (by omega) _), by omega, by omega, by omega, by simp; omega, by simp; omega, by simp; omega⟩
end Go.Proofs.YtaigepddkgpplaaGreatDoor.M

