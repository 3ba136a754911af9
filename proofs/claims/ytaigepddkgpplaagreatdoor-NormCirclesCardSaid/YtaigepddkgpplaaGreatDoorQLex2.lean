/- What the lexer yields, as far as a name is told by it: plain facts on bytes. -/
import Derived.Test.YtaigepddkgpplaaGreatDoorQLex1
namespace Go.Proofs.YtaigepddkgpplaaGreatDoor.M
open Go Go.RowKit Go.Maps Go.WideMaps Go.Proofs.YtaigepddkgpplaaGreatDoorW.PrintWords
set_option linter.unusedVariables false
set_option linter.unusedSimpArgs false

theorem cls_cases (k : Nat) : cls k = 0 ∨ cls k = 1 ∨ cls k = 2 ∨ cls k = 3 ∨ cls k = 4 ∨ cls k = 5 ∨ cls k = 6 ∨ cls k = 7 ∨ cls k = 8 := by
  unfold cls cls0
  repeat' split
  all_goals simp
theorem atC_cases (s : ByteArray) (i : Nat) : atC s i = 0 ∨ atC s i = 1 ∨ atC s i = 2 ∨ atC s i = 3 ∨ atC s i = 4 ∨ atC s i = 5 ∨ atC s i = 6 ∨ atC s i = 7 ∨ atC s i = 8 := by
  unfold atC
  split
  · exact cls_cases _
  · exact .inl rfl
theorem cls_three {k : Nat} : cls k = 3 ↔ letterB (k : Int) = true := by
  unfold cls cls0 letterB
  simp only [Bool.or_eq_true, Bool.and_eq_true, decide_eq_true_eq]
  repeat' split
  all_goals (simp; omega)
/-- a byte that may go on in a name -/
def wordC (c : Int) : Bool := c == 3 || c == 4 || c == 5
theorem cls_word {k : Nat} (h : k < 256) : wordC (cls k) = (letterB (k : Int) || digitB (k : Int)) := by
  have key : ∀ k : Fin 256, wordC (cls k.1) = (letterB (k.1 : Int) || digitB (k.1 : Int)) := by decide +kernel
  exact key ⟨k, h⟩
theorem bt_nat (s : ByteArray) {i : Nat} (h : i < s.size) : bt s (i : Int) = (s[i].toNat : Int) := by simp [bt, h]
theorem atC_at (s : ByteArray) {i : Nat} (h : i < s.size) : atC s i = cls s[i].toNat := by simp [atC, h]
theorem word_atC (s : ByteArray) {i : Nat} (h : i < s.size) : wordC (atC s i) = (letterB (bt s i) || digitB (bt s i)) := by
  rw [atC_at s h, bt_nat s h, cls_word s[i].toNat_lt]
theorem letter_atC (s : ByteArray) {i : Nat} (h : i < s.size) : atC s i = 3 ↔ letterB (bt s i) = true := by
  rw [atC_at s h, bt_nat s h, cls_three]
theorem atC_end (s : ByteArray) {i : Nat} (h : s.size ≤ i) : atC s i = 0 := by simp [atC]; omega
theorem nameB_iff (s : ByteArray) : nameB s = true ↔ s.size ≠ 0 ∧ s.size ≤ 24 ∧ atC s 0 = 3 ∧ ∀ i, i < s.size → wordC (atC s i) = true := by
  unfold nameB
  simp only [Bool.and_eq_true, decide_eq_true_eq, List.all_eq_true, List.mem_range]
  constructor
  · rintro ⟨⟨h1, h2⟩, h3⟩
    refine ⟨h2, h3, ?_, fun i hi => ?_⟩
    · have := h1 0 (by omega)
      simp [okAt] at this
      exact (letter_atC s (by omega)).2 this
    · have := h1 i hi
      rw [word_atC s hi]
      unfold okAt at this
      revert this
      cases letterB (bt s i) <;> simp
  · rintro ⟨h2, h3, h0, h1⟩
    refine ⟨⟨fun i hi => ?_, h2⟩, h3⟩
    have := h1 i hi
    rw [word_atC s hi] at this
    unfold okAt
    by_cases e : i = 0
    · subst e
      have := (letter_atC s hi).1 h0
      simp at this ⊢
      exact this
    · revert this
      cases letterB (bt s i) <;> simp [e]
theorem extract_at (s : ByteArray) {a b : Nat} (hb : b ≤ s.size) (j : Nat) (h : a + j < b) : atC (s.extract a b) j = atC s (a + j) := by
  have hsz : (s.extract a b).size = b - a := by rw [ByteArray.size_extract]; omega
  have e : (s.extract a b)[j]'(by omega) = s[a + j]'(by omega) := by
    simp [ByteArray.getElem_extract]
  rw [atC_at _ (show j < (s.extract a b).size by omega), atC_at s (show a + j < s.size by omega), e]
theorem name_sub (s : ByteArray) {a b : Nat} (hab : a < b) (hb : b ≤ s.size) (hl : b - a ≤ 24) (h0 : atC s a = 3) (hw : ∀ i, a ≤ i → i < b → wordC (atC s i) = true) : nameB (s.extract a b) = true := by
  have hsz : (s.extract a b).size = b - a := by rw [ByteArray.size_extract]; omega
  rw [nameB_iff, hsz]
  refine ⟨by omega, hl, ?_, fun i hi => ?_⟩
  · rw [extract_at s hb 0 (by omega)]; simpa using h0
  · rw [extract_at s hb i (by omega)]; exact hw _ (by omega) (by omega)
theorem extract_all (s : ByteArray) : s.extract 0 s.size = s := by
  exact ByteArray.extract_zero_size

structure Fd where
  kind : Int
  text : ByteArray
  n : Int
  place : Int
  err : Int
def Fd.V (x : Fd) : Prop := x.err = 0 → x.kind = 1 → nameB x.text = true
abbrev Fe := { x : Fd // x.V }
def feEnc (x : Fe) : Array Value := #[.agg #[.int .i64 x.1.kind, .string x.1.text, .int .i64 x.1.n, .int .i64 x.1.place, .int .i64 x.1.err]]
def tokS (s : ByteArray) : Fd := ⟨1, s, 0, 0, 0⟩
def DoneL (s : ByteArray) (ys : List Fe) : Prop := nameB s = true → ys.map (·.1) = [tokS s]
def PartL (s : ByteArray) (ys : List Fe) : Prop := nameB s = true → ys.map (·.1) <+: [tokS s]
/-- before the token at i: what has been yielded -/
def LexAt (s : ByteArray) (i : Nat) (ys : List Fe) : Prop := ys.length ≤ i ∧ (nameB s = true → (i = 0 ∧ ys = []) ∨ (i = s.size ∧ ys.map (·.1) = [tokS s]))
theorem LexAt.zero (s : ByteArray) : LexAt s 0 [] := ⟨Nat.le_refl _, fun _ => .inl ⟨rfl, rfl⟩⟩
theorem LexAt.done {s : ByteArray} {ys : List Fe} {i : Nat} (h : LexAt s i ys) (hi : s.size ≤ i) : DoneL s ys := fun hn => by
  rcases h.2 hn with ⟨h0, _⟩ | ⟨_, h1⟩
  · have := ((nameB_iff s).1 hn).1; omega
  · exact h1
theorem LexAt.no {s : ByteArray} {ys : List Fe} {i : Nat} (h : LexAt s i ys) (hi : i < s.size) (h3 : atC s i ≠ 3) : nameB s = false := by
  cases hn : nameB s with
  | false => rfl
  | true =>
    rcases h.2 hn with ⟨rfl, _⟩ | ⟨h0, _⟩
    · exact absurd ((nameB_iff s).1 hn).2.2.1 h3
    · omega
theorem LexAt.skip {s : ByteArray} {ys : List Fe} {i j : Nat} (h : LexAt s i ys) (hij : i ≤ j) (hn : nameB s = false) : LexAt s j ys := ⟨Nat.le_trans h.1 hij, fun h' => by rw [hn] at h'; cases h'⟩
theorem LexAt.push {s : ByteArray} {ys : List Fe} {i j : Nat} (h : LexAt s i ys) (hij : i < j) (hn : nameB s = false) (x : Fe) : LexAt s j (ys ++ [x]) := ⟨by have := h.1; simp; omega, fun h' => by rw [hn] at h'; cases h'⟩
theorem PartL.of_no {s : ByteArray} (hn : nameB s = false) (ys : List Fe) : PartL s ys := fun h => by rw [hn] at h; cases h
theorem DoneL.of_no {s : ByteArray} (hn : nameB s = false) (ys : List Fe) : DoneL s ys := fun h => by rw [hn] at h; cases h
/-- the word from i to j -/
structure WordTo (s : ByteArray) (i j : Nat) : Prop where
  lt : i < j
  le : j ≤ s.size
  first : atC s i = 3
  all : ∀ m, i ≤ m → m < j → wordC (atC s m) = true
  stop : wordC (atC s j) = false
theorem WordTo.whole {s : ByteArray} {ys : List Fe} {i j : Nat} (h : LexAt s i ys) (hw : WordTo s i j) (hn : nameB s = true) : i = 0 ∧ ys = [] ∧ j = s.size := by
  rcases h.2 hn with ⟨rfl, e⟩ | ⟨h0, _⟩
  · refine ⟨rfl, e, ?_⟩
    rcases Nat.lt_or_ge j s.size with h1 | h1
    · have := ((nameB_iff s).1 hn).2.2.2 j h1
      rw [hw.stop] at this; cases this
    · exact Nat.le_antisymm hw.le h1
  · have := hw.lt; have := hw.le; omega
theorem WordTo.name {s : ByteArray} {i j : Nat} (hw : WordTo s i j) (hl : j - i ≤ 24) : nameB (s.extract i j) = true := name_sub s hw.lt hw.le hl hw.first hw.all
theorem WordTo.long {s : ByteArray} {ys : List Fe} {i j : Nat} (h : LexAt s i ys) (hw : WordTo s i j) (hl : 24 < j - i) : nameB s = false := by
  cases hn : nameB s with
  | false => rfl
  | true =>
    obtain ⟨rfl, _, rfl⟩ := hw.whole h hn
    have := ((nameB_iff s).1 hn).2.1
    omega
def wordFe {s : ByteArray} {i j : Nat} (hw : WordTo s i j) (hl : j - i ≤ 24) : Fe := ⟨⟨1, s.extract i j, 0, i, 0⟩, fun _ _ => hw.name hl⟩
def badFe (kind : Int) (text : ByteArray) (n place err : Int) (he : err ≠ 0) : Fe := ⟨⟨kind, text, n, place, err⟩, fun h => absurd h he⟩
def otherFe (kind : Int) (text : ByteArray) (n place err : Int) (hk : kind ≠ 1) : Fe := ⟨⟨kind, text, n, place, err⟩, fun _ h => absurd h hk⟩
theorem WordTo.next {s : ByteArray} {ys : List Fe} {i j : Nat} (h : LexAt s i ys) (hw : WordTo s i j) (hl : j - i ≤ 24) : LexAt s j (ys ++ [wordFe hw hl]) := by
  have h1 := h.1
  have h2 := hw.lt
  refine ⟨by simp; omega, fun hn => .inr ?_⟩
  obtain ⟨rfl, rfl, rfl⟩ := hw.whole h hn
  exact ⟨rfl, by simp [wordFe, tokS, extract_all]⟩
theorem WordTo.part {s : ByteArray} {ys : List Fe} {i j : Nat} (h : LexAt s i ys) (hw : WordTo s i j) (hl : j - i ≤ 24) : PartL s (ys ++ [wordFe hw hl]) := fun hn => by
  obtain ⟨rfl, rfl, rfl⟩ := hw.whole h hn
  simp [wordFe, tokS, extract_all]
theorem wordC_3 : wordC 3 = true := rfl
theorem decFrom_digits : ∀ (l : List UInt8) (acc : Nat), (∀ b ∈ l, 48 ≤ b.toNat ∧ b.toNat ≤ 57) → ∃ n, Lib.decFrom acc l = some n
  | [], acc, _ => ⟨acc, rfl⟩
  | b :: r, acc, h => by
    have hb := h b List.mem_cons_self
    obtain ⟨n, hn⟩ := decFrom_digits r (acc * 10 + (b.toNat - 48)) (fun c hc => h c (List.mem_cons_of_mem _ hc))
    exact ⟨n, by simp [Lib.decFrom, Lib.digitVal, hb, hn]⟩
theorem atoi_digits (l : List UInt8) (h0 : l ≠ []) (h : ∀ b ∈ l, 48 ≤ b.toNat ∧ b.toNat ≤ 57) : ∃ n, Lib.atoi l = some n := by
  cases l with
  | nil => exact absurd rfl h0
  | cons b r =>
    have hb := h b List.mem_cons_self
    have h1 : (b == 45) = false := by
      rw [beq_eq_false_iff_ne]; rintro rfl; exact absurd hb.1 (by decide)
    have h2 : (b == 43) = false := by
      rw [beq_eq_false_iff_ne]; rintro rfl; exact absurd hb.1 (by decide)
    obtain ⟨n, hn⟩ := decFrom_digits (b :: r) 0 h
    exact ⟨n, by simp [Lib.atoi, h1, h2, Lib.decNat, hn]⟩
theorem cls_digit4 {k : Nat} (h : k < 256) : cls k = 4 → 48 ≤ k ∧ k ≤ 57 := by
  have key : ∀ k : Fin 256, cls k.1 = 4 → 48 ≤ k.1 ∧ k.1 ≤ 57 := by decide +kernel
  exact key ⟨k, h⟩
theorem atoi_sub (s : ByteArray) {a b : Nat} (hab : a < b) (hb : b ≤ s.size) (h : ∀ i, a ≤ i → i < b → atC s i = 4) : ∃ n, Lib.atoi (s.extract a b).data.toList = some n := by
  have hsz : (s.extract a b).size = b - a := by rw [ByteArray.size_extract]; omega
  have hl : (s.extract a b).data.toList.length = b - a := by rw [Array.length_toList]; exact hsz
  refine atoi_digits _ (fun e => by rw [e] at hl; simp at hl; omega) (fun c hc => ?_)
  obtain ⟨j, hj, rfl⟩ := List.getElem_of_mem hc
  rw [hl] at hj
  have h1 := h (a + j) (by omega) (by omega)
  rw [← extract_at s hb j (by omega), atC_at _ (by omega)] at h1
  exact cls_digit4 (UInt8.toNat_lt _) h1
/-- a cut of a string, in the walk's spelling of its end -/
theorem cut_run (s : ByteArray) (i j : Nat) (q : Int) (hq : q = (j : Int)) (hij : i ≤ j) (hj : j ≤ s.size) (W : World) :
    (Instr.slice 9 (.string s) (some (.int .i64 (i : Int))) (some (.int .i64 q)) none).run Tryz.prog W = .ok (.string (s.extract i j)) W := by
  subst hq
  have h1 : (0 : Int) ≤ (i : Int) := by omega
  have h2 : (i : Int) ≤ (j : Int) := by omega
  have h3 : (j : Int) ≤ (s.size : Int) := by omega
  simp [go_sem, Tryz.underlying9, h1, h2, h3]
  try omega
theorem cell_set_off (w : World) (b i j : Nat) (v : Value) (hij : i ≠ j) : (w.setCell ⟨b, i, none⟩ v).cell? ⟨b, j, none⟩ = w.cell? ⟨b, j, none⟩ := by
  apply World.cell?_setCell_other
  simp [hij]
end Go.Proofs.YtaigepddkgpplaaGreatDoor.M

