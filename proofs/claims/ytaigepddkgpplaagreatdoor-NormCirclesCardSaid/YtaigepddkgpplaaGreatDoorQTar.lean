/- Tarjan's way in plain Lean: what the groups are. -/

namespace Go.Proofs.YtaigepddkgpplaaGreatDoor.T
set_option linter.unusedVariables false

/-- a chain of zero or more steps -/
inductive Path (adj : Nat → List Nat) : Nat → Nat → Prop
  | refl (x : Nat) : Path adj x x
  | step {x y z : Nat} : y ∈ adj x → Path adj y z → Path adj x z
theorem Path.trans {adj} {a b c : Nat} (h : Path adj a b) (k : Path adj b c) : Path adj a c := by
  induction h with
  | refl => exact k
  | step e _ ih => exact .step e (ih k)
theorem Path.one {adj} {a b : Nat} (h : b ∈ adj a) : Path adj a b := .step h (.refl _)
/-- each reaches the other -/
def Scc (adj : Nat → List Nat) (a b : Nat) : Prop := Path adj a b ∧ Path adj b a
/-- it reaches itself by one step or more -/
def Cyc (adj : Nat → List Nat) (a : Nat) : Prop := ∃ y, y ∈ adj a ∧ Path adj y a
theorem Scc.symm {adj} {a b : Nat} (h : Scc adj a b) : Scc adj b a := ⟨h.2, h.1⟩
theorem Scc.trans {adj} {a b c : Nat} (h : Scc adj a b) (k : Scc adj b c) : Scc adj a c := ⟨h.1.trans k.1, k.2.trans h.2⟩
theorem Scc.cyc {adj} {a b : Nat} (h : Scc adj a b) (hc : Cyc adj a) : Cyc adj b := by
  obtain ⟨y, hy, hp⟩ := hc
  have hba := h.2
  cases hba with
  | refl => exact ⟨y, hy, hp⟩
  | step e p => exact ⟨_, e, p.trans ((Path.step hy hp).trans h.1)⟩

/-- the state of the search -/
structure TS where
  num : Nat → Option Nat
  cnt : Nat
  low : Nat → Nat
  on : Nat → Bool
  stack : List Nat
  out : List (List Nat)
def fup {α : Type} (f : Nat → α) (i : Nat) (v : α) : Nat → α := fun x => if x = i then v else f x
theorem fup_same {α : Type} (f : Nat → α) (i : Nat) (v : α) : fup f i v i = v := if_pos rfl
theorem fup_other {α : Type} (f : Nat → α) {i : Nat} (v : α) {x : Nat} (h : x ≠ i) : fup f i v x = f x := if_neg h
def leN (a b : Nat) : Bool := decide (a ≤ b)
def sortN (l : List Nat) : List Nat := l.mergeSort leN

def enter (i : Nat) (st : TS) : TS := { st with num := fup st.num i (some st.cnt), cnt := st.cnt + 1, low := fup st.low i st.cnt, stack := st.stack ++ [i], on := fup st.on i true }
def setLow (st : TS) (i l : Nat) : TS := { st with low := fup st.low i l }
def leave (adj : Nat → List Nat) (i : Nat) (st : TS) : TS :=
  if st.low i = (st.num i).getD 0 then
    { st with stack := st.stack.take (st.stack.idxOf i), on := fun k => if k ∈ st.stack.drop (st.stack.idxOf i) then false else st.on k, out := if 1 < (st.stack.drop (st.stack.idxOf i)).length ∨ i ∈ adj i then st.out ++ [sortN (st.stack.drop (st.stack.idxOf i))] else st.out }
  else st
def loopF (vis : Nat → TS → Option TS) (i : Nat) : List Nat → TS → Option TS
  | [], st => some st
  | k :: ks, st => match st.num k with
    | none => (vis k st).bind fun s => loopF vis i ks (setLow s i (min (s.low i) (s.low k)))
    | some m => loopF vis i ks (if st.on k then setLow st i (min (st.low i) m) else st)
def visitF (adj : Nat → List Nat) : Nat → Nat → TS → Option TS
  | 0, _, _ => none
  | f + 1, i, st => (loopF (visitF adj f) i (adj i) (enter i st)).map (leave adj i)

/-- the group of v: those with which it shares a circle, in increasing order -/
structure IsGroup (adj : Nat → List Nat) (g : List Nat) (v : Nat) : Prop where
  mem : ∀ u, u ∈ g ↔ Scc adj v u
  sorted : g.Pairwise (· < ·)
theorem sortN_mem (l : List Nat) (u : Nat) : u ∈ sortN l ↔ u ∈ l := List.mem_mergeSort
theorem sortN_sorted {l : List Nat} (h : l.Nodup) : (sortN l).Pairwise (· < ·) := by
  have h1 : (sortN l).Pairwise (fun a b => leN a b = true) := List.pairwise_mergeSort (fun a b c => by simp [leN]; omega) (fun a b => by simp [leN]; omega) l
  have h2 : (sortN l).Nodup := (List.mergeSort_perm l leN).nodup_iff.2 h
  rw [List.Nodup] at h2
  exact (h1.and h2).imp (fun {a b} h => by simp [leN] at h; omega)

/-- how many are still to be found -/
def unv (n : Nat) (st : TS) : Nat := (List.range n).countP (fun v => (st.num v).isNone)
theorem countP_le_of {p q : Nat → Bool} (l : List Nat) (h : ∀ x, x ∈ l → p x = true → q x = true) : l.countP p ≤ l.countP q := List.countP_mono_left h
theorem countP_lt_of {p q : Nat → Bool} : ∀ (l : List Nat) (i : Nat), i ∈ l → (∀ x, x ∈ l → p x = true → q x = true) → p i = false → q i = true → l.countP p < l.countP q
  | x :: l, i, hi, h, hp, hq => by
    have hle := countP_le_of (p := p) (q := q) l (fun y hy => h y (List.mem_cons_of_mem _ hy))
    rw [List.countP_cons, List.countP_cons]
    rcases List.mem_cons.1 hi with rfl | hi
    · simp [hp, hq]; omega
    · have ih := countP_lt_of (p := p) (q := q) l i hi (fun y hy => h y (List.mem_cons_of_mem _ hy)) hp hq
      have h1 := h x List.mem_cons_self
      by_cases hpx : p x = true
      · simp [hpx, h1 hpx]; omega
      · simp [hpx]; split <;> omega
theorem countP_eq_of {p q : Nat → Bool} : ∀ (l : List Nat) (i : Nat), l.Nodup → i ∈ l → (∀ x, x ≠ i → p x = q x) → p i = false → q i = true → l.countP p + 1 = l.countP q
  | x :: l, i, hn, hi, h, hp, hq => by
    rw [List.nodup_cons] at hn
    rw [List.countP_cons, List.countP_cons]
    rcases List.mem_cons.1 hi with rfl | hi
    · have e : l.countP p = l.countP q := List.countP_congr (fun y hy => by rw [h y (fun e => hn.1 (e ▸ hy))])
      simp [hp, hq, e]
    · have ih := countP_eq_of l i hn.2 hi h hp hq
      have hx : x ≠ i := fun e => hn.1 (e ▸ hi)
      rw [h x hx]; omega
theorem unv_enter {n : Nat} {st : TS} {i : Nat} (hi : i < n) (h0 : st.num i = none) : unv n (enter i st) + 1 = unv n st :=
  countP_eq_of _ i List.nodup_range (by simpa using hi) (fun x hx => by show (fup st.num i _ x).isNone = _; rw [fup_other _ _ hx]) (by show (fup st.num i _ i).isNone = _; rw [fup_same]; rfl) (by rw [h0]; rfl)
structure Inv (adj : Nat → List Nat) (n : Nat) (G : Nat → Prop) (st : TS) : Prop where
  dom : ∀ v m, st.num v = some m → v < n ∧ m < st.cnt
  on_iff : ∀ v, st.on v = true ↔ v ∈ st.stack
  vis : ∀ v, v ∈ st.stack → ∃ m, st.num v = some m
  nodup : st.stack.Nodup
  gray : ∀ g, G g → g ∈ st.stack
  toGray : ∀ u, u ∈ st.stack → ∃ g, G g ∧ Path adj u g
  black : ∀ v m, st.num v = some m → ¬ G v → ∀ y, y ∈ adj v → st.num y ≠ none
  done : ∀ v m, st.num v = some m → v ∉ st.stack → ∀ y, y ∈ adj v → st.num y ≠ none ∧ y ∉ st.stack
  outMem : ∀ g, g ∈ st.out → ∃ v m, st.num v = some m ∧ v ∉ st.stack ∧ Cyc adj v ∧ IsGroup adj g v
  outAll : ∀ v m, st.num v = some m → v ∉ st.stack → Cyc adj v → ∃ g, g ∈ st.out ∧ v ∈ g
  outDis : st.out.Pairwise (fun a b => ∀ v, v ∈ a → v ∈ b → False)
  cntv : st.cnt + unv n st = n
  slen : st.out.length + st.stack.length ≤ st.cnt

/-- what a call of visit leaves -/
structure Post (adj : Nat → List Nat) (n : Nat) (G : Nat → Prop) (i : Nat) (st st' : TS) : Prop where
  inv : Inv adj n G st'
  cnt : st.cnt < st'.cnt
  num : ∀ v m, st.num v = some m → st'.num v = some m
  fresh : ∀ v m, st'.num v = some m → st.num v = none → st.cnt ≤ m ∧ Path adj i v
  lowOld : ∀ v m, st.num v = some m → st'.low v = st.low v
  self : st'.num i ≠ none
  seg : ∃ s, st'.stack = st.stack ++ s ∧ (∀ w, w ∈ s → st.num w = none) ∧
    (∀ w, w ∈ s → ∀ y m, y ∈ adj w → y ∈ st.stack → st.num y = some m → st'.low i ≤ m) ∧
    ((s = [] ∧ st.cnt ≤ st'.low i) ∨ ∃ u, u ∈ st.stack ∧ st.num u = some (st'.low i) ∧ Path adj i u)

/-- what the rounds over the neighbours leave; st0: the state before i was entered; p: the neighbours gone through -/
structure Mid (adj : Nat → List Nat) (n : Nat) (G : Nat → Prop) (i : Nat) (st0 : TS) (p : List Nat) (st : TS) : Prop where
  inv : Inv adj n (fun g => g = i ∨ G g) st
  cnt : st0.cnt < st.cnt
  num : ∀ v m, st0.num v = some m → st.num v = some m
  self : st.num i = some st0.cnt
  fresh : ∀ v m, st.num v = some m → st0.num v = none → st0.cnt ≤ m ∧ Path adj i v
  lowOld : ∀ v m, st0.num v = some m → st.low v = st0.low v
  seen : ∀ y, y ∈ p → st.num y ≠ none
  seenLow : ∀ y m, y ∈ p → y ∈ st0.stack → st0.num y = some m → st.low i ≤ m
  low : st.low i = st0.cnt ∨ ∃ u, u ∈ st0.stack ∧ st0.num u = some (st.low i) ∧ Path adj i u
  seg : ∃ s, st.stack = st0.stack ++ i :: s ∧ (∀ w, w ∈ i :: s → st0.num w = none) ∧
    (∀ w, w ∈ s → ∀ y m, y ∈ adj w → y ∈ st0.stack → st0.num y = some m → st.low i ≤ m)

section
variable {adj : Nat → List Nat} {n : Nat} {G : Nat → Prop}

theorem Mid.low_le {i : Nat} {st0 st : TS} {p : List Nat} (h0 : Inv adj n G st0) (h : Mid adj n G i st0 p st) : st.low i ≤ st0.cnt := by
  rcases h.low with e | ⟨u, _, hu, _⟩
  · omega
  · have := (h0.dom _ _ hu).2; omega

theorem mid_enter {i : Nat} {st : TS} (h : Inv adj n G st) (hi : st.num i = none) (hn : i < n) : Mid adj n G i st [] (enter i st) := by
  have hns : i ∉ st.stack := fun hc => by obtain ⟨m, hm⟩ := h.vis i hc; rw [hi] at hm; cases hm
  have hGi : ¬ G i := fun hc => hns (h.gray i hc)
  have hne : ∀ v m, st.num v = some m → v ≠ i := fun v m hv e => by subst e; rw [hi] at hv; cases hv
  have hold : ∀ v m, st.num v = some m → (enter i st).num v = some m := fun v m hv => by
    show fup st.num i _ v = _
    rw [fup_other _ _ (hne v m hv)]; exact hv
  have hnn : ∀ y, st.num y ≠ none → (enter i st).num y ≠ none := fun y hy => by
    cases hq : st.num y with
    | none => exact absurd hq hy
    | some m => rw [hold y m hq]; simp
  have hself : (enter i st).num i = some st.cnt := fup_same _ _ _
  have hinv : ∀ v m, (enter i st).num v = some m → (v = i ∧ m = st.cnt) ∨ (v ≠ i ∧ st.num v = some m) := fun v m hv => by
    by_cases e : v = i
    · subst e; rw [hself] at hv; exact .inl ⟨rfl, by injection hv with hv; exact hv.symm⟩
    · exact .inr ⟨e, by rw [← hv]; exact (fup_other _ _ e).symm⟩
  have hmem : ∀ v, v ∈ (enter i st).stack ↔ v ∈ st.stack ∨ v = i := fun v => by simp [enter]
  refine ⟨⟨?_, ?_, ?_, ?_, ?_, ?_, ?_, ?_, ?_, ?_, h.outDis, by have := unv_enter hn hi; have := h.cntv; show st.cnt + 1 + unv n (enter i st) = n; omega, by have := h.slen; show st.out.length + (st.stack ++ [i]).length ≤ st.cnt + 1; simp; omega⟩, Nat.lt_succ_self _, hold, hself, ?_, ?_, by simp, by simp, ?_, ?_⟩
  · intro v m hv
    rcases hinv v m hv with ⟨rfl, rfl⟩ | ⟨_, hv⟩
    · exact ⟨hn, Nat.lt_succ_self _⟩
    · exact ⟨(h.dom v m hv).1, Nat.lt_succ_of_lt (h.dom v m hv).2⟩
  · intro v
    rw [hmem]
    show fup st.on i true v = true ↔ _
    by_cases e : v = i
    · subst e; rw [fup_same]; simp
    · rw [fup_other _ _ e, h.on_iff]; simp [e]
  · intro v hv
    rcases (hmem v).1 hv with hv | rfl
    · obtain ⟨m, hm⟩ := h.vis v hv; exact ⟨m, hold v m hm⟩
    · exact ⟨_, hself⟩
  · show (st.stack ++ [i]).Nodup
    rw [List.nodup_append]
    exact ⟨h.nodup, by simp, fun a ha b hb e => by simp at hb; subst hb; exact hns (e ▸ ha)⟩
  · rintro g (rfl | hg)
    · exact (hmem _).2 (.inr rfl)
    · exact (hmem _).2 (.inl (h.gray g hg))
  · intro u hu
    rcases (hmem u).1 hu with hu | rfl
    · obtain ⟨g, hg, hp⟩ := h.toGray u hu; exact ⟨g, .inr hg, hp⟩
    · exact ⟨_, .inl rfl, .refl _⟩
  · intro v m hv hg y hy
    rcases hinv v m hv with ⟨rfl, rfl⟩ | ⟨_, hv⟩
    · exact absurd (.inl rfl) hg
    · exact hnn y (h.black v m hv (fun hc => hg (.inr hc)) y hy)
  · intro v m hv hs y hy
    rcases hinv v m hv with ⟨rfl, rfl⟩ | ⟨_, hv⟩
    · exact absurd ((hmem _).2 (.inr rfl)) hs
    · have := h.done v m hv (fun hc => hs ((hmem v).2 (.inl hc))) y hy
      refine ⟨hnn y this.1, fun hc => ?_⟩
      rcases (hmem y).1 hc with hc | rfl
      · exact this.2 hc
      · exact this.1 hi
  · intro g hg
    obtain ⟨v, m, hv, hs, hc, hgr⟩ := h.outMem g hg
    exact ⟨v, m, hold v m hv, fun hc => by rcases (hmem v).1 hc with hc | rfl; exact hs hc; exact hne _ _ hv rfl, hc, hgr⟩
  · intro v m hv hs hc
    rcases hinv v m hv with ⟨rfl, rfl⟩ | ⟨_, hv⟩
    · exact absurd ((hmem _).2 (.inr rfl)) hs
    · exact h.outAll v m hv (fun hc => hs ((hmem v).2 (.inl hc))) hc
  · intro v m hv h0
    rcases hinv v m hv with ⟨rfl, rfl⟩ | ⟨_, hv⟩
    · exact ⟨Nat.le_refl _, .refl _⟩
    · rw [h0] at hv; cases hv
  · intro v m hv
    exact fup_other _ _ (hne v m hv)
  · exact .inl (fup_same _ _ _)
  · exact ⟨[], rfl, fun w hw => by simp at hw; subst hw; exact hi, by simp⟩
/-- a change of low at i alone changes nothing of the invariant -/
theorem Inv.setLow {st : TS} (h : Inv adj n G st) (i l : Nat) : Inv adj n G (setLow st i l) := ⟨h.dom, h.on_iff, h.vis, h.nodup, h.gray, h.toGray, h.black, h.done, h.outMem, h.outAll, h.outDis, h.cntv, h.slen⟩

theorem mid_seen {i k m : Nat} {st0 st : TS} {p : List Nat} (h0 : Inv adj n G st0) (h : Mid adj n G i st0 p st) (hk : k ∈ adj i) (hm : st.num k = some m) (hi : st0.num i = none) :
    Mid adj n G i st0 (p ++ [k]) (if st.on k then setLow st i (min (st.low i) m) else st) := by
  have hle := h.low_le h0
  obtain ⟨s, hs, hsn, hsl⟩ := h.seg
  have hne : ∀ v m, st0.num v = some m → v ≠ i := fun v m hv e => by subst e; rw [hi] at hv; cases hv
  have hmk : ∀ m', k ∈ st0.stack → st0.num k = some m' → m' = m := fun m' _ h2 => by have := h.num k m' h2; rw [hm] at this; injection this with this; exact this.symm
  cases ho : st.on k with
  | false =>
    have hks : k ∉ st.stack := fun hc => by rw [(h.inv.on_iff k).2 hc] at ho; cases ho
    have hks0 : k ∉ st0.stack := fun hc => hks (by rw [hs]; exact List.mem_append_left _ hc)
    simp only [Bool.false_eq_true, if_false]
    refine ⟨h.inv, h.cnt, h.num, h.self, h.fresh, h.lowOld, ?_, ?_, h.low, h.seg⟩
    · intro y hy
      rcases List.mem_append.1 hy with hy | hy
      · exact h.seen y hy
      · simp at hy; subst hy; rw [hm]; simp
    · intro y m' hy hy0 hym
      rcases List.mem_append.1 hy with hy | hy
      · exact h.seenLow y m' hy hy0 hym
      · simp at hy; subst hy; exact absurd hy0 hks0
  | true =>
    have hks : k ∈ st.stack := (h.inv.on_iff k).1 ho
    simp only [if_true]
    have elow : (setLow st i (min (st.low i) m)).low i = min (st.low i) m := fup_same _ _ _
    refine ⟨h.inv.setLow _ _, h.cnt, h.num, h.self, h.fresh, ?_, ?_, ?_, ?_, ?_⟩
    · intro v m' hv
      show fup st.low i _ v = _
      rw [fup_other _ _ (hne v m' hv)]; exact h.lowOld v m' hv
    · intro y hy
      rcases List.mem_append.1 hy with hy | hy
      · exact h.seen y hy
      · simp at hy; subst hy; show st.num y ≠ none; rw [hm]; simp
    · intro y m' hy hy0 hym
      rw [elow]
      rcases List.mem_append.1 hy with hy | hy
      · have := h.seenLow y m' hy hy0 hym; omega
      · simp at hy; subst hy; have := hmk m' hy0 hym; omega
    · rw [elow]
      by_cases hlt : m < st.low i
      · rw [Nat.min_eq_right (Nat.le_of_lt hlt)]
        right
        have hk0 : st0.num k ≠ none := fun hc => by have := (h.fresh k m hm hc).1; omega
        cases hq : st0.num k with
        | none => exact absurd hq hk0
        | some m' =>
          obtain rfl : m' = m := by have := h.num k m' hq; rw [hm] at this; injection this with this; exact this.symm
          refine ⟨k, ?_, hq, Path.one hk⟩
          rw [hs] at hks
          rcases List.mem_append.1 hks with hks | hks
          · exact hks
          · have := hsn k hks; rw [hq] at this; cases this
      · rw [Nat.min_eq_left (by omega)]
        exact h.low
    · refine ⟨s, hs, hsn, fun w hw y m' hy hy0 hym => ?_⟩
      rw [elow]
      have := hsl w hw y m' hy hy0 hym; omega

theorem mid_new {i k : Nat} {st0 st st' : TS} {p : List Nat} (h0 : Inv adj n G st0) (h : Mid adj n G i st0 p st) (hk : k ∈ adj i) (hkn : st.num k = none) (hi : st0.num i = none)
    (hp : Post adj n (fun g => g = i ∨ G g) k st st') : Mid adj n G i st0 (p ++ [k]) (setLow st' i (min (st'.low i) (st'.low k))) := by
  have hle := h.low_le h0
  obtain ⟨s, hs, hsn, hsl⟩ := h.seg
  obtain ⟨t, ht, htn, htl, hend⟩ := hp.seg
  have hne : ∀ v m, st0.num v = some m → v ≠ i := fun v m hv e => by subst e; rw [hi] at hv; cases hv
  have eli : st'.low i = st.low i := hp.lowOld i _ h.self
  have elow : (setLow st' i (min (st'.low i) (st'.low k))).low i = min (st.low i) (st'.low k) := by rw [← eli]; exact fup_same _ _ _
  have hnn0 : ∀ w, st.num w = none → st0.num w = none := fun w hw => by
    cases hq : st0.num w with
    | none => rfl
    | some m => rw [h.num w m hq] at hw; cases hw
  have hin0 : ∀ y, y ∈ st0.stack → y ∈ st.stack := fun y hy => by rw [hs]; exact List.mem_append_left _ hy
  have hkself : st'.num i = some st0.cnt := hp.num i _ h.self
  refine ⟨hp.inv.setLow _ _, Nat.lt_trans h.cnt hp.cnt, fun v m hv => hp.num v m (h.num v m hv), hkself, ?_, ?_, ?_, ?_, ?_, ?_⟩
  · intro v m hv hv0
    cases hq : st.num v with
    | none =>
      have := hp.fresh v m hv hq
      exact ⟨by have := h.cnt; omega, .step hk this.2⟩
    | some m' =>
      have e : st'.num v = some m' := hp.num v m' hq
      obtain rfl : m' = m := by rw [show st'.num v = some m from hv] at e; injection e with e; exact e.symm
      exact h.fresh v m' hq hv0
  · intro v m hv
    show fup st'.low i _ v = _
    rw [fup_other _ _ (hne v m hv), hp.lowOld v m (h.num v m hv)]
    exact h.lowOld v m hv
  · intro y hy
    show st'.num y ≠ none
    rcases List.mem_append.1 hy with hy | hy
    · have := h.seen y hy
      cases hq : st.num y with
      | none => exact absurd hq this
      | some m => rw [hp.num y m hq]; simp
    · simp at hy; subst hy; exact hp.self
  · intro y m hy hy0 hym
    rw [elow]
    rcases List.mem_append.1 hy with hy | hy
    · have := h.seenLow y m hy hy0 hym; omega
    · simp at hy; subst hy; rw [h.num y m hym] at hkn; cases hkn
  · rw [elow]
    rcases hend with ⟨rfl, hc⟩ | ⟨u, hu, hun, hup⟩
    · have := h.cnt
      rw [Nat.min_eq_left (by omega)]
      exact h.low
    · by_cases hlt : st'.low k < st.low i
      · rw [Nat.min_eq_right (Nat.le_of_lt hlt)]
        right
        have hu0 : st0.num u ≠ none := fun hc => by have := (h.fresh u _ hun hc).1; omega
        cases hq : st0.num u with
        | none => exact absurd hq hu0
        | some m' =>
          have e := h.num u m' hq
          rw [hun] at e; injection e with e
          refine ⟨u, ?_, by rw [hq, e], .step hk hup⟩
          rw [hs] at hu
          rcases List.mem_append.1 hu with hu | hu
          · exact hu
          · have := hsn u hu; rw [hq] at this; cases this
      · rw [Nat.min_eq_left (by omega)]
        exact h.low
  · refine ⟨s ++ t, by show st'.stack = _; rw [ht, hs]; simp, fun w hw => ?_, fun w hw y m hy hy0 hym => ?_⟩
    · rw [← List.cons_append] at hw
      rcases List.mem_append.1 hw with hw | hw
      · exact hsn w hw
      · exact hnn0 w (htn w hw)
    · rw [elow]
      rcases List.mem_append.1 hw with hw | hw
      · have := hsl w hw y m hy hy0 hym; omega
      · have := htl w hw y m hy (hin0 y hy0) (h.num y m hym); omega

/-- a path that begins in the group stays in it until it comes to something below -/
theorem path_seg {S : Nat → Prop} {u g : Nat} (hp : Path adj u g) (hcl : ∀ w, S w → ∀ y, y ∈ adj w → S y ∨ ¬ Path adj y g) (hu : S u) : S g := by
  induction hp with
  | refl => exact hu
  | step e p ih => exact (hcl _ hu _ e).elim (fun h => ih hcl h) (fun h => absurd p h)

theorem idxOf_seg {s : List Nat} {i : Nat} : ∀ {l : List Nat}, i ∉ l → (l ++ i :: s).idxOf i = l.length
  | [], _ => by simp
  | x :: l, hi => by
    have h1 : x ≠ i := fun e => hi (by simp [e])
    have h2 : i ∉ l := fun h => hi (List.mem_cons_of_mem _ h)
    rw [List.cons_append, List.idxOf_cons, idxOf_seg h2, beq_false_of_ne h1]
    rfl

theorem done_path {st : TS} (h : Inv adj n G st) {v g : Nat} (hp : Path adj v g) : ∀ m, st.num v = some m → v ∉ st.stack → st.num g ≠ none ∧ g ∉ st.stack := by
  induction hp with
  | refl x => exact fun m hm hs => ⟨by rw [hm]; simp, hs⟩
  | @step x y z e p ih =>
    intro m hm hs
    have := h.done _ m hm hs _ e
    cases hq : st.num y with
    | none => exact absurd hq this.1
    | some m' => exact ih m' hq this.2

theorem mid_leave {i : Nat} {st0 st : TS} (h0 : Inv adj n G st0) (h : Mid adj n G i st0 (adj i) st) (hi : st0.num i = none) : Post adj n G i st0 (leave adj i st) := by
  have hle := h.low_le h0
  obtain ⟨s, hs, hsn, hsl⟩ := h.seg
  have hi0 : i ∉ st0.stack := fun hc => by obtain ⟨m, hm⟩ := h0.vis i hc; rw [hi] at hm; cases hm
  have hGi : ¬ G i := fun hc => hi0 (h0.gray i hc)
  have hnum : (st.num i).getD 0 = st0.cnt := by rw [h.self]; rfl
  have hvs : ∀ w, w ∈ i :: s → ∀ y, y ∈ adj w → st.num y ≠ none := fun w hw y hy => by
    by_cases e : w = i
    · subst e; exact h.seen y hy
    · obtain ⟨m, hm⟩ := h.inv.vis w (by rw [hs]; exact List.mem_append_right _ hw)
      refine h.inv.black w m hm ?_ y hy
      rintro (rfl | hg)
      · exact e rfl
      · have h1 := h0.gray w hg
        have h2 := h.inv.nodup
        rw [hs, List.nodup_append] at h2
        exact h2.2.2 w h1 w hw rfl
  have hlw : ∀ w, w ∈ i :: s → ∀ y m, y ∈ adj w → y ∈ st0.stack → st0.num y = some m → st.low i ≤ m := fun w hw y m hy hy0 hym => by
    rcases List.mem_cons.1 hw with rfl | hw
    · exact h.seenLow y m hy hy0 hym
    · exact hsl w hw y m hy hy0 hym
  by_cases hroot : st.low i = st0.cnt
  · -- a group is left
    have hix : st.stack.idxOf i = st0.stack.length := by rw [hs]; exact idxOf_seg hi0
    have htake : st.stack.take (st.stack.idxOf i) = st0.stack := by rw [hix, hs]; simp
    have hdrop : st.stack.drop (st.stack.idxOf i) = i :: s := by rw [hix, hs]; simp
    have heq : leave adj i st = { st with stack := st0.stack, on := fun k => if k ∈ i :: s then false else st.on k, out := if 1 < (i :: s).length ∨ i ∈ adj i then st.out ++ [sortN (i :: s)] else st.out } := by
      unfold leave
      rw [hnum, if_pos hroot, htake, hdrop]
    have hno : ∀ w, w ∈ i :: s → ∀ y, y ∈ adj w → y ∉ st0.stack := fun w hw y hy hy0 => by
      obtain ⟨m, hm⟩ := h0.vis y hy0
      have h1 := hlw w hw y m hy hy0 hm
      have := (h0.dom y m hm).2
      omega
    have hnd : st.stack.Nodup := h.inv.nodup
    rw [hs, List.nodup_append] at hnd
    -- the segment is the group of i
    have hreach : ∀ w, w ∈ i :: s → Path adj i w := fun w hw => by
      obtain ⟨m, hm⟩ := h.inv.vis w (by rw [hs]; exact List.mem_append_right _ hw)
      exact (h.fresh w m hm (hsn w hw)).2
    have hnotdone : ∀ y g, g ∈ st.stack → st.num y ≠ none → y ∉ st.stack → ¬ Path adj y g := fun y g hg hy hys hp => by
      cases hq : st.num y with
      | none => exact hy hq
      | some m => exact (done_path h.inv hp m hq hys).2 hg
    have hcl : ∀ g, g ∈ st.stack → ∀ w, w ∈ i :: s → ∀ y, y ∈ adj w → y ∈ i :: s ∨ ¬ Path adj y g := fun g hg w hw y hy => by
      by_cases hy1 : y ∈ i :: s
      · exact .inl hy1
      · refine .inr (hnotdone y g hg (hvs w hw y hy) (fun hc => ?_))
        rw [hs] at hc
        rcases List.mem_append.1 hc with hc | hc
        · exact hno w hw y hy hc
        · exact hy1 hc
    have hin : ∀ w, w ∈ i :: s → w ∈ st.stack := fun w hw => by rw [hs]; exact List.mem_append_right _ hw
    have hback : ∀ w, w ∈ i :: s → Path adj w i := fun w hw => by
      obtain ⟨g, hg, hp⟩ := h.inv.toGray w (hin w hw)
      rcases hg with rfl | hg
      · exact hp
      · have hg1 : g ∈ i :: s := path_seg (S := fun x => x ∈ i :: s) hp (hcl g (by rw [hs]; exact List.mem_append_left _ (h0.gray g hg))) hw
        exact absurd rfl (hnd.2.2 g (h0.gray g hg) g hg1)
    have hscc : ∀ u, u ∈ i :: s ↔ Scc adj i u := fun u => by
      refine ⟨fun hu => ⟨hreach u hu, hback u hu⟩, fun ⟨h1, h2⟩ => ?_⟩
      -- each node of the path from i to u reaches i
      have key : ∀ {a b : Nat}, Path adj a b → a ∈ i :: s → Path adj b i → b ∈ i :: s := by
        intro a b hp
        induction hp with
        | refl => exact fun h _ => h
        | step e p ih =>
          intro ha hb
          rcases hcl i (hin i List.mem_cons_self) _ ha _ e with h3 | h3
          · exact ih h3 hb
          · exact absurd (p.trans hb) h3
      exact key h1 List.mem_cons_self h2
    have hgroup : IsGroup adj (sortN (i :: s)) i := ⟨fun u => by rw [sortN_mem]; exact hscc u, sortN_sorted hnd.2.1⟩
    have hcyc : Cyc adj i ↔ (1 < (i :: s).length ∨ i ∈ adj i) := by
      constructor
      · rintro ⟨y, hy, hp⟩
        by_cases e : y = i
        · subst e; exact .inr hy
        · left
          have : y ∈ i :: s := (hscc y).2 ⟨Path.one hy, hp⟩
          simp [e] at this
          have := List.length_pos_of_mem this
          simp; omega
      · rintro (hl | hl)
        · cases s with
          | nil => simp at hl
          | cons b s' =>
            have hb := (hscc b).1 (by simp)
            have hbi : b ≠ i := fun e => by subst e; have := hnd.2.1; simp at this
            have h1 := hb.1
            cases h1 with
            | refl => exact absurd rfl hbi
            | step e p => exact ⟨_, e, p.trans hb.2⟩
        · exact ⟨i, hl, .refl _⟩
    have hvdone : ∀ v m, st.num v = some m → v ∉ st0.stack → v ∈ i :: s ∨ v ∉ st.stack := fun v m hv hv0 => by
      by_cases hv1 : v ∈ i :: s
      · exact .inl hv1
      · refine .inr (fun hc => ?_)
        rw [hs] at hc
        rcases List.mem_append.1 hc with hc | hc
        · exact hv0 hc
        · exact hv1 hc
    have hns0 : ∀ v, v ∉ st.stack → v ∉ st0.stack := fun v hv hc => hv (by rw [hs]; exact List.mem_append_left _ hc)
    have hseg0 : ∀ w, w ∈ i :: s → w ∉ st0.stack := fun w hw hc => hnd.2.2 w hc w hw rfl
    rw [heq]
    refine ⟨⟨h.inv.dom, ?_, ?_, ?_, ?_, ?_, ?_, ?_, ?_, ?_, ?_, h.inv.cntv, ?_⟩, h.cnt, h.num, ?_, h.lowOld, ?_, ?_⟩
    · intro v
      show (if v ∈ i :: s then false else st.on v) = true ↔ v ∈ st0.stack
      by_cases hv : v ∈ i :: s
      · rw [if_pos hv]; simp [hseg0 v hv]
      · rw [if_neg hv, h.inv.on_iff, hs, List.mem_append]; simp [hv]
    · intro v hv
      obtain ⟨m, hm⟩ := h0.vis v hv; exact ⟨m, h.num v m hm⟩
    · exact hnd.1
    · exact fun g hg => h0.gray g hg
    · exact fun u hu => h0.toGray u hu
    · intro v m hv hg y hy
      by_cases e : v = i
      · subst e; exact hvs _ List.mem_cons_self y hy
      · exact h.inv.black v m hv (by rintro (rfl | hg2); exact e rfl; exact hg hg2) y hy
    · intro v m hv hv0 y hy
      rcases hvdone v m hv hv0 with hv1 | hv1
      · exact ⟨hvs v hv1 y hy, hno v hv1 y hy⟩
      · have := h.inv.done v m hv hv1 y hy
        exact ⟨this.1, hns0 y this.2⟩
    · intro g hg
      have hold : g ∈ st.out → ∃ v m, st.num v = some m ∧ v ∉ st0.stack ∧ Cyc adj v ∧ IsGroup adj g v := fun hg => by
        obtain ⟨v, m, hv, hvs, hc, hgr⟩ := h.inv.outMem g hg
        exact ⟨v, m, hv, hns0 v hvs, hc, hgr⟩
      show _
      simp only at hg
      split at hg
      · rename_i hcond
        rcases List.mem_append.1 hg with hg | hg
        · exact hold hg
        · simp at hg; subst hg
          exact ⟨i, _, h.self, hi0, hcyc.2 hcond, hgroup⟩
      · exact hold hg
    · intro v m hv hv0 hc
      show ∃ g, g ∈ (if 1 < (i :: s).length ∨ i ∈ adj i then st.out ++ [sortN (i :: s)] else st.out) ∧ v ∈ g
      rcases hvdone v m hv hv0 with hv1 | hv1
      · have hci : Cyc adj i := ((hscc v).1 hv1).symm.cyc hc
        rw [if_pos (hcyc.1 hci)]
        exact ⟨sortN (i :: s), by simp, (sortN_mem _ _).2 hv1⟩
      · obtain ⟨g, hg, hvg⟩ := h.inv.outAll v m hv hv1 hc
        refine ⟨g, ?_, hvg⟩
        split
        · exact List.mem_append_left _ hg
        · exact hg
    · show List.Pairwise _ (if 1 < (i :: s).length ∨ i ∈ adj i then st.out ++ [sortN (i :: s)] else st.out)
      split
      · rw [List.pairwise_append]
        refine ⟨h.inv.outDis, by simp, fun a ha b hb v hva hvb => ?_⟩
        simp at hb; subst hb
        have hv1 : v ∈ i :: s := (sortN_mem _ _).1 hvb
        obtain ⟨u, m, hu, hus, hc, hgr⟩ := h.inv.outMem a ha
        have hp := ((hgr.mem v).1 hva).1
        exact (done_path h.inv hp m hu hus).2 (hin v hv1)
      · exact h.inv.outDis
    · have hsl := h.inv.slen
      rw [hs] at hsl
      show (if 1 < (i :: s).length ∨ i ∈ adj i then st.out ++ [sortN (i :: s)] else st.out).length + st0.stack.length ≤ st.cnt
      rw [List.length_append, List.length_cons] at hsl
      split
      · rw [List.length_append, List.length_singleton]; omega
      · omega
    · exact h.fresh
    · show st.num i ≠ none
      rw [h.self]; simp
    · exact ⟨[], by simp, by simp, by simp, .inl ⟨rfl, by show st0.cnt ≤ st.low i; omega⟩⟩
  · -- i stays on the stack
    have heq : leave adj i st = st := by
      unfold leave
      rw [hnum, if_neg hroot]
    rw [heq]
    have hlow : ∃ u, u ∈ st0.stack ∧ st0.num u = some (st.low i) ∧ Path adj i u := h.low.resolve_left hroot
    obtain ⟨u, hu, hun, hup⟩ := hlow
    refine ⟨⟨h.inv.dom, h.inv.on_iff, h.inv.vis, h.inv.nodup, fun g hg => h.inv.gray g (.inr hg), ?_, ?_, h.inv.done, h.inv.outMem, h.inv.outAll, h.inv.outDis, h.inv.cntv, h.inv.slen⟩, h.cnt, h.num, h.fresh, h.lowOld, ?_, ?_⟩
    · intro v hv
      obtain ⟨g, hg, hp⟩ := h.inv.toGray v hv
      rcases hg with rfl | hg
      · obtain ⟨g', hg', hp'⟩ := h0.toGray u hu
        exact ⟨g', hg', hp.trans (hup.trans hp')⟩
      · exact ⟨g, hg, hp⟩
    · intro v m hv hg y hy
      by_cases e : v = i
      · subst e; exact hvs _ List.mem_cons_self y hy
      · exact h.inv.black v m hv (by rintro (rfl | hg2); exact e rfl; exact hg hg2) y hy
    · rw [h.self]; simp
    · exact ⟨i :: s, hs, hsn, hlw, .inr ⟨u, hu, hun, hup⟩⟩

theorem unv_le {st st' : TS} (h : ∀ v m, st.num v = some m → st'.num v = some m) : unv n st' ≤ unv n st := by
  refine countP_le_of _ (fun x _ hx => ?_)
  cases hq : st.num x with
  | none => rfl
  | some m => rw [h x m hq] at hx; cases hx
theorem unv_lt {st st' : TS} (h : ∀ v m, st.num v = some m → st'.num v = some m) {i : Nat} (hi : i < n) (h0 : st.num i = none) (h1 : st'.num i ≠ none) : unv n st' < unv n st := by
  refine countP_lt_of _ i (by simpa using hi) (fun x _ hx => ?_) ?_ ?_
  · cases hq : st.num x with
    | none => rfl
    | some m => rw [h x m hq] at hx; cases hx
  · cases hq : st'.num i with
    | none => exact absurd hq h1
    | some m => rfl
  · rw [h0]; rfl

theorem loop_some (f : Nat) (hadj : ∀ v y, y ∈ adj v → y < n)
    (hv : ∀ (G : Nat → Prop) (i : Nat) (st : TS), Inv adj n G st → st.num i = none → i < n → unv n st ≤ f → ∃ st', visitF adj f i st = some st' ∧ Post adj n G i st st')
    {i : Nat} {st0 : TS} (h0 : Inv adj n G st0) (hi : st0.num i = none) : ∀ (ks p : List Nat) (st : TS), adj i = p ++ ks → Mid adj n G i st0 p st → unv n st ≤ f →
      ∃ st', loopF (visitF adj f) i ks st = some st' ∧ Mid adj n G i st0 (adj i) st'
  | [], p, st, he, h, hu => ⟨st, rfl, by rw [he, List.append_nil]; exact h⟩
  | k :: ks, p, st, he, h, hu => by
    have hk : k ∈ adj i := by rw [he]; simp
    cases hq : st.num k with
    | none =>
      obtain ⟨s', e', hp⟩ := hv _ k st h.inv hq (hadj i k hk) hu
      have hm := mid_new h0 h hk hq hi hp
      obtain ⟨st', e2, hm2⟩ := loop_some f hadj hv h0 hi ks (p ++ [k]) _ (by rw [he]; simp) hm (Nat.le_trans (unv_le (n := n) (st := st) (fun v m hv => hp.num v m hv)) hu)
      refine ⟨st', ?_, hm2⟩
      simp only [loopF, hq, e', Option.bind_some]
      exact e2
    | some m =>
      have hm := mid_seen h0 h hk hq hi
      obtain ⟨st', e2, hm2⟩ := loop_some f hadj hv h0 hi ks (p ++ [k]) _ (by rw [he]; simp) hm (Nat.le_trans (unv_le (n := n) (st := st) (fun v m hv => by split <;> exact hv)) hu)
      refine ⟨st', ?_, hm2⟩
      simp only [loopF, hq]
      exact e2

theorem visit_some (hadj : ∀ v y, y ∈ adj v → y < n) : ∀ (f : Nat) (G : Nat → Prop) (i : Nat) (st : TS), Inv adj n G st → st.num i = none → i < n → unv n st ≤ f → ∃ st', visitF adj f i st = some st' ∧ Post adj n G i st st'
  | 0, G, i, st, h, hi, hn, hu => by
    exfalso
    have h1 : 0 < unv n st := by
      unfold unv
      rw [List.countP_pos_iff]
      exact ⟨i, by simpa using hn, by rw [hi]; rfl⟩
    omega
  | f + 1, G, i, st, h, hi, hn, hu => by
    have hm := mid_enter h hi hn
    have hlt : unv n (enter i st) < unv n st := unv_lt hm.num hn hi (by rw [hm.self]; simp)
    obtain ⟨st', e, hm'⟩ := loop_some f hadj (visit_some hadj f) h hi (adj i) [] (enter i st) rfl hm (by omega)
    exact ⟨leave adj i st', by simp only [visitF, e, Option.map_some], mid_leave h hm' hi⟩

/-- the walk over all -/
def allF (adj : Nat → List Nat) (f : Nat) : List Nat → TS → Option TS
  | [], st => some st
  | i :: is, st => match st.num i with
    | none => (visitF adj f i st).bind (allF adj f is)
    | some _ => allF adj f is st
def zeroT : TS := { num := fun _ => none, cnt := 0, low := fun _ => 0, on := fun _ => false, stack := [], out := [] }
theorem inv_zero : Inv adj n (fun _ => False) zeroT :=
  ⟨fun v m h => (by cases h), fun v => (by simp [zeroT]), fun v h => (by simp [zeroT] at h), List.nodup_nil, fun g h => h.elim, fun u h => (by simp [zeroT] at h), fun v m h => (by cases h), fun v m h => (by cases h), fun g h => (by simp [zeroT] at h), fun v m h => (by cases h), List.Pairwise.nil, (by show 0 + (List.range n).countP (fun _ => true) = n; rw [List.countP_true]; simp), (by simp [zeroT])⟩
theorem Inv.empty {st : TS} (h : Inv adj n (fun _ => False) st) : st.stack = [] := by
  cases hs : st.stack with
  | nil => rfl
  | cons u l => obtain ⟨g, hg, _⟩ := h.toGray u (by rw [hs]; simp); exact hg.elim
theorem all_some (hadj : ∀ v y, y ∈ adj v → y < n) : ∀ (is : List Nat) (st : TS), (∀ i, i ∈ is → i < n) → Inv adj n (fun _ => False) st → ∃ st', allF adj n is st = some st' ∧ Inv adj n (fun _ => False) st' ∧ (∀ v m, st.num v = some m → st'.num v = some m) ∧ ∀ i, i ∈ is → st'.num i ≠ none
  | [], st, _, h => ⟨st, rfl, h, fun _ _ h => h, fun i hi => by cases hi⟩
  | i :: is, st, hn, h => by
    cases hq : st.num i with
    | none =>
      have hun : unv n st ≤ n := by
        have := List.countP_le_length (p := fun v => (st.num v).isNone) (l := List.range n)
        simpa [unv] using this
      obtain ⟨s, e, hp⟩ := visit_some hadj n _ i st h hq (hn i List.mem_cons_self) hun
      obtain ⟨st', e2, hi2, hnum, hall⟩ := all_some hadj is s (fun j hj => hn j (List.mem_cons_of_mem _ hj)) hp.inv
      refine ⟨st', by simp only [allF, hq, e, Option.bind_some]; exact e2, hi2, fun v m hv => hnum v m (hp.num v m hv), fun j hj => ?_⟩
      rcases List.mem_cons.1 hj with rfl | hj
      · cases hs : s.num j with
        | none => exact absurd hs hp.self
        | some m => rw [hnum j m hs]; simp
      · exact hall j hj
    | some m =>
      obtain ⟨st', e2, hi2, hnum, hall⟩ := all_some hadj is st (fun j hj => hn j (List.mem_cons_of_mem _ hj)) h
      refine ⟨st', by simp only [allF, hq]; exact e2, hi2, hnum, fun j hj => ?_⟩
      rcases List.mem_cons.1 hj with rfl | hj
      · rw [hnum j m hq]; simp
      · exact hall j hj

structure Found (adj : Nat → List Nat) (n : Nat) (L : List (List Nat)) : Prop where
  mem : ∀ g, g ∈ L → ∃ v, v < n ∧ Cyc adj v ∧ IsGroup adj g v
  all : ∀ v, v < n → Cyc adj v → ∃ g, g ∈ L ∧ v ∈ g
  dis : L.Pairwise (fun a b => ∀ v, v ∈ a → v ∈ b → False)
theorem found_of_all (hadj : ∀ v y, y ∈ adj v → y < n) : ∃ st, allF adj n (List.range n) zeroT = some st ∧ Found adj n st.out := by
  obtain ⟨st, e, hi, _, hall⟩ := all_some (n := n) hadj (List.range n) zeroT (fun i hi => by simpa using hi) inv_zero
  have hs := hi.empty
  refine ⟨st, e, fun g hg => ?_, fun v hv hc => ?_, hi.outDis⟩
  · obtain ⟨v, m, hv, _, hc, hgr⟩ := hi.outMem g hg
    exact ⟨v, (hi.dom v m hv).1, hc, hgr⟩
  · cases hq : st.num v with
    | none => exact absurd hq (hall v (by simpa using hv))
    | some m => exact hi.outAll v m hq (by rw [hs]; simp) hc
end
end Go.Proofs.YtaigepddkgpplaaGreatDoor.T

