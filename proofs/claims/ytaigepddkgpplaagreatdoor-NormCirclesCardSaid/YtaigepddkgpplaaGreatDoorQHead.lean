/- The example of the chapter, and the check that each law of layer 14 begins with. -/
import Derived.Test.YtaigepddkgpplaaGreatDoorQR14
import Derived.Deep.RegionWith
namespace Go.Proofs.YtaigepddkgpplaaGreatDoor.M
open Go Go.RowKit Go.Maps Go.WideMaps Go.Proofs.YtaigepddkgpplaaGreatDoorW.PrintWords Go.Proofs.YtaigepddkgpplaaGreatDoorW.PrintLast Go.Proofs.YtaigepddkgpplaaGreatDoorW.PrintMore Go.Proofs.YtaigepddkgpplaaGreatDoor.B Go.Proofs.YtaigepddkgpplaaGreatDoor.T
set_option linter.unusedVariables false
set_option linter.unusedSimpArgs false

/-- a row that lies in a block of its own -/
theorem C_blk {α : Type} {d : Kd α} {W : World} {b : Nat} {t : TypeId} {cs : List Value} {fr : Nat × Nat} {xs : List α} (h : W.heap[b]? = some (.cells cs.toArray t fr)) (hr : Reps (d.K W) d.sz xs cs) (hm : xs.length ≤ 9223372036854775807) : Kd.C d W (some ⟨b, 0, none⟩) xs.length xs := by
  refine ⟨rfl, hm, fun hn => ⟨_, rfl, fun j p hj => ?_⟩⟩
  have hK := hr.2 j p hj
  refine ⟨_, d.K_len hK, hK, fun i u hi => ?_⟩
  rw [add_plain]
  have hi2 : (cs.drop (j * d.sz))[i]? = some u := by
    rw [List.getElem?_take] at hi
    split at hi
    · exact hi
    · cases hi
  rw [List.getElem?_drop] at hi2
  simp [World.cell?, h, hi2]
def mtext : ByteArray := ⟨#[109, 101, 109, 98, 101, 114]⟩
def ptext : ByteArray := ⟨#[112, 111, 111, 114]⟩
def fsE : List S110 := [⟨mtext, 1, 0, 1⟩, ⟨ptext, 1, 0, 1⟩]
def flagF (s : ByteArray) : S24 := ⟨3, s, 1, 1, []⟩
def provE (id : ByteArray) (f : S24) (ex : List ByteArray) : S67 := ⟨id, 0, 0, ⟨#[]⟩, 0, f, ex, z65, z65, z65⟩
def psE (xs : List ByteArray) : List S67 := [provE ⟨#[97]⟩ ⟨1, ⟨#[]⟩, 0, 0, []⟩ [], provE ⟨#[98]⟩ (flagF mtext) [⟨#[97]⟩], provE ⟨#[99]⟩ (flagF ptext) xs]
theorem flag137 (s : ByteArray) (w : World) : Calls Tryz.prog 137 #[.string s] w fun e w' => e = .returned (.agg #[.int .i64 3, .string s, .int .i64 1, .int .i64 1, .slice none 0 0]) ∧ w.alloc (.cells #[.int .i64 3, .string s, .int .i64 1, .int .i64 1, .slice none 0 0] 24) = w' := by
  go_enter Tryz.func137, Tryz.ntmps137
  go_wp2
  refine bodyPost_ret (v := .agg #[.int .i64 3, .string s, .int .i64 1, .int .i64 1, .slice none 0 0]) (by simp [results, Tryz.results137, go_sem]) rfl ⟨rfl, rfl⟩
def ExRet (w : World) (xs : List ByteArray) (e : Ending) (W : World) : Prop :=
  ∃ Af Ap, e = .returned (.agg #[.slice Af 2 2, .slice Ap 3 3, .slice none 0 0]) ∧ Below w.heap.size w W ∧ Kd.C k110 W Af 2 fsE ∧ Kd.C k67 W Ap 3 (psE xs)
/-- the blocks that the example makes -/
def ExAt (w : World) (Ac : Option Addr) (cc : Nat) (xs : List ByteArray) (W : World) : Prop :=
  ∃ k, 3 ≤ k ∧ k ≤ 5 ∧ W.heap[w.heap.size]? = some (.cells #[.slice (some ⟨w.heap.size + 1, 0, none⟩) 2 2, .slice (some ⟨w.heap.size + 6, 0, none⟩) 3 3, .slice none 0 0] 52 (0, 0)) ∧
    W.heap[w.heap.size + 1]? = some (.cells #[.string mtext, .int .i64 1, .int .i64 0, .int .i64 1, .string ptext, .int .i64 1, .int .i64 0, .int .i64 1] 110 (0, 0)) ∧
    W.heap[w.heap.size + k]? = some (.cells #[.string ⟨#[97]⟩] 9 (0, 0)) ∧
    W.heap[w.heap.size + 6]? = some (.cells #[.string ⟨#[97]⟩, .int .i64 0, .int .i64 0, .string ⟨#[]⟩, .int .i64 0, .int .i64 1, .string ⟨#[]⟩, .int .i64 0, .int .i64 0, .slice none 0 0, .slice none 0 0, .int .i64 0, .string ⟨#[]⟩, .int .i64 0, .slice none 0 0, .int .i64 0, .string ⟨#[]⟩, .int .i64 0, .slice none 0 0, .int .i64 0, .string ⟨#[]⟩, .int .i64 0, .slice none 0 0,
      .string ⟨#[98]⟩, .int .i64 0, .int .i64 0, .string ⟨#[]⟩, .int .i64 0, .int .i64 3, .string mtext, .int .i64 1, .int .i64 1, .slice none 0 0, .slice (some ⟨w.heap.size + k, 0, none⟩) 1 1, .int .i64 0, .string ⟨#[]⟩, .int .i64 0, .slice none 0 0, .int .i64 0, .string ⟨#[]⟩, .int .i64 0, .slice none 0 0, .int .i64 0, .string ⟨#[]⟩, .int .i64 0, .slice none 0 0,
      .string ⟨#[99]⟩, .int .i64 0, .int .i64 0, .string ⟨#[]⟩, .int .i64 0, .int .i64 3, .string ptext, .int .i64 1, .int .i64 1, .slice none 0 0, .slice Ac xs.length cc, .int .i64 0, .string ⟨#[]⟩, .int .i64 0, .slice none 0 0, .int .i64 0, .string ⟨#[]⟩, .int .i64 0, .slice none 0 0, .int .i64 0, .string ⟨#[]⟩, .int .i64 0, .slice none 0 0] 67 (0, 0)) ∧ Below w.heap.size w W
/-- the same, whichever order the blocks came in -/
theorem ex_at (w : World) (Ac : Option Addr) (cc : Nat) (xs : List ByteArray) (o3 o4 o5 : Obj) (k b : Nat) (hb : b = w.heap.size + k) (h : (k = 3 ∧ o3 = .cells #[.string ⟨#[97]⟩] 9) ∨ (k = 4 ∧ o4 = .cells #[.string ⟨#[97]⟩] 9) ∨ (k = 5 ∧ o5 = .cells #[.string ⟨#[97]⟩] 9)) :
    ExAt w Ac cc xs ((((((((w.alloc (.cells #[.slice (some ⟨w.heap.size + 1, 0, none⟩) 2 2, .slice (some ⟨w.heap.size + 1 + 1 + 1 + 1 + 1 + 1, 0, none⟩) 3 3, .slice none 0 0] 52)).alloc (.cells #[.string ⟨#[109, 101, 109, 98, 101, 114]⟩, .int .i64 1, .int .i64 0, .int .i64 1, .string ⟨#[112, 111, 111, 114]⟩, .int .i64 1, .int .i64 0, .int .i64 1] 110)).alloc (.cells #[.slice (some ⟨w.heap.size + 1, 0, none⟩) 2 2] 27)).alloc o3).alloc o4).alloc o5).alloc (.cells #[.string ⟨#[97]⟩, .int .i64 0, .int .i64 0, .string ⟨#[]⟩, .int .i64 0, .int .i64 1, .string ⟨#[]⟩, .int .i64 0, .int .i64 0, .slice none 0 0, .slice none 0 0, .int .i64 0, .string ⟨#[]⟩, .int .i64 0, .slice none 0 0, .int .i64 0, .string ⟨#[]⟩, .int .i64 0, .slice none 0 0, .int .i64 0, .string ⟨#[]⟩, .int .i64 0, .slice none 0 0, .string ⟨#[98]⟩, .int .i64 0, .int .i64 0, .string ⟨#[]⟩, .int .i64 0, .int .i64 3, .string ⟨#[109, 101, 109, 98, 101, 114]⟩, .int .i64 1, .int .i64 1, .slice none 0 0, .slice (some ⟨b, 0, none⟩) 1 1, .int .i64 0, .string ⟨#[]⟩, .int .i64 0, .slice none 0 0, .int .i64 0, .string ⟨#[]⟩, .int .i64 0, .slice none 0 0, .int .i64 0, .string ⟨#[]⟩, .int .i64 0, .slice none 0 0, .string ⟨#[99]⟩, .int .i64 0, .int .i64 0, .string ⟨#[]⟩, .int .i64 0, .int .i64 3, .string ⟨#[112, 111, 111, 114]⟩, .int .i64 1, .int .i64 1, .slice none 0 0, .slice Ac xs.length cc, .int .i64 0, .string ⟨#[]⟩, .int .i64 0, .slice none 0 0, .int .i64 0, .string ⟨#[]⟩, .int .i64 0, .slice none 0 0, .int .i64 0, .string ⟨#[]⟩, .int .i64 0, .slice none 0 0] 67)).drew) := by
  have e0 : ∀ (u : World) (o : Obj), (u.alloc o).heap.size = u.heap.size + 1 := fun u o => by simp
  refine ⟨k, by omega, by omega, ?_, ?_, ?_, ?_, ?_⟩
  · exact blk_alloc (blk_alloc (blk_alloc (blk_alloc (blk_alloc (blk_alloc (heap_at _ _ rfl) _) _) _) _) _) _
  · exact blk_alloc (blk_alloc (blk_alloc (blk_alloc (blk_alloc (heap_at _ _ (by simp [e0])) _) _) _) _) _
  · rcases h with ⟨rfl, rfl⟩ | ⟨rfl, rfl⟩ | ⟨rfl, rfl⟩
    · exact blk_alloc (blk_alloc (blk_alloc (heap_at _ _ (by simp [e0])) _) _) _
    · exact blk_alloc (blk_alloc (heap_at _ _ (by simp [e0])) _) _
    · exact blk_alloc (heap_at _ _ (by simp [e0])) _
  · subst hb; exact heap_at _ _ (by simp [e0])
  · exact (((((((((Below.refl _ _).alloc (Nat.le_refl _) _).alloc (by simp) _).alloc (by simp; omega) _).alloc (by simp; omega) _).alloc (by simp; omega) _).alloc (by simp; omega) _).alloc (by simp; omega) _)).drew
def ExPost (w : World) (Ac : Option Addr) (cc : Nat) (xs : List ByteArray) : Exit → Act → World → Prop
  | .normal, a, W => a.defers = [] ∧ a.tmps[2]? = some (.pointer (some ⟨w.heap.size, 0, none⟩)) ∧ ExAt w Ac cc xs W
  | _, _, _ => False
theorem ex_reps110 (W : World) : Reps (k110.K W) k110.sz fsE [.string mtext, .int .i64 1, .int .i64 0, .int .i64 1, .string ptext, .int .i64 1, .int .i64 0, .int .i64 1] :=
  (Reps.none (k110.K W) 4).snoc (k110_mk W ⟨mtext, 1, 0, 1⟩) rfl |>.snoc (k110_mk W ⟨ptext, 1, 0, 1⟩) rfl
theorem C_nil {α : Type} (d : Kd α) (W : World) : Kd.C d W none ([] : List α).length [] := ⟨rfl, by simp, fun h => absurd h (Nat.lt_irrefl _)⟩
theorem ex_reps67 (W : World) (b cc : Nat) {Ac : Option Addr} (xs : List ByteArray) (hb : Kd.C Kd.string W (some ⟨b, 0, none⟩) 1 [⟨#[97]⟩]) (hx : Kd.C Kd.string W Ac xs.length xs) (hl : xs.length ≤ cc) :
    Reps (k67.K W) k67.sz (psE xs) [.string ⟨#[97]⟩, .int .i64 0, .int .i64 0, .string ⟨#[]⟩, .int .i64 0, .int .i64 1, .string ⟨#[]⟩, .int .i64 0, .int .i64 0, .slice none 0 0, .slice none 0 0, .int .i64 0, .string ⟨#[]⟩, .int .i64 0, .slice none 0 0, .int .i64 0, .string ⟨#[]⟩, .int .i64 0, .slice none 0 0, .int .i64 0, .string ⟨#[]⟩, .int .i64 0, .slice none 0 0,
      .string ⟨#[98]⟩, .int .i64 0, .int .i64 0, .string ⟨#[]⟩, .int .i64 0, .int .i64 3, .string mtext, .int .i64 1, .int .i64 1, .slice none 0 0, .slice (some ⟨b, 0, none⟩) 1 1, .int .i64 0, .string ⟨#[]⟩, .int .i64 0, .slice none 0 0, .int .i64 0, .string ⟨#[]⟩, .int .i64 0, .slice none 0 0, .int .i64 0, .string ⟨#[]⟩, .int .i64 0, .slice none 0 0,
      .string ⟨#[99]⟩, .int .i64 0, .int .i64 0, .string ⟨#[]⟩, .int .i64 0, .int .i64 3, .string ptext, .int .i64 1, .int .i64 1, .slice none 0 0, .slice Ac xs.length cc, .int .i64 0, .string ⟨#[]⟩, .int .i64 0, .slice none 0 0, .int .i64 0, .string ⟨#[]⟩, .int .i64 0, .slice none 0 0, .int .i64 0, .string ⟨#[]⟩, .int .i64 0, .slice none 0 0] :=
  (Reps.none (k67.K W) 23).snoc (k67_mk W (provE ⟨#[97]⟩ ⟨1, ⟨#[]⟩, 0, 0, []⟩ []) (A9 := none) (c9 := 0) (by simp [provE]) (C_nil _ _) (A10 := none) (c10 := 0) (by simp [provE]) (C_nil _ _) (A14 := none) (c14 := 0) (by simp [provE, z65]) (C_nil _ _) (A18 := none) (c18 := 0) (by simp [provE, z65]) (C_nil _ _) (A22 := none) (c22 := 0) (by simp [provE, z65]) (C_nil _ _)) rfl
    |>.snoc (k67_mk W (provE ⟨#[98]⟩ (flagF mtext) [⟨#[97]⟩]) (A9 := none) (c9 := 0) (by simp [provE, flagF]) (C_nil _ _) (A10 := some ⟨b, 0, none⟩) (c10 := 1) (by simp [provE]) hb (A14 := none) (c14 := 0) (by simp [provE, z65]) (C_nil _ _) (A18 := none) (c18 := 0) (by simp [provE, z65]) (C_nil _ _) (A22 := none) (c22 := 0) (by simp [provE, z65]) (C_nil _ _)) rfl
    |>.snoc (k67_mk W (provE ⟨#[99]⟩ (flagF ptext) xs) (A9 := none) (c9 := 0) (by simp [provE, flagF]) (C_nil _ _) (A10 := Ac) (c10 := cc) (by simpa [provE] using hl) hx (A14 := none) (c14 := 0) (by simp [provE, z65]) (C_nil _ _) (A18 := none) (c18 := 0) (by simp [provE, z65]) (C_nil _ _) (A22 := none) (c22 := 0) (by simp [provE, z65]) (C_nil _ _)) rfl
set_option maxRecDepth 100000 in
set_option maxHeartbeats 4000000 in
theorem example86 (Ac : Option Addr) (cc : Nat) (xs : List ByteArray) (w : World) (hC : Kd.C Kd.string w Ac xs.length xs) (hl : xs.length ≤ cc) :
    Calls Tryz.prog 86 #[.slice Ac xs.length cc] w (ExRet w xs) := by
  have HC := Lib.hid hC; have HLC := Lib.hid hl
  clear hC hl
  go_enter Tryz.func86, Tryz.ntmps86
  go_upto_region 2 with (fail)
  refine Code.wp_mono (Q := ExPost w Ac cc xs) ?_ ?_
  rotate_left
  · go_region_with ((go_at_call 137; refine (flag137 _ _).mono ?_; rintro e W' ⟨rfl, rfl⟩))
    all_goals refine ⟨rfl, rfl, ?_⟩
    all_goals (with_reducible first | exact ex_at w Ac cc xs _ _ _ 3 _ rfl (.inl ⟨rfl, rfl⟩) | exact ex_at w Ac cc xs _ _ _ 4 _ rfl (.inr (.inl ⟨rfl, rfl⟩)) | exact ex_at w Ac cc xs _ _ _ 5 _ rfl (.inr (.inr ⟨rfl, rfl⟩)))
  intro e a W hX
  cases e with
  | normal =>
    obtain ⟨hdf, ht2, k, hk3, hk5, hl, hf, ha, hp, hb⟩ := hX
    have hl0 : W.cell? ⟨w.heap.size, 0, none⟩ = some (.slice (some ⟨w.heap.size + 1, 0, none⟩) 2 2) := cell_blk hl rfl
    have hl1 : W.cell? ⟨w.heap.size, 1, none⟩ = some (.slice (some ⟨w.heap.size + 6, 0, none⟩) 3 3) := cell_blk hl rfl
    have hl2 : W.cell? ⟨w.heap.size, 2, none⟩ = some (.slice none 0 0) := cell_blk hl rfl
    have hret : ExRet w xs (.returned (.agg #[.slice (some ⟨w.heap.size + 1, 0, none⟩) 2 2, .slice (some ⟨w.heap.size + 6, 0, none⟩) 3 3, .slice none 0 0])) W := ⟨_, _, rfl, hb, C_blk (d := k110) (xs := fsE) hf (ex_reps110 W) (by simp [fsE]), C_blk (d := k67) (xs := psE xs) hp (ex_reps67 W _ _ xs (C_blk (d := Kd.string) (xs := [(⟨#[97]⟩ : ByteArray)]) (cs := [.string ⟨#[97]⟩]) ha (Kd.reps_scalar [(⟨#[97]⟩ : ByteArray)]) (by simp)) (Kd.C_below HC.out hb) HLC.out) (by simp [psE])⟩
    have HRET := Lib.hid hret
    clear hret hl hf ha hp hb
    go_wp2_with fail
    refine bodyPost_ret (v := .agg #[.slice (some ⟨w.heap.size + 1, 0, none⟩) 2 2, .slice (some ⟨w.heap.size + 6, 0, none⟩) 3 3, .slice none 0 0]) (by simp [results, Tryz.results86, go_sem, ht2, hl0, hl1, hl2]) hdf HRET.out
  | _ => exact hX.elim
end Go.Proofs.YtaigepddkgpplaaGreatDoor.M

