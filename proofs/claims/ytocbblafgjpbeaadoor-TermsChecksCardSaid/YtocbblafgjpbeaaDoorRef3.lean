/- Walks: the reference: what a node wants, in memory; where a tree ends. -/
import Derived.Test.YtocbblafgjpbeaaDoorRef2
namespace Go.Proofs.YtocbblafgjpbeaaDoor.Sp
open Go.RowKit
set_option linter.unusedVariables false
set_option linter.unusedSimpArgs false

def Want.cells (x : Want) : List Value := [.int .i64 x.place, .int .i64 x.depth, .int .u64 x.left]
def wantCells (l : List Want) : List Value := l.flatMap Want.cells
theorem wantCells_append (a b : List Want) : wantCells (a ++ b) = wantCells a ++ wantCells b := by simp [wantCells]
theorem wantCells_length (l : List Want) : (wantCells l).length = l.length * 3 := by
  induction l with
  | nil => rfl
  | cons x r ih => simp only [wantCells, List.flatMap_cons, List.length_append, List.length_cons] at *; rw [ih]; simp [Want.cells]; omega
theorem wantCells_get (l : List Want) : ∀ (j : Nat) (x : Want), l[j]? = some x → (wantCells l)[j * 3]? = some (.int .i64 x.place) ∧ (wantCells l)[j * 3 + 1]? = some (.int .i64 x.depth) ∧ (wantCells l)[j * 3 + 2]? = some (.int .u64 x.left) := by
  induction l with
  | nil => intro j v h; simp at h
  | cons x r ih =>
    intro j v h
    have e : wantCells (x :: r) = [.int .i64 x.place, .int .i64 x.depth, .int .u64 x.left] ++ wantCells r := rfl
    rw [e]
    cases j with
    | zero => simp at h; subst h; simp
    | succ j =>
      simp at h
      obtain ⟨h1, h2, h3⟩ := ih j v h
      rw [show (j + 1) * 3 = j * 3 + 3 by omega]
      refine ⟨?_, ?_, ?_⟩
      · rw [List.getElem?_append_right (by simp)]; simpa using h1
      · rw [List.getElem?_append_right (by simp)]; simpa [show j * 3 + 3 + 1 - 3 = j * 3 + 1 by omega] using h2
      · rw [List.getElem?_append_right (by simp)]; simpa [show j * 3 + 3 + 2 - 3 = j * 3 + 2 by omega] using h3
/-- A slice of wants that is read. -/
def WantsAt (w : World) (A : Option Addr) (l : List Want) : Prop :=
  ∀ j x, l[j]? = some x → ∃ b, A = some ⟨b, 0, none⟩ ∧ b < w.heap.size ∧ w.cell? ⟨b, j * 3, none⟩ = some (.int .i64 x.place) ∧ w.cell? ⟨b, j * 3 + 1, none⟩ = some (.int .i64 x.depth) ∧ w.cell? ⟨b, j * 3 + 2, none⟩ = some (.int .u64 x.left)
theorem WantsAt.of_block {w : World} {b : Nat} {l : List Want} {e : TypeId} {f : Nat × Nat} (h : w.heap[b]? = some (.cells (wantCells l).toArray e f)) : WantsAt w (some ⟨b, 0, none⟩) l := by
  intro j x hj
  obtain ⟨h1, h2, h3⟩ := wantCells_get l j x hj
  exact ⟨b, rfl, heap_lt h, (cell_of h _).trans (by simpa using h1), (cell_of h _).trans (by simpa using h2), (cell_of h _).trans (by simpa using h3)⟩
theorem WantsAt.of_alloc {w : World} {b : Nat} {l : List Want} {e : TypeId} (hb : b = w.heap.size) : WantsAt (w.alloc (.cells (wantCells l).toArray e)) (some ⟨b, 0, none⟩) l := by
  subst hb; exact WantsAt.of_block (heap_alloc_new _ _)
theorem WantsAt.nil (w : World) (A : Option Addr) : WantsAt w A [] := fun j x h => by simp at h
theorem WantsAt.keep {w w' : World} {A : Option Addr} {l : List Want} (h : WantsAt w A l) (hb : Below w.heap.size w w') : WantsAt w' A l := by
  intro j x hj
  obtain ⟨b, h1, h2, h3, h4, h5⟩ := h j x hj
  exact ⟨b, h1, Nat.lt_of_lt_of_le h2 hb.size, (hb.cell (p := ⟨b, j * 3, none⟩) h2).trans h3, (hb.cell (p := ⟨b, j * 3 + 1, none⟩) h2).trans h4, (hb.cell (p := ⟨b, j * 3 + 2, none⟩) h2).trans h5⟩
def PartsPost (x : TN) (d : Int) (w : World) (e : Ending) (w' : World) : Prop :=
  ∃ A c, e = .returned (.slice A (wants x d).length c) ∧ WantsAt w' A (wants x d).reverse ∧ Below w.heap.size w w' ∧ ∀ a, A = some a → w.heap.size ≤ a.block
set_option maxRecDepth 100000 in
set_option maxHeartbeats 3200000 in
theorem rparts_20 (n : Int) (s : Str) (d : Int) (w : World) : Calls Tryd.prog 58 #[.agg #[.int .i64 20, .int .u64 n, .string s], .int .i64 d] w (PartsPost ⟨20, n, s⟩ d w) := by
  cases hn2 : (n == 2) with
  | true =>
    have HW : Asd (wants ⟨20, n, s⟩ d = [⟨4, d, 3⟩]) := ⟨by simp [wants]; simpa using hn2⟩
    go_enter Tryd.func58, Tryd.ntmps58
    go_wp2_with fail
    go_ret
    refine ⟨_, _, by rw [HW.out]; rfl, by rw [HW.out]; exact WantsAt.of_alloc (by simp), ?_, by intro a ha; first | (cases ha; done) | (injection ha with ha; subst ha; simp <;> omega)⟩
    repeat (first | exact Below.refl _ _ | refine Below.alloc ?_ (by simp <;> omega) _ | refine Below.setCell ?_ (by simp <;> omega) _)
  | false =>
    have HW : Asd (wants ⟨20, n, s⟩ d = [⟨4, d, 2⟩]) := ⟨by simp [wants]; simpa using hn2⟩
    go_enter Tryd.func58, Tryd.ntmps58
    go_wp2_with fail
    go_ret
    refine ⟨_, _, by rw [HW.out]; rfl, by rw [HW.out]; exact WantsAt.of_alloc (by simp), ?_, by intro a ha; first | (cases ha; done) | (injection ha with ha; subst ha; simp <;> omega)⟩
    repeat (first | exact Below.refl _ _ | refine Below.alloc ?_ (by simp <;> omega) _ | refine Below.setCell ?_ (by simp <;> omega) _)
set_option maxRecDepth 100000 in
set_option maxHeartbeats 3200000 in
theorem rparts_any (op n : Int) (s : Str) (d : Int) (w : World) (ho : 1 ≤ op ∧ op ≤ 20) :
    Calls Tryd.prog 58 #[.agg #[.int .i64 op, .int .u64 n, .string s], .int .i64 d] w (PartsPost ⟨op, n, s⟩ d w) := by
  obtain ⟨h1, h2⟩ := ho
  have hop : op = 1 ∨ op = 2 ∨ op = 3 ∨ op = 4 ∨ op = 5 ∨ op = 6 ∨ op = 7 ∨ op = 8 ∨ op = 9 ∨ op = 10 ∨ op = 11 ∨ op = 12 ∨ op = 13 ∨ op = 14 ∨ op = 15 ∨ op = 16 ∨ op = 17 ∨ op = 18 ∨ op = 19 ∨ op = 20 := by omega
  clear h1 h2
  by_cases h20 : op = 20
  · subst h20; exact rparts_20 n s d w
  · rcases hop with rfl | rfl | rfl | rfl | rfl | rfl | rfl | rfl | rfl | rfl | rfl | rfl | rfl | rfl | rfl | rfl | rfl | rfl | rfl | rfl
    all_goals first | exact absurd rfl h20 | skip
    all_goals
      go_enter Tryd.func58, Tryd.ntmps58
      go_wp2_with fail
      go_ret
      refine ⟨_, _, rfl, by first | exact WantsAt.of_alloc (by simp) | exact WantsAt.nil _ _, ?_, by intro a ha; first | (cases ha; done) | (injection ha with ha; subst ha; simp <;> omega)⟩
      repeat (first | exact Below.refl _ _ | refine Below.alloc ?_ (by simp <;> omega) _ | refine Below.setCell ?_ (by simp <;> omega) _)
end Go.Proofs.YtocbblafgjpbeaaDoor.Sp
