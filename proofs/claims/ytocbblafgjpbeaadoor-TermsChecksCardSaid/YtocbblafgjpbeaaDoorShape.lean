/- The program's table of shapes, and what it says of a node. -/
import Derived.Test.YtocbblafgjpbeaaDoorName
import Derived.Test.YtocbblafgjpbeaaDoorDecode
namespace Go.Proofs.YtocbblafgjpbeaaDoor.Sp
structure Shape where
  a : Int
  l : Int
  m : Int
  k : Int
def shapes : List Shape := [⟨0, 0, 0, 0⟩, ⟨0, 1, 18446744073709551615, 0⟩, ⟨1, 0, 5, 0⟩, ⟨2, 0, 18446744073709551615, 0⟩, ⟨3, 0, 0, 1⟩, ⟨3, 0, 0, 1⟩, ⟨3, 0, 0, 0⟩, ⟨3, 0, 0, 2⟩, ⟨3, 0, 0, 2⟩, ⟨3, 0, 0, 2⟩, ⟨3, 1, 999, 0⟩, ⟨3, 0, 0, 0⟩, ⟨3, 1, 999, 0⟩, ⟨3, 0, 0, 0⟩, ⟨4, 0, 18446744073709551615, 0⟩, ⟨4, 0, 0, 0⟩, ⟨4, 0, 0, 0⟩, ⟨4, 0, 0, 1⟩, ⟨4, 0, 0, 0⟩, ⟨4, 0, 12, 0⟩, ⟨4, 0, 2, 0⟩]
def Shape.cells (s : Shape) : List Value := [.int .i64 s.a, .int .u64 s.l, .int .u64 s.m, .int .i64 s.k]
def shapeCells : Array Value := (shapes.flatMap Shape.cells).toArray
def GShapes (w : World) : Prop := ∃ fr : TypeId × Nat × Nat, w.heap[4]? = some (.cells shapeCells fr.1 fr.2)
def nameRule (k : Int) (s : Str) : Bool := if k = 0 then sEq s empty else if k = 1 then nameOk s else (sEq s empty || nameOk s)
theorem shape_get (op : Int) (h1 : 1 ≤ op) (h2 : op ≤ 20) : ∃ s : Shape, (∀ (w : World), GShapes w → w.cell? ⟨4, op.toNat * 4, none⟩ = some (.int .i64 s.a) ∧ w.cell? ⟨4, op.toNat * 4 + 1, none⟩ = some (.int .u64 s.l) ∧ w.cell? ⟨4, op.toNat * 4 + 2, none⟩ = some (.int .u64 s.m) ∧ w.cell? ⟨4, op.toNat * 4 + 3, none⟩ = some (.int .i64 s.k)) ∧
    (s.k = 0 ∨ s.k = 1 ∨ s.k = 2) ∧ 0 ≤ s.l ∧ s.l ≤ 1 ∧ 0 ≤ s.m ∧
    ∀ (at_ n : Int) (nm : Str), 0 ≤ n → n ≤ 18446744073709551615 → okNode at_ ⟨op, n, nm⟩ = (decide (s.a = at_) && decide (s.l ≤ n) && decide (n ≤ s.m) && nameRule s.k nm) := by
  have key : ∀ (j : Nat) (s : Shape), shapes[j]? = some s → ∀ (w : World), GShapes w → w.cell? ⟨4, j * 4, none⟩ = some (.int .i64 s.a) ∧ w.cell? ⟨4, j * 4 + 1, none⟩ = some (.int .u64 s.l) ∧ w.cell? ⟨4, j * 4 + 2, none⟩ = some (.int .u64 s.m) ∧ w.cell? ⟨4, j * 4 + 3, none⟩ = some (.int .i64 s.k) := by
    intro j s hs w ⟨fr, hw⟩
    have hg : ∀ (l : List Shape) (j : Nat) (s : Shape), l[j]? = some s → (l.flatMap Shape.cells)[j * 4]? = some (.int .i64 s.a) ∧ (l.flatMap Shape.cells)[j * 4 + 1]? = some (.int .u64 s.l) ∧ (l.flatMap Shape.cells)[j * 4 + 2]? = some (.int .u64 s.m) ∧ (l.flatMap Shape.cells)[j * 4 + 3]? = some (.int .i64 s.k) := by
      intro l
      induction l with
      | nil => intro j s h; simp at h
      | cons x r ih =>
        intro j s h
        rw [List.flatMap_cons]
        have e : x.cells = [.int .i64 x.a, .int .u64 x.l, .int .u64 x.m, .int .i64 x.k] := rfl
        rw [e]
        cases j with
        | zero => simp at h; subst h; simp
        | succ j =>
          simp at h
          obtain ⟨h1, h2, h3, h4⟩ := ih j s h
          rw [show (j + 1) * 4 = j * 4 + 4 by omega]
          refine ⟨?_, ?_, ?_, ?_⟩
          · rw [List.getElem?_append_right (by simp)]; simpa using h1
          · rw [List.getElem?_append_right (by simp)]; simpa [show j * 4 + 4 + 1 - 4 = j * 4 + 1 by omega] using h2
          · rw [List.getElem?_append_right (by simp)]; simpa [show j * 4 + 4 + 2 - 4 = j * 4 + 2 by omega] using h3
          · rw [List.getElem?_append_right (by simp)]; simpa [show j * 4 + 4 + 3 - 4 = j * 4 + 3 by omega] using h4
    obtain ⟨h1, h2, h3, h4⟩ := hg shapes j s hs
    refine ⟨?_, ?_, ?_, ?_⟩
    · rw [cell_of hw]; simpa [shapeCells] using h1
    · rw [cell_of hw]; simpa [shapeCells] using h2
    · rw [cell_of hw]; simpa [shapeCells] using h3
    · rw [cell_of hw]; simpa [shapeCells] using h4
  have hop : op = 1 ∨ op = 2 ∨ op = 3 ∨ op = 4 ∨ op = 5 ∨ op = 6 ∨ op = 7 ∨ op = 8 ∨ op = 9 ∨ op = 10 ∨ op = 11 ∨ op = 12 ∨ op = 13 ∨ op = 14 ∨ op = 15 ∨ op = 16 ∨ op = 17 ∨ op = 18 ∨ op = 19 ∨ op = 20 := by omega
  clear h1 h2
  rcases hop with rfl | rfl | rfl | rfl | rfl | rfl | rfl | rfl | rfl | rfl | rfl | rfl | rfl | rfl | rfl | rfl | rfl | rfl | rfl | rfl
  all_goals
    refine ⟨_, key _ _ rfl, ?_, ?_, ?_, ?_, ?_⟩
    · first | exact .inl rfl | exact .inr (.inl rfl) | exact .inr (.inr rfl)
    · decide
    · decide
    · decide
    · intro at_ n nm h0 hm
      have hn0 : decide (0 ≤ n) = true := by simpa using h0
      have hnm : decide (n ≤ 18446744073709551615) = true := by simpa using hm
      have hzz : decide (n = 0) = (decide (0 ≤ n) && decide (n ≤ 0)) := by
        rw [Bool.eq_iff_iff]; simp; omega
      simp [okNode, opPlace, fieldsOk, nameRule, hn0, hnm, hzz, Bool.and_assoc, Bool.and_comm, Bool.and_left_comm]
end Go.Proofs.YtocbblafgjpbeaaDoor.Sp
