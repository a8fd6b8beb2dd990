/- What memory holds: frames of calls, nodes and forests behind pointers, rows of variables. No program in sight but types' numbers. -/
import Derived.Test.YtocbblafgjpbeaaDoorSpec
import Derived.Below
import Derived.WalkSmall
import Derived.OwnWalk
import Derived.Laws.OwnMore
namespace Go.Proofs.YtocbblafgjpbeaaDoor.Sp
open Go.RowKit

/-- A fact that the walk does not look into. -/
structure Asd (p : Prop) : Prop where mk :: (out : p)

/-! ### Frames -/
/-- Of what was there only the blocks of S may have been written. -/
structure Tch (S : Nat → Prop) (w w' : World) : Prop where
  os : w'.os = w.os
  tape : w'.tape = w.tape
  output : w'.output = w.output
  size : w.heap.size ≤ w'.heap.size
  block : ∀ k, k < w.heap.size → ¬ S k → w'.heap[k]? = w.heap[k]?
theorem Tch.refl (S : Nat → Prop) (w : World) : Tch S w w := ⟨rfl, rfl, rfl, Nat.le_refl _, fun _ _ _ => rfl⟩
theorem Tch.trans' {S S' : Nat → Prop} {a b c : World} (h : Tch S a b) (k : Tch S' b c) (hs : ∀ i, i < a.heap.size → S' i → S i) : Tch S a c :=
  ⟨k.os.trans h.os, k.tape.trans h.tape, k.output.trans h.output, Nat.le_trans h.size k.size,
    fun i hi hn => (k.block i (Nat.lt_of_lt_of_le hi h.size) (fun e => hn (hs i hi e))).trans (h.block i hi hn)⟩
theorem Tch.trans {S : Nat → Prop} {a b c : World} (h : Tch S a b) (k : Tch S b c) : Tch S a c := h.trans' k fun _ _ h => h
theorem Tch.mono {S S' : Nat → Prop} {a b : World} (h : Tch S a b) (hs : ∀ i, i < a.heap.size → S i → S' i) : Tch S' a b :=
  ⟨h.os, h.tape, h.output, h.size, fun i hi hn => h.block i hi (fun e => hn (hs i hi e))⟩
theorem Tch.drew {S : Nat → Prop} {a w : World} (h : Tch S a w) : Tch S a w.drew := ⟨h.os, h.tape, h.output, h.size, h.block⟩
theorem Tch.drewN {S : Nat → Prop} {a w : World} (h : Tch S a w) (n : Nat) : Tch S a (w.drewN n) := ⟨h.os, h.tape, h.output, h.size, h.block⟩
theorem Tch.alloc {S : Nat → Prop} {a w : World} (h : Tch S a w) (o : Obj) : Tch S a (w.alloc o) :=
  ⟨h.os, h.tape, h.output, by have := h.size; simp; omega, fun i hi hn => (Below.heap_alloc _ _ _ (Nat.lt_of_lt_of_le hi h.size)).trans (h.block i hi hn)⟩
theorem Tch.setCell {S : Nat → Prop} {a w : World} (h : Tch S a w) {p : Addr} (hp : p.block < a.heap.size → S p.block) (u : Value) : Tch S a (w.setCell p u) :=
  ⟨h.os, h.tape, h.output, by have := h.size; simp [World.setCell]; omega, fun i hi hn => by
    rw [Below.heap_setCell _ _ _ _ (fun e => hn (by subst e; exact hp hi))]; exact h.block i hi hn⟩
theorem Tch.grown {S : Nat → Prop} {a w w' : World} {row : Option Nat} (h : Tch S a w) (hg : w.grownBy w' row) (hr : ∀ k, row = some k → k < a.heap.size → S k) : Tch S a w' :=
  ⟨hg.os.trans h.os, hg.tape.trans h.tape, hg.output.trans h.output, Nat.le_trans h.size hg.size, fun i hi hn =>
    (hg.block i (Nat.lt_of_lt_of_le hi h.size) (fun e => hn (hr i e.symm hi))).trans (h.block i hi hn)⟩
theorem Tch.below {S : Nat → Prop} {w w' : World} (h : Tch S w w') {B : Nat} (hS : ∀ i, S i → B ≤ i) (hB : B ≤ w.heap.size) : Below B w w' :=
  ⟨h.os, h.tape, h.output, h.size, fun i hi => h.block i (Nat.lt_of_lt_of_le hi hB) (fun e => Nat.lt_irrefl _ (Nat.lt_of_lt_of_le hi (hS i e)))⟩
theorem Tch.of_below {w w' : World} (S : Nat → Prop) (h : Below w.heap.size w w') : Tch S w w' := ⟨h.os, h.tape, h.output, h.size, fun i hi _ => h.block i hi⟩
theorem Tch.cell {S : Nat → Prop} {w w' : World} (h : Tch S w w') {a : Addr} (ha : a.block < w.heap.size) (hn : ¬ S a.block) : w'.cell? a = w.cell? a := World.cell?_of_block (w := w) (h.block a.block ha hn)
theorem Tch.cell_some {S : Nat → Prop} {w w' : World} (h : Tch S w w') {a : Addr} {v : Value} (hc : w.cell? a = some v) (hn : ¬ S a.block) : w'.cell? a = some v :=
  (h.cell (World.block_lt_of_cell? w a hc) hn).trans hc
theorem Tch.frozen {S : Nat → Prop} {w w' : World} (h : Tch S w w') {a : Addr} (ha : a.block < w.heap.size) (hn : ¬ S a.block) : w'.frozen? a = w.frozen? a := World.frozen?_of_block (w := w) (h.block a.block ha hn)
theorem Tch.owns {S : Nat → Prop} {w w' : World} (h : Tch S w w') {base e size n : Nat} {v : Value} {xs : List Value} (ho : w.ownsRow base e size v n xs) (hn : ∀ k, v.ownBlock = some k → ¬ S k) : w'.ownsRow base e size v n xs := by
  refine ⟨ho.1, ?_⟩
  rcases ho.2 with h0 | ⟨g, cap, cur, rfl, hb, hg, r⟩
  · exact .inl h0
  · exact .inr ⟨g, cap, cur, rfl, hb, by rw [h.block g (Array.getElem?_eq_some_iff.1 hg).1 (hn g rfl)]; exact hg, r⟩

/-- A block known whole. -/
theorem cell_of {w : World} {g : Nat} {c : Array Value} {e : TypeId} {f : Nat × Nat} (h : w.heap[g]? = some (.cells c e f)) (j : Nat) : w.cell? ⟨g, j, none⟩ = c[j]? := by
  simp [World.cell?, h]
theorem frozen_of {w : World} {g : Nat} {c : Array Value} {e : TypeId} (h : w.heap[g]? = some (.cells c e (0, 0))) (j : Nat) : w.frozen? ⟨g, j, none⟩ = false := by
  simp [World.frozen?, h]
theorem heap_set {w : World} {g : Nat} {c : Array Value} {e : TypeId} {f : Nat × Nat} (h : w.heap[g]? = some (.cells c e f)) (j : Nat) (v : Value) :
    (w.setCell ⟨g, j, none⟩ v).heap[g]? = some (.cells (c.setIfInBounds j v) e f) := by
  simp [World.setCell, Array.getElem?_modify, h]
theorem heap_lt {w : World} {g : Nat} {o : Obj} (h : w.heap[g]? = some o) : g < w.heap.size := (Array.getElem?_eq_some_iff.1 h).1

/-! ### Nodes behind pointers, in blocks of S -/
def KidsAt (S : Nat → Prop) (w : World) (A : Option Addr) (ks : List Nat) : Prop :=
  ∀ j k, ks[j]? = some k → ∃ kb, S kb ∧ A = some ⟨kb, 0, none⟩ ∧ w.cell? ⟨kb, j, none⟩ = some (.pointer (some ⟨k, 0, none⟩))
def NodeAt (S : Nat → Prop) (w : World) (b : Nat) (x : TN) (ks : List Nat) : Prop :=
  S b ∧ w.cell? ⟨b, 0, none⟩ = some (.int .i64 x.op) ∧ w.cell? ⟨b, 1, none⟩ = some (.int .u64 x.n) ∧ w.cell? ⟨b, 2, none⟩ = some (.string x.name) ∧
    ∃ A c, w.cell? ⟨b, 3, none⟩ = some (.slice A ks.length c) ∧ KidsAt S w A ks
def FoAt (S : Nat → Prop) (w : World) : Fo → List Nat → Prop
  | .nil, bs => bs = []
  | .cons x k r, bs => ∃ b bs' ks, bs = b :: bs' ∧ NodeAt S w b x ks ∧ FoAt S w k ks ∧ FoAt S w r bs'
/-- Two worlds alike in the blocks of S. -/
def Like (S : Nat → Prop) (w w' : World) : Prop := ∀ b, S b → w'.heap[b]? = w.heap[b]?
theorem Like.cell {S : Nat → Prop} {w w' : World} (h : Like S w w') {a : Addr} (ha : S a.block) : w'.cell? a = w.cell? a := World.cell?_of_block (w := w) (h _ ha)
theorem Like.of_below {B : Nat} {w w' : World} {S : Nat → Prop} (h : Below B w w') (hS : ∀ b, S b → b < B) : Like S w w' := fun b hb => h.block b (hS b hb)
theorem Like.of_tch {w w' : World} {S T : Nat → Prop} (h : Tch T w w') (hS : ∀ b, S b → b < w.heap.size ∧ ¬ T b) : Like S w w' := fun b hb => h.block b (hS b hb).1 (hS b hb).2
theorem KidsAt.keep {S : Nat → Prop} {w w' : World} {A : Option Addr} {ks : List Nat} (h : KidsAt S w A ks) (hb : Like S w w') : KidsAt S w' A ks := by
  intro j k hj
  obtain ⟨kb, h1, h2, h3⟩ := h j k hj
  exact ⟨kb, h1, h2, (hb.cell (a := ⟨kb, j, none⟩) h1).trans h3⟩
theorem NodeAt.keep {S : Nat → Prop} {w w' : World} {b : Nat} {x : TN} {ks : List Nat} (h : NodeAt S w b x ks) (hb : Like S w w') : NodeAt S w' b x ks := by
  obtain ⟨h0, h1, h2, h3, A, c, h4, h5⟩ := h
  exact ⟨h0, (hb.cell (a := ⟨b, 0, none⟩) h0).trans h1, (hb.cell (a := ⟨b, 1, none⟩) h0).trans h2, (hb.cell (a := ⟨b, 2, none⟩) h0).trans h3, A, c,
    (hb.cell (a := ⟨b, 3, none⟩) h0).trans h4, h5.keep hb⟩
theorem FoAt.keep {S : Nat → Prop} {w w' : World} (hb : Like S w w') {f : Fo} : ∀ {bs : List Nat}, FoAt S w f bs → FoAt S w' f bs := by
  induction f with
  | nil => intro bs h; exact h
  | cons x k r ihk ihr =>
    rintro bs ⟨b, bs', ks, h1, h2, h3, h4⟩
    exact ⟨b, bs', ks, h1, h2.keep hb, ihk h3, ihr h4⟩
theorem FoAt.length {S : Nat → Prop} {w : World} {f : Fo} : ∀ {bs : List Nat}, FoAt S w f bs → bs.length = f.len := by
  induction f with
  | nil => intro bs h; cases h; rfl
  | cons x k r _ ihr =>
    rintro bs ⟨b, bs', ks, rfl, h2, h3, h4⟩
    simp [Fo.len, ihr h4]
theorem KidsAt.mono {S S' : Nat → Prop} {w : World} {A : Option Addr} {ks : List Nat} (h : KidsAt S w A ks) (hb : ∀ b, S b → S' b) : KidsAt S' w A ks := by
  intro j k hj
  obtain ⟨kb, h1, h2, h3⟩ := h j k hj
  exact ⟨kb, hb _ h1, h2, h3⟩
theorem NodeAt.mono {S S' : Nat → Prop} {w : World} {b : Nat} {x : TN} {ks : List Nat} (h : NodeAt S w b x ks) (hb : ∀ b, S b → S' b) : NodeAt S' w b x ks := by
  obtain ⟨h0, h1, h2, h3, A, c, h4, h5⟩ := h
  exact ⟨hb _ h0, h1, h2, h3, A, c, h4, h5.mono hb⟩
theorem FoAt.mono {S S' : Nat → Prop} {w : World} (hb : ∀ b, S b → S' b) {f : Fo} : ∀ {bs : List Nat}, FoAt S w f bs → FoAt S' w f bs := by
  induction f with
  | nil => intro bs h; exact h
  | cons x k r ihk ihr =>
    rintro bs ⟨b, bs', ks, h1, h2, h3, h4⟩
    exact ⟨b, bs', ks, h1, h2.mono hb, ihk h3, ihr h4⟩
def Fo.app : Fo → Fo → Fo
  | .nil, g => g
  | .cons x k r, g => .cons x k (r.app g)
theorem FoAt.app {S : Nat → Prop} {w : World} {f g : Fo} : ∀ {bs cs : List Nat}, FoAt S w f bs → FoAt S w g cs → FoAt S w (f.app g) (bs ++ cs) := by
  induction f with
  | nil => intro bs cs h1 h2; cases h1; exact h2
  | cons x k r _ ihr =>
    rintro bs cs ⟨b, bs', ks, rfl, h2, h3, h4⟩ hg
    exact ⟨b, bs' ++ cs, ks, rfl, h2, h3, ihr h4 hg⟩

/-! ### Variables -/
structure Var where
  name : Str
  kind : Int
  n : Int
def Var.cells (v : Var) : List Value := [.string v.name, .int .i64 v.kind, .int .u64 v.n]
def varCells (vs : List Var) : List Value := vs.flatMap Var.cells
theorem varCells_length (vs : List Var) : (varCells vs).length = vs.length * 3 := by
  induction vs with
  | nil => rfl
  | cons v r ih => simp only [varCells, List.flatMap_cons, List.length_append, List.length_cons] at *; rw [ih]; simp [Var.cells]; omega
theorem varCells_append (a b : List Var) : varCells (a ++ b) = varCells a ++ varCells b := by simp [varCells]
theorem varCells_get (vs : List Var) : ∀ (j : Nat) (v : Var), vs[j]? = some v → (varCells vs)[j * 3]? = some (.string v.name) ∧ (varCells vs)[j * 3 + 1]? = some (.int .i64 v.kind) ∧ (varCells vs)[j * 3 + 2]? = some (.int .u64 v.n) := by
  induction vs with
  | nil => intro j v h; simp at h
  | cons x r ih =>
    intro j v h
    have e : varCells (x :: r) = [.string x.name, .int .i64 x.kind, .int .u64 x.n] ++ varCells r := rfl
    rw [e]
    cases j with
    | zero => simp at h; subst h; simp
    | succ j =>
      simp at h
      obtain ⟨h1, h2, h3⟩ := ih j v h
      rw [show (j + 1) * 3 = j * 3 + 3 by omega]
      refine ⟨?_, ?_, ?_⟩
      · rw [List.getElem?_append_right (by simp)]; simpa using h1
      · rw [List.getElem?_append_right (by simp)]; simpa [show j * 3 + 3 + 1 - 3 = j * 3 + 1 by omega] using h2
      · rw [List.getElem?_append_right (by simp)]; simpa [show j * 3 + 3 + 2 - 3 = j * 3 + 2 by omega] using h3

/-- A row that is cut shorter. -/
theorem owns_take {w : World} {base e size n : Nat} {A : Option Addr} {c : Nat} {xs : List Value} (h : w.ownsRow base e size (.slice A n c) n xs) (m : Nat) (hm : m ≤ n) :
    w.ownsRow base e size (.slice A m c) m (xs.take (m * size)) := by
  obtain ⟨h1, h2⟩ := h
  refine ⟨by rw [List.length_take, h1]; exact Nat.min_eq_left (Nat.mul_le_mul_right _ hm), ?_⟩
  rcases h2 with ⟨h2, h3⟩ | ⟨g, cap, cur, h2, hb, hg, hc, hx, hs, ht⟩
  · injection h2 with h2 h4 h5
    subst h3 h2 h5
    have : m = 0 := by omega
    subst this
    exact .inl ⟨rfl, rfl⟩
  · injection h2 with h2 h4 h5
    subst h2 h5
    exact .inr ⟨g, c, cur, rfl, hb, hg, by omega, hx, hs, by rw [← ht, List.take_take, Nat.min_eq_left (Nat.mul_le_mul_right _ hm)]⟩
/-- What is owned is a slice, its cells read. -/
theorem owns_shape {w : World} {base e size n : Nat} {v : Value} {xs : List Value} (h : w.ownsRow base e size v n xs) : ∃ A c, v = .slice A n c ∧ n ≤ c ∧ c ≤ maxLen ∧ (0 < n → ∃ g, A = some ⟨g, 0, none⟩ ∧ base ≤ g ∧ v.ownBlock = some g) ∧
    ∀ j u, xs[j]? = some u → ∃ g, A = some ⟨g, 0, none⟩ ∧ base ≤ g ∧ w.cell? ⟨g, j, none⟩ = some u := by
  have hc := @World.ownsRow.cells w base e size v n xs h
  obtain ⟨h1, h2⟩ := h
  rcases h2 with ⟨rfl, rfl⟩ | ⟨g, cap, cur, rfl, hb, hg, hcap, hx, hs, ht⟩
  · refine ⟨none, 0, rfl, Nat.le_refl _, Nat.zero_le _, fun h => absurd h (by omega), fun j u hu => ?_⟩
    have : xs = [] := List.eq_nil_of_length_eq_zero (by simpa using h1)
    subst this
    simp at hu
  · refine ⟨_, cap, rfl, hcap, hx, fun _ => ⟨g, rfl, hb, rfl⟩, fun j u hu => ⟨g, rfl, hb, ?_⟩⟩
    have := hc (g := g) rfl j u hu
    rwa [show (⟨g, 0, none⟩ : Addr).add j = ⟨g, j, none⟩ by unfold Addr.add; split <;> simp_all] at this
end Go.Proofs.YtocbblafgjpbeaaDoor.Sp
