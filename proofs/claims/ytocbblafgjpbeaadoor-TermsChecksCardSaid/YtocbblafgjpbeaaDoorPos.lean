/- Plain Lean: forests that lie in a list of nodes, from a position on; how far a tree goes. -/
import Derived.Test.YtocbblafgjpbeaaDoorScan
namespace Go.Proofs.YtocbblafgjpbeaaDoor.Sp

/-- Every node has as many parts as its table says. -/
def Fo.KC : Fo → Prop
  | .nil => True
  | .cons x k r => (1 ≤ x.op ∧ x.op ≤ 20) ∧ (k.len : Int) = kidCount x ∧ k.KC ∧ r.KC
theorem kidPlace_pos (x : TN) (k : Int) : 0 ≤ kidPlace x k := by
  unfold kidPlace; repeat' split
  all_goals omega
theorem KC_of_VF {p : TN} {f : Fo} : ∀ {k : Int}, VF p k f → f.KC := by
  induction f generalizing p with
  | nil => intro k _; trivial
  | cons x ks r ihk ihr =>
    intro k h
    obtain ⟨h1, h2, h3, h4⟩ := h
    exact ⟨okNode_op (kidPlace_pos _ _) h1, h2, ihk h3, ihr h4⟩
theorem KC_app {f g : Fo} (hf : f.KC) (hg : g.KC) : (f.app g).KC := by
  induction f with
  | nil => exact hg
  | cons x k r _ ih => exact ⟨hf.1, hf.2.1, hf.2.2.1, ih hf.2.2.2⟩
theorem Fo.size_app (f g : Fo) : (f.app g).size = f.size + g.size := by
  induction f with
  | nil => simp [Fo.app, Fo.size]
  | cons x k r _ ih => simp [Fo.app, Fo.size, ih]; omega
/-- The forest lies in the list, from i on. -/
def AtL (l : List TN) (i : Nat) (f : Fo) : Prop := f.flat <+: l.drop i
theorem AtL.le {l : List TN} {i : Nat} {f : Fo} (h : AtL l i f) (hi : i ≤ l.length) : i + f.size ≤ l.length := by
  have := h.length_le
  rw [Fo.length_flat, List.length_drop] at this
  omega
theorem drop_prefix {a b : List TN} {l : List TN} {i : Nat} (h : a ++ b <+: l.drop i) : b <+: l.drop (i + a.length) := by
  obtain ⟨t, ht⟩ := h
  refine ⟨t, ?_⟩
  rw [← List.drop_drop, ← ht, List.append_assoc, List.drop_left]
theorem AtL.head {l : List TN} {i : Nat} {x : TN} {k r : Fo} (h : AtL l i (.cons x k r)) : l[i]? = some x := by
  obtain ⟨t, ht⟩ := h
  have h0 : (l.drop i)[0]? = some x := by rw [← ht]; simp [Fo.flat]
  rw [List.getElem?_drop] at h0
  simpa using h0
theorem AtL.tail {l : List TN} {i : Nat} {x : TN} {k r : Fo} (h : AtL l i (.cons x k r)) : AtL l (i + 1) (k.app r) := by
  have h1 : [x] ++ (k.flat ++ r.flat) <+: l.drop i := h
  have := drop_prefix h1
  rw [AtL, Fo.flat_app]
  exact this
theorem AtL.left {l : List TN} {i : Nat} {f g : Fo} (h : AtL l i (f.app g)) : AtL l i f := by
  rw [AtL, Fo.flat_app] at h
  exact (List.prefix_append _ _).trans h
theorem AtL.right {l : List TN} {i : Nat} {f g : Fo} (h : AtL l i (f.app g)) : AtL l (i + f.size) g := by
  rw [AtL, Fo.flat_app] at h
  have := drop_prefix h
  rwa [Fo.length_flat] at this
theorem AtL.kids {l : List TN} {i : Nat} {x : TN} {k r : Fo} (h : AtL l i (.cons x k r)) : AtL l (i + 1) k := h.tail.left
theorem AtL.rest {l : List TN} {i : Nat} {x : TN} {k r : Fo} (h : AtL l i (.cons x k r)) : AtL l (i + 1 + k.size) r := h.tail.right
theorem AtL.one {l : List TN} {i : Nat} {x : TN} {k r : Fo} (h : AtL l i (.cons x k r)) : AtL l i (.cons x k .nil) := by
  have : AtL l i ((Fo.cons x k .nil).app r) := h
  exact this.left
theorem AtL.lt {l : List TN} {i : Nat} {x : TN} {k r : Fo} (h : AtL l i (.cons x k r)) : i < l.length := (List.getElem?_eq_some_iff.1 h.head).1

/-! ### Wants, added up -/
def wantSum : List Want → Int
  | [] => 0
  | w :: r => w.left + wantSum r
theorem wantSum_append (a b : List Want) : wantSum (a ++ b) = wantSum a + wantSum b := by
  induction a with
  | nil => simp [wantSum]
  | cons x r ih => simp [wantSum, ih]; omega
theorem wantSum_reverse (a : List Want) : wantSum a.reverse = wantSum a := by
  induction a with
  | nil => rfl
  | cons x r ih => simp [wantSum_append, wantSum, ih]; omega
theorem wantSum_wants (x : TN) (d : Int) (ho : 1 ≤ x.op ∧ x.op ≤ 20) : wantSum (wants x d) = kidCount x := by
  obtain ⟨h1, h2⟩ := ho
  have hop : x.op = 1 ∨ x.op = 2 ∨ x.op = 3 ∨ x.op = 4 ∨ x.op = 5 ∨ x.op = 6 ∨ x.op = 7 ∨ x.op = 8 ∨ x.op = 9 ∨ x.op = 10 ∨ x.op = 11 ∨ x.op = 12 ∨ x.op = 13 ∨ x.op = 14 ∨ x.op = 15 ∨ x.op = 16 ∨ x.op = 17 ∨ x.op = 18 ∨ x.op = 19 ∨ x.op = 20 := by omega
  rcases hop with e | e | e | e | e | e | e | e | e | e | e | e | e | e | e | e | e | e | e | e <;> simp [wants, kidCount, e, wantSum]
  split <;> simp [wantSum]
theorem wants_left (x : TN) (d : Int) (hn : 0 ≤ kidCount x) : ∀ w ∈ wants x d, 0 ≤ w.left := by
  unfold wants
  by_cases h1 : x.op = 1
  · simp [kidCount, h1] at hn; simp [h1, hn]
  · by_cases h3 : x.op = 3
    · simp [kidCount, h3] at hn; simp [h3, hn]
    · simp only [h1, h3, if_false]
      repeat' split
      all_goals simp
theorem wants_len (x : TN) (d : Int) : (wants x d).length ≤ 3 := by
  unfold wants
  repeat' split
  all_goals simp
theorem wants_depth (x : TN) (d : Int) : ∀ w ∈ wants x d, w.depth = d ∧ 0 ≤ w.place ∧ w.place ≤ 4 := by
  unfold wants
  repeat' split
  all_goals simp
theorem take_get' {α : Type} {l : List α} {k : Nat} {x : α} (h : l[k]? = some x) : l.take (k + 1) = l.take k ++ [x] := by
  rw [List.take_add_one, h]; rfl
theorem wantSum_take {l : List Want} (h : ∀ w ∈ l, 0 ≤ w.left) (k : Nat) : 0 ≤ wantSum (l.take k) ∧ wantSum (l.take k) ≤ wantSum l := by
  induction l generalizing k with
  | nil => simp [wantSum]
  | cons x r ih =>
    have hx := h x (by simp)
    have ih' := fun k => ih (fun w hw => h w (by simp [hw])) k
    cases k with
    | zero => have := (ih' r.length); simp [wantSum, List.take_length] at *; omega
    | succ k => have := ih' k; simp [wantSum]; omega

/-! ### How far typed syntax goes -/
theorem Ex.sizeK (e : Ex) : 1 + e.kids.size = e.size := by
  induction e with
  | not e ih => simp [Ex.kids, Fo.size, Ex.size]; omega
  | bin op a b iha ihb => simp [Ex.kids, Fo.size, Ex.size]; omega
  | two f a b iha ihb => simp [Ex.kids, Fo.size, Ex.size]; omega
  | share a b c iha ihb ihc => simp [Ex.kids, Fo.size, Ex.size]; omega
  | _ => simp [Ex.kids, Fo.size, Ex.size]
mutual
theorem St.sizeK : ∀ s : St, 1 + s.kids.size = s.size
  | .let_ s e => by rw [St.kids, St.size]; simp [Fo.size]; have := e.sizeK; omega
  | .set s e => by rw [St.kids, St.size]; simp [Fo.size]; have := e.sizeK; omega
  | .ite e a b => by rw [St.kids, St.size]; simp [Fo.size]; have := e.sizeK; have := Blk.sizeK a; have := Blk.sizeK b; omega
  | .while l e b => by rw [St.kids, St.size]; simp [Fo.size]; have := e.sizeK; have := Blk.sizeK b; omega
  | .brk l => by rw [St.kids, St.size]; simp [Fo.size]
  | .cont l => by rw [St.kids, St.size]; simp [Fo.size]
  | .req n e => by rw [St.kids, St.size]; simp [Fo.size]; have := e.sizeK; omega
  | .pay a b => by rw [St.kids, St.size]; simp [Fo.size]; have := a.sizeK; have := b.sizeK; omega
  | .fail n => by rw [St.kids, St.size]; simp [Fo.size]
  | .done => by rw [St.kids, St.size]; simp [Fo.size]
theorem Blk.sizeK : ∀ b : Blk, 1 + b.kids.size = b.size
  | .nil => by rw [Blk.kids, Blk.size]; simp [Fo.size]
  | .cons s b => by rw [Blk.kids, Blk.size]; simp [Fo.size]; have := St.sizeK s; have := Blk.sizeK b; omega
end
/-! ### Typed syntax has its parts -/
def exF (e : Ex) : Fo := .cons e.tn e.kids .nil
theorem Ex.kc : ∀ e : Ex, e.Ok → (exF e).KC := by
  intro e
  induction e with
  | not e ih => intro h; exact ⟨by simp [Ex.tn], by simp [Ex.tn, Ex.kids, Fo.len, kidCount], ih h, trivial⟩
  | bin op a b iha ihb =>
    intro h; rw [Ex.Ok] at h
    have h1 := iha h.2.2.1; have h2 := ihb h.2.2.2
    exact ⟨by simp [Ex.tn], by simp [Ex.tn, Ex.kids, Fo.len, kidCount], ⟨h1.1, h1.2.1, h1.2.2.1, h2⟩, trivial⟩
  | two f a b iha ihb =>
    intro h; rw [Ex.Ok] at h
    have h1 := iha h.2.2.1; have h2 := ihb h.2.2.2
    have hf : f ≠ 2 := by omega
    exact ⟨by simp [Ex.tn], by simp [Ex.tn, Ex.kids, Fo.len, kidCount, hf], ⟨h1.1, h1.2.1, h1.2.2.1, h2⟩, trivial⟩
  | share a b c iha ihb ihc =>
    intro h; rw [Ex.Ok] at h
    have h1 := iha h.1; have h2 := ihb h.2.1; have h3 := ihc h.2.2
    exact ⟨by simp [Ex.tn], by simp [Ex.tn, Ex.kids, Fo.len, kidCount], ⟨h1.1, h1.2.1, h1.2.2.1, h2.1, h2.2.1, h2.2.2.1, h3⟩, trivial⟩
  | _ => intro _; exact ⟨by simp [Ex.tn], by simp [Ex.tn, Ex.kids, Fo.len, kidCount], trivial, trivial⟩
theorem kc_cons {x : TN} {k r : Fo} (h : (Fo.cons x k .nil).KC) (hr : r.KC) : (Fo.cons x k r).KC := ⟨h.1, h.2.1, h.2.2.1, hr⟩
theorem Blk.len_kids : ∀ b : Blk, b.kids.len = b.len
  | .nil => by rw [Blk.kids]; rfl
  | .cons s b => by rw [Blk.kids]; simp [Fo.len, Blk.len, Blk.len_kids b]
mutual
theorem St.kc : ∀ s : St, s.Ok → (Fo.cons s.tn s.kids .nil).KC
  | .let_ s e, h => by rw [St.Ok] at h; rw [St.kids]; exact ⟨by simp [St.tn], by simp [St.tn, Fo.len, kidCount], e.kc h.2, trivial⟩
  | .set s e, h => by rw [St.Ok] at h; rw [St.kids]; exact ⟨by simp [St.tn], by simp [St.tn, Fo.len, kidCount], e.kc h.2, trivial⟩
  | .ite e a b, h => by
    rw [St.Ok] at h; rw [St.kids]
    exact ⟨by simp [St.tn], by simp [St.tn, Fo.len, kidCount], kc_cons (e.kc h.1) (kc_cons (Blk.kc a h.2.1) (kc_cons (Blk.kc b h.2.2) trivial)), trivial⟩
  | .while l e b, h => by
    rw [St.Ok] at h; rw [St.kids]
    exact ⟨by simp [St.tn], by simp [St.tn, Fo.len, kidCount], kc_cons (e.kc h.2.1) (kc_cons (Blk.kc b h.2.2) trivial), trivial⟩
  | .brk l, h => by rw [St.kids]; exact ⟨by simp [St.tn], by simp [St.tn, Fo.len, kidCount], trivial, trivial⟩
  | .cont l, h => by rw [St.kids]; exact ⟨by simp [St.tn], by simp [St.tn, Fo.len, kidCount], trivial, trivial⟩
  | .req n e, h => by rw [St.Ok] at h; rw [St.kids]; exact ⟨by simp [St.tn], by simp [St.tn, Fo.len, kidCount], e.kc h.2.2, trivial⟩
  | .pay a b, h => by
    rw [St.Ok] at h; rw [St.kids]
    exact ⟨by simp [St.tn], by simp [St.tn, Fo.len, kidCount], kc_cons (a.kc h.1) (kc_cons (b.kc h.2) trivial), trivial⟩
  | .fail n, h => by rw [St.kids]; exact ⟨by simp [St.tn], by simp [St.tn, Fo.len, kidCount], trivial, trivial⟩
  | .done, h => by rw [St.kids]; exact ⟨by simp [St.tn], by simp [St.tn, Fo.len, kidCount], trivial, trivial⟩
theorem Blk.kc : ∀ b : Blk, b.Ok → (Fo.cons b.tn b.kids .nil).KC
  | .nil, h => by rw [Blk.kids]; exact ⟨by simp [Blk.tn], by simp [Blk.tn, Blk.len, Fo.len, kidCount], trivial, trivial⟩
  | .cons s b, h => by
    rw [Blk.Ok] at h; rw [Blk.kids]
    have h2 := Blk.kc b h.2
    exact ⟨by simp [Blk.tn], by simp [Blk.tn, Blk.len, Fo.len, kidCount, Blk.len_kids], kc_cons (St.kc s h.1) h2.2.2.1, trivial⟩
end
theorem Ru.kc : ∀ l : Ru, Ru.Ok l → (Ru.kids l).KC
  | [], _ => trivial
  | r :: l, h => ⟨by simp, by simp [Fo.len, kidCount], Blk.kc r.2 h.2.2.1, Ru.kc l h.2.2.2⟩
end Go.Proofs.YtocbblafgjpbeaaDoor.Sp
