/- Plain Lean: the scan of a list of nodes, node by node as the program's builder goes. -/
import Derived.Test.YtocbblafgjpbeaaDoorDecode
import Derived.Test.YtocbblafgjpbeaaDoorMem
namespace Go.Proofs.YtocbblafgjpbeaaDoor.Sp

theorem Fo.len_app (f g : Fo) : (f.app g).len = f.len + g.len := by
  induction f with
  | nil => simp [Fo.app, Fo.len]
  | cons x k r _ ih => simp [Fo.app, Fo.len, ih]; omega
theorem Fo.flat_app (f g : Fo) : (f.app g).flat = f.flat ++ g.flat := by
  induction f with
  | nil => simp [Fo.app, Fo.flat]
  | cons x k r _ ih => simp [Fo.app, Fo.flat, ih, List.append_assoc]
theorem VF_app (p : TN) (f g : Fo) : ∀ k : Int, VF p k f → VF p (k + f.len) g → VF p k (f.app g) := by
  induction f with
  | nil => intro k _ h; simpa [Fo.len, Fo.app] using h
  | cons x ks r _ ih =>
    intro k h1 h2
    simp only [VF, Fo.app] at *
    refine ⟨h1.1, h1.2.1, h1.2.2.1, ih (k + 1) h1.2.2.2 ?_⟩
    simp only [Fo.len] at h2
    rwa [show k + 1 + (r.len : Int) = k + ((r.len + 1 : Nat) : Int) by omega]

theorem pop_zero (p d : Int) (st : List Want) : pop (⟨p, d, 0⟩ :: st) = pop st := by simp [pop]
theorem scan_zero (t : List TN) (i : Nat) (p d : Int) (st : List Want) : scan t i (⟨p, d, 0⟩ :: st) = scan t i st := by
  cases t <;> simp [scan, pop_zero]
theorem pop_pos {p d a : Int} (st : List Want) (h : a ≠ 0) : pop (⟨p, d, a⟩ :: st) = ⟨p, d, a⟩ :: st := by simp [pop, h]
/-- Wants of one kind may be parted. -/
theorem scan_split (p d : Int) : ∀ (t : List TN) (i : Nat) (pre st : List Want) (a b : Int), 0 ≤ a → 0 ≤ b → scan t i (pre ++ ⟨p, d, a + b⟩ :: st) = scan t i (pre ++ ⟨p, d, a⟩ :: ⟨p, d, b⟩ :: st) := by
  have hpop : ∀ (pre st : List Want) (a b : Int), 0 ≤ a → 0 ≤ b →
      (pop (pre ++ ⟨p, d, a + b⟩ :: st) = pop (pre ++ ⟨p, d, a⟩ :: ⟨p, d, b⟩ :: st)) ∨
      (∃ w pre', pop (pre ++ ⟨p, d, a + b⟩ :: st) = w :: (pre' ++ ⟨p, d, a + b⟩ :: st) ∧ pop (pre ++ ⟨p, d, a⟩ :: ⟨p, d, b⟩ :: st) = w :: (pre' ++ ⟨p, d, a⟩ :: ⟨p, d, b⟩ :: st)) ∨
      (1 ≤ a ∧ pop (pre ++ ⟨p, d, a + b⟩ :: st) = ⟨p, d, a + b⟩ :: st ∧ pop (pre ++ ⟨p, d, a⟩ :: ⟨p, d, b⟩ :: st) = ⟨p, d, a⟩ :: ⟨p, d, b⟩ :: st) := by
    intro pre
    induction pre with
    | nil =>
      intro st a b ha hb
      by_cases h : a = 0
      · subst h
        left; simp [pop]
      · right; right
        exact ⟨by omega, by simp only [List.nil_append]; rw [pop_pos _ (by omega)], by simp only [List.nil_append]; rw [pop_pos _ h]⟩
    | cons w pre ih =>
      intro st a b ha hb
      by_cases h : w.left = 0
      · simp only [List.cons_append, pop, h, if_true]
        exact ih st a b ha hb
      · right; left
        exact ⟨w, pre, by simp [pop, h], by simp [pop, h]⟩
  intro t
  induction t with
  | nil =>
    intro i pre st a b ha hb
    rcases hpop pre st a b ha hb with h | ⟨w, pre', h1, h2⟩ | ⟨_, h1, h2⟩
    · simp [scan, h]
    · simp [scan, h1, h2]
    · simp [scan, h1, h2]
  | cons x t ih =>
    intro i pre st a b ha hb
    rcases hpop pre st a b ha hb with h | ⟨w, pre', h1, h2⟩ | ⟨ha1, h1, h2⟩
    · simp only [scan, h]
    · simp only [scan, h1, h2]
      split
      · rfl
      · have := ih (i + 1) (wants x (w.depth + 1) ++ ⟨w.place, w.depth, w.left - 1⟩ :: pre') st a b ha hb
        simpa [List.append_assoc] using this
    · simp only [scan, h1, h2]
      split
      · rfl
      · have := ih (i + 1) (wants x (d + 1)) st (a - 1) b (by omega) hb
        rw [show a - 1 + b = a + b - 1 by omega] at this
        exact this
/-- What a node still wants behind its first k parts. -/
def restW (x : TN) (d : Int) (k : Int) : List Want :=
  if x.op = 1 then [⟨1, d, x.n - k⟩] else if x.op = 3 then [⟨3, d, x.n - k⟩]
  else (List.range (kidCount x - k).toNat).map fun j => ⟨kidPlace x (k + (j : Nat)), d, 1⟩
theorem scan_split0 (p d : Int) (t : List TN) (i : Nat) (st : List Want) (a b : Int) (ha : 0 ≤ a) (hb : 0 ≤ b) : scan t i (⟨p, d, a + b⟩ :: st) = scan t i (⟨p, d, a⟩ :: ⟨p, d, b⟩ :: st) :=
  scan_split p d t i [] st a b ha hb
theorem scan_wants (x : TN) (d : Int) (t : List TN) (i : Nat) (st : List Want) (ho : 1 ≤ x.op ∧ x.op ≤ 20) : scan t i (wants x d ++ st) = scan t i (restW x d 0 ++ st) := by
  obtain ⟨h1, h2⟩ := ho
  have hop : x.op = 1 ∨ x.op = 2 ∨ x.op = 3 ∨ x.op = 4 ∨ x.op = 5 ∨ x.op = 6 ∨ x.op = 7 ∨ x.op = 8 ∨ x.op = 9 ∨ x.op = 10 ∨ x.op = 11 ∨ x.op = 12 ∨ x.op = 13 ∨ x.op = 14 ∨ x.op = 15 ∨ x.op = 16 ∨ x.op = 17 ∨ x.op = 18 ∨ x.op = 19 ∨ x.op = 20 := by omega
  have two : scan t i (⟨4, d, 2⟩ :: st) = scan t i (⟨4, d, 1⟩ :: ⟨4, d, 1⟩ :: st) := scan_split0 4 d t i st 1 1 (by omega) (by omega)
  have three : scan t i (⟨4, d, 3⟩ :: st) = scan t i (⟨4, d, 1⟩ :: ⟨4, d, 1⟩ :: ⟨4, d, 1⟩ :: st) := by
    have h1 := scan_split0 4 d t i st 1 2 (by omega) (by omega)
    have h2 := scan_split 4 d t i [⟨4, d, 1⟩] st 1 1 (by omega) (by omega)
    exact h1.trans h2
  rcases hop with e | e | e | e | e | e | e | e | e | e | e | e | e | e | e | e | e | e | e | e
  all_goals first
    | (simp [wants, restW, kidCount, kidPlace, e, List.range_succ]; done)
    | (simp only [wants, restW, kidCount, kidPlace, e]; simp [List.range_succ]; exact two)
    | (by_cases hn : x.n = 2
       · simp only [wants, restW, kidCount, kidPlace, e, hn]; simp [List.range_succ]; exact three
       · simp only [wants, restW, kidCount, kidPlace, e, hn]; simp [List.range_succ]; exact two)
theorem restW_step (x : TN) (d k : Int) (t : List TN) (i : Nat) (st : List Want) (hk : k < kidCount x) :
    scan t i (restW x d k ++ st) = scan t i (⟨kidPlace x k, d, 1⟩ :: (restW x d (k + 1) ++ st)) := by
  unfold restW
  by_cases h1 : x.op = 1
  · have hc : kidCount x = x.n := by simp [kidCount, h1]
    have hp : kidPlace x k = 1 := by simp [kidPlace, h1]
    rw [if_pos h1, if_pos h1, hp]
    have := scan_split0 1 d t i st 1 (x.n - (k + 1)) (by omega) (by omega)
    rw [show 1 + (x.n - (k + 1)) = x.n - k by omega] at this
    exact this
  · by_cases h3 : x.op = 3
    · have hc : kidCount x = x.n := by simp [kidCount, h3]
      have hp : kidPlace x k = 3 := by simp [kidPlace, h3]
      rw [if_neg h1, if_pos h3, if_neg h1, if_pos h3, hp]
      have := scan_split0 3 d t i st 1 (x.n - (k + 1)) (by omega) (by omega)
      rw [show 1 + (x.n - (k + 1)) = x.n - k by omega] at this
      exact this
    · rw [if_neg h1, if_neg h3, if_neg h1, if_neg h3]
      obtain ⟨m, hm⟩ : ∃ m, (kidCount x - k).toNat = m + 1 := ⟨(kidCount x - k).toNat - 1, by omega⟩
      have hm' : (kidCount x - (k + 1)).toNat = m := by omega
      rw [hm, hm', List.range_succ_eq_map]
      simp only [List.map_cons, List.map_map, List.cons_append]
      congr 2
      · simp
      · congr 1
        refine List.map_congr_left fun j _ => ?_
        simp only [Function.comp]
        rw [show k + ((j + 1 : Nat) : Int) = k + 1 + (j : Int) by omega]
theorem restW_end (x : TN) (d : Int) (t : List TN) (i : Nat) (st : List Want) : scan t i (restW x d (kidCount x) ++ st) = scan t i st := by
  unfold restW
  by_cases h1 : x.op = 1
  · have hc : kidCount x = x.n := by simp [kidCount, h1]
    rw [if_pos h1, hc, Int.sub_self]
    exact scan_zero _ _ _ _ _
  · by_cases h3 : x.op = 3
    · have hc : kidCount x = x.n := by simp [kidCount, h3]
      rw [if_neg h1, if_pos h3, hc, Int.sub_self]
      exact scan_zero _ _ _ _ _
    · rw [if_neg h1, if_neg h3, Int.sub_self]
      rfl
/-- A node that may stand there. -/
theorem okNode_op {x : TN} {p : Int} (hp : 0 ≤ p) (hok : okNode p x = true) : 1 ≤ x.op ∧ x.op ≤ 20 := by
  obtain ⟨h1, h2, h3⟩ := okNode_iff.1 hok
  rcases opPlace_cases h1 hp with h | h | h | h | h <;> omega
theorem scan_head {x : TN} {t : List TN} {i : Nat} {p d : Int} {st : List Want} (hp : 0 ≤ p) (hi : i < 256) (hd : d ≤ 24) (hok : okNode p x = true) :
    scan (x :: t) i (⟨p, d, 1⟩ :: st) = scan t (i + 1) (restW x (d + 1) 0 ++ ⟨p, d, 0⟩ :: st) := by
  have ho := okNode_op hp hok
  rw [scan, pop_pos _ (by decide)]
  simp only
  rw [if_neg (by rw [hok]; simp; omega), scan_wants _ _ _ _ _ ho]
  rfl
/-- .. and one that may not. -/
theorem scan_bad {t : List TN} {i : Nat} {p d : Int} {st : List Want} (h : t = [] ∨ i ≥ 256 ∨ d > 24 ∨ ∃ x r, t = x :: r ∧ okNode p x = false) :
    scan t i (⟨p, d, 1⟩ :: st) = some i := by
  cases t with
  | nil => rw [scan, pop_pos _ (by decide)]; simp
  | cons x r =>
    rw [scan, pop_pos _ (by decide)]
    simp only
    rw [if_pos]
    rcases h with h | h | h | ⟨y, r', h1, h2⟩
    · cases h
    · exact .inl h
    · exact .inr (.inl h)
    · injection h1 with h1 _; subst h1; exact .inr (.inr h2)
end Go.Proofs.YtocbblafgjpbeaaDoor.Sp
