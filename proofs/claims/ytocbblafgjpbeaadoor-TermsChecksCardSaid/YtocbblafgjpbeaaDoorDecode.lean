/- Plain Lean: a forest whose nodes are as the table says is the forest of typed syntax. -/
import Derived.Test.YtocbblafgjpbeaaDoorSpec
namespace Go.Proofs.YtocbblafgjpbeaaDoor.Sp

theorem okNode_iff {a : Int} {x : TN} : okNode a x = true ↔ opPlace x.op = a ∧ fieldsOk x = true ∧ 0 ≤ x.n := by
  simp [okNode, and_assoc]
theorem opPlace_cases {op a : Int} (h : opPlace op = a) (ha : 0 ≤ a) :
    (a = 0 ∧ op = 1) ∨ (a = 1 ∧ op = 2) ∨ (a = 2 ∧ op = 3) ∨ (a = 3 ∧ 4 ≤ op ∧ op ≤ 13) ∨ (a = 4 ∧ 14 ≤ op ∧ op ≤ 20) := by
  unfold opPlace at h
  split at h
  · omega
  split at h
  · omega
  split at h
  · omega
  split at h
  · omega
  split at h
  · omega
  omega
theorem TN.ext' {x : TN} {op n : Int} {s : Str} (h1 : x.op = op) (h2 : x.n = n) (h3 : x.name = s) : x = ⟨op, n, s⟩ := by
  cases x; simp_all

theorem Fo.len_one {f : Fo} (h : (f.len : Int) = 1) : ∃ x k, f = .cons x k .nil := by
  cases f with
  | nil => simp [Fo.len] at h
  | cons x k r => cases r with
    | nil => exact ⟨x, k, rfl⟩
    | cons => simp [Fo.len] at h; omega
theorem Fo.len_zero {f : Fo} (h : (f.len : Int) = 0) : f = .nil := by
  cases f with
  | nil => rfl
  | cons x k r => simp [Fo.len] at h; omega
theorem Fo.len_pos {f : Fo} {n : Int} (h : (f.len : Int) = n) (hn : 1 ≤ n) : ∃ x k r, f = .cons x k r ∧ (r.len : Int) = n - 1 := by
  cases f with
  | nil => simp [Fo.len] at h; omega
  | cons x k r => exact ⟨x, k, r, rfl, by simp [Fo.len] at h; omega⟩

theorem dec_ex : ∀ (n : Nat) (x : TN) (ks : Fo), ks.size < n → okNode 4 x = true → (ks.len : Int) = kidCount x → VF x 0 ks →
    ∃ e : Ex, e.tn = x ∧ e.kids = ks ∧ e.Ok := by
  intro n
  induction n with
  | zero => intro x ks h; omega
  | succ n ih =>
    intro x ks hs hok hl hv
    obtain ⟨h1, h2, h3⟩ := okNode_iff.1 hok
    rcases opPlace_cases h1 (by omega) with h | h | h | h | h
    · omega
    · omega
    · omega
    · omega
    obtain ⟨-, ha, hb⟩ := h
    clear h1 hok
    have hop : x.op = 14 ∨ x.op = 15 ∨ x.op = 16 ∨ x.op = 17 ∨ x.op = 18 ∨ x.op = 19 ∨ x.op = 20 := by omega
    rcases hop with e | e | e | e | e | e | e
    · simp [kidCount, e] at hl; simp [fieldsOk, e, sEq_iff] at h2
      have := Fo.len_zero (f := ks) (by omega); subst this
      exact ⟨.num x.n, (TN.ext' e rfl h2).symm, rfl, trivial⟩
    · simp [kidCount, e] at hl; simp [fieldsOk, e, sEq_iff] at h2
      have := Fo.len_zero (f := ks) (by omega); subst this
      exact ⟨.tt, (TN.ext' e h2.1 h2.2).symm, rfl, trivial⟩
    · simp [kidCount, e] at hl; simp [fieldsOk, e, sEq_iff] at h2
      have := Fo.len_zero (f := ks) (by omega); subst this
      exact ⟨.ff, (TN.ext' e h2.1 h2.2).symm, rfl, trivial⟩
    · simp [kidCount, e] at hl; simp [fieldsOk, e] at h2
      have := Fo.len_zero (f := ks) (by omega); subst this
      exact ⟨.var x.name, (TN.ext' e h2.1 rfl).symm, rfl, h2.2⟩
    · simp [kidCount, e] at hl; simp [fieldsOk, e, sEq_iff] at h2
      obtain ⟨x1, k1, rfl⟩ := Fo.len_one (f := ks) (by omega)
      simp only [VF, kidPlace, e] at hv
      simp [Fo.size] at hs
      obtain ⟨a, ra, rb, rc⟩ := ih x1 k1 (by omega) (by simpa using hv.1) hv.2.1 hv.2.2.1
      exact ⟨.not a, (TN.ext' e h2.1 h2.2).symm, by simp [Ex.kids, ra, rb], rc⟩
    · simp [kidCount, e] at hl; simp [fieldsOk, e, sEq_iff] at h2
      obtain ⟨x1, k1, r1, rfl, hl1⟩ := Fo.len_pos (f := ks) (n := 2) (by omega) (by omega)
      obtain ⟨x2, k2, rfl⟩ := Fo.len_one (f := r1) (by omega)
      simp only [VF, kidPlace, e] at hv
      simp [Fo.size] at hs
      obtain ⟨a, ra, rb, rc⟩ := ih x1 k1 (by omega) (by simpa using hv.1) hv.2.1 hv.2.2.1
      obtain ⟨b, sa, sb, sc⟩ := ih x2 k2 (by omega) (by simpa using hv.2.2.2.1) hv.2.2.2.2.1 hv.2.2.2.2.2.1
      exact ⟨.bin x.n a b, (TN.ext' e rfl h2.2).symm, by simp [Ex.kids, ra, rb, sa, sb], h3, h2.1, rc, sc⟩
    · simp [fieldsOk, e, sEq_iff] at h2
      by_cases h : x.n = 2
      · simp [kidCount, e, h] at hl
        obtain ⟨x1, k1, r1, rfl, hl1⟩ := Fo.len_pos (f := ks) (n := 3) (by omega) (by omega)
        obtain ⟨x2, k2, r2, rfl, hl2⟩ := Fo.len_pos (f := r1) (n := 2) (by omega) (by omega)
        obtain ⟨x3, k3, rfl⟩ := Fo.len_one (f := r2) (by omega)
        simp only [VF, kidPlace, e] at hv
        simp [Fo.size] at hs
        obtain ⟨a, ra, rb, rc⟩ := ih x1 k1 (by omega) (by simpa using hv.1) hv.2.1 hv.2.2.1
        obtain ⟨b, sa, sb, sc⟩ := ih x2 k2 (by omega) (by simpa using hv.2.2.2.1) hv.2.2.2.2.1 hv.2.2.2.2.2.1
        obtain ⟨c, ta, tb, tc⟩ := ih x3 k3 (by omega) (by simpa using hv.2.2.2.2.2.2.1) hv.2.2.2.2.2.2.2.1 hv.2.2.2.2.2.2.2.2.1
        exact ⟨.share a b c, (TN.ext' e h h2.2).symm, by simp [Ex.kids, ra, rb, sa, sb, ta, tb], rc, sc, tc⟩
      · simp [kidCount, e, h] at hl
        obtain ⟨x1, k1, r1, rfl, hl1⟩ := Fo.len_pos (f := ks) (n := 2) (by omega) (by omega)
        obtain ⟨x2, k2, rfl⟩ := Fo.len_one (f := r1) (by omega)
        simp only [VF, kidPlace, e] at hv
        simp [Fo.size] at hs
        obtain ⟨a, ra, rb, rc⟩ := ih x1 k1 (by omega) (by simpa using hv.1) hv.2.1 hv.2.2.1
        obtain ⟨b, sa, sb, sc⟩ := ih x2 k2 (by omega) (by simpa using hv.2.2.2.1) hv.2.2.2.2.1 hv.2.2.2.2.2.1
        exact ⟨.two x.n a b, (TN.ext' e rfl h2.2).symm, by simp [Ex.kids, ra, rb, sa, sb], h3, by omega, rc, sc⟩

theorem dec_st : ∀ (n : Nat),
    (∀ (x : TN) (ks : Fo), ks.size < n → okNode 3 x = true → (ks.len : Int) = kidCount x → VF x 0 ks → ∃ s : St, s.tn = x ∧ s.kids = ks ∧ s.Ok) ∧
    (∀ (x : TN) (k : Int) (ks : Fo), ks.size < n → x.op = 3 → VF x k ks → ∃ b : Blk, b.kids = ks ∧ b.len = ks.len ∧ b.Ok) := by
  intro n
  induction n with
  | zero => exact ⟨fun x ks h => by omega, fun x k ks h => by omega⟩
  | succ n ih =>
    obtain ⟨ih1, ih2⟩ := ih
    have blk : ∀ (x : TN) (ks : Fo), ks.size < n → okNode 2 x = true → (ks.len : Int) = kidCount x → VF x 0 ks → ∃ b : Blk, b.tn = x ∧ b.kids = ks ∧ b.Ok := by
      intro x ks hs hok hl hv
      obtain ⟨h1, h2, h3⟩ := okNode_iff.1 hok
      rcases opPlace_cases h1 (by omega) with h | h | h | h | h
      · omega
      · omega
      · obtain ⟨-, e⟩ := h
        obtain ⟨b, e1, e2, e3⟩ := ih2 x 0 ks hs e hv
        simp [fieldsOk, e, sEq_iff] at h2
        simp [kidCount, e] at hl
        exact ⟨b, by rw [Blk.tn, e2]; exact (TN.ext' e (by omega) h2).symm, e1, e3⟩
      · omega
      · omega
    constructor
    · intro x ks hs hok hl hv
      obtain ⟨h1, h2, h3⟩ := okNode_iff.1 hok
      rcases opPlace_cases h1 (by omega) with h | h | h | h | h
      · omega
      · omega
      · omega
      · obtain ⟨-, ha, hb⟩ := h
        clear h1 hok
        have hop : x.op = 4 ∨ x.op = 5 ∨ x.op = 6 ∨ x.op = 7 ∨ x.op = 8 ∨ x.op = 9 ∨ x.op = 10 ∨ x.op = 11 ∨ x.op = 12 ∨ x.op = 13 := by omega
        rcases hop with e | e | e | e | e | e | e | e | e | e
        · simp [kidCount, e] at hl; simp [fieldsOk, e] at h2
          obtain ⟨x1, k1, rfl⟩ := Fo.len_one (f := ks) (by omega)
          simp only [VF, kidPlace, e] at hv
          obtain ⟨a, ra, rb, rc⟩ := dec_ex _ x1 k1 (Nat.lt_succ_self _) (by simpa using hv.1) hv.2.1 hv.2.2.1
          exact ⟨.let_ x.name a, (TN.ext' e h2.1 rfl).symm, by simp [St.kids, ra, rb], h2.2, rc⟩
        · simp [kidCount, e] at hl; simp [fieldsOk, e] at h2
          obtain ⟨x1, k1, rfl⟩ := Fo.len_one (f := ks) (by omega)
          simp only [VF, kidPlace, e] at hv
          obtain ⟨a, ra, rb, rc⟩ := dec_ex _ x1 k1 (Nat.lt_succ_self _) (by simpa using hv.1) hv.2.1 hv.2.2.1
          exact ⟨.set x.name a, (TN.ext' e h2.1 rfl).symm, by simp [St.kids, ra, rb], h2.2, rc⟩
        · simp [kidCount, e] at hl; simp [fieldsOk, e, sEq_iff] at h2
          obtain ⟨x1, k1, r1, rfl, hl1⟩ := Fo.len_pos (f := ks) (n := 3) (by omega) (by omega)
          obtain ⟨x2, k2, r2, rfl, hl2⟩ := Fo.len_pos (f := r1) (n := 2) (by omega) (by omega)
          obtain ⟨x3, k3, rfl⟩ := Fo.len_one (f := r2) (by omega)
          simp only [VF, kidPlace, e] at hv
          simp [Fo.size] at hs
          obtain ⟨a, ra, rb, rc⟩ := dec_ex _ x1 k1 (Nat.lt_succ_self _) (by simpa using hv.1) hv.2.1 hv.2.2.1
          obtain ⟨b, sa, sb, sc⟩ := blk x2 k2 (by omega) (by simpa using hv.2.2.2.1) hv.2.2.2.2.1 hv.2.2.2.2.2.1
          obtain ⟨c, ta, tb, tc⟩ := blk x3 k3 (by omega) (by simpa using hv.2.2.2.2.2.2.1) hv.2.2.2.2.2.2.2.1 hv.2.2.2.2.2.2.2.2.1
          exact ⟨.ite a b c, (TN.ext' e h2.1 h2.2).symm, by simp [St.kids, ra, rb, sa, sb, ta, tb], rc, sc, tc⟩
        · simp [kidCount, e] at hl; simp [fieldsOk, e] at h2
          obtain ⟨x1, k1, r1, rfl, hl1⟩ := Fo.len_pos (f := ks) (n := 2) (by omega) (by omega)
          obtain ⟨x2, k2, rfl⟩ := Fo.len_one (f := r1) (by omega)
          simp only [VF, kidPlace, e] at hv
          simp [Fo.size] at hs
          obtain ⟨a, ra, rb, rc⟩ := dec_ex _ x1 k1 (Nat.lt_succ_self _) (by simpa using hv.1) hv.2.1 hv.2.2.1
          obtain ⟨b, sa, sb, sc⟩ := blk x2 k2 (by omega) (by simpa using hv.2.2.2.1) hv.2.2.2.2.1 hv.2.2.2.2.2.1
          exact ⟨.while x.name a b, (TN.ext' e h2.1 rfl).symm, by simp [St.kids, ra, rb, sa, sb], by simpa using h2.2, rc, sc⟩
        · simp [kidCount, e] at hl; simp [fieldsOk, e] at h2
          have := Fo.len_zero (f := ks) (by omega); subst this
          exact ⟨.brk x.name, (TN.ext' e h2.1 rfl).symm, rfl, by simpa [St.Ok] using h2.2⟩
        · simp [kidCount, e] at hl; simp [fieldsOk, e] at h2
          have := Fo.len_zero (f := ks) (by omega); subst this
          exact ⟨.cont x.name, (TN.ext' e h2.1 rfl).symm, rfl, by simpa [St.Ok] using h2.2⟩
        · simp [kidCount, e] at hl; simp [fieldsOk, e, sEq_iff] at h2
          obtain ⟨x1, k1, rfl⟩ := Fo.len_one (f := ks) (by omega)
          simp only [VF, kidPlace, e] at hv
          obtain ⟨a, ra, rb, rc⟩ := dec_ex _ x1 k1 (Nat.lt_succ_self _) (by simpa using hv.1) hv.2.1 hv.2.2.1
          exact ⟨.req x.n a, (TN.ext' e rfl h2.2).symm, by simp [St.kids, ra, rb], h2.1.1, h2.1.2, rc⟩
        · simp [kidCount, e] at hl; simp [fieldsOk, e, sEq_iff] at h2
          obtain ⟨x1, k1, r1, rfl, hl1⟩ := Fo.len_pos (f := ks) (n := 2) (by omega) (by omega)
          obtain ⟨x2, k2, rfl⟩ := Fo.len_one (f := r1) (by omega)
          simp only [VF, kidPlace, e] at hv
          obtain ⟨a, ra, rb, rc⟩ := dec_ex _ x1 k1 (Nat.lt_succ_self _) (by simpa using hv.1) hv.2.1 hv.2.2.1
          obtain ⟨b, sa, sb, sc⟩ := dec_ex _ x2 k2 (Nat.lt_succ_self _) (by simpa using hv.2.2.2.1) hv.2.2.2.2.1 hv.2.2.2.2.2.1
          exact ⟨.pay a b, (TN.ext' e h2.1 h2.2).symm, by simp [St.kids, ra, rb, sa, sb], rc, sc⟩
        · simp [kidCount, e] at hl; simp [fieldsOk, e, sEq_iff] at h2
          have := Fo.len_zero (f := ks) (by omega); subst this
          exact ⟨.fail x.n, (TN.ext' e rfl h2.2).symm, rfl, h2.1⟩
        · simp [kidCount, e] at hl; simp [fieldsOk, e, sEq_iff] at h2
          have := Fo.len_zero (f := ks) (by omega); subst this
          exact ⟨.done, (TN.ext' e h2.1 h2.2).symm, rfl, trivial⟩
      · omega
    · intro x k ks hs hx hv
      cases ks with
      | nil => exact ⟨.nil, rfl, rfl, trivial⟩
      | cons x1 k1 r =>
        simp only [VF, kidPlace, hx] at hv
        simp [Fo.size] at hs
        obtain ⟨s, a1, a2, a3⟩ := ih1 x1 k1 (by omega) (by simpa using hv.1) hv.2.1 hv.2.2.1
        obtain ⟨b, b1, b2, b3⟩ := ih2 x (k + 1) r (by omega) hx hv.2.2.2
        exact ⟨.cons s b, by simp [Blk.kids, a1, a2, b1], by simp [Blk.len, Fo.len, b2], a3, b3⟩

theorem dec_blk (x : TN) (ks : Fo) (hok : okNode 2 x = true) (hl : (ks.len : Int) = kidCount x) (hv : VF x 0 ks) : ∃ b : Blk, b.tn = x ∧ b.kids = ks ∧ b.Ok := by
  obtain ⟨h1, h2, h3⟩ := okNode_iff.1 hok
  rcases opPlace_cases h1 (by omega) with h | h | h | h | h
  · omega
  · omega
  · obtain ⟨-, e⟩ := h
    obtain ⟨b, e1, e2, e3⟩ := (dec_st (ks.size + 1)).2 x 0 ks (by omega) e hv
    simp [fieldsOk, e, sEq_iff] at h2
    simp [kidCount, e] at hl
    exact ⟨b, by rw [Blk.tn, e2]; exact (TN.ext' e (by omega) h2).symm, e1, e3⟩
  · omega
  · omega
theorem dec_ru_kids (x : TN) (hx : x.op = 1) : ∀ (ks : Fo) (k : Int), VF x k ks → ∃ r : Ru, Ru.kids r = ks ∧ r.length = ks.len ∧ Ru.Ok r := by
  intro ks
  induction ks with
  | nil => intro k _; exact ⟨[], rfl, rfl, trivial⟩
  | cons x1 k1 r _ ih =>
    intro k hv
    simp only [VF, kidPlace, hx] at hv
    obtain ⟨l, a1, a2, a3⟩ := ih (k + 1) hv.2.2.2
    obtain ⟨h1, h2, h3⟩ := okNode_iff.1 hv.1
    rcases opPlace_cases h1 (by simp) with h | h | h | h | h
    · simp at h
    · obtain ⟨-, e⟩ := h
      have hl := hv.2.1
      simp [kidCount, e] at hl; simp [fieldsOk, e, sEq_iff] at h2
      obtain ⟨x2, k2, rfl⟩ := Fo.len_one (f := k1) (by omega)
      have hv2 := hv.2.2.1
      simp only [VF, kidPlace, e] at hv2
      obtain ⟨b, b1, b2, b3⟩ := dec_blk x2 k2 (by simpa using hv2.1) hv2.2.1 hv2.2.2.1
      refine ⟨(x1.n, b) :: l, ?_, by simp [Fo.len, a2], h3, h2.1, b3, a3⟩
      simp only [Ru.kids, a1, b1, b2]
      rw [← TN.ext' e rfl h2.2]
    · simp at h
    · simp at h
    · simp at h
/-- A whole list that is a tree is a text's rules. -/
theorem dec_ru (x : TN) (ks : Fo) (hok : okNode 0 x = true) (hl : (ks.len : Int) = kidCount x) (hv : VF x 0 ks) : ∃ r : Ru, Ru.tn r = x ∧ Ru.kids r = ks ∧ Ru.Ok r ∧ 1 ≤ r.length := by
  obtain ⟨h1, h2, h3⟩ := okNode_iff.1 hok
  rcases opPlace_cases h1 (by omega) with h | h | h | h | h
  · obtain ⟨-, e⟩ := h
    obtain ⟨r, a1, a2, a3⟩ := dec_ru_kids x e ks 0 hv
    simp [fieldsOk, e, sEq_iff] at h2
    simp [kidCount, e] at hl
    exact ⟨r, by rw [Ru.tn, a2]; exact (TN.ext' e (by omega) h2.2).symm, a1, a3, by omega⟩
  · omega
  · omega
  · omega
  · omega
end Go.Proofs.YtocbblafgjpbeaaDoor.Sp
