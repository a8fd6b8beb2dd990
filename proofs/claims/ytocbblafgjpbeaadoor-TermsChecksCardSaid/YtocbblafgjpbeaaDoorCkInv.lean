/- Plain Lean: what the check leaves: names stay apart, kinds are kinds, faults have numbers; the stack of wants. -/
import Derived.Test.YtocbblafgjpbeaaDoorCkSpec
import Derived.Test.YtocbblafgjpbeaaDoorPos
namespace Go.Proofs.YtocbblafgjpbeaaDoor.Sp

structure VsOk (vs : List Var) : Prop where
  names : NamesOk vs
  kinds : KindsOk vs
  small : vs.length ≤ 19
theorem ckHead_code {vs : List Var} {i : Nat} {want : Int} {e : Ex} {f : Fd} (h : ckHead vs i want e = some f) : 60 ≤ f.1 ∧ f.1 ≤ 70 := by
  unfold ckHead at h
  split at h
  · injection h with h; subst h; simp
  · split at h
    · injection h with h; subst h; simp
    · cases h
theorem or_code {a b : Option Fd} (ha : ∀ f, a = some f → 60 ≤ f.1 ∧ f.1 ≤ 70) (hb : ∀ f, b = some f → 60 ≤ f.1 ∧ f.1 ≤ 70) : ∀ f, a.or b = some f → 60 ≤ f.1 ∧ f.1 ≤ 70 := by
  intro f h
  cases a with
  | none => exact hb f (by simpa using h)
  | some x => exact ha f (by simpa using h)
theorem ckE_code {vs : List Var} (e : Ex) : ∀ {i : Nat} {want : Int} {f : Fd}, ckE vs i want e = some f → 60 ≤ f.1 ∧ f.1 ≤ 70 := by
  induction e with
  | not e ih => intro i want f h; rw [ckE] at h; exact or_code (fun _ => ckHead_code) (fun _ => ih) f h
  | bin op a b iha ihb =>
    intro i want f h; rw [ckE] at h
    refine or_code (fun _ => ckHead_code) (fun f h => ?_) f h
    split at h
    · exact or_code (fun _ => iha) (fun _ => ihb) f h
    · split at h
      · exact or_code (fun _ => iha) (fun _ => ihb) f h
      · exact or_code (fun _ => iha) (fun _ => ihb) f h
  | two g a b iha ihb => intro i want f h; rw [ckE] at h; exact or_code (fun _ => ckHead_code) (or_code (fun _ => iha) (fun _ => ihb)) f h
  | share a b c iha ihb ihc => intro i want f h; rw [ckE] at h; exact or_code (fun _ => ckHead_code) (or_code (fun _ => iha) (or_code (fun _ => ihb) (fun _ => ihc))) f h
  | _ => intro i want f h; simp only [ckE] at h; exact ckHead_code h
mutual
theorem ckS_code : ∀ (s : St) {vs : List Var} {labs : List Str} {i : Nat} {f : Fd}, ckS vs labs i s = .error f → 60 ≤ f.1 ∧ f.1 ≤ 70
  | .let_ s e, vs, labs, i, f, h => by
    rw [ckS] at h
    split at h
    · injection h with h; subst h; simp
    · split at h
      · injection h with h; subst h; simp
      · split at h
        · rename_i h1; injection h with h; subst h; exact ckE_code e h1
        · cases h
  | .set s e, vs, labs, i, f, h => by
    rw [ckS] at h
    split at h
    · injection h with h; subst h; simp
    · split at h
      · injection h with h; subst h; simp
      · split at h
        · rename_i h1; injection h with h; subst h; exact ckE_code e h1
        · cases h
  | .ite e a b, vs, labs, i, f, h => by
    rw [ckS] at h
    split at h
    · rename_i h1; injection h with h; subst h; exact ckE_code e h1
    · split at h
      · rename_i h1; injection h with h; subst h; exact ckL_code a h1
      · split at h
        · rename_i h1; injection h with h; subst h; exact ckL_code b h1
        · cases h
  | .while l e b, vs, labs, i, f, h => by
    rw [ckS] at h
    split at h
    · injection h with h; subst h; simp
    · split at h
      · rename_i h1; injection h with h; subst h; exact ckE_code e h1
      · split at h
        · rename_i h1; injection h with h; subst h; exact ckL_code b h1
        · cases h
  | .brk l, vs, labs, i, f, h => by
    rw [ckS] at h
    split at h
    · injection h with h; subst h; simp
    · cases h
  | .cont l, vs, labs, i, f, h => by
    rw [ckS] at h
    split at h
    · injection h with h; subst h; simp
    · cases h
  | .req n e, vs, labs, i, f, h => by
    rw [ckS] at h
    split at h
    · rename_i h1; injection h with h; subst h; exact ckE_code e h1
    · cases h
  | .pay a b, vs, labs, i, f, h => by
    rw [ckS] at h
    split at h
    · rename_i h1; injection h with h; subst h; exact ckE_code a h1
    · split at h
      · rename_i h1; injection h with h; subst h; exact ckE_code b h1
      · cases h
  | .fail _, vs, labs, i, f, h => by rw [ckS] at h; cases h
  | .done, vs, labs, i, f, h => by rw [ckS] at h; cases h
theorem ckL_code : ∀ (b : Blk) {vs : List Var} {labs : List Str} {i : Nat} {f : Fd}, ckL vs labs i b = some f → 60 ≤ f.1 ∧ f.1 ≤ 70
  | .nil, vs, labs, i, f, h => by rw [ckL] at h; cases h
  | .cons s b, vs, labs, i, f, h => by
    rw [ckL] at h
    split at h
    · rename_i h1; injection h with h; subst h; exact ckS_code s h1
    · exact ckL_code b h
end
theorem ckS_vs {vs vs' : List Var} {labs : List Str} {i : Nat} {s : St} (h : ckS vs labs i s = .ok vs') (hv : VsOk vs) : VsOk vs' := by
  cases s with
  | let_ n e =>
    rw [ckS] at h
    split at h
    · cases h
    · rename_i h1
      split at h
      · cases h
      · rename_i h2
        split at h
        · cases h
        · rename_i h3
          injection h with h
          subst h
          refine ⟨hv.names.add (by simpa using h1), hv.kinds.add ?_, by simp; omega⟩
          exact ckE_none_kind hv.kinds h3
  | _ => rw [ckS] at h; (repeat' split at h) <;> first | (cases h; done) | (injection h with h; subst h; exact hv)

/-! ### The stack of wants -/
theorem pop_nil_iff (st : List Want) : pop st = [] ↔ ∀ w ∈ st, w.left = 0 := by
  induction st with
  | nil => simp [pop]
  | cons w r ih =>
    by_cases h : w.left = 0
    · simp [pop, h, ih]
    · simp [pop, h]
theorem pop_suffix (st : List Want) : ∃ k, pop st = st.drop k ∧ k ≤ st.length ∧ (∀ w r, pop st = w :: r → w.left ≠ 0) ∧ ∀ (j : Nat) (w : Want), j < k → st[j]? = some w → w.left = 0 := by
  induction st with
  | nil => exact ⟨0, rfl, Nat.le_refl _, by simp [pop], fun j w h => by omega⟩
  | cons w r ih =>
    by_cases h : w.left = 0
    · obtain ⟨k, h1, h2, h3, h4⟩ := ih
      refine ⟨k + 1, by simp [pop, h, h1], by simpa using h2, by simpa [pop, h] using h3, fun j v hj hv => ?_⟩
      cases j with
      | zero => simp at hv; subst hv; exact h
      | succ j => exact h4 j v (by omega) (by simpa using hv)
    · refine ⟨0, by simp [pop, h], Nat.zero_le _, fun v s hs => ?_, fun j w h => by omega⟩
      simp [pop, h] at hs
      rw [← hs.1]; exact h
end Go.Proofs.YtocbblafgjpbeaaDoor.Sp
