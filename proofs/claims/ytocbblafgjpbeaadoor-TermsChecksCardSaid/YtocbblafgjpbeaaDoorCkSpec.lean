/- Plain Lean: the check of a tree: names, kinds, labels, events. -/
import Derived.Test.YtocbblafgjpbeaaDoorScan
namespace Go.Proofs.YtocbblafgjpbeaaDoor.Sp

/-- Where a name stands among the variables, the first one. -/
def findV : List Var → Str → Option (Nat × Var)
  | [], _ => none
  | v :: r, s => if v.name = s then some (0, v) else (findV r s).map fun p => (p.1 + 1, p.2)
def NamesOk (vs : List Var) : Prop := ∀ (i j : Nat) (u v : Var), vs[i]? = some u → vs[j]? = some v → u.name = v.name → i = j
def KindsOk (vs : List Var) : Prop := ∀ (j : Nat) (v : Var), vs[j]? = some v → v.kind = 1 ∨ v.kind = 2
theorem findV_spec (vs : List Var) (s : Str) : (∃ j v, findV vs s = some (j, v) ∧ vs[j]? = some v ∧ v.name = s) ∨ (findV vs s = none ∧ ∀ (j : Nat) (v : Var), vs[j]? = some v → v.name ≠ s) := by
  induction vs with
  | nil => right; exact ⟨rfl, fun j v h => by simp at h⟩
  | cons x r ih =>
    by_cases h : x.name = s
    · left; exact ⟨0, x, by simp [findV, h], rfl, h⟩
    · rcases ih with ⟨j, v, h1, h2, h3⟩ | ⟨h1, h2⟩
      · left; exact ⟨j + 1, v, by simp [findV, h, h1], by simpa using h2, h3⟩
      · right
        refine ⟨by simp [findV, h, h1], fun j v hj => ?_⟩
        cases j with
        | zero => simp at hj; subst hj; exact h
        | succ j => exact h2 j v (by simpa using hj)
theorem findV_hit {vs : List Var} {s : Str} {j : Nat} {v : Var} (hn : NamesOk vs) (hj : vs[j]? = some v) (hs : v.name = s) : findV vs s = some (j, v) := by
  rcases findV_spec vs s with ⟨k, u, h1, h2, h3⟩ | ⟨h1, h2⟩
  · have := hn k j u v h2 hj (by rw [h3, hs])
    subst this
    rw [h1]; rw [h2] at hj; injection hj with hj; rw [hj]
  · exact absurd hs (h2 j v hj)
theorem findV_miss {vs : List Var} {s : Str} (h : ∀ (j : Nat) (v : Var), vs[j]? = some v → v.name ≠ s) : findV vs s = none := by
  rcases findV_spec vs s with ⟨k, u, h1, h2, h3⟩ | ⟨h1, h2⟩
  · exact absurd h3 (h k u h2)
  · exact h1
theorem findV_get {vs : List Var} {s : Str} {j : Nat} {v : Var} (h : findV vs s = some (j, v)) : vs[j]? = some v ∧ v.name = s := by
  rcases findV_spec vs s with ⟨k, u, h1, h2, h3⟩ | ⟨h1, h2⟩
  · rw [h1] at h; injection h with h; injection h with h4 h5; subst h4; subst h5; exact ⟨h2, h3⟩
  · rw [h1] at h; cases h
theorem NamesOk.add {vs : List Var} (h : NamesOk vs) {u : Var} (hu : findV vs u.name = none) : NamesOk (vs ++ [u]) := by
  have hm : ∀ (j : Nat) (v : Var), vs[j]? = some v → v.name ≠ u.name := by
    rcases findV_spec vs u.name with ⟨k, w, h1, _⟩ | ⟨_, h2⟩
    · rw [h1] at hu; cases hu
    · exact h2
  have key : ∀ (i : Nat) (x : Var), (vs ++ [u])[i]? = some x → vs[i]? = some x ∨ i = vs.length ∧ x = u := by
    intro i x hi
    by_cases hl : i < vs.length
    · left; rwa [List.getElem?_append_left hl] at hi
    · right
      rw [List.getElem?_append_right (by omega)] at hi
      have : i - vs.length = 0 := by
        have := (List.getElem?_eq_some_iff.1 hi).1; simp at this; omega
      rw [this] at hi; simp at hi
      exact ⟨by omega, hi.symm⟩
  intro i j x y hi hj hxy
  rcases key i x hi with h1 | ⟨h1, h2⟩ <;> rcases key j y hj with h3 | ⟨h3, h4⟩
  · exact h i j x y h1 h3 hxy
  · subst h4; exact absurd hxy (hm i x h1)
  · subst h2; exact absurd hxy.symm (hm j y h3)
  · omega
theorem KindsOk.add {vs : List Var} (h : KindsOk vs) {u : Var} (hu : u.kind = 1 ∨ u.kind = 2) : KindsOk (vs ++ [u]) := by
  intro j v hj
  by_cases hl : j < vs.length
  · rw [List.getElem?_append_left hl] at hj; exact h j v hj
  · rw [List.getElem?_append_right (by omega)] at hj
    have : v ∈ [u] := List.mem_of_getElem? hj
    simp at this; subst this; exact hu

/-- What is found: code and place. -/
abbrev Fd := Int × Nat
def kindE (vs : List Var) : Ex → Int
  | .num _ => 1
  | .tt => 2
  | .ff => 2
  | .var s => match findV vs s with | some p => p.2.kind | none => 0
  | .not _ => 2
  | .bin op _ _ => if op ≤ 7 then 2 else 1
  | .two _ _ _ => 1
  | .share _ _ _ => 1
/-- .. in front of the parts. -/
def ckHead (vs : List Var) (i : Nat) (want : Int) (e : Ex) : Option Fd :=
  if kindE vs e = 0 then some (67, i) else if want ≠ 0 ∧ want ≠ kindE vs e then some (68, i) else none
def ckE (vs : List Var) : Nat → Int → Ex → Option Fd
  | i, want, .not a => (ckHead vs i want (.not a)).or (ckE vs (i + 1) 2 a)
  | i, want, .bin op a b => (ckHead vs i want (.bin op a b)).or
      (if op ≤ 1 then (ckE vs (i + 1) 2 a).or (ckE vs (i + 1 + a.size) 2 b)
       else if op ≤ 3 then (ckE vs (i + 1) 0 a).or (ckE vs (i + 1 + a.size) (kindE vs a) b)
       else (ckE vs (i + 1) 1 a).or (ckE vs (i + 1 + a.size) 1 b))
  | i, want, .two f a b => (ckHead vs i want (.two f a b)).or ((ckE vs (i + 1) 1 a).or (ckE vs (i + 1 + a.size) 1 b))
  | i, want, .share a b c => (ckHead vs i want (.share a b c)).or ((ckE vs (i + 1) 1 a).or ((ckE vs (i + 1 + a.size) 1 b).or (ckE vs (i + 1 + a.size + b.size) 1 c)))
  | i, want, e => ckHead vs i want e
theorem kindE_ok {vs : List Var} (hk : KindsOk vs) (e : Ex) : kindE vs e = 0 ∨ kindE vs e = 1 ∨ kindE vs e = 2 := by
  cases e with
  | var s =>
    simp only [kindE]
    rcases hf : findV vs s with _ | ⟨j, v⟩
    · left; rfl
    · have := hk j v (findV_get hf).1
      right; simpa using this
  | bin op a b => simp only [kindE]; split <;> simp
  | _ => simp [kindE]
theorem ckE_none_kind {vs : List Var} (hk : KindsOk vs) {i : Nat} {want : Int} {e : Ex} (h : ckE vs i want e = none) : kindE vs e = 1 ∨ kindE vs e = 2 := by
  have h0 : ckHead vs i want e = none := by
    cases e <;> simp only [ckE] at h <;> first | exact h | exact (Option.or_eq_none_iff.1 h).1
  have hne : kindE vs e ≠ 0 := by intro h1; simp [ckHead, h1] at h0
  have := kindE_ok hk e
  omega

/-! ### Parts as a list -/
def Ex.subs : Ex → List Ex
  | .not a => [a]
  | .bin _ a b => [a, b]
  | .two _ a b => [a, b]
  | .share a b c => [a, b, c]
  | _ => []
def exFo : List Ex → Fo
  | [] => .nil
  | e :: r => .cons e.tn e.kids (exFo r)
def exSize : List Ex → Nat
  | [] => 0
  | e :: r => e.size + exSize r
theorem Ex.kids_subs (e : Ex) : e.kids = exFo e.subs := by cases e <;> rfl
theorem Ex.size_subs (e : Ex) : e.size = 1 + exSize e.subs := by cases e <;> simp [Ex.size, Ex.subs, exSize] <;> omega
def ckEs (vs : List Var) (want : Int) : Nat → List Ex → Option Fd
  | _, [] => none
  | i, e :: r => (ckE vs i want e).or (ckEs vs want (i + e.size) r)
/-- How the parts are looked at. -/
def Ex.cls : Ex → Int
  | .not _ => 0
  | .bin op _ _ => if op ≤ 1 then 0 else if op ≤ 3 then 1 else 2
  | _ => 2
theorem ckE_num {vs : List Var} {i : Nat} {want : Int} {e : Ex} (h : e.cls = 2) : ckE vs i want e = (ckHead vs i want e).or (ckEs vs 1 (i + 1) e.subs) := by
  cases e with
  | not a => simp [Ex.cls] at h
  | bin op a b =>
    have h1 : ¬ op ≤ 1 := by intro h1; simp [Ex.cls, h1] at h
    have h3 : ¬ op ≤ 3 := by intro h3; simp [Ex.cls, h1, h3] at h
    simp [ckE, h1, h3, Ex.subs, ckEs]
  | _ => simp [ckE, Ex.subs, ckEs]
theorem ckE_bool {vs : List Var} {i : Nat} {want : Int} {e : Ex} (h : e.cls = 0) : ckE vs i want e = (ckHead vs i want e).or (ckEs vs 2 (i + 1) e.subs) := by
  cases e with
  | not a => simp [ckE, Ex.subs, ckEs]
  | bin op a b =>
    have h1 : op ≤ 1 := by
      by_cases h1 : op ≤ 1
      · exact h1
      · simp only [Ex.cls, h1, if_false] at h; split at h <;> simp at h
    simp [ckE, h1, Ex.subs, ckEs]
  | _ => simp [Ex.cls] at h

/-! ### Statements -/
def hasL (labs : List Str) (l : Str) : Bool := labs.any fun m => sEq m l
mutual
def ckS (vs : List Var) (labs : List Str) (i : Nat) : St → Except Fd (List Var)
  | .let_ s e =>
    if (findV vs s).isSome then .error (67, i)
    else if 19 ≤ vs.length then .error (63, i)
    else match ckE vs (i + 1) 0 e with
      | some f => .error f
      | none => .ok (vs ++ [⟨s, kindE vs e, 0⟩])
  | .set s e =>
    match findV vs s with
    | none => .error (67, i)
    | some (j, v) => if j < 11 then .error (67, i) else match ckE vs (i + 1) v.kind e with
      | some f => .error f
      | none => .ok vs
  | .ite e a b =>
    match ckE vs (i + 1) 2 e with
    | some f => .error f
    | none => match ckL vs labs (i + 1 + e.size + 1) a with
      | some f => .error f
      | none => match ckL vs labs (i + 1 + e.size + a.size + 1) b with
        | some f => .error f
        | none => .ok vs
  | .while l e b =>
    if (!sEq l empty && hasL labs l) = true then .error (69, i)
    else match ckE vs (i + 1) 2 e with
      | some f => .error f
      | none => match ckL vs (labs ++ [l]) (i + 1 + e.size + 1) b with
        | some f => .error f
        | none => .ok vs
  | .brk l => if (labs.isEmpty || (!sEq l empty && !hasL labs l)) = true then .error (69, i) else .ok vs
  | .cont l => if (labs.isEmpty || (!sEq l empty && !hasL labs l)) = true then .error (69, i) else .ok vs
  | .req _ e => match ckE vs (i + 1) 2 e with
    | some f => .error f
    | none => .ok vs
  | .pay a b => match ckE vs (i + 1) 1 a with
    | some f => .error f
    | none => match ckE vs (i + 1 + a.size) 1 b with
      | some f => .error f
      | none => .ok vs
  | .fail _ => .ok vs
  | .done => .ok vs
/-- The statements of a block; the node of the block itself stands at i - 1. -/
def ckL (vs : List Var) (labs : List Str) (i : Nat) : Blk → Option Fd
  | .nil => none
  | .cons s b => match ckS vs labs i s with
    | .error f => some f
    | .ok vs' => ckL vs' labs (i + s.size) b
end
/-- The rules; told: the events so far; the rule's node stands at i. -/
def ckR (vs : List Var) : List Int → Nat → Ru → Option Fd
  | _, _, [] => none
  | told, i, r :: l => if r.1 ∈ told then some (66, i) else (ckL vs [] (i + 2) r.2).or (ckR vs (r.1 :: told) (i + 1 + r.2.size) l)
end Go.Proofs.YtocbblafgjpbeaaDoor.Sp
