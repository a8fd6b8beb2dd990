/- Plain Lean, no program in sight: the nodes of terms, what a list of nodes must be to be a tree, trees as typed syntax, and the check. -/
import Derived.Laws.Strings
namespace Go.Proofs.YtocbblafgjpbeaaDoor.Sp

/-! ### Strings -/
abbrev Str := ByteArray
def sEq (a b : Str) : Bool := a.toList == b.toList
theorem sEq_iff {a b : Str} : sEq a b = true ↔ a = b := by
  unfold sEq
  constructor
  · intro h
    have h := eq_of_beq h
    rw [ByteArray.toList_eq, ByteArray.toList_eq] at h
    cases a; cases b
    congr 1
    exact Array.toList_inj.1 h
  · rintro rfl; simp
theorem sEq_false {a b : Str} : sEq a b = false ↔ a ≠ b := by
  rw [← Bool.not_eq_true, sEq_iff]
theorem sEq_refl (a : Str) : sEq a a = true := sEq_iff.2 rfl
def empty : Str := ⟨#[]⟩

def isSmall (c : UInt8) : Bool := decide (97 ≤ c.toNat) && decide (c.toNat ≤ 122)
def isDigit (c : UInt8) : Bool := decide (48 ≤ c.toNat) && decide (c.toNat ≤ 57)
def keywords : List (List UInt8) := [[111, 110], [102, 117, 110, 100], [114, 101, 108, 101, 97, 115, 101], [100, 105, 115, 112, 117, 116, 101], [97, 114, 98, 105, 116, 114, 97, 116, 101], [114, 101, 102, 117, 110, 100], [101, 120, 112, 105, 114, 101], [108, 101, 116], [115, 101, 116], [105, 102], [101, 108, 115, 101], [119, 104, 105, 108, 101], [98, 114, 101, 97, 107], [99, 111, 110, 116, 105, 110, 117, 101], [114, 101, 113, 117, 105, 114, 101], [112, 97, 121], [116, 111], [102, 97, 105, 108], [100, 111, 110, 101], [116, 114, 117, 101], [102, 97, 108, 115, 101], [110, 111, 116], [97, 110, 100], [111, 114], [109, 105, 110], [109, 97, 120], [115, 104, 97, 114, 101]]
def isKeyword (l : List UInt8) : Bool := keywords.contains l
def nameOk (s : Str) : Bool :=
  match s.toList with
  | [] => false
  | c :: l => decide ((c :: l).length ≤ 12) && isSmall c && (c :: l).all (fun c => isSmall c || isDigit c) && !isKeyword (c :: l)

/-! ### Nodes -/
structure TN where
  op : Int
  n : Int
  name : Str

/-- What a node of that op is: 0 the rules, 1 a rule, 2 a block, 3 a statement, 4 an expression; -1: nothing. -/
def opPlace (op : Int) : Int := if op = 1 then 0 else if op = 2 then 1 else if op = 3 then 2 else if 4 ≤ op ∧ op ≤ 13 then 3 else if 14 ≤ op ∧ op ≤ 20 then 4 else -1
/-- Are N and Name as the table says? -/
def fieldsOk (x : TN) : Bool :=
  if x.op = 1 then decide (1 ≤ x.n) && sEq x.name empty
  else if x.op = 2 then decide (x.n ≤ 5) && sEq x.name empty
  else if x.op = 3 ∨ x.op = 14 then sEq x.name empty
  else if x.op = 10 ∨ x.op = 12 then decide (1 ≤ x.n) && decide (x.n ≤ 999) && sEq x.name empty
  else if x.op = 19 then decide (x.n ≤ 12) && sEq x.name empty
  else if x.op = 20 then decide (x.n ≤ 2) && sEq x.name empty
  else if x.op = 4 ∨ x.op = 5 ∨ x.op = 17 then decide (x.n = 0) && nameOk x.name
  else if x.op = 7 ∨ x.op = 8 ∨ x.op = 9 then decide (x.n = 0) && (sEq x.name empty || nameOk x.name)
  else decide (x.n = 0) && sEq x.name empty
def okNode (at_ : Int) (x : TN) : Bool := decide (opPlace x.op = at_) && fieldsOk x && decide (0 ≤ x.n)
/-- How many parts a node has. -/
def kidCount (x : TN) : Int :=
  if x.op = 1 ∨ x.op = 3 then x.n
  else if x.op = 2 ∨ x.op = 4 ∨ x.op = 5 ∨ x.op = 10 ∨ x.op = 18 then 1
  else if x.op = 6 then 3
  else if x.op = 7 ∨ x.op = 11 ∨ x.op = 19 then 2
  else if x.op = 20 then (if x.n = 2 then 3 else 2)
  else 0
/-- Where the k-th one stands. -/
def kidPlace (x : TN) (k : Int) : Int :=
  if x.op = 1 then 1
  else if x.op = 2 then 2
  else if x.op = 3 then 3
  else if x.op = 6 ∨ x.op = 7 then (if k = 0 then 4 else 2)
  else 4

/-! ### The wrong place of a list -/
structure Want where
  place : Int
  depth : Int
  left : Int
/-- What a node wants, the first one first. -/
def wants (x : TN) (depth : Int) : List Want :=
  if x.op = 1 then [⟨1, depth, x.n⟩]
  else if x.op = 2 then [⟨2, depth, 1⟩]
  else if x.op = 3 then [⟨3, depth, x.n⟩]
  else if x.op = 4 ∨ x.op = 5 ∨ x.op = 10 ∨ x.op = 18 then [⟨4, depth, 1⟩]
  else if x.op = 6 then [⟨4, depth, 1⟩, ⟨2, depth, 1⟩, ⟨2, depth, 1⟩]
  else if x.op = 7 then [⟨4, depth, 1⟩, ⟨2, depth, 1⟩]
  else if x.op = 11 ∨ x.op = 19 then [⟨4, depth, 2⟩]
  else if x.op = 20 then (if x.n = 2 then [⟨4, depth, 3⟩] else [⟨4, depth, 2⟩])
  else []
/-- The stack without the wants that are met. -/
def pop : List Want → List Want
  | [] => []
  | w :: st => if w.left = 0 then pop st else w :: st
/-- none: the list is as the stack wants it; some i: the wrong place. -/
def scan : List TN → Nat → List Want → Option Nat
  | [], i, st => if pop st = [] then none else some i
  | x :: t, i, st =>
    match pop st with
    | [] => some i
    | w :: st' => if i ≥ 256 ∨ w.depth > 24 ∨ okNode w.place x = false then some i else scan t (i + 1) (wants x (w.depth + 1) ++ ⟨w.place, w.depth, w.left - 1⟩ :: st')
def wrong (t : List TN) : Option Nat := scan t 0 [⟨0, 1, 1⟩]

/-! ### Forests -/
inductive Fo where
  | nil
  | cons (x : TN) (k r : Fo)
def Fo.len : Fo → Nat
  | .nil => 0
  | .cons _ _ r => r.len + 1
def Fo.flat : Fo → List TN
  | .nil => []
  | .cons x k r => x :: (k.flat ++ r.flat)
def Fo.size : Fo → Nat
  | .nil => 0
  | .cons _ k r => 1 + k.size + r.size
theorem Fo.length_flat (f : Fo) : f.flat.length = f.size := by
  induction f with
  | nil => rfl
  | cons x k r ihk ihr => simp [Fo.flat, Fo.size, ihk, ihr]; omega
/-- The parts of a node p, from the k-th on, are as they should be. -/
def VF (p : TN) : Int → Fo → Prop
  | _, .nil => True
  | k, .cons x ks r => okNode (kidPlace p k) x = true ∧ (ks.len : Int) = kidCount x ∧ VF x 0 ks ∧ VF p (k + 1) r

/-! ### Typed syntax -/
inductive Ex where
  | num (n : Int)
  | tt
  | ff
  | var (s : Str)
  | not (e : Ex)
  | bin (op : Int) (a b : Ex)
  | two (f : Int) (a b : Ex)
  | share (a b c : Ex)
def Ex.tn : Ex → TN
  | .num n => ⟨14, n, empty⟩
  | .tt => ⟨15, 0, empty⟩
  | .ff => ⟨16, 0, empty⟩
  | .var s => ⟨17, 0, s⟩
  | .not _ => ⟨18, 0, empty⟩
  | .bin op _ _ => ⟨19, op, empty⟩
  | .two f _ _ => ⟨20, f, empty⟩
  | .share _ _ _ => ⟨20, 2, empty⟩
def Ex.kids : Ex → Fo
  | .not e => .cons e.tn e.kids .nil
  | .bin _ a b => .cons a.tn a.kids (.cons b.tn b.kids .nil)
  | .two _ a b => .cons a.tn a.kids (.cons b.tn b.kids .nil)
  | .share a b c => .cons a.tn a.kids (.cons b.tn b.kids (.cons c.tn c.kids .nil))
  | _ => .nil
def Ex.size : Ex → Nat
  | .not e => 1 + e.size
  | .bin _ a b => 1 + a.size + b.size
  | .two _ a b => 1 + a.size + b.size
  | .share a b c => 1 + a.size + b.size + c.size
  | _ => 1
def Ex.Ok : Ex → Prop
  | .num _ => True
  | .tt => True
  | .ff => True
  | .var s => nameOk s = true
  | .not e => e.Ok
  | .bin op a b => 0 ≤ op ∧ op ≤ 12 ∧ a.Ok ∧ b.Ok
  | .two f a b => 0 ≤ f ∧ f ≤ 1 ∧ a.Ok ∧ b.Ok
  | .share a b c => a.Ok ∧ b.Ok ∧ c.Ok

mutual
inductive St where
  | let_ (s : Str) (e : Ex)
  | set (s : Str) (e : Ex)
  | ite (e : Ex) (a b : Blk)
  | while (l : Str) (e : Ex) (b : Blk)
  | brk (l : Str)
  | cont (l : Str)
  | req (n : Int) (e : Ex)
  | pay (a b : Ex)
  | fail (n : Int)
  | done
inductive Blk where
  | nil
  | cons (s : St) (b : Blk)
end
def Blk.len : Blk → Nat
  | .nil => 0
  | .cons _ b => b.len + 1
def Blk.tn (b : Blk) : TN := ⟨3, b.len, empty⟩
def St.tn : St → TN
  | .let_ s _ => ⟨4, 0, s⟩
  | .set s _ => ⟨5, 0, s⟩
  | .ite _ _ _ => ⟨6, 0, empty⟩
  | .while l _ _ => ⟨7, 0, l⟩
  | .brk l => ⟨8, 0, l⟩
  | .cont l => ⟨9, 0, l⟩
  | .req n _ => ⟨10, n, empty⟩
  | .pay _ _ => ⟨11, 0, empty⟩
  | .fail n => ⟨12, n, empty⟩
  | .done => ⟨13, 0, empty⟩
mutual
def St.kids : St → Fo
  | .let_ _ e => .cons e.tn e.kids .nil
  | .set _ e => .cons e.tn e.kids .nil
  | .ite e a b => .cons e.tn e.kids (.cons a.tn a.kids (.cons b.tn b.kids .nil))
  | .while _ e b => .cons e.tn e.kids (.cons b.tn b.kids .nil)
  | .brk _ => .nil
  | .cont _ => .nil
  | .req _ e => .cons e.tn e.kids .nil
  | .pay a b => .cons a.tn a.kids (.cons b.tn b.kids .nil)
  | .fail _ => .nil
  | .done => .nil
def Blk.kids : Blk → Fo
  | .nil => .nil
  | .cons s b => .cons s.tn s.kids b.kids
end
mutual
def St.size : St → Nat
  | .let_ _ e => 1 + e.size
  | .set _ e => 1 + e.size
  | .ite e a b => 1 + e.size + a.size + b.size
  | .while _ e b => 1 + e.size + b.size
  | .brk _ => 1
  | .cont _ => 1
  | .req _ e => 1 + e.size
  | .pay a b => 1 + a.size + b.size
  | .fail _ => 1
  | .done => 1
/-- With the block's own node. -/
def Blk.size : Blk → Nat
  | .nil => 1
  | .cons s b => s.size + b.size
end
mutual
def St.Ok : St → Prop
  | .let_ s e => nameOk s = true ∧ e.Ok
  | .set s e => nameOk s = true ∧ e.Ok
  | .ite e a b => e.Ok ∧ a.Ok ∧ b.Ok
  | .while l e b => (sEq l empty || nameOk l) = true ∧ e.Ok ∧ b.Ok
  | .brk l => (sEq l empty || nameOk l) = true
  | .cont l => (sEq l empty || nameOk l) = true
  | .req n e => 1 ≤ n ∧ n ≤ 999 ∧ e.Ok
  | .pay a b => a.Ok ∧ b.Ok
  | .fail n => 1 ≤ n ∧ n ≤ 999
  | .done => True
def Blk.Ok : Blk → Prop
  | .nil => True
  | .cons s b => s.Ok ∧ b.Ok
end
/-- The rules: for each its event and its block. -/
abbrev Ru := List (Int × Blk)
def Ru.kids : Ru → Fo
  | [] => .nil
  | r :: l => .cons ⟨2, r.1, empty⟩ (.cons r.2.tn r.2.kids .nil) (Ru.kids l)
def Ru.Ok : Ru → Prop
  | [] => True
  | r :: l => 0 ≤ r.1 ∧ r.1 ≤ 5 ∧ r.2.Ok ∧ Ru.Ok l
def Ru.tn (l : Ru) : TN := ⟨1, l.length, empty⟩
def Ru.flat (l : Ru) : List TN := l.tn :: (Ru.kids l).flat
end Go.Proofs.YtocbblafgjpbeaaDoor.Sp
