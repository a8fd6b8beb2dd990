/- Small laws of the model that the walks lean on. -/
import Derived.Test.YtocbblafgjpbeaaDoorMem
import Derived.WalkKit
import Derived.WalkSpells
import Derived.WalkLawsBesides
import Derived.KernelRfl
import Derived.Deep.AppendLies
import Derived.OwnWalk
namespace Go.Proofs.YtocbblafgjpbeaaDoor.Sp
open Go.RowKit
section
variable {P : Program}
/-- An index into an array value, element by element of one cell. -/
theorem index_agg1 (t e n : Nat) (hu : P.underlying t = some (.array n e)) (hs : (P.info? e).map (·.size) = some 1) (hd : (match P.underlying e with | some (.struct _) => true | some (.array _ _) => true | some _ => false | none => true) = false)
    (cs : Array Value) (k : Nat) (v : Value) (hk : cs[k]? = some v) (hlt : k < n) (w : World) : (Instr.index t (.agg cs) (.int .i64 k)).run P w = .ok v w := by
  obtain ⟨i, hi, h1⟩ := Option.map_eq_some_iff.1 hs
  cases hue : P.underlying e with
  | none => simp [hue] at hd
  | some d =>
    have h0 : (0 : Int) ≤ (k : Int) ∧ (k : Int) < (n : Int) := by omega
    cases d <;> simp [hue] at hd <;> simp [Instr.index, asIntOf, run_underlying hu, run_underlying hue, h0.1, hlt, part, isAgg, sizeOf, typeInfo, hi, h1, hk]
/-- .. element by element of several cells. -/
theorem index_aggN (t e n s : Nat) (hu : P.underlying t = some (.array n e)) (hs : (P.info? e).map (·.size) = some s) (hd : (match P.underlying e with | some (.struct _) => true | some (.array _ _) => true | _ => false) = true)
    (cs : Array Value) (k : Nat) (hlt : k < n) (w : World) : (Instr.index t (.agg cs) (.int .i64 k)).run P w = .ok (.agg (cs.extract (k * s) (k * s + s))) w := by
  obtain ⟨i, hi, h1⟩ := Option.map_eq_some_iff.1 hs
  cases hue : P.underlying e with
  | none => simp [hue] at hd
  | some d =>
    have h0 : (0 : Int) ≤ (k : Int) ∧ (k : Int) < (n : Int) := by omega
    cases d <;> simp [hue] at hd <;> simp [Instr.index, asIntOf, run_underlying hu, run_underlying hue, h0.1, hlt, part, isAgg, sizeOf, typeInfo, hi, h1]
end
/-- append of a literal's elements onto a row of the call's own, in one line. -/
theorem wpApp {P : Program} {ops : Array Oper} {rest : List Oper} {o : Oper} {a : Act} {Q : Exit → Act → World → Prop} {w : World} (hgd : o.guard = none) (s x : Operand) (t : TypeId)
    (ho : o.op = .call { callee := .builtin .append, args := #[s, x], argTypes := #[t, t] }) (base : Nat) (e : TypeId) (size bytes : Nat) (z : Value) (ht : P.underlying t = some (.slice e))
    (hinfo : (P.info? e).map (fun i => (i.zero, i.size, i.bytes)) = some (some z, size, bytes)) (hzs : z.cells.size = size) (hsz : 0 < size) (hby : 0 < bytes)
    (v : Value) (n : Nat) (xs : List Value) (hs : a.eval s = v) (hown : w.ownsRow base e size v n xs)
    (nb m c : Nat) (cs : List Value) (te : TypeId) (fr : Nat × Nat) (hx : a.eval x = .slice (some ⟨nb, 0, none⟩) m c) (hblk : w.heap[nb]? = some (.cells cs.toArray te fr)) (hl : cs.length = m * size) (h1 : ∀ u ∈ cs, u.oneCell' = true)
    (hm : 0 < m) (hb : (n + m) * bytes ≤ 140737488355328) (hbase : base ≤ w.heap.size)
    (h : ∀ g cap w', w'.ownsRow base e size (.slice (some ⟨g, 0, none⟩) (n + m) cap) (n + m) (xs ++ cs) → Tch (fun i => v.ownBlock = some i) w w' → (v.ownBlock = some g ∨ w.heap.size ≤ g) → g < w'.heap.size → wpList P ops Q rest (a.put o.dst (.slice (some ⟨g, 0, none⟩) (n + m) cap)) w') :
    wpList P ops Q (o :: rest) a w := by
  obtain ⟨i0, hi0, h2⟩ := Option.map_eq_some_iff.1 hinfo
  simp only [Prod.mk.injEq] at h2
  have hnm : n + m ≤ 140737488355328 := Nat.le_trans (Nat.le_mul_of_pos_right _ hby) hb
  refine wpList_append_lies w hgd s x t ho base e i0 z size bytes ht hi0 h2.1 h2.2.1 h2.2.2 hzs hsz v n xs hs hown ⟨nb, 0, none⟩ m c cs hx hl (World.news_of_block (cs := cs.toArray) hblk |> fun k => by simpa using k) h1 hm (by simp only [maxLen]; omega) hb hbase _ rfl ?_
  intro g cap w' k1 k2 k3 k4
  exact h g cap w' k1 ((Tch.refl _ _).grown k2 (fun i hi _ => hi)) (k3.imp id (fun e => by omega)) k4
theorem toList_empty : ByteArray.toList empty = [] := ByteArray.toList_mk []
theorem isSmall_dec (c : UInt8) : isSmall c = (decide ((97 : Int) ≤ c.toNat) && decide ((c.toNat : Int) ≤ 122)) := by
  unfold isSmall
  have e1 : decide ((97 : Int) ≤ c.toNat) = decide (97 ≤ c.toNat) := by rw [decide_eq_decide]; omega
  have e2 : decide ((c.toNat : Int) ≤ 122) = decide (c.toNat ≤ 122) := by rw [decide_eq_decide]; omega
  rw [e1, e2]
theorem isDigit_dec (c : UInt8) : isDigit c = (decide ((48 : Int) ≤ c.toNat) && decide ((c.toNat : Int) ≤ 57)) := by
  unfold isDigit
  have e1 : decide ((48 : Int) ≤ c.toNat) = decide (48 ≤ c.toNat) := by rw [decide_eq_decide]; omega
  have e2 : decide ((c.toNat : Int) ≤ 57) = decide (c.toNat ≤ 57) := by rw [decide_eq_decide]; omega
  rw [e1, e2]
theorem ret_bool {a b : Bool} (h : a = b) : Ending.returned (.bool a) = .returned (.bool b) := by rw [h]
theorem ret_int {k : IntKind} {a b : Int} (h : a = b) : Ending.returned (.int k a) = .returned (.int k b) := by rw [h]
end Go.Proofs.YtocbblafgjpbeaaDoor.Sp
