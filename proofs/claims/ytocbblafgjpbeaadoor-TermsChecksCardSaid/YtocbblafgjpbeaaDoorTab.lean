/- What the listed package-level tables hold, out of their reading. -/
import Derived.Test.YtocbblafgjpbeaaDoorShape
import Derived.Test.YtocbblafgjpbeaaDoorTwin
import Derived.Test.YtocbblafgjpbeaaDoorRows
import Derived.ProofKit
import Derived.LaidMore
import Derived.OpenShut
import Derived.Stop.Joined
import Derived.Deep.Slices
import Derived.Deep.Fields
import Derived.ChangeSame
import Derived.SizedLaws
namespace Go.Proofs.YtocbblafgjpbeaaDoor.Sp
open Go.ChangeShapes Go.WideShapes Go.ChangeAt Go.RowKit Go.Deep
set_option linter.unusedVariables false
set_option linter.unusedSimpArgs false

theorem chunks {α : Type} (k : Nat) : ∀ (n : Nat) (cs : List α) (F : Nat → List α), cs.length = n * k → (∀ i, i < n → (cs.drop (i * k)).take k = F i) → cs = (List.range n).flatMap F := by
  intro n
  induction n with
  | zero => intro cs F hl _; simp at hl; simp [hl]
  | succ n ih =>
    intro cs F hl h
    have h0 := h 0 (by omega)
    have h1 := ih (cs.drop k) (fun i => F (i + 1)) (by rw [List.length_drop, hl, Nat.succ_mul]; omega) (fun i hi => by
      rw [List.drop_drop, ← h (i + 1) (by omega), Nat.succ_mul, Nat.add_comm])
    rw [List.range_succ_eq_map, List.flatMap_cons, List.flatMap_map, ← h0, Nat.zero_mul, List.drop_zero]
    conv => lhs; rw [← List.take_append_drop k cs, h1]
theorem range_flatMap {α β : Type} (l : List α) (f : α → List β) (F : Nat → List β) (h : ∀ i x, l[i]? = some x → F i = f x) : (List.range l.length).flatMap F = l.flatMap f := by
  induction l generalizing F with
  | nil => rfl
  | cons a r ih =>
    rw [List.length_cons, List.range_succ_eq_map, List.flatMap_cons, List.flatMap_map, List.flatMap_cons, h 0 a rfl]
    congr 1
    exact ih (fun i => F (i + 1)) fun i x hx => h (i + 1) x (by simpa using hx)
section
variable {H : Type} {enc : TypeId × Value → H} {P : Program} {w : World} {base : Nat} {spare : Nat → Bool} {held : Bool}
theorem strs_of_trod {n fuel : Nat} {t e : TypeId} {cs : List Value} {p : List MemPlace} (ht : P.underlying t = some (.array n e)) (he : P.underlying e = some .string) (hc : P.cellsOf e = 1) (hct : P.cellsOf t = n)
    (bs : List (List UInt8)) (h : DataW.trod enc P w base spare held fuel t cs = some (.agg (bs.map fun b => .lit (.string b)), p)) : cs = bs.map fun b => Value.string ⟨b.toArray⟩ := by
  obtain ⟨xs, m, _, hx, hlen, hxl, hel⟩ := DataW.trod_array ht h
  injection hx with hx _
  injection hx with hx
  have hbl : bs.length = n := by have := congrArg List.length hx; simp at this; omega
  have h1 := chunks 1 n cs (fun i => (cs.drop (i * 1)).take 1) (by omega) (fun i hi => rfl)
  rw [h1, ← hbl, range_flatMap bs (fun b => [Value.string ⟨b.toArray⟩])]
  · induction bs with
    | nil => rfl
    | cons b r _ => simp [List.flatMap_cons, List.flatMap_singleton']; rw [List.map_eq_flatMap]
  · intro i b hb
    have hi : i < n := by rw [← hbl]; exact (List.getElem?_eq_some_iff.1 hb).1
    have h2 := hel i hi
    rw [hc] at h2
    obtain ⟨y, hy⟩ : ∃ y, xs[i]? = some y := ⟨_, List.getElem?_eq_getElem (by omega)⟩
    rw [hy] at h2
    obtain ⟨s, e1, e2, _⟩ := DataW.trod_string he h2
    have h3 : (bs.map fun b => (DataW.lit (.string b) : DataW H))[i]? = some y.1 := by rw [hx]; simp [hy]
    rw [List.getElem?_map, hb, e2] at h3
    simp at h3
    rw [e1, h3]
theorem shapes_of_trod {n fuel : Nat} {t e : TypeId} {f0 f1 f2 f3 : Field} {cs : List Value} {p : List MemPlace} (ht : P.underlying t = some (.array n e)) (he : P.underlying e = some (.struct #[f0, f1, f2, f3])) (hone : oneCellFields P #[f0, f1, f2, f3] = true) (hC : P.cellsOf e = 4) (hct : P.cellsOf t = n * 4)
    (h0 : P.underlying f0.type = some (.int .i64)) (h1 : P.underlying f1.type = some (.int .u64)) (h2 : P.underlying f2.type = some (.int .u64)) (h3 : P.underlying f3.type = some (.int .i64))
    (sh : List Shape) (h : DataW.trod enc P w base spare held fuel t cs = some (.agg (sh.map fun s => .agg [.lit (.int .i64 s.a), .lit (.int .u64 s.l), .lit (.int .u64 s.m), .lit (.int .i64 s.k)]), p)) : cs = sh.flatMap Shape.cells := by
  obtain ⟨xs, m, _, hx, hlen, hxl, hel⟩ := DataW.trod_array ht h
  injection hx with hx _
  injection hx with hx
  have hbl : sh.length = n := by have := congrArg List.length hx; simp at this; omega
  have h1' := chunks 4 n cs (fun i => (cs.drop (i * 4)).take 4) (by omega) (fun i hi => rfl)
  rw [h1', ← hbl]
  refine range_flatMap sh Shape.cells _ fun i s hs => ?_
  have hi : i < n := by rw [← hbl]; exact (List.getElem?_eq_some_iff.1 hs).1
  have h4 := hel i hi
  rw [hC] at h4
  obtain ⟨y, hy⟩ : ∃ y, xs[i]? = some y := ⟨_, List.getElem?_eq_getElem (by omega)⟩
  rw [hy] at h4
  have h5 : (sh.map fun s => (DataW.agg [.lit (.int .i64 s.a), .lit (.int .u64 s.l), .lit (.int .u64 s.m), .lit (.int .i64 s.k)] : DataW H))[i]? = some y.1 := by rw [hx]; simp [hy]
  rw [List.getElem?_map, hs] at h5
  simp only [Option.map_some, Option.some.injEq] at h5
  obtain ⟨ys, m', _, hys, hcl, hyl, hf⟩ := DataW.trod_struct he h4
  rw [hys] at h5
  injection h5 with h5
  rw [hC] at hcl
  generalize (cs.drop (i * 4)).take 4 = c4 at hcl hf ⊢
  match c4, hcl, ys, hyl with
  | [c0, c1, c2, c3], _, [y0, y1, y2, y3], _ =>
    simp only [List.map_cons, List.map_nil, List.cons.injEq] at h5
    obtain ⟨o0, k0⟩ := hone_of hone 0 f0 rfl
    obtain ⟨o1, k1⟩ := hone_of hone 1 f1 rfl
    obtain ⟨o2, k2⟩ := hone_of hone 2 f2 rfl
    obtain ⟨o3, k3⟩ := hone_of hone 3 f3 rfl
    have g0 : DataW.trod enc P w base spare held m' f0.type [c0] = some y0 := by simpa [o0, k0] using hf 0 f0 rfl
    have g1 : DataW.trod enc P w base spare held m' f1.type [c1] = some y1 := by simpa [o1, k1] using hf 1 f1 rfl
    have g2 : DataW.trod enc P w base spare held m' f2.type [c2] = some y2 := by simpa [o2, k2] using hf 2 f2 rfl
    have g3 : DataW.trod enc P w base spare held m' f3.type [c3] = some y3 := by simpa [o3, k3] using hf 3 f3 rfl
    obtain ⟨n0, e0, x0, _⟩ := DataW.trod_int h0 g0
    obtain ⟨n1, e1, x1, _⟩ := DataW.trod_int h1 g1
    obtain ⟨n2, e2, x2, _⟩ := DataW.trod_int h2 g2
    obtain ⟨n3, e3, x3, _⟩ := DataW.trod_int h3 g3
    rw [x0, x1, x2, x3] at h5
    simp at h5
    injection e0 with e0 _
    injection e1 with e1 _
    injection e2 with e2 _
    injection e3 with e3 _
    rw [e0, e1, e2, e3, Shape.cells, h5.1, h5.2.1, h5.2.2.1, h5.2.2.2]
end
theorem var_block {P : Program} {w : World} {name : String} {g : Nat} {cs : Array Value} (hg : P.globalNamed name = some g) (hv : w.var? P name = some cs) : ∃ fr : TypeId × Nat × Nat, w.heap[g]? = some (.cells cs fr.1 fr.2) := by
  unfold World.var? at hv
  rw [hg] at hv
  simp only [Option.bind_some] at hv
  split at hv
  · rename_i cs' t fr hh
    injection hv with hv
    subst hv
    exact ⟨(t, fr), hh⟩
  · cases hv
end Go.Proofs.YtocbblafgjpbeaaDoor.Sp
