/- Walks: the reference: what can be seen everywhere; the wrong place of a list. -/
import Derived.Test.YtocbblafgjpbeaaDoorRef3
import Derived.Test.YtocbblafgjpbeaaDoorCk8
import Derived.Test.YtocbblafgjpbeaaDoorGrow2
namespace Go.Proofs.YtocbblafgjpbeaaDoor.Sp
open Go.RowKit
set_option linter.unusedVariables false
set_option linter.unusedSimpArgs false

set_option maxHeartbeats 3200000 in
theorem rinputs_any (e : En) (w : World) :
    Calls Tryd.prog 38 #[e.agg] w fun en w' => en = .returned (.slice (some ⟨w.heap.size + 1, 0, none⟩) 11 11) ∧ w'.ownsRow w.heap.size 151 3 (.slice (some ⟨w.heap.size + 1, 0, none⟩) 11 11) 11 (varCells (inputsV e)) ∧ Below w.heap.size w w' ∧ w'.heap.size = w.heap.size + 2 := by
  obtain ⟨c, a, h, n, o, d, k, dis⟩ := e
  have key : ∀ (d1 : Int) (dis : Bool), (if dis = true then (1 : Int) else 0) = d1 → ((w.alloc (.cells #[.int .u64 c, .int .u64 a, .int .u64 h, .int .u64 n, .int .u64 o, .int .u64 d, .int .u64 k, .bool dis] 42)).alloc (.cells (varCells (inputsV ⟨c, a, h, n, o, d, k, dis⟩)).toArray 151)).ownsRow w.heap.size 151 3 (.slice (some ⟨w.heap.size + 1, 0, none⟩) 11 11) 11 (varCells (inputsV ⟨c, a, h, n, o, d, k, dis⟩)) := by
    intro d1 dis _
    refine ⟨by rw [varCells_length]; rfl, .inr ⟨w.heap.size + 1, 11, (varCells (inputsV ⟨c, a, h, n, o, d, k, dis⟩)).toArray, rfl, by omega, heap_alloc2_new w _ _, by omega, by decide, by simp [varCells_length]; rfl, ?_⟩⟩
    exact List.take_of_length_le (by rw [varCells_length]; simp [inputsV])
  have HKY := Asd.mk key; clear key
  simp only [En.agg]
  cases dis with
  | true =>
    go_enter Tryd.func38, Tryd.ntmps38
    go_wp2_with fail
    go_ret
    exact ⟨rfl, HKY.out 1 true rfl, ((Below.refl _ _).alloc (Nat.le_refl _) _).alloc (by simp) _, by simp⟩
  | false =>
    go_enter Tryd.func38, Tryd.ntmps38
    go_wp2_with fail
    go_ret
    exact ⟨rfl, HKY.out 0 false rfl, ((Below.refl _ _).alloc (Nat.le_refl _) _).alloc (by simp) _, by simp⟩


theorem want_info : (Tryd.prog.info? 135).map (fun i => (i.zero, i.size, i.bytes)) = some (some (.agg #[.int .i64 0, .int .i64 0, .int .u64 0]), 3, 24) := by kernel_rfl
/-! ### The stack of wants in memory, its top last -/
def StAt (lo : Nat) (w : World) (v : Value) (st : List Want) : Prop := w.ownsRow lo 135 3 v st.length (wantCells st.reverse)
theorem wantCells_snoc (r : List Want) (v : Want) : wantCells (v :: r).reverse = wantCells r.reverse ++ [.int .i64 v.place, .int .i64 v.depth, .int .u64 v.left] := by
  rw [List.reverse_cons, wantCells_append]; rfl
theorem StAt.shape {lo : Nat} {w : World} {v : Value} {st : List Want} (h : StAt lo w v st) : ∃ A c, v = .slice A st.length c ∧ st.length ≤ c ∧ c ≤ maxLen := by
  obtain ⟨A, c, h1, h2, h3, _⟩ := owns_shape h
  exact ⟨A, c, h1, h2, h3⟩
theorem StAt.top {lo : Nat} {w : World} {A : Option Addr} {c m : Nat} {v : Want} {r : List Want} (h : StAt lo w (.slice A m c) (v :: r)) :
    ∃ q, A = some ⟨q, 0, none⟩ ∧ lo ≤ q ∧ q < w.heap.size ∧ w.cell? ⟨q, r.length * 3, none⟩ = some (.int .i64 v.place) ∧ w.cell? ⟨q, r.length * 3 + 1, none⟩ = some (.int .i64 v.depth) ∧ w.cell? ⟨q, r.length * 3 + 2, none⟩ = some (.int .u64 v.left) ∧ (∀ j, w.frozen? ⟨q, j, none⟩ = false) := by
  obtain ⟨A', c', he, _, _, hq, hr⟩ := owns_shape h
  injection he with he1 he2 he3
  subst he1; subst he3
  obtain ⟨q, rfl, hlo, hob⟩ := hq (by simp)
  have hm : m = (v :: r).length := he2
  subst hm
  have hl : (wantCells r.reverse).length = r.length * 3 := by rw [wantCells_length]; simp
  have key : ∀ j u, [Value.int .i64 v.place, .int .i64 v.depth, .int .u64 v.left][j]? = some u → w.cell? ⟨q, r.length * 3 + j, none⟩ = some u := by
    intro j u hu
    obtain ⟨g, hg, _, hc⟩ := hr (r.length * 3 + j) u (by
      rw [wantCells_snoc, List.getElem?_append_right (by omega), hl, Nat.add_sub_cancel_left]; exact hu)
    injection hg with hg
    injection hg with hg _ _
    subst hg
    exact hc
  have k0 := key 0 _ rfl
  refine ⟨q, rfl, hlo, World.block_lt_of_cell? w _ k0, k0, key 1 _ rfl, key 2 _ rfl, fun j => World.ownsRow.frozenAt h j⟩
theorem StAt.pop {lo : Nat} {w : World} {A : Option Addr} {c m : Nat} {v : Want} {r : List Want} (h : StAt lo w (.slice A m c) (v :: r)) : StAt lo w (.slice A r.length c) r := by
  obtain ⟨A', c', he, _⟩ := owns_shape h
  injection he with he1 he2 he3
  subst he1; subst he3
  have hm : m = (v :: r).length := he2
  subst hm
  have := owns_take h r.length (by simp)
  rw [wantCells_snoc, List.take_left' (by rw [wantCells_length]; simp)] at this
  exact this
/-- The top wants one less. -/
theorem StAt.less {lo : Nat} {w : World} {q c m : Nat} {v : Want} {r : List Want} (h : StAt lo w (.slice (some ⟨q, 0, none⟩) m c) (v :: r)) (k : Int) :
    StAt lo (w.setCell ⟨q, r.length * 3 + 2, none⟩ (.int .u64 k)) (.slice (some ⟨q, 0, none⟩) m c) (⟨v.place, v.depth, k⟩ :: r) := by
  have hm : m = (v :: r).length := by
    obtain ⟨A', c', he, _⟩ := owns_shape h
    injection he
  subst hm
  have h2 := (World.ownsRow.stored h (r.length * 3 + 2) (.int .u64 k)).1
  have hl : (wantCells r.reverse).length = r.length * 3 := by rw [wantCells_length]; simp
  have e : (wantCells (v :: r).reverse).set (r.length * 3 + 2) (.int .u64 k) = wantCells ((⟨v.place, v.depth, k⟩ : Want) :: r).reverse := by
    rw [wantCells_snoc, wantCells_snoc, List.set_append_right _ _ (by omega), hl, Nat.add_sub_cancel_left]; rfl
  rw [e] at h2
  exact h2
theorem StAt.tch {lo : Nat} {S : Nat → Prop} {w w' : World} {v : Value} {st : List Want} (h : StAt lo w v st) (ht : Tch S w w') (hn : ∀ k, v.ownBlock = some k → ¬ S k) : StAt lo w' v st := ht.owns h hn
theorem StAt.below {lo : Nat} {w w' : World} {v : Value} {st : List Want} (h : StAt lo w v st) (hb : Below w.heap.size w w') : StAt lo w' v st := (Tch.of_below (fun _ => False) hb).owns h (fun _ _ e => e)
end Go.Proofs.YtocbblafgjpbeaaDoor.Sp
