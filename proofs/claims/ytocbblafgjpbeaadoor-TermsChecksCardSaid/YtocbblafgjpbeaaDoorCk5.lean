/- Walks: the checker's let and while. -/
import Derived.Test.YtocbblafgjpbeaaDoorCk4
namespace Go.Proofs.YtocbblafgjpbeaaDoor.Sp
open Go.RowKit
set_option linter.unusedVariables false
set_option linter.unusedSimpArgs false

/-- append inside a region that draws. -/
theorem wpHeld_app {P : Program} {ops : Array Oper} {rest : List Oper} {o : Oper} {a : Act} {Q : Exit → Act → World → Prop} {w : World} {S : World → Prop} {nn k : Nat} (hk : decide (k < nn) = true) (hgd : o.guard = none) (s x : Operand) (t : TypeId)
    (ho : o.op = .call { callee := .builtin .append, args := #[s, x], argTypes := #[t, t] }) (base : Nat) (e : TypeId) (size bytes : Nat) (z : Value) (ht : P.underlying t = some (.slice e))
    (hinfo : (P.info? e).map (fun i => (i.zero, i.size, i.bytes)) = some (some z, size, bytes)) (hzs : z.cells.size = size) (hsz : 0 < size) (hby : 0 < bytes)
    (v : Value) (n : Nat) (xs : List Value) (hs : a.eval s = v) (hown : w.ownsRow base e size v n xs)
    (nb m c : Nat) (cs : List Value) (te : TypeId) (fr : Nat × Nat) (hx : a.eval x = .slice (some ⟨nb, 0, none⟩) m c) (hblk : w.heap[nb]? = some (.cells cs.toArray te fr)) (hl : cs.length = m * size) (h1 : ∀ u ∈ cs, u.oneCell' = true)
    (hm : 0 < m) (hb : (n + m) * bytes ≤ 140737488355328) (hbase : base ≤ w.heap.size)
    (h : ∀ g cap w', w'.ownsRow base e size (.slice (some ⟨g, 0, none⟩) (n + m) cap) (n + m) (xs ++ cs) → Tch (fun i => v.ownBlock = some i) w w' → (v.ownBlock = some g ∨ w.heap.size ≤ g) → g < w'.heap.size →
      S w' ∧ wpHeld P ops Q S nn (k + 1) rest (a.put o.dst (.slice (some ⟨g, 0, none⟩) (n + m) cap)) w') :
    wpHeld P ops Q S nn k (o :: rest) a w := by
  obtain ⟨i0, hi0, h2⟩ := Option.map_eq_some_iff.1 hinfo
  simp only [Prod.mk.injEq] at h2
  have hnm : n + m ≤ 140737488355328 := Nat.le_trans (Nat.le_mul_of_pos_right _ hby) hb
  refine wpHeld_heavy hk (by rw [ho]; rfl) hgd (fun K hK => ?_)
  refine wp_append_lies w s x t ho base e i0 z size bytes ht hi0 h2.1 h2.2.1 h2.2.2 hzs hsz v n xs hs hown ⟨nb, 0, none⟩ m c cs hx hl (World.news_of_block (cs := cs.toArray) hblk |> fun k => by simpa using k) h1 hm (by simp only [maxLen]; omega) hb hbase _ rfl ?_
  intro g cap w' k1 k2 k3 k4
  obtain ⟨q1, q2⟩ := h g cap w' k1 ((Tch.refl _ _).grown k2 (fun i hi _ => hi)) (k3.imp id (fun e => by omega)) k4
  exact hK _ _ q1 q2

section
variable {lo tb : Nat} {w : World} {g i : Nat} {vs : List Var} {labs : List Str} {A : Option Addr} {c : Nat} {B : Option Addr} {d : Nat}
/-- One more loop around. -/
theorem CkAt.pushL (h : CkAt lo tb w g i vs labs A c B d) (l : Str) (hl : labs.length + 1 ≤ i) {O : Obj} {q d' : Nat} {w4 : World}
    (ho : w4.ownsRow lo 9 1 (.slice (some ⟨q, 0, none⟩) (labs.length + 1) d') (labs.length + 1) (labCells labs ++ [.string l]))
    (ht : Tch (fun k => (Value.slice B labs.length d).ownBlock = some k) (w.alloc O) w4) (hq : (Value.slice B labs.length d).ownBlock = some q ∨ w.heap.size + 1 ≤ q) :
    CkAt lo tb (w4.setCell ⟨g, 2, none⟩ (.slice (some ⟨q, 0, none⟩) (labs.length + 1) d')) g i vs (labs ++ [l]) A c (some ⟨q, 0, none⟩) d' ∧ Fr lo tb w (w4.setCell ⟨g, 2, none⟩ (.slice (some ⟨q, 0, none⟩) (labs.length + 1) d')) := by
  have hown : ∀ k, (Value.slice B labs.length d).ownBlock = some k → lo ≤ k ∧ k ≠ g := fun k hk => ⟨(h.lrow.lt k hk).1, fun he => h.lg (he ▸ hk)⟩
  have hlg := h.glo
  have hgl := heap_lt h.is
  have T : Tch (fun k => (Value.slice B labs.length d).ownBlock = some k) w w4 := ((Tch.refl _ w).alloc O).trans ht
  have htn : ¬ (Value.slice B labs.length d).ownBlock = some tb := h.tl
  have htw : tb < w4.heap.size := Nat.lt_of_lt_of_le h.tok.1 T.size
  have T2 : Tch (fun k => k = g) w4 (w4.setCell ⟨g, 2, none⟩ (.slice (some ⟨q, 0, none⟩) (labs.length + 1) d')) := (Tch.refl (fun k => k = g) w4).setCell (p := ⟨g, 2, none⟩) (fun _ => rfl) _
  have hi : w4.heap[g]? = _ := (T.block g hgl (fun hk => by have := hown g hk; omega)).trans h.is
  have hqt : q ≠ tb := by
    rcases hq with hq | hq
    · intro he; exact htn (he ▸ hq)
    · have := h.tok.1; omega
  have hqg : q ≠ g := by
    rcases hq with hq | hq
    · exact (hown q hq).2
    · omega
  refine ⟨{ is := ?_, vrow := T2.owns (T.owns h.vrow fun k hk => h.apart k hk) (fun k hk he => h.vg ((show k = g from he) ▸ hk)), lrow := ?_, apart := ?_, names := h.names, kinds := h.kinds, small := h.small, low := by simpa using hl, glo := hlg, vg := h.vg, lg := fun hq => hqg (by simpa [Value.ownBlock] using hq), tok := ⟨Nat.lt_of_lt_of_le htw T2.size, h.tok.2⟩, tv := h.tv, tl := fun hq => hqt (by simpa [Value.ownBlock] using hq) }, ?_⟩
  · have := heap_set hi 2 (.slice (some ⟨q, 0, none⟩) (labs.length + 1) d')
    unfold CkIs; rw [this]; simp
  · have := T2.owns ho (fun k hk => by
      have hk : q = k := by simpa [Value.ownBlock] using hk
      omega)
    simpa [labCells] using this
  · intro k hk hk2
    have hk2 : q = k := by simpa [Value.ownBlock] using hk2
    subst hk2
    rcases hq with hq | hq
    · exact h.apart q hk hq
    · have := (h.vrow.lt q hk).2; omega
  · exact ⟨(T.below (fun k hk => by have := hown k hk; omega) (by omega)).trans (T2.below (fun k hk => by omega) (by have := T.size; omega)), (T2.block tb htw h.tok.2).trans (T.block tb h.tok.1 htn)⟩
/-- .. and one less. -/
theorem CkAt.popL {l : Str} (h : CkAt lo tb w g i vs (labs ++ [l]) A c B d) (hl : labs.length ≤ i) :
    CkAt lo tb (w.setCell ⟨g, 2, none⟩ (.slice B labs.length d)) g i vs labs A c B d := by
  have T : Tch (fun q => q = g) w (w.setCell ⟨g, 2, none⟩ (.slice B labs.length d)) := (Tch.refl (fun q => q = g) w).setCell (p := ⟨g, 2, none⟩) (fun _ => rfl) _
  have hv := owns_take h.lrow labs.length (by simp)
  have e : (labCells (labs ++ [l])).take (labs.length * 1) = labCells labs := by
    simp [labCells, List.take_left']
  rw [e] at hv
  have hvg : (Value.slice B labs.length d).ownBlock ≠ some g := by
    intro hq
    refine h.lg ?_
    cases B with
    | none => simp [Value.ownBlock] at hq
    | some a => simpa [Value.ownBlock] using hq
  have htl : (Value.slice B labs.length d).ownBlock ≠ some tb := by
    intro hq
    refine h.tl ?_
    cases B with
    | none => simp [Value.ownBlock] at hq
    | some a => simpa [Value.ownBlock] using hq
  refine { is := ?_, lrow := T.owns hv (fun q hq he => hvg ((show q = g from he) ▸ hq)), vrow := T.owns h.vrow (fun q hq he => h.vg ((show q = g from he) ▸ hq)), apart := ?_, names := h.names, kinds := h.kinds, small := h.small, low := hl, glo := h.glo, vg := h.vg, lg := hvg, tok := ⟨Nat.lt_of_lt_of_le h.tok.1 T.size, h.tok.2⟩, tv := h.tv, tl := htl }
  · have := heap_set h.is 2 (.slice B labs.length d)
    unfold CkIs; rw [this]; rfl
  · intro q hq hq2
    refine h.apart q hq ?_
    cases B with
    | none => simp [Value.ownBlock] at hq2
    | some b => simpa [Value.ownBlock] using hq2
/-- One more variable. -/
theorem CkAt.pushV (h : CkAt lo tb w g i vs labs A c B d) (u : Var) (hu : findV vs u.name = none) (hk : u.kind = 1 ∨ u.kind = 2) (hn : vs.length < 19) {O : Obj} {q d' : Nat} {w4 : World}
    (ho : w4.ownsRow lo 149 3 (.slice (some ⟨q, 0, none⟩) (vs.length + 1) d') (vs.length + 1) (varCells vs ++ u.cells))
    (ht : Tch (fun k => (Value.slice A vs.length c).ownBlock = some k) (w.alloc O) w4) (hq : (Value.slice A vs.length c).ownBlock = some q ∨ w.heap.size + 1 ≤ q) :
    CkAt lo tb (w4.setCell ⟨g, 1, none⟩ (.slice (some ⟨q, 0, none⟩) (vs.length + 1) d')) g i (vs ++ [u]) labs (some ⟨q, 0, none⟩) d' B d ∧ Fr lo tb w (w4.setCell ⟨g, 1, none⟩ (.slice (some ⟨q, 0, none⟩) (vs.length + 1) d')) := by
  have hown : ∀ k, (Value.slice A vs.length c).ownBlock = some k → lo ≤ k ∧ k ≠ g := fun k hk => ⟨(h.vrow.lt k hk).1, fun he => h.vg (he ▸ hk)⟩
  have hlg := h.glo
  have hgl := heap_lt h.is
  have T : Tch (fun k => (Value.slice A vs.length c).ownBlock = some k) w w4 := ((Tch.refl _ w).alloc O).trans ht
  have htn : ¬ (Value.slice A vs.length c).ownBlock = some tb := h.tv
  have htw : tb < w4.heap.size := Nat.lt_of_lt_of_le h.tok.1 T.size
  have T2 : Tch (fun k => k = g) w4 (w4.setCell ⟨g, 1, none⟩ (.slice (some ⟨q, 0, none⟩) (vs.length + 1) d')) := (Tch.refl (fun k => k = g) w4).setCell (p := ⟨g, 1, none⟩) (fun _ => rfl) _
  have hi : w4.heap[g]? = _ := (T.block g hgl (fun hk => by have := hown g hk; omega)).trans h.is
  have hqt : q ≠ tb := by
    rcases hq with hq | hq
    · intro he; exact htn (he ▸ hq)
    · have := h.tok.1; omega
  have hqg : q ≠ g := by
    rcases hq with hq | hq
    · exact (hown q hq).2
    · omega
  refine ⟨{ is := ?_, lrow := T2.owns (T.owns h.lrow fun k hk hk2 => h.apart k hk2 hk) (fun k hk he => h.lg ((show k = g from he) ▸ hk)), vrow := ?_, apart := ?_, names := h.names.add hu, kinds := h.kinds.add hk, small := by simp; omega, low := h.low, glo := hlg, lg := h.lg, vg := fun hq => hqg (by simpa [Value.ownBlock] using hq), tok := ⟨Nat.lt_of_lt_of_le htw T2.size, h.tok.2⟩, tl := h.tl, tv := fun hq => hqt (by simpa [Value.ownBlock] using hq) }, ?_⟩
  · have := heap_set hi 1 (.slice (some ⟨q, 0, none⟩) (vs.length + 1) d')
    unfold CkIs; rw [this]; simp
  · have := T2.owns ho (fun k hk => by
      have hk : q = k := by simpa [Value.ownBlock] using hk
      omega)
    simpa [varCells] using this
  · intro k hk hk2
    have hk : q = k := by simpa [Value.ownBlock] using hk
    subst hk
    rcases hq with hq | hq
    · exact h.apart q hq hk2
    · have := (h.lrow.lt q hk2).2; omega
  · exact ⟨(T.below (fun k hk => by have := hown k hk; omega) (by omega)).trans (T2.below (fun k hk => by omega) (by have := T.size; omega)), (T2.block tb htw h.tok.2).trans (T.block tb h.tok.1 htn)⟩
end
theorem var_info : (Tryd.prog.info? 149).map (fun i => (i.zero, i.size, i.bytes)) = some (some (.agg #[.string ⟨#[]⟩, .int .i64 0, .int .u64 0]), 3, 32) := by kernel_rfl
theorem str_info : (Tryd.prog.info? 9).map (fun i => (i.zero, i.size, i.bytes)) = some (some (.string ⟨#[]⟩), 1, 16) := by kernel_rfl
end Go.Proofs.YtocbblafgjpbeaaDoor.Sp
