/- An argument that is a list of nodes, opened; the listed tables, opened. -/
import Derived.Test.YtocbblafgjpbeaaDoorTab
import Derived.Test.YtocbblafgjpbeaaDoorGrow2

import Derived.Carry
namespace Go.Proofs.YtocbblafgjpbeaaDoor.Sp
open Go.ChangeShapes Go.WideShapes Go.ChangeAt Go.RowKit Go.Deep
set_option linter.unusedVariables false
set_option linter.unusedSimpArgs false

section
variable {H : Type} {enc : TypeId × Value → H} {P : Program} {w : World} {base : Nat} {spare : Nat → Bool} {held : Bool}
theorem open_slice_fields {t e : TypeId} {fs : Array Field} {fuel : Nat} {cs : List Value} {x : DataW H × List MemPlace} (ht : P.underlying t = some (.slice e)) (he : P.underlying e = some (.struct fs))
    (hone : oneCellFields P fs = true) (hC : P.cellsOf e = fs.size) (h : DataW.trod enc P w base spare held fuel t cs = some x) :
    (cs = [.slice none 0 0] ∧ x = (.nil, [])) ∨
    ∃ (a : Addr) (len cap m : Nat) (D : Nat → DataW H) (Pl : Nat → List MemPlace), cs = [.slice (some a) len cap] ∧ base ≤ a.block ∧ len ≤ cap ∧ cap ≤ maxLen ∧ m = (if spare a.block then cap else len) ∧
      x = (.slice ((List.range len).map D) ((List.range (m - len)).map fun j => D (len + j)), MemPlace.row a (m * fs.size) ++ (List.range m).flatMap Pl) ∧
      ∀ i, i < m → ∃ (ys : List (DataW H × List MemPlace)) (n : Nat), D i = .agg (ys.map (·.1)) ∧ Pl i = ys.flatMap (·.2) ∧ ys.length = fs.size ∧
        ∀ (j : Nat) (f : Field), fs[j]? = some f → ∃ (v : Value) (y : DataW H × List MemPlace), w.cell? (a.add (i * fs.size + j)) = some v ∧ ys[j]? = some y ∧ DataW.trod enc P w base spare held n f.type [v] = some y := by
  rcases open_slice ht h with h0 | ⟨a, len, cap, m, n, D, Pl, hcs, hb, hl, hm, hmm, hx, hi⟩
  · exact .inl h0
  · refine .inr ⟨a, len, cap, m, D, Pl, hcs, hb, hl, hm, hmm, by rw [hC] at hx; exact hx, fun i him => ?_⟩
    obtain ⟨cs', hc, ht'⟩ := hi i him
    rw [hC] at hc
    obtain ⟨ys, n', hn', hy, hlen, hyl, hf⟩ := DataW.trod_struct he ht'
    obtain ⟨_, hcl, hat⟩ := World.cells?_some hc
    simp only [Prod.mk.injEq] at hy
    refine ⟨ys, n', hy.1, hy.2, hyl, fun j f hj => ?_⟩
    obtain ⟨ho, hk⟩ := hone_of hone j f hj
    have hjl : j < fs.size := (Array.getElem?_eq_some_iff.1 hj).1
    have hcell := hat j hjl
    have hv : cs'[j]? = some (cs'[j]'(by omega)) := List.getElem?_eq_getElem (by omega)
    have h1 := hf j f hj
    rw [ho, hk] at h1
    have hone' : (cs'.drop j).take 1 = [cs'[j]'(by omega)] := by
      rw [List.drop_eq_getElem_cons (by omega)]
      rfl
    rw [hone'] at h1
    have hys : ys[j]? = some (ys[j]'(by omega)) := List.getElem?_eq_getElem (by omega)
    refine ⟨_, _, ?_, hys, h1.trans hys⟩
    rw [← Go.Deep.add_add, hcell, hv]
end
theorem exists_list {α : Type} {p : Nat → α → Prop} : ∀ (n : Nat), (∀ i, i < n → ∃ x, p i x) → ∃ l : List α, l.length = n ∧ ∀ i x, l[i]? = some x → p i x
  | 0, _ => ⟨[], rfl, fun i x h => by simp at h⟩
  | n + 1, h => by
    obtain ⟨l, h1, h2⟩ := exists_list n fun i hi => h i (by omega)
    obtain ⟨x, hx⟩ := h n (by omega)
    refine ⟨l ++ [x], by simp [h1], fun i y hy => ?_⟩
    by_cases hi : i < l.length
    · exact h2 i y (by rwa [List.getElem?_append_left hi] at hy)
    · rw [List.getElem?_append_right (by omega)] at hy
      have : i - l.length = 0 := by have := (List.getElem?_eq_some_iff.1 hy).1; simp at this; omega
      rw [this] at hy
      simp at hy
      subst hy
      rwa [show i = n by omega]
theorem tn_bytes : Tryd.prog.bytesOf 68 = 32 := by kernel_rfl
set_option maxRecDepth 100000 in
/-- A list of nodes that came in. -/
theorem open_nodes {H : Type} {enc : TypeId × Value → H} {W : World} {v : Value} {d : DataW H} {p : List MemPlace} {ts : List TypeId} {ds : List (DataW H)} {j : Nat} (hj1 : ts[j]? = some 22) (hj2 : ds[j]? = some d)
    (hval : Value.okWide Tryd.prog W .any 0 22 v) (h : DataW.Trod enc Tryd.prog W 0 (fun _ => true) true 22 v d p) (hsz : (DataW.weightsEach Tryd.prog ts ds).all (· ≤ reachBytes) = true) :
    ∃ (A : Option Addr) (n c : Nat) (l : List TN), v = .slice A n c ∧ l.length = n ∧ n * 32 ≤ 140737488351232 ∧ TNsAt W A l ∧ TNsOk l := by
  obtain ⟨a0, n, c, rfl⟩ := okWide_slice Tryd.underlying22 hval
  obtain ⟨fuel, hf⟩ := h
  rcases open_slice_fields Tryd.underlying22 Tryd.underlying68 (by kernel_rfl) (by kernel_rfl) hf with ⟨hcs, hx⟩ | ⟨a, len, cap, m, D, Pl, hcs, hb, hl, hm, hmm, hx, hel⟩
  · have h1 : a0 = none ∧ n = 0 ∧ c = 0 := by simpa [Value.cells] using hcs
    obtain ⟨rfl, rfl, rfl⟩ := h1
    exact ⟨none, 0, 0, [], rfl, rfl, by omega, fun j x h => by simp at h, ⟨fun i x h => by simp at h, fun i x h => by simp at h⟩⟩
  · have h1 : a0 = some a ∧ n = len ∧ c = cap := by simpa [Value.cells] using hcs
    obtain ⟨rfl, rfl, rfl⟩ := h1
    have hmc : m = c := by simpa using hmm
    subst hmc
    injection hx with hx _
    subst hx
    have hw := sized_slice hsz hj1 hj2 Tryd.underlying22
    rw [tn_bytes] at hw
    simp only [List.length_map, List.length_range, reachBytes] at hw
    obtain ⟨l, hll, hlp⟩ := exists_list (p := fun i (x : TN) => W.cell? (a.add (i * 3)) = some (.int .i64 x.op) ∧ W.cell? (a.add (i * 3 + 1)) = some (.int .u64 x.n) ∧ W.cell? (a.add (i * 3 + 2)) = some (.string x.name) ∧ (0 ≤ x.n ∧ x.n ≤ 18446744073709551615) ∧ x.name.size ≤ 9223372036854775807) n (fun i hi => by
      obtain ⟨ys, fu, _, _, _, hfl⟩ := hel i (by omega)
      obtain ⟨v0, y0, c0, _, t0⟩ := hfl 0 _ rfl
      obtain ⟨v1, y1, c1, _, t1⟩ := hfl 1 _ rfl
      obtain ⟨v2, y2, c2, _, t2⟩ := hfl 2 _ rfl
      obtain ⟨n0, e0, _, _⟩ := DataW.trod_int Tryd.underlying66 t0
      obtain ⟨n1, e1, _, w1⟩ := DataW.trod_int Tryd.underlying37 t1
      obtain ⟨s, e2, _, hs⟩ := DataW.trod_string Tryd.underlying9 t2
      injection e0 with e0 _
      injection e1 with e1 _
      injection e2 with e2 _
      subst e0; subst e1; subst e2
      refine ⟨⟨n0, n1, s⟩, c0, c1, c2, ?_, by simpa [maxLen] using hs⟩
      have hmn : IntKind.u64.min = 0 := by decide
      have hmx : IntKind.u64.max = 18446744073709551615 := by decide
      simp only [Lit.wf, hmn, hmx, Bool.and_eq_true, decide_eq_true_eq] at w1
      exact w1)
    refine ⟨some a, n, m, l, rfl, hll, by omega, fun i x hx => ?_, ⟨fun i x hx => (hlp i x hx).2.2.2.1, fun i x hx => (hlp i x hx).2.2.2.2⟩⟩
    obtain ⟨k1, k2, k3, _⟩ := hlp i x hx
    obtain ⟨b, off, spot⟩ := a
    have hspot : spot = none := by
      have h0 := World.cell?_spot (hlp 0 (l[0]'(by have := (List.getElem?_eq_some_iff.1 hx).1; omega)) (List.getElem?_eq_getElem _)).1
      simp only [Nat.zero_mul, Addr.add, if_true] at h0
      exact h0
    subst hspot
    have hadd : ∀ k, (⟨b, off, none⟩ : Addr).add k = ⟨b, off + k, none⟩ := fun k => by
      unfold Addr.add
      by_cases hk : k = 0
      · subst hk; rfl
      · rw [if_neg hk]
    rw [hadd] at k1 k2 k3
    exact ⟨b, off, rfl, World.block_lt_of_cell? W _ k1, k1, k2, k3⟩
theorem gKeyR : Tryd.prog.globalNamed "quorum/quorumref3.keywords" = some 6 := by kernel_rfl
theorem gKeyP : Tryd.prog.globalNamed "quorum/terms.keywords" = some 5 := by kernel_rfl
theorem gShap : Tryd.prog.globalNamed "quorum/terms.shapes" = some 4 := by kernel_rfl
theorem tKeyR : (Tryd.prog.globals[6]?).map (·.type) = some 200 := by kernel_rfl
theorem tKeyP : (Tryd.prog.globals[5]?).map (·.type) = some 195 := by kernel_rfl
theorem tShap : (Tryd.prog.globals[4]?).map (·.type) = some 183 := by kernel_rfl
theorem keyR_of {W : World} {cs : Array Value} {fuel : Nat} {p : List MemPlace} (hv : W.var? Tryd.prog "quorum/quorumref3.keywords" = some cs)
    (hd : DataW.trod (fun _ => ()) Tryd.prog W 0 (fun _ => true) false fuel 200 cs.toList = some (Rows.laid_quorum_quorumref3_keywords, p)) : GRKw W := by
  obtain ⟨fr, h⟩ := var_block gKeyR hv
  have := strs_of_trod Tryd.underlying200 Tryd.underlying9 (by kernel_rfl) (by kernel_rfl) (keywords ++ [[]]) hd
  have e : cs = rkwCells := by
    apply Array.toList_inj.1
    rw [this]; rfl
  subst e
  exact ⟨fr, h⟩
theorem keyP_of {W : World} {cs : Array Value} {fuel : Nat} {p : List MemPlace} (hv : W.var? Tryd.prog "quorum/terms.keywords" = some cs)
    (hd : DataW.trod (fun _ => ()) Tryd.prog W 0 (fun _ => true) false fuel 195 cs.toList = some (Rows.laid_quorum_terms_keywords, p)) : GKw W := by
  obtain ⟨fr, h⟩ := var_block gKeyP hv
  have := strs_of_trod Tryd.underlying195 Tryd.underlying9 (by kernel_rfl) (by kernel_rfl) keywords hd
  have e : cs = kwCells := by
    apply Array.toList_inj.1
    rw [this]; rfl
  subst e
  exact ⟨fr, h⟩
theorem shap_of {W : World} {cs : Array Value} {fuel : Nat} {p : List MemPlace} (hv : W.var? Tryd.prog "quorum/terms.shapes" = some cs)
    (hd : DataW.trod (fun _ => ()) Tryd.prog W 0 (fun _ => true) false fuel 183 cs.toList = some (Rows.laid_quorum_terms_shapes, p)) : GShapes W := by
  obtain ⟨fr, h⟩ := var_block gShap hv
  have := shapes_of_trod Tryd.underlying183 Tryd.underlying182 (by kernel_rfl) (by kernel_rfl) (by kernel_rfl) Tryd.underlying143 Tryd.underlying37 Tryd.underlying37 Tryd.underlying3 shapes hd
  have e : cs = shapeCells := by
    apply Array.toList_inj.1
    rw [this]; rfl
  subst e
  exact ⟨fr, h⟩
end Go.Proofs.YtocbblafgjpbeaaDoor.Sp
