/- Walks: lists of nodes: the same, a twin with marks behind it, kept. -/
import Derived.Test.YtocbblafgjpbeaaDoorErr
namespace Go.Proofs.YtocbblafgjpbeaaDoor.Sp
open Go.RowKit
set_option linter.unusedVariables false
set_option linter.unusedSimpArgs false

def TN.cells (x : TN) : List Value := [.int .i64 x.op, .int .u64 x.n, .string x.name]
def tnCells (l : List TN) : List Value := l.flatMap TN.cells
theorem tnCells_length (l : List TN) : (tnCells l).length = l.length * 3 := by
  induction l with
  | nil => rfl
  | cons x r ih => simp only [tnCells, List.flatMap_cons, List.length_append, List.length_cons] at *; rw [ih]; simp [TN.cells]; omega
theorem tnCells_append (a b : List TN) : tnCells (a ++ b) = tnCells a ++ tnCells b := by simp [tnCells]
theorem tnCells_get (l : List TN) : ∀ (j : Nat) (x : TN), l[j]? = some x → (tnCells l)[j * 3]? = some (.int .i64 x.op) ∧ (tnCells l)[j * 3 + 1]? = some (.int .u64 x.n) ∧ (tnCells l)[j * 3 + 2]? = some (.string x.name) := by
  induction l with
  | nil => intro j v h; simp at h
  | cons x r ih =>
    intro j v h
    have e : tnCells (x :: r) = [.int .i64 x.op, .int .u64 x.n, .string x.name] ++ tnCells r := rfl
    rw [e]
    cases j with
    | zero => simp at h; subst h; simp
    | succ j =>
      simp at h
      obtain ⟨h1, h2, h3⟩ := ih j v h
      rw [show (j + 1) * 3 = j * 3 + 3 by omega]
      refine ⟨?_, ?_, ?_⟩
      · rw [List.getElem?_append_right (by simp)]; simpa using h1
      · rw [List.getElem?_append_right (by simp)]; simpa [show j * 3 + 3 + 1 - 3 = j * 3 + 1 by omega] using h2
      · rw [List.getElem?_append_right (by simp)]; simpa [show j * 3 + 3 + 2 - 3 = j * 3 + 2 by omega] using h3
/-- A slice of nodes that is read. -/
def TNsAt (w : World) (A : Option Addr) (l : List TN) : Prop :=
  ∀ j x, l[j]? = some x → ∃ b off, A = some ⟨b, off, none⟩ ∧ b < w.heap.size ∧ w.cell? ⟨b, off + j * 3, none⟩ = some (.int .i64 x.op) ∧ w.cell? ⟨b, off + j * 3 + 1, none⟩ = some (.int .u64 x.n) ∧ w.cell? ⟨b, off + j * 3 + 2, none⟩ = some (.string x.name)
theorem TNsAt.below {w w' : World} {A : Option Addr} {l : List TN} (h : TNsAt w A l) (hb : Below w.heap.size w w') : TNsAt w' A l := by
  intro j x hj
  obtain ⟨b, off, h1, h2, h3, h4, h5⟩ := h j x hj
  exact ⟨b, off, h1, Nat.lt_of_lt_of_le h2 hb.size, (hb.cell (p := ⟨b, off + j * 3, none⟩) h2).trans h3, (hb.cell (p := ⟨b, off + j * 3 + 1, none⟩) h2).trans h4, (hb.cell (p := ⟨b, off + j * 3 + 2, none⟩) h2).trans h5⟩
theorem TNsAt.take {w : World} {A : Option Addr} {l : List TN} (h : TNsAt w A l) (n : Nat) : TNsAt w A (l.take n) := fun j x hj => by
  rw [List.getElem?_take] at hj
  split at hj
  · exact h j x hj
  · cases hj
theorem TNsAt.of_owns {w : World} {base n : Nat} {A : Option Addr} {c : Nat} {e : TypeId} {l : List TN} (h : w.ownsRow base e 3 (.slice A n c) n (tnCells l)) : TNsAt w A l := by
  obtain ⟨A', c', he, _, _, _, hr⟩ := owns_shape h
  injection he with he _ _
  subst he
  intro j x hj
  obtain ⟨h1, h2, h3⟩ := tnCells_get l j x hj
  obtain ⟨g, hg, _, k1⟩ := hr _ _ h1
  obtain ⟨g', hg', _, k2⟩ := hr _ _ h2
  obtain ⟨g'', hg'', _, k3⟩ := hr _ _ h3
  rw [hg] at hg' hg''
  injection hg' with hg'
  injection hg' with hg' _ _
  subst hg'
  injection hg'' with hg''
  injection hg'' with hg'' _ _
  subst hg''
  exact ⟨g, 0, hg, World.block_lt_of_cell? w _ k1, by simpa using k1, by simpa using k2, by simpa using k3⟩

set_option maxHeartbeats 800000 in
theorem same_true (A B : Option Addr) (c d n : Nat) (l : List TN) (w : World) (hn : l.length = n) (hm : n ≤ 4611686018427387904) (hA : TNsAt w A l) (hB : TNsAt w B l) :
    Calls Tryd.prog 19 #[.slice A n c, .slice B n d] w fun e w' => e = .returned (.bool true) ∧ Below w.heap.size w w' ∧ w'.heap = w.heap := by
  have HA := Asd.mk hA; have HB := Asd.mk hB; have HN := Asd.mk hn; clear hA hB hn
  go_enter Tryd.func19, Tryd.ntmps19
  go_wp2_with fail
  go_loopw [5] (fun i wr => ∃ k : Nat, ∃ q : Nat, k ≤ n ∧ i = .int .i64 k ∧ wr = w.drewN q) (fun i _ => n - (intOf i).toNat)
  case atStart => exact ⟨0, 0, by omega, rfl, rfl⟩
  case round =>
    obtain ⟨k, q, hk, rfl, rfl⟩ := hrel
    by_cases hlt : k < n
    · obtain ⟨x, hx⟩ : ∃ x, l[k]? = some x := ⟨_, List.getElem?_eq_getElem (by rw [HN.out]; exact hlt)⟩
      obtain ⟨ga, oa, rfl, la, a1, a2, a3⟩ := HA.out k x hx
      obtain ⟨gb, ob, rfl, lb, b1, b2, b3⟩ := HB.out k x hx
      clear hx
      have hk0 : (0 : Int) ≤ (k : Int) := Int.natCast_nonneg _
      have hk1 : (k : Int) < (n : Int) := by omega
      go_wp2_with fail
      go_quiet (fail)
      go_wp2_with fail
      exact ⟨⟨k + 1, q + nq, by omega, by go_num, rfl⟩, by simp [intOf]; omega⟩
    · go_wp2_with fail
      go_ret
      exact ⟨rfl, (Below.refl _ _).drewN _, rfl⟩

theorem tn_info : (Tryd.prog.info? 68).map (fun i => (i.zero, i.size, i.bytes)) = some (some (.agg #[.int .i64 0, .int .u64 0, .string ⟨#[]⟩]), 3, 32) := by kernel_rfl
def marks : List TN := [⟨0, 801, empty⟩, ⟨0, 802, empty⟩, ⟨0, 803, empty⟩]
set_option maxHeartbeats 800000 in
theorem twin_any (A : Option Addr) (c n : Nat) (l : List TN) (w : World) (hn : l.length = n) (hm : n * 32 ≤ 140737488351232) (hA : TNsAt w A l) :
    Calls Tryd.prog 12 #[.slice A n c] w fun e w' => ∃ g cap, e = .returned (.slice (some ⟨g, 0, none⟩) n cap) ∧ w'.ownsRow w.heap.size 68 3 (.slice (some ⟨g, 0, none⟩) (n + 3) cap) (n + 3) (tnCells (l ++ marks)) ∧ Below w.heap.size w w' := by
  have HA := Asd.mk hA; have HN := Asd.mk hn; clear hA hn
  obtain ⟨i0, hi0, hz0, hz1, hz2⟩ := info_parts tn_info
  have hw3 : IntKind.i64.wrap ((n : Int) + 3) = (n : Int) + 3 := IntWalk.i64_in _ (by omega)
  go_enter Tryd.func12, Tryd.ntmps12
  go_wp2_with (refine wpList_make_own _ rfl (.const (.int .i64 0)) (.tmp 7) 22 rfl w.heap.size 68 i0 _ 3 Tryd.underlying22 hi0 hz0 hz1 .i64 .i64 _ (n + 3) rfl rfl (by omega) (by rw [hz2]; omega) (by unfold maxLen; omega) (Nat.le_refl _) ?_)
  intro w1 hown1 hg1
  have HO1 := Asd.mk hown1
  have HB1 : Asd (Below w.heap.size w w1) := ⟨(Below.refl _ _).grown hg1 (Nat.le_refl _) (fun k hk => by cases hk)⟩
  clear hown1 hg1
  go_wp2_with fail
  go_loopw [3, 4] (fun v i wr => ∃ (k g cap : Nat), k ≤ n ∧ i = .int .i64 k ∧ v = .slice (some ⟨g, 0, none⟩) k cap ∧ wr.ownsRow w.heap.size 68 3 (.slice (some ⟨g, 0, none⟩) k cap) k (tnCells (l.take k)) ∧ Below w.heap.size w wr) (fun _ i _ => n - (intOf i).toNat)
  case atStart => exact ⟨0, w.heap.size, n + 3, by omega, rfl, rfl, HO1.out, HB1.out⟩
  case round =>
    obtain ⟨k, g, cap, hk, rfl, rfl, hown, HB⟩ := hrel
    have HO := Asd.mk hown; have HBB := Asd.mk HB; clear hown HB
    by_cases hlt : k < n
    · obtain ⟨x, hx⟩ : ∃ x, l[k]? = some x := ⟨_, List.getElem?_eq_getElem (by rw [HN.out]; exact hlt)⟩
      obtain ⟨ga, oa, rfl, la, a1, a2, a3⟩ := HA.out k x hx
      have a1 := (HBB.out.cell (p := ⟨ga, oa + k * 3, none⟩) la).trans a1
      have a2 := (HBB.out.cell (p := ⟨ga, oa + k * 3 + 1, none⟩) la).trans a2
      have a3 := (HBB.out.cell (p := ⟨ga, oa + k * 3 + 2, none⟩) la).trans a3
      have HX := Asd.mk hx; clear hx
      have hk0 : (0 : Int) ≤ (k : Int) := Int.natCast_nonneg _
      have hk1 : (k : Int) < (n : Int) := by omega
      go_wp2_with (refine wpApp rfl (.tmp 15) (.tmp 20) 22 rfl w.heap.size 68 3 32 _ Tryd.underlying22 tn_info rfl (by decide) (by decide) _ k _ rfl (HO.out.alloc _) wr.heap.size 1 1 (TN.cells x) _ _ rfl (heap_alloc_new wr _) rfl (by simp [TN.cells, Value.oneCell']) (by decide) (by omega) (by have := HBB.out.size; simp; omega) ?_)
      intro g2 cap2 w2 hown2 T2 hat hlt2
      have HO2 : Asd (w2.ownsRow w.heap.size 68 3 (.slice (some ⟨g2, 0, none⟩) (k + 1) cap2) (k + 1) (tnCells (l.take (k + 1)))) := ⟨by
        have e : tnCells (l.take (k + 1)) = tnCells (l.take k) ++ TN.cells x := by rw [List.take_add_one, HX.out, tnCells_append]; rfl
        rw [e]; exact hown2⟩
      have HB2 : Asd (Below w.heap.size w w2) := ⟨(HBB.out.alloc HBB.out.size _).trans ((T2.below (B := w.heap.size) (fun i hi => (HO.out.lt i hi).1) (by have := HBB.out.size; simp; omega)))⟩
      clear hown2 T2 hat hlt2
      go_wp2_with fail
      go_roundw
      case rel => exact ⟨k + 1, g2, cap2, by omega, by go_num, rfl, HO2.out, HB2.out⟩
      case measure => simp [intOf]; omega
    · have hkn : k = n := by omega
      subst hkn
      have HO' : Asd (wr.ownsRow w.heap.size 68 3 (.slice (some ⟨g, 0, none⟩) k cap) k (tnCells l)) := ⟨by
        have := HO.out; rwa [List.take_of_length_le (by rw [HN.out]; exact Nat.le_refl _)] at this⟩
      clear HO hlt
      go_wp2_with (refine wpApp rfl (.tmp 22) (.tmp 26) 22 rfl w.heap.size 68 3 32 _ Tryd.underlying22 tn_info rfl (by decide) (by decide) _ k _ rfl (HO'.out.alloc _) wr.heap.size 3 3 (tnCells marks) _ _ rfl (heap_alloc_new wr _) rfl (by simp [tnCells, marks, TN.cells, Value.oneCell']) (by decide) (by omega) (by have := HBB.out.size; simp; omega) ?_)
      intro g2 cap2 w2 hown2 T2 hat hlt2
      have hcap : k + 3 ≤ cap2 := by
        obtain ⟨A', c', he, h1, _⟩ := owns_shape hown2
        injection he with _ _ he
        omega
      have HO2 : Asd (w2.ownsRow w.heap.size 68 3 (.slice (some ⟨g2, 0, none⟩) (k + 3) cap2) (k + 3) (tnCells (l ++ marks))) := ⟨by
        rw [tnCells_append]; exact hown2⟩
      have HB2 : Asd (Below w.heap.size w w2) := ⟨(HBB.out.alloc HBB.out.size _).trans ((T2.below (B := w.heap.size) (fun i hi => (HO'.out.lt i hi).1) (by have := HBB.out.size; simp; omega)))⟩
      clear hown2 T2 hat hlt2
      go_wp2_with fail
      go_ret
      exact ⟨g2, cap2, rfl, HO2.out, HB2.out⟩

set_option maxHeartbeats 800000 in
theorem kept_any (A : Option Addr) (c n g cap : Nat) (l : List TN) (w : World) (base : Nat) (hn : l.length = n) (hm : n * 32 ≤ 140737488351232) (hA : TNsAt w A l)
    (ho : w.ownsRow base 68 3 (.slice (some ⟨g, 0, none⟩) (n + 3) cap) (n + 3) (tnCells (l ++ marks))) :
    Calls Tryd.prog 16 #[.slice (some ⟨g, 0, none⟩) n cap, .slice A n c] w fun e w' => e = .returned (.bool true) ∧ Below w.heap.size w w' := by
  have hT := TNsAt.of_owns ho
  have hl : TNsAt w (some ⟨g, 0, none⟩) l := by
    have := hT.take n
    rwa [← hn, List.take_left] at this
  have hcap : n + 3 ≤ cap := by
    obtain ⟨A', c', he, h1, _⟩ := owns_shape ho
    injection he with _ _ he
    omega
  have HM : Asd (∀ j x, marks[j]? = some x → w.cell? ⟨g, (n + j) * 3, none⟩ = some (.int .i64 x.op) ∧ w.cell? ⟨g, (n + j) * 3 + 1, none⟩ = some (.int .u64 x.n) ∧ w.cell? ⟨g, (n + j) * 3 + 2, none⟩ = some (.string x.name)) := ⟨by
    intro j x hj
    have hj' : (l ++ marks)[n + j]? = some x := by rw [List.getElem?_append_right (by omega)]; rw [show n + j - l.length = j by omega]; exact hj
    obtain ⟨b, off, he, h1, h2, h3, h4⟩ := hT _ _ hj'
    injection he with he
    injection he with h5 h6 _
    subst h5; subst h6
    exact ⟨by simpa using h2, by simpa using h3, by simpa using h4⟩⟩
  have HA := Asd.mk hA; have HN := Asd.mk hn; have HL := Asd.mk hl; clear hA hn hT ho hl
  have hw3 : IntKind.i64.wrap ((n : Int) + 3) = (n : Int) + 3 := IntWalk.i64_in _ (by omega)
  go_enter Tryd.func16, Tryd.ntmps16
  go_wp2_with fail
  refine (same_true _ A _ c n l _ HN.out (by omega) HL.out HA.out).mono ?_
  rintro e w1 ⟨rfl, hb1, hh1⟩
  have HB1 := Asd.mk hb1
  have HM1 : Asd (∀ j x, marks[j]? = some x → w1.cell? ⟨g, (n + j) * 3, none⟩ = some (.int .i64 x.op) ∧ w1.cell? ⟨g, (n + j) * 3 + 1, none⟩ = some (.int .u64 x.n) ∧ w1.cell? ⟨g, (n + j) * 3 + 2, none⟩ = some (.string x.name)) := ⟨by
    intro j x hj
    have := HM.out j x hj
    simpa only [World.cell?, hh1] using this⟩
  clear hb1 hh1 HM
  go_wp2_with fail
  go_loop [6] (fun i => ∃ k : Nat, k ≤ 3 ∧ i = .int .i64 k) (fun i => 3 - (intOf i).toNat)
  case atStart => exact ⟨0, by omega, rfl⟩
  case round =>
    obtain ⟨k, hk, rfl⟩ := hrel
    by_cases hlt : k < 3
    · obtain ⟨m1, m2, m3⟩ := HM1.out k ⟨0, 801 + k, empty⟩ (by
        rcases (by omega : k = 0 ∨ k = 1 ∨ k = 2) with h | h | h <;> subst h <;> rfl)
      have hk0 : (0 : Int) ≤ (k : Int) := Int.natCast_nonneg _
      have hk1 : (k : Int) < 3 := by omega
      have hs1 : (0 : Int) ≤ (n : Int) + (k : Int) := by omega
      have hs2 : (n : Int) + (k : Int) < ((n + 3 : Nat) : Int) := by omega
      have hs3 : ((n : Int) + (k : Int)).toNat = n + k := by omega
      dsimp only at m1 m2 m3
      have hem := toList_empty
      go_wp2_with fail
      go_round
      case rel => exact ⟨k + 1, by omega, by go_num⟩
      case measure => simp [intOf]; omega
    · go_wp2_with fail
      go_ret
      exact ⟨rfl, HB1.out⟩
end Go.Proofs.YtocbblafgjpbeaaDoor.Sp
