/- Walks: errors as chains of faults: made by the program, told by the verifier's own functions. -/
import Derived.Test.YtocbblafgjpbeaaDoorProg
import Derived.Test.YtocbblafgjpbeaaDoorLaws
import Derived.Test.YtocbblafgjpbeaaDoorRegion
import Derived.Deep.QuietTactic
import Derived.BigQuiet
import Derived.Deep.AppendLies
import Derived.OwnWalk
namespace Go.Proofs.YtocbblafgjpbeaaDoor.Sp
open Go.RowKit
set_option linter.unusedVariables false
set_option linter.unusedSimpArgs false

theorem _root_.Go.RowKit.Below.drewN {B : Nat} {w W : World} (h : Below B w W) (n : Nat) : Below B w (W.drewN n) := ⟨h.os, h.tape, h.output, h.size, h.block⟩
abbrev Link := Str × Int
/-- An error: a chain of faults below block B, a number at its end. -/
def ErrAt (B : Nat) (w : World) : List Link → Int → Value → Prop
  | [], code, v => v = .iface 73 (.int .i64 code)
  | x :: r, code, v => ∃ b e, b < B ∧ v = .iface 144 (.pointer (some ⟨b, 0, none⟩)) ∧ w.cell? ⟨b, 0, none⟩ = some (.string x.1) ∧ w.cell? ⟨b, 1, none⟩ = some (.int .i64 x.2) ∧ w.cell? ⟨b, 2, none⟩ = some e ∧ ErrAt B w r code e
theorem ErrAt.below {B : Nat} {w w' : World} (hb : Below B w w') {l : List Link} {code : Int} : ∀ {v : Value}, ErrAt B w l code v → ErrAt B w' l code v := by
  induction l with
  | nil => intro v h; exact h
  | cons x r ih =>
    rintro v ⟨b, e, h0, h1, h2, h3, h4, h5⟩
    exact ⟨b, e, h0, h1, (hb.cell (p := ⟨b, 0, none⟩) h0).trans h2, (hb.cell (p := ⟨b, 1, none⟩) h0).trans h3, (hb.cell (p := ⟨b, 2, none⟩) h0).trans h4, ih h5⟩
theorem ErrAt.mono {B B' : Nat} {w : World} (hb : B ≤ B') {l : List Link} {code : Int} : ∀ {v : Value}, ErrAt B w l code v → ErrAt B' w l code v := by
  induction l with
  | nil => intro v h; exact h
  | cons x r ih =>
    rintro v ⟨b, e, h0, h1, h2, h3, h4, h5⟩
    exact ⟨b, e, Nat.lt_of_lt_of_le h0 hb, h1, h2, h3, h4, ih h5⟩
def linkCells (l : List Link) : List Value := l.flatMap fun x => [.string x.1, .int .i64 x.2]
theorem linkCells_length (l : List Link) : (linkCells l).length = l.length * 2 := by
  induction l with
  | nil => rfl
  | cons x r ih => simp only [linkCells, List.flatMap_cons, List.length_append, List.length_cons] at *; rw [ih]; simp; omega
theorem linkCells_append (a b : List Link) : linkCells (a ++ b) = linkCells a ++ linkCells b := by simp [linkCells]
theorem linkCells_get (l : List Link) : ∀ (j : Nat) (x : Link), l[j]? = some x → (linkCells l)[j * 2]? = some (.string x.1) ∧ (linkCells l)[j * 2 + 1]? = some (.int .i64 x.2) := by
  induction l with
  | nil => intro j x h; simp at h
  | cons y r ih =>
    intro j x h
    have e : linkCells (y :: r) = [.string y.1, .int .i64 y.2] ++ linkCells r := rfl
    rw [e]
    cases j with
    | zero => simp at h; subst h; simp
    | succ j =>
      simp at h
      obtain ⟨h1, h2⟩ := ih j x h
      rw [show (j + 1) * 2 = j * 2 + 2 by omega]
      refine ⟨?_, ?_⟩
      · rw [List.getElem?_append_right (by simp)]; simpa using h1
      · rw [List.getElem?_append_right (by simp)]; simpa [show j * 2 + 2 + 1 - 2 = j * 2 + 1 by omega] using h2
/-- A slice of links that is read. -/
def LinksAt (w : World) (A : Option Addr) (l : List Link) : Prop :=
  ∀ j x, l[j]? = some x → ∃ g, A = some ⟨g, 0, none⟩ ∧ g < w.heap.size ∧ w.cell? ⟨g, j * 2, none⟩ = some (.string x.1) ∧ w.cell? ⟨g, j * 2 + 1, none⟩ = some (.int .i64 x.2)
theorem LinksAt.below {w w' : World} {A : Option Addr} {l : List Link} (h : LinksAt w A l) (hb : Below w.heap.size w w') : LinksAt w' A l := by
  intro j x hj
  obtain ⟨g, h1, h2, h3, h4⟩ := h j x hj
  exact ⟨g, h1, Nat.lt_of_lt_of_le h2 hb.size, (hb.cell (p := ⟨g, j * 2, none⟩) h2).trans h3, (hb.cell (p := ⟨g, j * 2 + 1, none⟩) h2).trans h4⟩
theorem LinksAt.of_owns {w : World} {base n : Nat} {A : Option Addr} {c : Nat} {e : TypeId} {l : List Link} (h : w.ownsRow base e 2 (.slice A n c) n (linkCells l)) : LinksAt w A l := by
  obtain ⟨A', c', he, _, _, _, hr⟩ := owns_shape h
  injection he with he _ _
  subst he
  intro j x hj
  obtain ⟨h1, h2⟩ := linkCells_get l j x hj
  obtain ⟨g, hg, _, k1⟩ := hr _ _ h1
  obtain ⟨g', hg', _, k2⟩ := hr _ _ h2
  rw [hg] at hg'
  injection hg' with hg'
  injection hg' with hg' _ _
  subst hg'
  exact ⟨g, hg, World.block_lt_of_cell? w _ k1, k1, k2⟩

/-! ### fault, New -/
theorem fault_any (at_ code : Int) (w : World) :
    Calls Tryd.prog 33 #[.int .i64 at_, .int .i64 code] w fun e w' => ∃ v, e = .returned v ∧ ErrAt (w.heap.size + 1) w' [(⟨#[116, 101, 114, 109, 115]⟩, at_)] code v ∧ Below w.heap.size w w' ∧ w'.heap.size = w.heap.size + 1 := by
  go_enter Tryd.func33, Tryd.ntmps33
  go_wp2_with fail
  go_ret
  refine ⟨_, rfl, ⟨w.heap.size, _, Nat.lt_succ_self _, rfl, cell_of (heap_alloc_new w _) 0, cell_of (heap_alloc_new w _) 1, cell_of (heap_alloc_new w _) 2, rfl⟩, (Below.refl _ _).alloc (Nat.le_refl _) _, by simp⟩
theorem new_any (s : Str) (at_ code : Int) (w : World) :
    Calls Tryd.prog 42 #[.string s, .int .i64 at_, .int .i64 code] w fun e w' => ∃ A c, e = .returned (.agg #[.slice A 1 c, .int .i64 code]) ∧ LinksAt w' A [(s, at_)] ∧ Below w.heap.size w w' := by
  go_enter Tryd.func42, Tryd.ntmps42
  go_wp2_with fail
  refine bodyPost_ret (v := .agg #[.slice (some ⟨w.heap.size + 1, 0, none⟩) 1 1, .int .i64 code]) (by simp [results, Tryd.results42, go_sem]) rfl ⟨_, _, rfl, ?_, ((Below.refl _ _).alloc (Nat.le_refl _) _).alloc (by simp) _⟩
  intro j x hj
  cases j with
  | zero =>
    simp at hj; subst hj
    exact ⟨w.heap.size + 1, rfl, by simp, cell_of (heap_alloc2_new w _ _) 0, cell_of (heap_alloc2_new w _ _) 1⟩
  | succ j => simp at hj

/-! ### Same, where they are the same -/
set_option maxHeartbeats 800000 in
theorem same_fault (A B : Option Addr) (c d n : Nat) (code : Int) (l : List Link) (w : World) (hn : l.length = n) (hm : n ≤ 1000) (hA : LinksAt w A l) (hB : LinksAt w B l) :
    Calls Tryd.prog 63 #[.agg #[.slice A n c, .int .i64 code], .agg #[.slice B n d, .int .i64 code]] w fun e w' => e = .returned (.bool true) ∧ Below w.heap.size w w' := by
  have HA := Asd.mk hA; have HB := Asd.mk hB; have HN := Asd.mk hn; clear hA hB hn
  go_enter Tryd.func63, Tryd.ntmps63
  go_wp2_with fail
  go_loopw [5] (fun i wr => ∃ k : Nat, k ≤ n ∧ i = .int .i64 k ∧ Below (w.heap.size + 2) ((w.alloc (.cells #[.slice A n c, .int .i64 code] 97)).alloc (.cells #[.slice B n d, .int .i64 code] 97)) wr) (fun i _ => n - (intOf i).toNat)
  case atStart => exact ⟨0, by omega, rfl, Below.refl _ _⟩
  case round =>
    obtain ⟨k, hk, rfl, HW⟩ := hrel
    have c0 : wr.cell? ⟨w.heap.size, 0, none⟩ = some (.slice A n c) := (HW.cell (p := ⟨w.heap.size, 0, none⟩) (by simp)).trans (cell_of (heap_alloc2_old w _ _) 0)
    have c1 : wr.cell? ⟨w.heap.size + 1, 0, none⟩ = some (.slice B n d) := (HW.cell (p := ⟨w.heap.size + 1, 0, none⟩) (by simp)).trans (cell_of (heap_alloc2_new w _ _) 0)
    have HB0 : Below w.heap.size w wr := (((Below.refl _ _).alloc (Nat.le_refl _) _).alloc (by simp) _).trans (HW.mono (by omega))
    have HW' := Asd.mk HW; clear HW
    by_cases hlt : k < n
    · obtain ⟨x, hx⟩ : ∃ x, l[k]? = some x := ⟨_, List.getElem?_eq_getElem (by rw [HN.out]; exact hlt)⟩
      obtain ⟨ga, rfl, la, a1, a2⟩ := HA.out k x hx
      obtain ⟨gb, rfl, lb, b1, b2⟩ := HB.out k x hx
      have a1 := (HB0.cell (p := ⟨ga, k * 2, none⟩) la).trans a1
      have a2 := (HB0.cell (p := ⟨ga, k * 2 + 1, none⟩) la).trans a2
      have b1 := (HB0.cell (p := ⟨gb, k * 2, none⟩) lb).trans b1
      have b2 := (HB0.cell (p := ⟨gb, k * 2 + 1, none⟩) lb).trans b2
      have HB0' := Asd.mk HB0; clear HB0 hx
      have hk0 : (0 : Int) ≤ (k : Int) := Int.natCast_nonneg _
      have hk1 : (k : Int) < (n : Int) := by omega
      go_wp2_with fail
      go_quiet (fail)
      go_wp2_with fail
      go_roundw
      case rel => exact ⟨k + 1, by omega, by go_num, HW'.out.drewN _⟩
      case measure => simp [intOf]; omega
    · have HB0' := Asd.mk HB0; clear HB0
      go_wp2_with fail
      go_ret
      exact ⟨rfl, HB0'.out⟩

theorem assert_fault_yes (a : Addr) (w : World) : (Instr.typeAssert (.iface 144 (.pointer (some a))) 25 144 true).run Tryd.prog w = .ok (.tuple #[.pointer (some a), .bool true]) w := by kernel_rfl
theorem assert_fault_no (c : Int) (w : World) : (Instr.typeAssert (.iface 73 (.int .i64 c)) 25 144 true).run Tryd.prog w = .ok (.tuple #[.pointer none, .bool false]) w := by kernel_rfl
theorem assert_errno_yes (c : Int) (w : World) : (Instr.typeAssert (.iface 73 (.int .i64 c)) 25 73 true).run Tryd.prog w = .ok (.tuple #[.int .i64 c, .bool true]) w := by kernel_rfl
theorem drop_cons {α : Type} {l : List α} {k : Nat} {x : α} (hx : l[k]? = some x) : l.drop k = x :: l.drop (k + 1) := by
  have h := (List.getElem?_eq_some_iff.1 hx)
  obtain ⟨h1, h2⟩ := h
  rw [List.drop_eq_getElem_cons h1, h2]
theorem cell_ad {w : World} {a : Addr} {v : Value} {o : Obj} (h : w.cell? a = some v) : (w.alloc o).drew.cell? a = some v := (((Tch.refl (fun _ => False) w).alloc o).drew).cell_some h (fun h => h)
theorem link_take {l : List Link} {k : Nat} {x : Link} (hx : l[k]? = some x) : linkCells (l.take k) ++ [.string x.1, .int .i64 x.2] = linkCells (l.take (k + 1)) := by
  rw [List.take_add_one, hx, linkCells_append]; rfl
/-! ### Told, of a chain -/
theorem link_info : (Tryd.prog.info? 156).map (fun i => (i.zero, i.size, i.bytes)) = some (some (.agg #[.string ⟨#[]⟩, .int .i64 0]), 2, 24) := by kernel_rfl
set_option maxRecDepth 100000 in
set_option maxHeartbeats 1600000 in
theorem told_any (links : List Link) (code : Int) (v : Value) (w : World) (hl : links.length ≤ 11) (h0 : 1 ≤ links.length) (hc : code ≠ 0) (hv : ErrAt w.heap.size w links code v) :
    Calls Tryd.prog 62 #[v] w fun e w' => ∃ A c, e = .returned (.tuple #[.agg #[.slice A links.length c, .int .i64 code], .bool true]) ∧ LinksAt w' A links ∧ Below w.heap.size w w' := by
  have HV := Asd.mk hv; clear hv
  have HC := Asd.mk hc; clear hc
  have HL := Asd.mk hl; have HL0 := Asd.mk h0; clear hl h0
  obtain ⟨i0, hi0, hz0, hz1, hz2⟩ := info_parts link_info
  go_enter Tryd.func62, Tryd.ntmps62
  go_wp2_with fail
  go_loopw [0, 5] (fun e i wr => ∃ k S c, k ≤ links.length ∧ i = .int .i64 (k : Nat) ∧ ErrAt w.heap.size wr (links.drop k) code e ∧ wr.heap[w.heap.size + 1]? = some (.cells #[.slice S k c, .int .i64 0] 97 (0, 0)) ∧
      wr.heap[w.heap.size]? = some (.cells #[.slice none 0 0, .int .i64 0] 97 (0, 0)) ∧ wr.ownsRow (w.heap.size + 2) 156 2 (.slice S k c) k (linkCells (links.take k)) ∧ Below w.heap.size w wr) (fun _ i _ => 12 - (intOf i).toNat)
  case atStart =>
    have hb : Below w.heap.size w ((w.alloc (.cells #[.slice none 0 0, .int .i64 0] 97)).alloc (.cells #[.slice none 0 0, .int .i64 0] 97)) := ((Below.refl _ _).alloc (Nat.le_refl _) _).alloc (by simp) _
    exact ⟨0, none, 0, Nat.zero_le _, rfl, HV.out.below hb, heap_alloc2_new w _ _, heap_alloc2_old w _ _, World.ownsRow_nil _ _ _ _, hb⟩
  case round =>
    obtain ⟨k, S, c, hk, rfl, he, hg, hg0, hown, HB⟩ := hrel
    have hl11 := HL.out
    have c0 : wr.cell? ⟨w.heap.size + 1, 0, none⟩ = some (.slice S k c) := cell_of hg 0
    have c1 : wr.cell? ⟨w.heap.size + 1, 1, none⟩ = some (.int .i64 0) := cell_of hg 1
    have f0 : wr.frozen? ⟨w.heap.size + 1, 0, none⟩ = false := frozen_of hg 0
    have f1 : wr.frozen? ⟨w.heap.size + 1, 1, none⟩ = false := frozen_of hg 1
    have d0 : wr.cell? ⟨w.heap.size, 0, none⟩ = some (.slice none 0 0) := cell_of hg0 0
    have d1 : wr.cell? ⟨w.heap.size, 1, none⟩ = some (.int .i64 0) := cell_of hg0 1
    have e0 : wr.frozen? ⟨w.heap.size, 0, none⟩ = false := frozen_of hg0 0
    have e1 : wr.frozen? ⟨w.heap.size, 1, none⟩ = false := frozen_of hg0 1
    have HG := Asd.mk hg; have HG0 := Asd.mk hg0; have HOWN := Asd.mk hown; have HBB := Asd.mk HB; clear hg hg0 hown HB
    by_cases hlt : k < links.length
    · obtain ⟨x, hx⟩ : ∃ x, links[k]? = some x := ⟨_, List.getElem?_eq_getElem hlt⟩
      have hd : links.drop k = x :: links.drop (k + 1) := drop_cons hx
      rw [hd] at he
      obtain ⟨b, e2, hb, rfl, b0, b1, b2, her⟩ := he
      have HD := Asd.mk hd; have HX := Asd.mk hx; have HER := Asd.mk her; clear hd hx her
      have ta1 := assert_fault_yes
      have h12 : (k : Int) < 12 := by omega
      go_wp2_with fail
      refine wp_region_heldB (n := 12) (fun w' => w'.cell? ⟨w.heap.size + 1, 0, none⟩ = some (.slice S k c) ∧ w'.cell? ⟨b, 0, none⟩ = some (.string x.1) ∧ w'.cell? ⟨b, 1, none⟩ = some (.int .i64 x.2)) (by kernel_rfl) (by kernel_rfl) ?_ ⟨c0, b0, b1⟩ ?_
      · intro _ _ d _ _ h; cases d <;> exact h
      repeat (apply wpHeld_light rfl rfl rfl
              · (rintro w' ⟨s1, s2, s3⟩; go_simp; first | done | rfl)
              simp only [Act.put, List.setIfInBounds_toArray, List.set_cons_zero, List.set_cons_succ])
      refine wpHeld_heavy rfl rfl rfl (fun K hK => ?_)
      go_simp
      refine hK _ _ ⟨cell_ad c0, cell_ad b0, cell_ad b1⟩ ?_
      clear hK K
      refine wpHeld_tail rfl ?_
      refine wpList_append_lies _ rfl (.tmp 30) (.tmp 40) 95 rfl (w.heap.size + 2) 156 i0 _ 2 24 Tryd.underlying95 hi0 hz0 hz1 hz2 rfl (by decide) (.slice S k c) k _ rfl ((HOWN.out.alloc _).drew) ⟨wr.heap.size, 0, none⟩ 1 1 [.string x.1, .int .i64 x.2] rfl rfl
        (World.news_of_block (cs := #[.string x.1, .int .i64 x.2]) (t := 156) (fr := (0, 0)) (heap_alloc_new wr _)) (by simp [Value.oneCell']) (by omega) (by unfold maxLen; omega) (by omega) (by have := HBB.out.size; have := heap_lt HG.out; simp; omega) (wr.heap.size + 1) (by simp) ?_
      intro g cap w1 hown1 hgrow hat hlt1
      have T1 : Tch (fun i => (Value.slice S k c).ownBlock = some i) wr w1 := (((Tch.refl _ _).alloc _).drew).grown hgrow (fun i hi _ => hi)
      have no : ∀ i, i < w.heap.size + 2 → ¬ (Value.slice S k c).ownBlock = some i := fun i hi h => by have := (HOWN.out.lt i h).1; omega
      have G1 := (T1.block _ (heap_lt HG.out) (no _ (by omega))).trans HG.out
      have G0 := (T1.block _ (heap_lt HG0.out) (no _ (by omega))).trans HG0.out
      have B1 : Below w.heap.size wr w1 := ⟨T1.os, T1.tape, T1.output, T1.size, fun i hi => T1.block i (Nat.lt_of_lt_of_le hi HBB.out.size) (no i (by omega))⟩
      have q0 : w1.cell? ⟨w.heap.size + 1, 0, none⟩ = some (.slice S k c) := cell_of G1 0
      have q1 : w1.frozen? ⟨w.heap.size + 1, 0, none⟩ = false := frozen_of G1 0
      have q2 : w1.cell? ⟨b, 2, none⟩ = some e2 := (B1.cell (p := ⟨b, 2, none⟩) hb).trans b2
      have q3 : ¬ w.heap.size + 1 = b := by omega
      have R1 : ErrAt w.heap.size (w1.setCell ⟨w.heap.size + 1, 0, none⟩ (.slice (some ⟨g, 0, none⟩) (k + 1) cap)) (links.drop (k + 1)) code e2 := HER.out.below (B1.trans ((Below.refl _ _).setCell (by simp) _))
      have R2 := heap_set G1 0 (.slice (some ⟨g, 0, none⟩) (k + 1) cap)
      have R3 : (w1.setCell ⟨w.heap.size + 1, 0, none⟩ (.slice (some ⟨g, 0, none⟩) (k + 1) cap)).heap[w.heap.size]? = _ := (Below.heap_setCell _ _ _ _ (by simp)).trans G0
      have R4 := ownsRow_setCell_below (a := ⟨w.heap.size + 1, 0, none⟩) hown1 (by simp) (.slice (some ⟨g, 0, none⟩) (k + 1) cap)
      have R5 : Below w.heap.size w (w1.setCell ⟨w.heap.size + 1, 0, none⟩ (.slice (some ⟨g, 0, none⟩) (k + 1) cap)) := (HBB.out.trans B1).setCell (by simp) _
      rw [link_take HX.out] at R4
      have HR : Asd (_ ∧ _ ∧ _ ∧ _ ∧ _) := ⟨R1, R2, R3, R4, R5⟩
      clear R1 R2 R3 R4 R5 hown1 hgrow hat hlt1 T1 no G1 G0 B1 c0 c1 f0 f1 d0 d1 e0 e1 b0 b1 b2
      go_wp2_with fail
      go_roundw
      case rel => exact ⟨k + 1, _, cap, by omega, by go_num, HR.out.1, HR.out.2.1, HR.out.2.2.1, HR.out.2.2.2.1, HR.out.2.2.2.2⟩
      case measure => simp [intOf]; omega
    · have hkl : k = links.length := by omega
      have hd : links.drop k = [] := by rw [hkl]; simp
      rw [hd] at he
      simp only [ErrAt] at he
      subst he
      have ta1 := assert_fault_no
      have ta2 := assert_errno_yes
      have h12 : (k : Int) < 12 := by omega
      have h01 : (0 : Int) < (k : Int) := by have := HL0.out; omega
      have h01n : 0 < k := by have := HL0.out; omega
      have hc0 : (code == 0) = false := by have := HC.out; simpa using this
      have hc1 : (code != 0) = true := by have := HC.out; simpa using this
      have HKL := Asd.mk hkl; clear hd hkl hlt
      go_wp2_with fail
      refine wp_region_heldB (n := 12) (fun w' => w'.cell? ⟨w.heap.size + 1, 0, none⟩ = some (.slice S k c) ∧ w'.cell? ⟨w.heap.size + 1, 1, none⟩ = some (.int .i64 code)) (by kernel_rfl) (by kernel_rfl) ?_ ⟨?_, ?_⟩ ?_
      · intro _ _ d _ _ h; cases d <;> exact h
      · go_simp
      · go_simp
      repeat (apply wpHeld_light rfl rfl rfl
              · (rintro w' ⟨s1, s2⟩; go_simp; first | done | rfl)
              simp only [Act.put, List.setIfInBounds_toArray, List.set_cons_zero, List.set_cons_succ])
      refine wpHeld_heavy rfl rfl rfl (fun K hK => ?_)
      go_simp
      refine hK _ _ ⟨?_, ?_⟩ ?_
      · go_simp
      · go_simp
      clear hK K
      repeat (apply wpHeld_light rfl rfl rfl
              · (rintro w' ⟨s1, s2⟩; go_simp; first | done | rfl)
              simp only [Act.put, List.setIfInBounds_toArray, List.set_cons_zero, List.set_cons_succ])
      refine wpHeld_tail rfl ?_
      have HB2 : Below w.heap.size w (((wr.setCell ⟨w.heap.size + 1, 1, none⟩ (.int .i64 code)).setCell ⟨w.heap.size, 0, none⟩ (.slice S k c)).setCell ⟨w.heap.size, 1, none⟩ (.int .i64 code)).drew :=
        (((HBB.out.setCell (by simp) _).setCell (by simp) _).setCell (by simp) _).drew
      have HLK : LinksAt wr S links := by
        have := LinksAt.of_owns HOWN.out
        rwa [HKL.out, List.take_length] at this
      have HLK2 : LinksAt (((wr.setCell ⟨w.heap.size + 1, 1, none⟩ (.int .i64 code)).setCell ⟨w.heap.size, 0, none⟩ (.slice S k c)).setCell ⟨w.heap.size, 1, none⟩ (.int .i64 code)).drew S links := by
        intro j x hj
        obtain ⟨g, g1, g2, g3, g4⟩ := HLK j x hj
        have hg : w.heap.size + 2 ≤ g := by
          subst g1
          exact (HOWN.out.lt g rfl).1
        have T : Tch (fun i => i < w.heap.size + 2) wr (((wr.setCell ⟨w.heap.size + 1, 1, none⟩ (.int .i64 code)).setCell ⟨w.heap.size, 0, none⟩ (.slice S k c)).setCell ⟨w.heap.size, 1, none⟩ (.int .i64 code)).drew :=
          ((((Tch.refl _ _).setCell (by simp) _).setCell (by simp) _).setCell (by simp) _).drew
        exact ⟨g, g1, Nat.lt_of_lt_of_le g2 T.size, T.cell_some g3 (by simp; omega), T.cell_some g4 (by simp; omega)⟩
      have HR : Asd (_ ∧ _) := ⟨HB2, HLK2⟩
      have HZ := heap_set (heap_set ((Below.heap_setCell wr ⟨w.heap.size + 1, 1, none⟩ (.int .i64 code) w.heap.size (by simp)).trans HG0.out) 0 (.slice S k c)) 1 (.int .i64 code)
      have z0 := cell_of (w := (((wr.setCell ⟨w.heap.size + 1, 1, none⟩ (.int .i64 code)).setCell ⟨w.heap.size, 0, none⟩ (.slice S k c)).setCell ⟨w.heap.size, 1, none⟩ (.int .i64 code)).drew) HZ 0
      have z1 := cell_of (w := (((wr.setCell ⟨w.heap.size + 1, 1, none⟩ (.int .i64 code)).setCell ⟨w.heap.size, 0, none⟩ (.slice S k c)).setCell ⟨w.heap.size, 1, none⟩ (.int .i64 code)).drew) HZ 1
      clear HB2 HLK HLK2
      go_wp2_with fail
      refine bodyPost_ret (v := .tuple #[.agg #[.slice S k c, .int .i64 code], .bool true]) (by simp [results, Tryd.results62, go_sem, z0, z1]) rfl ⟨S, c, by rw [HKL.out], HR.out.2, HR.out.1⟩
end Go.Proofs.YtocbblafgjpbeaaDoor.Sp
