/- Walks: the reference's checker: its memory; faults; the kind of an expression. -/
import Derived.Test.YtocbblafgjpbeaaDoorRef4
import Derived.Test.YtocbblafgjpbeaaDoorRef1
namespace Go.Proofs.YtocbblafgjpbeaaDoor.Sp
open Go.RowKit
set_option linter.unusedVariables false
set_option linter.unusedSimpArgs false

def fcode : Option Fd → Int
  | none => 0
  | some f => f.1
def fat : Option Fd → Int
  | none => 0
  | some f => (f.2 : Int)
/-- The reference's checker in memory. -/
def RIs (w : World) (g : Nat) (T : Option Addr) (tn tc : Nat) (A : Option Addr) (n c : Nat) (B : Option Addr) (m d : Nat) (f : Option Fd) : Prop :=
  w.heap[g]? = some (.cells #[.slice T tn tc, .slice A n c, .slice B m d, .int .i64 (fcode f), .int .i64 (fat f)] 91 (0, 0))
/-- A list of nodes below lo. -/
def TNsLo (lo : Nat) (w : World) (A : Option Addr) (l : List TN) : Prop :=
  ∀ j x, l[j]? = some x → ∃ b off, A = some ⟨b, off, none⟩ ∧ b < lo ∧ w.cell? ⟨b, off + j * 3, none⟩ = some (.int .i64 x.op) ∧ w.cell? ⟨b, off + j * 3 + 1, none⟩ = some (.int .u64 x.n) ∧ w.cell? ⟨b, off + j * 3 + 2, none⟩ = some (.string x.name)
theorem TNsLo.below {lo : Nat} {w w' : World} {A : Option Addr} {l : List TN} (h : TNsLo lo w A l) (hb : Below lo w w') : TNsLo lo w' A l := by
  intro j x hj
  obtain ⟨b, off, h1, h2, h3, h4, h5⟩ := h j x hj
  exact ⟨b, off, h1, h2, (hb.cell (p := ⟨b, off + j * 3, none⟩) h2).trans h3, (hb.cell (p := ⟨b, off + j * 3 + 1, none⟩) h2).trans h4, (hb.cell (p := ⟨b, off + j * 3 + 2, none⟩) h2).trans h5⟩
theorem TNsLo.at {lo : Nat} {w : World} {A : Option Addr} {l : List TN} (h : TNsLo lo w A l) : TNsAt w A l := by
  intro j x hj
  obtain ⟨b, off, h1, h2, h3, h4, h5⟩ := h j x hj
  exact ⟨b, off, h1, World.block_lt_of_cell? w _ h3, h3, h4, h5⟩
/-- What lies below lo, and the block tb, stays as it was. -/
structure Fr' (lo tb : Nat) (w w' : World) : Prop where
  below : Below lo w w'
  told : w'.heap[tb]? = w.heap[tb]?
theorem Fr'.refl (lo tb : Nat) (w : World) : Fr' lo tb w w := ⟨Below.refl _ _, rfl⟩
theorem Fr'.trans {lo tb : Nat} {a b c : World} (h : Fr' lo tb a b) (k : Fr' lo tb b c) : Fr' lo tb a c := ⟨h.below.trans k.below, k.told.trans h.told⟩
structure RAt (lo tb : Nat) (T : Option Addr) (tn tc : Nat) (l : List TN) (w : World) (g : Nat) (vs : List Var) (labs : List Str) (f : Option Fd) (A : Option Addr) (c : Nat) (B : Option Addr) (d : Nat) : Prop where
  is : RIs w g T tn tc A vs.length c B labs.length d f
  nodes : TNsLo lo w T l
  len : l.length = tn
  big : tn ≤ 1048576
  vrow : w.ownsRow lo 151 3 (.slice A vs.length c) vs.length (varCells vs)
  lrow : w.ownsRow lo 9 1 (.slice B labs.length d) labs.length (labCells labs)
  apart : ∀ q, (Value.slice A vs.length c).ownBlock = some q → (Value.slice B labs.length d).ownBlock ≠ some q
  glo : lo ≤ g
  tok : tb < w.heap.size ∧ tb ≠ g
  tv : (Value.slice A vs.length c).ownBlock ≠ some tb
  tl : (Value.slice B labs.length d).ownBlock ≠ some tb
  vg : (Value.slice A vs.length c).ownBlock ≠ some g
  lg : (Value.slice B labs.length d).ownBlock ≠ some g
section
variable {lo tb : Nat} {T : Option Addr} {tn tc : Nat} {l : List TN} {w w' : World} {g : Nat} {vs : List Var} {labs : List Str} {f f' : Option Fd} {A : Option Addr} {c : Nat} {B : Option Addr} {d : Nat}
theorem RAt.lt (h : RAt lo tb T tn tc l w g vs labs f A c B d) : g < w.heap.size := heap_lt h.is
theorem RAt.lole (h : RAt lo tb T tn tc l w g vs labs f A c B d) : lo ≤ w.heap.size := Nat.le_trans h.glo (Nat.le_of_lt h.lt)
theorem RAt.own_lt (h : RAt lo tb T tn tc l w g vs labs f A c B d) {q : Nat} (hq : (Value.slice A vs.length c).ownBlock = some q) : q < w.heap.size := (h.vrow.lt q hq).2
theorem RAt.below (h : RAt lo tb T tn tc l w g vs labs f A c B d) (hb : Below w.heap.size w w') : RAt lo tb T tn tc l w' g vs labs f A c B d :=
  have ht : Tch (fun _ => False) w w' := Tch.of_below _ hb
  { h with
    is := (hb.block g h.lt).trans h.is
    nodes := h.nodes.below (hb.mono h.lole)
    vrow := ht.owns h.vrow (fun _ _ e => e)
    lrow := ht.owns h.lrow (fun _ _ e => e)
    tok := ⟨Nat.lt_of_lt_of_le h.tok.1 hb.size, h.tok.2⟩ }
theorem RAt.frb (h : RAt lo tb T tn tc l w g vs labs f A c B d) (hb : Below w.heap.size w w') : Fr' lo tb w w' := ⟨hb.mono h.lole, hb.block tb h.tok.1⟩
theorem RAt.write (h : RAt lo tb T tn tc l w g vs labs f A c B d) (hi : RIs w' g T tn tc A vs.length c B labs.length d f') (ht : Tch (fun q => q = g) w w') : RAt lo tb T tn tc l w' g vs labs f' A c B d :=
  { h with
    is := hi
    nodes := h.nodes.below (ht.below (fun i hi => by have := h.glo; omega) h.lole)
    vrow := ht.owns h.vrow (fun q hq he => h.vg ((show q = g from he) ▸ hq))
    lrow := ht.owns h.lrow (fun q hq he => h.lg ((show q = g from he) ▸ hq))
    tok := ⟨Nat.lt_of_lt_of_le h.tok.1 ht.size, h.tok.2⟩ }
theorem RAt.frw (h : RAt lo tb T tn tc l w g vs labs f A c B d) (ht : Tch (fun q => q = g) w w') : Fr' lo tb w w' :=
  ⟨ht.below (fun i hi => by have := h.glo; omega) h.lole, ht.block tb h.tok.1 h.tok.2⟩
end

theorem rfault_any (g : Nat) (T : Option Addr) (tn tc : Nat) (A : Option Addr) (n c : Nat) (B : Option Addr) (m d : Nat) (code : Int) (at_ : Nat) (w : World) (h : RIs w g T tn tc A n c B m d none) :
    Calls Tryd.prog 39 #[.pointer (some ⟨g, 0, none⟩), .int .i64 code, .int .i64 at_] w fun e w' => e = .returned (.tuple #[]) ∧ RIs w' g T tn tc A n c B m d (some (code, at_)) ∧ Tch (fun q => q = g) w w' := by
  have c3 : w.cell? ⟨g, 3, none⟩ = some (.int .i64 0) := cell_of h 3
  have f3 : w.frozen? ⟨g, 3, none⟩ = false := frozen_of h 3
  have f4 : w.frozen? ⟨g, 4, none⟩ = false := frozen_of h 4
  have c4 : w.cell? ⟨g, 4, none⟩ = some (.int .i64 0) := cell_of h 4
  have hgl := heap_lt h
  have H1 : Asd (RIs ((w.setCell ⟨g, 3, none⟩ (.int .i64 code)).setCell ⟨g, 4, none⟩ (.int .i64 at_)) g T tn tc A n c B m d (some (code, at_))) := ⟨by
    have h1 := heap_set h 3 (.int .i64 code)
    have h2 := heap_set h1 4 (.int .i64 at_)
    unfold RIs; rw [h2]; rfl⟩
  have H2 : Asd (Tch (fun q => q = g) w ((w.setCell ⟨g, 3, none⟩ (.int .i64 code)).setCell ⟨g, 4, none⟩ (.int .i64 at_))) := ⟨((Tch.refl (fun q => q = g) w).setCell (p := ⟨g, 3, none⟩) (fun _ => rfl) _).setCell (p := ⟨g, 4, none⟩) (fun _ => rfl) _⟩
  clear h
  go_enter Tryd.func39, Tryd.ntmps39
  go_wp2_with fail
  refine bodyPost_end (results_none rfl _ _ _) rfl ?_
  exact ⟨rfl, H1.out, H2.out⟩

theorem var_cells {lo : Nat} {A : Option Addr} {n c : Nat} {vs : List Var} {w : World} {t : TypeId} (hv : w.ownsRow lo t 3 (.slice A n c) n (varCells vs)) {j : Nat} {v : Var} (hj : vs[j]? = some v) :
    ∃ b, A = some ⟨b, 0, none⟩ ∧ w.cell? ⟨b, j * 3, none⟩ = some (.string v.name) ∧ w.cell? ⟨b, j * 3 + 1, none⟩ = some (.int .i64 v.kind) ∧ w.cell? ⟨b, j * 3 + 2, none⟩ = some (.int .u64 v.n) := by
  obtain ⟨A', c', he, _, _, _, hr⟩ := owns_shape hv
  injection he with he _ _
  subst he
  obtain ⟨g1, g2, g3⟩ := varCells_get vs j v hj
  obtain ⟨b, h1, _, h2⟩ := hr _ _ g1
  obtain ⟨b2, h3, _, h4⟩ := hr _ _ g2
  obtain ⟨b3, h5, _, h6⟩ := hr _ _ g3
  rw [h1] at h3 h5
  injection h3 with h3
  injection h3 with h3 _ _
  subst h3
  injection h5 with h5
  injection h5 with h5 _ _
  subst h5
  exact ⟨b, h1, h2, h4, h6⟩
theorem seenI_none {vs : List Var} {s : Str} (h : findV vs s = none) : seenI vs s = -1 := by simp [seenI, h]
theorem seenI_some {vs : List Var} {s : Str} {j : Nat} {v : Var} (h : findV vs s = some (j, v)) : seenI vs s = (j : Int) := by simp [seenI, h]
theorem rfind_at (A : Option Addr) (n c : Nat) (vs : List Var) (s : Str) (lo : Nat) (w : World) (z : Int) (hz : seenI vs s = z)
    (hv : w.ownsRow lo 151 3 (.slice A n c) n (varCells vs)) (hn : vs.length = n) (hm : n ≤ 4611686018427387904) (hN : NamesOk vs) :
    Calls Tryd.prog 95 #[.slice A n c, .string s] w fun e w' => e = .returned (.int .i64 z) ∧ w' = w := by
  have := rfind_any A n c vs s lo w hv hn hm hN
  rwa [hz] at this
set_option maxRecDepth 100000 in
set_option maxHeartbeats 1600000 in
theorem rkindOf_any (lo tb : Nat) (T : Option Addr) (tn tc : Nat) (l : List TN) (w : World) (g : Nat) (vs : List Var) (labs : List Str) (f : Option Fd) (A : Option Addr) (c : Nat) (B : Option Addr) (d : Nat) (hR : RAt lo tb T tn tc l w g vs labs f A c B d) (hV : VsOk vs) (e : Ex) (i : Nat) (hx : l[i]? = some e.tn) :
    Calls Tryd.prog 131 #[.pointer (some ⟨g, 0, none⟩), .int .i64 i] w fun en w' => en = .returned (.int .i64 (kindE vs e)) ∧ Below w.heap.size w w' := by
  have c0 : w.cell? ⟨g, 0, none⟩ = some (.slice T tn tc) := cell_of hR.is 0
  have c1 : w.cell? ⟨g, 1, none⟩ = some (.slice A vs.length c) := cell_of hR.is 1
  obtain ⟨b, off, rfl, hb, a1, a2, a3⟩ := hR.nodes i e.tn hx
  have hgl := hR.lt
  have hi0 : (0 : Int) ≤ (i : Int) := Int.natCast_nonneg _
  have hi1 : (i : Int) < (tn : Int) := by have := (List.getElem?_eq_some_iff.1 hx).1; have := hR.len; omega
  have hbl := World.block_lt_of_cell? w _ a1
  have HR := Asd.mk hR; have HV := Asd.mk hV
  have hB : ∀ o : Obj, Below w.heap.size w (w.alloc o) := fun o => (Below.refl _ _).alloc (Nat.le_refl _) _
  have HB := Asd.mk hB
  clear hR hV hx hB
  cases e with
  | num n =>
    simp only [Ex.tn] at a1 a2 a3
    go_enter Tryd.func131, Tryd.ntmps131
    go_wp2_with fail
    go_ret
    exact ⟨rfl, HB.out _⟩
  | tt =>
    simp only [Ex.tn] at a1 a2 a3
    go_enter Tryd.func131, Tryd.ntmps131
    go_wp2_with fail
    go_ret
    exact ⟨rfl, HB.out _⟩
  | ff =>
    simp only [Ex.tn] at a1 a2 a3
    go_enter Tryd.func131, Tryd.ntmps131
    go_wp2_with fail
    go_ret
    exact ⟨rfl, HB.out _⟩
  | not a =>
    simp only [Ex.tn] at a1 a2 a3
    go_enter Tryd.func131, Tryd.ntmps131
    go_wp2_with fail
    go_ret
    exact ⟨rfl, HB.out _⟩
  | two op x y =>
    simp only [Ex.tn] at a1 a2 a3
    go_enter Tryd.func131, Tryd.ntmps131
    go_wp2_with fail
    go_ret
    exact ⟨rfl, HB.out _⟩
  | share x y z =>
    simp only [Ex.tn] at a1 a2 a3
    go_enter Tryd.func131, Tryd.ntmps131
    go_wp2_with fail
    go_ret
    exact ⟨rfl, HB.out _⟩
  | bin op x y =>
    simp only [Ex.tn] at a1 a2 a3
    cases h8 : decide (8 ≤ op) with
    | true =>
      have HK : Asd (kindE vs (.bin op x y) = 1) := ⟨by simp only [kindE]; rw [if_neg (by simp at h8; omega)]⟩
      go_enter Tryd.func131, Tryd.ntmps131
      go_wp2_with fail
      go_ret
      exact ⟨by rw [HK.out]; rfl, HB.out _⟩
    | false =>
      have HK : Asd (kindE vs (.bin op x y) = 2) := ⟨by simp only [kindE]; rw [if_pos (by simp at h8; omega)]⟩
      go_enter Tryd.func131, Tryd.ntmps131
      go_wp2_with fail
      go_ret
      exact ⟨by rw [HK.out]; rfl, HB.out _⟩
  | var s =>
    simp only [Ex.tn] at a1 a2 a3
    have hvl : vs.length ≤ 4611686018427387904 := by have := HV.out.small; omega
    have HRA : ∀ o : Obj, Asd (RAt lo tb (some ⟨b, off, none⟩) tn tc l (w.alloc o) g vs labs f A c B d) := fun o => ⟨HR.out.below (HB.out o)⟩
    cases hf : findV vs s with
    | none =>
      have HK : Asd (kindE vs (.var s) = 0) := ⟨by simp only [kindE, hf]⟩
      have HS : Asd (seenI vs s = -1) := ⟨seenI_none hf⟩
      clear hf
      go_enter Tryd.func131, Tryd.ntmps131
      go_wp2_with fail
      have HX := HRA (.cells #[.int .i64 17, .int .u64 0, .string s] 68)
      go_quiet ((go_at_call 95; exact Calls.quiet_of_same (rfind_at _ _ _ vs s lo _ (-1) HS.out HX.out.vrow rfl hvl HV.out.names)))
      go_wp2_with fail
      go_ret
      exact ⟨by rw [HK.out]; rfl, (HB.out _).drewN _⟩
    | some p =>
      obtain ⟨j, v⟩ := p
      have HK : Asd (kindE vs (.var s) = v.kind) := ⟨by simp only [kindE, hf]⟩
      have HS : Asd (seenI vs s = (j : Int)) := ⟨seenI_some hf⟩
      have hj := (findV_get hf).1
      have hjl : j < vs.length := (List.getElem?_eq_some_iff.1 hj).1
      have hj0 : (0 : Int) ≤ (j : Int) := Int.natCast_nonneg _
      have hj1 : (j : Int) < (vs.length : Int) := by omega
      have hj2 : decide ((j : Int) < 0) = false := by simp
      obtain ⟨vb, rfl, v1, v2, v3⟩ := var_cells HR.out.vrow hj
      have hvb := World.block_lt_of_cell? w _ v1
      clear hf hj
      go_enter Tryd.func131, Tryd.ntmps131
      go_wp2_with fail
      have HX := HRA (.cells #[.int .i64 17, .int .u64 0, .string s] 68)
      go_quiet ((go_at_call 95; exact Calls.quiet_of_same (rfind_at _ _ _ vs s lo _ (j : Int) HS.out HX.out.vrow rfl hvl HV.out.names)))
      go_wp2_with fail
      go_ret
      exact ⟨by rw [HK.out]; rfl, (HB.out _).drewN _⟩
end Go.Proofs.YtocbblafgjpbeaaDoor.Sp
