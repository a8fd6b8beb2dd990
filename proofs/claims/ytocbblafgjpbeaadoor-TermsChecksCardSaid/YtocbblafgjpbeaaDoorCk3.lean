/- Walks: the checker's blocks. -/
import Derived.Test.YtocbblafgjpbeaaDoorCk2
namespace Go.Proofs.YtocbblafgjpbeaaDoor.Sp
open Go.RowKit
set_option linter.unusedVariables false
set_option linter.unusedSimpArgs false

/-- A node and what hangs on it. -/
def NdAt (S : Nat → Prop) (w : World) (p : Nat) (x : TN) (f : Fo) : Prop := ∃ ks, NodeAt S w p x ks ∧ FoAt S w f ks
theorem NdAt.keep {S : Nat → Prop} {w w' : World} {p : Nat} {x : TN} {f : Fo} (h : NdAt S w p x f) (hb : Like S w w') : NdAt S w' p x f := by
  obtain ⟨ks, h1, h2⟩ := h
  exact ⟨ks, h1.keep hb, h2.keep hb⟩
/-- What lies below lo, and the block tb, stays as it was. -/
structure Fr (lo tb : Nat) (w w' : World) : Prop where
  below : Below lo w w'
  told : w'.heap[tb]? = w.heap[tb]?
theorem Fr.refl (lo tb : Nat) (w : World) : Fr lo tb w w := ⟨Below.refl _ _, rfl⟩
theorem Fr.trans {lo tb : Nat} {a b c : World} (h : Fr lo tb a b) (k : Fr lo tb b c) : Fr lo tb a c := ⟨h.below.trans k.below, k.told.trans h.told⟩
theorem Fr.drewN {lo tb : Nat} {a b : World} (h : Fr lo tb a b) (n : Nat) : Fr lo tb a (b.drewN n) := ⟨h.below.drewN n, h.told⟩
theorem Fr.setCell {lo tb : Nat} {a b : World} (h : Fr lo tb a b) {p : Addr} (hp : lo ≤ p.block) (ht : tb ≠ p.block) (v : Value) : Fr lo tb a (b.setCell p v) := ⟨h.below.setCell hp v, (Below.heap_setCell _ _ _ _ ht).trans h.told⟩
theorem Fr.block {lo tb : Nat} {a b : World} (h : Fr lo tb a b) : ∀ q, q < lo → b.heap[q]? = a.heap[q]? := h.below.block
structure CkAt (lo tb : Nat) (w : World) (g i : Nat) (vs : List Var) (labs : List Str) (A : Option Addr) (c : Nat) (B : Option Addr) (d : Nat) : Prop where
  is : CkIs w g (i : Int) A vs.length c B labs.length d
  vrow : w.ownsRow lo 149 3 (.slice A vs.length c) vs.length (varCells vs)
  lrow : w.ownsRow lo 9 1 (.slice B labs.length d) labs.length (labCells labs)
  apart : ∀ q, (Value.slice A vs.length c).ownBlock = some q → (Value.slice B labs.length d).ownBlock ≠ some q
  names : NamesOk vs
  kinds : KindsOk vs
  small : vs.length ≤ 19
  low : labs.length ≤ i
  glo : lo ≤ g
  tok : tb < w.heap.size ∧ tb ≠ g
  tv : (Value.slice A vs.length c).ownBlock ≠ some tb
  tl : (Value.slice B labs.length d).ownBlock ≠ some tb
  vg : (Value.slice A vs.length c).ownBlock ≠ some g
  lg : (Value.slice B labs.length d).ownBlock ≠ some g

def Blk.list : Blk → List St
  | .nil => []
  | .cons s b => s :: b.list
def stFo : List St → Fo
  | [] => .nil
  | s :: r => .cons s.tn s.kids (stFo r)
def stSize : List St → Nat
  | [] => 0
  | s :: r => s.size + stSize r
theorem Blk.kids_list : ∀ b : Blk, b.kids = stFo b.list
  | .nil => by rw [Blk.kids]; rfl
  | .cons s b => by rw [Blk.kids, Blk.kids_list b]; rfl
theorem Blk.size_list : ∀ b : Blk, b.size = 1 + stSize b.list
  | .nil => by rw [Blk.size]; rfl
  | .cons s b => by rw [Blk.size, Blk.size_list b]; simp [Blk.list, stSize]; omega
theorem Blk.len_list : ∀ b : Blk, b.len = b.list.length
  | .nil => rfl
  | .cons s b => by rw [Blk.len, Blk.len_list b]; rfl
theorem Blk.ok_list : ∀ {b : Blk}, b.Ok → ∀ (k : Nat) (s : St), b.list[k]? = some s → s.Ok
  | .nil, _, k, s, h => by simp [Blk.list] at h
  | .cons x b, h, k, s, hk => by
    rw [Blk.Ok] at h
    cases k with
    | zero => simp [Blk.list] at hk; subst hk; exact h.1
    | succ k => exact Blk.ok_list h.2 k s (by simpa [Blk.list] using hk)
theorem stSize_append (a b : List St) : stSize (a ++ b) = stSize a + stSize b := by
  induction a with
  | nil => simp [stSize]
  | cons e r ih => simp [stSize, ih]; omega
theorem stSize_le {es : List St} {k : Nat} {a : St} (h : es[k]? = some a) : stSize (es.take k) + a.size ≤ stSize es := by
  have := congrArg stSize (split_get h)
  rw [stSize_append, stSize] at this
  omega
theorem St.size_pos (s : St) : 1 ≤ s.size := by cases s <;> rw [St.size] <;> omega
theorem stSize_len (l : List St) : l.length ≤ stSize l := by
  induction l with
  | nil => simp
  | cons s r ih => have := s.size_pos; simp [stSize]; omega
theorem stFo_get {S : Nat → Prop} {w : World} : ∀ {es : List St} {bs : List Nat}, FoAt S w (stFo es) bs → ∀ (j : Nat) (a : St), es[j]? = some a → ∃ p, bs[j]? = some p ∧ NdAt S w p a.tn a.kids := by
  intro es
  induction es with
  | nil => intro bs h j a hj; simp at hj
  | cons e r ih =>
    rintro bs ⟨b, bs', ks, rfl, h1, h2, h3⟩ j a hj
    cases j with
    | zero => simp at hj; subst hj; exact ⟨b, rfl, ks, h1, h2⟩
    | succ j =>
      obtain ⟨p, k1, k2⟩ := ih h3 j a (by simpa using hj)
      exact ⟨p, by simpa using k1, k2⟩
theorem stFo_len {S : Nat → Prop} {w : World} {es : List St} {bs : List Nat} (h : FoAt S w (stFo es) bs) : bs.length = es.length := by
  rw [h.length]
  clear h
  induction es with
  | nil => rfl
  | cons e r ih => simp [stFo, Fo.len, ih]

def ckLs (labs : List Str) : List Var → Nat → List St → Except Fd (List Var)
  | vs, _, [] => .ok vs
  | vs, i, s :: r => match ckS vs labs i s with
    | .error f => .error f
    | .ok vs' => ckLs labs vs' (i + s.size) r
theorem ckL_list (labs : List Str) : ∀ (b : Blk) (vs : List Var) (i : Nat), ckL vs labs i b = (match ckLs labs vs i b.list with | .error f => some f | .ok _ => none)
  | .nil, vs, i => by rw [ckL]; rfl
  | .cons s b, vs, i => by
    rw [ckL]
    simp only [Blk.list, ckLs]
    cases ckS vs labs i s with
    | error f => rfl
    | ok vs' => exact ckL_list labs b vs' (i + s.size)
theorem ckLs_append (labs : List Str) (b : List St) : ∀ (a : List St) (vs : List Var) (i : Nat), ckLs labs vs i (a ++ b) = (match ckLs labs vs i a with | .error f => .error f | .ok vs' => ckLs labs vs' (i + stSize a) b)
  | [], vs, i => by simp [ckLs, stSize]
  | s :: r, vs, i => by
    simp only [List.cons_append, ckLs, stSize]
    cases ckS vs labs i s with
    | error f => rfl
    | ok vs' => simp only [ckLs_append labs b r vs' (i + s.size), Nat.add_assoc]
/-- A statement adds at most one variable. -/
theorem ckS_ok {vs vs' : List Var} {labs : List Str} {i : Nat} {s : St} (h : ckS vs labs i s = .ok vs') : ∃ ex, vs' = vs ++ ex := by
  cases s <;> rw [ckS] at h <;> (repeat' split at h) <;> first | (cases h; done) | (injection h with h; exact ⟨[], h.symm.trans (List.append_nil _).symm⟩) | (injection h with h; exact ⟨_, h.symm⟩)

section
variable (lo tb g : Nat)
def StC (s : St) : Prop := ∀ (w : World) (i p : Nat) (vs : List Var) (labs : List Str) (A : Option Addr) (c : Nat) (B : Option Addr) (d : Nat), CkAt lo tb w g i vs labs A c B d → NdAt (fun q => q < lo) w p s.tn s.kids → s.Ok → i + s.size ≤ 1048576 →
  Calls Tryd.prog 60 #[.pointer (some ⟨g, 0, none⟩), .pointer (some ⟨p, 0, none⟩)] w fun en w' => Fr lo tb w w' ∧
    ((∃ vs', ckS vs labs i s = .ok vs' ∧ en = .returned (.tuple #[]) ∧ ∃ A c B d, CkAt lo tb w' g (i + s.size) vs' labs A c B d) ∨ ∃ code at_, ckS vs labs i s = .error (code, at_) ∧ en = foundE code at_)
def BlkC (b : Blk) : Prop := ∀ (w : World) (i p : Nat) (vs : List Var) (labs : List Str) (A : Option Addr) (c : Nat) (B : Option Addr) (d : Nat), CkAt lo tb w g i vs labs A c B d → NdAt (fun q => q < lo) w p b.tn b.kids → b.Ok → i + b.size ≤ 1048576 →
  Calls Tryd.prog 37 #[.pointer (some ⟨g, 0, none⟩), .pointer (some ⟨p, 0, none⟩)] w fun en w' => Fr lo tb w w' ∧
    ((ckL vs labs (i + 1) b = none ∧ en = .returned (.tuple #[]) ∧ ∃ A c B d, CkAt lo tb w' g (i + b.size) vs labs A c B d) ∨ ∃ code at_, ckL vs labs (i + 1) b = some (code, at_) ∧ en = foundE code at_)
end
/-- The checker's number moves on. -/
theorem CkAt.node {lo tb : Nat} {w w' : World} {g i : Nat} {vs : List Var} {labs : List Str} {A : Option Addr} {c : Nat} {B : Option Addr} {d j : Nat} (h : CkAt lo tb w g i vs labs A c B d) (hi : CkIs w' g (j : Int) A vs.length c B labs.length d) (ht : Tch (fun q => q = g) w w') (hj : i ≤ j) :
    CkAt lo tb w' g j vs labs A c B d :=
  { h with is := hi
           vrow := ht.owns h.vrow (fun q hq he => h.vg ((show q = g from he) ▸ hq))
           lrow := ht.owns h.lrow (fun q hq he => h.lg ((show q = g from he) ▸ hq))
           low := Nat.le_trans h.low hj
           tok := ⟨Nat.lt_of_lt_of_le h.tok.1 ht.size, h.tok.2⟩ }
theorem Tch.belowG {lo tb : Nat} {w w' : World} {g : Nat} (h : Tch (fun q => q = g) w w') (hg : g < w.heap.size) (hlg : lo ≤ g) (ht : tb < w.heap.size ∧ tb ≠ g) : Fr lo tb w w' := ⟨h.below (fun i hi => by omega) (by omega), h.block tb ht.1 ht.2⟩
/-- The variables are cut back. -/
theorem CkAt.cut {lo tb : Nat} {w : World} {g i : Nat} {vs ex : List Var} {labs : List Str} {A : Option Addr} {c : Nat} {B : Option Addr} {d : Nat} (h : CkAt lo tb w g i (vs ++ ex) labs A c B d) :
    CkAt lo tb (w.setCell ⟨g, 1, none⟩ (.slice A vs.length c)) g i vs labs A c B d := by
  have T : Tch (fun q => q = g) w (w.setCell ⟨g, 1, none⟩ (.slice A vs.length c)) := (Tch.refl (fun q => q = g) w).setCell (p := ⟨g, 1, none⟩) (fun _ => rfl) _
  have hv := owns_take h.vrow vs.length (by simp)
  rw [varCells_append, List.take_left' (varCells_length vs)] at hv
  have hvg : (Value.slice A vs.length c).ownBlock ≠ some g := by
    intro hq
    refine h.vg ?_
    cases A with
    | none => simp [Value.ownBlock] at hq
    | some a => simpa [Value.ownBlock] using hq
  have htv : (Value.slice A vs.length c).ownBlock ≠ some tb := by
    intro hq
    refine h.tv ?_
    cases A with
    | none => simp [Value.ownBlock] at hq
    | some a => simpa [Value.ownBlock] using hq
  refine { is := ?_, vrow := T.owns hv (fun q hq he => hvg ((show q = g from he) ▸ hq)), lrow := T.owns h.lrow (fun q hq he => h.lg ((show q = g from he) ▸ hq)), apart := ?_, names := ?_, kinds := ?_, small := ?_, low := h.low, glo := h.glo, vg := hvg, lg := h.lg, tok := ⟨Nat.lt_of_lt_of_le h.tok.1 T.size, h.tok.2⟩, tv := htv, tl := h.tl }
  · have := heap_set h.is 1 (.slice A vs.length c)
    unfold CkIs; rw [this]; rfl
  · intro q hq
    refine h.apart q ?_
    cases A with
    | none => simp [Value.ownBlock] at hq
    | some a => simpa [Value.ownBlock] using hq
  · intro a b u v ha hb
    exact h.names a b u v (by rw [List.getElem?_append_left (List.getElem?_eq_some_iff.1 ha).1]; exact ha) (by rw [List.getElem?_append_left (List.getElem?_eq_some_iff.1 hb).1]; exact hb)
  · intro a u ha
    exact h.kinds a u (by rw [List.getElem?_append_left (List.getElem?_eq_some_iff.1 ha).1]; exact ha)
  · have := h.small; simp at this; omega

set_option maxHeartbeats 3200000 in
theorem blk_step (lo tb g : Nat) (b : Blk) (ih : ∀ (k : Nat) (s : St), b.list[k]? = some s → StC lo tb g s) : BlkC lo tb g b := by
  intro w i p vs labs A c B d hC hN hOk hsz
  have HIH := Asd.mk ih; have HC := Asd.mk hC; have HN := Asd.mk hN; have HOk := Asd.mk hOk
  have hgl := heap_lt hC.is
  have hs1 := b.size_list
  have hsmall := hC.small
  have hlg := hC.glo
  have htk := hC.tok
  clear ih hC hN hOk
  go_enter Tryd.func37, Tryd.ntmps37
  go_wp2_with fail
  refine (cknode_any g i A vs.length c B labs.length d w HC.out.is (by omega)).mono ?_
  rintro e1 w1 ⟨rfl, hI1, hT1⟩
  have HC1 : Asd (CkAt lo tb w1 g (i + 1) vs labs A c B d) := ⟨HC.out.node (by simpa using hI1) hT1 (by omega)⟩
  have HB1 : Asd (Fr lo tb w w1) := ⟨hT1.belowG hgl hlg htk⟩
  have HN1 : Asd (NdAt (fun q => q < lo) w1 p b.tn b.kids) := ⟨HN.out.keep (Like.of_below HB1.out.below fun q hq => hq)⟩
  obtain ⟨ks, ⟨hp, p0, p1, p2, KA, kc, p3, hkids⟩, hfo⟩ := HN1.out
  have c1 : w1.cell? ⟨g, 1, none⟩ = some (.slice A vs.length c) := cell_of HC1.out.is 1
  have HKD := Asd.mk hkids; have HFO := Asd.mk hfo
  have hle : ks.length = b.list.length := stFo_len (es := b.list) (by rw [← Blk.kids_list]; exact hfo)
  have hgl1 := heap_lt HC1.out.is
  have hll := stSize_len b.list
  clear hI1 hT1 hkids hfo
  go_wp2_with fail
  go_loopw [19] (fun kv wr => ∃ (k : Nat) (ex : List Var) (A : Option Addr) (c : Nat) (B : Option Addr) (d : Nat), kv = .int .i64 (k : Int) ∧ k ≤ b.list.length ∧ Asd (Fr lo tb w1 wr) ∧ Asd (CkAt lo tb wr g (i + 1 + stSize (b.list.take k)) (vs ++ ex) labs A c B d) ∧ Asd (ckLs labs vs (i + 1) (b.list.take k) = .ok (vs ++ ex))) (fun kv _ => b.list.length - (intOf kv).toNat)
  case atStart => exact ⟨0, [], A, c, B, d, rfl, Nat.zero_le _, ⟨Fr.refl _ _ _⟩, ⟨by simpa [stSize] using HC1.out⟩, ⟨by simp [ckLs]⟩⟩
  case round =>
    obtain ⟨k, ex, A', c', B', d', rfl, hk, HBR, HCR, HER⟩ := hrel
    have hk0 : (0 : Int) ≤ (k : Int) := Int.natCast_nonneg _
    by_cases hlt : k < b.list.length
    · obtain ⟨s, ha⟩ : ∃ s, b.list[k]? = some s := ⟨_, List.getElem?_eq_getElem hlt⟩
      obtain ⟨q, hq, hqa⟩ := stFo_get (es := b.list) (by rw [← Blk.kids_list]; exact HFO.out) k s ha
      obtain ⟨kb, hkb, rfl, hcl⟩ := HKD.out k q hq
      have hcl' := (World.cell?_of_block (w := w1) (a := ⟨kb, k, none⟩) (HBR.out.block kb hkb)).trans hcl
      have hk1 : (k : Int) < (ks.length : Int) := by omega
      have HQA : Asd (NdAt (fun q => q < lo) wr q s.tn s.kids) := ⟨hqa.keep (Like.of_below HBR.out.below fun q hq => hq)⟩
      have HA := Asd.mk ha
      have HLEN : Asd (i + 1 + stSize (b.list.take k) + s.size ≤ 1048576) := ⟨by have := stSize_le ha; omega⟩
      clear ha hqa hcl hq
      go_wp2_with fail
      refine (HIH.out k s HA.out wr (i + 1 + stSize (b.list.take k)) q (vs ++ ex) labs A' c' B' d' HCR.out HQA.out (Blk.ok_list HOk.out k s HA.out) HLEN.out).mono ?_
      rintro e2 w2 ⟨hB2, ⟨vs', h1, rfl, A2, c2, B2, d2, h2⟩ | ⟨code, at_, h1, rfl⟩⟩
      · have HB2 := Asd.mk hB2
        have HR : Asd (∃ ex', vs' = vs ++ ex' ∧ CkAt lo tb w2 g (i + 1 + stSize (b.list.take (k + 1))) (vs ++ ex') labs A2 c2 B2 d2 ∧ ckLs labs vs (i + 1) (b.list.take (k + 1)) = .ok (vs ++ ex')) := ⟨by
          obtain ⟨ex', rfl⟩ := ckS_ok h1
          refine ⟨ex ++ ex', by simp, ?_, ?_⟩
          · rw [take_get HA.out, stSize_append]
            simpa [stSize, Nat.add_assoc] using h2
          · rw [take_get HA.out, ckLs_append, HER.out]
            simp only [ckLs, h1, List.append_assoc]⟩
        clear hB2 h1 h2
        go_wp2_with fail
        go_roundw
        case rel =>
          obtain ⟨ex', _, h3, h4⟩ := HR.out
          exact ⟨k + 1, ex', A2, c2, B2, d2, by go_num, hlt, ⟨HBR.out.trans HB2.out⟩, ⟨h3⟩, ⟨h4⟩⟩
        case measure => simp [intOf]; omega
      · go_wp2_with fail
        refine ⟨rfl, HB1.out.trans (HBR.out.trans hB2), .inr ⟨code, at_, ?_, by first | rfl | assumption | (symm; assumption)⟩⟩
        rw [ckL_list, split_get HA.out, ckLs_append, HER.out]
        simp only [ckLs, h1]
    · have hke : k = b.list.length := by omega
      have HF : Asd (ckL vs labs (i + 1) b = none) := ⟨by
        have := HER.out
        rw [hke, List.take_length] at this
        rw [ckL_list, this]⟩
      have HCF : Asd (CkAt lo tb (wr.setCell ⟨g, 1, none⟩ (.slice A' vs.length c')) g (i + b.size) vs labs A' c' B' d') := ⟨by
        have := HCR.out
        rw [hke, List.take_length] at this
        rw [hs1, ← Nat.add_assoc]; exact this.cut⟩
      have r1 : wr.cell? ⟨g, 1, none⟩ = some (.slice A' (vs ++ ex).length c') := cell_of HCR.out.is 1
      have rf : wr.frozen? ⟨g, 1, none⟩ = false := frozen_of HCR.out.is 1
      obtain ⟨A'', c'', he, hcap, _⟩ := owns_shape HCR.out.vrow
      injection he with he1 _ he
      subst he1; subst he
      have hcap2 : vs.length ≤ c' := by simp at hcap; omega
      have hcap3 : (vs.length : Int) ≤ (c' : Int) := by omega
      have HBF : Asd (Fr lo tb w1 (wr.setCell ⟨g, 1, none⟩ (.slice A' vs.length c'))) := ⟨HBR.out.setCell hlg htk.2 _⟩
      have hk1 : ¬ (k : Int) < (ks.length : Int) := by omega
      go_wp2_with fail
      refine bodyPost_end (results_none rfl _ _ _) rfl ?_
      exact ⟨HB1.out.trans HBF.out, .inl ⟨HF.out, rfl, A', c', B', d', by rw [← hs1]; exact HCF.out⟩⟩
end Go.Proofs.YtocbblafgjpbeaaDoor.Sp
