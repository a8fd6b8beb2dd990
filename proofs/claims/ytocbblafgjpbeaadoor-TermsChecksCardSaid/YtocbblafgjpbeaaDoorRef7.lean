/- Walks: the reference's checker: its memory as it grows; let. -/
import Derived.Test.YtocbblafgjpbeaaDoorRef6
import Derived.Test.YtocbblafgjpbeaaDoorCk5
namespace Go.Proofs.YtocbblafgjpbeaaDoor.Sp
open Go.RowKit
set_option linter.unusedVariables false
set_option linter.unusedSimpArgs false

theorem Fr'.drewN {lo tb : Nat} {a b : World} (h : Fr' lo tb a b) (n : Nat) : Fr' lo tb a (b.drewN n) := ⟨h.below.drewN n, h.told⟩
theorem Fr'.setCell {lo tb : Nat} {a b : World} (h : Fr' lo tb a b) {p : Addr} (hp : lo ≤ p.block) (ht : tb ≠ p.block) (v : Value) : Fr' lo tb a (b.setCell p v) := ⟨h.below.setCell hp v, (Below.heap_setCell _ _ _ _ ht).trans h.told⟩
theorem own_irrel {A : Option Addr} {n m c q : Nat} (h : (Value.slice A n c).ownBlock = some q) : (Value.slice A m c).ownBlock = some q := by
  cases A with
  | none => simp [Value.ownBlock] at h
  | some a => simpa [Value.ownBlock] using h
section
variable {lo tb : Nat} {T : Option Addr} {tn tc : Nat} {l : List TN} {w : World} {g : Nat} {vs : List Var} {labs : List Str} {f : Option Fd} {A : Option Addr} {c : Nat} {B : Option Addr} {d : Nat}
/-- Fresh memory and draws turn nothing. -/
theorem RAt.drewN (h : RAt lo tb T tn tc l w g vs labs f A c B d) (n : Nat) : RAt lo tb T tn tc l (w.drewN n) g vs labs f A c B d := { h with }
theorem RAt.drew (h : RAt lo tb T tn tc l w g vs labs f A c B d) : RAt lo tb T tn tc l w.drew g vs labs f A c B d := { h with }
theorem RAt.pushV (h : RAt lo tb T tn tc l w g vs labs f A c B d) (u : Var) {O : Obj} {q d' : Nat} {w4 : World}
    (ho : w4.ownsRow lo 151 3 (.slice (some ⟨q, 0, none⟩) (vs.length + 1) d') (vs.length + 1) (varCells vs ++ u.cells))
    (ht : Tch (fun k => (Value.slice A vs.length c).ownBlock = some k) (w.alloc O) w4) (hq : (Value.slice A vs.length c).ownBlock = some q ∨ w.heap.size + 1 ≤ q) :
    RAt lo tb T tn tc l (w4.setCell ⟨g, 1, none⟩ (.slice (some ⟨q, 0, none⟩) (vs.length + 1) d')) g (vs ++ [u]) labs f (some ⟨q, 0, none⟩) d' B d ∧ Fr' lo tb w (w4.setCell ⟨g, 1, none⟩ (.slice (some ⟨q, 0, none⟩) (vs.length + 1) d')) := by
  have hown : ∀ k, (Value.slice A vs.length c).ownBlock = some k → lo ≤ k ∧ k ≠ g := fun k hk => ⟨(h.vrow.lt k hk).1, fun he => h.vg (he ▸ hk)⟩
  have hlg := h.glo
  have hgl := heap_lt h.is
  have T1 : Tch (fun k => (Value.slice A vs.length c).ownBlock = some k) w w4 := ((Tch.refl _ w).alloc O).trans ht
  have htn : ¬ (Value.slice A vs.length c).ownBlock = some tb := h.tv
  have htw : tb < w4.heap.size := Nat.lt_of_lt_of_le h.tok.1 T1.size
  have T2 : Tch (fun k => k = g) w4 (w4.setCell ⟨g, 1, none⟩ (.slice (some ⟨q, 0, none⟩) (vs.length + 1) d')) := (Tch.refl (fun k => k = g) w4).setCell (p := ⟨g, 1, none⟩) (fun _ => rfl) _
  have hi : w4.heap[g]? = _ := (T1.block g hgl (fun hk => by have := hown g hk; omega)).trans h.is
  have hqt : q ≠ tb := by
    rcases hq with hq | hq
    · intro he; exact htn (he ▸ hq)
    · have := h.tok.1; omega
  have hqg : q ≠ g := by
    rcases hq with hq | hq
    · exact (hown q hq).2
    · omega
  have hF : Fr' lo tb w (w4.setCell ⟨g, 1, none⟩ (.slice (some ⟨q, 0, none⟩) (vs.length + 1) d')) :=
    ⟨(T1.below (fun k hk => by have := hown k hk; omega) (by omega)).trans (T2.below (fun k hk => by omega) (by have := T1.size; omega)), (T2.block tb htw h.tok.2).trans (T1.block tb h.tok.1 htn)⟩
  refine ⟨{ is := ?_, nodes := h.nodes.below hF.below, len := h.len, big := h.big, lrow := T2.owns (T1.owns h.lrow fun k hk hk2 => h.apart k hk2 hk) (fun k hk he => h.lg ((show k = g from he) ▸ hk)), vrow := ?_, apart := ?_, glo := hlg, lg := h.lg, vg := fun hq => hqg (by simpa [Value.ownBlock] using hq), tok := ⟨Nat.lt_of_lt_of_le htw T2.size, h.tok.2⟩, tl := h.tl, tv := fun hq => hqt (by simpa [Value.ownBlock] using hq) }, hF⟩
  · have := heap_set hi 1 (.slice (some ⟨q, 0, none⟩) (vs.length + 1) d')
    unfold RIs; rw [this]; simp
  · have := T2.owns ho (fun k hk => by
      have hk : q = k := by simpa [Value.ownBlock] using hk
      omega)
    simpa [varCells] using this
  · intro k hk hk2
    have hk : q = k := by simpa [Value.ownBlock] using hk
    subst hk
    rcases hq with hq | hq
    · exact h.apart q hq hk2
    · have := (h.lrow.lt q hk2).2; omega
theorem RAt.pushL (h : RAt lo tb T tn tc l w g vs labs f A c B d) (x : Str) {O : Obj} {q d' : Nat} {w4 : World}
    (ho : w4.ownsRow lo 9 1 (.slice (some ⟨q, 0, none⟩) (labs.length + 1) d') (labs.length + 1) (labCells labs ++ [.string x]))
    (ht : Tch (fun k => (Value.slice B labs.length d).ownBlock = some k) (w.alloc O) w4) (hq : (Value.slice B labs.length d).ownBlock = some q ∨ w.heap.size + 1 ≤ q) :
    RAt lo tb T tn tc l (w4.setCell ⟨g, 2, none⟩ (.slice (some ⟨q, 0, none⟩) (labs.length + 1) d')) g vs (labs ++ [x]) f A c (some ⟨q, 0, none⟩) d' ∧ Fr' lo tb w (w4.setCell ⟨g, 2, none⟩ (.slice (some ⟨q, 0, none⟩) (labs.length + 1) d')) := by
  have hown : ∀ k, (Value.slice B labs.length d).ownBlock = some k → lo ≤ k ∧ k ≠ g := fun k hk => ⟨(h.lrow.lt k hk).1, fun he => h.lg (he ▸ hk)⟩
  have hlg := h.glo
  have hgl := heap_lt h.is
  have T1 : Tch (fun k => (Value.slice B labs.length d).ownBlock = some k) w w4 := ((Tch.refl _ w).alloc O).trans ht
  have htn : ¬ (Value.slice B labs.length d).ownBlock = some tb := h.tl
  have htw : tb < w4.heap.size := Nat.lt_of_lt_of_le h.tok.1 T1.size
  have T2 : Tch (fun k => k = g) w4 (w4.setCell ⟨g, 2, none⟩ (.slice (some ⟨q, 0, none⟩) (labs.length + 1) d')) := (Tch.refl (fun k => k = g) w4).setCell (p := ⟨g, 2, none⟩) (fun _ => rfl) _
  have hi : w4.heap[g]? = _ := (T1.block g hgl (fun hk => by have := hown g hk; omega)).trans h.is
  have hqt : q ≠ tb := by
    rcases hq with hq | hq
    · intro he; exact htn (he ▸ hq)
    · have := h.tok.1; omega
  have hqg : q ≠ g := by
    rcases hq with hq | hq
    · exact (hown q hq).2
    · omega
  have hF : Fr' lo tb w (w4.setCell ⟨g, 2, none⟩ (.slice (some ⟨q, 0, none⟩) (labs.length + 1) d')) :=
    ⟨(T1.below (fun k hk => by have := hown k hk; omega) (by omega)).trans (T2.below (fun k hk => by omega) (by have := T1.size; omega)), (T2.block tb htw h.tok.2).trans (T1.block tb h.tok.1 htn)⟩
  refine ⟨{ is := ?_, nodes := h.nodes.below hF.below, len := h.len, big := h.big, vrow := T2.owns (T1.owns h.vrow fun k hk => h.apart k hk) (fun k hk he => h.vg ((show k = g from he) ▸ hk)), lrow := ?_, apart := ?_, glo := hlg, vg := h.vg, lg := fun hq => hqg (by simpa [Value.ownBlock] using hq), tok := ⟨Nat.lt_of_lt_of_le htw T2.size, h.tok.2⟩, tv := h.tv, tl := fun hq => hqt (by simpa [Value.ownBlock] using hq) }, hF⟩
  · have := heap_set hi 2 (.slice (some ⟨q, 0, none⟩) (labs.length + 1) d')
    unfold RIs; rw [this]; simp
  · have := T2.owns ho (fun k hk => by
      have hk : q = k := by simpa [Value.ownBlock] using hk
      omega)
    simpa [labCells] using this
  · intro k hk hk2
    have hk2 : q = k := by simpa [Value.ownBlock] using hk2
    subst hk2
    rcases hq with hq | hq
    · exact h.apart q hk hq
    · have := (h.vrow.lt q hk).2; omega
theorem RAt.popL {x : Str} (h : RAt lo tb T tn tc l w g vs (labs ++ [x]) f A c B d) :
    RAt lo tb T tn tc l (w.setCell ⟨g, 2, none⟩ (.slice B labs.length d)) g vs labs f A c B d := by
  have T1 : Tch (fun q => q = g) w (w.setCell ⟨g, 2, none⟩ (.slice B labs.length d)) := (Tch.refl (fun q => q = g) w).setCell (p := ⟨g, 2, none⟩) (fun _ => rfl) _
  have hv := owns_take h.lrow labs.length (by simp)
  have e : (labCells (labs ++ [x])).take (labs.length * 1) = labCells labs := by simp [labCells, List.take_left']
  rw [e] at hv
  have hlg : (Value.slice B labs.length d).ownBlock ≠ some g := fun hq => h.lg (own_irrel hq)
  have htl : (Value.slice B labs.length d).ownBlock ≠ some tb := fun hq => h.tl (own_irrel hq)
  refine { is := ?_, nodes := h.nodes.below (T1.below (fun k hk => by have := h.glo; omega) h.lole), len := h.len, big := h.big, lrow := T1.owns hv (fun q hq he => hlg ((show q = g from he) ▸ hq)), vrow := T1.owns h.vrow (fun q hq he => h.vg ((show q = g from he) ▸ hq)), apart := fun q hq hq2 => h.apart q hq (own_irrel hq2), glo := h.glo, vg := h.vg, lg := hlg, tok := ⟨Nat.lt_of_lt_of_le h.tok.1 T1.size, h.tok.2⟩, tv := h.tv, tl := htl }
  have := heap_set h.is 2 (.slice B labs.length d)
  unfold RIs; rw [this]; rfl
theorem RAt.cut {ex : List Var} (h : RAt lo tb T tn tc l w g (vs ++ ex) labs f A c B d) :
    RAt lo tb T tn tc l (w.setCell ⟨g, 1, none⟩ (.slice A vs.length c)) g vs labs f A c B d := by
  have T1 : Tch (fun q => q = g) w (w.setCell ⟨g, 1, none⟩ (.slice A vs.length c)) := (Tch.refl (fun q => q = g) w).setCell (p := ⟨g, 1, none⟩) (fun _ => rfl) _
  have hv := owns_take h.vrow vs.length (by simp)
  rw [varCells_append, List.take_left' (varCells_length vs)] at hv
  have hvg : (Value.slice A vs.length c).ownBlock ≠ some g := fun hq => h.vg (own_irrel hq)
  have htv : (Value.slice A vs.length c).ownBlock ≠ some tb := fun hq => h.tv (own_irrel hq)
  refine { is := ?_, nodes := h.nodes.below (T1.below (fun k hk => by have := h.glo; omega) h.lole), len := h.len, big := h.big, vrow := T1.owns hv (fun q hq he => hvg ((show q = g from he) ▸ hq)), lrow := T1.owns h.lrow (fun q hq he => h.lg ((show q = g from he) ▸ hq)), apart := fun q hq => h.apart q (own_irrel hq), glo := h.glo, vg := hvg, lg := h.lg, tok := ⟨Nat.lt_of_lt_of_le h.tok.1 T1.size, h.tok.2⟩, tv := htv, tl := h.tl }
  have := heap_set h.is 1 (.slice A vs.length c)
  unfold RIs; rw [this]; rfl
end

section
variable (lo tb g tn tc : Nat) (T : Option Addr) (l : List TN)
/-- What a statement leaves. -/
def RAfter (w' : World) (vs : List Var) (labs : List Str) : Except Fd (List Var) → Prop
  | .ok vs' => ∃ A c B d, RAt lo tb T tn tc l w' g vs' labs none A c B d
  | .error fd => ∃ ex A c B d, RAt lo tb T tn tc l w' g (vs ++ ex) labs (some fd) A c B d
def RStC (fn : Nat) (s : St) : Prop := ∀ (w : World) (z : Int) (i : Nat) (vs : List Var) (labs : List Str) (A : Option Addr) (c : Nat) (B : Option Addr) (d : Nat), z = (i : Int) → RAt lo tb T tn tc l w g vs labs none A c B d → VsOk vs → labs.length ≤ i → AtL l i (.cons s.tn s.kids .nil) → s.Ok →
  Calls Tryd.prog fn #[.pointer (some ⟨g, 0, none⟩), .int .i64 z] w fun en w' => en = .returned (.tuple #[]) ∧ Fr' lo tb w w' ∧ RAfter lo tb g tn tc T l w' vs labs (ckS vs labs i s)
def RBlkC (b : Blk) : Prop := ∀ (w : World) (z : Int) (i : Nat) (vs : List Var) (labs : List Str) (A : Option Addr) (c : Nat) (B : Option Addr) (d : Nat), z = (i : Int) → RAt lo tb T tn tc l w g vs labs none A c B d → VsOk vs → labs.length ≤ i → AtL l i (.cons b.tn b.kids .nil) → b.Ok →
  Calls Tryd.prog 40 #[.pointer (some ⟨g, 0, none⟩), .int .i64 z] w fun en w' => en = .returned (.tuple #[]) ∧ Fr' lo tb w w' ∧ ∃ A c B d, RAt lo tb T tn tc l w' g vs labs (ckL vs labs (i + 1) b) A c B d
end
theorem rvar_info : (Tryd.prog.info? 151).map (fun i => (i.zero, i.size, i.bytes)) = some (some (.agg #[.string ⟨#[]⟩, .int .i64 0, .int .u64 0]), 3, 32) := by kernel_rfl
set_option maxRecDepth 100000 in
set_option maxHeartbeats 3200000 in
theorem rlet_any (lo tb g tn tc : Nat) (T : Option Addr) (l : List TN) (s : Str) (e : Ex) : RStC lo tb g tn tc T l 94 (.let_ s e) := by
  intro w z i vs labs A c B d hz hR hV hlab hat hok
  subst hz
  have c0 : w.cell? ⟨g, 0, none⟩ = some (.slice T tn tc) := cell_of hR.is 0
  have c1 : w.cell? ⟨g, 1, none⟩ = some (.slice A vs.length c) := cell_of hR.is 1
  obtain ⟨b, off, hTe, hb, a1, a2, a3⟩ := hR.nodes i _ hat.head
  simp only [St.tn] at a1 a2 a3
  have hgl := hR.lt
  have hi0 : (0 : Int) ≤ (i : Int) := Int.natCast_nonneg _
  have hil := hat.lt
  have hln := hR.len
  have hbg := hR.big
  have hi1 : (i : Int) < (tn : Int) := by omega
  have hbl := World.block_lt_of_cell? w _ a1
  have hsm := hV.small
  rw [St.kids] at hat
  rw [St.Ok] at hok
  have HA1 : Asd (AtL l (i + 1) (exF e)) := ⟨hat.kids⟩
  have HR := Asd.mk hR; have HV := Asd.mk hV; have HOK := Asd.mk hok.2
  have HLN := Asd.mk hln
  clear hR hV hat hok hln
  subst hTe
  have HRA : Asd (RAt lo tb (some ⟨b, off, none⟩) tn tc l (w.alloc (.cells #[.int .i64 4, .int .u64 0, .string s] 68)) g vs labs none A c B d) := ⟨HR.out.below ((Below.refl _ _).alloc (Nat.le_refl _) _)⟩
  have HFA : Asd (Fr' lo tb w (w.alloc (.cells #[.int .i64 4, .int .u64 0, .string s] 68))) := ⟨HR.out.frb ((Below.refl _ _).alloc (Nat.le_refl _) _)⟩
  have hwr : IntKind.i64.wrap ((vs.length : Int) - 11) = (vs.length : Int) - 11 := IntWalk.i64_in _ (by omega)
  rcases hf : findV vs s with _ | ⟨j, v⟩
  · have HS : Asd (seenI vs s = -1) := ⟨seenI_none hf⟩
    have HF := Asd.mk hf; clear hf
    go_enter Tryd.func94, Tryd.ntmps94
    go_wp2_with fail
    go_quiet ((go_at_call 95; exact Calls.quiet_of_same (rfind_at _ _ _ vs s lo _ (-1) HS.out HRA.out.vrow rfl (by omega) HV.out.names)))
    have HR1 : Asd (RAt lo tb (some ⟨b, off, none⟩) tn tc l ((w.alloc (.cells #[.int .i64 4, .int .u64 0, .string s] 68)).drewN nq) g vs labs none A c B d) := ⟨HRA.out.drewN nq⟩
    have HF1 : Asd (Fr' lo tb w ((w.alloc (.cells #[.int .i64 4, .int .u64 0, .string s] 68)).drewN nq)) := ⟨HFA.out.drewN nq⟩
    have x2 : ((w.alloc (.cells #[.int .i64 4, .int .u64 0, .string s] 68)).drewN nq).cell? ⟨w.heap.size, 2, none⟩ = some (.string s) := cell_of (heap_alloc_new w _) 2
    have hxg : ¬ w.heap.size = g := by omega
    have hxv : ∀ k, (Value.slice A vs.length c).ownBlock = some k → k ≠ w.heap.size := fun k hk => by have := HR.out.own_lt hk; omega
    have HXV := Asd.mk hxv
    clear hxv HRA HFA c0 c1 a1 a2 a3
    generalize (w.alloc (.cells #[.int .i64 4, .int .u64 0, .string s] 68)).drewN nq = w1 at *
    have c1 : w1.cell? ⟨g, 1, none⟩ = some (.slice A vs.length c) := cell_of HR1.out.is 1
    by_cases h19 : 19 ≤ vs.length
    · have hb1 : decide ((8 : Int) ≤ (vs.length : Int) - 11) = true := by simp; omega
      have HK : Asd (ckS vs labs i (.let_ s e) = .error (63, i)) := ⟨by rw [ckS, HF.out]; simp [h19]⟩
      go_wp2_with fail
      refine (rfault_any g _ tn tc A _ c B _ d 63 i w1 HR1.out.is).mono ?_
      rintro e2 w2 ⟨rfl, hI2, hT2⟩
      have HR2 : Asd (RAt lo tb (some ⟨b, off, none⟩) tn tc l w2 g vs labs (some (63, i)) A c B d) := ⟨HR1.out.write hI2 hT2⟩
      have HF2 : Asd (Fr' lo tb w w2) := ⟨HF1.out.trans (HR1.out.frw hT2)⟩
      clear hI2 hT2
      go_wp2_with fail
      refine bodyPost_ret (results_none rfl _ _ _) rfl ?_
      exact ⟨rfl, HF2.out, by rw [HK.out]; exact ⟨[], A, c, B, d, by simpa using HR2.out⟩⟩
    · have hb1 : decide ((8 : Int) ≤ (vs.length : Int) - 11) = false := by simp; omega
      have hlt : vs.length < 19 := by omega
      have HKL : Asd (ckS vs labs i (.let_ s e) = match ckE vs (i + 1) 0 e with | some f => .error f | none => .ok (vs ++ [⟨s, kindE vs e, 0⟩])) := ⟨by rw [ckS, HF.out]; cases hq : ckE vs (i + 1) 0 e <;> simp [h19]⟩
      clear h19
      go_wp2_with fail
      refine (rex_any lo tb g tn tc _ l e w1 _ (i + 1) 0 vs labs none A c B d (by omega) HR1.out HV.out HA1.out HOK.out (by simp)).mono ?_
      rintro e2 w2 ⟨rfl, hT2, hR2⟩
      have HR2 : Asd (RAt lo tb (some ⟨b, off, none⟩) tn tc l w2 g vs labs (ckE vs (i + 1) 0 e) A c B d) := ⟨by simpa using hR2⟩
      have HF2 : Asd (Fr' lo tb w w2) := ⟨HF1.out.trans (HR1.out.frw hT2)⟩
      have x2b := hT2.cell_some x2 hxg
      clear hT2 hR2 x2 c1
      go_wp2_with fail
      refine (rkindOf_at lo tb _ tn tc l _ g vs labs _ A c B d HR2.out HV.out e _ (i + 1) (by omega) HA1.out.head).mono ?_
      rintro e3 w3 ⟨rfl, hB3⟩
      have HR3 : Asd (RAt lo tb (some ⟨b, off, none⟩) tn tc l w3 g vs labs (ckE vs (i + 1) 0 e) A c B d) := ⟨HR2.out.below hB3⟩
      have HF3 : Asd (Fr' lo tb w w3) := ⟨HF2.out.trans (HR2.out.frb hB3)⟩
      have x2c := (hB3.cell (p := ⟨w.heap.size, 2, none⟩) (World.block_lt_of_cell? w2 _ x2b)).trans x2b
      clear hB3 x2b
      have c1 : w3.cell? ⟨g, 1, none⟩ = some (.slice A vs.length c) := cell_of HR3.out.is 1
      have hgw3 : g < w3.heap.size := HR3.out.lt
      have hxw3 : w.heap.size < w3.heap.size := World.block_lt_of_cell? _ _ x2c
      have HLG : Asd (∀ k, (Value.slice A vs.length c).ownBlock = some k → k ≠ g) := ⟨fun k hk he => HR3.out.vg (he ▸ hk)⟩
      have HLO := Asd.mk HR3.out.lole
      go_wp2_with fail
      refine wp_region_heldB (n := 11) (fun w' => w'.cell? ⟨g, 1, none⟩ = some (.slice A vs.length c) ∧ w'.cell? ⟨w.heap.size, 2, none⟩ = some (.string s)) (by kernel_rfl) (by kernel_rfl) ?_ ⟨c1, x2c⟩ ?_
      · intro _ _ d _ _ h; cases d <;> exact h
      repeat (apply wpHeld_light rfl rfl rfl
              · (rintro w' ⟨s1, s2⟩; go_simp; first | done | rfl)
              simp only [Act.put, List.setIfInBounds_toArray, List.set_cons_zero, List.set_cons_succ])
      refine wpHeld_heavy rfl rfl rfl (fun K hK => ?_)
      go_simp
      refine hK _ _ ⟨?_, ?_⟩ ?_
      · exact (World.cell?_of_block (w := w3) (a := ⟨g, 1, none⟩) (Below.heap_alloc w3.drew _ g hgw3)).trans c1
      · exact (World.cell?_of_block (w := w3) (a := ⟨w.heap.size, 2, none⟩) (Below.heap_alloc w3.drew _ _ hxw3)).trans x2c
      clear hK K
      have HRD : Asd (RAt lo tb (some ⟨b, off, none⟩) tn tc l w3.drew g vs labs (ckE vs (i + 1) 0 e) A c B d) := ⟨HR3.out.drew⟩
      refine wpHeld_app rfl rfl (.tmp 46) (.tmp 51) 88 rfl lo 151 3 32 _ Tryd.underlying88 rvar_info rfl (by decide) (by decide) (.slice A vs.length c) vs.length _ rfl (HRD.out.vrow.alloc _) w3.drew.heap.size 1 1 (Var.cells ⟨s, kindE vs e, 0⟩) _ _ rfl (heap_alloc_new w3.drew _) rfl (by simp [Var.cells, Value.oneCell']) (by decide) (by omega) (by have := HLO.out; simp; omega) ?_
      intro q d' w4 ho hT hq hlt4
      obtain ⟨hC4, hX4⟩ := RAt.pushV HRD.out ⟨s, kindE vs e, 0⟩ ho hT (by simpa using hq)
      have c4 : w4.cell? ⟨g, 1, none⟩ = some (.slice A vs.length c) := hT.cell_some (a := ⟨g, 1, none⟩) ((World.cell?_of_block (w := w3) (a := ⟨g, 1, none⟩) (Below.heap_alloc w3.drew _ g hgw3)).trans c1) (fun hk => by have := HLG.out g hk; omega)
      have x4 : w4.cell? ⟨w.heap.size, 2, none⟩ = some (.string s) := hT.cell_some (a := ⟨w.heap.size, 2, none⟩) ((World.cell?_of_block (w := w3) (a := ⟨w.heap.size, 2, none⟩) (Below.heap_alloc w3.drew _ _ hxw3)).trans x2c) (fun hk => HXV.out _ hk rfl)
      have f4 : w4.frozen? ⟨g, 1, none⟩ = false :=
        (hT.frozen (a := ⟨g, 1, none⟩) (by simp; omega) (fun hk => by have := HLG.out g hk; omega)).trans ((World.frozen?_of_block (w := w3) (a := ⟨g, 1, none⟩) (Below.heap_alloc w3.drew _ g hgw3)).trans (frozen_of HR3.out.is 1))
      clear ho hT hq
      refine ⟨⟨c4, x4⟩, ?_⟩
      refine wpHeld_tail rfl ?_
      have HX4 := Asd.mk hX4; have HC4 := Asd.mk hC4
      clear hX4 hC4
      go_wp2_with fail
      refine bodyPost_end (results_none rfl _ _ _) rfl ?_
      refine ⟨rfl, (HF3.out.drewN 1).trans HX4.out, ?_⟩
      rw [HKL.out]
      have hfin := HC4.out
      cases hce : ckE vs (i + 1) 0 e with
      | none => rw [hce] at hfin; exact ⟨_, _, _, _, hfin⟩
      | some fd => rw [hce] at hfin; exact ⟨_, _, _, _, _, hfin⟩
  · have HS : Asd (seenI vs s = (j : Int)) := ⟨seenI_some hf⟩
    have HK : Asd (ckS vs labs i (.let_ s e) = .error (67, i)) := ⟨by rw [ckS, hf]; rfl⟩
    have hj0 : (0 : Int) ≤ (j : Int) := Int.natCast_nonneg _
    clear hf
    go_enter Tryd.func94, Tryd.ntmps94
    go_wp2_with fail
    go_quiet ((go_at_call 95; exact Calls.quiet_of_same (rfind_at _ _ _ vs s lo _ (j : Int) HS.out HRA.out.vrow rfl (by omega) HV.out.names)))
    have HR1 : Asd (RAt lo tb (some ⟨b, off, none⟩) tn tc l ((w.alloc (.cells #[.int .i64 4, .int .u64 0, .string s] 68)).drewN nq) g vs labs none A c B d) := ⟨HRA.out.drewN nq⟩
    have HF1 : Asd (Fr' lo tb w ((w.alloc (.cells #[.int .i64 4, .int .u64 0, .string s] 68)).drewN nq)) := ⟨HFA.out.drewN nq⟩
    clear HRA HFA
    generalize (w.alloc (.cells #[.int .i64 4, .int .u64 0, .string s] 68)).drewN nq = w1 at *
    go_wp2_with fail
    refine (rfault_any g _ tn tc A _ c B _ d 67 i w1 HR1.out.is).mono ?_
    rintro e2 w2 ⟨rfl, hI2, hT2⟩
    have HR2 : Asd (RAt lo tb (some ⟨b, off, none⟩) tn tc l w2 g vs labs (some (67, i)) A c B d) := ⟨HR1.out.write hI2 hT2⟩
    have HF2 : Asd (Fr' lo tb w w2) := ⟨HF1.out.trans (HR1.out.frw hT2)⟩
    clear hI2 hT2
    go_wp2_with fail
    refine bodyPost_ret (results_none rfl _ _ _) rfl ?_
    exact ⟨rfl, HF2.out, by rw [HK.out]; exact ⟨[], A, c, B, d, by simpa using HR2.out⟩⟩
end Go.Proofs.YtocbblafgjpbeaaDoor.Sp
