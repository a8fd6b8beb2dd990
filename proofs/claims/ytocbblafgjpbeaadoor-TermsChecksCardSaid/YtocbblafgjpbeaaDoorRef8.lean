/- Walks: the reference's checker: loops. -/
import Derived.Test.YtocbblafgjpbeaaDoorRef7
namespace Go.Proofs.YtocbblafgjpbeaaDoor.Sp
open Go.RowKit
set_option linter.unusedVariables false
set_option linter.unusedSimpArgs false

def Drew (w w' : World) : Prop := ∃ n, w' = w.drewN n
theorem blk_end (A : Option Addr) (n c : Nat) (l : List TN) (w : World) (z : Int) (i : Nat) (b : Blk) (hz : z = (i : Int)) (hl : l.length = n) (hn : n ≤ 4611686018427387904) (hA : TNsAt w A l) (hat : AtL l i (.cons b.tn b.kids .nil)) (hok : b.Ok) (hi : i ≤ n) :
    Calls Tryd.prog 31 #[.slice A n c, .int .i64 z] w fun en w' => en = .returned (.int .i64 ((i + b.size : Nat) : Int)) ∧ Below w.heap.size w w' := by
  subst hz
  have := rend_any A n c l w i (.cons b.tn b.kids .nil) hl hn hA hat (b.kc hok) rfl hi
  have hs : (Fo.cons b.tn b.kids .nil).size = b.size := by have := b.sizeK; simp [Fo.size]; omega
  rwa [hs] at this
theorem rhas_at (B : Option Addr) (m d : Nat) (labs : List Str) (s : Str) (lo : Nat) (w : World) (r : Bool) (hr : hasL labs s = r)
    (hv : w.ownsRow lo 9 1 (.slice B m d) m (labCells labs)) (hn : labs.length = m) (hm : m ≤ 4611686018427387904) :
    Calls Tryd.prog 98 #[.slice B m d, .string s] w fun e w' => e = .returned (.bool r) ∧ w' = w := by
  have := rhas_any B m d labs s lo w hv hn hm
  rwa [hr] at this
set_option maxRecDepth 100000 in
set_option maxHeartbeats 3200000 in
theorem rloop_any (lo tb g tn tc : Nat) (T : Option Addr) (l : List TN) (s : Str) (e : Ex) (b : Blk) (IHB : RBlkC lo tb g tn tc T l b) : RStC lo tb g tn tc T l 97 (.while s e b) := by
  intro w z i vs labs A c B d hz hR hV hlab hat hok
  subst hz
  have HIH := Asd.mk IHB; clear IHB
  have c0 : w.cell? ⟨g, 0, none⟩ = some (.slice T tn tc) := cell_of hR.is 0
  have c2 : w.cell? ⟨g, 2, none⟩ = some (.slice B labs.length d) := cell_of hR.is 2
  obtain ⟨bb, off, hTe, hb, a1, a2, a3⟩ := hR.nodes i _ hat.head
  simp only [St.tn] at a1 a2 a3
  have hgl := hR.lt
  have hi0 : (0 : Int) ≤ (i : Int) := Int.natCast_nonneg _
  have hil := hat.lt
  have hln := hR.len
  have hbg := hR.big
  have hsz := hat.le (by omega)
  have hi1 : (i : Int) < (tn : Int) := by omega
  have hbl := World.block_lt_of_cell? w _ a1
  have hsm := hV.small
  rw [St.kids] at hat
  rw [St.Ok] at hok
  rw [show (Fo.cons (St.tn (.while s e b)) (St.kids (.while s e b)) .nil).size = 1 + e.size + b.size by
    have := St.sizeK (.while s e b); rw [St.size] at this; simp only [Fo.size]; omega] at hsz
  have HA1 : Asd (AtL l (i + 1) (exF e)) := ⟨hat.kids.one⟩
  have HA2 : Asd (AtL l (i + 1 + e.size) (.cons b.tn b.kids .nil)) := ⟨by have := hat.kids.rest; have h := e.sizeK; rwa [show i + 1 + 1 + e.kids.size = i + 1 + e.size by omega] at this⟩
  have HR := Asd.mk hR; have HV := Asd.mk hV; have HOE := Asd.mk hok.2.1; have HOB := Asd.mk hok.2.2
  have HLN := Asd.mk hln
  clear hR hV hat hok hln
  subst hTe
  have HRA : Asd (RAt lo tb (some ⟨bb, off, none⟩) tn tc l (w.alloc (.cells #[.int .i64 7, .int .u64 0, .string s] 68)) g vs labs none A c B d) := ⟨HR.out.below ((Below.refl _ _).alloc (Nat.le_refl _) _)⟩
  have HFA : Asd (Fr' lo tb w (w.alloc (.cells #[.int .i64 7, .int .u64 0, .string s] 68))) := ⟨HR.out.frb ((Below.refl _ _).alloc (Nat.le_refl _) _)⟩
  have x2 : (w.alloc (.cells #[.int .i64 7, .int .u64 0, .string s] 68)).cell? ⟨w.heap.size, 2, none⟩ = some (.string s) := cell_of (heap_alloc_new w _) 2
  have hxg : ¬ w.heap.size = g := by omega
  have hxv : ∀ k, (Value.slice B labs.length d).ownBlock = some k → k ≠ w.heap.size := fun k hk => by have := (HR.out.lrow.lt k hk).2; omega
  have HXV := Asd.mk hxv
  clear hxv
  have hem : (s.toList.isEmpty = true ∧ s.toList = []) ∨ (s.toList.isEmpty = false ∧ ¬ s.toList = []) := empty_facts s
  have hse := sEq_emp s
  cases hbad : (!sEq s empty && hasL labs s) with
  | true =>
    have HK : Asd (ckS vs labs i (.while s e b) = .error (69, i)) := ⟨by rw [ckS, if_pos hbad]⟩
    rw [hse] at hbad
    rcases hem with ⟨h1, h2⟩ | ⟨h1, h2⟩
    · rw [h1] at hbad; simp at hbad
    · rw [h1] at hbad
      have HH : Asd (hasL labs s = true) := ⟨by simpa using hbad⟩
      clear hbad hse
      go_enter Tryd.func97, Tryd.ntmps97
      go_wp2_with fail
      go_quiet ((go_at_call 98; exact Calls.quiet_of_same (rhas_at _ _ _ labs s lo _ true HH.out HRA.out.lrow rfl (by omega))))
      have HR1 : Asd (RAt lo tb (some ⟨bb, off, none⟩) tn tc l ((w.alloc (.cells #[.int .i64 7, .int .u64 0, .string s] 68)).drewN nq) g vs labs none A c B d) := ⟨HRA.out.drewN nq⟩
      have HF1 : Asd (Fr' lo tb w ((w.alloc (.cells #[.int .i64 7, .int .u64 0, .string s] 68)).drewN nq)) := ⟨HFA.out.drewN nq⟩
      clear HRA HFA x2
      generalize (w.alloc (.cells #[.int .i64 7, .int .u64 0, .string s] 68)).drewN nq = w1 at *
      go_wp2_with fail
      refine (rfault_any g _ tn tc A _ c B _ d 69 i w1 HR1.out.is).mono ?_
      rintro e2 w2 ⟨rfl, hI2, hT2⟩
      have HR2 : Asd (RAt lo tb (some ⟨bb, off, none⟩) tn tc l w2 g vs labs (some (69, i)) A c B d) := ⟨HR1.out.write hI2 hT2⟩
      have HF2 : Asd (Fr' lo tb w w2) := ⟨HF1.out.trans (HR1.out.frw hT2)⟩
      clear hI2 hT2
      go_wp2_with fail
      refine bodyPost_ret (results_none rfl _ _ _) rfl ?_
      exact ⟨rfl, HF2.out, by rw [HK.out]; exact ⟨[], A, c, B, d, by simpa using HR2.out⟩⟩
  | false =>
    have HNO := Asd.mk hbad
    rw [hse] at hbad
    have HEM := Asd.mk hem; have HBAD := Asd.mk hbad
    clear hem hbad hse
    go_enter Tryd.func97, Tryd.ntmps97
    go_upto_region 1 with fail
    go_cut [23] (fun v wx => v = .bool false ∧ Drew (w.alloc (.cells #[.int .i64 7, .int .u64 0, .string s] 68)) wx)
    case first =>
      rcases HEM.out with ⟨h1, h2⟩ | ⟨h1, h2⟩
      · go_wp2_with fail
        go_quiet (fail)
        go_wp2_with fail
        go_meet
        exact ⟨rfl, _, rfl⟩
      · have HH : Asd (hasL labs s = false) := ⟨by have := HBAD.out; rw [h1] at this; simpa using this⟩
        go_wp2_with fail
        go_quiet ((go_at_call 98; exact Calls.quiet_of_same (rhas_at _ _ _ labs s lo _ false HH.out HRA.out.lrow rfl (by omega))))
        go_wp2_with fail
        go_meet
        exact ⟨rfl, _, rfl⟩
    case rest =>
      obtain ⟨rfl, nq, hww⟩ := hcut
      have HR1 : Asd (RAt lo tb (some ⟨bb, off, none⟩) tn tc l ((w.alloc (.cells #[.int .i64 7, .int .u64 0, .string s] 68)).drewN nq) g vs labs none A c B d) := ⟨HRA.out.drewN nq⟩
      have HF1 : Asd (Fr' lo tb w ((w.alloc (.cells #[.int .i64 7, .int .u64 0, .string s] 68)).drewN nq)) := ⟨HFA.out.drewN nq⟩
      have x2 : ((w.alloc (.cells #[.int .i64 7, .int .u64 0, .string s] 68)).drewN nq).cell? ⟨w.heap.size, 2, none⟩ = some (.string s) := x2
      rw [← hww] at HR1 HF1 x2
      clear hww HRA HFA c0 c2 a1 a2 a3 HEM HBAD
      have hgl1 := HR1.out.lt
      go_wp2_with fail
      refine (rex_any lo tb g tn tc _ l e wc _ (i + 1) 2 vs labs none A c B d (by omega) HR1.out HV.out HA1.out HOE.out (by simp)).mono ?_
      rintro e2 w2 ⟨rfl, hT2, hR2⟩
      have HR2 : Asd (RAt lo tb (some ⟨bb, off, none⟩) tn tc l w2 g vs labs (ckE vs (i + 1) 2 e) A c B d) := ⟨by simpa using hR2⟩
      have HF2 : Asd (Fr' lo tb w w2) := ⟨HF1.out.trans (HR1.out.frw hT2)⟩
      have x2b := hT2.cell_some x2 hxg
      clear hT2 hR2 x2
      cases hce : ckE vs (i + 1) 2 e with
      | some fd =>
        have HK : Asd (ckS vs labs i (.while s e b) = .error fd) := ⟨by rw [ckS, HNO.out, hce]; rfl⟩
        have HR3 : Asd (RAt lo tb (some ⟨bb, off, none⟩) tn tc l w2 g vs labs (some fd) A c B d) := ⟨by rw [← hce]; exact HR2.out⟩
        have hfd : fd.1 ≠ 0 := by have := ckE_code e hce; omega
        have hb1 : (fd.1 != 0) = true := by simpa using hfd
        have c3 : w2.cell? ⟨g, 3, none⟩ = some (.int .i64 fd.1) := cell_of HR3.out.is 3
        clear hce HR2 hfd
        go_wp2_with fail
        refine bodyPost_ret (results_none rfl _ _ _) rfl ?_
        exact ⟨rfl, HF2.out, by rw [HK.out]; exact ⟨[], A, c, B, d, by simpa using HR3.out⟩⟩
      | none =>
        have HK : Asd (ckS vs labs i (.while s e b) = match ckL vs (labs ++ [s]) (i + 1 + e.size + 1) b with | some f => .error f | none => .ok vs) := ⟨by
          rw [ckS, HNO.out, hce]; cases hq : ckL vs (labs ++ [s]) (i + 1 + e.size + 1) b <;> simp⟩
        have HR3 : Asd (RAt lo tb (some ⟨bb, off, none⟩) tn tc l w2 g vs labs none A c B d) := ⟨by rw [← hce]; exact HR2.out⟩
        clear hce HR2
        have c3 : w2.cell? ⟨g, 3, none⟩ = some (.int .i64 0) := cell_of HR3.out.is 3
        have c2 : w2.cell? ⟨g, 2, none⟩ = some (.slice B labs.length d) := cell_of HR3.out.is 2
        have hgw3 : g < w2.heap.size := HR3.out.lt
        have hxw3 : w.heap.size < w2.heap.size := World.block_lt_of_cell? _ _ x2b
        have HLG : Asd (∀ k, (Value.slice B labs.length d).ownBlock = some k → k ≠ g) := ⟨fun k hk he => HR3.out.lg (he ▸ hk)⟩
        have HLO := Asd.mk HR3.out.lole
        have HRD : Asd (RAt lo tb (some ⟨bb, off, none⟩) tn tc l w2.drew g vs labs none A c B d) := ⟨HR3.out.drew⟩
        go_wp2_with fail
        refine wp_region_heldB (n := 9) (fun w' => w'.cell? ⟨g, 2, none⟩ = some (.slice B labs.length d) ∧ w'.cell? ⟨w.heap.size, 2, none⟩ = some (.string s)) (by kernel_rfl) (by kernel_rfl) ?_ ⟨c2, x2b⟩ ?_
        · intro _ _ d _ _ h; cases d <;> exact h
        repeat (apply wpHeld_light rfl rfl rfl
                · (rintro w' ⟨s1, s2⟩; go_simp; first | done | rfl)
                simp only [Act.put, List.setIfInBounds_toArray, List.set_cons_zero, List.set_cons_succ])
        refine wpHeld_heavy rfl rfl rfl (fun K hK => ?_)
        go_simp
        refine hK _ _ ⟨?_, ?_⟩ ?_
        · exact (World.cell?_of_block (w := w2) (a := ⟨g, 2, none⟩) (Below.heap_alloc w2.drew _ g hgw3)).trans c2
        · exact (World.cell?_of_block (w := w2) (a := ⟨w.heap.size, 2, none⟩) (Below.heap_alloc w2.drew _ _ hxw3)).trans x2b
        clear hK K
        refine wpHeld_app rfl rfl (.tmp 40) (.tmp 43) 56 rfl lo 9 1 16 _ Tryd.underlying56 str_info rfl (by decide) (by decide) (.slice B labs.length d) labs.length _ rfl (HRD.out.lrow.alloc _) w2.drew.heap.size 1 1 [.string s] _ _ rfl (heap_alloc_new w2.drew _) rfl (by simp [Value.oneCell']) (by decide) (by omega) (by have := HLO.out; simp; omega) ?_
        intro q d' w4 ho hT hq hlt4
        obtain ⟨hC4, hX4⟩ := RAt.pushL HRD.out s ho hT (by simpa using hq)
        have c4 : w4.cell? ⟨g, 2, none⟩ = some (.slice B labs.length d) := hT.cell_some (a := ⟨g, 2, none⟩) ((World.cell?_of_block (w := w2) (a := ⟨g, 2, none⟩) (Below.heap_alloc w2.drew _ g hgw3)).trans c2) (fun hk => by have := HLG.out g hk; omega)
        have x4 : w4.cell? ⟨w.heap.size, 2, none⟩ = some (.string s) := hT.cell_some (a := ⟨w.heap.size, 2, none⟩) ((World.cell?_of_block (w := w2) (a := ⟨w.heap.size, 2, none⟩) (Below.heap_alloc w2.drew _ _ hxw3)).trans x2b) (fun hk => HXV.out _ hk rfl)
        have f4 : w4.frozen? ⟨g, 2, none⟩ = false :=
          (hT.frozen (a := ⟨g, 2, none⟩) (by simp; omega) (fun hk => by have := HLG.out g hk; omega)).trans ((World.frozen?_of_block (w := w2) (a := ⟨g, 2, none⟩) (Below.heap_alloc w2.drew _ g hgw3)).trans (frozen_of HR3.out.is 2))
        clear ho hT hq
        refine ⟨⟨c4, x4⟩, ?_⟩
        refine wpHeld_tail rfl ?_
        have hw5 : ∃ w5, w4.setCell ⟨g, 2, none⟩ (.slice (some ⟨q, 0, none⟩) (labs.length + 1) d') = w5 := ⟨_, rfl⟩
        obtain ⟨w5, hw5⟩ := hw5
        rw [hw5] at hX4 hC4
        have HR5 := Asd.mk hC4
        have HF5 : Asd (Fr' lo tb w w5) := ⟨(HF2.out.drewN 1).trans hX4⟩
        have c05 : w5.cell? ⟨g, 0, none⟩ = some (.slice (some ⟨bb, off, none⟩) tn tc) := cell_of hC4.is 0
        have hg5 : g < w5.heap.size := hC4.lt
        clear hX4 hC4
        go_wp2_with fail
        clear c4 x4 f4 hw5 c3 c2 x2b
        have hln5 : i + 1 + e.size ≤ tn := by have := HLN.out; omega
        refine (rend_ex _ tn tc l w5 _ (i + 1) e (by omega) HLN.out (by omega) HR5.out.nodes.at HA1.out HOE.out (by omega)).mono ?_
        rintro e6 w6 ⟨rfl, hB6⟩
        have HR6 : Asd (RAt lo tb (some ⟨bb, off, none⟩) tn tc l w6 g vs (labs ++ [s]) none A c (some ⟨q, 0, none⟩) d') := ⟨HR5.out.below hB6⟩
        have HF6 : Asd (Fr' lo tb w w6) := ⟨HF5.out.trans (HR5.out.frb hB6)⟩
        clear hB6 c05
        go_wp2_with fail
        refine (HIH.out w6 _ (i + 1 + e.size) vs (labs ++ [s]) _ _ _ _ (by omega) HR6.out HV.out (by simp; omega) HA2.out HOB.out).mono ?_
        rintro e7 w7 ⟨rfl, hF7, A7, c7, B7, d7, hR7⟩
        have HR7 := Asd.mk hR7
        have HF7 : Asd (Fr' lo tb w w7) := ⟨HF6.out.trans hF7⟩
        clear hR7 hF7
        generalize ckL vs (labs ++ [s]) (i + 1 + e.size + 1) b = fb at *
        have c7c : w7.cell? ⟨g, 2, none⟩ = some (.slice B7 (labs.length + 1) d7) := by
          have := cell_of HR7.out.is 2
          rw [show (labs ++ [s]).length = labs.length + 1 by simp] at this
          exact this
        have f7c : w7.frozen? ⟨g, 2, none⟩ = false := frozen_of HR7.out.is 2
        have hg7 : g < w7.heap.size := HR7.out.lt
        have HP : Asd (RAt lo tb (some ⟨bb, off, none⟩) tn tc l (w7.drew.setCell ⟨g, 2, none⟩ (.slice B7 labs.length d7)) g vs labs fb A7 c7 B7 d7) := ⟨RAt.popL (x := s) (w := w7.drew) HR7.out.drew⟩
        have HBF : Asd (Fr' lo tb w (w7.drew.setCell ⟨g, 2, none⟩ (.slice B7 labs.length d7))) := ⟨(HF7.out.drewN 1).setCell HR7.out.glo HR7.out.tok.2 _⟩
        obtain ⟨A'', c'', he, hcap, _⟩ := owns_shape HR7.out.lrow
        injection he with he1 _ he
        subst he1; subst he
        have hcap2 : labs.length ≤ d7 := by simp at hcap; omega
        have hcap3 : (labs.length : Int) ≤ (d7 : Int) := by omega
        have hwr : IntKind.i64.wrap (((labs.length + 1 : Nat) : Int) - 1) = (labs.length : Int) := by
          rw [show ((labs.length + 1 : Nat) : Int) - 1 = (labs.length : Int) by omega]; exact IntWalk.i64_in _ (by omega)
        clear hcap
        go_wp2_with fail
        refine wp_region_heldB (n := 12) (fun w' => w'.cell? ⟨g, 2, none⟩ = some (.slice B7 (labs.length + 1) d7)) (by kernel_rfl) (by kernel_rfl) ?_ c7c ?_
        · intro _ _ d _ _ h; cases d <;> exact h
        repeat (apply wpHeld_light rfl rfl rfl
                · (rintro w' s1; go_simp; first | done | rfl)
                simp only [Act.put, List.setIfInBounds_toArray, List.set_cons_zero, List.set_cons_succ])
        refine wpHeld_light (v := .slice B7 labs.length d7) rfl rfl rfl ?_ ?_
        · intro w' s1
          go_simp
          rw [show IntKind.i64.wrap (labs.length : Int) = labs.length from IntWalk.i64_in _ (by omega), if_pos ⟨Int.natCast_nonneg _, hcap3⟩]
          rfl
        simp only [Act.put, List.setIfInBounds_toArray, List.set_cons_zero, List.set_cons_succ]
        refine wpHeld_tail rfl ?_
        go_wp2_with fail
        refine bodyPost_end (results_none rfl _ _ _) rfl ?_
        refine ⟨rfl, HBF.out, ?_⟩
        rw [HK.out]
        have hfin := HP.out
        cases fb with
        | none => exact ⟨_, _, _, _, hfin⟩
        | some fd => exact ⟨[], _, _, _, _, by rw [List.append_nil]; exact hfin⟩
end Go.Proofs.YtocbblafgjpbeaaDoor.Sp
