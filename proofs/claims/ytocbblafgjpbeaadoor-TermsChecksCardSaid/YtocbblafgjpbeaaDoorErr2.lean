/- Walks: 'is the error that refusal?', where it is. -/
import Derived.Test.YtocbblafgjpbeaaDoorErr
namespace Go.Proofs.YtocbblafgjpbeaaDoor.Sp
open Go.RowKit
set_option linter.unusedVariables false
set_option linter.unusedSimpArgs false

set_option maxRecDepth 100000 in
set_option maxHeartbeats 800000 in
theorem told_nil (w : World) :
    Calls Tryd.prog 62 #[.nilIface] w fun e w' => e = .returned (.tuple #[.agg #[.slice none 0 0, .int .i64 0], .bool true]) ∧ Below w.heap.size w w' := by
  go_enter Tryd.func62, Tryd.ntmps62
  go_wp2_with fail
  go_loopw [0, 5] (fun e i wr => e = .nilIface ∧ i = .int .i64 0 ∧ wr = (w.alloc (.cells #[.slice none 0 0, .int .i64 0] 97)).alloc (.cells #[.slice none 0 0, .int .i64 0] 97)) (fun _ i _ => 12 - (intOf i).toNat)
  case atStart => exact ⟨rfl, rfl, rfl⟩
  case round =>
    obtain ⟨rfl, rfl, rfl⟩ := hrel
    generalize hW : (w.alloc (.cells #[.slice none 0 0, .int .i64 0] 97)).alloc (.cells #[.slice none 0 0, .int .i64 0] 97) = W
    have c0 : W.cell? ⟨w.heap.size, 0, none⟩ = some (.slice none 0 0) := by subst hW; exact cell_of (heap_alloc2_old w _ _) 0
    have c1 : W.cell? ⟨w.heap.size, 1, none⟩ = some (.int .i64 0) := by subst hW; exact cell_of (heap_alloc2_old w _ _) 1
    have f0 : W.frozen? ⟨w.heap.size, 0, none⟩ = false := by subst hW; exact frozen_of (heap_alloc2_old w _ _) 0
    have f1 : W.frozen? ⟨w.heap.size, 1, none⟩ = false := by subst hW; exact frozen_of (heap_alloc2_old w _ _) 1
    have d0 : W.cell? ⟨w.heap.size + 1, 0, none⟩ = some (.slice none 0 0) := by subst hW; exact cell_of (heap_alloc2_new w _ _) 0
    have d1 : W.cell? ⟨w.heap.size + 1, 1, none⟩ = some (.int .i64 0) := by subst hW; exact cell_of (heap_alloc2_new w _ _) 1
    have HH : Asd (W.heap[w.heap.size]? = some (.cells #[.slice none 0 0, .int .i64 0] 97 (0, 0))) := ⟨by subst hW; exact heap_alloc2_old w _ _⟩
    have HB : Asd (Below w.heap.size w W) := ⟨by subst hW; exact ((Below.refl _ _).alloc (Nat.le_refl _) _).alloc (by simp) _⟩
    clear hW
    go_wp2_with fail
    refine wp_region_heldB (n := 7) (fun w' => w'.cell? ⟨w.heap.size + 1, 0, none⟩ = some (.slice none 0 0) ∧ w'.cell? ⟨w.heap.size + 1, 1, none⟩ = some (.int .i64 0)) (by kernel_rfl) (by kernel_rfl) ?_ ⟨d0, d1⟩ ?_
    · intro _ _ d _ _ h; cases d <;> exact h
    repeat (apply wpHeld_light rfl rfl rfl
            · (rintro w' ⟨s1, s2⟩; go_simp; first | done | rfl)
            simp only [Act.put, List.setIfInBounds_toArray, List.set_cons_zero, List.set_cons_succ])
    refine wpHeld_heavy rfl rfl rfl (fun K hK => ?_)
    go_simp
    refine hK _ _ ⟨?_, ?_⟩ ?_
    · go_simp
    · go_simp
    clear hK K
    repeat (apply wpHeld_light rfl rfl rfl
            · (rintro w' ⟨s1, s2⟩; go_simp; first | done | rfl)
            simp only [Act.put, List.setIfInBounds_toArray, List.set_cons_zero, List.set_cons_succ])
    refine wpHeld_tail rfl ?_
    have HZ := heap_set (heap_set HH.out 0 (.slice none 0 0)) 1 (.int .i64 0)
    have z0 := cell_of (w := ((W.setCell ⟨w.heap.size, 0, none⟩ (.slice none 0 0)).setCell ⟨w.heap.size, 1, none⟩ (.int .i64 0)).drew) HZ 0
    have z1 := cell_of (w := ((W.setCell ⟨w.heap.size, 0, none⟩ (.slice none 0 0)).setCell ⟨w.heap.size, 1, none⟩ (.int .i64 0)).drew) HZ 1
    have HR : Asd (Below w.heap.size w ((W.setCell ⟨w.heap.size, 0, none⟩ (.slice none 0 0)).setCell ⟨w.heap.size, 1, none⟩ (.int .i64 0)).drew) := ⟨((HB.out.setCell (by simp) _).setCell (by simp) _).drew⟩
    go_wp2_with fail
    exact bodyPost_ret (v := .tuple #[.agg #[.slice none 0 0, .int .i64 0], .bool true]) (by simp [results, Tryd.results62, go_sem, z0, z1]) rfl ⟨rfl, HR.out⟩

set_option maxHeartbeats 800000 in
theorem is_true (links : List Link) (code : Int) (v : Value) (A : Option Addr) (c : Nat) (w : World) (hl : links.length ≤ 11) (h0 : 1 ≤ links.length) (hc : code ≠ 0) (hv : ErrAt w.heap.size w links code v) (hA : LinksAt w A links) :
    Calls Tryd.prog 41 #[v, .agg #[.slice A links.length c, .int .i64 code]] w fun e w' => e = .returned (.bool true) ∧ Below w.heap.size w w' := by
  have HV := Asd.mk hv; have HA := Asd.mk hA; have HC := Asd.mk hc; have HL := Asd.mk hl; have HL0 := Asd.mk h0
  clear hv hA hc hl h0
  have HB0 : Asd (Below w.heap.size w (w.alloc (.cells #[.slice A links.length c, .int .i64 code] 97))) := ⟨(Below.refl _ _).alloc (Nat.le_refl _) _⟩
  go_enter Tryd.func41, Tryd.ntmps41
  go_wp2_with fail
  refine (told_any links code v _ HL.out HL0.out HC.out ((HV.out.below HB0.out).mono (by simp))).mono ?_
  rintro e w1 ⟨A1, c1, rfl, hl1, hb1⟩
  have c0 : w1.cell? ⟨w.heap.size, 0, none⟩ = some (.slice A links.length c) := (hb1.cell (p := ⟨w.heap.size, 0, none⟩) (by simp)).trans (cell_of (heap_alloc_new w _) 0)
  have k0 : w1.cell? ⟨w.heap.size, 1, none⟩ = some (.int .i64 code) := (hb1.cell (p := ⟨w.heap.size, 1, none⟩) (by simp)).trans (cell_of (heap_alloc_new w _) 1)
  have HB1 : Asd (Below w.heap.size w w1) := ⟨HB0.out.trans (hb1.mono (by simp))⟩
  have HL1 := Asd.mk hl1; clear hl1 hb1
  have hz : w.heap.size < w1.heap.size := World.block_lt_of_cell? _ _ c0
  go_wp2_with fail
  refine (same_fault A A1 c c1 _ code links _ rfl (by have := HL.out; omega) ?_ ?_).mono ?_
  · exact (HA.out.below HB1.out).below ((Below.refl _ _).alloc (Nat.le_refl _) _)
  · exact HL1.out.below ((Below.refl _ _).alloc (Nat.le_refl _) _)
  rintro e w2 ⟨rfl, hb2⟩
  have HB2 : Asd (Below w.heap.size w w2) := ⟨(HB1.out.alloc HB1.out.size _).trans (hb2.mono (by have := HB1.out.size; simp; omega))⟩
  clear hb2
  go_wp2_with fail
  go_ret
  exact ⟨rfl, HB2.out⟩
set_option maxHeartbeats 800000 in
theorem is_nil (A : Option Addr) (c : Nat) (w : World) :
    Calls Tryd.prog 41 #[.nilIface, .agg #[.slice A 0 c, .int .i64 0]] w fun e w' => e = .returned (.bool true) ∧ Below w.heap.size w w' := by
  have HB0 : Asd (Below w.heap.size w (w.alloc (.cells #[.slice A 0 c, .int .i64 0] 97))) := ⟨(Below.refl _ _).alloc (Nat.le_refl _) _⟩
  go_enter Tryd.func41, Tryd.ntmps41
  go_wp2_with fail
  refine (told_nil _).mono ?_
  rintro e w1 ⟨rfl, hb1⟩
  have c0 : w1.cell? ⟨w.heap.size, 0, none⟩ = some (.slice A 0 c) := (hb1.cell (p := ⟨w.heap.size, 0, none⟩) (by simp)).trans (cell_of (heap_alloc_new w _) 0)
  have k0 : w1.cell? ⟨w.heap.size, 1, none⟩ = some (.int .i64 0) := (hb1.cell (p := ⟨w.heap.size, 1, none⟩) (by simp)).trans (cell_of (heap_alloc_new w _) 1)
  have HB1 : Asd (Below w.heap.size w w1) := ⟨HB0.out.trans (hb1.mono (by simp))⟩
  clear hb1
  have hz : w.heap.size < w1.heap.size := World.block_lt_of_cell? _ _ c0
  go_wp2_with fail
  refine (same_fault A none c 0 0 0 [] _ rfl (by omega) (by intro j x hj; simp at hj) (by intro j x hj; simp at hj)).mono ?_
  rintro e w2 ⟨rfl, hb2⟩
  have HB2 : Asd (Below w.heap.size w w2) := ⟨(HB1.out.alloc HB1.out.size _).trans (hb2.mono (by have := HB1.out.size; simp; omega))⟩
  clear hb2
  go_wp2_with fail
  go_ret
  exact ⟨rfl, HB2.out⟩

/-! ### refused: this layer's -/
def termsStr : Str := ⟨#[116, 101, 114, 109, 115]⟩
theorem refused_yes (v : Value) (code at_ : Int) (w : World) (hc : code ≠ 0) (hv : ErrAt w.heap.size w [(termsStr, at_)] code v) :
    Calls Tryd.prog 15 #[v, .int .i64 code, .int .i64 at_] w fun e w' => e = .returned (.bool true) ∧ Below w.heap.size w w' := by
  have HV := Asd.mk hv; have HC := Asd.mk hc
  have hc0 : (code == 0) = false := by simpa using hc
  clear hv hc
  go_enter Tryd.func15, Tryd.ntmps15
  go_wp2_with fail
  refine (new_any termsStr at_ code _).mono ?_
  rintro e w1 ⟨A1, c1, rfl, hl1, hb1⟩
  have HL1 := Asd.mk hl1; have HB1 := Asd.mk hb1; clear hl1 hb1
  go_wp2_with fail
  refine (is_true [(termsStr, at_)] code v A1 c1 _ (by simp) (by simp) HC.out ((HV.out.below HB1.out).mono HB1.out.size) HL1.out).mono ?_
  rintro e w2 ⟨rfl, hb2⟩
  have HB2 := Asd.mk hb2; clear hb2
  go_wp2_with fail
  go_ret
  exact ⟨rfl, HB1.out.trans (HB2.out.mono HB1.out.size)⟩
theorem refused_no (at_ : Int) (w : World) :
    Calls Tryd.prog 15 #[.nilIface, .int .i64 0, .int .i64 at_] w fun e w' => e = .returned (.bool true) ∧ w' = w := by
  go_enter Tryd.func15, Tryd.ntmps15
  go_wp2_with fail
  go_ret
  exact ⟨rfl, rfl⟩
end Go.Proofs.YtocbblafgjpbeaaDoor.Sp
