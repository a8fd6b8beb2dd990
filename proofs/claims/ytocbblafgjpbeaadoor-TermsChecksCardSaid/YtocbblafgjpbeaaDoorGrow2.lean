/- Walks: the program makes a tree out of a list of nodes: the whole. -/
import Derived.Test.YtocbblafgjpbeaaDoorGrow
namespace Go.Proofs.YtocbblafgjpbeaaDoor.Sp
open Go.RowKit
set_option linter.unusedVariables false
set_option linter.unusedSimpArgs false

theorem tree_any (gb : Nat) (A : Option Addr) (n c : Nat) (l : List TN) (hl : l.length = n) (hn : n ≤ 4611686018427387904) (hok : TNsOk l) (hglob : 4 < gb ∧ 5 < gb)
    (hAb : ∀ b off, l ≠ [] → A = some ⟨b, off, none⟩ → b ≠ gb) : ∀ (dd i : Nat) (at_ depth : Int) (w : World), depth + dd = 25 → 1 ≤ depth → i ≤ n → BuiAt w gb A n c i → TNsAt w A l → GShapes w → GKw w → 0 ≤ at_ →
    Calls Tryd.prog 59 #[.pointer (some ⟨gb, 0, none⟩), .int .i64 at_, .int .i64 depth] w (TreePost w gb A n c l i at_ depth) := by
  intro dd
  induction dd with
  | zero =>
    intro i at_ depth w hd h1 hi hb hA hG hK ha
    exact tree_out gb A n c l i at_ depth w hl hn hi hb ⟨h1, by omega⟩ (.inr (.inr (by omega)))
  | succ dd ih =>
    intro i at_ depth w hd h1 hi hb hA hG hK ha
    by_cases h : n ≤ i ∨ 256 ≤ i
    · exact tree_out gb A n c l i at_ depth w hl hn hi hb ⟨h1, by omega⟩ (by rcases h with h | h <;> simp [h])
    · have hlt : i < l.length := by omega
      refine tree_in gb A n c l i l[i] at_ depth w hl hn hb hA hok ⟨h1, by omega⟩ ha (List.getElem?_eq_getElem hlt) (by omega) hG hK hglob ?_ ?_
      · intro b off e
        exact hAb b off (by rintro rfl; simp at hlt) e
      · intro w' i' at' hb' hi' hA' hG' hK' ha'
        exact ih i' at' (depth + 1) w' (by omega) (by omega) hi' hb' hA' hG' hK' ha'

set_option maxHeartbeats 800000 in
theorem grow_any (A : Option Addr) (n c : Nat) (l : List TN) (w : World) (hl : l.length = n) (hn : n ≤ 4611686018427387904) (hA : TNsAt w A l) (hok : TNsOk l) (hG : GShapes w) (hK : GKw w) :
    Calls Tryd.prog 32 #[.slice A n c] w fun e w' => Below w.heap.size w w' ∧
      ((∃ i : Nat, e = .returned (.tuple #[.pointer none, .int .i64 i]) ∧ wrong l = some i) ∨
       (∃ p x ks, e = .returned (.tuple #[.pointer (some ⟨p, 0, none⟩), .int .i64 (-1)]) ∧ wrong l = none ∧ FoAt (fun b => w.heap.size ≤ b ∧ b < w'.heap.size) w' (.cons x ks .nil) [p] ∧ l = x :: ks.flat ∧
          okNode 0 x = true ∧ (ks.len : Int) = kidCount x ∧ VF x 0 ks)) := by
  have HL := Asd.mk hl; have HA := Asd.mk hA; have HOK := Asd.mk hok; have HG := Asd.mk hG; have HK := Asd.mk hK
  have hg0 : 4 < w.heap.size := by obtain ⟨fr, h⟩ := hG; exact heap_lt h
  have hg1 : 5 < w.heap.size := by obtain ⟨fr, h⟩ := hK; exact heap_lt h
  have HAB : Asd (∀ b off, l ≠ [] → A = some ⟨b, off, none⟩ → b ≠ w.heap.size) := ⟨by
    intro b off hne e
    obtain ⟨x, t, rfl⟩ := List.exists_cons_of_ne_nil hne
    obtain ⟨b', off', h1, h2, _⟩ := hA 0 x rfl
    rw [e] at h1
    injection h1 with h1
    injection h1 with h1 _ _
    omega⟩
  clear hl hA hok hG hK
  have HT0 : Asd (Tch (fun _ => False) w (w.alloc (.cells #[.slice A n c, .int .i64 0] 141))) := ⟨(Tch.refl _ _).alloc _⟩
  have HB0 : Asd (BuiAt (w.alloc (.cells #[.slice A n c, .int .i64 0] 141)) w.heap.size A n c 0) := ⟨heap_alloc_new _ _⟩
  go_enter Tryd.func32, Tryd.ntmps32
  go_wp2_with fail
  refine (tree_any w.heap.size A n c l HL.out hn HOK.out ⟨hg0, hg1⟩ HAB.out 24 0 0 1 _ (by omega) (by omega) (by omega) HB0.out (HA.out.tch HT0.out (fun _ _ _ => id)) (HG.out.tch HT0.out id) (HK.out.tch HT0.out id) (by omega)).mono ?_
  rintro e w2 ⟨i', h0, hin, hb2, ht2, hcase⟩
  have hsz : w.heap.size ≤ w2.heap.size := by have := ht2.size; simp at this; omega
  have HB2 : Asd (Below w.heap.size w w2) := ⟨(HT0.out.trans' ht2 (S := fun _ => False) (fun q hq e => by omega)).below (by intro i h; cases h) (Nat.le_refl _)⟩
  have c0 : w2.cell? ⟨w.heap.size, 0, none⟩ = some (.slice A n c) := cell_of hb2 0
  have c1 : w2.cell? ⟨w.heap.size, 1, none⟩ = some (.int .i64 (i' : Int)) := cell_of hb2 1
  have HSZ : Asd (w.heap.size ≤ (w.alloc (.cells #[.slice A n c, .int .i64 0] 141)).heap.size) := ⟨by simp⟩
  clear ht2 hb2
  rcases hcase with ⟨rfl, hsc⟩ | ⟨p, x, ks, rfl, hfo, hdr, hoky, hkn, hvf, hm256, hsc⟩
  · have HS := Asd.mk (show wrong l = some i' from hsc []); clear hsc
    go_wp2_with fail
    go_quiet (fail)
    go_wp2_with fail
    go_ret2
    exact ⟨HB2.out.drewN _, .inl ⟨i', rfl, HS.out⟩⟩
  · have hw : wrong l = scan (l.drop i') i' [] := hsc []
    by_cases h : i' < n
    · have HS : Asd (wrong l = some i') := ⟨by
        rw [hw]
        have : i' < l.length := by rw [HL.out]; exact h
        rw [List.drop_eq_getElem_cons this]; rfl⟩
      have g1 : decide ((i' : Int) < (n : Int)) = true := by simp; omega
      have HF := Asd.mk hfo
      clear hsc hw hfo hdr hoky hkn hvf
      go_wp2_with fail
      go_quiet (fail)
      go_wp2_with fail
      go_ret2
      exact ⟨HB2.out.drewN _, .inl ⟨i', rfl, HS.out⟩⟩
    · have hdn : l.drop i' = [] := List.drop_of_length_le (by rw [HL.out]; omega)
      have HS : Asd (wrong l = none) := ⟨by rw [hw, hdn]; rfl⟩
      have g1 : decide ((i' : Int) < (n : Int)) = false := by simp; omega
      have HF := Asd.mk (And.intro hfo (And.intro hdr (And.intro hoky (And.intro hkn hvf))))
      have HD := Asd.mk hdn
      clear hsc hw hfo hdr hoky hkn hvf hdn
      go_wp2_with fail
      go_ret2
      refine ⟨HB2.out, .inr ⟨p, x, ks, rfl, HS.out, HF.out.1.mono (fun q hq => ⟨Nat.le_trans HSZ.out hq.1, hq.2⟩), ?_, HF.out.2.2⟩⟩
      have := HF.out.2.1
      rw [HD.out] at this
      simpa using this
end Go.Proofs.YtocbblafgjpbeaaDoor.Sp
