/- Walks: the law of checks: what Check answers to any list of nodes is what the document says, and the list is as it was. -/
import Derived.Test.YtocbblafgjpbeaaDoorRef13
import Derived.Test.YtocbblafgjpbeaaDoorErr2
import Derived.Test.YtocbblafgjpbeaaDoorTwin
namespace Go.Proofs.YtocbblafgjpbeaaDoor.Sp
open Go.RowKit
set_option linter.unusedVariables false
set_option linter.unusedSimpArgs false

theorem GShapes.below {w w' : World} (h : GShapes w) (hb : Below w.heap.size w w') : GShapes w' := by
  obtain ⟨fr, h⟩ := h; exact ⟨fr, (hb.block _ (heap_lt h)).trans h⟩
theorem GKw.below {w w' : World} (h : GKw w) (hb : Below w.heap.size w w') : GKw w' := by
  obtain ⟨fr, h⟩ := h; exact ⟨fr, (hb.block _ (heap_lt h)).trans h⟩
theorem GRKw.below {w w' : World} (h : GRKw w) (hb : Below w.heap.size w w') : GRKw w' := by
  obtain ⟨fr, h⟩ := h; exact ⟨fr, (hb.block _ (heap_lt h)).trans h⟩
/-- What the reference's Check comes to, beside the program's. -/
theorem rcheck_told (A : Option Addr) (n c : Nat) (l : List TN) (w : World) (w0 : World) (v : Value) (hl : l.length = n) (hn : n ≤ 4611686018427387904) (hA : TNsAt w A l) (hok : TNsOk l) (hK : GRKw w) (ht : Told l w0 v) :
    ∃ code at_ : Int, (Calls Tryd.prog 14 #[.slice A n c] w fun e w' => e = .returned (.tuple #[.int .i64 code, .int .i64 at_]) ∧ Below w.heap.size w w') ∧
      ((code = 0 ∧ v = .nilIface) ∨ (code ≠ 0 ∧ ErrAt w0.heap.size w0 [(termsName, at_)] code v)) := by
  rcases ht with ⟨i, hw, he⟩ | ⟨hw, ru, hlr, hru, hr1, ⟨hc, rfl⟩ | ⟨code, at_, hc, he⟩⟩
  · exact ⟨65, i, rcheck_tree A n c l w i hl hn hA hok hK hw, .inr ⟨by decide, he⟩⟩
  · refine ⟨0, 0, ?_, .inl ⟨rfl, rfl⟩⟩
    have := rcheck_ru A n c l w ru hl hn hA hok hK hw hlr hru
    rw [hc] at this
    exact this
  · refine ⟨code, at_, ?_, .inr ⟨by have := ckR_code hc; simp at this; omega, he⟩⟩
    have := rcheck_ru A n c l w ru hl hn hA hok hK hw hlr hru
    rw [hc] at this
    exact this
set_option maxHeartbeats 1600000 in
theorem checks_any (A : Option Addr) (n c : Nat) (l : List TN) (w : World) (hl : l.length = n) (hm : n * 32 ≤ 140737488351232) (hA : TNsAt w A l) (hok : TNsOk l) (hG : GShapes w) (hK : GKw w) (hR : GRKw w) :
    Calls Tryd.prog 3 #[.slice A n c] w fun e w' => e = .returned (.bool true) ∧ Below w.heap.size w w' := by
  have HA := Asd.mk hA; have HOK := Asd.mk hok; have HG := Asd.mk hG; have HK := Asd.mk hK; have HR := Asd.mk hR; have HL := Asd.mk hl
  have hn : n ≤ 4611686018427387904 := by omega
  clear hA hok hG hK hR hl
  go_enter Tryd.func3, Tryd.ntmps3
  go_wp2_with fail
  refine (twin_any A c n l w HL.out hm HA.out).mono ?_
  rintro e w1 ⟨g, cap, rfl, ho, hb1⟩
  have HO := Asd.mk ho; have HB1 := Asd.mk hb1
  have HL1 : Asd (TNsAt w1 (some ⟨g, 0, none⟩) l) := ⟨by
    have := (TNsAt.of_owns ho).take n
    rwa [← HL.out, List.take_left] at this⟩
  clear ho hb1
  go_wp2_with fail
  refine (tcheck_any _ n cap l w1 HL.out hn HL1.out HOK.out (HG.out.below HB1.out) (HK.out.below HB1.out)).mono ?_
  rintro e w2 ⟨v, rfl, hb2, htold⟩
  have HB2 : Asd (Below w.heap.size w w2) := ⟨HB1.out.trans (hb2.mono HB1.out.size)⟩
  have HO2 : Asd (w2.ownsRow w.heap.size 68 3 (.slice (some ⟨g, 0, none⟩) (n + 3) cap) (n + 3) (tnCells (l ++ marks))) := ⟨(Tch.of_below (fun _ => False) hb2).owns HO.out (fun _ _ e => e)⟩
  obtain ⟨code, at_, hcalls, hcase⟩ := rcheck_told A n c l w2 w2 v HL.out hn (HA.out.below HB2.out) HOK.out (HR.out.below HB2.out) htold
  have HC := Asd.mk hcalls; have HCASE := Asd.mk hcase
  clear hb2 htold hcalls hcase
  go_wp2_with fail
  refine HC.out.mono ?_
  rintro e w3 ⟨rfl, hb3⟩
  have HB3 : Asd (Below w.heap.size w w3) := ⟨HB2.out.trans (hb3.mono HB2.out.size)⟩
  have HO3 : Asd (w3.ownsRow w.heap.size 68 3 (.slice (some ⟨g, 0, none⟩) (n + 3) cap) (n + 3) (tnCells (l ++ marks))) := ⟨(Tch.of_below (fun _ => False) hb3).owns HO2.out (fun _ _ e => e)⟩
  have HA3 : Asd (TNsAt w3 A l) := ⟨HA.out.below HB3.out⟩
  rcases HCASE.out with ⟨rfl, rfl⟩ | ⟨hc0, he⟩
  · clear hb3
    go_wp2_with fail
    refine (refused_no _ _).mono ?_
    rintro e w4 ⟨rfl, hww⟩
    have hww := hww.symm
    subst hww
    go_wp2_with fail
    refine (kept_any A c n g cap l w3 w.heap.size HL.out hm HA3.out HO3.out).mono ?_
    rintro e w5 ⟨rfl, hb5⟩
    have HB5 : Asd (Below w.heap.size w w5) := ⟨HB3.out.trans (hb5.mono HB3.out.size)⟩
    clear hb5
    go_wp2_with fail
    go_ret
    exact ⟨rfl, HB5.out⟩
  · have HE : Asd (ErrAt w3.heap.size w3 [(termsStr, at_)] code v) := ⟨(he.below hb3).mono hb3.size⟩
    have HC0 := Asd.mk hc0
    clear hb3 he hc0
    go_wp2_with fail
    refine (refused_yes v code at_ w3 HC0.out HE.out).mono ?_
    rintro e w4 ⟨rfl, hb4⟩
    have HB4 : Asd (Below w.heap.size w w4) := ⟨HB3.out.trans (hb4.mono HB3.out.size)⟩
    have HO4 : Asd (w4.ownsRow w.heap.size 68 3 (.slice (some ⟨g, 0, none⟩) (n + 3) cap) (n + 3) (tnCells (l ++ marks))) := ⟨(Tch.of_below (fun _ => False) hb4).owns HO3.out (fun _ _ e => e)⟩
    have HA4 : Asd (TNsAt w4 A l) := ⟨HA.out.below HB4.out⟩
    clear hb4
    go_wp2_with fail
    refine (kept_any A c n g cap l w4 w.heap.size HL.out hm HA4.out HO4.out).mono ?_
    rintro e w5 ⟨rfl, hb5⟩
    have HB5 : Asd (Below w.heap.size w w5) := ⟨HB4.out.trans (hb5.mono HB4.out.size)⟩
    clear hb5
    go_wp2_with fail
    go_ret
    exact ⟨rfl, HB5.out⟩
end Go.Proofs.YtocbblafgjpbeaaDoor.Sp
