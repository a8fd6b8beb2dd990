/- Walks: the reference's checker: expressions. -/
import Derived.Test.YtocbblafgjpbeaaDoorRef5
namespace Go.Proofs.YtocbblafgjpbeaaDoor.Sp
open Go.RowKit
set_option linter.unusedVariables false
set_option linter.unusedSimpArgs false

theorem exF_size (e : Ex) : (exF e).size = e.size := by
  have := e.sizeK; simp [exF, Fo.size]; omega
theorem exF_len (e : Ex) : (exF e).len = 1 := rfl
theorem fcode_or {f : Option Fd} {x : Fd} (h : ∀ q, f = some q → 60 ≤ q.1 ∧ q.1 ≤ 70) (hx : f = some x) : 60 ≤ x.1 := (h x hx).1
theorem rend_ex (A : Option Addr) (n c : Nat) (l : List TN) (w : World) (z : Int) (i : Nat) (e : Ex) (hz : z = (i : Int)) (hl : l.length = n) (hn : n ≤ 4611686018427387904) (hA : TNsAt w A l) (hat : AtL l i (exF e)) (hok : e.Ok) (hi : i ≤ n) :
    Calls Tryd.prog 31 #[.slice A n c, .int .i64 z] w fun en w' => en = .returned (.int .i64 ((i + e.size : Nat) : Int)) ∧ Below w.heap.size w w' := by
  subst hz
  have := rend_any A n c l w i (exF e) hl hn hA hat (e.kc hok) rfl hi
  rwa [exF_size] at this
theorem rkindOf_at (lo tb : Nat) (T : Option Addr) (tn tc : Nat) (l : List TN) (w : World) (g : Nat) (vs : List Var) (labs : List Str) (f : Option Fd) (A : Option Addr) (c : Nat) (B : Option Addr) (d : Nat) (hR : RAt lo tb T tn tc l w g vs labs f A c B d) (hV : VsOk vs) (e : Ex) (z : Int) (i : Nat) (hz : z = (i : Int)) (hx : l[i]? = some e.tn) :
    Calls Tryd.prog 131 #[.pointer (some ⟨g, 0, none⟩), .int .i64 z] w fun en w' => en = .returned (.int .i64 (kindE vs e)) ∧ Below w.heap.size w w' := by
  subst hz; exact rkindOf_any lo tb T tn tc l w g vs labs f A c B d hR hV e i hx
section
variable (lo tb g tn tc : Nat) (T : Option Addr) (l : List TN)
/-- The expression is looked at, if nothing was found before. -/
def RExN (e : Ex) : Prop := ∀ (w : World) (z : Int) (i : Nat) (want : Int) (vs : List Var) (labs : List Str) (A : Option Addr) (c : Nat) (B : Option Addr) (d : Nat), z = (i : Int) → RAt lo tb T tn tc l w g vs labs none A c B d → VsOk vs → AtL l i (exF e) → e.Ok →
  Calls Tryd.prog 96 #[.pointer (some ⟨g, 0, none⟩), .int .i64 z, .int .i64 want] w fun en w' => en = .returned (.tuple #[]) ∧ Tch (fun q => q = g) w w' ∧ RAt lo tb T tn tc l w' g vs labs (ckE vs i want e) A c B d
def RExA (e : Ex) : Prop := ∀ (w : World) (z : Int) (i : Nat) (want : Int) (vs : List Var) (labs : List Str) (f : Option Fd) (A : Option Addr) (c : Nat) (B : Option Addr) (d : Nat), z = (i : Int) → RAt lo tb T tn tc l w g vs labs f A c B d → VsOk vs → AtL l i (exF e) → e.Ok → (∀ x, f = some x → x.1 ≠ 0) →
  Calls Tryd.prog 96 #[.pointer (some ⟨g, 0, none⟩), .int .i64 z, .int .i64 want] w fun en w' => en = .returned (.tuple #[]) ∧ Tch (fun q => q = g) w w' ∧ RAt lo tb T tn tc l w' g vs labs (f.or (ckE vs i want e)) A c B d
end
theorem rex_both {lo tb g tn tc : Nat} {T : Option Addr} {l : List TN} {e : Ex} (h : RExN lo tb g tn tc T l e) : RExA lo tb g tn tc T l e := by
  intro w z i want vs labs f A c B d hz hR hV hat hok hf
  cases f with
  | none =>
    refine (h w z i want vs labs A c B d hz hR hV hat hok).mono ?_
    rintro e1 w1 ⟨h1, h2, h3⟩
    exact ⟨h1, h2, by simpa using h3⟩
  | some x =>
    have c3 : w.cell? ⟨g, 3, none⟩ = some (.int .i64 x.1) := cell_of hR.is 3
    have hx : (x.1 != 0) = true := by simpa using hf x rfl
    have hx2 : (x.1 == 0) = false := by simpa using hf x rfl
    have hgl := hR.lt
    have HR : Asd (RAt lo tb T tn tc l w g vs labs ((some x).or (ckE vs i want e)) A c B d) := ⟨by simpa using hR⟩
    clear hR hV hat hok hf hz h
    go_enter Tryd.func96, Tryd.ntmps96
    go_wp2_with fail
    refine bodyPost_ret (results_none rfl _ _ _) rfl ?_
    exact ⟨rfl, Tch.refl _ _, HR.out⟩
theorem head_kind0 {vs : List Var} {i : Nat} {want : Int} {e : Ex} (h : kindE vs e = 0) : ckHead vs i want e = some (67, i) := by simp [ckHead, h]
theorem ckE_some {vs : List Var} {i : Nat} {want : Int} {e : Ex} {f : Fd} (h : ckHead vs i want e = some f) : ckE vs i want e = some f := by
  cases e <;> simp only [ckE] <;> simp [h]
set_option maxRecDepth 100000 in
set_option maxHeartbeats 1600000 in
theorem rex_step (lo tb g tn tc : Nat) (T : Option Addr) (l : List TN) (e : Ex) (ih : ∀ a ∈ e.subs, RExN lo tb g tn tc T l a) : RExN lo tb g tn tc T l e := by
  intro w z i want vs labs A c B d hz hR hV hat hok
  subst hz
  have HIH : Asd (∀ a ∈ e.subs, RExA lo tb g tn tc T l a) := ⟨fun a ha => rex_both (ih a ha)⟩
  have c0 : w.cell? ⟨g, 0, none⟩ = some (.slice T tn tc) := cell_of hR.is 0
  have c3 : w.cell? ⟨g, 3, none⟩ = some (.int .i64 0) := cell_of hR.is 3
  obtain ⟨b, off, hTe, hb, a1, a2, a3⟩ := hR.nodes i e.tn hat.head
  have hgl := hR.lt
  have hi0 : (0 : Int) ≤ (i : Int) := Int.natCast_nonneg _
  have hil := hat.lt
  have hsz : i + e.size ≤ l.length := by have := hat.le (by omega); rwa [exF_size] at this
  have hln := hR.len
  have hbg := hR.big
  have hi1 : (i : Int) < (tn : Int) := by omega
  have hbl := World.block_lt_of_cell? w _ a1
  have HR := Asd.mk hR; have HV := Asd.mk hV; have HAT := Asd.mk hat; have HOK := Asd.mk hok
  have HLN := Asd.mk hln
  clear hR hV hat hok ih hln
  subst hTe
  have HRA : Asd (RAt lo tb (some ⟨b, off, none⟩) tn tc l (w.alloc (.cells #[.int .i64 e.tn.op, .int .u64 e.tn.n, .string e.tn.name] 68)) g vs labs none A c B d) := ⟨HR.out.below ((Below.refl _ _).alloc (Nat.le_refl _) _)⟩
  have HTA : Asd (Tch (fun q => q = g) w (w.alloc (.cells #[.int .i64 e.tn.op, .int .u64 e.tn.n, .string e.tn.name] 68))) := ⟨(Tch.refl _ _).alloc _⟩
  go_enter Tryd.func96, Tryd.ntmps96
  go_wp2_with fail
  refine (rkindOf_any lo tb _ tn tc l _ g vs labs none A c B d HRA.out HV.out e i HAT.out.head).mono ?_
  rintro e1 w1 ⟨rfl, hB1⟩
  have HR1 : Asd (RAt lo tb (some ⟨b, off, none⟩) tn tc l w1 g vs labs none A c B d) := ⟨HRA.out.below hB1⟩
  have HT1 : Asd (Tch (fun q => q = g) w w1) := ⟨HTA.out.trans (Tch.of_below _ hB1)⟩
  have x0 : w1.cell? ⟨w.heap.size, 0, none⟩ = some (.int .i64 e.tn.op) := (hB1.cell (p := ⟨w.heap.size, 0, none⟩) (by simp)).trans (cell_of (heap_alloc_new w _) 0)
  have x1 : w1.cell? ⟨w.heap.size, 1, none⟩ = some (.int .u64 e.tn.n) := (hB1.cell (p := ⟨w.heap.size, 1, none⟩) (by simp)).trans (cell_of (heap_alloc_new w _) 1)
  have hxg : ¬ w.heap.size = g := by omega
  clear hB1 a1 a2 a3 c0 c3
  cases hk0 : (kindE vs e == 0) with
  | true =>
    have HK : Asd (ckE vs i want e = some (67, i)) := ⟨ckE_some (head_kind0 (by simpa using hk0))⟩
    go_wp2_with fail
    refine (rfault_any g _ tn tc A _ c B _ d 67 i w1 HR1.out.is).mono ?_
    rintro e2 w2 ⟨rfl, hI2, hT2⟩
    have HR2 : Asd (RAt lo tb (some ⟨b, off, none⟩) tn tc l w2 g vs labs (some (67, i)) A c B d) := ⟨HR1.out.write hI2 hT2⟩
    have HT2 : Asd (Tch (fun q => q = g) w w2) := ⟨HT1.out.trans hT2⟩
    clear hI2 hT2
    go_wp2_with fail
    refine bodyPost_ret (results_none rfl _ _ _) rfl ?_
    exact ⟨rfl, HT2.out, by rw [HK.out]; exact HR2.out⟩
  | false =>
    have hk1 : kindE vs e ≠ 0 := by simpa using hk0
    have HK1 := Asd.mk hk1; clear hk1
    by_cases hb : want ≠ 0 ∧ want ≠ kindE vs e
    · have b1 : (want != 0) = true := by simpa using hb.1
      have b2 : (kindE vs e != want) = true := by simpa using Ne.symm hb.2
      have HK : Asd (ckE vs i want e = some (68, i)) := ⟨ckE_some (by simp [ckHead, HK1.out, hb])⟩
      clear hb
      go_wp2_with fail
      refine (rfault_any g _ tn tc A _ c B _ d 68 i w1 HR1.out.is).mono ?_
      rintro e2 w2 ⟨rfl, hI2, hT2⟩
      have HR2 : Asd (RAt lo tb (some ⟨b, off, none⟩) tn tc l w2 g vs labs (some (68, i)) A c B d) := ⟨HR1.out.write hI2 hT2⟩
      have HT2 : Asd (Tch (fun q => q = g) w w2) := ⟨HT1.out.trans hT2⟩
      clear hI2 hT2
      go_wp2_with fail
      refine bodyPost_ret (results_none rfl _ _ _) rfl ?_
      exact ⟨rfl, HT2.out, by rw [HK.out]; exact HR2.out⟩
    · have HH : Asd (ckHead vs i want e = none) := ⟨by simp [ckHead, HK1.out]; omega⟩
      have hor : (want != 0) = false ∨ ((want != 0) = true ∧ (kindE vs e != want) = false) := by
        simp; omega
      have HOR := Asd.mk hor; clear hor hb
      go_upto_region 5 with fail
      go_cut [36] (fun v wx => v = .bool false ∧ wx = w1)
      case first =>
        rcases HOR.out with h | ⟨h, h'⟩
        · go_wp2_with fail
          go_meet
          exact ⟨rfl, rfl⟩
        · go_wp2_with fail
          go_meet
          exact ⟨rfl, rfl⟩
      case rest =>
        obtain ⟨rfl, hww⟩ := hcut
        have hww := hww.symm
        subst hww
        clear HOR
        cases e with
        | num n =>
          simp only [Ex.tn] at x0 x1
          have HF : Asd (ckE vs i want (.num n) = none) := ⟨HH.out⟩
          go_wp2_with fail
          refine bodyPost_end (results_none rfl _ _ _) rfl ?_
          exact ⟨rfl, HT1.out, by rw [HF.out]; exact HR1.out⟩
        | tt =>
          simp only [Ex.tn] at x0 x1
          have HF : Asd (ckE vs i want .tt = none) := ⟨HH.out⟩
          go_wp2_with fail
          refine bodyPost_end (results_none rfl _ _ _) rfl ?_
          exact ⟨rfl, HT1.out, by rw [HF.out]; exact HR1.out⟩
        | ff =>
          simp only [Ex.tn] at x0 x1
          have HF : Asd (ckE vs i want .ff = none) := ⟨HH.out⟩
          go_wp2_with fail
          refine bodyPost_end (results_none rfl _ _ _) rfl ?_
          exact ⟨rfl, HT1.out, by rw [HF.out]; exact HR1.out⟩
        | var s =>
          simp only [Ex.tn] at x0 x1
          have HF : Asd (ckE vs i want (.var s) = none) := ⟨HH.out⟩
          go_wp2_with fail
          refine bodyPost_end (results_none rfl _ _ _) rfl ?_
          exact ⟨rfl, HT1.out, by rw [HF.out]; exact HR1.out⟩
        | not a =>
          simp only [Ex.tn] at x0 x1
          have HF : Asd (ckE vs i want (.not a) = ckE vs (i + 1) 2 a) := ⟨by rw [ckE, HH.out]; rfl⟩
          have HA : Asd (AtL l (i + 1) (exF a)) := ⟨HAT.out.kids⟩
          go_wp2_with fail
          refine (HIH.out a (by simp [Ex.subs]) w1 _ (i + 1) 2 vs labs none A c B d (by simp) HR1.out HV.out HA.out HOK.out (by simp)).mono ?_
          rintro e2 w2 ⟨rfl, hT2, hR2⟩
          have HR2 : Asd (RAt lo tb (some ⟨b, off, none⟩) tn tc l w2 g vs labs (ckE vs i want (.not a)) A c B d) := ⟨by rw [HF.out]; simpa using hR2⟩
          have HT2 : Asd (Tch (fun q => q = g) w w2) := ⟨HT1.out.trans hT2⟩
          clear hT2 hR2
          go_wp2_with fail
          refine bodyPost_end (results_none rfl _ _ _) rfl ?_
          exact ⟨rfl, HT2.out, HR2.out⟩
        | bin op x y =>
          have z1 := x0
          have y1 := x1
          clear x0 x1
          simp only [Ex.tn] at z1 y1
          have HA1 : Asd (AtL l (i + 1) (exF x)) := ⟨HAT.out.kids.one⟩
          have HA2 : Asd (AtL l (i + 1 + x.size) (exF y)) := ⟨by have := HAT.out.kids.rest; have h := x.sizeK; rwa [show i + 1 + 1 + x.kids.size = i + 1 + x.size by omega] at this⟩
          rw [Ex.size] at hsz
          cases h1 : decide (op ≤ 1) with
          | true =>
            have HF : Asd (ckE vs i want (.bin op x y) = (ckE vs (i + 1) 2 x).or (ckE vs (i + 1 + x.size) 2 y)) := ⟨by rw [ckE, HH.out, if_pos (by simpa using h1)]; rfl⟩
            have hcT : w1.cell? ⟨g, 0, none⟩ = some (.slice (some ⟨b, off, none⟩) tn tc) := cell_of HR1.out.is 0
            go_wp2_with fail
            refine (rend_ex (some ⟨b, off, none⟩) tn tc l w1 _ (i + 1) x (by omega) HLN.out (by omega) HR1.out.nodes.at HA1.out (HOK.out.2.2.1) (by omega)).mono ?_
            rintro e2 w2 ⟨rfl, hB2⟩
            have HR2 : Asd (RAt lo tb (some ⟨b, off, none⟩) tn tc l w2 g vs labs (none) A c B d) := ⟨HR1.out.below hB2⟩
            have HT2 : Asd (Tch (fun q => q = g) w w2) := ⟨HT1.out.trans (Tch.of_below _ hB2)⟩
            have y2 := (hB2.cell (p := ⟨w.heap.size, 1, none⟩) (World.block_lt_of_cell? w1 _ y1)).trans y1
            have z2 := (hB2.cell (p := ⟨w.heap.size, 0, none⟩) (World.block_lt_of_cell? w1 _ z1)).trans z1
            clear hB2 y1 z1 hcT
            go_wp2_with fail
            refine (HIH.out x (by simp [Ex.subs]) w2 _ (i + 1) 2 vs labs _ A c B d (by omega) HR2.out HV.out HA1.out (HOK.out.2.2.1) (by simp)).mono ?_
            rintro e3 w3 ⟨rfl, hT3, hR3⟩
            have HR3 : Asd (RAt lo tb (some ⟨b, off, none⟩) tn tc l w3 g vs labs (ckE vs (i + 1) 2 x) A c B d) := ⟨by simpa using hR3⟩
            have HT3 : Asd (Tch (fun q => q = g) w w3) := ⟨HT2.out.trans hT3⟩
            have y3 := hT3.cell_some y2 hxg
            have z3 := hT3.cell_some z2 hxg
            clear hT3 hR3 y2 z2
            go_wp2_with fail
            refine (HIH.out y (by simp [Ex.subs]) w3 _ (i + 1 + x.size) 2 vs labs _ A c B d (by omega) HR3.out HV.out HA2.out (HOK.out.2.2.2) (fun q hq => by have := fcode_or ((fun q hq => ckE_code x hq)) hq; omega)).mono ?_
            rintro e4 w4 ⟨rfl, hT4, hR4⟩
            have HR4 : Asd (RAt lo tb (some ⟨b, off, none⟩) tn tc l w4 g vs labs ((ckE vs (i + 1) 2 x).or (ckE vs (i + 1 + x.size) 2 y)) A c B d) := ⟨hR4⟩
            have HT4 : Asd (Tch (fun q => q = g) w w4) := ⟨HT3.out.trans hT4⟩
            have y4 := hT4.cell_some y3 hxg
            have z4 := hT4.cell_some z3 hxg
            clear hT4 hR4 y3 z3
            go_wp2_with fail
            refine bodyPost_end (results_none rfl _ _ _) rfl ?_
            exact ⟨rfl, HT4.out, by rw [HF.out]; exact HR4.out⟩
          | false =>
            cases h3 : decide (op ≤ 3) with
            | true =>
              have HF : Asd (ckE vs i want (.bin op x y) = (ckE vs (i + 1) 0 x).or (ckE vs (i + 1 + x.size) (kindE vs x) y)) := ⟨by rw [ckE, HH.out, if_neg (by simpa using h1), if_pos (by simpa using h3)]; rfl⟩
              have hcT : w1.cell? ⟨g, 0, none⟩ = some (.slice (some ⟨b, off, none⟩) tn tc) := cell_of HR1.out.is 0
              go_wp2_with fail
              refine (rend_ex (some ⟨b, off, none⟩) tn tc l w1 _ (i + 1) x (by omega) HLN.out (by omega) HR1.out.nodes.at HA1.out (HOK.out.2.2.1) (by omega)).mono ?_
              rintro e2 w2 ⟨rfl, hB2⟩
              have HR2 : Asd (RAt lo tb (some ⟨b, off, none⟩) tn tc l w2 g vs labs (none) A c B d) := ⟨HR1.out.below hB2⟩
              have HT2 : Asd (Tch (fun q => q = g) w w2) := ⟨HT1.out.trans (Tch.of_below _ hB2)⟩
              have y2 := (hB2.cell (p := ⟨w.heap.size, 1, none⟩) (World.block_lt_of_cell? w1 _ y1)).trans y1
              have z2 := (hB2.cell (p := ⟨w.heap.size, 0, none⟩) (World.block_lt_of_cell? w1 _ z1)).trans z1
              clear hB2 y1 z1 hcT
              go_wp2_with fail
              refine (HIH.out x (by simp [Ex.subs]) w2 _ (i + 1) 0 vs labs _ A c B d (by omega) HR2.out HV.out HA1.out (HOK.out.2.2.1) (by simp)).mono ?_
              rintro e3 w3 ⟨rfl, hT3, hR3⟩
              have HR3 : Asd (RAt lo tb (some ⟨b, off, none⟩) tn tc l w3 g vs labs (ckE vs (i + 1) 0 x) A c B d) := ⟨by simpa using hR3⟩
              have HT3 : Asd (Tch (fun q => q = g) w w3) := ⟨HT2.out.trans hT3⟩
              have y3 := hT3.cell_some y2 hxg
              have z3 := hT3.cell_some z2 hxg
              clear hT3 hR3 y2 z2
              go_wp2_with fail
              refine (rkindOf_at lo tb _ tn tc l _ g vs labs _ A c B d HR3.out HV.out x _ (i + 1) (by omega) HA1.out.head).mono ?_
              rintro e4 w4 ⟨rfl, hB4⟩
              have HR4 : Asd (RAt lo tb (some ⟨b, off, none⟩) tn tc l w4 g vs labs (ckE vs (i + 1) 0 x) A c B d) := ⟨HR3.out.below hB4⟩
              have HT4 : Asd (Tch (fun q => q = g) w w4) := ⟨HT3.out.trans (Tch.of_below _ hB4)⟩
              have y4 := (hB4.cell (p := ⟨w.heap.size, 1, none⟩) (World.block_lt_of_cell? w3 _ y3)).trans y3
              have z4 := (hB4.cell (p := ⟨w.heap.size, 0, none⟩) (World.block_lt_of_cell? w3 _ z3)).trans z3
              clear hB4 y3 z3
              go_wp2_with fail
              refine (HIH.out y (by simp [Ex.subs]) w4 _ (i + 1 + x.size) (kindE vs x) vs labs _ A c B d (by omega) HR4.out HV.out HA2.out (HOK.out.2.2.2) (fun q hq => by have := fcode_or ((fun q hq => ckE_code x hq)) hq; omega)).mono ?_
              rintro e5 w5 ⟨rfl, hT5, hR5⟩
              have HR5 : Asd (RAt lo tb (some ⟨b, off, none⟩) tn tc l w5 g vs labs ((ckE vs (i + 1) 0 x).or (ckE vs (i + 1 + x.size) (kindE vs x) y)) A c B d) := ⟨hR5⟩
              have HT5 : Asd (Tch (fun q => q = g) w w5) := ⟨HT4.out.trans hT5⟩
              have y5 := hT5.cell_some y4 hxg
              have z5 := hT5.cell_some z4 hxg
              clear hT5 hR5 y4 z4
              go_wp2_with fail
              refine bodyPost_end (results_none rfl _ _ _) rfl ?_
              exact ⟨rfl, HT5.out, by rw [HF.out]; exact HR5.out⟩
            | false =>
              have HF : Asd (ckE vs i want (.bin op x y) = (ckE vs (i + 1) 1 x).or (ckE vs (i + 1 + x.size) 1 y)) := ⟨by rw [ckE, HH.out, if_neg (by simpa using h1), if_neg (by simpa using h3)]; rfl⟩
              have hcT : w1.cell? ⟨g, 0, none⟩ = some (.slice (some ⟨b, off, none⟩) tn tc) := cell_of HR1.out.is 0
              go_wp2_with fail
              refine (rend_ex (some ⟨b, off, none⟩) tn tc l w1 _ (i + 1) x (by omega) HLN.out (by omega) HR1.out.nodes.at HA1.out (HOK.out.2.2.1) (by omega)).mono ?_
              rintro e2 w2 ⟨rfl, hB2⟩
              have HR2 : Asd (RAt lo tb (some ⟨b, off, none⟩) tn tc l w2 g vs labs (none) A c B d) := ⟨HR1.out.below hB2⟩
              have HT2 : Asd (Tch (fun q => q = g) w w2) := ⟨HT1.out.trans (Tch.of_below _ hB2)⟩
              have y2 := (hB2.cell (p := ⟨w.heap.size, 1, none⟩) (World.block_lt_of_cell? w1 _ y1)).trans y1
              have z2 := (hB2.cell (p := ⟨w.heap.size, 0, none⟩) (World.block_lt_of_cell? w1 _ z1)).trans z1
              clear hB2 y1 z1 hcT
              go_wp2_with fail
              refine (HIH.out x (by simp [Ex.subs]) w2 _ (i + 1) 1 vs labs _ A c B d (by omega) HR2.out HV.out HA1.out (HOK.out.2.2.1) (by simp)).mono ?_
              rintro e3 w3 ⟨rfl, hT3, hR3⟩
              have HR3 : Asd (RAt lo tb (some ⟨b, off, none⟩) tn tc l w3 g vs labs (ckE vs (i + 1) 1 x) A c B d) := ⟨by simpa using hR3⟩
              have HT3 : Asd (Tch (fun q => q = g) w w3) := ⟨HT2.out.trans hT3⟩
              have y3 := hT3.cell_some y2 hxg
              have z3 := hT3.cell_some z2 hxg
              clear hT3 hR3 y2 z2
              go_wp2_with fail
              refine (HIH.out y (by simp [Ex.subs]) w3 _ (i + 1 + x.size) 1 vs labs _ A c B d (by omega) HR3.out HV.out HA2.out (HOK.out.2.2.2) (fun q hq => by have := fcode_or ((fun q hq => ckE_code x hq)) hq; omega)).mono ?_
              rintro e4 w4 ⟨rfl, hT4, hR4⟩
              have HR4 : Asd (RAt lo tb (some ⟨b, off, none⟩) tn tc l w4 g vs labs ((ckE vs (i + 1) 1 x).or (ckE vs (i + 1 + x.size) 1 y)) A c B d) := ⟨hR4⟩
              have HT4 : Asd (Tch (fun q => q = g) w w4) := ⟨HT3.out.trans hT4⟩
              have y4 := hT4.cell_some y3 hxg
              have z4 := hT4.cell_some z3 hxg
              clear hT4 hR4 y3 z3
              go_wp2_with fail
              refine bodyPost_end (results_none rfl _ _ _) rfl ?_
              exact ⟨rfl, HT4.out, by rw [HF.out]; exact HR4.out⟩
        | two o x y =>
          have z1 := x0
          have y1 := x1
          clear x0 x1
          simp only [Ex.tn] at z1 y1
          have HA1 : Asd (AtL l (i + 1) (exF x)) := ⟨HAT.out.kids.one⟩
          have HA2 : Asd (AtL l (i + 1 + x.size) (exF y)) := ⟨by have := HAT.out.kids.rest; have h := x.sizeK; rwa [show i + 1 + 1 + x.kids.size = i + 1 + x.size by omega] at this⟩
          rw [Ex.size] at hsz
          have ho2 : (o == 2) = false := by have := HOK.out.2.1; simp; omega
          have HF : Asd (ckE vs i want (.two o x y) = (ckE vs (i + 1) 1 x).or (ckE vs (i + 1 + x.size) 1 y)) := ⟨by rw [ckE, HH.out]; rfl⟩
          have hcT : w1.cell? ⟨g, 0, none⟩ = some (.slice (some ⟨b, off, none⟩) tn tc) := cell_of HR1.out.is 0
          go_wp2_with fail
          refine (rend_ex (some ⟨b, off, none⟩) tn tc l w1 _ (i + 1) x (by omega) HLN.out (by omega) HR1.out.nodes.at HA1.out (HOK.out.2.2.1) (by omega)).mono ?_
          rintro e2 w2 ⟨rfl, hB2⟩
          have HR2 : Asd (RAt lo tb (some ⟨b, off, none⟩) tn tc l w2 g vs labs (none) A c B d) := ⟨HR1.out.below hB2⟩
          have HT2 : Asd (Tch (fun q => q = g) w w2) := ⟨HT1.out.trans (Tch.of_below _ hB2)⟩
          have y2 := (hB2.cell (p := ⟨w.heap.size, 1, none⟩) (World.block_lt_of_cell? w1 _ y1)).trans y1
          have z2 := (hB2.cell (p := ⟨w.heap.size, 0, none⟩) (World.block_lt_of_cell? w1 _ z1)).trans z1
          clear hB2 y1 z1 hcT
          go_wp2_with fail
          refine (HIH.out x (by simp [Ex.subs]) w2 _ (i + 1) 1 vs labs _ A c B d (by omega) HR2.out HV.out HA1.out (HOK.out.2.2.1) (by simp)).mono ?_
          rintro e3 w3 ⟨rfl, hT3, hR3⟩
          have HR3 : Asd (RAt lo tb (some ⟨b, off, none⟩) tn tc l w3 g vs labs (ckE vs (i + 1) 1 x) A c B d) := ⟨by simpa using hR3⟩
          have HT3 : Asd (Tch (fun q => q = g) w w3) := ⟨HT2.out.trans hT3⟩
          have y3 := hT3.cell_some y2 hxg
          have z3 := hT3.cell_some z2 hxg
          clear hT3 hR3 y2 z2
          go_wp2_with fail
          refine (HIH.out y (by simp [Ex.subs]) w3 _ (i + 1 + x.size) 1 vs labs _ A c B d (by omega) HR3.out HV.out HA2.out (HOK.out.2.2.2) (fun q hq => by have := fcode_or ((fun q hq => ckE_code x hq)) hq; omega)).mono ?_
          rintro e4 w4 ⟨rfl, hT4, hR4⟩
          have HR4 : Asd (RAt lo tb (some ⟨b, off, none⟩) tn tc l w4 g vs labs ((ckE vs (i + 1) 1 x).or (ckE vs (i + 1 + x.size) 1 y)) A c B d) := ⟨hR4⟩
          have HT4 : Asd (Tch (fun q => q = g) w w4) := ⟨HT3.out.trans hT4⟩
          have y4 := hT4.cell_some y3 hxg
          have z4 := hT4.cell_some z3 hxg
          clear hT4 hR4 y3 z3
          go_wp2_with fail
          refine bodyPost_end (results_none rfl _ _ _) rfl ?_
          exact ⟨rfl, HT4.out, by rw [HF.out]; exact HR4.out⟩
        | share x y z =>
          have z1 := x0
          have y1 := x1
          clear x0 x1
          simp only [Ex.tn] at z1 y1
          have HA1 : Asd (AtL l (i + 1) (exF x)) := ⟨HAT.out.kids.one⟩
          have HA2' : AtL l (i + 1 + x.size) (.cons y.tn y.kids (.cons z.tn z.kids .nil)) := by have := HAT.out.kids.rest; have h := x.sizeK; rwa [show i + 1 + 1 + x.kids.size = i + 1 + x.size by omega] at this
          have HA2 : Asd (AtL l (i + 1 + x.size) (exF y)) := ⟨HA2'.one⟩
          have HA3 : Asd (AtL l (i + 1 + x.size + y.size) (exF z)) := ⟨by have := HA2'.rest; have h := y.sizeK; rwa [show i + 1 + x.size + 1 + y.kids.size = i + 1 + x.size + y.size by omega] at this⟩
          clear HA2'
          rw [Ex.size] at hsz
          have hln2 : i + 1 + x.size + y.size ≤ tn := by have := HLN.out; omega
          have HF : Asd (ckE vs i want (.share x y z) = ((ckE vs (i + 1) 1 x).or (ckE vs (i + 1 + x.size) 1 y)).or (ckE vs (i + 1 + x.size + y.size) 1 z)) := ⟨by rw [ckE, HH.out]; simp [Option.or_assoc]⟩
          have hcT : w1.cell? ⟨g, 0, none⟩ = some (.slice (some ⟨b, off, none⟩) tn tc) := cell_of HR1.out.is 0
          go_wp2_with fail
          refine (rend_ex (some ⟨b, off, none⟩) tn tc l w1 _ (i + 1) x (by omega) HLN.out (by omega) HR1.out.nodes.at HA1.out (HOK.out.1) (by omega)).mono ?_
          rintro e2 w2 ⟨rfl, hB2⟩
          have HR2 : Asd (RAt lo tb (some ⟨b, off, none⟩) tn tc l w2 g vs labs (none) A c B d) := ⟨HR1.out.below hB2⟩
          have HT2 : Asd (Tch (fun q => q = g) w w2) := ⟨HT1.out.trans (Tch.of_below _ hB2)⟩
          have y2 := (hB2.cell (p := ⟨w.heap.size, 1, none⟩) (World.block_lt_of_cell? w1 _ y1)).trans y1
          have z2 := (hB2.cell (p := ⟨w.heap.size, 0, none⟩) (World.block_lt_of_cell? w1 _ z1)).trans z1
          clear hB2 y1 z1 hcT
          go_wp2_with fail
          refine (HIH.out x (by simp [Ex.subs]) w2 _ (i + 1) 1 vs labs _ A c B d (by omega) HR2.out HV.out HA1.out (HOK.out.1) (by simp)).mono ?_
          rintro e3 w3 ⟨rfl, hT3, hR3⟩
          have HR3 : Asd (RAt lo tb (some ⟨b, off, none⟩) tn tc l w3 g vs labs (ckE vs (i + 1) 1 x) A c B d) := ⟨by simpa using hR3⟩
          have HT3 : Asd (Tch (fun q => q = g) w w3) := ⟨HT2.out.trans hT3⟩
          have y3 := hT3.cell_some y2 hxg
          have z3 := hT3.cell_some z2 hxg
          clear hT3 hR3 y2 z2
          go_wp2_with fail
          refine (HIH.out y (by simp [Ex.subs]) w3 _ (i + 1 + x.size) 1 vs labs _ A c B d (by omega) HR3.out HV.out HA2.out (HOK.out.2.1) (fun q hq => by have := fcode_or ((fun q hq => ckE_code x hq)) hq; omega)).mono ?_
          rintro e4 w4 ⟨rfl, hT4, hR4⟩
          have HR4 : Asd (RAt lo tb (some ⟨b, off, none⟩) tn tc l w4 g vs labs ((ckE vs (i + 1) 1 x).or (ckE vs (i + 1 + x.size) 1 y)) A c B d) := ⟨hR4⟩
          have HT4 : Asd (Tch (fun q => q = g) w w4) := ⟨HT3.out.trans hT4⟩
          have y4 := hT4.cell_some y3 hxg
          have z4 := hT4.cell_some z3 hxg
          clear hT4 hR4 y3 z3
          have hcT : w4.cell? ⟨g, 0, none⟩ = some (.slice (some ⟨b, off, none⟩) tn tc) := cell_of HR4.out.is 0
          go_wp2_with fail
          refine (rend_ex (some ⟨b, off, none⟩) tn tc l w4 _ (i + 1 + x.size) y (by omega) HLN.out (by omega) HR4.out.nodes.at HA2.out (HOK.out.2.1) (by omega)).mono ?_
          rintro e5 w5 ⟨rfl, hB5⟩
          have HR5 : Asd (RAt lo tb (some ⟨b, off, none⟩) tn tc l w5 g vs labs ((ckE vs (i + 1) 1 x).or (ckE vs (i + 1 + x.size) 1 y)) A c B d) := ⟨HR4.out.below hB5⟩
          have HT5 : Asd (Tch (fun q => q = g) w w5) := ⟨HT4.out.trans (Tch.of_below _ hB5)⟩
          have y5 := (hB5.cell (p := ⟨w.heap.size, 1, none⟩) (World.block_lt_of_cell? w4 _ y4)).trans y4
          have z5 := (hB5.cell (p := ⟨w.heap.size, 0, none⟩) (World.block_lt_of_cell? w4 _ z4)).trans z4
          clear hB5 y4 z4 hcT
          go_wp2_with fail
          refine (HIH.out z (by simp [Ex.subs]) w5 _ (i + 1 + x.size + y.size) 1 vs labs _ A c B d (by omega) HR5.out HV.out HA3.out (HOK.out.2.2) (fun q hq => by have := fcode_or (or_code (fun q hq => ckE_code x hq) (fun q hq => ckE_code y hq)) hq; omega)).mono ?_
          rintro e6 w6 ⟨rfl, hT6, hR6⟩
          have HR6 : Asd (RAt lo tb (some ⟨b, off, none⟩) tn tc l w6 g vs labs (((ckE vs (i + 1) 1 x).or (ckE vs (i + 1 + x.size) 1 y)).or (ckE vs (i + 1 + x.size + y.size) 1 z)) A c B d) := ⟨hR6⟩
          have HT6 : Asd (Tch (fun q => q = g) w w6) := ⟨HT5.out.trans hT6⟩
          have y6 := hT6.cell_some y5 hxg
          have z6 := hT6.cell_some z5 hxg
          clear hT6 hR6 y5 z5
          go_wp2_with fail
          refine bodyPost_end (results_none rfl _ _ _) rfl ?_
          exact ⟨rfl, HT6.out, by rw [HF.out]; exact HR6.out⟩
theorem rex_all (lo tb g tn tc : Nat) (T : Option Addr) (l : List TN) (e : Ex) : RExN lo tb g tn tc T l e := by
  induction e with
  | not a ih => exact rex_step lo tb g tn tc T l _ (by intro a ha; simp [Ex.subs] at ha; subst ha; exact ih)
  | bin op a b iha ihb => exact rex_step lo tb g tn tc T l _ (by intro x hx; simp [Ex.subs] at hx; rcases hx with rfl | rfl; exact iha; exact ihb)
  | two op a b iha ihb => exact rex_step lo tb g tn tc T l _ (by intro x hx; simp [Ex.subs] at hx; rcases hx with rfl | rfl; exact iha; exact ihb)
  | share a b c iha ihb ihc => exact rex_step lo tb g tn tc T l _ (by intro x hx; simp [Ex.subs] at hx; rcases hx with rfl | rfl | rfl; exact iha; exact ihb; exact ihc)
  | _ => exact rex_step lo tb g tn tc T l _ (by intro x hx; simp [Ex.subs] at hx)
theorem rex_any (lo tb g tn tc : Nat) (T : Option Addr) (l : List TN) (e : Ex) : RExA lo tb g tn tc T l e := rex_both (rex_all lo tb g tn tc T l e)
end Go.Proofs.YtocbblafgjpbeaaDoor.Sp
