/- Walks: the reference's checker: statements (printed by gen_ref9.py). -/
import Derived.Test.YtocbblafgjpbeaaDoorRef8
namespace Go.Proofs.YtocbblafgjpbeaaDoor.Sp
open Go.RowKit
set_option linter.unusedVariables false
set_option linter.unusedSimpArgs false

theorem ckS_lenlt {l : List TN} {i : Nat} {s : St} (h : AtL l i (.cons s.tn s.kids .nil)) : i + s.size ≤ l.length := by
  have h1 := h.lt
  have h2 := h.le (by omega)
  have h3 := s.sizeK
  simp only [Fo.size] at h2
  omega

set_option maxRecDepth 100000 in
set_option maxHeartbeats 3200000 in
theorem rst_fail (lo tb g tn tc : Nat) (T : Option Addr) (l : List TN) (n : Int) : RStC lo tb g tn tc T l 61 (.fail n) := by
  intro w z i vs labs A c B d hz hR hV hlab hat hok
  subst hz
  have c0 : w.cell? ⟨g, 0, none⟩ = some (.slice T tn tc) := cell_of hR.is 0
  obtain ⟨bb, off, hTe, hb, a1, a2, a3⟩ := hR.nodes i _ hat.head
  simp only [St.tn] at a1 a2 a3
  have hgl := hR.lt
  have hi0 : (0 : Int) ≤ (i : Int) := Int.natCast_nonneg _
  have hln := hR.len
  have hbg := hR.big
  have hsz := ckS_lenlt hat
  rw [St.size] at hsz
  have hi1 : (i : Int) < (tn : Int) := by omega
  have hbl := World.block_lt_of_cell? w _ a1
  have hsm := hV.small
  have HAT0 := Asd.mk hat
  rw [St.kids] at hat
  have HAT := Asd.mk hat; have HR := Asd.mk hR; have HV := Asd.mk hV; have HOK0 := Asd.mk hok
  rw [St.Ok] at hok
  have HOK := Asd.mk hok
  have HLN := Asd.mk hln
  clear hR hV hat hok hln
  subst hTe
  have HR1 : Asd (RAt lo tb (some ⟨bb, off, none⟩) tn tc l (w.alloc (.cells #[.int .i64 12, .int .u64 n, .string empty] 68)) g vs labs (none) A c B d) := ⟨HR.out.below ((Below.refl _ _).alloc (Nat.le_refl _) _)⟩
  have HF1 : Asd (Fr' lo tb w (w.alloc (.cells #[.int .i64 12, .int .u64 n, .string empty] 68))) := ⟨HR.out.frb ((Below.refl _ _).alloc (Nat.le_refl _) _)⟩
  go_enter Tryd.func61, Tryd.ntmps61
  go_wp2_with fail
  refine bodyPost_end (results_none rfl _ _ _) rfl ?_
  exact ⟨rfl, HF1.out, by rw [ckS]; exact ⟨A, c, B, d, HR1.out⟩⟩

set_option maxRecDepth 100000 in
set_option maxHeartbeats 3200000 in
theorem rst_done (lo tb g tn tc : Nat) (T : Option Addr) (l : List TN) : RStC lo tb g tn tc T l 61 (.done) := by
  intro w z i vs labs A c B d hz hR hV hlab hat hok
  subst hz
  have c0 : w.cell? ⟨g, 0, none⟩ = some (.slice T tn tc) := cell_of hR.is 0
  obtain ⟨bb, off, hTe, hb, a1, a2, a3⟩ := hR.nodes i _ hat.head
  simp only [St.tn] at a1 a2 a3
  have hgl := hR.lt
  have hi0 : (0 : Int) ≤ (i : Int) := Int.natCast_nonneg _
  have hln := hR.len
  have hbg := hR.big
  have hsz := ckS_lenlt hat
  rw [St.size] at hsz
  have hi1 : (i : Int) < (tn : Int) := by omega
  have hbl := World.block_lt_of_cell? w _ a1
  have hsm := hV.small
  have HAT0 := Asd.mk hat
  rw [St.kids] at hat
  have HAT := Asd.mk hat; have HR := Asd.mk hR; have HV := Asd.mk hV; have HOK0 := Asd.mk hok
  rw [St.Ok] at hok
  have HOK := Asd.mk hok
  have HLN := Asd.mk hln
  clear hR hV hat hok hln
  subst hTe
  have HR1 : Asd (RAt lo tb (some ⟨bb, off, none⟩) tn tc l (w.alloc (.cells #[.int .i64 13, .int .u64 0, .string empty] 68)) g vs labs (none) A c B d) := ⟨HR.out.below ((Below.refl _ _).alloc (Nat.le_refl _) _)⟩
  have HF1 : Asd (Fr' lo tb w (w.alloc (.cells #[.int .i64 13, .int .u64 0, .string empty] 68))) := ⟨HR.out.frb ((Below.refl _ _).alloc (Nat.le_refl _) _)⟩
  go_enter Tryd.func61, Tryd.ntmps61
  go_wp2_with fail
  refine bodyPost_end (results_none rfl _ _ _) rfl ?_
  exact ⟨rfl, HF1.out, by rw [ckS]; exact ⟨A, c, B, d, HR1.out⟩⟩

set_option maxRecDepth 100000 in
set_option maxHeartbeats 3200000 in
theorem rst_let (lo tb g tn tc : Nat) (T : Option Addr) (l : List TN) (s : Str) (e : Ex) : RStC lo tb g tn tc T l 61 (.let_ s e) := by
  intro w z i vs labs A c B d hz hR hV hlab hat hok
  subst hz
  have c0 : w.cell? ⟨g, 0, none⟩ = some (.slice T tn tc) := cell_of hR.is 0
  obtain ⟨bb, off, hTe, hb, a1, a2, a3⟩ := hR.nodes i _ hat.head
  simp only [St.tn] at a1 a2 a3
  have hgl := hR.lt
  have hi0 : (0 : Int) ≤ (i : Int) := Int.natCast_nonneg _
  have hln := hR.len
  have hbg := hR.big
  have hsz := ckS_lenlt hat
  rw [St.size] at hsz
  have hi1 : (i : Int) < (tn : Int) := by omega
  have hbl := World.block_lt_of_cell? w _ a1
  have hsm := hV.small
  have HAT0 := Asd.mk hat
  rw [St.kids] at hat
  have HAT := Asd.mk hat; have HR := Asd.mk hR; have HV := Asd.mk hV; have HOK0 := Asd.mk hok
  rw [St.Ok] at hok
  have HOK := Asd.mk hok
  have HLN := Asd.mk hln
  clear hR hV hat hok hln
  subst hTe
  have HR1 : Asd (RAt lo tb (some ⟨bb, off, none⟩) tn tc l (w.alloc (.cells #[.int .i64 4, .int .u64 0, .string s] 68)) g vs labs (none) A c B d) := ⟨HR.out.below ((Below.refl _ _).alloc (Nat.le_refl _) _)⟩
  have HF1 : Asd (Fr' lo tb w (w.alloc (.cells #[.int .i64 4, .int .u64 0, .string s] 68))) := ⟨HR.out.frb ((Below.refl _ _).alloc (Nat.le_refl _) _)⟩
  go_enter Tryd.func61, Tryd.ntmps61
  go_wp2_with fail
  refine (rlet_any lo tb g tn tc _ l s e _ _ i vs labs A c B d rfl HR1.out HV.out hlab HAT0.out HOK0.out).mono ?_
  rintro e2 w2 ⟨rfl, hF2, hA2⟩
  have HF2 : Asd (Fr' lo tb w w2) := ⟨HF1.out.trans hF2⟩
  have HA2 := Asd.mk hA2
  clear hF2 hA2
  go_wp2_with fail
  refine bodyPost_end (results_none rfl _ _ _) rfl ?_
  exact ⟨rfl, HF2.out, HA2.out⟩

set_option maxRecDepth 100000 in
set_option maxHeartbeats 3200000 in
theorem rst_while (lo tb g tn tc : Nat) (T : Option Addr) (l : List TN) (s : Str) (e : Ex) (b : Blk) (IHB : RBlkC lo tb g tn tc T l b) : RStC lo tb g tn tc T l 61 (.while s e b) := by
  intro w z i vs labs A c B d hz hR hV hlab hat hok
  subst hz
  have c0 : w.cell? ⟨g, 0, none⟩ = some (.slice T tn tc) := cell_of hR.is 0
  obtain ⟨bb, off, hTe, hb, a1, a2, a3⟩ := hR.nodes i _ hat.head
  simp only [St.tn] at a1 a2 a3
  have hgl := hR.lt
  have hi0 : (0 : Int) ≤ (i : Int) := Int.natCast_nonneg _
  have hln := hR.len
  have hbg := hR.big
  have hsz := ckS_lenlt hat
  rw [St.size] at hsz
  have hi1 : (i : Int) < (tn : Int) := by omega
  have hbl := World.block_lt_of_cell? w _ a1
  have hsm := hV.small
  have HAT0 := Asd.mk hat
  rw [St.kids] at hat
  have HAT := Asd.mk hat; have HR := Asd.mk hR; have HV := Asd.mk hV; have HOK0 := Asd.mk hok
  rw [St.Ok] at hok
  have HOK := Asd.mk hok
  have HLN := Asd.mk hln
  clear hR hV hat hok hln
  subst hTe
  have HR1 : Asd (RAt lo tb (some ⟨bb, off, none⟩) tn tc l (w.alloc (.cells #[.int .i64 7, .int .u64 0, .string s] 68)) g vs labs (none) A c B d) := ⟨HR.out.below ((Below.refl _ _).alloc (Nat.le_refl _) _)⟩
  have HF1 : Asd (Fr' lo tb w (w.alloc (.cells #[.int .i64 7, .int .u64 0, .string s] 68))) := ⟨HR.out.frb ((Below.refl _ _).alloc (Nat.le_refl _) _)⟩
  go_enter Tryd.func61, Tryd.ntmps61
  go_wp2_with fail
  refine (rloop_any lo tb g tn tc _ l s e b IHB _ _ i vs labs A c B d rfl HR1.out HV.out hlab HAT0.out HOK0.out).mono ?_
  rintro e2 w2 ⟨rfl, hF2, hA2⟩
  have HF2 : Asd (Fr' lo tb w w2) := ⟨HF1.out.trans hF2⟩
  have HA2 := Asd.mk hA2
  clear hF2 hA2
  go_wp2_with fail
  refine bodyPost_end (results_none rfl _ _ _) rfl ?_
  exact ⟨rfl, HF2.out, HA2.out⟩

set_option maxRecDepth 100000 in
set_option maxHeartbeats 3200000 in
theorem rst_req (lo tb g tn tc : Nat) (T : Option Addr) (l : List TN) (n : Int) (e : Ex) : RStC lo tb g tn tc T l 61 (.req n e) := by
  intro w z i vs labs A c B d hz hR hV hlab hat hok
  subst hz
  have c0 : w.cell? ⟨g, 0, none⟩ = some (.slice T tn tc) := cell_of hR.is 0
  obtain ⟨bb, off, hTe, hb, a1, a2, a3⟩ := hR.nodes i _ hat.head
  simp only [St.tn] at a1 a2 a3
  have hgl := hR.lt
  have hi0 : (0 : Int) ≤ (i : Int) := Int.natCast_nonneg _
  have hln := hR.len
  have hbg := hR.big
  have hsz := ckS_lenlt hat
  rw [St.size] at hsz
  have hi1 : (i : Int) < (tn : Int) := by omega
  have hbl := World.block_lt_of_cell? w _ a1
  have hsm := hV.small
  have HAT0 := Asd.mk hat
  rw [St.kids] at hat
  have HAT := Asd.mk hat; have HR := Asd.mk hR; have HV := Asd.mk hV; have HOK0 := Asd.mk hok
  rw [St.Ok] at hok
  have HOK := Asd.mk hok
  have HLN := Asd.mk hln
  clear hR hV hat hok hln
  subst hTe
  have HR1 : Asd (RAt lo tb (some ⟨bb, off, none⟩) tn tc l (w.alloc (.cells #[.int .i64 10, .int .u64 n, .string empty] 68)) g vs labs (none) A c B d) := ⟨HR.out.below ((Below.refl _ _).alloc (Nat.le_refl _) _)⟩
  have HF1 : Asd (Fr' lo tb w (w.alloc (.cells #[.int .i64 10, .int .u64 n, .string empty] 68))) := ⟨HR.out.frb ((Below.refl _ _).alloc (Nat.le_refl _) _)⟩
  have HA1 : Asd (AtL l (i + 1) (exF e)) := ⟨HAT.out.kids⟩
  have HK : Asd (ckS vs labs i (.req n e) = match ckE vs (i + 1) 2 e with | some f => .error f | none => .ok vs) := ⟨by rw [ckS]; cases hq : ckE vs (i + 1) 2 e <;> simp⟩
  go_enter Tryd.func61, Tryd.ntmps61
  go_wp2_with fail
  refine (rex_any lo tb g tn tc _ l e _ _ (i + 1) 2 vs labs _ A c B d (by omega) HR1.out HV.out HA1.out (HOK.out.2.2) (by simp)).mono ?_
  rintro e2 w2 ⟨rfl, hT2, hR2⟩
  have HR2 : Asd (RAt lo tb (some ⟨bb, off, none⟩) tn tc l w2 g vs labs (ckE vs (i + 1) 2 e) A c B d) := ⟨by simpa using hR2⟩
  have HF2 : Asd (Fr' lo tb w w2) := ⟨HF1.out.trans (HR1.out.frw hT2)⟩
  clear hT2 hR2
  go_wp2_with fail
  refine bodyPost_end (results_none rfl _ _ _) rfl ?_
  refine ⟨rfl, HF2.out, ?_⟩
  rw [HK.out]
  have hfin := HR2.out
  cases hq : ckE vs (i + 1) 2 e with
  | none => rw [hq] at hfin; exact ⟨_, _, _, _, hfin⟩
  | some fd => rw [hq] at hfin; exact ⟨[], _, _, _, _, by rw [List.append_nil]; exact hfin⟩

set_option maxRecDepth 100000 in
set_option maxHeartbeats 3200000 in
theorem rst_pay (lo tb g tn tc : Nat) (T : Option Addr) (l : List TN) (x y : Ex) : RStC lo tb g tn tc T l 61 (.pay x y) := by
  intro w z i vs labs A c B d hz hR hV hlab hat hok
  subst hz
  have c0 : w.cell? ⟨g, 0, none⟩ = some (.slice T tn tc) := cell_of hR.is 0
  obtain ⟨bb, off, hTe, hb, a1, a2, a3⟩ := hR.nodes i _ hat.head
  simp only [St.tn] at a1 a2 a3
  have hgl := hR.lt
  have hi0 : (0 : Int) ≤ (i : Int) := Int.natCast_nonneg _
  have hln := hR.len
  have hbg := hR.big
  have hsz := ckS_lenlt hat
  rw [St.size] at hsz
  have hi1 : (i : Int) < (tn : Int) := by omega
  have hbl := World.block_lt_of_cell? w _ a1
  have hsm := hV.small
  have HAT0 := Asd.mk hat
  rw [St.kids] at hat
  have HAT := Asd.mk hat; have HR := Asd.mk hR; have HV := Asd.mk hV; have HOK0 := Asd.mk hok
  rw [St.Ok] at hok
  have HOK := Asd.mk hok
  have HLN := Asd.mk hln
  clear hR hV hat hok hln
  subst hTe
  have HR1 : Asd (RAt lo tb (some ⟨bb, off, none⟩) tn tc l (w.alloc (.cells #[.int .i64 11, .int .u64 0, .string empty] 68)) g vs labs (none) A c B d) := ⟨HR.out.below ((Below.refl _ _).alloc (Nat.le_refl _) _)⟩
  have HF1 : Asd (Fr' lo tb w (w.alloc (.cells #[.int .i64 11, .int .u64 0, .string empty] 68))) := ⟨HR.out.frb ((Below.refl _ _).alloc (Nat.le_refl _) _)⟩
  have HA1 : Asd (AtL l (i + 1) (exF x)) := ⟨HAT.out.kids.one⟩
  have HA2 : Asd (AtL l (i + 1 + x.size) (exF y)) := ⟨by have := HAT.out.kids.rest; have h := x.sizeK; rwa [show i + 1 + 1 + x.kids.size = i + 1 + x.size by omega] at this⟩
  have hln2 : i + 1 + x.size ≤ tn := by have := HLN.out; omega
  have HK : Asd (ckS vs labs i (.pay x y) = match (ckE vs (i + 1) 1 x).or (ckE vs (i + 1 + x.size) 1 y) with | some f => .error f | none => .ok vs) := ⟨by
    rw [ckS]; cases ckE vs (i + 1) 1 x <;> simp; cases ckE vs (i + 1 + x.size) 1 y <;> simp⟩
  go_enter Tryd.func61, Tryd.ntmps61
  go_wp2_with fail
  refine (rex_any lo tb g tn tc _ l x _ _ (i + 1) 1 vs labs _ A c B d (by omega) HR1.out HV.out HA1.out (HOK.out.1) (by simp)).mono ?_
  rintro e2 w2 ⟨rfl, hT2, hR2⟩
  have HR2 : Asd (RAt lo tb (some ⟨bb, off, none⟩) tn tc l w2 g vs labs (ckE vs (i + 1) 1 x) A c B d) := ⟨by simpa using hR2⟩
  have HF2 : Asd (Fr' lo tb w w2) := ⟨HF1.out.trans (HR1.out.frw hT2)⟩
  clear hT2 hR2
  have hcT : w2.cell? ⟨g, 0, none⟩ = some (.slice (some ⟨bb, off, none⟩) tn tc) := cell_of HR2.out.is 0
  have hg2 := HR2.out.lt
  go_wp2_with fail
  refine (rend_ex (some ⟨bb, off, none⟩) tn tc l w2 _ (i + 1) x (by omega) HLN.out (by omega) HR2.out.nodes.at HA1.out (HOK.out.1) (by omega)).mono ?_
  rintro e3 w3 ⟨rfl, hB3⟩
  have HR3 : Asd (RAt lo tb (some ⟨bb, off, none⟩) tn tc l w3 g vs labs (ckE vs (i + 1) 1 x) A c B d) := ⟨HR2.out.below hB3⟩
  have HF3 : Asd (Fr' lo tb w w3) := ⟨HF2.out.trans (HR2.out.frb hB3)⟩
  clear hB3 hcT
  go_wp2_with fail
  refine (rex_any lo tb g tn tc _ l y w3 _ (i + 1 + x.size) 1 vs labs _ A c B d (by omega) HR3.out HV.out HA2.out (HOK.out.2) (fun q hq => by have := fcode_or (fun q hq => ckE_code x hq) hq; omega)).mono ?_
  rintro e4 w4 ⟨rfl, hT4, hR4⟩
  have HR4 : Asd (RAt lo tb (some ⟨bb, off, none⟩) tn tc l w4 g vs labs ((ckE vs (i + 1) 1 x).or (ckE vs (i + 1 + x.size) 1 y)) A c B d) := ⟨by simpa using hR4⟩
  have HF4 : Asd (Fr' lo tb w w4) := ⟨HF3.out.trans (HR3.out.frw hT4)⟩
  clear hT4 hR4
  go_wp2_with fail
  refine bodyPost_end (results_none rfl _ _ _) rfl ?_
  refine ⟨rfl, HF4.out, ?_⟩
  rw [HK.out]
  have hfin := HR4.out
  cases hq : (ckE vs (i + 1) 1 x).or (ckE vs (i + 1 + x.size) 1 y) with
  | none => rw [hq] at hfin; exact ⟨_, _, _, _, hfin⟩
  | some fd => rw [hq] at hfin; exact ⟨[], _, _, _, _, by rw [List.append_nil]; exact hfin⟩

set_option maxRecDepth 100000 in
set_option maxHeartbeats 3200000 in
theorem rst_set (lo tb g tn tc : Nat) (T : Option Addr) (l : List TN) (s : Str) (e : Ex) : RStC lo tb g tn tc T l 61 (.set s e) := by
  intro w z i vs labs A c B d hz hR hV hlab hat hok
  subst hz
  have c0 : w.cell? ⟨g, 0, none⟩ = some (.slice T tn tc) := cell_of hR.is 0
  obtain ⟨bb, off, hTe, hb, a1, a2, a3⟩ := hR.nodes i _ hat.head
  simp only [St.tn] at a1 a2 a3
  have hgl := hR.lt
  have hi0 : (0 : Int) ≤ (i : Int) := Int.natCast_nonneg _
  have hln := hR.len
  have hbg := hR.big
  have hsz := ckS_lenlt hat
  rw [St.size] at hsz
  have hi1 : (i : Int) < (tn : Int) := by omega
  have hbl := World.block_lt_of_cell? w _ a1
  have hsm := hV.small
  have HAT0 := Asd.mk hat
  rw [St.kids] at hat
  have HAT := Asd.mk hat; have HR := Asd.mk hR; have HV := Asd.mk hV; have HOK0 := Asd.mk hok
  rw [St.Ok] at hok
  have HOK := Asd.mk hok
  have HLN := Asd.mk hln
  clear hR hV hat hok hln
  subst hTe
  have HR1 : Asd (RAt lo tb (some ⟨bb, off, none⟩) tn tc l (w.alloc (.cells #[.int .i64 5, .int .u64 0, .string s] 68)) g vs labs (none) A c B d) := ⟨HR.out.below ((Below.refl _ _).alloc (Nat.le_refl _) _)⟩
  have HF1 : Asd (Fr' lo tb w (w.alloc (.cells #[.int .i64 5, .int .u64 0, .string s] 68))) := ⟨HR.out.frb ((Below.refl _ _).alloc (Nat.le_refl _) _)⟩
  have HA1 : Asd (AtL l (i + 1) (exF e)) := ⟨HAT.out.kids⟩
  have c1 : w.cell? ⟨g, 1, none⟩ = some (.slice A vs.length c) := cell_of HR.out.is 1
  rcases hf : findV vs s with _ | ⟨j, v⟩
  · have HS : Asd (seenI vs s = -1) := ⟨seenI_none hf⟩
    have HK : Asd (ckS vs labs i (.set s e) = .error (67, i)) := ⟨by rw [ckS, hf]⟩
    clear hf
    go_enter Tryd.func61, Tryd.ntmps61
    go_wp2_with fail
    go_quiet ((go_at_call 95; exact Calls.quiet_of_same (rfind_at _ _ _ vs s lo _ (-1) HS.out HR1.out.vrow rfl (by omega) HV.out.names)))
    have HR2 : Asd (RAt lo tb (some ⟨bb, off, none⟩) tn tc l ((w.alloc (.cells #[.int .i64 5, .int .u64 0, .string s] 68)).drewN nq) g vs labs (none) A c B d) := ⟨HR1.out.drewN nq⟩
    have HF2 : Asd (Fr' lo tb w ((w.alloc (.cells #[.int .i64 5, .int .u64 0, .string s] 68)).drewN nq)) := ⟨HF1.out.drewN nq⟩
    clear HR1 HF1 c0 a1 a2 a3
    generalize (w.alloc (.cells #[.int .i64 5, .int .u64 0, .string s] 68)).drewN nq = w2 at *
    go_wp2_with fail
    refine (rfault_any g _ tn tc A _ c B _ d 67 i w2 HR2.out.is).mono ?_
    rintro e3 w3 ⟨rfl, hI3, hT3⟩
    have HR3 : Asd (RAt lo tb (some ⟨bb, off, none⟩) tn tc l w3 g vs labs (some (67, i)) A c B d) := ⟨HR2.out.write hI3 hT3⟩
    have HF3 : Asd (Fr' lo tb w w3) := ⟨HF2.out.trans (HR2.out.frw hT3)⟩
    clear hI3 hT3
    go_wp2_with fail
    refine bodyPost_ret (results_none rfl _ _ _) rfl ?_
    exact ⟨rfl, HF3.out, by rw [HK.out]; exact ⟨[], _, _, _, _, by rw [List.append_nil]; exact HR3.out⟩⟩
  · have HS : Asd (seenI vs s = (j : Int)) := ⟨seenI_some hf⟩
    have HJ := Asd.mk (findV_get hf).1
    have hj0 : (0 : Int) ≤ (j : Int) := Int.natCast_nonneg _
    have hjl : j < vs.length := (List.getElem?_eq_some_iff.1 HJ.out).1
    by_cases h11 : j < 11
    · have hb1 : decide ((j : Int) < 11) = true := by simp; omega
      have HK : Asd (ckS vs labs i (.set s e) = .error (67, i)) := ⟨by rw [ckS, hf]; simp [h11]⟩
      clear hf
      go_enter Tryd.func61, Tryd.ntmps61
      go_wp2_with fail
      go_quiet ((go_at_call 95; exact Calls.quiet_of_same (rfind_at _ _ _ vs s lo _ (j : Int) HS.out HR1.out.vrow rfl (by omega) HV.out.names)))
      have HR2 : Asd (RAt lo tb (some ⟨bb, off, none⟩) tn tc l ((w.alloc (.cells #[.int .i64 5, .int .u64 0, .string s] 68)).drewN nq) g vs labs (none) A c B d) := ⟨HR1.out.drewN nq⟩
      have HF2 : Asd (Fr' lo tb w ((w.alloc (.cells #[.int .i64 5, .int .u64 0, .string s] 68)).drewN nq)) := ⟨HF1.out.drewN nq⟩
      clear HR1 HF1 c0 a1 a2 a3
      generalize (w.alloc (.cells #[.int .i64 5, .int .u64 0, .string s] 68)).drewN nq = w2 at *
      go_wp2_with fail
      refine (rfault_any g _ tn tc A _ c B _ d 67 i w2 HR2.out.is).mono ?_
      rintro e3 w3 ⟨rfl, hI3, hT3⟩
      have HR3 : Asd (RAt lo tb (some ⟨bb, off, none⟩) tn tc l w3 g vs labs (some (67, i)) A c B d) := ⟨HR2.out.write hI3 hT3⟩
      have HF3 : Asd (Fr' lo tb w w3) := ⟨HF2.out.trans (HR2.out.frw hT3)⟩
      clear hI3 hT3
      go_wp2_with fail
      refine bodyPost_ret (results_none rfl _ _ _) rfl ?_
      exact ⟨rfl, HF3.out, by rw [HK.out]; exact ⟨[], _, _, _, _, by rw [List.append_nil]; exact HR3.out⟩⟩
    · have hb1 : decide ((j : Int) < 11) = false := by simp; omega
      have HK : Asd (ckS vs labs i (.set s e) = match ckE vs (i + 1) v.kind e with | some f => .error f | none => .ok vs) := ⟨by rw [ckS, hf]; cases hq : ckE vs (i + 1) v.kind e <;> simp [h11, hq]⟩
      clear hf
      go_enter Tryd.func61, Tryd.ntmps61
      go_wp2_with fail
      go_quiet ((go_at_call 95; exact Calls.quiet_of_same (rfind_at _ _ _ vs s lo _ (j : Int) HS.out HR1.out.vrow rfl (by omega) HV.out.names)))
      have HR2 : Asd (RAt lo tb (some ⟨bb, off, none⟩) tn tc l ((w.alloc (.cells #[.int .i64 5, .int .u64 0, .string s] 68)).drewN nq) g vs labs (none) A c B d) := ⟨HR1.out.drewN nq⟩
      have HF2 : Asd (Fr' lo tb w ((w.alloc (.cells #[.int .i64 5, .int .u64 0, .string s] 68)).drewN nq)) := ⟨HF1.out.drewN nq⟩
      clear c1
      clear HR1 HF1 c0 a1 a2 a3
      generalize (w.alloc (.cells #[.int .i64 5, .int .u64 0, .string s] 68)).drewN nq = w2 at *
      have c1 : w2.cell? ⟨g, 1, none⟩ = some (.slice A vs.length c) := cell_of HR2.out.is 1
      have hg2 := HR2.out.lt
      have hj1 : (j : Int) < (vs.length : Int) := by omega
      obtain ⟨vb, hvA, v1, v2, v3⟩ := var_cells HR2.out.vrow HJ.out
      subst hvA
      go_wp2_with fail
      refine (rex_any lo tb g tn tc _ l e w2 _ (i + 1) v.kind vs labs _ _ c B d (by omega) HR2.out HV.out HA1.out (HOK.out.2) (by simp)).mono ?_
      rintro e3 w3 ⟨rfl, hT3, hR3⟩
      have HR3 : Asd (RAt lo tb (some ⟨bb, off, none⟩) tn tc l w3 g vs labs (ckE vs (i + 1) v.kind e) (some ⟨vb, 0, none⟩) c B d) := ⟨by simpa using hR3⟩
      have HF3 : Asd (Fr' lo tb w w3) := ⟨HF2.out.trans (HR2.out.frw hT3)⟩
      clear hT3 hR3
      go_wp2_with fail
      refine bodyPost_end (results_none rfl _ _ _) rfl ?_
      refine ⟨rfl, HF3.out, ?_⟩
      rw [HK.out]
      have hfin := HR3.out
      cases hq : ckE vs (i + 1) v.kind e with
      | none => rw [hq] at hfin; exact ⟨_, _, _, _, hfin⟩
      | some fd => rw [hq] at hfin; exact ⟨[], _, _, _, _, by rw [List.append_nil]; exact hfin⟩

set_option maxRecDepth 100000 in
set_option maxHeartbeats 3200000 in
theorem rst_brk (lo tb g tn tc : Nat) (T : Option Addr) (l : List TN) (s : Str) : RStC lo tb g tn tc T l 61 (.brk s) := by
  intro w z i vs labs A c B d hz hR hV hlab hat hok
  subst hz
  have c0 : w.cell? ⟨g, 0, none⟩ = some (.slice T tn tc) := cell_of hR.is 0
  obtain ⟨bb, off, hTe, hb, a1, a2, a3⟩ := hR.nodes i _ hat.head
  simp only [St.tn] at a1 a2 a3
  have hgl := hR.lt
  have hi0 : (0 : Int) ≤ (i : Int) := Int.natCast_nonneg _
  have hln := hR.len
  have hbg := hR.big
  have hsz := ckS_lenlt hat
  rw [St.size] at hsz
  have hi1 : (i : Int) < (tn : Int) := by omega
  have hbl := World.block_lt_of_cell? w _ a1
  have hsm := hV.small
  have HAT0 := Asd.mk hat
  rw [St.kids] at hat
  have HAT := Asd.mk hat; have HR := Asd.mk hR; have HV := Asd.mk hV; have HOK0 := Asd.mk hok
  rw [St.Ok] at hok
  have HOK := Asd.mk hok
  have HLN := Asd.mk hln
  clear hR hV hat hok hln
  subst hTe
  have HR1 : Asd (RAt lo tb (some ⟨bb, off, none⟩) tn tc l (w.alloc (.cells #[.int .i64 8, .int .u64 0, .string s] 68)) g vs labs (none) A c B d) := ⟨HR.out.below ((Below.refl _ _).alloc (Nat.le_refl _) _)⟩
  have HF1 : Asd (Fr' lo tb w (w.alloc (.cells #[.int .i64 8, .int .u64 0, .string s] 68))) := ⟨HR.out.frb ((Below.refl _ _).alloc (Nat.le_refl _) _)⟩
  have c2 : w.cell? ⟨g, 2, none⟩ = some (.slice B labs.length d) := cell_of HR.out.is 2
  have HC : Asd (ckS vs labs i (.brk s) = if (labs.isEmpty || (!sEq s empty && !hasL labs s)) = true then .error (69, i) else .ok vs) := ⟨by rw [ckS]⟩
  by_cases hl0 : labs.length = 0
  · have HK : Asd (ckS vs labs i (.brk s) = .error (69, i)) := ⟨by rw [HC.out]; cases labs with | nil => rfl | cons _ _ => simp at hl0⟩
    have hb1 : ((labs.length : Int) == 0) = true := by rw [hl0]; rfl
    have HL0 := Asd.mk hl0; clear hl0
    go_enter Tryd.func61, Tryd.ntmps61
    go_wp2_with fail
    go_quiet (fail)
    have HR2 : Asd (RAt lo tb (some ⟨bb, off, none⟩) tn tc l ((w.alloc (.cells #[.int .i64 8, .int .u64 0, .string s] 68)).drewN nq) g vs labs (none) A c B d) := ⟨HR1.out.drewN nq⟩
    have HF2 : Asd (Fr' lo tb w ((w.alloc (.cells #[.int .i64 8, .int .u64 0, .string s] 68)).drewN nq)) := ⟨HF1.out.drewN nq⟩
    clear c2
    clear HR1 HF1 c0 a1 a2 a3
    generalize (w.alloc (.cells #[.int .i64 8, .int .u64 0, .string s] 68)).drewN nq = w2 at *
    go_wp2_with fail
    refine (rfault_any g _ tn tc A _ c B _ d 69 i w2 HR2.out.is).mono ?_
    rintro e3 w3 ⟨rfl, hI3, hT3⟩
    have HR3 : Asd (RAt lo tb (some ⟨bb, off, none⟩) tn tc l w3 g vs labs (some (69, i)) A c B d) := ⟨HR2.out.write hI3 hT3⟩
    have HF3 : Asd (Fr' lo tb w w3) := ⟨HF2.out.trans (HR2.out.frw hT3)⟩
    clear hI3 hT3
    go_wp2_with fail
    refine bodyPost_end (results_none rfl _ _ _) rfl ?_
    exact ⟨rfl, HF3.out, by rw [HK.out]; exact ⟨[], _, _, _, _, by rw [List.append_nil]; exact HR3.out⟩⟩
  have hb1 : ((labs.length : Int) == 0) = false := by simp only [beq_eq_false_iff_ne]; omega
  have hne : labs.isEmpty = false := by cases labs with | nil => simp at hl0 | cons _ _ => rfl
  have HNE := Asd.mk hne; clear hne hl0
  rcases empty_facts s with ⟨h1, h2⟩ | ⟨h1, h2⟩
  · have HK : Asd (ckS vs labs i (.brk s) = .ok vs) := ⟨by rw [HC.out, HNE.out, sEq_emp, h1]; rfl⟩
    go_enter Tryd.func61, Tryd.ntmps61
    go_wp2_with fail
    go_quiet (fail)
    have HR2 : Asd (RAt lo tb (some ⟨bb, off, none⟩) tn tc l ((w.alloc (.cells #[.int .i64 8, .int .u64 0, .string s] 68)).drewN nq) g vs labs (none) A c B d) := ⟨HR1.out.drewN nq⟩
    have HF2 : Asd (Fr' lo tb w ((w.alloc (.cells #[.int .i64 8, .int .u64 0, .string s] 68)).drewN nq)) := ⟨HF1.out.drewN nq⟩
    clear c2
    clear HR1 HF1 c0 a1 a2 a3
    generalize (w.alloc (.cells #[.int .i64 8, .int .u64 0, .string s] 68)).drewN nq = w2 at *
    go_wp2_with fail
    refine bodyPost_end (results_none rfl _ _ _) rfl ?_
    exact ⟨rfl, HF2.out, by rw [HK.out]; exact ⟨A, c, B, d, HR2.out⟩⟩
  cases hh : hasL labs s with
  | false =>
    have HH := Asd.mk hh
    have HK : Asd (ckS vs labs i (.brk s) = .error (69, i)) := ⟨by rw [HC.out, HNE.out, sEq_emp, h1, hh]; rfl⟩
    clear hh
    go_enter Tryd.func61, Tryd.ntmps61
    go_wp2_with fail
    go_quiet ((go_at_call 98; exact Calls.quiet_of_same (rhas_at _ _ _ labs s lo _ false HH.out HR1.out.lrow rfl (by omega))))
    have HR2 : Asd (RAt lo tb (some ⟨bb, off, none⟩) tn tc l ((w.alloc (.cells #[.int .i64 8, .int .u64 0, .string s] 68)).drewN nq) g vs labs (none) A c B d) := ⟨HR1.out.drewN nq⟩
    have HF2 : Asd (Fr' lo tb w ((w.alloc (.cells #[.int .i64 8, .int .u64 0, .string s] 68)).drewN nq)) := ⟨HF1.out.drewN nq⟩
    clear c2
    clear HR1 HF1 c0 a1 a2 a3
    generalize (w.alloc (.cells #[.int .i64 8, .int .u64 0, .string s] 68)).drewN nq = w2 at *
    go_wp2_with fail
    refine (rfault_any g _ tn tc A _ c B _ d 69 i w2 HR2.out.is).mono ?_
    rintro e3 w3 ⟨rfl, hI3, hT3⟩
    have HR3 : Asd (RAt lo tb (some ⟨bb, off, none⟩) tn tc l w3 g vs labs (some (69, i)) A c B d) := ⟨HR2.out.write hI3 hT3⟩
    have HF3 : Asd (Fr' lo tb w w3) := ⟨HF2.out.trans (HR2.out.frw hT3)⟩
    clear hI3 hT3
    go_wp2_with fail
    refine bodyPost_end (results_none rfl _ _ _) rfl ?_
    exact ⟨rfl, HF3.out, by rw [HK.out]; exact ⟨[], _, _, _, _, by rw [List.append_nil]; exact HR3.out⟩⟩
  | true =>
    have HH := Asd.mk hh
    have HK : Asd (ckS vs labs i (.brk s) = .ok vs) := ⟨by rw [HC.out, HNE.out, sEq_emp, h1, hh]; rfl⟩
    clear hh
    go_enter Tryd.func61, Tryd.ntmps61
    go_wp2_with fail
    go_quiet ((go_at_call 98; exact Calls.quiet_of_same (rhas_at _ _ _ labs s lo _ true HH.out HR1.out.lrow rfl (by omega))))
    have HR2 : Asd (RAt lo tb (some ⟨bb, off, none⟩) tn tc l ((w.alloc (.cells #[.int .i64 8, .int .u64 0, .string s] 68)).drewN nq) g vs labs (none) A c B d) := ⟨HR1.out.drewN nq⟩
    have HF2 : Asd (Fr' lo tb w ((w.alloc (.cells #[.int .i64 8, .int .u64 0, .string s] 68)).drewN nq)) := ⟨HF1.out.drewN nq⟩
    clear c2
    clear HR1 HF1 c0 a1 a2 a3
    generalize (w.alloc (.cells #[.int .i64 8, .int .u64 0, .string s] 68)).drewN nq = w2 at *
    go_wp2_with fail
    refine bodyPost_end (results_none rfl _ _ _) rfl ?_
    exact ⟨rfl, HF2.out, by rw [HK.out]; exact ⟨A, c, B, d, HR2.out⟩⟩

set_option maxRecDepth 100000 in
set_option maxHeartbeats 3200000 in
theorem rst_cont (lo tb g tn tc : Nat) (T : Option Addr) (l : List TN) (s : Str) : RStC lo tb g tn tc T l 61 (.cont s) := by
  intro w z i vs labs A c B d hz hR hV hlab hat hok
  subst hz
  have c0 : w.cell? ⟨g, 0, none⟩ = some (.slice T tn tc) := cell_of hR.is 0
  obtain ⟨bb, off, hTe, hb, a1, a2, a3⟩ := hR.nodes i _ hat.head
  simp only [St.tn] at a1 a2 a3
  have hgl := hR.lt
  have hi0 : (0 : Int) ≤ (i : Int) := Int.natCast_nonneg _
  have hln := hR.len
  have hbg := hR.big
  have hsz := ckS_lenlt hat
  rw [St.size] at hsz
  have hi1 : (i : Int) < (tn : Int) := by omega
  have hbl := World.block_lt_of_cell? w _ a1
  have hsm := hV.small
  have HAT0 := Asd.mk hat
  rw [St.kids] at hat
  have HAT := Asd.mk hat; have HR := Asd.mk hR; have HV := Asd.mk hV; have HOK0 := Asd.mk hok
  rw [St.Ok] at hok
  have HOK := Asd.mk hok
  have HLN := Asd.mk hln
  clear hR hV hat hok hln
  subst hTe
  have HR1 : Asd (RAt lo tb (some ⟨bb, off, none⟩) tn tc l (w.alloc (.cells #[.int .i64 9, .int .u64 0, .string s] 68)) g vs labs (none) A c B d) := ⟨HR.out.below ((Below.refl _ _).alloc (Nat.le_refl _) _)⟩
  have HF1 : Asd (Fr' lo tb w (w.alloc (.cells #[.int .i64 9, .int .u64 0, .string s] 68))) := ⟨HR.out.frb ((Below.refl _ _).alloc (Nat.le_refl _) _)⟩
  have c2 : w.cell? ⟨g, 2, none⟩ = some (.slice B labs.length d) := cell_of HR.out.is 2
  have HC : Asd (ckS vs labs i (.cont s) = if (labs.isEmpty || (!sEq s empty && !hasL labs s)) = true then .error (69, i) else .ok vs) := ⟨by rw [ckS]⟩
  by_cases hl0 : labs.length = 0
  · have HK : Asd (ckS vs labs i (.cont s) = .error (69, i)) := ⟨by rw [HC.out]; cases labs with | nil => rfl | cons _ _ => simp at hl0⟩
    have hb1 : ((labs.length : Int) == 0) = true := by rw [hl0]; rfl
    have HL0 := Asd.mk hl0; clear hl0
    go_enter Tryd.func61, Tryd.ntmps61
    go_wp2_with fail
    go_quiet (fail)
    have HR2 : Asd (RAt lo tb (some ⟨bb, off, none⟩) tn tc l ((w.alloc (.cells #[.int .i64 9, .int .u64 0, .string s] 68)).drewN nq) g vs labs (none) A c B d) := ⟨HR1.out.drewN nq⟩
    have HF2 : Asd (Fr' lo tb w ((w.alloc (.cells #[.int .i64 9, .int .u64 0, .string s] 68)).drewN nq)) := ⟨HF1.out.drewN nq⟩
    clear c2
    clear HR1 HF1 c0 a1 a2 a3
    generalize (w.alloc (.cells #[.int .i64 9, .int .u64 0, .string s] 68)).drewN nq = w2 at *
    go_wp2_with fail
    refine (rfault_any g _ tn tc A _ c B _ d 69 i w2 HR2.out.is).mono ?_
    rintro e3 w3 ⟨rfl, hI3, hT3⟩
    have HR3 : Asd (RAt lo tb (some ⟨bb, off, none⟩) tn tc l w3 g vs labs (some (69, i)) A c B d) := ⟨HR2.out.write hI3 hT3⟩
    have HF3 : Asd (Fr' lo tb w w3) := ⟨HF2.out.trans (HR2.out.frw hT3)⟩
    clear hI3 hT3
    go_wp2_with fail
    refine bodyPost_end (results_none rfl _ _ _) rfl ?_
    exact ⟨rfl, HF3.out, by rw [HK.out]; exact ⟨[], _, _, _, _, by rw [List.append_nil]; exact HR3.out⟩⟩
  have hb1 : ((labs.length : Int) == 0) = false := by simp only [beq_eq_false_iff_ne]; omega
  have hne : labs.isEmpty = false := by cases labs with | nil => simp at hl0 | cons _ _ => rfl
  have HNE := Asd.mk hne; clear hne hl0
  rcases empty_facts s with ⟨h1, h2⟩ | ⟨h1, h2⟩
  · have HK : Asd (ckS vs labs i (.cont s) = .ok vs) := ⟨by rw [HC.out, HNE.out, sEq_emp, h1]; rfl⟩
    go_enter Tryd.func61, Tryd.ntmps61
    go_wp2_with fail
    go_quiet (fail)
    have HR2 : Asd (RAt lo tb (some ⟨bb, off, none⟩) tn tc l ((w.alloc (.cells #[.int .i64 9, .int .u64 0, .string s] 68)).drewN nq) g vs labs (none) A c B d) := ⟨HR1.out.drewN nq⟩
    have HF2 : Asd (Fr' lo tb w ((w.alloc (.cells #[.int .i64 9, .int .u64 0, .string s] 68)).drewN nq)) := ⟨HF1.out.drewN nq⟩
    clear c2
    clear HR1 HF1 c0 a1 a2 a3
    generalize (w.alloc (.cells #[.int .i64 9, .int .u64 0, .string s] 68)).drewN nq = w2 at *
    go_wp2_with fail
    refine bodyPost_end (results_none rfl _ _ _) rfl ?_
    exact ⟨rfl, HF2.out, by rw [HK.out]; exact ⟨A, c, B, d, HR2.out⟩⟩
  cases hh : hasL labs s with
  | false =>
    have HH := Asd.mk hh
    have HK : Asd (ckS vs labs i (.cont s) = .error (69, i)) := ⟨by rw [HC.out, HNE.out, sEq_emp, h1, hh]; rfl⟩
    clear hh
    go_enter Tryd.func61, Tryd.ntmps61
    go_wp2_with fail
    go_quiet ((go_at_call 98; exact Calls.quiet_of_same (rhas_at _ _ _ labs s lo _ false HH.out HR1.out.lrow rfl (by omega))))
    have HR2 : Asd (RAt lo tb (some ⟨bb, off, none⟩) tn tc l ((w.alloc (.cells #[.int .i64 9, .int .u64 0, .string s] 68)).drewN nq) g vs labs (none) A c B d) := ⟨HR1.out.drewN nq⟩
    have HF2 : Asd (Fr' lo tb w ((w.alloc (.cells #[.int .i64 9, .int .u64 0, .string s] 68)).drewN nq)) := ⟨HF1.out.drewN nq⟩
    clear c2
    clear HR1 HF1 c0 a1 a2 a3
    generalize (w.alloc (.cells #[.int .i64 9, .int .u64 0, .string s] 68)).drewN nq = w2 at *
    go_wp2_with fail
    refine (rfault_any g _ tn tc A _ c B _ d 69 i w2 HR2.out.is).mono ?_
    rintro e3 w3 ⟨rfl, hI3, hT3⟩
    have HR3 : Asd (RAt lo tb (some ⟨bb, off, none⟩) tn tc l w3 g vs labs (some (69, i)) A c B d) := ⟨HR2.out.write hI3 hT3⟩
    have HF3 : Asd (Fr' lo tb w w3) := ⟨HF2.out.trans (HR2.out.frw hT3)⟩
    clear hI3 hT3
    go_wp2_with fail
    refine bodyPost_end (results_none rfl _ _ _) rfl ?_
    exact ⟨rfl, HF3.out, by rw [HK.out]; exact ⟨[], _, _, _, _, by rw [List.append_nil]; exact HR3.out⟩⟩
  | true =>
    have HH := Asd.mk hh
    have HK : Asd (ckS vs labs i (.cont s) = .ok vs) := ⟨by rw [HC.out, HNE.out, sEq_emp, h1, hh]; rfl⟩
    clear hh
    go_enter Tryd.func61, Tryd.ntmps61
    go_wp2_with fail
    go_quiet ((go_at_call 98; exact Calls.quiet_of_same (rhas_at _ _ _ labs s lo _ true HH.out HR1.out.lrow rfl (by omega))))
    have HR2 : Asd (RAt lo tb (some ⟨bb, off, none⟩) tn tc l ((w.alloc (.cells #[.int .i64 9, .int .u64 0, .string s] 68)).drewN nq) g vs labs (none) A c B d) := ⟨HR1.out.drewN nq⟩
    have HF2 : Asd (Fr' lo tb w ((w.alloc (.cells #[.int .i64 9, .int .u64 0, .string s] 68)).drewN nq)) := ⟨HF1.out.drewN nq⟩
    clear c2
    clear HR1 HF1 c0 a1 a2 a3
    generalize (w.alloc (.cells #[.int .i64 9, .int .u64 0, .string s] 68)).drewN nq = w2 at *
    go_wp2_with fail
    refine bodyPost_end (results_none rfl _ _ _) rfl ?_
    exact ⟨rfl, HF2.out, by rw [HK.out]; exact ⟨A, c, B, d, HR2.out⟩⟩

set_option maxRecDepth 100000 in
set_option maxHeartbeats 3200000 in
theorem rst_ite (lo tb g tn tc : Nat) (T : Option Addr) (l : List TN) (e : Ex) (x y : Blk) (IHX : RBlkC lo tb g tn tc T l x) (IHY : RBlkC lo tb g tn tc T l y) : RStC lo tb g tn tc T l 61 (.ite e x y) := by
  intro w z i vs labs A c B d hz hR hV hlab hat hok
  subst hz
  have c0 : w.cell? ⟨g, 0, none⟩ = some (.slice T tn tc) := cell_of hR.is 0
  obtain ⟨bb, off, hTe, hb, a1, a2, a3⟩ := hR.nodes i _ hat.head
  simp only [St.tn] at a1 a2 a3
  have hgl := hR.lt
  have hi0 : (0 : Int) ≤ (i : Int) := Int.natCast_nonneg _
  have hln := hR.len
  have hbg := hR.big
  have hsz := ckS_lenlt hat
  rw [St.size] at hsz
  have hi1 : (i : Int) < (tn : Int) := by omega
  have hbl := World.block_lt_of_cell? w _ a1
  have hsm := hV.small
  have HAT0 := Asd.mk hat
  rw [St.kids] at hat
  have HAT := Asd.mk hat; have HR := Asd.mk hR; have HV := Asd.mk hV; have HOK0 := Asd.mk hok
  rw [St.Ok] at hok
  have HOK := Asd.mk hok
  have HLN := Asd.mk hln
  clear hR hV hat hok hln
  subst hTe
  have HR1 : Asd (RAt lo tb (some ⟨bb, off, none⟩) tn tc l (w.alloc (.cells #[.int .i64 6, .int .u64 0, .string empty] 68)) g vs labs (none) A c B d) := ⟨HR.out.below ((Below.refl _ _).alloc (Nat.le_refl _) _)⟩
  have HF1 : Asd (Fr' lo tb w (w.alloc (.cells #[.int .i64 6, .int .u64 0, .string empty] 68))) := ⟨HR.out.frb ((Below.refl _ _).alloc (Nat.le_refl _) _)⟩
  have HIX := Asd.mk IHX; have HIY := Asd.mk IHY; clear IHX IHY
  have HA1 : Asd (AtL l (i + 1) (exF e)) := ⟨HAT.out.kids.one⟩
  have HA2' : AtL l (i + 1 + e.size) (.cons x.tn x.kids (.cons y.tn y.kids .nil)) := by have := HAT.out.kids.rest; have h := e.sizeK; rwa [show i + 1 + 1 + e.kids.size = i + 1 + e.size by omega] at this
  have HA2 : Asd (AtL l (i + 1 + e.size) (.cons x.tn x.kids .nil)) := ⟨HA2'.one⟩
  have HA3 : Asd (AtL l (i + 1 + e.size + x.size) (.cons y.tn y.kids .nil)) := ⟨by have := HA2'.rest; have h := x.sizeK; rwa [show i + 1 + e.size + 1 + x.kids.size = i + 1 + e.size + x.size by omega] at this⟩
  clear HA2'
  have hln2 : i + 1 + e.size + x.size ≤ tn := by have := HLN.out; omega
  have HK : Asd (ckS vs labs i (.ite e x y) = match (ckE vs (i + 1) 2 e).or ((ckL vs labs (i + 1 + e.size + 1) x).or (ckL vs labs (i + 1 + e.size + x.size + 1) y)) with | some f => .error f | none => .ok vs) := ⟨by
    rw [ckS]; cases ckE vs (i + 1) 2 e <;> simp; cases ckL vs labs (i + 1 + e.size + 1) x <;> simp; cases ckL vs labs (i + 1 + e.size + x.size + 1) y <;> simp⟩
  go_enter Tryd.func61, Tryd.ntmps61
  go_wp2_with fail
  refine (rex_any lo tb g tn tc _ l e _ _ (i + 1) 2 vs labs _ A c B d (by omega) HR1.out HV.out HA1.out (HOK.out.1) (by simp)).mono ?_
  rintro e2 w2 ⟨rfl, hT2, hR2⟩
  have HR2 : Asd (RAt lo tb (some ⟨bb, off, none⟩) tn tc l w2 g vs labs (ckE vs (i + 1) 2 e) A c B d) := ⟨by simpa using hR2⟩
  have HF2 : Asd (Fr' lo tb w w2) := ⟨HF1.out.trans (HR1.out.frw hT2)⟩
  clear hT2 hR2
  have hcT : w2.cell? ⟨g, 0, none⟩ = some (.slice (some ⟨bb, off, none⟩) tn tc) := cell_of HR2.out.is 0
  have hg2 := HR2.out.lt
  go_wp2_with fail
  refine (rend_ex (some ⟨bb, off, none⟩) tn tc l w2 _ (i + 1) e (by omega) HLN.out (by omega) HR2.out.nodes.at HA1.out (HOK.out.1) (by omega)).mono ?_
  rintro e3 w3 ⟨rfl, hB3⟩
  have HR3 : Asd (RAt lo tb (some ⟨bb, off, none⟩) tn tc l w3 g vs labs (ckE vs (i + 1) 2 e) A c B d) := ⟨HR2.out.below hB3⟩
  have HF3 : Asd (Fr' lo tb w w3) := ⟨HF2.out.trans (HR2.out.frb hB3)⟩
  clear hB3 hcT
  have hg3 := HR3.out.lt
  cases hce : ckE vs (i + 1) 2 e with
  | some fd =>
    have HR4 : Asd (RAt lo tb (some ⟨bb, off, none⟩) tn tc l w3 g vs labs (some fd) A c B d) := ⟨by rw [← hce]; exact HR3.out⟩
    have HKK : Asd (ckS vs labs i (.ite e x y) = .error fd) := ⟨by rw [HK.out, hce]; rfl⟩
    have hfd : fd.1 ≠ 0 := by have := ckE_code e hce; omega
    have hb1 : (fd.1 == 0) = false := by simpa using hfd
    have c3 : w3.cell? ⟨g, 3, none⟩ = some (.int .i64 fd.1) := cell_of HR4.out.is 3
    clear hce HR2 HR3 hfd
    go_wp2_with fail
    refine bodyPost_end (results_none rfl _ _ _) rfl ?_
    exact ⟨rfl, HF3.out, by rw [HKK.out]; exact ⟨[], _, _, _, _, by rw [List.append_nil]; exact HR4.out⟩⟩
  | none =>
    have HR4 : Asd (RAt lo tb (some ⟨bb, off, none⟩) tn tc l w3 g vs labs (none) A c B d) := ⟨by rw [← hce]; exact HR3.out⟩
    have HK1 : Asd (ckS vs labs i (.ite e x y) = match (ckL vs labs (i + 1 + e.size + 1) x).or (ckL vs labs (i + 1 + e.size + x.size + 1) y) with | some f => .error f | none => .ok vs) := ⟨by rw [HK.out, hce]; rfl⟩
    have c3 : w3.cell? ⟨g, 3, none⟩ = some (.int .i64 0) := cell_of HR4.out.is 3
    clear hce HR2 HR3 HK
    go_wp2_with fail
    refine (HIX.out w3 _ (i + 1 + e.size) vs labs _ _ _ _ (by omega) HR4.out HV.out (by omega) HA2.out HOK.out.2.1).mono ?_
    rintro e5 w5 ⟨rfl, hF5, A5, c5, B5, d5, hR5⟩
    have HF5 : Asd (Fr' lo tb w w5) := ⟨HF3.out.trans hF5⟩
    clear hF5 c3
    have hg5 := hR5.lt
    cases hcx : ckL vs labs (i + 1 + e.size + 1) x with
    | some fd =>
      rw [hcx] at hR5
      have HR5 := Asd.mk hR5; clear hR5
      have HKK : Asd (ckS vs labs i (.ite e x y) = .error fd) := ⟨by rw [HK1.out, hcx]; rfl⟩
      have hfd : fd.1 ≠ 0 := by have := ckL_code x hcx; omega
      have hb1 : (fd.1 == 0) = false := by simpa using hfd
      have c3 : w5.cell? ⟨g, 3, none⟩ = some (.int .i64 fd.1) := cell_of HR5.out.is 3
      clear hcx hfd
      go_wp2_with fail
      refine bodyPost_end (results_none rfl _ _ _) rfl ?_
      exact ⟨rfl, HF5.out, by rw [HKK.out]; exact ⟨[], _, _, _, _, by rw [List.append_nil]; exact HR5.out⟩⟩
    | none =>
      rw [hcx] at hR5
      have HR5 := Asd.mk hR5; clear hR5
      have HK2 : Asd (ckS vs labs i (.ite e x y) = match ckL vs labs (i + 1 + e.size + x.size + 1) y with | some f => .error f | none => .ok vs) := ⟨by rw [HK1.out, hcx]; rfl⟩
      have c3 : w5.cell? ⟨g, 3, none⟩ = some (.int .i64 0) := cell_of HR5.out.is 3
      have c0' : w5.cell? ⟨g, 0, none⟩ = some (.slice (some ⟨bb, off, none⟩) tn tc) := cell_of HR5.out.is 0
      clear hcx HK1
      go_wp2_with fail
      refine (blk_end (some ⟨bb, off, none⟩) tn tc l w5 _ (i + 1 + e.size) x (by omega) HLN.out (by omega) HR5.out.nodes.at HA2.out HOK.out.2.1 (by omega)).mono ?_
      rintro e6 w6 ⟨rfl, hB6⟩
      have HR6 : Asd (RAt lo tb (some ⟨bb, off, none⟩) tn tc l w6 g vs labs none A5 c5 B5 d5) := ⟨HR5.out.below hB6⟩
      have HF6 : Asd (Fr' lo tb w w6) := ⟨HF5.out.trans (HR5.out.frb hB6)⟩
      clear hB6 c0' c3
      go_wp2_with fail
      refine (HIY.out w6 _ (i + 1 + e.size + x.size) vs labs _ _ _ _ (by omega) HR6.out HV.out (by omega) HA3.out HOK.out.2.2).mono ?_
      rintro e7 w7 ⟨rfl, hF7, A7, c7, B7, d7, hR7⟩
      have HF7 : Asd (Fr' lo tb w w7) := ⟨HF6.out.trans hF7⟩
      have HR7 := Asd.mk hR7; clear hR7 hF7
      go_wp2_with fail
      refine bodyPost_end (results_none rfl _ _ _) rfl ?_
      refine ⟨rfl, HF7.out, ?_⟩
      rw [HK2.out]
      have hfin := HR7.out
      cases hq : ckL vs labs (i + 1 + e.size + x.size + 1) y with
      | none => rw [hq] at hfin; exact ⟨_, _, _, _, hfin⟩
      | some fd => rw [hq] at hfin; exact ⟨[], _, _, _, _, by rw [List.append_nil]; exact hfin⟩
end Go.Proofs.YtocbblafgjpbeaaDoor.Sp
