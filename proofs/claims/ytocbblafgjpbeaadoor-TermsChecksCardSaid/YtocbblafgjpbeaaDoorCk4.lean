/- Walks: the checker's statements (printed by gen_st.py). -/
import Derived.Test.YtocbblafgjpbeaaDoorCk3
namespace Go.Proofs.YtocbblafgjpbeaaDoor.Sp
open Go.RowKit
set_option linter.unusedVariables false
set_option linter.unusedSimpArgs false


set_option maxRecDepth 100000 in
set_option maxHeartbeats 3200000 in
theorem st_fail (lo tb g : Nat) (n : Int) : StC lo tb g (.fail n) := by
  intro w i p vs labs A c B d hC hN hOk hsz
  have HC := Asd.mk hC; have HOk := Asd.mk hOk; have HN := Asd.mk hN
  have hgl := heap_lt hC.is
  have hsmall := hC.small
  have hlow := hC.low
  have hlg := hC.glo
  have htk := hC.tok
  rw [St.size] at hsz
  have HSZ := Asd.mk hsz
  have hi : i ≤ 1048576 := by omega
  clear hC hN hOk hsz
  go_enter Tryd.func60, Tryd.ntmps60
  go_wp2_with fail
  refine (cknode_any g i A vs.length c B labs.length d w HC.out.is (by omega)).mono ?_
  rintro e1 w1 ⟨rfl, hI1, hT1⟩
  have HC1 : Asd (CkAt lo tb w1 g (i + 1) vs labs A c B d) := ⟨HC.out.node (by simpa using hI1) hT1 (by omega)⟩
  have HB1 : Asd (Fr lo tb w w1) := ⟨hT1.belowG hgl hlg htk⟩
  have HN1 : Asd (NdAt (fun q => q < lo) w1 p (St.tn (.fail n)) (St.kids (.fail n))) := ⟨HN.out.keep (Like.of_below HB1.out.below fun q hq => hq)⟩
  obtain ⟨ks, ⟨hp, p0, p1, p2, KA, kc, p3, hkids⟩, hfo⟩ := HN1.out
  simp only [St.tn] at p0 p1 p2
  rw [St.kids] at hfo
  have HKD := Asd.mk hkids; have HFO := Asd.mk hfo
  have hgl1 := heap_lt HC1.out.is
  clear hI1 hT1 hkids hfo
  go_wp2_with fail
  refine (seen_any g _ A vs.length c B labs.length d vs empty lo w1 HC1.out.is HC1.out.vrow rfl (by omega) HC1.out.names).mono ?_
  rintro e2 w2 ⟨rfl, hww⟩
  have hww := hww.symm
  subst hww
  go_wp2_with fail
  refine bodyPost_end (results_none rfl _ _ _) rfl ?_
  exact ⟨HB1.out, .inl ⟨vs, by rw [ckS], rfl, A, c, B, d, by rw [St.size]; exact HC1.out⟩⟩

set_option maxRecDepth 100000 in
set_option maxHeartbeats 3200000 in
theorem st_done (lo tb g : Nat) : StC lo tb g (.done) := by
  intro w i p vs labs A c B d hC hN hOk hsz
  have HC := Asd.mk hC; have HOk := Asd.mk hOk; have HN := Asd.mk hN
  have hgl := heap_lt hC.is
  have hsmall := hC.small
  have hlow := hC.low
  have hlg := hC.glo
  have htk := hC.tok
  rw [St.size] at hsz
  have HSZ := Asd.mk hsz
  have hi : i ≤ 1048576 := by omega
  clear hC hN hOk hsz
  go_enter Tryd.func60, Tryd.ntmps60
  go_wp2_with fail
  refine (cknode_any g i A vs.length c B labs.length d w HC.out.is (by omega)).mono ?_
  rintro e1 w1 ⟨rfl, hI1, hT1⟩
  have HC1 : Asd (CkAt lo tb w1 g (i + 1) vs labs A c B d) := ⟨HC.out.node (by simpa using hI1) hT1 (by omega)⟩
  have HB1 : Asd (Fr lo tb w w1) := ⟨hT1.belowG hgl hlg htk⟩
  have HN1 : Asd (NdAt (fun q => q < lo) w1 p (St.tn (.done)) (St.kids (.done))) := ⟨HN.out.keep (Like.of_below HB1.out.below fun q hq => hq)⟩
  obtain ⟨ks, ⟨hp, p0, p1, p2, KA, kc, p3, hkids⟩, hfo⟩ := HN1.out
  simp only [St.tn] at p0 p1 p2
  rw [St.kids] at hfo
  have HKD := Asd.mk hkids; have HFO := Asd.mk hfo
  have hgl1 := heap_lt HC1.out.is
  clear hI1 hT1 hkids hfo
  go_wp2_with fail
  refine (seen_any g _ A vs.length c B labs.length d vs empty lo w1 HC1.out.is HC1.out.vrow rfl (by omega) HC1.out.names).mono ?_
  rintro e2 w2 ⟨rfl, hww⟩
  have hww := hww.symm
  subst hww
  go_wp2_with fail
  refine bodyPost_end (results_none rfl _ _ _) rfl ?_
  exact ⟨HB1.out, .inl ⟨vs, by rw [ckS], rfl, A, c, B, d, by rw [St.size]; exact HC1.out⟩⟩

set_option maxRecDepth 100000 in
set_option maxHeartbeats 3200000 in
theorem st_req (lo tb g : Nat) (n : Int) (e : Ex) : StC lo tb g (.req n e) := by
  intro w i p vs labs A c B d hC hN hOk hsz
  have HC := Asd.mk hC; have HOk := Asd.mk hOk; have HN := Asd.mk hN
  have hgl := heap_lt hC.is
  have hsmall := hC.small
  have hlow := hC.low
  have hlg := hC.glo
  have htk := hC.tok
  rw [St.size] at hsz
  have HSZ := Asd.mk hsz
  have hi : i ≤ 1048576 := by omega
  clear hC hN hOk hsz
  go_enter Tryd.func60, Tryd.ntmps60
  go_wp2_with fail
  refine (cknode_any g i A vs.length c B labs.length d w HC.out.is (by omega)).mono ?_
  rintro e1 w1 ⟨rfl, hI1, hT1⟩
  have HC1 : Asd (CkAt lo tb w1 g (i + 1) vs labs A c B d) := ⟨HC.out.node (by simpa using hI1) hT1 (by omega)⟩
  have HB1 : Asd (Fr lo tb w w1) := ⟨hT1.belowG hgl hlg htk⟩
  have HN1 : Asd (NdAt (fun q => q < lo) w1 p (St.tn (.req n e)) (St.kids (.req n e))) := ⟨HN.out.keep (Like.of_below HB1.out.below fun q hq => hq)⟩
  obtain ⟨ks, ⟨hp, p0, p1, p2, KA, kc, p3, hkids⟩, hfo⟩ := HN1.out
  simp only [St.tn] at p0 p1 p2
  rw [St.kids] at hfo
  have HKD := Asd.mk hkids; have HFO := Asd.mk hfo
  have hgl1 := heap_lt HC1.out.is
  clear hI1 hT1 hkids hfo
  go_wp2_with fail
  refine (seen_any g _ A vs.length c B labs.length d vs empty lo w1 HC1.out.is HC1.out.vrow rfl (by omega) HC1.out.names).mono ?_
  rintro e2 w2 ⟨rfl, hww⟩
  have hww := hww.symm
  subst hww
  obtain ⟨q0, bs0, ks0, rfl, hk0, hf0, hr0⟩ := HFO.out
  cases hr0
  obtain ⟨kb, hkb, rfl, t0⟩ := HKD.out 0 q0 rfl
  have HK0 := Asd.mk (show NdAt (fun q => q < lo) w1 q0 _ _ from ⟨ks0, hk0, hf0⟩)
  clear hk0 hf0
  simp only [List.length_cons, List.length_nil] at p3
  go_wp2_with fail
  refine (expr_any g lo A c vs B labs.length d hlg HC1.out.vg HC1.out.names HC1.out.kinds (by omega) e w1 (i + 1) q0 2 HC1.out.is HC1.out.vrow (HK0.out) (by have := HOk.out; rw [St.Ok] at this; exact this.2.2) (by have := HSZ.out; omega) (by decide) (by decide)).mono ?_
  rintro e3 w3 ⟨hTw3, ⟨kw3, rfl, hIw3⟩ | ⟨code, at_, kw3, rfl⟩⟩
  rotate_left
  · (try go_wp2_with fail)
    exact ⟨rfl, HB1.out.trans (hTw3.belowG (heap_lt HC1.out.is) hlg HC1.out.tok), .inr ⟨code, at_, by rw [ckS, kw3], by first | rfl | assumption | (symm; assumption)⟩⟩
  have HCw3 : Asd (CkAt lo tb w3 g (i + 1 + e.size) vs labs A c B d) := ⟨HC1.out.node hIw3 hTw3 (by omega)⟩
  have HBw3 : Asd (Fr lo tb w w3) := ⟨HB1.out.trans (hTw3.belowG (heap_lt HC1.out.is) hlg HC1.out.tok)⟩
  have HXw3 : Asd (Fr lo tb w1 w3) := ⟨hTw3.belowG (heap_lt HC1.out.is) hlg HC1.out.tok⟩
  have HEw3 := Asd.mk kw3
  have p3' := (World.cell?_of_block (w := w1) (a := ⟨p, 3, none⟩) (HXw3.out.block _ hp)).trans p3
  have t0' := (World.cell?_of_block (w := w1) (a := ⟨kb, 0, none⟩) (HXw3.out.block _ hkb)).trans t0
  clear hTw3 kw3 hIw3
  go_wp2_with fail
  refine bodyPost_end (results_none rfl _ _ _) rfl ?_
  exact ⟨HBw3.out, .inl ⟨vs, by rw [ckS, HEw3.out], rfl, A, c, B, d, by rw [St.size, ← Nat.add_assoc]; exact HCw3.out⟩⟩

set_option maxRecDepth 100000 in
set_option maxHeartbeats 3200000 in
theorem st_pay (lo tb g : Nat) (a b : Ex) : StC lo tb g (.pay a b) := by
  intro w i p vs labs A c B d hC hN hOk hsz
  have HC := Asd.mk hC; have HOk := Asd.mk hOk; have HN := Asd.mk hN
  have hgl := heap_lt hC.is
  have hsmall := hC.small
  have hlow := hC.low
  have hlg := hC.glo
  have htk := hC.tok
  rw [St.size] at hsz
  have HSZ := Asd.mk hsz
  have hi : i ≤ 1048576 := by omega
  clear hC hN hOk hsz
  go_enter Tryd.func60, Tryd.ntmps60
  go_wp2_with fail
  refine (cknode_any g i A vs.length c B labs.length d w HC.out.is (by omega)).mono ?_
  rintro e1 w1 ⟨rfl, hI1, hT1⟩
  have HC1 : Asd (CkAt lo tb w1 g (i + 1) vs labs A c B d) := ⟨HC.out.node (by simpa using hI1) hT1 (by omega)⟩
  have HB1 : Asd (Fr lo tb w w1) := ⟨hT1.belowG hgl hlg htk⟩
  have HN1 : Asd (NdAt (fun q => q < lo) w1 p (St.tn (.pay a b)) (St.kids (.pay a b))) := ⟨HN.out.keep (Like.of_below HB1.out.below fun q hq => hq)⟩
  obtain ⟨ks, ⟨hp, p0, p1, p2, KA, kc, p3, hkids⟩, hfo⟩ := HN1.out
  simp only [St.tn] at p0 p1 p2
  rw [St.kids] at hfo
  have HKD := Asd.mk hkids; have HFO := Asd.mk hfo
  have hgl1 := heap_lt HC1.out.is
  clear hI1 hT1 hkids hfo
  go_wp2_with fail
  refine (seen_any g _ A vs.length c B labs.length d vs empty lo w1 HC1.out.is HC1.out.vrow rfl (by omega) HC1.out.names).mono ?_
  rintro e2 w2 ⟨rfl, hww⟩
  have hww := hww.symm
  subst hww
  obtain ⟨q0, bs0, ks0, rfl, hk0, hf0, hr0⟩ := HFO.out
  obtain ⟨q1, bs1, ks1, rfl, hk1, hf1, hr1⟩ := hr0
  cases hr1
  obtain ⟨kb, hkb, rfl, t0⟩ := HKD.out 0 q0 rfl
  obtain ⟨kb', _, hkk, t1⟩ := HKD.out 1 q1 rfl
  injection hkk with hkk
  injection hkk with hkk _ _
  subst hkk
  have HK0 := Asd.mk (show NdAt (fun q => q < lo) w1 q0 _ _ from ⟨ks0, hk0, hf0⟩)
  have HK1 := Asd.mk (show NdAt (fun q => q < lo) w1 q1 _ _ from ⟨ks1, hk1, hf1⟩)
  clear hk0 hf0 hk1 hf1
  simp only [List.length_cons, List.length_nil] at p3
  go_wp2_with fail
  refine (expr_any g lo A c vs B labs.length d hlg HC1.out.vg HC1.out.names HC1.out.kinds (by omega) a w1 (i + 1) q0 1 HC1.out.is HC1.out.vrow (HK0.out) (by have := HOk.out; rw [St.Ok] at this; exact this.1) (by have := HSZ.out; omega) (by decide) (by decide)).mono ?_
  rintro e3 w3 ⟨hTw3, ⟨kw3, rfl, hIw3⟩ | ⟨code, at_, kw3, rfl⟩⟩
  rotate_left
  · (try go_wp2_with fail)
    exact ⟨rfl, HB1.out.trans (hTw3.belowG (heap_lt HC1.out.is) hlg HC1.out.tok), .inr ⟨code, at_, by rw [ckS, kw3], by first | rfl | assumption | (symm; assumption)⟩⟩
  have HCw3 : Asd (CkAt lo tb w3 g (i + 1 + a.size) vs labs A c B d) := ⟨HC1.out.node hIw3 hTw3 (by omega)⟩
  have HBw3 : Asd (Fr lo tb w w3) := ⟨HB1.out.trans (hTw3.belowG (heap_lt HC1.out.is) hlg HC1.out.tok)⟩
  have HXw3 : Asd (Fr lo tb w1 w3) := ⟨hTw3.belowG (heap_lt HC1.out.is) hlg HC1.out.tok⟩
  have HEw3 := Asd.mk kw3
  have p3' := (World.cell?_of_block (w := w1) (a := ⟨p, 3, none⟩) (HXw3.out.block _ hp)).trans p3
  have t0' := (World.cell?_of_block (w := w1) (a := ⟨kb, 0, none⟩) (HXw3.out.block _ hkb)).trans t0
  have t1' := (World.cell?_of_block (w := w1) (a := ⟨kb, 1, none⟩) (HXw3.out.block _ hkb)).trans t1
  clear hTw3 kw3 hIw3
  go_wp2_with fail
  refine (expr_any g lo A c vs B labs.length d hlg HC1.out.vg HC1.out.names HC1.out.kinds (by omega) b w3 (i + 1 + a.size) q1 1 HCw3.out.is HCw3.out.vrow (HK1.out.keep (Like.of_below HXw3.out.below fun q hq => hq)) (by have := HOk.out; rw [St.Ok] at this; exact this.2) (by have := HSZ.out; omega) (by decide) (by decide)).mono ?_
  rintro e3 w4 ⟨hTw4, ⟨kw4, rfl, hIw4⟩ | ⟨code, at_, kw4, rfl⟩⟩
  rotate_left
  · (try go_wp2_with fail)
    exact ⟨rfl, HBw3.out.trans (hTw4.belowG (heap_lt HCw3.out.is) hlg HCw3.out.tok), .inr ⟨code, at_, by rw [ckS, HEw3.out]; simp only [kw4], by first | rfl | assumption | (symm; assumption)⟩⟩
  have HCw4 : Asd (CkAt lo tb w4 g (i + 1 + a.size + b.size) vs labs A c B d) := ⟨HCw3.out.node hIw4 hTw4 (by omega)⟩
  have HBw4 : Asd (Fr lo tb w w4) := ⟨HBw3.out.trans (hTw4.belowG (heap_lt HCw3.out.is) hlg HCw3.out.tok)⟩
  have HXw4 : Asd (Fr lo tb w1 w4) := ⟨HXw3.out.trans (hTw4.belowG (heap_lt HCw3.out.is) hlg HCw3.out.tok)⟩
  have HEw4 := Asd.mk kw4
  have p3' := (World.cell?_of_block (w := w1) (a := ⟨p, 3, none⟩) (HXw4.out.block _ hp)).trans p3
  have t0' := (World.cell?_of_block (w := w1) (a := ⟨kb, 0, none⟩) (HXw4.out.block _ hkb)).trans t0
  have t1' := (World.cell?_of_block (w := w1) (a := ⟨kb, 1, none⟩) (HXw4.out.block _ hkb)).trans t1
  clear hTw4 kw4 hIw4
  go_wp2_with fail
  refine bodyPost_end (results_none rfl _ _ _) rfl ?_
  exact ⟨HBw4.out, .inl ⟨vs, by rw [ckS, HEw3.out]; simp only [HEw4.out], rfl, A, c, B, d, by rw [St.size, show i + (1 + a.size + b.size) = i + 1 + a.size + b.size by omega]; exact HCw4.out⟩⟩

set_option maxRecDepth 100000 in
set_option maxHeartbeats 3200000 in
theorem st_brk (lo tb g : Nat) (l : Str) : StC lo tb g (.brk l) := by
  intro w i p vs labs A c B d hC hN hOk hsz
  have HC := Asd.mk hC; have HOk := Asd.mk hOk; have HN := Asd.mk hN
  have hgl := heap_lt hC.is
  have hsmall := hC.small
  have hlow := hC.low
  have hlg := hC.glo
  have htk := hC.tok
  rw [St.size] at hsz
  have HSZ := Asd.mk hsz
  have hi : i ≤ 1048576 := by omega
  clear hC hN hOk hsz
  go_enter Tryd.func60, Tryd.ntmps60
  go_wp2_with fail
  refine (cknode_any g i A vs.length c B labs.length d w HC.out.is (by omega)).mono ?_
  rintro e1 w1 ⟨rfl, hI1, hT1⟩
  have HC1 : Asd (CkAt lo tb w1 g (i + 1) vs labs A c B d) := ⟨HC.out.node (by simpa using hI1) hT1 (by omega)⟩
  have HB1 : Asd (Fr lo tb w w1) := ⟨hT1.belowG hgl hlg htk⟩
  have HN1 : Asd (NdAt (fun q => q < lo) w1 p (St.tn (.brk l)) (St.kids (.brk l))) := ⟨HN.out.keep (Like.of_below HB1.out.below fun q hq => hq)⟩
  obtain ⟨ks, ⟨hp, p0, p1, p2, KA, kc, p3, hkids⟩, hfo⟩ := HN1.out
  simp only [St.tn] at p0 p1 p2
  rw [St.kids] at hfo
  have HKD := Asd.mk hkids; have HFO := Asd.mk hfo
  have hgl1 := heap_lt HC1.out.is
  clear hI1 hT1 hkids hfo
  go_wp2_with fail
  refine (seen_any g _ A vs.length c B labs.length d vs l lo w1 HC1.out.is HC1.out.vrow rfl (by omega) HC1.out.names).mono ?_
  rintro e2 w2 ⟨rfl, hww⟩
  have hww := hww.symm
  subst hww
  have c2 : w1.cell? ⟨g, 2, none⟩ = some (.slice B labs.length d) := cell_of HC1.out.is 2
  go_wp2_with fail
  refine wp_region_heldB (n := 11) (fun w' => w'.cell? ⟨g, 2, none⟩ = some (.slice B labs.length d) ∧ w'.cell? ⟨p, 2, none⟩ = some (.string l)) (by kernel_rfl) (by kernel_rfl) ?_ ⟨c2, p2⟩ ?_
  · intro _ _ d _ _ h; cases d <;> exact h
  repeat (apply wpHeld_light rfl rfl rfl
          · (rintro w' ⟨s1, s2⟩; go_simp; first | done | rfl)
          simp only [Act.put, List.setIfInBounds_toArray, List.set_cons_zero, List.set_cons_succ])
  refine wpHeld_heavy rfl rfl rfl (fun K hK => ?_)
  go_wp2_with fail
  refine (ring_any B labs.length d labs l lo w1.drew HC1.out.lrow rfl (by omega)).mono ?_
  rintro e3 w3 ⟨r, rfl, hr, hr1, hr2, hww⟩
  have hww := hww.symm
  subst hww
  have HR := Asd.mk hr
  refine hK _ _ ⟨c2, p2⟩ ?_
  clear hK K hr
  cases hno : noRing labs l with
  | true =>
    have hb : decide (r < 0) = true := HR.out.trans hno
    have HNO := Asd.mk hno; clear hno
    apply wpHeld_light rfl rfl rfl
    · (rintro w' ⟨s1, s2⟩; go_simp; first | done | rfl)
    simp only [Act.put, List.setIfInBounds_toArray, List.set_cons_zero, List.set_cons_succ]
    refine wpHeld_tail rfl ?_
    go_wp2_with fail
    exact ⟨rfl, HB1.out.drewN 1, .inr ⟨69, i, by rw [ckS]; exact if_pos HNO.out, rfl⟩⟩
  | false =>
    have hb : decide (r < 0) = false := HR.out.trans hno
    have HNO := Asd.mk hno; clear hno
    apply wpHeld_light rfl rfl rfl
    · (rintro w' ⟨s1, s2⟩; go_simp; first | done | rfl)
    simp only [Act.put, List.setIfInBounds_toArray, List.set_cons_zero, List.set_cons_succ]
    refine wpHeld_tail rfl ?_
    go_wp2_with fail
    refine bodyPost_end (results_none rfl _ _ _) rfl ?_
    exact ⟨HB1.out.drewN 1, .inl ⟨vs, by rw [ckS]; exact if_neg (by have := HNO.out; unfold noRing at this; rw [this]; decide), rfl, A, c, B, d, by rw [St.size]; exact { HC1.out with }⟩⟩

set_option maxRecDepth 100000 in
set_option maxHeartbeats 3200000 in
theorem st_cont (lo tb g : Nat) (l : Str) : StC lo tb g (.cont l) := by
  intro w i p vs labs A c B d hC hN hOk hsz
  have HC := Asd.mk hC; have HOk := Asd.mk hOk; have HN := Asd.mk hN
  have hgl := heap_lt hC.is
  have hsmall := hC.small
  have hlow := hC.low
  have hlg := hC.glo
  have htk := hC.tok
  rw [St.size] at hsz
  have HSZ := Asd.mk hsz
  have hi : i ≤ 1048576 := by omega
  clear hC hN hOk hsz
  go_enter Tryd.func60, Tryd.ntmps60
  go_wp2_with fail
  refine (cknode_any g i A vs.length c B labs.length d w HC.out.is (by omega)).mono ?_
  rintro e1 w1 ⟨rfl, hI1, hT1⟩
  have HC1 : Asd (CkAt lo tb w1 g (i + 1) vs labs A c B d) := ⟨HC.out.node (by simpa using hI1) hT1 (by omega)⟩
  have HB1 : Asd (Fr lo tb w w1) := ⟨hT1.belowG hgl hlg htk⟩
  have HN1 : Asd (NdAt (fun q => q < lo) w1 p (St.tn (.cont l)) (St.kids (.cont l))) := ⟨HN.out.keep (Like.of_below HB1.out.below fun q hq => hq)⟩
  obtain ⟨ks, ⟨hp, p0, p1, p2, KA, kc, p3, hkids⟩, hfo⟩ := HN1.out
  simp only [St.tn] at p0 p1 p2
  rw [St.kids] at hfo
  have HKD := Asd.mk hkids; have HFO := Asd.mk hfo
  have hgl1 := heap_lt HC1.out.is
  clear hI1 hT1 hkids hfo
  go_wp2_with fail
  refine (seen_any g _ A vs.length c B labs.length d vs l lo w1 HC1.out.is HC1.out.vrow rfl (by omega) HC1.out.names).mono ?_
  rintro e2 w2 ⟨rfl, hww⟩
  have hww := hww.symm
  subst hww
  have c2 : w1.cell? ⟨g, 2, none⟩ = some (.slice B labs.length d) := cell_of HC1.out.is 2
  go_wp2_with fail
  refine wp_region_heldB (n := 11) (fun w' => w'.cell? ⟨g, 2, none⟩ = some (.slice B labs.length d) ∧ w'.cell? ⟨p, 2, none⟩ = some (.string l)) (by kernel_rfl) (by kernel_rfl) ?_ ⟨c2, p2⟩ ?_
  · intro _ _ d _ _ h; cases d <;> exact h
  repeat (apply wpHeld_light rfl rfl rfl
          · (rintro w' ⟨s1, s2⟩; go_simp; first | done | rfl)
          simp only [Act.put, List.setIfInBounds_toArray, List.set_cons_zero, List.set_cons_succ])
  refine wpHeld_heavy rfl rfl rfl (fun K hK => ?_)
  go_wp2_with fail
  refine (ring_any B labs.length d labs l lo w1.drew HC1.out.lrow rfl (by omega)).mono ?_
  rintro e3 w3 ⟨r, rfl, hr, hr1, hr2, hww⟩
  have hww := hww.symm
  subst hww
  have HR := Asd.mk hr
  refine hK _ _ ⟨c2, p2⟩ ?_
  clear hK K hr
  cases hno : noRing labs l with
  | true =>
    have hb : decide (r < 0) = true := HR.out.trans hno
    have HNO := Asd.mk hno; clear hno
    apply wpHeld_light rfl rfl rfl
    · (rintro w' ⟨s1, s2⟩; go_simp; first | done | rfl)
    simp only [Act.put, List.setIfInBounds_toArray, List.set_cons_zero, List.set_cons_succ]
    refine wpHeld_tail rfl ?_
    go_wp2_with fail
    exact ⟨rfl, HB1.out.drewN 1, .inr ⟨69, i, by rw [ckS]; exact if_pos HNO.out, rfl⟩⟩
  | false =>
    have hb : decide (r < 0) = false := HR.out.trans hno
    have HNO := Asd.mk hno; clear hno
    apply wpHeld_light rfl rfl rfl
    · (rintro w' ⟨s1, s2⟩; go_simp; first | done | rfl)
    simp only [Act.put, List.setIfInBounds_toArray, List.set_cons_zero, List.set_cons_succ]
    refine wpHeld_tail rfl ?_
    go_wp2_with fail
    refine bodyPost_end (results_none rfl _ _ _) rfl ?_
    exact ⟨HB1.out.drewN 1, .inl ⟨vs, by rw [ckS]; exact if_neg (by have := HNO.out; unfold noRing at this; rw [this]; decide), rfl, A, c, B, d, by rw [St.size]; exact { HC1.out with }⟩⟩

set_option maxRecDepth 100000 in
set_option maxHeartbeats 3200000 in
theorem st_set (lo tb g : Nat) (s : Str) (e : Ex) : StC lo tb g (.set s e) := by
  intro w i p vs labs A c B d hC hN hOk hsz
  have HC := Asd.mk hC; have HOk := Asd.mk hOk; have HN := Asd.mk hN
  have hgl := heap_lt hC.is
  have hsmall := hC.small
  have hlow := hC.low
  have hlg := hC.glo
  have htk := hC.tok
  rw [St.size] at hsz
  have HSZ := Asd.mk hsz
  have hi : i ≤ 1048576 := by omega
  clear hC hN hOk hsz
  go_enter Tryd.func60, Tryd.ntmps60
  go_wp2_with fail
  refine (cknode_any g i A vs.length c B labs.length d w HC.out.is (by omega)).mono ?_
  rintro e1 w1 ⟨rfl, hI1, hT1⟩
  have HC1 : Asd (CkAt lo tb w1 g (i + 1) vs labs A c B d) := ⟨HC.out.node (by simpa using hI1) hT1 (by omega)⟩
  have HB1 : Asd (Fr lo tb w w1) := ⟨hT1.belowG hgl hlg htk⟩
  have HN1 : Asd (NdAt (fun q => q < lo) w1 p (St.tn (.set s e)) (St.kids (.set s e))) := ⟨HN.out.keep (Like.of_below HB1.out.below fun q hq => hq)⟩
  obtain ⟨ks, ⟨hp, p0, p1, p2, KA, kc, p3, hkids⟩, hfo⟩ := HN1.out
  simp only [St.tn] at p0 p1 p2
  rw [St.kids] at hfo
  have HKD := Asd.mk hkids; have HFO := Asd.mk hfo
  have hgl1 := heap_lt HC1.out.is
  clear hI1 hT1 hkids hfo
  go_wp2_with fail
  refine (seen_any g _ A vs.length c B labs.length d vs s lo w1 HC1.out.is HC1.out.vrow rfl (by omega) HC1.out.names).mono ?_
  rintro e2 w2 ⟨rfl, hww⟩
  have hww := hww.symm
  subst hww
  obtain ⟨q0, bs0, ks0, rfl, hk0, hf0, hr0⟩ := HFO.out
  cases hr0
  obtain ⟨kb, hkb, rfl, t0⟩ := HKD.out 0 q0 rfl
  have HK0 := Asd.mk (show NdAt (fun q => q < lo) w1 q0 _ _ from ⟨ks0, hk0, hf0⟩)
  clear hk0 hf0
  simp only [List.length_cons, List.length_nil] at p3
  have c1 : w1.cell? ⟨g, 1, none⟩ = some (.slice A vs.length c) := cell_of HC1.out.is 1
  rcases hf : findV vs s with _ | ⟨j, v⟩
  · have HS : seenI vs s = -1 := by simp only [seenI, hf]
    have HF := Asd.mk hf; clear hf
    rw [HS]
    go_wp2_with fail
    exact ⟨rfl, HB1.out, .inr ⟨67, i, by rw [ckS, HF.out], rfl⟩⟩
  · have HS : seenI vs s = (j : Int) := by simp only [seenI, hf]
    rw [HS]
    have hj : j < vs.length := (List.getElem?_eq_some_iff.1 (findV_get hf).1).1
    by_cases h11 : j < 11
    · have HF := Asd.mk hf; clear hf
      have hb : decide ((j : Int) < 11) = true := by simp; omega
      clear HS
      go_wp2_with fail
      exact ⟨rfl, HB1.out, .inr ⟨67, i, by rw [ckS, HF.out]; exact if_pos h11, rfl⟩⟩
    · have hb : decide ((j : Int) < 11) = false := by simp; omega
      have H11 := Asd.mk h11
      obtain ⟨A', c', he, _, _, _, hr⟩ := owns_shape HC1.out.vrow
      injection he with he _ _
      subst he
      obtain ⟨vb, rfl, hvb, hvk⟩ := hr _ _ (varCells_get vs j v (findV_get hf).1).2.1
      have HKI : Asd (0 ≤ v.kind ∧ v.kind ≤ 2) := ⟨by have := HC1.out.kinds j v (findV_get hf).1; omega⟩
      have HF := Asd.mk hf; clear hf hr HS h11
      go_wp2_with fail
      refine wp_region_heldB (n := 16) (fun w' => w'.cell? ⟨p, 3, none⟩ = some (.slice (some ⟨kb, 0, none⟩) 1 kc) ∧ w'.cell? ⟨kb, 0, none⟩ = some (.pointer (some ⟨q0, 0, none⟩)) ∧ w'.cell? ⟨g, 1, none⟩ = some (.slice (some ⟨vb, 0, none⟩) vs.length c) ∧ w'.cell? ⟨vb, j * 3 + 1, none⟩ = some (.int .i64 v.kind)) (by kernel_rfl) (by kernel_rfl) ?_ ⟨p3, t0, c1, hvk⟩ ?_
      · intro _ _ d _ _ h; cases d <;> exact h
      repeat (apply wpHeld_light rfl rfl rfl
              · (rintro w' ⟨s1, s2, s3, s4⟩; go_simp; first | done | rfl)
              simp only [Act.put, List.setIfInBounds_toArray, List.set_cons_zero, List.set_cons_succ])
      refine wpHeld_heavy rfl rfl rfl (fun K hK => ?_)
      have HCD : Asd (CkAt lo tb w1.drew g (i + 1) vs labs (some ⟨vb, 0, none⟩) c B d) := ⟨{ HC1.out with }⟩
      have HXD : Asd (Fr lo tb w1 w1.drew) := ⟨(Fr.refl _ _ _).drewN 1⟩
      go_wp2_with fail
      refine (expr_any g lo (some ⟨vb, 0, none⟩) c vs B labs.length d hlg HC1.out.vg HC1.out.names HC1.out.kinds (by omega) e w1.drew (i + 1) q0 v.kind HCD.out.is HCD.out.vrow (HK0.out.keep (fun _ _ => rfl)) (by have := HOk.out; rw [St.Ok] at this; exact this.2) (by have := HSZ.out; omega) HKI.out.1 HKI.out.2).mono ?_
      rintro e3 w3 ⟨hTw3, ⟨kw3, rfl, hIw3⟩ | ⟨code, at_, kw3, rfl⟩⟩
      rotate_left
      · (try go_wp2_with fail)
        exact ⟨rfl, (HB1.out.trans HXD.out).trans (hTw3.belowG (heap_lt HCD.out.is) hlg HCD.out.tok), .inr ⟨code, at_, by rw [ckS, HF.out]; simp only [H11.out, if_false, kw3], by first | rfl | assumption | (symm; assumption)⟩⟩
      have HCw3 : Asd (CkAt lo tb w3 g (i + 1 + e.size) vs labs (some ⟨vb, 0, none⟩) c B d) := ⟨HCD.out.node hIw3 hTw3 (by omega)⟩
      have HBw3 : Asd (Fr lo tb w w3) := ⟨(HB1.out.trans HXD.out).trans (hTw3.belowG (heap_lt HCD.out.is) hlg HCD.out.tok)⟩
      have HXw3 : Asd (Fr lo tb w1 w3) := ⟨HXD.out.trans (hTw3.belowG (heap_lt HCD.out.is) hlg HCD.out.tok)⟩
      have HEw3 := Asd.mk kw3
      have p3' := (World.cell?_of_block (w := w1) (a := ⟨p, 3, none⟩) (HXw3.out.block _ hp)).trans p3
      have t0' := (World.cell?_of_block (w := w1) (a := ⟨kb, 0, none⟩) (HXw3.out.block _ hkb)).trans t0
      have hvk' : w3.cell? ⟨vb, j * 3 + 1, none⟩ = some (.int .i64 v.kind) := hTw3.cell_some (w := w1.drew) hvk (by intro he; exact HC1.out.vg (by rw [show vb = g from he]; rfl))
      have c1' : w3.cell? ⟨g, 1, none⟩ = some (.slice (some ⟨vb, 0, none⟩) vs.length c) := cell_of HCw3.out.is 1
      clear hTw3 kw3 hIw3
      refine hK _ _ ⟨p3', t0', c1', hvk'⟩ ?_
      clear hK K
      refine wpHeld_tail rfl ?_
      go_wp2_with fail
      refine bodyPost_end (results_none rfl _ _ _) rfl ?_
      exact ⟨HBw3.out, .inl ⟨vs, by rw [ckS, HF.out]; simp only [H11.out, if_false, HEw3.out], rfl, some ⟨vb, 0, none⟩, c, B, d, by rw [St.size, ← Nat.add_assoc]; exact HCw3.out⟩⟩

set_option maxRecDepth 100000 in
set_option maxHeartbeats 3200000 in
theorem st_ite (lo tb g : Nat) (e : Ex) (a b : Blk) (iha : BlkC lo tb g a) (ihb : BlkC lo tb g b) : StC lo tb g (.ite e a b) := by
  have IHA := Asd.mk iha; have IHB := Asd.mk ihb; clear iha ihb
  intro w i p vs labs A c B d hC hN hOk hsz
  have HC := Asd.mk hC; have HOk := Asd.mk hOk; have HN := Asd.mk hN
  have hgl := heap_lt hC.is
  have hsmall := hC.small
  have hlow := hC.low
  have hlg := hC.glo
  have htk := hC.tok
  rw [St.size] at hsz
  have HSZ := Asd.mk hsz
  have hi : i ≤ 1048576 := by omega
  clear hC hN hOk hsz
  go_enter Tryd.func60, Tryd.ntmps60
  go_wp2_with fail
  refine (cknode_any g i A vs.length c B labs.length d w HC.out.is (by omega)).mono ?_
  rintro e1 w1 ⟨rfl, hI1, hT1⟩
  have HC1 : Asd (CkAt lo tb w1 g (i + 1) vs labs A c B d) := ⟨HC.out.node (by simpa using hI1) hT1 (by omega)⟩
  have HB1 : Asd (Fr lo tb w w1) := ⟨hT1.belowG hgl hlg htk⟩
  have HN1 : Asd (NdAt (fun q => q < lo) w1 p (St.tn (.ite e a b)) (St.kids (.ite e a b))) := ⟨HN.out.keep (Like.of_below HB1.out.below fun q hq => hq)⟩
  obtain ⟨ks, ⟨hp, p0, p1, p2, KA, kc, p3, hkids⟩, hfo⟩ := HN1.out
  simp only [St.tn] at p0 p1 p2
  rw [St.kids] at hfo
  have HKD := Asd.mk hkids; have HFO := Asd.mk hfo
  have hgl1 := heap_lt HC1.out.is
  clear hI1 hT1 hkids hfo
  go_wp2_with fail
  refine (seen_any g _ A vs.length c B labs.length d vs empty lo w1 HC1.out.is HC1.out.vrow rfl (by omega) HC1.out.names).mono ?_
  rintro e2 w2 ⟨rfl, hww⟩
  have hww := hww.symm
  subst hww
  obtain ⟨q0, bs0, ks0, rfl, hk0, hf0, hr0⟩ := HFO.out
  obtain ⟨q1, bs1, ks1, rfl, hk1, hf1, hr1⟩ := hr0
  obtain ⟨q2, bs2, ks2, rfl, hk2, hf2, hr2⟩ := hr1
  cases hr2
  obtain ⟨kb, hkb, rfl, t0⟩ := HKD.out 0 q0 rfl
  obtain ⟨kb', _, hkk, t1⟩ := HKD.out 1 q1 rfl
  injection hkk with hkk
  injection hkk with hkk _ _
  subst hkk
  obtain ⟨kb', _, hkk, t2⟩ := HKD.out 2 q2 rfl
  injection hkk with hkk
  injection hkk with hkk _ _
  subst hkk
  have HK0 := Asd.mk (show NdAt (fun q => q < lo) w1 q0 _ _ from ⟨ks0, hk0, hf0⟩)
  have HK1 := Asd.mk (show NdAt (fun q => q < lo) w1 q1 _ _ from ⟨ks1, hk1, hf1⟩)
  have HK2 := Asd.mk (show NdAt (fun q => q < lo) w1 q2 _ _ from ⟨ks2, hk2, hf2⟩)
  clear hk0 hf0 hk1 hf1 hk2 hf2
  simp only [List.length_cons, List.length_nil] at p3
  go_wp2_with fail
  refine (expr_any g lo A c vs B labs.length d hlg HC1.out.vg HC1.out.names HC1.out.kinds (by omega) e w1 (i + 1) q0 2 HC1.out.is HC1.out.vrow (HK0.out) (by have := HOk.out; rw [St.Ok] at this; exact this.1) (by have := HSZ.out; omega) (by decide) (by decide)).mono ?_
  rintro e3 w3 ⟨hTw3, ⟨kw3, rfl, hIw3⟩ | ⟨code, at_, kw3, rfl⟩⟩
  rotate_left
  · (try go_wp2_with fail)
    exact ⟨rfl, HB1.out.trans (hTw3.belowG (heap_lt HC1.out.is) hlg HC1.out.tok), .inr ⟨code, at_, by rw [ckS, kw3], by first | rfl | assumption | (symm; assumption)⟩⟩
  have HCw3 : Asd (CkAt lo tb w3 g (i + 1 + e.size) vs labs A c B d) := ⟨HC1.out.node hIw3 hTw3 (by omega)⟩
  have HBw3 : Asd (Fr lo tb w w3) := ⟨HB1.out.trans (hTw3.belowG (heap_lt HC1.out.is) hlg HC1.out.tok)⟩
  have HXw3 : Asd (Fr lo tb w1 w3) := ⟨hTw3.belowG (heap_lt HC1.out.is) hlg HC1.out.tok⟩
  have HEw3 := Asd.mk kw3
  have p3' := (World.cell?_of_block (w := w1) (a := ⟨p, 3, none⟩) (HXw3.out.block _ hp)).trans p3
  have t0' := (World.cell?_of_block (w := w1) (a := ⟨kb, 0, none⟩) (HXw3.out.block _ hkb)).trans t0
  have t1' := (World.cell?_of_block (w := w1) (a := ⟨kb, 1, none⟩) (HXw3.out.block _ hkb)).trans t1
  have t2' := (World.cell?_of_block (w := w1) (a := ⟨kb, 2, none⟩) (HXw3.out.block _ hkb)).trans t2
  clear hTw3 kw3 hIw3
  go_wp2_with fail
  refine (IHA.out w3 (i + 1 + e.size) q1 vs (labs) _ _ _ _ HCw3.out (HK1.out.keep (Like.of_below HXw3.out.below fun q hq => hq)) (by have := HOk.out; rw [St.Ok] at this; exact this.2.1) (by have := HSZ.out; omega)).mono ?_
  rintro e3 w4 ⟨hBw4, ⟨kw4, rfl, Aw4, cw4, Bw4, dw4, hCw4⟩ | ⟨code, at_, kw4, rfl⟩⟩
  rotate_left
  · (try go_wp2_with fail)
    exact ⟨rfl, HBw3.out.trans hBw4, .inr ⟨code, at_, by rw [ckS, HEw3.out]; simp only [kw4], by first | rfl | assumption | (symm; assumption)⟩⟩
  have HCw4 := Asd.mk hCw4
  have HBw4 : Asd (Fr lo tb w w4) := ⟨HBw3.out.trans hBw4⟩
  have HXw4 : Asd (Fr lo tb w1 w4) := ⟨HXw3.out.trans hBw4⟩
  have HEw4 := Asd.mk kw4
  have p3' := (World.cell?_of_block (w := w1) (a := ⟨p, 3, none⟩) (HXw4.out.block _ hp)).trans p3
  have t0' := (World.cell?_of_block (w := w1) (a := ⟨kb, 0, none⟩) (HXw4.out.block _ hkb)).trans t0
  have t1' := (World.cell?_of_block (w := w1) (a := ⟨kb, 1, none⟩) (HXw4.out.block _ hkb)).trans t1
  have t2' := (World.cell?_of_block (w := w1) (a := ⟨kb, 2, none⟩) (HXw4.out.block _ hkb)).trans t2
  clear hBw4 kw4 hCw4
  go_wp2_with fail
  refine (IHB.out w4 (i + 1 + e.size + a.size) q2 vs (labs) _ _ _ _ HCw4.out (HK2.out.keep (Like.of_below HXw4.out.below fun q hq => hq)) (by have := HOk.out; rw [St.Ok] at this; exact this.2.2) (by have := HSZ.out; omega)).mono ?_
  rintro e3 w5 ⟨hBw5, ⟨kw5, rfl, Aw5, cw5, Bw5, dw5, hCw5⟩ | ⟨code, at_, kw5, rfl⟩⟩
  rotate_left
  · (try go_wp2_with fail)
    exact ⟨rfl, HBw4.out.trans hBw5, .inr ⟨code, at_, by rw [ckS, HEw3.out]; simp only [HEw4.out, kw5], by first | rfl | assumption | (symm; assumption)⟩⟩
  have HCw5 := Asd.mk hCw5
  have HBw5 : Asd (Fr lo tb w w5) := ⟨HBw4.out.trans hBw5⟩
  have HXw5 : Asd (Fr lo tb w1 w5) := ⟨HXw4.out.trans hBw5⟩
  have HEw5 := Asd.mk kw5
  have p3' := (World.cell?_of_block (w := w1) (a := ⟨p, 3, none⟩) (HXw5.out.block _ hp)).trans p3
  have t0' := (World.cell?_of_block (w := w1) (a := ⟨kb, 0, none⟩) (HXw5.out.block _ hkb)).trans t0
  have t1' := (World.cell?_of_block (w := w1) (a := ⟨kb, 1, none⟩) (HXw5.out.block _ hkb)).trans t1
  have t2' := (World.cell?_of_block (w := w1) (a := ⟨kb, 2, none⟩) (HXw5.out.block _ hkb)).trans t2
  clear hBw5 kw5 hCw5
  go_wp2_with fail
  refine bodyPost_end (results_none rfl _ _ _) rfl ?_
  exact ⟨HBw5.out, .inl ⟨vs, by rw [ckS, HEw3.out]; simp only [HEw4.out, HEw5.out], rfl, Aw5, cw5, Bw5, dw5, by rw [St.size, show i + (1 + e.size + a.size + b.size) = i + 1 + e.size + a.size + b.size by omega]; exact HCw5.out⟩⟩
end Go.Proofs.YtocbblafgjpbeaaDoor.Sp
