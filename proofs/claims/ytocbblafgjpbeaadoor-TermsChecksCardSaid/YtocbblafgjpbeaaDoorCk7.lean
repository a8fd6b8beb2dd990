/- Walks: the checker's let (printed by gen_st.py); all statements and blocks. -/
import Derived.Test.YtocbblafgjpbeaaDoorCk6
namespace Go.Proofs.YtocbblafgjpbeaaDoor.Sp
open Go.RowKit
set_option linter.unusedVariables false
set_option linter.unusedSimpArgs false

set_option maxRecDepth 100000 in
set_option maxHeartbeats 3200000 in
theorem st_let (lo tb g : Nat) (s : Str) (e : Ex) : StC lo tb g (.let_ s e) := by
  intro w i p vs labs A c B d hC hN hOk hsz
  have HC := Asd.mk hC; have HOk := Asd.mk hOk; have HN := Asd.mk hN
  have hgl := heap_lt hC.is
  have hsmall := hC.small
  have hlow := hC.low
  have hlg := hC.glo
  have htk := hC.tok
  rw [St.size] at hsz
  have HSZ := Asd.mk hsz
  have hi : i ≤ 1048576 := by omega
  clear hC hN hOk hsz
  go_enter Tryd.func60, Tryd.ntmps60
  go_wp2_with fail
  refine (cknode_any g i A vs.length c B labs.length d w HC.out.is (by omega)).mono ?_
  rintro e1 w1 ⟨rfl, hI1, hT1⟩
  have HC1 : Asd (CkAt lo tb w1 g (i + 1) vs labs A c B d) := ⟨HC.out.node (by simpa using hI1) hT1 (by omega)⟩
  have HB1 : Asd (Fr lo tb w w1) := ⟨hT1.belowG hgl hlg htk⟩
  have HN1 : Asd (NdAt (fun q => q < lo) w1 p (St.tn (.let_ s e)) (St.kids (.let_ s e))) := ⟨HN.out.keep (Like.of_below HB1.out.below fun q hq => hq)⟩
  obtain ⟨ks, ⟨hp, p0, p1, p2, KA, kc, p3, hkids⟩, hfo⟩ := HN1.out
  simp only [St.tn] at p0 p1 p2
  rw [St.kids] at hfo
  have HKD := Asd.mk hkids; have HFO := Asd.mk hfo
  have hgl1 := heap_lt HC1.out.is
  clear hI1 hT1 hkids hfo
  go_wp2_with fail
  refine (seen_any g _ A vs.length c B labs.length d vs s lo w1 HC1.out.is HC1.out.vrow rfl (by omega) HC1.out.names).mono ?_
  rintro e2 w2 ⟨rfl, hww⟩
  have hww := hww.symm
  subst hww
  obtain ⟨q0, bs0, ks0, rfl, hk0, hf0, hr0⟩ := HFO.out
  cases hr0
  obtain ⟨kb, hkb, rfl, t0⟩ := HKD.out 0 q0 rfl
  have HK0 := Asd.mk (show NdAt (fun q => q < lo) w1 q0 _ _ from ⟨ks0, hk0, hf0⟩)
  clear hk0 hf0
  simp only [List.length_cons, List.length_nil] at p3
  have c1 : w1.cell? ⟨g, 1, none⟩ = some (.slice A vs.length c) := cell_of HC1.out.is 1
  rcases hf : findV vs s with _ | ⟨j, v⟩
  rotate_left
  · have HS : seenI vs s = (j : Int) := by simp only [seenI, hf]
    have HF := Asd.mk hf; clear hf
    have hj0 : (0 : Int) ≤ (j : Int) := Int.natCast_nonneg _
    rw [HS]
    clear HS
    go_wp2_with fail
    exact ⟨rfl, HB1.out, .inr ⟨67, i, by rw [ckS, HF.out]; rfl, rfl⟩⟩
  have HS : seenI vs s = -1 := by simp only [seenI, hf]
  have HF := Asd.mk hf; clear hf
  rw [HS]
  clear HS
  by_cases h19 : 19 ≤ vs.length
  · have hb : decide ((19 : Int) ≤ (vs.length : Int)) = true := by simp; omega
    have hb2 : decide (19 ≤ vs.length) = true := by simp; omega
    have H19 := Asd.mk h19; clear h19
    go_wp2_with fail
    exact ⟨rfl, HB1.out, .inr ⟨63, i, by rw [ckS, HF.out]; simp only [H19.out, if_true]; rfl, rfl⟩⟩
  have hb : decide ((19 : Int) ≤ (vs.length : Int)) = false := by simp; omega
  have hb2 : decide (19 ≤ vs.length) = false := by simp; omega
  have H19 := Asd.mk h19; clear h19
  go_wp2_with fail
  refine wp_region_heldB (n := 21) (fun w' => w'.cell? ⟨p, 3, none⟩ = some (.slice (some ⟨kb, 0, none⟩) 1 kc) ∧ w'.cell? ⟨kb, 0, none⟩ = some (.pointer (some ⟨q0, 0, none⟩)) ∧ w'.cell? ⟨g, 1, none⟩ = some (.slice A vs.length c) ∧ w'.cell? ⟨p, 2, none⟩ = some (.string s)) (by kernel_rfl) (by kernel_rfl) ?_ ⟨p3, t0, c1, p2⟩ ?_
  · intro _ _ d _ _ h; cases d <;> exact h
  repeat (apply wpHeld_light rfl rfl rfl
          · (rintro w' ⟨s1, s2, s3, s4⟩; go_simp; first | done | rfl)
          simp only [Act.put, List.setIfInBounds_toArray, List.set_cons_zero, List.set_cons_succ])
  refine wpHeld_heavy rfl rfl rfl (fun K hK => ?_)
  have HCD : Asd (CkAt lo tb w1.drew g (i + 1) vs labs A c B d) := ⟨{ HC1.out with }⟩
  have HXD : Asd (Fr lo tb w1 w1.drew) := ⟨(Fr.refl _ _ _).drewN 1⟩
  go_wp2_with fail
  refine (expr_any g lo A c vs B labs.length d hlg HC1.out.vg HC1.out.names HC1.out.kinds (by omega) e w1.drew (i + 1) q0 0 HCD.out.is HCD.out.vrow (HK0.out.keep (fun _ _ => rfl)) (by have := HOk.out; rw [St.Ok] at this; exact this.2) (by have := HSZ.out; omega) (by decide) (by decide)).mono ?_
  rintro e3 w3 ⟨hTw3, ⟨kw3, rfl, hIw3⟩ | ⟨code, at_, kw3, rfl⟩⟩
  rotate_left
  · (try go_wp2_with fail)
    exact ⟨rfl, (HB1.out.trans HXD.out).trans (hTw3.belowG (heap_lt HCD.out.is) hlg HCD.out.tok), .inr ⟨code, at_, by rw [ckS, HF.out]; simp only [H19.out, if_false, kw3]; rfl, by first | rfl | assumption | (symm; assumption)⟩⟩
  have HCw3 : Asd (CkAt lo tb w3 g (i + 1 + e.size) vs labs A c B d) := ⟨HCD.out.node hIw3 hTw3 (by omega)⟩
  have HBw3 : Asd (Fr lo tb w w3) := ⟨(HB1.out.trans HXD.out).trans (hTw3.belowG (heap_lt HCD.out.is) hlg HCD.out.tok)⟩
  have HXw3 : Asd (Fr lo tb w1 w3) := ⟨HXD.out.trans (hTw3.belowG (heap_lt HCD.out.is) hlg HCD.out.tok)⟩
  have HEw3 := Asd.mk kw3
  have p3' := (World.cell?_of_block (w := w1) (a := ⟨p, 3, none⟩) (HXw3.out.block _ hp)).trans p3
  have t0' := (World.cell?_of_block (w := w1) (a := ⟨kb, 0, none⟩) (HXw3.out.block _ hkb)).trans t0
  have p2' := (World.cell?_of_block (w := w1) (a := ⟨p, 2, none⟩) (HXw3.out.block _ hp)).trans p2
  have c1' : w3.cell? ⟨g, 1, none⟩ = some (.slice A vs.length c) := cell_of HCw3.out.is 1
  clear hTw3 kw3 hIw3
  have HKI : Asd (kindE vs e = 1 ∨ kindE vs e = 2) := ⟨ckE_none_kind HC1.out.kinds HEw3.out⟩
  have HLG : Asd (∀ k, (Value.slice A vs.length c).ownBlock = some k → lo ≤ k ∧ k ≠ g) := ⟨fun k hk => ⟨(HCw3.out.vrow.lt k hk).1, fun he => HCw3.out.vg (he ▸ hk)⟩⟩
  have hpw3 : p < w3.heap.size := World.block_lt_of_cell? _ _ p2'
  have hgw3 : g < w3.heap.size := World.block_lt_of_cell? _ _ c1'
  have hkw3 : kb < w3.heap.size := World.block_lt_of_cell? _ _ t0'
  refine hK _ _ ⟨p3', t0', c1', p2'⟩ ?_
  clear hK K
  apply wpHeld_light rfl rfl rfl
  · (rintro w' ⟨s1, s2, s3, s4⟩; go_simp; first | done | rfl)
  simp only [Act.put, List.setIfInBounds_toArray, List.set_cons_zero, List.set_cons_succ]
  refine wpHeld_heavy rfl rfl rfl (fun K hK => ?_)
  go_simp
  refine hK _ _ ⟨?_, ?_, ?_, ?_⟩ ?_
  · exact (World.cell?_of_block (w := w3) (a := ⟨p, 3, none⟩) (Below.heap_alloc w3 _ p hpw3)).trans p3'
  · exact (World.cell?_of_block (w := w3) (a := ⟨kb, 0, none⟩) (Below.heap_alloc w3 _ kb hkw3)).trans t0'
  · exact (World.cell?_of_block (w := w3) (a := ⟨g, 1, none⟩) (Below.heap_alloc w3 _ g hgw3)).trans c1'
  · exact (World.cell?_of_block (w := w3) (a := ⟨p, 2, none⟩) (Below.heap_alloc w3 _ p hpw3)).trans p2'
  clear hK K
  refine wpHeld_app rfl rfl (.tmp 42) (.tmp 57) 77 rfl lo 149 3 32 _ Tryd.underlying77 var_info rfl (by decide) (by decide) (.slice A vs.length c) vs.length _ rfl (HCw3.out.vrow.alloc _) w3.heap.size 1 1 (Var.cells ⟨s, kindE vs e, 0⟩) _ _ rfl (heap_alloc_new w3 _) rfl (by simp [Var.cells, Value.oneCell']) (by decide) (by omega) (by simp; omega) ?_
  intro q d' w4 ho hT hq hlt
  obtain ⟨hC4, hX4⟩ := CkAt.pushV HCw3.out ⟨s, kindE vs e, 0⟩ HF.out HKI.out (by have := H19.out; omega) ho hT (by simpa using hq)
  have c4 : w4.cell? ⟨g, 1, none⟩ = some (.slice A vs.length c) := hT.cell_some (a := ⟨g, 1, none⟩) ((World.cell?_of_block (w := w3) (a := ⟨g, 1, none⟩) (Below.heap_alloc w3 _ g hgw3)).trans c1') (fun hk => by have := HLG.out g hk; omega)
  have p4 : w4.cell? ⟨p, 2, none⟩ = some (.string s) := hT.cell_some (a := ⟨p, 2, none⟩) ((World.cell?_of_block (w := w3) (a := ⟨p, 2, none⟩) (Below.heap_alloc w3 _ p hpw3)).trans p2') (fun hk => by have := HLG.out p hk; omega)
  have p34 : w4.cell? ⟨p, 3, none⟩ = some (.slice (some ⟨kb, 0, none⟩) 1 kc) := hT.cell_some (a := ⟨p, 3, none⟩) ((World.cell?_of_block (w := w3) (a := ⟨p, 3, none⟩) (Below.heap_alloc w3 _ p hpw3)).trans p3') (fun hk => by have := HLG.out p hk; omega)
  have t04 : w4.cell? ⟨kb, 0, none⟩ = some (.pointer (some ⟨q0, 0, none⟩)) := hT.cell_some (a := ⟨kb, 0, none⟩) ((World.cell?_of_block (w := w3) (a := ⟨kb, 0, none⟩) (Below.heap_alloc w3 _ kb hkw3)).trans t0') (fun hk => by have := HLG.out kb hk; omega)
  have f4 : w4.frozen? ⟨g, 1, none⟩ = false :=
    (hT.frozen (a := ⟨g, 1, none⟩) (by simp; omega) (fun hk => by have := HLG.out g hk; omega)).trans ((World.frozen?_of_block (w := w3) (a := ⟨g, 1, none⟩) (Below.heap_alloc w3 _ g hgw3)).trans (frozen_of HCw3.out.is 1))
  clear ho hT hq
  refine ⟨⟨p34, t04, c4, p4⟩, ?_⟩
  refine wpHeld_tail rfl ?_
  have HX4 := Asd.mk hX4; have HC4 := Asd.mk hC4
  clear hX4 hC4
  go_wp2_with fail
  refine bodyPost_end (results_none rfl _ _ _) rfl ?_
  exact ⟨HB1.out.trans (HXw3.out.trans HX4.out), .inl ⟨_, by rw [ckS, HF.out]; simp only [H19.out, if_false, HEw3.out]; rfl, rfl, _, _, _, _, by rw [St.size, ← Nat.add_assoc]; exact HC4.out⟩⟩

mutual
theorem st_all (lo tb g : Nat) : ∀ s : St, StC lo tb g s
  | .let_ s e => st_let lo tb g s e
  | .set s e => st_set lo tb g s e
  | .ite e a b => st_ite lo tb g e a b (blk_all lo tb g a) (blk_all lo tb g b)
  | .while l e b => st_while lo tb g l e b (blk_all lo tb g b)
  | .brk l => st_brk lo tb g l
  | .cont l => st_cont lo tb g l
  | .req n e => st_req lo tb g n e
  | .pay a b => st_pay lo tb g a b
  | .fail n => st_fail lo tb g n
  | .done => st_done lo tb g
theorem blk_list (lo tb g : Nat) : ∀ (b : Blk) (k : Nat) (s : St), b.list[k]? = some s → StC lo tb g s
  | .nil, k, s, h => by simp [Blk.list] at h
  | .cons x b, 0, s, h => by
    have h : x = s := by simpa [Blk.list] using h
    exact h ▸ st_all lo tb g x
  | .cons x b, k + 1, s, h => blk_list lo tb g b k s (by simpa [Blk.list] using h)
theorem blk_all (lo tb g : Nat) : ∀ b : Blk, BlkC lo tb g b
  | .nil => blk_step lo tb g .nil (fun k s h => by simp [Blk.list] at h)
  | .cons x b => blk_step lo tb g (.cons x b) (fun k s h => match k, h with
    | 0, h => by
      have h : x = s := by simpa [Blk.list] using h
      exact h ▸ st_all lo tb g x
    | k + 1, h => blk_list lo tb g b k s (by simpa [Blk.list] using h))
end
end Go.Proofs.YtocbblafgjpbeaaDoor.Sp
