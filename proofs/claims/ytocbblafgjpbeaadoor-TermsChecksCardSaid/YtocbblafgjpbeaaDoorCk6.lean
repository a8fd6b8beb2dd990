/- Walks: the checker's while (printed by gen_st.py). -/
import Derived.Test.YtocbblafgjpbeaaDoorCk5
namespace Go.Proofs.YtocbblafgjpbeaaDoor.Sp
open Go.RowKit
set_option linter.unusedVariables false
set_option linter.unusedSimpArgs false

theorem has_last {labs : List Str} {l : Str} (h : ∀ (j : Nat) (v : Str), labs[j]? = some v → (!v.toList.isEmpty && v.toList == l.toList) = false) : (!sEq l empty && hasL labs l) = false := by
  cases hl : hasL labs l with
  | false => simp
  | true =>
    simp only [hasL, List.any_eq_true] at hl
    obtain ⟨m, hm, he⟩ := hl
    obtain ⟨j, hj⟩ := List.getElem?_of_mem hm
    have h2 := h j m hj
    have e := sEq_iff.1 he
    subst e
    have h3 : m.toList.isEmpty = true := by simpa using h2
    have : sEq m empty = m.toList.isEmpty := by unfold sEq; rw [toList_empty]; cases m.toList <;> rfl
    rw [this, h3]; rfl
theorem has_hit {labs : List Str} {l v : Str} {j : Nat} (h : labs[j]? = some v) (h1 : v.toList.isEmpty = false) (h2 : (v.toList == l.toList) = true) : (!sEq l empty && hasL labs l) = true := by
  have e := sEq_iff.1 (show sEq v l = true from h2)
  subst e
  have : sEq v empty = v.toList.isEmpty := by unfold sEq; rw [toList_empty]; cases v.toList <;> rfl
  rw [this, h1, hasL_true h (sEq_refl v)]; rfl

set_option maxRecDepth 100000 in
set_option maxHeartbeats 3200000 in
theorem st_while (lo tb g : Nat) (l : Str) (e : Ex) (b : Blk) (ih : BlkC lo tb g b) : StC lo tb g (.while l e b) := by
  have IHB := Asd.mk ih; clear ih
  intro w i p vs labs A c B d hC hN hOk hsz
  have HC := Asd.mk hC; have HOk := Asd.mk hOk; have HN := Asd.mk hN
  have hgl := heap_lt hC.is
  have hsmall := hC.small
  have hlow := hC.low
  have hlg := hC.glo
  have htk := hC.tok
  rw [St.size] at hsz
  have HSZ := Asd.mk hsz
  have hi : i ≤ 1048576 := by omega
  clear hC hN hOk hsz
  go_enter Tryd.func60, Tryd.ntmps60
  go_wp2_with fail
  refine (cknode_any g i A vs.length c B labs.length d w HC.out.is (by omega)).mono ?_
  rintro e1 w1 ⟨rfl, hI1, hT1⟩
  have HC1 : Asd (CkAt lo tb w1 g (i + 1) vs labs A c B d) := ⟨HC.out.node (by simpa using hI1) hT1 (by omega)⟩
  have HB1 : Asd (Fr lo tb w w1) := ⟨hT1.belowG hgl hlg htk⟩
  have HN1 : Asd (NdAt (fun q => q < lo) w1 p (St.tn (.while l e b)) (St.kids (.while l e b))) := ⟨HN.out.keep (Like.of_below HB1.out.below fun q hq => hq)⟩
  obtain ⟨ks, ⟨hp, p0, p1, p2, KA, kc, p3, hkids⟩, hfo⟩ := HN1.out
  simp only [St.tn] at p0 p1 p2
  rw [St.kids] at hfo
  have HKD := Asd.mk hkids; have HFO := Asd.mk hfo
  have hgl1 := heap_lt HC1.out.is
  clear hI1 hT1 hkids hfo
  go_wp2_with fail
  refine (seen_any g _ A vs.length c B labs.length d vs l lo w1 HC1.out.is HC1.out.vrow rfl (by omega) HC1.out.names).mono ?_
  rintro e2 w2 ⟨rfl, hww⟩
  have hww := hww.symm
  subst hww
  obtain ⟨q0, bs0, ks0, rfl, hk0, hf0, hr0⟩ := HFO.out
  obtain ⟨q1, bs1, ks1, rfl, hk1, hf1, hr1⟩ := hr0
  cases hr1
  obtain ⟨kb, hkb, rfl, t0⟩ := HKD.out 0 q0 rfl
  obtain ⟨kb', _, hkk, t1⟩ := HKD.out 1 q1 rfl
  injection hkk with hkk
  injection hkk with hkk _ _
  subst hkk
  have HK0 := Asd.mk (show NdAt (fun q => q < lo) w1 q0 _ _ from ⟨ks0, hk0, hf0⟩)
  have HK1 := Asd.mk (show NdAt (fun q => q < lo) w1 q1 _ _ from ⟨ks1, hk1, hf1⟩)
  clear hk0 hf0 hk1 hf1
  simp only [List.length_cons, List.length_nil] at p3
  have c2 : w1.cell? ⟨g, 2, none⟩ = some (.slice B labs.length d) := cell_of HC1.out.is 2
  have HLV : Asd (∀ (j : Nat) (v : Str), labs[j]? = some v → ∃ b, B = some ⟨b, 0, none⟩ ∧ w1.cell? ⟨b, j, none⟩ = some (.string v)) := ⟨by
    obtain ⟨A', c', he, _, _, _, hr⟩ := owns_shape HC1.out.lrow
    injection he with he _ _
    subst he
    intro j v hj
    obtain ⟨b, h1, _, h2⟩ := hr j (.string v) (by simp [labCells, hj])
    exact ⟨b, h1, h2⟩⟩
  go_upto_block 1 with fail
  go_cut [7] (fun v wx => (!sEq l empty && hasL labs l) = false ∧ wx = w1)
  case first =>
    go_wp2_with fail
    go_loop [117] (fun iv => ∃ k : Nat, iv = .int .i64 (k : Int) ∧ k ≤ labs.length ∧ Asd (∀ (j : Nat) (v : Str), j < k → labs[j]? = some v → (!v.toList.isEmpty && v.toList == l.toList) = false)) (fun iv => labs.length - (intOf iv).toNat)
    case atStart => exact ⟨0, rfl, Nat.zero_le _, ⟨fun j v hj => by omega⟩⟩
    case round =>
      obtain ⟨k, rfl, hk, HM⟩ := hrel
      by_cases hlt : k < labs.length
      · obtain ⟨v, hv⟩ : ∃ v, labs[k]? = some v := ⟨_, List.getElem?_eq_getElem hlt⟩
        obtain ⟨lb, rfl, hc⟩ := HLV.out k v hv
        have HX := Asd.mk hv; clear hv
        have hk0 : (0 : Int) ≤ (k : Int) := Int.natCast_nonneg _
        have hk1 : (k : Int) < (labs.length : Int) := by omega
        have hstep : (!v.toList.isEmpty && v.toList == l.toList) = false → Asd (∀ (j : Nat) (u : Str), j < k + 1 → labs[j]? = some u → (!u.toList.isEmpty && u.toList == l.toList) = false) := fun h => ⟨fun j u hj hu => by
          by_cases hjk : j = k
          · subst hjk; have := HX.out; rw [this] at hu; injection hu with hu; subst hu; exact h
          · exact HM.out j u (by omega) hu⟩
        have HST := Asd.mk hstep; clear hstep
        cases hem : v.toList.isEmpty with
        | true =>
          have hem2 : v.toList = [] := by simpa using hem
          have HS : Asd ((!v.toList.isEmpty && v.toList == l.toList) = false) := ⟨by rw [hem]; rfl⟩
          go_wp2_with fail
          go_round
          case rel => exact ⟨k + 1, by go_num, hlt, HST.out HS.out⟩
          case measure => simp [intOf]; omega
        | false =>
          have hem2 : ¬ v.toList = [] := by intro h; rw [h] at hem; cases hem
          cases hs : (v.toList == l.toList) with
          | true =>
            have HR : Asd ((!sEq l empty && hasL labs l) = true) := ⟨has_hit HX.out hem hs⟩
            go_wp2_with fail
            exact ⟨rfl, HB1.out, .inr ⟨69, i, by rw [ckS]; exact if_pos HR.out, rfl⟩⟩
          | false =>
            have HS : Asd ((!v.toList.isEmpty && v.toList == l.toList) = false) := ⟨by rw [hs]; simp⟩
            go_wp2_with fail
            go_round
            case rel => exact ⟨k + 1, by go_num, hlt, HST.out HS.out⟩
            case measure => simp [intOf]; omega
      · have hke : k = labs.length := by omega
        have HF : Asd ((!sEq l empty && hasL labs l) = false) := ⟨has_last fun j v hj => HM.out j v (by have := (List.getElem?_eq_some_iff.1 hj).1; omega) hj⟩
        have hk1 : ¬ (k : Int) < (labs.length : Int) := by omega
        go_wp2_with fail
        go_meet
        exact ⟨HF.out, rfl⟩
  case rest =>
    obtain ⟨hno, hww⟩ := hcut
    have hww := hww.symm
    subst hww
    have HNO := Asd.mk hno; clear hno
    go_wp2_with fail
    refine (expr_any g lo A c vs B labs.length d hlg HC1.out.vg HC1.out.names HC1.out.kinds (by omega) e w1 (i + 1) q0 2 HC1.out.is HC1.out.vrow (HK0.out) (by have := HOk.out; rw [St.Ok] at this; exact this.2.1) (by have := HSZ.out; omega) (by decide) (by decide)).mono ?_
    rintro e3 w3 ⟨hTw3, ⟨kw3, rfl, hIw3⟩ | ⟨code, at_, kw3, rfl⟩⟩
    rotate_left
    · (try go_wp2_with fail)
      exact ⟨rfl, HB1.out.trans (hTw3.belowG (heap_lt HC1.out.is) hlg HC1.out.tok), .inr ⟨code, at_, by rw [ckS]; simp only [HNO.out, kw3]; rfl, by first | rfl | assumption | (symm; assumption)⟩⟩
    have HCw3 : Asd (CkAt lo tb w3 g (i + 1 + e.size) vs labs A c B d) := ⟨HC1.out.node hIw3 hTw3 (by omega)⟩
    have HBw3 : Asd (Fr lo tb w w3) := ⟨HB1.out.trans (hTw3.belowG (heap_lt HC1.out.is) hlg HC1.out.tok)⟩
    have HXw3 : Asd (Fr lo tb w1 w3) := ⟨hTw3.belowG (heap_lt HC1.out.is) hlg HC1.out.tok⟩
    have HEw3 := Asd.mk kw3
    have p3' := (World.cell?_of_block (w := w1) (a := ⟨p, 3, none⟩) (HXw3.out.block _ hp)).trans p3
    have t0' := (World.cell?_of_block (w := w1) (a := ⟨kb, 0, none⟩) (HXw3.out.block _ hkb)).trans t0
    have t1' := (World.cell?_of_block (w := w1) (a := ⟨kb, 1, none⟩) (HXw3.out.block _ hkb)).trans t1
    have p2' := (World.cell?_of_block (w := w1) (a := ⟨p, 2, none⟩) (HXw3.out.block _ hp)).trans p2
    clear hTw3 kw3 hIw3
    have c2' : w3.cell? ⟨g, 2, none⟩ = some (.slice B labs.length d) := cell_of HCw3.out.is 2
    have hpg : p ≠ g := by omega
    have HLG : Asd (∀ k, (Value.slice B labs.length d).ownBlock = some k → lo ≤ k ∧ k ≠ g) := ⟨fun k hk => ⟨(HCw3.out.lrow.lt k hk).1, fun he => HCw3.out.lg (he ▸ hk)⟩⟩
    have hpw3 : p < w3.heap.size := World.block_lt_of_cell? _ _ p2'
    have hgw3 : g < w3.heap.size := World.block_lt_of_cell? _ _ c2'
    go_wp2_with fail
    refine wp_region_heldB (n := 12) (fun w' => w'.cell? ⟨g, 2, none⟩ = some (.slice B labs.length d) ∧ w'.cell? ⟨p, 2, none⟩ = some (.string l)) (by kernel_rfl) (by kernel_rfl) ?_ ⟨c2', p2'⟩ ?_
    · intro _ _ d _ _ h; cases d <;> exact h
    repeat (apply wpHeld_light rfl rfl rfl
            · (rintro w' ⟨s1, s2⟩; go_simp; first | done | rfl)
            simp only [Act.put, List.setIfInBounds_toArray, List.set_cons_zero, List.set_cons_succ])
    refine wpHeld_heavy rfl rfl rfl (fun K hK => ?_)
    go_simp
    refine hK _ _ ⟨?_, ?_⟩ ?_
    · exact (World.cell?_of_block (w := w3) (a := ⟨g, 2, none⟩) (Below.heap_alloc w3.drew _ g hgw3)).trans c2'
    · exact (World.cell?_of_block (w := w3) (a := ⟨p, 2, none⟩) (Below.heap_alloc w3.drew _ p hpw3)).trans p2'
    clear hK K
    have HCD : Asd (CkAt lo tb w3.drew g (i + 1 + e.size) vs labs A c B d) := ⟨{ HCw3.out with }⟩
    have hlow2 : labs.length + 1 ≤ i + 1 + e.size := by omega
    refine wpHeld_app rfl rfl (.tmp 148) (.tmp 154) 56 rfl lo 9 1 16 _ Tryd.underlying56 str_info rfl (by decide) (by decide) (.slice B labs.length d) labs.length _ rfl ((show w3.drew.ownsRow _ _ _ _ _ _ from HCw3.out.lrow).alloc _) w3.drew.heap.size 1 1 [.string l] _ _ rfl (heap_alloc_new w3.drew _) rfl (by simp [Value.oneCell']) (by decide) (by omega) (by simp; omega) ?_
    intro q d' w4 ho hT hq hlt
    obtain ⟨hC4, hX4⟩ := CkAt.pushL HCD.out l hlow2 ho hT (by simpa using hq)
    have c4 : w4.cell? ⟨g, 2, none⟩ = some (.slice B labs.length d) := hT.cell_some (a := ⟨g, 2, none⟩) ((World.cell?_of_block (w := w3) (a := ⟨g, 2, none⟩) (Below.heap_alloc w3.drew _ g hgw3)).trans c2') (fun hk => by have := HLG.out g hk; omega)
    have p4 : w4.cell? ⟨p, 2, none⟩ = some (.string l) := hT.cell_some (a := ⟨p, 2, none⟩) ((World.cell?_of_block (w := w3) (a := ⟨p, 2, none⟩) (Below.heap_alloc w3.drew _ p hpw3)).trans p2') (fun hk => by have := HLG.out p hk; omega)
    have f4 : w4.frozen? ⟨g, 2, none⟩ = false :=
      (hT.frozen (a := ⟨g, 2, none⟩) (by simp; omega) (fun hk => by have := HLG.out g hk; omega)).trans ((World.frozen?_of_block (w := w3) (a := ⟨g, 2, none⟩) (Below.heap_alloc w3.drew _ g hgw3)).trans (frozen_of HCw3.out.is 2))
    clear ho hT hq
    refine ⟨⟨c4, p4⟩, ?_⟩
    refine wpHeld_tail rfl ?_
    have hw5 : ∃ w5, w4.setCell ⟨g, 2, none⟩ (.slice (some ⟨q, 0, none⟩) (labs.length + 1) d') = w5 := ⟨_, rfl⟩
    obtain ⟨w5, hw5⟩ := hw5
    rw [hw5] at hX4 hC4
    have HX4 := Asd.mk hX4; have HC4 := Asd.mk hC4
    have p34 := (World.cell?_of_block (w := w3.drew) (a := ⟨p, 3, none⟩) (HX4.out.block _ hp)).trans p3'
    have t14 := (World.cell?_of_block (w := w3.drew) (a := ⟨kb, 1, none⟩) (HX4.out.block _ hkb)).trans t1'
    clear hX4 hC4
    go_wp2_with fail
    clear c4 p4 f4 p34 t14 hw5
    have HXw5 : Asd (Fr lo tb w1 w5) := ⟨HXw3.out.trans (((Fr.refl _ _ _).drewN 1).trans HX4.out)⟩
    have HBw5 : Asd (Fr lo tb w w5) := ⟨HB1.out.trans HXw5.out⟩
    refine (IHB.out w5 (i + 1 + e.size) q1 vs (labs ++ [l]) _ _ _ _ HC4.out (HK1.out.keep (Like.of_below HXw5.out.below fun q hq => hq)) (by have := HOk.out; rw [St.Ok] at this; exact this.2.2) (by have := HSZ.out; omega)).mono ?_
    rintro e3 w6 ⟨hBw6, ⟨kw6, rfl, Aw6, cw6, Bw6, dw6, hCw6⟩ | ⟨code, at_, kw6, rfl⟩⟩
    rotate_left
    · (try go_wp2_with fail)
      exact ⟨rfl, HBw5.out.trans hBw6, .inr ⟨code, at_, by rw [ckS]; simp only [HNO.out, HEw3.out, kw6]; rfl, by first | rfl | assumption | (symm; assumption)⟩⟩
    have HCw6 := Asd.mk hCw6
    have HBw6 : Asd (Fr lo tb w w6) := ⟨HBw5.out.trans hBw6⟩
    have HXw6 : Asd (Fr lo tb w1 w6) := ⟨HXw5.out.trans hBw6⟩
    have HEw6 := Asd.mk kw6
    clear hBw6 kw6 hCw6
    have c6 : w6.cell? ⟨g, 2, none⟩ = some (.slice Bw6 (labs.length + 1) dw6) := by
      have := cell_of HCw6.out.is 2
      rw [show (labs ++ [l]).length = labs.length + 1 by simp] at this
      exact this
    have f6 : w6.frozen? ⟨g, 2, none⟩ = false := frozen_of HCw6.out.is 2
    have HP : Asd (CkAt lo tb (w6.drew.setCell ⟨g, 2, none⟩ (.slice Bw6 labs.length dw6)) g (i + 1 + e.size + b.size) vs labs Aw6 cw6 Bw6 dw6) := ⟨CkAt.popL (l := l) (w := w6.drew) { HCw6.out with } (by omega)⟩
    have HBF : Asd (Fr lo tb w (w6.drew.setCell ⟨g, 2, none⟩ (.slice Bw6 labs.length dw6))) := ⟨(HBw6.out.drewN 1).setCell hlg htk.2 _⟩
    obtain ⟨A'', c'', he, hcap, _⟩ := owns_shape HCw6.out.lrow
    injection he with he1 _ he
    subst he1; subst he
    have hcap2 : labs.length ≤ dw6 := by simp at hcap; omega
    have hcap3 : (labs.length : Int) ≤ (dw6 : Int) := by omega
    have hwr : IntKind.i64.wrap (((labs.length + 1 : Nat) : Int) - 1) = (labs.length : Int) := by
      rw [show ((labs.length + 1 : Nat) : Int) - 1 = (labs.length : Int) by omega]; exact IntWalk.i64_in _ (by omega)
    clear hcap
    go_wp2_with fail
    refine wp_region_heldB (n := 12) (fun w' => w'.cell? ⟨g, 2, none⟩ = some (.slice Bw6 (labs.length + 1) dw6)) (by kernel_rfl) (by kernel_rfl) ?_ c6 ?_
    · intro _ _ d _ _ h; cases d <;> exact h
    repeat (apply wpHeld_light rfl rfl rfl
            · (rintro w' s1; go_simp; first | done | rfl)
            simp only [Act.put, List.setIfInBounds_toArray, List.set_cons_zero, List.set_cons_succ])
    refine wpHeld_light (v := .slice Bw6 labs.length dw6) rfl rfl rfl ?_ ?_
    · intro w' s1
      go_simp
      rw [show IntKind.i64.wrap (labs.length : Int) = labs.length from IntWalk.i64_in _ (by omega), if_pos ⟨Int.natCast_nonneg _, hcap3⟩]
      rfl
    simp only [Act.put, List.setIfInBounds_toArray, List.set_cons_zero, List.set_cons_succ]
    refine wpHeld_tail rfl ?_
    go_wp2_with fail
    refine bodyPost_end (results_none rfl _ _ _) rfl ?_
    exact ⟨HBF.out, .inl ⟨vs, by rw [ckS]; simp only [HNO.out, HEw3.out, HEw6.out]; rfl, rfl, Aw6, cw6, Bw6, dw6, by rw [St.size, show i + (1 + e.size + b.size) = i + 1 + e.size + b.size by omega]; exact HP.out⟩⟩
end Go.Proofs.YtocbblafgjpbeaaDoor.Sp
