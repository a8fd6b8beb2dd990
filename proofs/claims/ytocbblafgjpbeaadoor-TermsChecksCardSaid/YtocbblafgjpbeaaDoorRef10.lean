/- Walks: the reference's checker: blocks, and all of it. -/
import Derived.Test.YtocbblafgjpbeaaDoorRef9
namespace Go.Proofs.YtocbblafgjpbeaaDoor.Sp
open Go.RowKit
set_option linter.unusedVariables false
set_option linter.unusedSimpArgs false

theorem ckLs_vs {labs : List Str} : ∀ {a : List St} {vs vs' : List Var} {i : Nat}, ckLs labs vs i a = .ok vs' → VsOk vs → VsOk vs'
  | [], vs, vs', i, h, hv => by simp only [ckLs] at h; injection h with h; subst h; exact hv
  | s :: r, vs, vs', i, h, hv => by
    simp only [ckLs] at h
    cases hs : ckS vs labs i s with
    | error f => rw [hs] at h; cases h
    | ok vs1 => rw [hs] at h; exact ckLs_vs h (ckS_vs hs hv)
theorem blk_at {l : List TN} : ∀ {b : Blk} {j : Nat}, AtL l j b.kids → ∀ (k : Nat) (s : St), b.list[k]? = some s → AtL l (j + stSize (b.list.take k)) (.cons s.tn s.kids .nil)
  | .nil, j, h, k, s, hs => by simp [Blk.list] at hs
  | .cons x b, j, h, 0, s, hs => by
    simp [Blk.list] at hs; subst hs
    rw [Blk.kids] at h
    simpa [stSize] using h.one
  | .cons x b, j, h, k + 1, s, hs => by
    rw [Blk.kids] at h
    have h2 := h.rest
    have h3 := x.sizeK
    rw [show j + 1 + x.kids.size = j + x.size by omega] at h2
    have := blk_at h2 k s (by simpa [Blk.list] using hs)
    simpa [Blk.list, stSize, Nat.add_assoc] using this
theorem st_end (A : Option Addr) (n c : Nat) (l : List TN) (w : World) (z : Int) (i : Nat) (s : St) (hz : z = (i : Int)) (hl : l.length = n) (hn : n ≤ 4611686018427387904) (hA : TNsAt w A l) (hat : AtL l i (.cons s.tn s.kids .nil)) (hok : s.Ok) (hi : i ≤ n) :
    Calls Tryd.prog 31 #[.slice A n c, .int .i64 z] w fun en w' => en = .returned (.int .i64 ((i + s.size : Nat) : Int)) ∧ Below w.heap.size w w' := by
  subst hz
  have := rend_any A n c l w i (.cons s.tn s.kids .nil) hl hn hA hat (s.kc hok) rfl hi
  have hs : (Fo.cons s.tn s.kids .nil).size = s.size := by have := s.sizeK; simp [Fo.size]; omega
  rwa [hs] at this
/-- What the rounds of a block have found so far. -/
def Sofar (labs : List Str) (vs : List Var) (b : Blk) (i k : Nat) (ex : List Var) (f : Option Fd) : Prop :=
  (f = none ∧ ckLs labs vs (i + 1) (b.list.take k) = .ok (vs ++ ex)) ∨ (f = ckL vs labs (i + 1) b ∧ ∃ fd, f = some fd ∧ fd.1 ≠ 0)
set_option maxRecDepth 100000 in
set_option maxHeartbeats 3200000 in
theorem rblk_step (lo tb g tn tc : Nat) (T : Option Addr) (l : List TN) (b : Blk) (ih : ∀ (k : Nat) (s : St), b.list[k]? = some s → RStC lo tb g tn tc T l 61 s) : RBlkC lo tb g tn tc T l b := by
  intro w z i vs labs A c B d hz hR hV hlab hat hok
  subst hz
  have HIH := Asd.mk ih; clear ih
  have c1 : w.cell? ⟨g, 1, none⟩ = some (.slice A vs.length c) := cell_of hR.is 1
  have hx := hat.head
  have hgl := hR.lt
  have hi0 : (0 : Int) ≤ (i : Int) := Int.natCast_nonneg _
  have hil := hat.lt
  have hln := hR.len
  have hbg := hR.big
  have hi1 : (i : Int) < (tn : Int) := by omega
  have hsm := hV.small
  have hsz : i + b.size ≤ l.length := by
    have h2 := hat.le (by omega)
    have h3 := b.sizeK
    simp only [Fo.size] at h2
    omega
  have hs1 := b.size_list
  have hll := stSize_len b.list
  have hbn : b.len = b.list.length := b.len_list
  have HAT : Asd (AtL l (i + 1) b.kids) := ⟨hat.kids⟩
  have HX := Asd.mk hx
  have HR := Asd.mk hR; have HV := Asd.mk hV; have HOK := Asd.mk hok
  have HLN := Asd.mk hln
  clear hR hV hat hok hln hx
  have hwi : IntKind.i64.wrap ((i : Int) + 1) = (i : Int) + 1 := IntWalk.i64_in _ (by omega)
  go_enter Tryd.func40, Tryd.ntmps40
  go_wp2_with fail
  go_loopw [5, 6] (fun atv kv wr => ∃ (k : Nat) (ex : List Var) (f : Option Fd) (A : Option Addr) (c : Nat) (B : Option Addr) (d : Nat), kv = .int .u64 (k : Int) ∧ k ≤ b.list.length ∧ atv = .int .i64 ((i + 1 + stSize (b.list.take k) : Nat) : Int) ∧ Asd (Fr' lo tb w wr) ∧ Asd (RAt lo tb T tn tc l wr g (vs ++ ex) labs f A c B d) ∧ Asd (Sofar labs vs b i k ex f)) (fun _ kv _ => b.list.length - (intOf kv).toNat)
  case atStart => exact ⟨0, [], none, A, c, B, d, rfl, Nat.zero_le _, by simp [stSize], ⟨Fr'.refl _ _ _⟩, ⟨by simpa using HR.out⟩, ⟨.inl ⟨rfl, by simp [ckLs]⟩⟩⟩
  case round =>
    obtain ⟨k, ex, f, A', c', B', d', rfl, hk, rfl, HFR, HRR, HSO⟩ := hrel
    have hk0 : (0 : Int) ≤ (k : Int) := Int.natCast_nonneg _
    have c0 : wr.cell? ⟨g, 0, none⟩ = some (.slice T tn tc) := cell_of HRR.out.is 0
    obtain ⟨bb, off, hTe, hb, a1, a2, a3⟩ := HRR.out.nodes i _ HX.out
    simp only [Blk.tn, hbn] at a1 a2 a3
    have hgr := HRR.out.lt
    have c3 : wr.cell? ⟨g, 3, none⟩ = some (.int .i64 (fcode f)) := cell_of HRR.out.is 3
    -- how the block ends
    have hend : ∀ (hfin : f = ckL vs labs (i + 1) b), Asd (RAt lo tb T tn tc l (wr.setCell ⟨g, 1, none⟩ (.slice A' vs.length c')) g vs labs (ckL vs labs (i + 1) b) A' c' B' d') := fun hfin => ⟨by
      have := HRR.out.cut; rwa [hfin] at this⟩
    have r1 : wr.cell? ⟨g, 1, none⟩ = some (.slice A' (vs ++ ex).length c') := cell_of HRR.out.is 1
    have rf : wr.frozen? ⟨g, 1, none⟩ = false := frozen_of HRR.out.is 1
    obtain ⟨A'', c'', he, hcap, _⟩ := owns_shape HRR.out.vrow
    injection he with he1 _ he
    subst he1; subst he
    have hcap2 : vs.length ≤ c' := by simp at hcap; omega
    have hcap3 : (vs.length : Int) ≤ (c' : Int) := by omega
    have HBF : Asd (Fr' lo tb w (wr.setCell ⟨g, 1, none⟩ (.slice A' vs.length c'))) := ⟨HFR.out.setCell HRR.out.glo HRR.out.tok.2 _⟩
    clear hcap
    rcases HSO.out with ⟨hfn, hls⟩ | ⟨hfe, fd, hfd, hfd0⟩
    · subst hfn
      simp only [fcode] at c3
      by_cases hlt : k < b.list.length
      · obtain ⟨s, ha⟩ : ∃ s, b.list[k]? = some s := ⟨_, List.getElem?_eq_getElem hlt⟩
        have hk1 : (k : Int) < (b.list.length : Int) := by omega
        have HA := Asd.mk ha
        have HAK : Asd (AtL l (i + 1 + stSize (b.list.take k)) (.cons s.tn s.kids .nil)) := ⟨blk_at HAT.out k s ha⟩
        have HVX : Asd (VsOk (vs ++ ex)) := ⟨ckLs_vs hls HV.out⟩
        have HLS := Asd.mk hls
        have hle := stSize_le ha
        have hposn : i + 1 + stSize (b.list.take k) + s.size ≤ tn := by have := HLN.out; omega
        have hkb : k ≤ 1048576 := by have := HLN.out; omega
        have HOS : Asd s.Ok := ⟨Blk.ok_list HOK.out k s ha⟩
        have hlen3 : (vs ++ ex).length ≤ 19 := HVX.out.small
        clear ha hls hend HBF r1 rf hcap2 hcap3 HSO
        subst hTe
        go_wp2_with fail
        refine (HIH.out k s HA.out wr _ (i + 1 + stSize (b.list.take k)) (vs ++ ex) labs A' c' B' d' (by first | rfl | omega) HRR.out HVX.out (by omega) HAK.out HOS.out).mono ?_
        rintro e2 w2 ⟨rfl, hF2, hA2⟩
        have HF2 : Asd (Fr' lo tb w w2) := ⟨HFR.out.trans hF2⟩
        have HN : Asd (∃ (ex' : List Var) (f' : Option Fd) (A : Option Addr) (c : Nat) (B : Option Addr) (d : Nat), RAt lo tb (some ⟨bb, off, none⟩) tn tc l w2 g (vs ++ ex') labs f' A c B d ∧ Sofar labs vs b i (k + 1) ex' f') := ⟨by
          cases hs : ckS (vs ++ ex) labs (i + 1 + stSize (b.list.take k)) s with
          | error fd =>
            rw [hs] at hA2
            obtain ⟨ex2, A2, c2, B2, d2, hA2⟩ := hA2
            refine ⟨ex ++ ex2, some fd, A2, c2, B2, d2, by rw [← List.append_assoc]; exact hA2, .inr ⟨?_, fd, rfl, by have := ckS_code s hs; omega⟩⟩
            rw [ckL_list, split_get HA.out, ckLs_append, HLS.out]
            simp only [ckLs, hs]
          | ok vs' =>
            rw [hs] at hA2
            obtain ⟨A2, c2, B2, d2, hA2⟩ := hA2
            obtain ⟨ex2, rfl⟩ := ckS_ok hs
            refine ⟨ex ++ ex2, none, A2, c2, B2, d2, by rw [← List.append_assoc]; exact hA2, .inl ⟨rfl, ?_⟩⟩
            rw [take_get HA.out, ckLs_append, HLS.out]
            simp only [ckLs, hs, List.append_assoc]⟩
        clear hF2 hA2 c0 c3 a1 a2 a3
        obtain ⟨ex', f', A2, c2, B2, d2, hR2, hS2⟩ := HN.out
        have HR2 := Asd.mk hR2; have HS2 := Asd.mk hS2
        have c02 : w2.cell? ⟨g, 0, none⟩ = some (.slice (some ⟨bb, off, none⟩) tn tc) := cell_of hR2.is 0
        have hg2 := hR2.lt
        clear hR2 hS2
        go_wp2_with fail
        refine (st_end (some ⟨bb, off, none⟩) tn tc l w2 _ (i + 1 + stSize (b.list.take k)) s (by first | rfl | omega) HLN.out (by omega) HR2.out.nodes.at HAK.out HOS.out (by omega)).mono ?_
        rintro e3 w3 ⟨rfl, hB3⟩
        have HR3 : Asd (RAt lo tb (some ⟨bb, off, none⟩) tn tc l w3 g (vs ++ ex') labs f' A2 c2 B2 d2) := ⟨HR2.out.below hB3⟩
        have HF3 : Asd (Fr' lo tb w w3) := ⟨HF2.out.trans (HR2.out.frb hB3)⟩
        have hpos : i + 1 + stSize (b.list.take (k + 1)) = i + 1 + stSize (b.list.take k) + s.size := by rw [take_get HA.out, stSize_append]; simp [stSize, Nat.add_assoc]
        have HPOS := Asd.mk hpos
        clear hB3 c02 hpos
        have hwk : IntKind.u64.wrap ((k : Int) + 1) = (k : Int) + 1 := IntWalk.u64_in _ (by omega)
        go_wp2_with fail
        go_roundw
        case rel => exact ⟨k + 1, ex', f', A2, c2, B2, d2, by go_num, hlt, by rw [HPOS.out]; go_num, HF3, HR3, HS2⟩
        case measure => simp [intOf]; omega
      · have hke : k = b.list.length := by omega
        have HE := hend (by
          rw [hke, List.take_length] at hls
          rw [ckL_list, hls])
        have hk1 : ¬ (k : Int) < (b.list.length : Int) := by omega
        clear hls hend HSO
        subst hTe
        go_wp2_with fail
        refine bodyPost_end (results_none rfl _ _ _) rfl ?_
        exact ⟨rfl, HBF.out, A', c', B', d', HE.out⟩
    · have HE := hend hfe
      have hb1 : (fcode f == 0) = false := by rw [hfd]; simpa [fcode] using hfd0
      clear hend HSO hfe hfd hfd0
      subst hTe
      by_cases hlt : k < b.list.length
      · have hk1 : (k : Int) < (b.list.length : Int) := by omega
        go_wp2_with fail
        refine bodyPost_end (results_none rfl _ _ _) rfl ?_
        exact ⟨rfl, HBF.out, A', c', B', d', HE.out⟩
      · have hk1 : ¬ (k : Int) < (b.list.length : Int) := by omega
        go_wp2_with fail
        refine bodyPost_end (results_none rfl _ _ _) rfl ?_
        exact ⟨rfl, HBF.out, A', c', B', d', HE.out⟩
mutual
theorem rst_all (lo tb g tn tc : Nat) (T : Option Addr) (l : List TN) : ∀ s : St, RStC lo tb g tn tc T l 61 s
  | .let_ s e => rst_let lo tb g tn tc T l s e
  | .set s e => rst_set lo tb g tn tc T l s e
  | .ite e a b => rst_ite lo tb g tn tc T l e a b (rblk_all lo tb g tn tc T l a) (rblk_all lo tb g tn tc T l b)
  | .while s e b => rst_while lo tb g tn tc T l s e b (rblk_all lo tb g tn tc T l b)
  | .brk s => rst_brk lo tb g tn tc T l s
  | .cont s => rst_cont lo tb g tn tc T l s
  | .req n e => rst_req lo tb g tn tc T l n e
  | .pay a b => rst_pay lo tb g tn tc T l a b
  | .fail n => rst_fail lo tb g tn tc T l n
  | .done => rst_done lo tb g tn tc T l
theorem rblk_list (lo tb g tn tc : Nat) (T : Option Addr) (l : List TN) : ∀ (b : Blk) (k : Nat) (s : St), b.list[k]? = some s → RStC lo tb g tn tc T l 61 s
  | .nil, k, s, h => by simp [Blk.list] at h
  | .cons x b, 0, s, h => by
    have h : x = s := by simpa [Blk.list] using h
    exact h ▸ rst_all lo tb g tn tc T l x
  | .cons x b, k + 1, s, h => rblk_list lo tb g tn tc T l b k s (by simpa [Blk.list] using h)
theorem rblk_all (lo tb g tn tc : Nat) (T : Option Addr) (l : List TN) : ∀ b : Blk, RBlkC lo tb g tn tc T l b
  | .nil => rblk_step lo tb g tn tc T l .nil (fun k s h => by simp [Blk.list] at h)
  | .cons x b => rblk_step lo tb g tn tc T l (.cons x b) (fun k s h => match k, h with
    | 0, h => by
      have h : x = s := by simpa [Blk.list] using h
      exact h ▸ rst_all lo tb g tn tc T l x
    | k + 1, h => rblk_list lo tb g tn tc T l b k s (by simpa [Blk.list] using h))
end
end Go.Proofs.YtocbblafgjpbeaaDoor.Sp
