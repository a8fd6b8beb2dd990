/- Walks: the reference's Check. -/
import Derived.Test.YtocbblafgjpbeaaDoorRef10
import Derived.Test.YtocbblafgjpbeaaDoorRef12
import Derived.Test.YtocbblafgjpbeaaDoorCk9
namespace Go.Proofs.YtocbblafgjpbeaaDoor.Sp
open Go.RowKit
set_option linter.unusedVariables false
set_option linter.unusedSimpArgs false

theorem rend_at (A : Option Addr) (n c : Nat) (l : List TN) (w : World) (z : Int) (i : Nat) (f : Fo) (hz : z = (i : Int)) (hl : l.length = n) (hn : n ≤ 4611686018427387904) (hA : TNsAt w A l) (hat : AtL l i f) (hkc : f.KC) (h1 : f.len = 1) (hi : i ≤ n) :
    Calls Tryd.prog 31 #[.slice A n c, .int .i64 z] w fun e w' => e = .returned (.int .i64 ((i + f.size : Nat) : Int)) ∧ Below w.heap.size w w' := by
  subst hz; exact rend_any A n c l w i f hl hn hA hat hkc h1 hi
theorem inputs_vok (e : En) : VsOk (inputsV e) := ⟨inputs_names e, inputs_kinds e, by simp [inputsV]⟩
def ruN (r : Int × Blk) : Fo := .cons ⟨2, r.1, empty⟩ (.cons r.2.tn r.2.kids .nil) .nil
theorem ruN_size (r : Int × Blk) : (ruN r).size = 1 + r.2.size := by have := r.2.sizeK; simp only [ruN, Fo.size]; omega
theorem ruN_kc {r : Int × Blk} (h : r.2.Ok) : (ruN r).KC := ⟨by simp, by simp [Fo.len, kidCount], Blk.kc r.2 h, trivial⟩
theorem ru_at {l : List TN} : ∀ {ru : Ru} {j : Nat}, AtL l j (Ru.kids ru) → ∀ (k : Nat) (r : Int × Blk), ru[k]? = some r → AtL l (j + ruSize (ru.take k)) (ruN r)
  | [], j, h, k, r, hr => by simp at hr
  | x :: t, j, h, 0, r, hr => by
    simp at hr; subst hr
    simp only [List.take_zero, ruSize, Nat.add_zero]
    exact h.one
  | x :: t, j, h, k + 1, r, hr => by
    have h2 := h.rest
    have h3 := x.2.sizeK
    rw [show j + 1 + (Fo.cons x.2.tn x.2.kids .nil).size = j + (1 + x.2.size) by simp only [Fo.size]; omega] at h2
    have := ru_at h2 k r (by simpa using hr)
    simpa [ruSize, Nat.add_assoc] using this
theorem RAt.told {lo tb : Nat} {T : Option Addr} {tn tc : Nat} {l : List TN} {w : World} {g : Nat} {vs : List Var} {labs : List Str} {f : Option Fd} {A : Option Addr} {c : Nat} {B : Option Addr} {d : Nat} (h : RAt lo tb T tn tc l w g vs labs f A c B d) (hlt : lo ≤ tb) (j : Nat) (v : Value) : RAt lo tb T tn tc l (w.setCell ⟨tb, j, none⟩ v) g vs labs f A c B d := by
  have T1 : Tch (fun q => q = tb) w (w.setCell ⟨tb, j, none⟩ v) := (Tch.refl (fun q => q = tb) w).setCell (p := ⟨tb, j, none⟩) (fun _ => rfl) _
  exact { h with
    is := (T1.block g (heap_lt h.is) (fun he => h.tok.2 he.symm)).trans h.is
    nodes := h.nodes.below (T1.below (fun k hk => by omega) h.lole)
    vrow := T1.owns h.vrow (fun q hq he => h.tv ((show q = tb from he) ▸ hq))
    lrow := T1.owns h.lrow (fun q hq he => h.tl ((show q = tb from he) ▸ hq))
    tok := ⟨Nat.lt_of_lt_of_le h.tok.1 T1.size, h.tok.2⟩ }
theorem ckR_code {vs : List Var} : ∀ {ru : Ru} {told : List Int} {i : Nat} {f : Fd}, ckR vs told i ru = some f → 60 ≤ f.1 ∧ f.1 ≤ 70
  | [], _, _, _, h => by cases h
  | r :: l, told, i, f, h => by
    rw [ckR] at h
    split at h
    · injection h with h; subst h; simp
    · exact or_code (fun _ h => ckL_code r.2 h) (fun _ h => ckR_code h) f h
/-- What the rules have found so far. -/
def SofarR (vs : List Var) (ru : Ru) (k : Nat) (told : List Int) (f : Option Fd) : Prop :=
  (f = none ∧ ckR vs [] 1 ru = ckR vs told (1 + ruSize (ru.take k)) (ru.drop k)) ∨ (f = ckR vs [] 1 ru ∧ ∃ fd, f = some fd ∧ fd.1 ≠ 0)
theorem drop_rule {ru : Ru} {k : Nat} {r : Int × Blk} (h : ru[k]? = some r) : ru.drop k = r :: ru.drop (k + 1) := drop_cons h
set_option maxRecDepth 100000 in
set_option maxHeartbeats 800000 in
theorem rcheck_tree (A : Option Addr) (n c : Nat) (l : List TN) (w : World) (i : Nat) (hl : l.length = n) (hn : n ≤ 4611686018427387904) (hA : TNsAt w A l) (hok : TNsOk l) (hK : GRKw w) (hw : wrong l = some i) :
    Calls Tryd.prog 14 #[.slice A n c] w fun e w' => e = .returned (.tuple #[.int .i64 65, .int .i64 i]) ∧ Below w.heap.size w w' := by
  have HI : Asd (wrongI l = (i : Int)) := ⟨wrongI_some hw⟩
  have HC : Asd (Calls Tryd.prog 30 #[.slice A n c] w fun e w' => e = .returned (.int .i64 (i : Int)) ∧ Below w.heap.size w w') := ⟨by
    have := rwrong_any A n c l w hl hn hA hok hK
    rwa [HI.out] at this⟩
  have hi0 : (0 : Int) ≤ (i : Int) := Int.natCast_nonneg _
  clear hl hA hok hK hw
  go_enter Tryd.func14, Tryd.ntmps14
  go_wp2_with fail
  refine HC.out.mono ?_
  rintro e w1 ⟨rfl, hB⟩
  have HB := Asd.mk hB; clear hB
  go_wp2_with fail
  go_ret2
  exact ⟨rfl, HB.out⟩
set_option maxRecDepth 100000 in
set_option maxHeartbeats 3200000 in
theorem rcheck_ru (A : Option Addr) (n c : Nat) (l : List TN) (w : World) (ru : Ru) (hl : l.length = n) (hn : n ≤ 4611686018427387904) (hA : TNsAt w A l) (hok : TNsOk l) (hK : GRKw w) (hw : wrong l = none) (hlr : l = Ru.flat ru) (hru : Ru.Ok ru) :
    Calls Tryd.prog 14 #[.slice A n c] w fun e w' => e = .returned (.tuple #[.int .i64 (fcode (ckR (inputsV enZero) [] 1 ru)), .int .i64 (fat (ckR (inputsV enZero) [] 1 ru))]) ∧ Below w.heap.size w w' := by
  have hwI : wrongI l = -1 := by simp [wrongI, hw]
  have HC : Asd (Calls Tryd.prog 30 #[.slice A n c] w fun e w' => e = .returned (.int .i64 (-1)) ∧ Below w.heap.size w w') := ⟨by
    have := rwrong_any A n c l w hl hn hA hok hK
    rwa [hwI] at this⟩
  have hlen : l.length = 1 + ruSize ru := by rw [hlr]; simp only [Ru.flat, List.length_cons, Fo.length_flat, ru_size]; omega
  have h256 : l.length ≤ 256 := by
    rcases scan_len l 0 _ hw with h | h
    · rw [h]; simp
    · omega
  have HAT : Asd (AtL l 1 (Ru.kids ru)) := ⟨by
    refine ⟨[], ?_⟩
    rw [hlr]; simp [Ru.flat]⟩
  have HX0 : Asd (l[0]? = some (Ru.tn ru)) := ⟨by rw [hlr]; rfl⟩
  have hrl := ruSize_len ru
  have hls : ∀ j x, l[j]? = some x → ∃ b off, A = some ⟨b, off, none⟩ ∧ b < w.heap.size := fun j x hj => by
    obtain ⟨b, off, h1, h2, _⟩ := hA j x hj
    exact ⟨b, off, h1, h2⟩
  have HA := Asd.mk hA; have HRU := Asd.mk hru; have HL := Asd.mk hl
  clear hA hok hK hw hlr hru hwI hl hls
  go_enter Tryd.func14, Tryd.ntmps14
  go_wp2_with fail
  refine HC.out.mono ?_
  rintro e w1 ⟨rfl, hB1⟩
  have HB1 := Asd.mk hB1
  have HN1 : Asd (TNsLo w1.heap.size w1 A l) := ⟨fun j x hj => by
    obtain ⟨b, off, h1, h2, h3, h4, h5⟩ := (HA.out.below HB1.out) j x hj
    exact ⟨b, off, h1, h2, h3, h4, h5⟩⟩
  clear hB1 HC
  go_wp2_with fail
  refine (rinputs_any enZero _).mono ?_
  rintro e w2 ⟨rfl, hrow, hb2, hs2⟩
  have HROW := Asd.mk hrow; have HB2 := Asd.mk hb2
  clear hrow hb2
  have hRI : RIs (w2.alloc (.cells #[.slice A n c, .slice (some ⟨w1.heap.size + 1, 0, none⟩) 11 11, .slice none 0 0, .int .i64 0, .int .i64 0] 91)) (w1.heap.size + 2) A n c (some ⟨w1.heap.size + 1, 0, none⟩) 11 11 none 0 0 none := by
    have := heap_alloc_new w2 (.cells #[.slice A n c, .slice (some ⟨w1.heap.size + 1, 0, none⟩) 11 11, .slice none 0 0, .int .i64 0, .int .i64 0] 91)
    rw [hs2] at this
    exact this
  have HRI := Asd.mk hRI; clear hRI
  have hb3 : Below w1.heap.size w1 ((w2.alloc (.cells #[.slice A n c, .slice (some ⟨w1.heap.size + 1, 0, none⟩) 11 11, .slice none 0 0, .int .i64 0, .int .i64 0] 91)).alloc (.cells #[.bool false, .bool false, .bool false, .bool false, .bool false, .bool false] 82)) := (HB2.out.alloc (by omega) _).alloc (by simp; omega) _
  have HR0 : Asd (RAt w1.heap.size (w1.heap.size + 2 + 1) A n c l ((w2.alloc (.cells #[.slice A n c, .slice (some ⟨w1.heap.size + 1, 0, none⟩) 11 11, .slice none 0 0, .int .i64 0, .int .i64 0] 91)).alloc (.cells #[.bool false, .bool false, .bool false, .bool false, .bool false, .bool false] 82)) (w1.heap.size + 2) (inputsV enZero) [] none (some ⟨w1.heap.size + 1, 0, none⟩) 11 none 0) := ⟨by
    refine { is := ?_, nodes := HN1.out.below hb3, len := HL.out, big := by have := HL.out; omega, vrow := (HROW.out.alloc _).alloc _, lrow := World.ownsRow_nil _ _ _ _, apart := fun q _ h => by simp [Value.ownBlock] at h, glo := by omega, vg := ?_, lg := by simp [Value.ownBlock], tok := ⟨by simp; omega, by omega⟩, tv := ?_, tl := by simp [Value.ownBlock] }
    · exact (Below.heap_alloc _ _ _ (heap_lt HRI.out)).trans HRI.out
    · intro h
      simp [Value.ownBlock] at h
    · intro h
      simp [Value.ownBlock] at h
      try omega⟩
  have HT0 : Asd (ToldAt ((w2.alloc (.cells #[.slice A n c, .slice (some ⟨w1.heap.size + 1, 0, none⟩) 11 11, .slice none 0 0, .int .i64 0, .int .i64 0] 91)).alloc (.cells #[.bool false, .bool false, .bool false, .bool false, .bool false, .bool false] 82)) (w1.heap.size + 2 + 1) []) := ⟨⟨_, (by
      have := heap_alloc_new (w2.alloc (.cells #[.slice A n c, .slice (some ⟨w1.heap.size + 1, 0, none⟩) 11 11, .slice none 0 0, .int .i64 0, .int .i64 0] 91)) (.cells #[.bool false, .bool false, .bool false, .bool false, .bool false, .bool false] 82)
      rw [show (w2.alloc (.cells #[.slice A n c, .slice (some ⟨w1.heap.size + 1, 0, none⟩) 11 11, .slice none 0 0, .int .i64 0, .int .i64 0] 91)).heap.size = w1.heap.size + 2 + 1 by simp; omega] at this
      exact this), rfl, fun e he => by
      rcases (by omega : e = 0 ∨ e = 1 ∨ e = 2 ∨ e = 3 ∨ e = 4 ∨ e = 5) with rfl | rfl | rfl | rfl | rfl | rfl <;> rfl⟩⟩
  have HB3 := Asd.mk hb3; clear hb3
  go_wp2_with fail
  generalize (w2.alloc (.cells #[.slice A n c, .slice (some ⟨w1.heap.size + 1, 0, none⟩) 11 11, .slice none 0 0, .int .i64 0, .int .i64 0] 91)).alloc (.cells #[.bool false, .bool false, .bool false, .bool false, .bool false, .bool false] 82) = w5 at *
  clear HRI HROW HB2
  have HBW : Asd (Below w.heap.size w w1) := HB1
  go_loopw [7, 8] (fun iv kv wr => ∃ (k : Nat) (told : List Int) (f : Option Fd) (A' : Option Addr) (c' : Nat) (B' : Option Addr) (d' : Nat), kv = .int .u64 (k : Int) ∧ k ≤ ru.length ∧ iv = .int .i64 ((1 + ruSize (ru.take k) : Nat) : Int) ∧ Asd (Below w1.heap.size w1 wr) ∧ Asd (RAt w1.heap.size (w1.heap.size + 2 + 1) A n c l wr (w1.heap.size + 2) (inputsV enZero) [] f A' c' B' d') ∧ Asd (ToldAt wr (w1.heap.size + 2 + 1) told) ∧ Asd (SofarR (inputsV enZero) ru k told f)) (fun _ kv _ => ru.length - (intOf kv).toNat)
  case atStart => exact ⟨0, [], none, _, _, _, _, rfl, Nat.zero_le _, rfl, HB3, HR0, HT0, ⟨.inl ⟨rfl, rfl⟩⟩⟩
  case round =>
    obtain ⟨k, told, f, A', c', B', d', rfl, hk, rfl, HBR, HRR, HTR, HSO⟩ := hrel
    have hk0 : (0 : Int) ≤ (k : Int) := Int.natCast_nonneg _
    obtain ⟨bb, off, hTe, hb, z1, z2, z3⟩ := HRR.out.nodes 0 _ HX0.out
    simp only [Ru.tn, Nat.zero_mul, Nat.add_zero] at z1 z2 z3
    have hn0 : (0 : Int) < (n : Int) := by have := HL.out; omega
    have hrn : ru.length ≤ 1048576 := by omega
    have hgr := HRR.out.lt
    have c3 : wr.cell? ⟨w1.heap.size + 2, 3, none⟩ = some (.int .i64 (fcode f)) := cell_of HRR.out.is 3
    have c4 : wr.cell? ⟨w1.heap.size + 2, 4, none⟩ = some (.int .i64 (fat f)) := cell_of HRR.out.is 4
    have HEND : Asd (Below w.heap.size w wr) := ⟨HBW.out.trans (HBR.out.mono HBW.out.size)⟩
    rcases HSO.out with ⟨hfn, hls⟩ | ⟨hfe, fd, hfd, hfd0⟩
    · subst hfn
      simp only [fcode, fat] at c3 c4
      by_cases hlt : k < ru.length
      · obtain ⟨r, ha⟩ : ∃ r, ru[k]? = some r := ⟨_, List.getElem?_eq_getElem hlt⟩
        have hk1 : (k : Int) < (ru.length : Int) := by omega
        have HAK : Asd (AtL l (1 + ruSize (ru.take k)) (ruN r)) := ⟨ru_at HAT.out k r ha⟩
        have hrok := ruOk_get HRU.out k r ha
        have hle := ruSize_le ha
        obtain ⟨bb2, off2, hTe2, hb2, a1, a2, a3⟩ := HRR.out.nodes _ _ HAK.out.head
        have hpos0 : (0 : Int) ≤ ((1 + ruSize (ru.take k) : Nat) : Int) := Int.natCast_nonneg _
        have hpos1 : ((1 + ruSize (ru.take k) : Nat) : Int) < (n : Int) := by have := HL.out; omega
        have HA2 := Asd.mk ha
        have HLS := Asd.mk hls
        obtain ⟨ev, hev⟩ : ∃ ev : Nat, r.1 = (ev : Int) := ⟨r.1.toNat, by omega⟩
        have hev5 : ev < 6 := by omega
        rw [hTe2] at hTe
        injection hTe with hTe
        injection hTe with h1 h2 _
        subst h1; subst h2; subst hTe2
        obtain ⟨arr, ht1, ht2, ht3⟩ := HTR.out
        have tcell : wr.cell? ⟨w1.heap.size + 2 + 1, ev, none⟩ = some (.bool (decide ((ev : Int) ∈ told))) := (cell_of ht1 ev).trans (ht3 ev hev5)
        have tfr : wr.frozen? ⟨w1.heap.size + 2 + 1, ev, none⟩ = false := frozen_of ht1 ev
        have HT1 := Asd.mk ht1; have HT3 := Asd.mk ht3
        simp only [hev] at a2
        have hev0 : (0 : Int) ≤ (ev : Int) := Int.natCast_nonneg _
        have hev6 : (ev : Int) < 6 := by omega
        have hposn : 1 + ruSize (ru.take k) + 1 + r.2.size ≤ n := by have := HL.out; omega
        have HOKB : Asd r.2.Ok := ⟨hrok.2.2⟩
        have HRN : Asd (1 + ruSize (ru.take (k + 1)) = 1 + ruSize (ru.take k) + (1 + r.2.size)) := ⟨by rw [take_get ha, ruSize_append]; simp [ruSize]; omega⟩
        clear ha hls ht1 ht3 hrok HSO
        cases hmem : decide ((ev : Int) ∈ told) with
        | true =>
          rw [hmem] at tcell
          have HF : Asd (ckR (inputsV enZero) [] 1 ru = some (66, 1 + ruSize (ru.take k))) := ⟨by
            rw [HLS.out, drop_rule HA2.out, ckR, if_pos (by rw [hev]; simpa using hmem)]⟩
          clear hmem
          go_wp2_with fail
          refine (rfault_any (w1.heap.size + 2) _ n c _ _ _ _ _ _ 66 (1 + ruSize (ru.take k)) wr HRR.out.is).mono ?_
          rintro e2 w3 ⟨rfl, hI3, hT3⟩
          have HR3 := Asd.mk (HRR.out.write hI3 hT3)
          have HB4 : Asd (Below w1.heap.size w1 w3) := ⟨HBR.out.trans (HRR.out.frw hT3).below⟩
          have HTD : Asd (ToldAt w3 (w1.heap.size + 2 + 1) told) := ⟨⟨arr, (hT3.block _ (heap_lt HT1.out) (by omega)).trans HT1.out, ht2, HT3.out⟩⟩
          clear hI3 hT3
          go_wp2_with fail
          refine (rend_at (some ⟨bb2, off2, none⟩) n c l w3 _ (1 + ruSize (ru.take k)) (ruN r) (by first | rfl | omega) HL.out hn HR3.out.nodes.at HAK.out (ruN_kc HOKB.out) rfl (by omega)).mono ?_
          rintro e3 w4 ⟨rfl, hB4⟩
          have HR4 := Asd.mk (HR3.out.below hB4)
          have HB5 : Asd (Below w1.heap.size w1 w4) := ⟨HB4.out.trans (HR3.out.frb hB4).below⟩
          have HTD4 : Asd (ToldAt w4 (w1.heap.size + 2 + 1) told) := ⟨by
            obtain ⟨arr, k1, k2, k3⟩ := HTD.out
            exact ⟨arr, (hB4.block _ (heap_lt k1)).trans k1, k2, k3⟩⟩
          clear hB4
          have hwk : IntKind.u64.wrap ((k : Int) + 1) = (k : Int) + 1 := IntWalk.u64_in _ (by omega)
          rw [ruN_size]
          go_wp2_with fail
          go_roundw
          case rel => exact ⟨k + 1, told, _, _, _, _, _, by go_num, hlt, by rw [HRN.out]; go_num, HB5, HR4, HTD4, ⟨.inr ⟨HF.out.symm, _, rfl, by simp⟩⟩⟩
          case measure => simp [intOf]; omega
        | false =>
          rw [hmem] at tcell
          have HLS2 : Asd (ckR (inputsV enZero) [] 1 ru = (ckL (inputsV enZero) [] (1 + ruSize (ru.take k) + 2) r.2).or (ckR (inputsV enZero) (r.1 :: told) (1 + ruSize (ru.take (k + 1))) (ru.drop (k + 1)))) := ⟨by
            rw [HLS.out, drop_rule HA2.out, ckR, if_neg (by rw [hev]; simpa using hmem), HRN.out]
            rw [show 1 + ruSize (ru.take k) + 1 + r.2.size = 1 + ruSize (ru.take k) + (1 + r.2.size) by omega]⟩
          clear hmem
          have HRT := Asd.mk (HRR.out.told (by omega) ev (.bool true))
          have HBT : Asd (Below w1.heap.size w1 (wr.setCell ⟨w1.heap.size + 2 + 1, ev, none⟩ (.bool true))) := ⟨HBR.out.setCell (by show w1.heap.size ≤ w1.heap.size + 2 + 1; omega) _⟩
          have HTT := Asd.mk (heap_set HT1.out ev (.bool true))
          go_wp2_with fail
          generalize wr.setCell ⟨w1.heap.size + 2 + 1, ev, none⟩ (.bool true) = w3 at *
          have hatb : AtL l (1 + ruSize (ru.take k) + 1) (.cons r.2.tn r.2.kids .nil) := HAK.out.kids
          refine (rblk_all w1.heap.size (w1.heap.size + 2 + 1) (w1.heap.size + 2) n c _ l r.2 w3 _ (1 + ruSize (ru.take k) + 1) (inputsV enZero) [] _ _ _ _ (by first | rfl | omega) HRT.out (inputs_vok _) (by simp) hatb HOKB.out).mono ?_
          rintro e2 w4 ⟨rfl, hF4, A4, c4', B4, d4, hR4⟩
          have HR4 := Asd.mk hR4
          have HB4 : Asd (Below w1.heap.size w1 w4) := ⟨HBT.out.trans hF4.below⟩
          have HTD : Asd (ToldAt w4 (w1.heap.size + 2 + 1) (r.1 :: told)) := ⟨by
            refine ⟨_, hF4.told.trans HTT.out, by simp [ht2], fun e he => ?_⟩
            rw [Array.getElem?_setIfInBounds]
            by_cases h : ev = e
            · subst h
              simp [ht2, hev5, hev]
            · rw [if_neg h, HT3.out e he, hev]
              have : ¬ (e : Int) = (ev : Int) := by omega
              simp [this]⟩
          clear hR4 hF4 hatb
          go_wp2_with fail
          refine (rend_at (some ⟨bb2, off2, none⟩) n c l w4 _ (1 + ruSize (ru.take k)) (ruN r) (by first | rfl | omega) HL.out hn HR4.out.nodes.at HAK.out (ruN_kc HOKB.out) rfl (by omega)).mono ?_
          rintro e3 w6 ⟨rfl, hB6⟩
          have HR6 := Asd.mk (HR4.out.below hB6)
          have HB6 : Asd (Below w1.heap.size w1 w6) := ⟨HB4.out.trans (HR4.out.frb hB6).below⟩
          have HTD6 : Asd (ToldAt w6 (w1.heap.size + 2 + 1) (r.1 :: told)) := ⟨by
            obtain ⟨arr, k1, k2, k3⟩ := HTD.out
            exact ⟨arr, (hB6.block _ (heap_lt k1)).trans k1, k2, k3⟩⟩
          clear hB6
          have HSN : Asd (SofarR (inputsV enZero) ru (k + 1) (r.1 :: told) (ckL (inputsV enZero) [] (1 + ruSize (ru.take k) + 1 + 1) r.2)) := ⟨by
            have h1 := HLS2.out
            rw [show 1 + ruSize (ru.take k) + 2 = 1 + ruSize (ru.take k) + 1 + 1 by omega] at h1
            cases hc : ckL (inputsV enZero) [] (1 + ruSize (ru.take k) + 1 + 1) r.2 with
            | none => rw [hc] at h1; exact .inl ⟨rfl, by simpa using h1⟩
            | some fd => rw [hc] at h1; exact .inr ⟨by simpa using h1.symm, fd, rfl, by have := ckL_code r.2 hc; omega⟩⟩
          have hwk : IntKind.u64.wrap ((k : Int) + 1) = (k : Int) + 1 := IntWalk.u64_in _ (by omega)
          rw [ruN_size]
          go_wp2_with fail
          go_roundw
          case rel => exact ⟨k + 1, r.1 :: told, _, _, _, _, _, by go_num, hlt, by rw [HRN.out]; go_num, HB6, HR6, HTD6, HSN⟩
          case measure => simp [intOf]; omega
      · have hke : k = ru.length := by omega
        have HF : Asd (ckR (inputsV enZero) [] 1 ru = none) := ⟨by rw [hls, hke, List.drop_length, ckR]⟩
        have hk1 : ¬ (k : Int) < (ru.length : Int) := by omega
        clear hls HSO
        subst hTe
        go_wp2_with fail
        go_quiet (fail)
        go_wp2_with fail
        go_ret2
        exact ⟨by rw [HF.out]; rfl, HEND.out.drewN _⟩
    · have HF : Asd (f = ckR (inputsV enZero) [] 1 ru) := ⟨hfe⟩
      have hb1 : (fcode f == 0) = false := by rw [hfd]; simpa [fcode] using hfd0
      clear hfe hfd hfd0 HSO
      subst hTe
      by_cases hlt : k < ru.length
      · have hk1 : (k : Int) < (ru.length : Int) := by omega
        go_wp2_with fail
        go_quiet (fail)
        go_wp2_with fail
        go_ret2
        exact ⟨by rw [← HF.out]; rfl, HEND.out.drewN _⟩
      · have hk1 : ¬ (k : Int) < (ru.length : Int) := by omega
        go_wp2_with fail
        go_quiet (fail)
        go_wp2_with fail
        go_ret2
        exact ⟨by rw [← HF.out]; rfl, HEND.out.drewN _⟩
end Go.Proofs.YtocbblafgjpbeaaDoor.Sp
