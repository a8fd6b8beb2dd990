/- Walks: the program's Check. -/
import Derived.Test.YtocbblafgjpbeaaDoorCk7
import Derived.Test.YtocbblafgjpbeaaDoorCk8
import Derived.Defers
namespace Go.Proofs.YtocbblafgjpbeaaDoor.Sp
open Go.RowKit
set_option linter.unusedVariables false
set_option linter.unusedSimpArgs false

def termsName : Str := ⟨#[116, 101, 114, 109, 115]⟩
/-- What the check of a list comes to. -/
def Told (l : List TN) (w : World) (v : Value) : Prop :=
  (∃ i : Nat, wrong l = some i ∧ ErrAt w.heap.size w [(termsName, (i : Int))] 65 v) ∨
  (wrong l = none ∧ ∃ ru : Ru, l = Ru.flat ru ∧ Ru.Ok ru ∧ 1 ≤ ru.length ∧
    ((ckR (inputsV enZero) [] 1 ru = none ∧ v = .nilIface) ∨ ∃ code at_, ckR (inputsV enZero) [] 1 ru = some (code, at_) ∧ ErrAt w.heap.size w [(termsName, (at_ : Int))] code v))
def ruFo (r : Int × Blk) : Fo := .cons r.2.tn r.2.kids .nil
theorem ruFo_get {S : Nat → Prop} {w : World} : ∀ {ru : Ru} {bs : List Nat}, FoAt S w (Ru.kids ru) bs → ∀ (j : Nat) (r : Int × Blk), ru[j]? = some r → ∃ p, bs[j]? = some p ∧ NdAt S w p ⟨2, r.1, empty⟩ (ruFo r) := by
  intro ru
  induction ru with
  | nil => intro bs h j a hj; simp at hj
  | cons e r ih =>
    rintro bs ⟨b, bs', ks, rfl, h1, h2, h3⟩ j a hj
    cases j with
    | zero => simp at hj; subst hj; exact ⟨b, rfl, ks, h1, h2⟩
    | succ j =>
      obtain ⟨p, k1, k2⟩ := ih h3 j a (by simpa using hj)
      exact ⟨p, by simpa using k1, k2⟩
theorem ruFo_len {S : Nat → Prop} {w : World} {ru : Ru} {bs : List Nat} (h : FoAt S w (Ru.kids ru) bs) : bs.length = ru.length := by
  rw [h.length]
  clear h
  induction ru with
  | nil => rfl
  | cons e r ih => simp [Ru.kids, Fo.len, ih]

theorem scan_len : ∀ (t : List TN) (i : Nat) (st : List Want), scan t i st = none → t = [] ∨ i + t.length ≤ 256
  | [], _, _, _ => .inl rfl
  | x :: t, i, st, h => by
    right
    rw [scan] at h
    split at h
    · cases h
    · split at h
      · cases h
      · rename_i hc
        have hi : i < 256 := by
          rcases Nat.lt_or_ge i 256 with h1 | h1
          · exact h1
          · exact absurd (.inl h1) hc
        rcases scan_len t (i + 1) _ h with h2 | h2
        · subst h2; simp; omega
        · simp; omega
theorem NdAt.mono {S S' : Nat → Prop} {w : World} {p : Nat} {x : TN} {f : Fo} (h : NdAt S w p x f) (hb : ∀ b, S b → S' b) : NdAt S' w p x f := by
  obtain ⟨ks, h1, h2⟩ := h
  exact ⟨ks, h1.mono hb, h2.mono hb⟩
theorem ruOk_get : ∀ {ru : Ru}, Ru.Ok ru → ∀ (j : Nat) (r : Int × Blk), ru[j]? = some r → 0 ≤ r.1 ∧ r.1 ≤ 5 ∧ r.2.Ok
  | [], _, j, r, h => by simp at h
  | x :: l, h, 0, r, hj => by
    simp at hj; subst hj
    exact ⟨h.1, h.2.1, h.2.2.1⟩
  | x :: l, h, j + 1, r, hj => ruOk_get h.2.2.2 j r (by simpa using hj)
theorem CkAt.told {lo tb : Nat} {w : World} {g i : Nat} {vs : List Var} {labs : List Str} {A : Option Addr} {c : Nat} {B : Option Addr} {d : Nat} (h : CkAt lo tb w g i vs labs A c B d) (j : Nat) (v : Value) : CkAt lo tb (w.setCell ⟨tb, j, none⟩ v) g i vs labs A c B d := by
  have T : Tch (fun q => q = tb) w (w.setCell ⟨tb, j, none⟩ v) := (Tch.refl (fun q => q = tb) w).setCell (p := ⟨tb, j, none⟩) (fun _ => rfl) _
  exact { h with
    is := (T.block g (heap_lt h.is) (fun he => h.tok.2 he.symm)).trans h.is
    vrow := T.owns h.vrow (fun q hq he => h.tv ((show q = tb from he) ▸ hq))
    lrow := T.owns h.lrow (fun q hq he => h.tl ((show q = tb from he) ▸ hq))
    tok := ⟨Nat.lt_of_lt_of_le h.tok.1 T.size, h.tok.2⟩ }
def ruSize : Ru → Nat
  | [] => 0
  | r :: l => 1 + r.2.size + ruSize l
theorem ruSize_append (a b : Ru) : ruSize (a ++ b) = ruSize a + ruSize b := by
  induction a with
  | nil => simp [ruSize]
  | cons e r ih => simp [ruSize, ih]; omega
theorem ruSize_len (l : Ru) : l.length ≤ ruSize l := by
  induction l with
  | nil => simp
  | cons s r ih => simp [ruSize]; omega
theorem ruSize_le {l : Ru} {k : Nat} {r : Int × Blk} (h : l[k]? = some r) : ruSize (l.take k) + 1 + r.2.size ≤ ruSize l := by
  have := congrArg ruSize (split_get h)
  rw [ruSize_append, ruSize] at this
  omega
theorem Ex.size_kids (e : Ex) : e.size = 1 + e.kids.size := by
  induction e with
  | not a ha => simp only [Ex.size, Ex.kids, Fo.size]; omega
  | bin o a b ha hb => simp only [Ex.size, Ex.kids, Fo.size]; omega
  | two o a b ha hb => simp only [Ex.size, Ex.kids, Fo.size]; omega
  | share a b c ha hb hc => simp only [Ex.size, Ex.kids, Fo.size]; omega
  | _ => rfl
mutual
theorem St.size_kids : ∀ s : St, s.size = 1 + s.kids.size
  | .let_ s e => by rw [St.size, St.kids]; have := e.size_kids; simp only [Fo.size]; omega
  | .set s e => by rw [St.size, St.kids]; have := e.size_kids; simp only [Fo.size]; omega
  | .ite e a b => by rw [St.size, St.kids]; have := e.size_kids; have := Blk.size_kids a; have := Blk.size_kids b; simp only [Fo.size]; omega
  | .while l e b => by rw [St.size, St.kids]; have := e.size_kids; have := Blk.size_kids b; simp only [Fo.size]; omega
  | .brk l => by rw [St.size, St.kids]; rfl
  | .cont l => by rw [St.size, St.kids]; rfl
  | .req n e => by rw [St.size, St.kids]; have := e.size_kids; simp only [Fo.size]; omega
  | .pay a b => by rw [St.size, St.kids]; have := a.size_kids; have := b.size_kids; simp only [Fo.size]; omega
  | .fail n => by rw [St.size, St.kids]; rfl
  | .done => by rw [St.size, St.kids]; rfl
theorem Blk.size_kids : ∀ b : Blk, b.size = 1 + b.kids.size
  | .nil => by rw [Blk.size, Blk.kids]; rfl
  | .cons s b => by rw [Blk.size, Blk.kids]; have := St.size_kids s; have := Blk.size_kids b; simp only [Fo.size]; omega
end
theorem ru_size (ru : Ru) : (Ru.kids ru).size = ruSize ru := by
  induction ru with
  | nil => rfl
  | cons r l ih => simp only [Ru.kids, ruSize, Fo.size, ih]; have := Blk.size_kids r.2; omega
def ToldAt (w : World) (tb : Nat) (told : List Int) : Prop :=
  ∃ arr : Array Value, w.heap[tb]? = some (.cells arr 82 (0, 0)) ∧ arr.size = 6 ∧ ∀ e : Nat, e < 6 → arr[e]? = some (.bool (decide ((e : Int) ∈ told)))
set_option maxRecDepth 100000 in
set_option maxHeartbeats 3200000 in
theorem tcheck_any (A : Option Addr) (n c : Nat) (l : List TN) (w : World) (hl : l.length = n) (hn : n ≤ 4611686018427387904) (hA : TNsAt w A l) (hok : TNsOk l) (hG : GShapes w) (hK : GKw w) :
    Calls Tryd.prog 13 #[.slice A n c] w fun e w' => ∃ v, e = .returned v ∧ Below w.heap.size w w' ∧ Told l w' v := by
  have hmf : ∀ (fn : Fn) (first cap : Array Value) (w : World), (Instr.makeFunc fn first cap).run Tryd.prog w = .ok (.func fn first cap) w := fun _ _ _ _ => rfl
  have HT0 : Asd (Tch (fun _ => False) w (w.alloc (.cells #[.nilIface] 25))) := ⟨(Tch.refl _ _).alloc _⟩
  have HE0 : Asd ((w.alloc (.cells #[.nilIface] 25)).heap[w.heap.size]? = some (.cells #[.nilIface] 25 (0, 0))) := ⟨heap_alloc_new _ _⟩
  have HA := Asd.mk hA; have HOK := Asd.mk hok; have HG := Asd.mk hG; have HK := Asd.mk hK; have HL := Asd.mk hl
  clear hA hok hG hK hl
  go_enter_defers Tryd.func13, Tryd.ntmps13
  go_wp2_with fail
  refine (grow_any A n c l _ HL.out hn (HA.out.tch HT0.out (fun _ _ _ => id)) HOK.out (HG.out.tch HT0.out id) (HK.out.tch HT0.out id)).mono ?_
  rintro e w1 ⟨hB1, ⟨i, rfl, hw⟩ | ⟨p, x, ks, rfl, hw, hfo, hlk, hokx, hkn, hvf⟩⟩
  · have HB1 := Asd.mk hB1; have HW := Asd.mk hw
    have he1 : w1.heap[w.heap.size]? = some (.cells #[.nilIface] 25 (0, 0)) := (hB1.block _ (by simp)).trans HE0.out
    have HE1 := Asd.mk he1
    clear hB1 hw he1
    go_wp2_with fail
    refine (fault_any _ _ _).mono ?_
    rintro e w2 ⟨v, rfl, hv, hb, hs⟩
    obtain ⟨b0, e0, l0, rfl, h1, h2, h3, h4⟩ := hv
    have he2 : w2.heap[w.heap.size]? = some (.cells #[.nilIface] 25 (0, 0)) := (hb.block _ (heap_lt HE1.out)).trans HE1.out
    have hz2 : w.heap.size ≤ w2.heap.size := Nat.le_of_lt (heap_lt he2)
    have hc1 : w2.cell? ⟨w.heap.size, 0, none⟩ = some .nilIface := cell_of he2 0
    have hf1 : w2.frozen? ⟨w.heap.size, 0, none⟩ = false := frozen_of he2 0
    have hne : ¬ b0 = w.heap.size := by
      intro he
      subst he
      rw [hc1] at h1
      injection h1 with h1
      cases h1
    have hT : Tch (fun q => q = w.heap.size) w2 (w2.setCell ⟨w.heap.size, 0, none⟩ (.iface 144 (.pointer (some ⟨b0, 0, none⟩)))) := (Tch.refl (fun q => q = w.heap.size) w2).setCell (p := ⟨w.heap.size, 0, none⟩) (fun _ => rfl) _
    have HR : Asd (ErrAt (w2.setCell ⟨w.heap.size, 0, none⟩ (.iface 144 (.pointer (some ⟨b0, 0, none⟩)))).heap.size (w2.setCell ⟨w.heap.size, 0, none⟩ (.iface 144 (.pointer (some ⟨b0, 0, none⟩)))) [(termsName, (i : Int))] 65 (.iface 144 (.pointer (some ⟨b0, 0, none⟩)))) :=
      ⟨⟨b0, e0, by have := hT.size; omega, rfl, hT.cell_some h1 hne, hT.cell_some h2 hne, hT.cell_some h3 hne, h4⟩⟩
    have HB : Asd (Below w.heap.size w (w2.setCell ⟨w.heap.size, 0, none⟩ (.iface 144 (.pointer (some ⟨b0, 0, none⟩))))) := ⟨(((HT0.out.below (by intro i h; cases h) (Nat.le_refl _)).trans (HB1.out.mono (by simp))).trans (hb.mono (by have := HB1.out.size; simp at this; omega))).setCell (Nat.le_refl _) _⟩
    have HCV : Asd ((w2.setCell ⟨w.heap.size, 0, none⟩ (.iface 144 (.pointer (some ⟨b0, 0, none⟩)))).cell? ⟨w.heap.size, 0, none⟩ = some (.iface 144 (.pointer (some ⟨b0, 0, none⟩)))) := ⟨by
      rw [cell_of (heap_set he2 0 _) 0]; rfl⟩
    clear hb h1 h2 h3 h4 he2 hT
    go_wp2_with fail
    exact ⟨_, by simp [results, Tryd.results13, go_sem, HCV.out], _, rfl, HB.out, .inl ⟨i, HW.out, HR.out⟩⟩
  · obtain ⟨ru, rfl, rfl, hru, hr1⟩ := dec_ru x ks hokx hkn hvf
    obtain ⟨p', bs', ks0, hpe, hnd, hfr, hnil⟩ := hfo
    injection hpe with hpe hpe2
    subst hpe; subst hpe2
    obtain ⟨hpS, p0, p1, p2, KA, kc, p3, hkids⟩ := hnd
    have hkl := ruFo_len hfr
    have HB1 := Asd.mk hB1; have HW := Asd.mk hw; have HLK := Asd.mk hlk; have HRU := Asd.mk hru; have HFR := Asd.mk hfr; have HKD := Asd.mk hkids
    have HPS := Asd.mk hpS
    have hpl : p < w1.heap.size := hpS.2
    have he1 : w1.heap[w.heap.size]? = some (.cells #[.nilIface] 25 (0, 0)) := (hB1.block _ (by simp)).trans HE0.out
    have HE1 := Asd.mk he1
    have hel := heap_lt he1
    clear hB1 hw hlk hru hfr hkids hokx hkn hvf hnil hpS he1
    go_wp2_with fail
    refine (inputs_any enZero _).mono ?_
    rintro e w2 ⟨rfl, hrow, hb2, hs2⟩
    have HROW := Asd.mk hrow; have HB2 := Asd.mk hb2
    clear hrow hb2
    have hI3 : CkIs (w2.alloc (.cells #[.int .i64 0, .slice (some ⟨w1.heap.size + 1, 0, none⟩) 11 11, .slice none 0 0] 80)) (w1.heap.size + 2) 0 (some ⟨w1.heap.size + 1, 0, none⟩) 11 11 none 0 0 := by
      have := heap_alloc_new w2 (.cells #[.int .i64 0, .slice (some ⟨w1.heap.size + 1, 0, none⟩) 11 11, .slice none 0 0] 80)
      rw [hs2] at this
      exact this
    have HI3 := Asd.mk hI3; clear hI3
    go_wp2_with fail
    refine (cknode_any (w1.heap.size + 2) 0 _ 11 11 none 0 0 _ HI3.out ⟨by omega, by omega⟩).mono ?_
    rintro e w4 ⟨rfl, hI4, hT4⟩
    have hz4 : w1.heap.size + 3 ≤ w4.heap.size := by have := hT4.size; simp at this; omega
    have hrow4 : w4.ownsRow w1.heap.size 149 3 (.slice (some ⟨w1.heap.size + 1, 0, none⟩) 11 11) 11 (varCells (inputsV enZero)) :=
      hT4.owns (HROW.out.alloc _) (fun q hq he => by
        have hq : w1.heap.size + 1 = q := by simpa [Value.ownBlock] using hq
        have he : q = w1.heap.size + 2 := he
        omega)
    have HC : ∀ O : Obj, Asd (CkAt w1.heap.size w4.heap.size (w4.alloc O) (w1.heap.size + 2) 1 (inputsV enZero) [] (some ⟨w1.heap.size + 1, 0, none⟩) 11 none 0) := fun O => ⟨by
      refine { is := ?_, vrow := hrow4.alloc O, lrow := World.ownsRow_nil _ _ _ _, apart := fun q _ h => by simp [Value.ownBlock] at h, names := inputs_names _, kinds := inputs_kinds _, small := by simp [inputsV], low := by simp, glo := by omega, vg := ?_, lg := by simp [Value.ownBlock], tok := ⟨by simp, by omega⟩, tv := ?_, tl := by simp [Value.ownBlock] }
      · exact (Below.heap_alloc w4 O _ (heap_lt hI4)).trans hI4
      · intro h
        have h : w1.heap.size + 1 = w4.heap.size := by simpa [Value.ownBlock] using h
        omega
      · intro h
        simp [Value.ownBlock] at h⟩
    have HB4 : Asd (Below w1.heap.size w1 w4) := ⟨(HB2.out.trans ((Below.refl _ _).alloc (by omega) _)).trans (hT4.below (fun i hi => by omega) (by simp; omega))⟩
    clear hI4 hrow4 hT4
    have hp4 : p < w4.heap.size := by omega
    have p3' := (World.cell?_of_block (w := w1) (a := ⟨p, 3, none⟩) (HB4.out.block p hpl)).trans p3
    go_wp2_with fail
    have HTB0 : Asd (ToldAt (w4.alloc (.cells #[.bool false, .bool false, .bool false, .bool false, .bool false, .bool false] 82)) w4.heap.size []) := ⟨⟨_, heap_alloc_new w4 _, rfl, fun e he => by
      rcases (by omega : e = 0 ∨ e = 1 ∨ e = 2 ∨ e = 3 ∨ e = 4 ∨ e = 5) with rfl | rfl | rfl | rfl | rfl | rfl <;> rfl⟩⟩
    have HC5 := HC (.cells #[.bool false, .bool false, .bool false, .bool false, .bool false, .bool false] 82)
    have HB5 : Asd (Below w1.heap.size w1 (w4.alloc (.cells #[.bool false, .bool false, .bool false, .bool false, .bool false, .bool false] 82))) := ⟨HB4.out.alloc (by omega) _⟩
    have HLEN : Asd (1 + ruSize ru ≤ 1048576) := ⟨by
      have h1 := scan_len l 0 _ HW.out
      have h2 := congrArg List.length HLK.out
      rw [List.length_cons, Fo.length_flat, ru_size] at h2
      rcases h1 with h1 | h1
      · rw [h1] at h2; simp at h2
      · omega⟩
    generalize w4.alloc (.cells #[.bool false, .bool false, .bool false, .bool false, .bool false, .bool false] 82) = w5 at HTB0 HC5 HB5 ⊢
    clear HC
    go_loopw [31] (fun kv wr => ∃ (k : Nat) (A c B d : _) (told : List Int), kv = .int .i64 (k : Int) ∧ k ≤ ru.length ∧ Asd (Below w1.heap.size w1 wr) ∧ Asd (CkAt w1.heap.size w4.heap.size wr (w1.heap.size + 2) (1 + ruSize (ru.take k)) (inputsV enZero) [] A c B d) ∧
      Asd (ToldAt wr w4.heap.size told) ∧ Asd (ckR (inputsV enZero) [] 1 ru = ckR (inputsV enZero) told (1 + ruSize (ru.take k)) (ru.drop k))) (fun kv _ => ru.length - (intOf kv).toNat)
    case atStart => exact ⟨0, _, _, _, _, [], rfl, Nat.zero_le _, HB5, HC5, HTB0, ⟨rfl⟩⟩
    case round =>
      obtain ⟨k, A', c', B', d', told, rfl, hk, HBR, HCR, HTR, HER⟩ := hrel
      have hk0 : (0 : Int) ≤ (k : Int) := Int.natCast_nonneg _
      have hkl20 : ru.length ≤ 1048576 := by have := ruSize_len ru; have := HLEN.out; omega
      by_cases hlt : k < ru.length
      · obtain ⟨r, hr⟩ : ∃ r, ru[k]? = some r := ⟨_, List.getElem?_eq_getElem hlt⟩
        obtain ⟨q, hq, hqa⟩ := ruFo_get HFR.out k r hr
        obtain ⟨kb, hkb, rfl, hcl⟩ := HKD.out k q hq
        have hcl' := (World.cell?_of_block (w := w1) (a := ⟨kb, k, none⟩) (HBR.out.block kb hkb.2)).trans hcl
        have hk1 : (k : Int) < (ru.length : Int) := by omega
        obtain ⟨ev, hev⟩ : ∃ ev : Nat, r.1 = (ev : Int) := ⟨r.1.toNat, by have := ruOk_get HRU.out k r hr; omega⟩
        have hev5 : ev < 6 := by have := ruOk_get HRU.out k r hr; omega
        have HQA : Asd (NdAt (fun q => q < w1.heap.size) wr q ⟨2, r.1, empty⟩ (ruFo r)) := ⟨(hqa.mono (fun b hb => hb.2)).keep (Like.of_below HBR.out fun q hq => hq)⟩
        have HR := Asd.mk hr
        have hqs : 1 + ruSize (ru.take k) + 1 + r.2.size ≤ 1048576 := by have := ruSize_le hr; have := HLEN.out; omega
        clear hr hqa hcl hq
        go_wp2_with fail
        refine (cknode_any (w1.heap.size + 2) _ A' 11 c' B' 0 d' wr HCR.out.is (by omega)).mono ?_
        rintro e6 w6 ⟨rfl, hI6, hT6⟩
        have HC6 : Asd (CkAt w1.heap.size w4.heap.size w6 (w1.heap.size + 2) (1 + ruSize (ru.take k) + 1) (inputsV enZero) [] A' c' B' d') := ⟨HCR.out.node (show CkIs w6 (w1.heap.size + 2) ((1 + ruSize (ru.take k) + 1 : Nat) : Int) A' 11 c' B' 0 d' by simpa using hI6) hT6 (by omega)⟩
        have HB6 : Asd (Below w1.heap.size w1 w6) := ⟨HBR.out.trans (hT6.below (fun i hi => by omega) (by have := heap_lt HCR.out.is; omega))⟩
        obtain ⟨arr, ht1, ht2, ht3⟩ := HTR.out
        have ht6 : w6.heap[w4.heap.size]? = some (.cells arr 82 (0, 0)) := (hT6.block _ (heap_lt ht1) (by omega)).trans ht1
        have HQ6 := HQA.out.keep (Like.of_below (hT6.below (B := w1.heap.size) (fun i hi => by omega) (by have := heap_lt HCR.out.is; omega)) fun q hq => hq)
        obtain ⟨ks6, ⟨hqS, q0c, q1c, q2c, KA6, kc6, q3c, hk6⟩, hf6⟩ := HQ6
        have hk6len : ks6.length = 1 := by rw [hf6.length]; rfl
        obtain ⟨qb, bs6, ksb, hpe6, hnb, hfb, hnil6⟩ := hf6
        subst hpe6
        cases hnil6
        obtain ⟨kb6, hkb6, rfl, t6c⟩ := hk6 0 qb rfl
        have HNB : Asd (NdAt (fun q => q < w1.heap.size) w6 qb r.2.tn r.2.kids) := ⟨⟨ksb, hnb, hfb⟩⟩
        simp only [hev] at q1c
        simp only [List.length_cons, List.length_nil] at q3c
        have hev0 : (0 : Int) ≤ (ev : Int) := Int.natCast_nonneg _
        have hev6 : (ev : Int) < 6 := by omega
        have tcell : w6.cell? ⟨w4.heap.size, ev, none⟩ = some (.bool (decide ((ev : Int) ∈ told))) := (cell_of ht6 ev).trans (ht3 ev hev5)
        have tfr : w6.frozen? ⟨w4.heap.size, ev, none⟩ = false := frozen_of ht6 ev
        have HT6 := Asd.mk ht6
        clear hI6 hT6 ht1 hnb hfb hk6 ht6
        cases hmem : decide ((ev : Int) ∈ told) with
        | true =>
          rw [hmem] at tcell
          have HM := Asd.mk hmem; clear hmem
          go_wp2_with fail
          have hb0 : w.heap.size + 1 ≤ w1.heap.size := by have := HB1.out.size; simpa using this
          have hce : w6.heap[w.heap.size]? = some (.cells #[.nilIface] 25 (0, 0)) := (HB6.out.block _ (by omega)).trans HE1.out
          rw [show (1 + (ruSize (ru.take k) : Int)) = ((1 + ruSize (ru.take k) : Nat) : Int) by omega]
          refine leaves_cons (f := 34) (args := #[.pointer (some ⟨w.heap.size, 0, none⟩)]) (by simp) (by simp [go_sem]) ?_
          refine (catch_found w.heap.size 66 (1 + ruSize (ru.take k)) [] _ hce).mono ?_
          rintro e7 u7 w7 ⟨rfl, rfl, v, hv, hcv, hT7⟩
          have hcv0 : w7.cell? ⟨w.heap.size, 0, none⟩ = some v := cell_of hcv 0
          have HBW : Asd (Below w.heap.size w w7) := ⟨(((HT0.out.below (by intro i h; cases h) (Nat.le_refl _)).trans (HB1.out.mono (by simp))).trans (HB6.out.mono (by omega))).trans (hT7.below (fun i hi => by omega) (by have := HB6.out.size; omega))⟩
          have HF : Asd (ckR (inputsV enZero) [] 1 ru = some (66, 1 + ruSize (ru.take k))) := ⟨by
            rw [HER.out, List.drop_eq_getElem_cons hlt, ckR, if_pos]
            have h1 := HR.out
            rw [List.getElem?_eq_getElem hlt] at h1
            injection h1 with h1
            rw [h1, hev]; simpa using HM.out⟩
          exact ⟨v, by simp [results, Tryd.results13, go_sem, hcv0], v, rfl, HBW.out, .inr ⟨HW.out, ru, HLK.out, HRU.out, hr1, .inr ⟨66, _, HF.out, hv⟩⟩⟩
        | false =>
          rw [hmem] at tcell
          have HM := Asd.mk hmem; clear hmem
          have hw7 : ∃ w7, w6.setCell ⟨w4.heap.size, ev, none⟩ (.bool true) = w7 := ⟨_, rfl⟩
          obtain ⟨w7, hw7⟩ := hw7
          have hC7 := HC6.out.told ev (.bool true)
          have hB7 := HB6.out.setCell (p := ⟨w4.heap.size, ev, none⟩) (by show w1.heap.size ≤ w4.heap.size; omega) (.bool true)
          have hT7 := heap_set HT6.out ev (.bool true)
          rw [hw7] at hC7 hB7 hT7
          have HC7 := Asd.mk hC7; have HB7 := Asd.mk hB7; have HT7 := Asd.mk hT7
          have HQ7 : Asd (∀ q, q < w1.heap.size → w7.heap[q]? = w6.heap[q]?) := ⟨fun q hq => by rw [← hw7]; exact Below.heap_setCell _ _ _ _ (by show q ≠ w4.heap.size; omega)⟩
          have q3d : w7.cell? ⟨q, 3, none⟩ = some (.slice (some ⟨kb6, 0, none⟩) (0 + 1) kc6) := (World.cell?_of_block (w := w6) (a := ⟨q, 3, none⟩) (HQ7.out q hqS)).trans q3c
          have t7c := (World.cell?_of_block (w := w6) (a := ⟨kb6, 0, none⟩) (HQ7.out kb6 hkb6)).trans t6c
          clear hC7 hB7 hT7
          go_wp2_with fail
          refine (blk_all w1.heap.size w4.heap.size (w1.heap.size + 2) r.2 w7 (1 + ruSize (ru.take k) + 1) qb (inputsV enZero) [] A' c' B' d' HC7.out (HNB.out.keep fun q hq => HQ7.out q hq) (ruOk_get HRU.out k r HR.out).2.2 (by omega)).mono ?_
          rintro e8 w8 ⟨hF8, ⟨h1, rfl, A8, c8, B8, d8, h2⟩ | ⟨code, at_, h1, rfl⟩⟩
          · have HB8 : Asd (Below w1.heap.size w1 w8) := ⟨HB7.out.trans hF8.below⟩
            have HC8 : Asd (CkAt w1.heap.size w4.heap.size w8 (w1.heap.size + 2) (1 + ruSize (ru.take (k + 1))) (inputsV enZero) [] A8 c8 B8 d8) := ⟨by
              rw [take_get HR.out, ruSize_append]
              have e : 1 + (ruSize (ru.take k) + ruSize [r]) = 1 + ruSize (ru.take k) + 1 + r.2.size := by simp [ruSize]; omega
              rw [e]; exact h2⟩
            have HT8 : Asd (ToldAt w8 w4.heap.size (r.1 :: told)) := ⟨by
              refine ⟨_, hF8.told.trans HT7.out, by simp [ht2], fun e he => ?_⟩
              rw [Array.getElem?_setIfInBounds]
              by_cases h : ev = e
              · subst h
                simp [ht2, hev5, hev]
              · rw [if_neg h, ht3 e he, hev]
                have : ¬ (e : Int) = (ev : Int) := by omega
                simp [this]⟩
            have HE8 : Asd (ckR (inputsV enZero) [] 1 ru = ckR (inputsV enZero) (r.1 :: told) (1 + ruSize (ru.take (k + 1))) (ru.drop (k + 1))) := ⟨by
              have h3 := HR.out
              rw [List.getElem?_eq_getElem hlt] at h3
              injection h3 with h3
              have e : 1 + ruSize (ru.take (k + 1)) = 1 + ruSize (ru.take k) + 1 + r.2.size := by
                rw [take_get HR.out, ruSize_append]; simp [ruSize]; omega
              rw [HER.out, List.drop_eq_getElem_cons hlt, ckR, h3, if_neg (by rw [hev]; simpa using HM.out), e]
              rw [show 1 + ruSize (ru.take k) + 2 = 1 + ruSize (ru.take k) + 1 + 1 by omega, h1]; rfl⟩
            clear hF8 h1 h2
            go_wp2_with fail
            go_roundw
            case rel => exact ⟨k + 1, _, _, _, _, _, by go_num, hlt, HB8, HC8, HT8, HE8⟩
            case measure => simp [intOf]; omega
          · have HB8 : Asd (Below w1.heap.size w1 w8) := ⟨HB7.out.trans hF8.below⟩
            have hb0 : w.heap.size + 1 ≤ w1.heap.size := by have := HB1.out.size; simpa using this
            have hce : w8.heap[w.heap.size]? = some (.cells #[.nilIface] 25 (0, 0)) := (HB8.out.block _ (by omega)).trans HE1.out
            have HF : Asd (ckR (inputsV enZero) [] 1 ru = some (code, at_)) := ⟨by
              have h3 := HR.out
              rw [List.getElem?_eq_getElem hlt] at h3
              injection h3 with h3
              rw [HER.out, List.drop_eq_getElem_cons hlt, ckR, h3, if_neg (by rw [hev]; simpa using HM.out)]
              rw [show 1 + ruSize (ru.take k) + 2 = 1 + ruSize (ru.take k) + 1 + 1 by omega, h1]; rfl⟩
            clear h1 hF8
            refine leaves_cons (f := 34) (args := #[.pointer (some ⟨w.heap.size, 0, none⟩)]) (by simp) (by simp [go_sem]) ?_
            refine (catch_found w.heap.size code at_ [] _ hce).mono ?_
            rintro e9 u9 w9 ⟨rfl, rfl, v, hv, hcv, hT9⟩
            have hcv0 : w9.cell? ⟨w.heap.size, 0, none⟩ = some v := cell_of hcv 0
            have HBW : Asd (Below w.heap.size w w9) := ⟨(((HT0.out.below (by intro i h; cases h) (Nat.le_refl _)).trans (HB1.out.mono (by simp))).trans (HB8.out.mono (by omega))).trans (hT9.below (fun i hi => by omega) (by have := HB8.out.size; omega))⟩
            exact ⟨v, by simp [results, Tryd.results13, go_sem, hcv0], v, rfl, HBW.out, .inr ⟨HW.out, ru, HLK.out, HRU.out, hr1, .inr ⟨code, _, HF.out, hv⟩⟩⟩
      · have hke : k = ru.length := by omega
        have HF : Asd (ckR (inputsV enZero) [] 1 ru = none) := ⟨by
          rw [HER.out, hke, List.drop_length, ckR]⟩
        have hb0 : w.heap.size + 1 ≤ w1.heap.size := by have := HB1.out.size; simpa using this
        have hce : wr.heap[w.heap.size]? = some (.cells #[.nilIface] 25 (0, 0)) := (HBR.out.block _ (by omega)).trans HE1.out
        have hcc : wr.cell? ⟨w.heap.size, 0, none⟩ = some .nilIface := cell_of hce 0
        have hcf : wr.frozen? ⟨w.heap.size, 0, none⟩ = false := frozen_of hce 0
        have hk1 : ¬ (k : Int) < (ru.length : Int) := by omega
        go_wp2_with fail
        refine leaves_cons (f := 34) (args := #[.pointer (some ⟨w.heap.size, 0, none⟩)]) (by simp) (by simp [go_sem]) ?_
        refine (catch_idle ⟨w.heap.size, 0, none⟩ _).mono ?_
        rintro e9 u9 w9 ⟨rfl, rfl, rfl⟩
        have HCV : Asd ((wr.setCell ⟨w.heap.size, 0, none⟩ .nilIface).cell? ⟨w.heap.size, 0, none⟩ = some .nilIface) := ⟨by
          rw [cell_of (heap_set hce 0 _) 0]; rfl⟩
        have HBW : Asd (Below w.heap.size w (wr.setCell ⟨w.heap.size, 0, none⟩ .nilIface)) := ⟨(((HT0.out.below (by intro i h; cases h) (Nat.le_refl _)).trans (HB1.out.mono (by simp))).trans (HBR.out.mono (by omega))).setCell (Nat.le_refl _) _⟩
        exact ⟨_, by simp [results, Tryd.results13, go_sem, HCV.out], _, rfl, HBW.out, .inr ⟨HW.out, ru, HLK.out, HRU.out, hr1, .inl ⟨HF.out, rfl⟩⟩⟩
end Go.Proofs.YtocbblafgjpbeaaDoor.Sp
