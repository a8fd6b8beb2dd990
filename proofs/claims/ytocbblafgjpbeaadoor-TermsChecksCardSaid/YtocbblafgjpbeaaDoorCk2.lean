/- Walks: the checker's expressions. -/
import Derived.Test.YtocbblafgjpbeaaDoorCk1
import Derived.Deep.CutBlock
namespace Go.Proofs.YtocbblafgjpbeaaDoor.Sp
open Go.RowKit
set_option linter.unusedVariables false
set_option linter.unusedSimpArgs false

theorem ckEs_append (vs : List Var) (want : Int) (a b : List Ex) : ∀ i, ckEs vs want i (a ++ b) = (ckEs vs want i a).or (ckEs vs want (i + exSize a) b) := by
  induction a with
  | nil => intro i; simp [ckEs, exSize]
  | cons e r ih => intro i; simp only [List.cons_append, ckEs, exSize, ih, Option.or_assoc, Nat.add_assoc]
theorem exSize_append (a b : List Ex) : exSize (a ++ b) = exSize a + exSize b := by
  induction a with
  | nil => simp [exSize]
  | cons e r ih => simp [exSize, ih]; omega
theorem take_get {α : Type} {l : List α} {k : Nat} {a : α} (h : l[k]? = some a) : l.take (k + 1) = l.take k ++ [a] := by
  rw [List.take_add_one, h]; rfl
theorem split_get {α : Type} {l : List α} {k : Nat} {a : α} (h : l[k]? = some a) : l = l.take k ++ (a :: l.drop (k + 1)) := by
  obtain ⟨h1, h2⟩ := List.getElem?_eq_some_iff.1 h
  rw [← h2, ← List.drop_eq_getElem_cons h1, List.take_append_drop]
theorem ckEs_step {vs : List Var} {want : Int} {i k : Nat} {es : List Ex} {a : Ex} (h : es[k]? = some a) (h0 : ckEs vs want i (es.take k) = none) (h1 : ckE vs (i + exSize (es.take k)) want a = none) :
    ckEs vs want i (es.take (k + 1)) = none := by
  rw [take_get h, ckEs_append, h0]; simp [ckEs, h1]
theorem ckEs_stop {vs : List Var} {want : Int} {i k : Nat} {es : List Ex} {a : Ex} {f : Fd} (h : es[k]? = some a) (h0 : ckEs vs want i (es.take k) = none) (h1 : ckE vs (i + exSize (es.take k)) want a = some f) :
    ckEs vs want i es = some f := by
  rw [split_get h, ckEs_append, h0]; simp [ckEs, h1]
theorem exSize_le {es : List Ex} {k : Nat} {a : Ex} (h : es[k]? = some a) : exSize (es.take k) + a.size ≤ exSize es := by
  have := congrArg exSize (split_get h)
  rw [exSize_append, exSize] at this
  omega
theorem exSize_take (es : List Ex) (k : Nat) : exSize (es.take k) ≤ exSize es := by
  have := congrArg exSize (List.take_append_drop k es)
  rw [exSize_append] at this
  omega

def foundE (code : Int) (at_ : Nat) : Ending := .panicked [{ v := .iface 75 (.agg #[.int .i64 at_, .int .i64 code]), recovered := false }]
section
variable (g lo : Nat) (A : Option Addr) (c : Nat) (vs : List Var) (B : Option Addr) (m d : Nat)
def ExPost (w : World) (i : Nat) (want : Int) (e : Ex) (en : Ending) (w' : World) : Prop :=
  Tch (fun q => q = g) w w' ∧ ((ckE vs i want e = none ∧ en = .returned (.int .i64 (kindE vs e)) ∧ CkIs w' g ((i + e.size : Nat) : Int) A vs.length c B m d) ∨ ∃ code at_, ckE vs i want e = some (code, at_) ∧ en = foundE code at_)
def ExC (e : Ex) : Prop := ∀ (w : World) (i p : Nat) (want : Int), CkIs w g (i : Int) A vs.length c B m d → w.ownsRow lo 149 3 (.slice A vs.length c) vs.length (varCells vs) → ExAt (fun q => q < lo) w p e → e.Ok →
  i + e.size ≤ 4611686018427387904 → 0 ≤ want → want ≤ 2 →
  Calls Tryd.prog 92 #[.pointer (some ⟨g, 0, none⟩), .pointer (some ⟨p, 0, none⟩), .int .i64 want] w (ExPost g A c vs B m d w i want e)
end
theorem Ex.subs_ok {e : Ex} (h : e.Ok) : ∀ (k : Nat) (a : Ex), e.subs[k]? = some a → a.Ok := by
  intro k a hk
  have := List.mem_of_getElem? hk
  cases e <;> simp [Ex.subs] at this <;> simp [Ex.Ok] at h
  · subst this; exact h
  · rcases this with rfl | rfl <;> simp [h]
  · rcases this with rfl | rfl <;> simp [h]
  · rcases this with rfl | rfl | rfl <;> simp [h]

theorem ckE_head {vs : List Var} {i : Nat} {want : Int} {e : Ex} {f : Fd} (h : ckHead vs i want e = some f) : ckE vs i want e = some f := by
  cases e <;> simp [ckE, h]
theorem head_kind {vs : List Var} {i : Nat} {want : Int} {e : Ex} (h : kindE vs e ≠ 0) : ckHead vs i want e = if want ≠ 0 ∧ want ≠ kindE vs e then some (68, i) else none := by
  simp [ckHead, h]
theorem Ex.subs_len (e : Ex) : e.subs.length ≤ 3 := by cases e <;> simp [Ex.subs]
theorem cls_cases {e : Ex} (h : e.Ok) : (e.cls = 0 ∧ e.tn.op = 18) ∨ (e.cls = 0 ∧ e.tn.op = 19 ∧ e.tn.n ≤ 1) ∨ (e.cls = 1 ∧ e.tn.op = 19 ∧ 1 < e.tn.n ∧ e.tn.n ≤ 3 ∧ ∃ op a b, e = .bin op a b ∧ 1 < op ∧ op ≤ 3) ∨
    (e.cls = 2 ∧ e.tn.op = 19 ∧ 3 < e.tn.n) ∨ (e.cls = 2 ∧ e.tn.op ≠ 18 ∧ e.tn.op ≠ 19) := by
  cases e with
  | not a => left; exact ⟨rfl, rfl⟩
  | bin op a b =>
    by_cases h1 : op ≤ 1
    · right; left; exact ⟨by simp [Ex.cls, h1], rfl, h1⟩
    · by_cases h3 : op ≤ 3
      · right; right; left; exact ⟨by simp [Ex.cls, h1, h3], rfl, by simp [Ex.tn]; omega, h3, op, a, b, rfl, by omega, h3⟩
      · right; right; right; left; exact ⟨by simp [Ex.cls, h1, h3], rfl, by simp [Ex.tn]; omega⟩
  | _ => right; right; right; right; exact ⟨rfl, by simp [Ex.tn], by simp [Ex.tn]⟩

set_option maxRecDepth 100000 in
set_option maxHeartbeats 3200000 in
theorem expr_step (g lo : Nat) (A : Option Addr) (c : Nat) (vs : List Var) (B : Option Addr) (m d : Nat) (hlg : lo ≤ g) (hg : (Value.slice A vs.length c).ownBlock ≠ some g) (hN : NamesOk vs) (hK : KindsOk vs) (hvl : vs.length ≤ 4611686018427387904) (e : Ex)
    (ih : ∀ (k : Nat) (a : Ex), e.subs[k]? = some a → ExC g lo A c vs B m d a) : ExC g lo A c vs B m d e := by
  intro w i p want hI hV hE hOk hsz hw0 hw2
  have HIH := Asd.mk ih; have HI := Asd.mk hI; have HV := Asd.mk hV; have HE := Asd.mk hE; have HOk := Asd.mk hOk; have HN := Asd.mk hN; have HK := Asd.mk hK
  have HSZ := Asd.mk hsz
  have hgl := heap_lt hI
  clear ih hI hV hE hOk hN hK
  have hsz1 : 1 ≤ e.size := by have := e.size_subs; omega
  go_enter Tryd.func92, Tryd.ntmps92
  go_wp2_with fail
  refine (cknode_any g i A vs.length c B m d w HI.out (by omega)).mono ?_
  rintro e1 w1 ⟨rfl, hI1, hT1⟩
  have HI1 := Asd.mk hI1; have HT1 := Asd.mk hT1
  have HE1 : Asd (ExAt (fun q => q < lo) w1 p e) := ⟨HE.out.keep (Like.of_tch hT1 fun q hq => ⟨by omega, by omega⟩)⟩
  have HV1 : Asd (w1.ownsRow lo 149 3 (.slice A vs.length c) vs.length (varCells vs)) := ⟨hT1.owns HV.out fun q hq he => hg ((show q = g from he) ▸ hq)⟩
  obtain ⟨ks, ⟨hp, p0, p1, p2, KA, kc, p3, hkids⟩, hfo⟩ := HE1.out
  have c1 : w1.cell? ⟨g, 1, none⟩ = some (.slice A vs.length c) := cell_of HI1.out 1
  have HKD := Asd.mk hkids; have HFO := Asd.mk hfo
  clear hI1 hT1 hkids hfo
  go_upto_block 0 with fail
  go_cut [8] (fun v wx => v = .int .i64 (kindE vs e) ∧ kindE vs e ≠ 0 ∧ wx = w1)
  case first =>
    cases e with
    | var s =>
      simp only [Ex.tn] at p0 p1 p2 ⊢
      rcases hf : findV vs s with _ | ⟨j, v⟩
      · have HS : Asd (seenI vs s = -1) := ⟨by simp only [seenI, hf]⟩
        have HF : Asd (kindE vs (.var s) = 0) := ⟨by simp only [kindE, hf]⟩
        clear hf
        go_wp2_with (go_at_call 91; refine (seen_any g _ A _ c B m d vs s lo _ HI1.out HV1.out rfl hvl HN.out).mono ?_; rw [HS.out]; rintro e2 w2 ⟨rfl, rfl⟩)
        refine ⟨rfl, HT1.out, .inr ⟨67, i, ckE_head (by simp only [ckHead, HF.out]; rfl), rfl⟩⟩
      · have HS : Asd (seenI vs s = (j : Int)) := ⟨by simp only [seenI, hf]⟩
        have hj : j < vs.length := (List.getElem?_eq_some_iff.1 (findV_get hf).1).1
        have HF : Asd (kindE vs (.var s) = v.kind) := ⟨by simp only [kindE, hf]⟩
        have HF0 : Asd (v.kind ≠ 0) := ⟨by have := HK.out j v (findV_get hf).1; omega⟩
        obtain ⟨A', c', he, _, _, _, hr⟩ := owns_shape HV1.out
        injection he with he _ _
        subst he
        obtain ⟨b, rfl, _, hvk⟩ := hr _ _ (varCells_get vs j v (findV_get hf).1).2.1
        clear hf hr
        go_wp2_with (go_at_call 91; refine (seen_any g _ _ _ c B m d vs s lo _ HI1.out HV1.out rfl hvl HN.out).mono ?_; rw [HS.out]; rintro e2 w2 ⟨rfl, rfl⟩)
        go_meet
        exact ⟨by rw [HF.out], by rw [HF.out]; exact HF0.out, rfl⟩
    | bin op a b =>
      simp only [Ex.tn] at p0 p1 p2 ⊢
      by_cases h7 : op ≤ 7
      · have hk : Asd (kindE vs (.bin op a b) = 2) := ⟨by simp only [kindE, h7, if_true]⟩
        have g7 : decide (op ≤ 7) = true := by simpa using h7
        go_wp2_with fail
        go_meet
        exact ⟨by rw [hk.out], by rw [hk.out]; decide, rfl⟩
      · have hk : Asd (kindE vs (.bin op a b) = 1) := ⟨by simp only [kindE, h7, if_false]⟩
        have g7 : decide (op ≤ 7) = false := by simpa using h7
        go_wp2_with fail
        go_meet
        exact ⟨by rw [hk.out], by rw [hk.out]; decide, rfl⟩
    | num n =>
      have hk : Asd (kindE vs (.num n) = 1) := ⟨rfl⟩
      simp only [Ex.tn] at p0 p1 p2 ⊢
      go_wp2_with fail
      go_meet
      exact ⟨by rw [hk.out], by rw [hk.out]; decide, rfl⟩
    | tt =>
      have hk : Asd (kindE vs .tt = 2) := ⟨rfl⟩
      simp only [Ex.tn] at p0 p1 p2 ⊢
      go_wp2_with fail
      go_meet
      exact ⟨by rw [hk.out], by rw [hk.out]; decide, rfl⟩
    | ff =>
      have hk : Asd (kindE vs .ff = 2) := ⟨rfl⟩
      simp only [Ex.tn] at p0 p1 p2 ⊢
      go_wp2_with fail
      go_meet
      exact ⟨by rw [hk.out], by rw [hk.out]; decide, rfl⟩
    | not a =>
      have hk : Asd (kindE vs (.not a) = 2) := ⟨rfl⟩
      simp only [Ex.tn] at p0 p1 p2 ⊢
      go_wp2_with fail
      go_meet
      exact ⟨by rw [hk.out], by rw [hk.out]; decide, rfl⟩
    | two f a b =>
      have hk : Asd (kindE vs (.two f a b) = 1) := ⟨rfl⟩
      simp only [Ex.tn] at p0 p1 p2 ⊢
      go_wp2_with fail
      go_meet
      exact ⟨by rw [hk.out], by rw [hk.out]; decide, rfl⟩
    | share a b c' =>
      have hk : Asd (kindE vs (.share a b c') = 1) := ⟨rfl⟩
      simp only [Ex.tn] at p0 p1 p2 ⊢
      go_wp2_with fail
      go_meet
      exact ⟨by rw [hk.out], by rw [hk.out]; decide, rfl⟩
  case rest =>
    obtain ⟨rfl, hk0, hww⟩ := hcut
    have hww := hww.symm
    subst hww
    have HK0 := Asd.mk hk0; clear hk0
    by_cases hb : want ≠ 0 ∧ want ≠ kindE vs e
    · have b1 : (want != 0) = true := by simpa using hb.1
      have b2 : (want != kindE vs e) = true := by simpa using hb.2
      have HB := Asd.mk hb; clear hb
      go_wp2_with fail
      refine ⟨rfl, HT1.out, .inr ⟨68, i, ckE_head (by rw [head_kind HK0.out, if_pos HB.out]), rfl⟩⟩
    · have HH : Asd (ckHead vs i want e = none) := ⟨by rw [head_kind HK0.out, if_neg hb]⟩
      go_upto_region 16 with fail
      go_cut [61] (fun v wx => v = .bool false ∧ wx = w1)
      case first =>
        by_cases h1 : want = 0
        · have b1 : (want != 0) = false := by simpa using h1
          clear h1 hb
          go_wp2_with fail
          go_meet
          exact ⟨rfl, rfl⟩
        · have b1 : (want != 0) = true := by simpa using h1
          have b2 : (want != kindE vs e) = false := by
            by_cases h2 : want = kindE vs e
            · simpa using h2
            · exact absurd ⟨h1, h2⟩ hb
          go_wp2_with fail
          go_meet
          exact ⟨rfl, rfl⟩
      case rest =>
        obtain ⟨rfl, hww⟩ := hcut
        have hww := hww.symm
        subst hww
        clear hb
        have hle := exFo_len (es := e.subs) (by rw [← Ex.kids_subs]; exact HFO.out)
        rcases cls_cases HOk.out with ⟨hc, ho⟩ | ⟨hc, ho, hn⟩ | ⟨hc, ho, hn1, hn3, op, ea, eb, hee, hop1, hop3⟩ | ⟨hc, ho, hn⟩ | ⟨hc, ho1, ho2⟩
        · have o1 : (e.tn.op == 18) = true := by simpa using ho
          have HC := Asd.mk hc; clear hc ho
          go_wp2_with fail
          go_loopw [106] (fun kv wr => ∃ k : Nat, kv = .int .i64 (k : Int) ∧ k ≤ e.subs.length ∧ Asd (Tch (fun q => q = g) w1 wr) ∧ Asd (CkIs wr g ((i + 1 + exSize (e.subs.take k) : Nat) : Int) A vs.length c B m d) ∧ Asd (ckEs vs 2 (i + 1) (e.subs.take k) = none)) (fun kv _ => e.subs.length - (intOf kv).toNat)
          case atStart => exact ⟨0, rfl, Nat.zero_le _, ⟨Tch.refl _ _⟩, ⟨HI1.out⟩, ⟨rfl⟩⟩
          case round =>
            obtain ⟨k, rfl, hk, HTR, HCR, HER⟩ := hrel
            have hk0 : (0 : Int) ≤ (k : Int) := Int.natCast_nonneg _
            by_cases hlt : k < e.subs.length
            · have hk3 : k < 3 := Nat.lt_of_lt_of_le hlt e.subs_len
              obtain ⟨a, ha⟩ : ∃ a, e.subs[k]? = some a := ⟨_, List.getElem?_eq_getElem hlt⟩
              obtain ⟨q, hq, hqa⟩ := exFo_get (es := e.subs) (by rw [← Ex.kids_subs]; exact HFO.out) k a ha
              obtain ⟨kb, hkb, rfl, hcl⟩ := HKD.out k q hq
              have hcl' := HTR.out.cell_some hcl (by show ¬ kb = g; omega)
              have hk1 : (k : Int) < (ks.length : Int) := by omega
              have HQA : Asd (ExAt (fun q => q < lo) wr q a) := ⟨hqa.keep (Like.of_tch HTR.out fun q hq => ⟨by have := heap_lt HI1.out; omega, by omega⟩)⟩
              have HA := Asd.mk ha
              have HVR : Asd (wr.ownsRow lo 149 3 (.slice A vs.length c) vs.length (varCells vs)) := ⟨HTR.out.owns HV1.out fun q hq he => hg ((show q = g from he) ▸ hq)⟩
              have hlen : i + 1 + exSize (e.subs.take k) + a.size ≤ 4611686018427387904 := by have := exSize_le ha; have := e.size_subs; have := HSZ.out; omega
              have HLEN := Asd.mk hlen
              clear ha hqa hcl hlen hq
              go_wp2_with fail
              refine (HIH.out k a HA.out wr (i + 1 + exSize (e.subs.take k)) q 2 HCR.out HVR.out HQA.out (Ex.subs_ok HOk.out k a HA.out) HLEN.out (by decide) (by decide)).mono ?_
              rintro e2 w2 ⟨hT2, ⟨h1, rfl, h2⟩ | ⟨code, at_, h1, rfl⟩⟩
              · have HT2 := Asd.mk hT2; have H1 := Asd.mk h1; have H2 := Asd.mk h2
                clear hT2 h1 h2
                go_wp2_with fail
                go_roundw
                case rel => exact ⟨k + 1, by go_num, hlt, ⟨HTR.out.trans HT2.out⟩, ⟨by
                  have := H2.out
                  rw [take_get HA.out, exSize_append]
                  simpa [exSize, Nat.add_assoc] using this⟩, ⟨ckEs_step HA.out HER.out H1.out⟩⟩
                case measure => simp [intOf]; omega
              · go_wp2_with fail
                exact ⟨rfl, HT1.out.trans (HTR.out.trans hT2), .inr ⟨code, at_, by rw [ckE_bool HC.out, HH.out]; exact ckEs_stop HA.out HER.out h1, by first | rfl | assumption | (symm; assumption)⟩⟩
            · have hke : k = e.subs.length := by omega
              have HF : Asd (ckE vs i want e = none) := ⟨by
                rw [ckE_bool HC.out, HH.out]
                have := HER.out
                rw [hke, List.take_length] at this
                exact this⟩
              have HCF : Asd (CkIs wr g ((i + e.size : Nat) : Int) A vs.length c B m d) := ⟨by
                have := HCR.out
                rw [hke, List.take_length] at this
                rw [e.size_subs, ← Nat.add_assoc]; exact this⟩
              have hk1 : ¬ (k : Int) < (ks.length : Int) := by omega
              go_wp2_with fail
              go_ret
              exact ⟨HT1.out.trans HTR.out, .inl ⟨HF.out, rfl, HCF.out⟩⟩
        · have o1 : (e.tn.op == 18) = false := by simp [ho]
          have o2 : (e.tn.op == 19) = true := by simp [ho]
          have o3 : decide (e.tn.n ≤ 1) = true := by simpa using hn
          have HC := Asd.mk hc; clear hc ho hn
          go_wp2_with fail
          go_loopw [106] (fun kv wr => ∃ k : Nat, kv = .int .i64 (k : Int) ∧ k ≤ e.subs.length ∧ Asd (Tch (fun q => q = g) w1 wr) ∧ Asd (CkIs wr g ((i + 1 + exSize (e.subs.take k) : Nat) : Int) A vs.length c B m d) ∧ Asd (ckEs vs 2 (i + 1) (e.subs.take k) = none)) (fun kv _ => e.subs.length - (intOf kv).toNat)
          case atStart => exact ⟨0, rfl, Nat.zero_le _, ⟨Tch.refl _ _⟩, ⟨HI1.out⟩, ⟨rfl⟩⟩
          case round =>
            obtain ⟨k, rfl, hk, HTR, HCR, HER⟩ := hrel
            have hk0 : (0 : Int) ≤ (k : Int) := Int.natCast_nonneg _
            by_cases hlt : k < e.subs.length
            · have hk3 : k < 3 := Nat.lt_of_lt_of_le hlt e.subs_len
              obtain ⟨a, ha⟩ : ∃ a, e.subs[k]? = some a := ⟨_, List.getElem?_eq_getElem hlt⟩
              obtain ⟨q, hq, hqa⟩ := exFo_get (es := e.subs) (by rw [← Ex.kids_subs]; exact HFO.out) k a ha
              obtain ⟨kb, hkb, rfl, hcl⟩ := HKD.out k q hq
              have hcl' := HTR.out.cell_some hcl (by show ¬ kb = g; omega)
              have hk1 : (k : Int) < (ks.length : Int) := by omega
              have HQA : Asd (ExAt (fun q => q < lo) wr q a) := ⟨hqa.keep (Like.of_tch HTR.out fun q hq => ⟨by have := heap_lt HI1.out; omega, by omega⟩)⟩
              have HA := Asd.mk ha
              have HVR : Asd (wr.ownsRow lo 149 3 (.slice A vs.length c) vs.length (varCells vs)) := ⟨HTR.out.owns HV1.out fun q hq he => hg ((show q = g from he) ▸ hq)⟩
              have hlen : i + 1 + exSize (e.subs.take k) + a.size ≤ 4611686018427387904 := by have := exSize_le ha; have := e.size_subs; have := HSZ.out; omega
              have HLEN := Asd.mk hlen
              clear ha hqa hcl hlen hq
              go_wp2_with fail
              refine (HIH.out k a HA.out wr (i + 1 + exSize (e.subs.take k)) q 2 HCR.out HVR.out HQA.out (Ex.subs_ok HOk.out k a HA.out) HLEN.out (by decide) (by decide)).mono ?_
              rintro e2 w2 ⟨hT2, ⟨h1, rfl, h2⟩ | ⟨code, at_, h1, rfl⟩⟩
              · have HT2 := Asd.mk hT2; have H1 := Asd.mk h1; have H2 := Asd.mk h2
                clear hT2 h1 h2
                go_wp2_with fail
                go_roundw
                case rel => exact ⟨k + 1, by go_num, hlt, ⟨HTR.out.trans HT2.out⟩, ⟨by
                  have := H2.out
                  rw [take_get HA.out, exSize_append]
                  simpa [exSize, Nat.add_assoc] using this⟩, ⟨ckEs_step HA.out HER.out H1.out⟩⟩
                case measure => simp [intOf]; omega
              · go_wp2_with fail
                exact ⟨rfl, HT1.out.trans (HTR.out.trans hT2), .inr ⟨code, at_, by rw [ckE_bool HC.out, HH.out]; exact ckEs_stop HA.out HER.out h1, by first | rfl | assumption | (symm; assumption)⟩⟩
            · have hke : k = e.subs.length := by omega
              have HF : Asd (ckE vs i want e = none) := ⟨by
                rw [ckE_bool HC.out, HH.out]
                have := HER.out
                rw [hke, List.take_length] at this
                exact this⟩
              have HCF : Asd (CkIs wr g ((i + e.size : Nat) : Int) A vs.length c B m d) := ⟨by
                have := HCR.out
                rw [hke, List.take_length] at this
                rw [e.size_subs, ← Nat.add_assoc]; exact this⟩
              have hk1 : ¬ (k : Int) < (ks.length : Int) := by omega
              go_wp2_with fail
              go_ret
              exact ⟨HT1.out.trans HTR.out, .inl ⟨HF.out, rfl, HCF.out⟩⟩
        · subst hee
          have o1 : ((Ex.bin op ea eb).tn.op == 18) = false := rfl
          have o2 : ((Ex.bin op ea eb).tn.op == 19) = true := rfl
          have o3 : decide ((Ex.bin op ea eb).tn.n ≤ 1) = false := by simp; omega
          have o4 : decide ((Ex.bin op ea eb).tn.n ≤ 3) = true := by simpa using hn3
          obtain ⟨qa, hqa, hea⟩ := exFo_get (es := [ea, eb]) HFO.out 0 ea rfl
          obtain ⟨qb, hqb, heb⟩ := exFo_get (es := [ea, eb]) HFO.out 1 eb rfl
          obtain ⟨kb, hkb, rfl, hca⟩ := HKD.out 0 qa hqa
          obtain ⟨kb', _, hkk, hcb⟩ := HKD.out 1 qb hqb
          injection hkk with hkk
          injection hkk with hkk _ _
          subst hkk
          have hks : ks.length = 2 := hle
          have HEA := Asd.mk hea; have HEB := Asd.mk heb; have HHK := Asd.mk (And.intro hop1 hop3)
          rw [hks] at p3
          have hgN : Asd (¬ kb = g) := ⟨by omega⟩
          have hpN : Asd (¬ p = g) := ⟨by omega⟩
          clear hc ho hn1 hn3 hea heb hqa hqb hle hks hop1 hop3
          go_wp2_with fail
          refine wp_region_heldB (n := 16) (fun w' => w'.cell? ⟨p, 3, none⟩ = some (.slice (some ⟨kb, 0, none⟩) 2 kc) ∧ w'.cell? ⟨kb, 0, none⟩ = some (.pointer (some ⟨qa, 0, none⟩)) ∧ w'.cell? ⟨kb, 1, none⟩ = some (.pointer (some ⟨qb, 0, none⟩))) (by kernel_rfl) (by kernel_rfl) ?_ ⟨p3, hca, hcb⟩ ?_
          · intro _ _ d _ _ h; cases d <;> exact h
          repeat (apply wpHeld_light rfl rfl rfl
                  · (rintro w' ⟨s1, s2, s3⟩; go_simp; first | done | rfl)
                  simp only [Act.put, List.setIfInBounds_toArray, List.set_cons_zero, List.set_cons_succ])
          refine wpHeld_heavy rfl rfl rfl (fun K hK => ?_)
          have HCD : Asd (CkIs w1.drew g ((i + 1 : Nat) : Int) A vs.length c B m d) := HI1
          go_wp2_with fail
          refine (HIH.out 0 ea rfl w1.drew (i + 1) qa 0 HCD.out HV1.out (HEA.out.keep (fun _ _ => rfl)) (Ex.subs_ok HOk.out 0 ea rfl) (by have := HSZ.out; simp [Ex.size] at this; omega) (by decide) (by decide)).mono ?_
          rintro e2 w2 ⟨hT2, ⟨h1, rfl, h2⟩ | ⟨code, at_, h1, rfl⟩⟩
          · have HT2 : Asd (Tch (fun q => q = g) w1 w2) := ⟨(((Tch.refl (fun q => q = g) w1).drew)).trans hT2⟩
            have H1 := Asd.mk h1; have H2 := Asd.mk h2
            have cp := HT2.out.cell_some p3 hpN.out
            have ca := HT2.out.cell_some hca hgN.out
            have cb := HT2.out.cell_some hcb hgN.out
            have HEB2 : Asd (ExAt (fun q => q < lo) w2 qb eb) := ⟨HEB.out.keep (Like.of_tch HT2.out fun q hq => ⟨by have := heap_lt HI1.out; omega, by omega⟩)⟩
            have HV2 : Asd (w2.ownsRow lo 149 3 (.slice A vs.length c) vs.length (varCells vs)) := ⟨HT2.out.owns HV1.out fun q hq he => hg ((show q = g from he) ▸ hq)⟩
            have HKE : Asd (0 ≤ kindE vs ea ∧ kindE vs ea ≤ 2) := ⟨by have := kindE_ok HK.out ea; omega⟩
            clear hT2 h1 h2
            refine hK _ _ ⟨cp, ca, cb⟩ ?_
            clear hK K
            refine wpHeld_heavy rfl rfl rfl (fun K hK => ?_)
            go_wp2_with fail
            refine (HIH.out 1 eb rfl w2 (i + 1 + ea.size) qb (kindE vs ea) H2.out HV2.out HEB2.out (Ex.subs_ok HOk.out 1 eb rfl) (by have := HSZ.out; simp [Ex.size] at this; omega) HKE.out.1 HKE.out.2).mono ?_
            rintro e3 w3 ⟨hT3, ⟨h1, rfl, h2⟩ | ⟨code, at_, h1, rfl⟩⟩
            · have HF : Asd (ckE vs i want (.bin op ea eb) = none) := ⟨by
                have k1 : ¬ op ≤ 1 := by have := HHK.out; omega
                simp only [ckE, HH.out, k1, HHK.out.2, if_false, if_true, H1.out, h1]; rfl⟩
              have HCF : Asd (CkIs w3 g ((i + (Ex.bin op ea eb).size : Nat) : Int) A vs.length c B m d) := ⟨by
                rw [show i + (Ex.bin op ea eb).size = i + 1 + ea.size + eb.size by simp [Ex.size]; omega]; exact h2⟩
              have HT3 := Asd.mk hT3
              have cp := hT3.cell_some cp hpN.out
              have ca := hT3.cell_some ca hgN.out
              have cb := hT3.cell_some cb hgN.out
              clear hT3 h1 h2
              refine hK _ _ ⟨cp, ca, cb⟩ ?_
              clear hK K
              refine wpHeld_tail rfl ?_
              go_wp2_with fail
              go_ret
              exact ⟨HT1.out.trans (HT2.out.trans HT3.out), .inl ⟨HF.out, rfl, HCF.out⟩⟩
            · refine ⟨rfl, HT1.out.trans (HT2.out.trans hT3), .inr ⟨code, at_, ?_, by first | rfl | assumption | (symm; assumption)⟩⟩
              have k1 : ¬ op ≤ 1 := by have := HHK.out; omega
              simp only [ckE, HH.out, k1, HHK.out.2, if_false, if_true, H1.out, h1]; rfl
          · refine ⟨rfl, HT1.out.trans ((((Tch.refl (fun q => q = g) w1).drew)).trans hT2), .inr ⟨code, at_, ?_, by first | rfl | assumption | (symm; assumption)⟩⟩
            have k1 : ¬ op ≤ 1 := by have := HHK.out; omega
            simp only [ckE, HH.out, k1, HHK.out.2, if_false, if_true, h1]; rfl
        · have o1 : (e.tn.op == 18) = false := by simp [ho]
          have o2 : (e.tn.op == 19) = true := by simp [ho]
          have o3 : decide (e.tn.n ≤ 1) = false := by simp; omega
          have o4 : decide (e.tn.n ≤ 3) = false := by simp; omega
          have HC := Asd.mk hc; clear hc ho hn
          go_wp2_with fail
          go_loopw [70] (fun kv wr => ∃ k : Nat, kv = .int .i64 (k : Int) ∧ k ≤ e.subs.length ∧ Asd (Tch (fun q => q = g) w1 wr) ∧ Asd (CkIs wr g ((i + 1 + exSize (e.subs.take k) : Nat) : Int) A vs.length c B m d) ∧ Asd (ckEs vs 1 (i + 1) (e.subs.take k) = none)) (fun kv _ => e.subs.length - (intOf kv).toNat)
          case atStart => exact ⟨0, rfl, Nat.zero_le _, ⟨Tch.refl _ _⟩, ⟨HI1.out⟩, ⟨rfl⟩⟩
          case round =>
            obtain ⟨k, rfl, hk, HTR, HCR, HER⟩ := hrel
            have hk0 : (0 : Int) ≤ (k : Int) := Int.natCast_nonneg _
            by_cases hlt : k < e.subs.length
            · have hk3 : k < 3 := Nat.lt_of_lt_of_le hlt e.subs_len
              obtain ⟨a, ha⟩ : ∃ a, e.subs[k]? = some a := ⟨_, List.getElem?_eq_getElem hlt⟩
              obtain ⟨q, hq, hqa⟩ := exFo_get (es := e.subs) (by rw [← Ex.kids_subs]; exact HFO.out) k a ha
              obtain ⟨kb, hkb, rfl, hcl⟩ := HKD.out k q hq
              have hcl' := HTR.out.cell_some hcl (by show ¬ kb = g; omega)
              have hk1 : (k : Int) < (ks.length : Int) := by omega
              have HQA : Asd (ExAt (fun q => q < lo) wr q a) := ⟨hqa.keep (Like.of_tch HTR.out fun q hq => ⟨by have := heap_lt HI1.out; omega, by omega⟩)⟩
              have HA := Asd.mk ha
              have HVR : Asd (wr.ownsRow lo 149 3 (.slice A vs.length c) vs.length (varCells vs)) := ⟨HTR.out.owns HV1.out fun q hq he => hg ((show q = g from he) ▸ hq)⟩
              have hlen : i + 1 + exSize (e.subs.take k) + a.size ≤ 4611686018427387904 := by have := exSize_le ha; have := e.size_subs; have := HSZ.out; omega
              have HLEN := Asd.mk hlen
              clear ha hqa hcl hlen hq
              go_wp2_with fail
              refine (HIH.out k a HA.out wr (i + 1 + exSize (e.subs.take k)) q 1 HCR.out HVR.out HQA.out (Ex.subs_ok HOk.out k a HA.out) HLEN.out (by decide) (by decide)).mono ?_
              rintro e2 w2 ⟨hT2, ⟨h1, rfl, h2⟩ | ⟨code, at_, h1, rfl⟩⟩
              · have HT2 := Asd.mk hT2; have H1 := Asd.mk h1; have H2 := Asd.mk h2
                clear hT2 h1 h2
                go_wp2_with fail
                go_roundw
                case rel => exact ⟨k + 1, by go_num, hlt, ⟨HTR.out.trans HT2.out⟩, ⟨by
                  have := H2.out
                  rw [take_get HA.out, exSize_append]
                  simpa [exSize, Nat.add_assoc] using this⟩, ⟨ckEs_step HA.out HER.out H1.out⟩⟩
                case measure => simp [intOf]; omega
              · go_wp2_with fail
                exact ⟨rfl, HT1.out.trans (HTR.out.trans hT2), .inr ⟨code, at_, by rw [ckE_num HC.out, HH.out]; exact ckEs_stop HA.out HER.out h1, by first | rfl | assumption | (symm; assumption)⟩⟩
            · have hke : k = e.subs.length := by omega
              have HF : Asd (ckE vs i want e = none) := ⟨by
                rw [ckE_num HC.out, HH.out]
                have := HER.out
                rw [hke, List.take_length] at this
                exact this⟩
              have HCF : Asd (CkIs wr g ((i + e.size : Nat) : Int) A vs.length c B m d) := ⟨by
                have := HCR.out
                rw [hke, List.take_length] at this
                rw [e.size_subs, ← Nat.add_assoc]; exact this⟩
              have hk1 : ¬ (k : Int) < (ks.length : Int) := by omega
              go_wp2_with fail
              go_ret
              exact ⟨HT1.out.trans HTR.out, .inl ⟨HF.out, rfl, HCF.out⟩⟩
        · have o1 : (e.tn.op == 18) = false := by simpa using ho1
          have o2 : (e.tn.op == 19) = false := by simpa using ho2
          have HC := Asd.mk hc; clear hc ho1 ho2
          go_wp2_with fail
          go_loopw [70] (fun kv wr => ∃ k : Nat, kv = .int .i64 (k : Int) ∧ k ≤ e.subs.length ∧ Asd (Tch (fun q => q = g) w1 wr) ∧ Asd (CkIs wr g ((i + 1 + exSize (e.subs.take k) : Nat) : Int) A vs.length c B m d) ∧ Asd (ckEs vs 1 (i + 1) (e.subs.take k) = none)) (fun kv _ => e.subs.length - (intOf kv).toNat)
          case atStart => exact ⟨0, rfl, Nat.zero_le _, ⟨Tch.refl _ _⟩, ⟨HI1.out⟩, ⟨rfl⟩⟩
          case round =>
            obtain ⟨k, rfl, hk, HTR, HCR, HER⟩ := hrel
            have hk0 : (0 : Int) ≤ (k : Int) := Int.natCast_nonneg _
            by_cases hlt : k < e.subs.length
            · have hk3 : k < 3 := Nat.lt_of_lt_of_le hlt e.subs_len
              obtain ⟨a, ha⟩ : ∃ a, e.subs[k]? = some a := ⟨_, List.getElem?_eq_getElem hlt⟩
              obtain ⟨q, hq, hqa⟩ := exFo_get (es := e.subs) (by rw [← Ex.kids_subs]; exact HFO.out) k a ha
              obtain ⟨kb, hkb, rfl, hcl⟩ := HKD.out k q hq
              have hcl' := HTR.out.cell_some hcl (by show ¬ kb = g; omega)
              have hk1 : (k : Int) < (ks.length : Int) := by omega
              have HQA : Asd (ExAt (fun q => q < lo) wr q a) := ⟨hqa.keep (Like.of_tch HTR.out fun q hq => ⟨by have := heap_lt HI1.out; omega, by omega⟩)⟩
              have HA := Asd.mk ha
              have HVR : Asd (wr.ownsRow lo 149 3 (.slice A vs.length c) vs.length (varCells vs)) := ⟨HTR.out.owns HV1.out fun q hq he => hg ((show q = g from he) ▸ hq)⟩
              have hlen : i + 1 + exSize (e.subs.take k) + a.size ≤ 4611686018427387904 := by have := exSize_le ha; have := e.size_subs; have := HSZ.out; omega
              have HLEN := Asd.mk hlen
              clear ha hqa hcl hlen hq
              go_wp2_with fail
              refine (HIH.out k a HA.out wr (i + 1 + exSize (e.subs.take k)) q 1 HCR.out HVR.out HQA.out (Ex.subs_ok HOk.out k a HA.out) HLEN.out (by decide) (by decide)).mono ?_
              rintro e2 w2 ⟨hT2, ⟨h1, rfl, h2⟩ | ⟨code, at_, h1, rfl⟩⟩
              · have HT2 := Asd.mk hT2; have H1 := Asd.mk h1; have H2 := Asd.mk h2
                clear hT2 h1 h2
                go_wp2_with fail
                go_roundw
                case rel => exact ⟨k + 1, by go_num, hlt, ⟨HTR.out.trans HT2.out⟩, ⟨by
                  have := H2.out
                  rw [take_get HA.out, exSize_append]
                  simpa [exSize, Nat.add_assoc] using this⟩, ⟨ckEs_step HA.out HER.out H1.out⟩⟩
                case measure => simp [intOf]; omega
              · go_wp2_with fail
                exact ⟨rfl, HT1.out.trans (HTR.out.trans hT2), .inr ⟨code, at_, by rw [ckE_num HC.out, HH.out]; exact ckEs_stop HA.out HER.out h1, by first | rfl | assumption | (symm; assumption)⟩⟩
            · have hke : k = e.subs.length := by omega
              have HF : Asd (ckE vs i want e = none) := ⟨by
                rw [ckE_num HC.out, HH.out]
                have := HER.out
                rw [hke, List.take_length] at this
                exact this⟩
              have HCF : Asd (CkIs wr g ((i + e.size : Nat) : Int) A vs.length c B m d) := ⟨by
                have := HCR.out
                rw [hke, List.take_length] at this
                rw [e.size_subs, ← Nat.add_assoc]; exact this⟩
              have hk1 : ¬ (k : Int) < (ks.length : Int) := by omega
              go_wp2_with fail
              go_ret
              exact ⟨HT1.out.trans HTR.out, .inl ⟨HF.out, rfl, HCF.out⟩⟩

theorem expr_any (g lo : Nat) (A : Option Addr) (c : Nat) (vs : List Var) (B : Option Addr) (m d : Nat) (hlg : lo ≤ g) (hg : (Value.slice A vs.length c).ownBlock ≠ some g) (hN : NamesOk vs) (hK : KindsOk vs) (hvl : vs.length ≤ 4611686018427387904) (e : Ex) : ExC g lo A c vs B m d e := by
  induction e with
  | not a ha => exact expr_step g lo A c vs B m d hlg hg hN hK hvl _ (fun k x hk => by
      have := List.mem_of_getElem? hk; simp [Ex.subs] at this; subst this; exact ha)
  | bin op a b ha hb => exact expr_step g lo A c vs B m d hlg hg hN hK hvl _ (fun k x hk => by
      have := List.mem_of_getElem? hk; simp [Ex.subs] at this; rcases this with rfl | rfl <;> assumption)
  | two f a b ha hb => exact expr_step g lo A c vs B m d hlg hg hN hK hvl _ (fun k x hk => by
      have := List.mem_of_getElem? hk; simp [Ex.subs] at this; rcases this with rfl | rfl <;> assumption)
  | share a b c' ha hb hc => exact expr_step g lo A c vs B m d hlg hg hN hK hvl _ (fun k x hk => by
      have := List.mem_of_getElem? hk; simp [Ex.subs] at this; rcases this with rfl | rfl | rfl <;> assumption)
  | _ => exact expr_step g lo A c vs B m d hlg hg hN hK hvl _ (fun k x hk => by simp [Ex.subs] at hk)
end Go.Proofs.YtocbblafgjpbeaaDoor.Sp
