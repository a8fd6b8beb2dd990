/- Walks: the checker: its node, the variables it sees, the loops around. -/
import Derived.Test.YtocbblafgjpbeaaDoorCkSpec
import Derived.Test.YtocbblafgjpbeaaDoorGrow2
namespace Go.Proofs.YtocbblafgjpbeaaDoor.Sp
open Go.RowKit
set_option linter.unusedVariables false
set_option linter.unusedSimpArgs false

/-- The checker in memory. -/
def CkIs (w : World) (g : Nat) (i : Int) (A : Option Addr) (n c : Nat) (B : Option Addr) (m d : Nat) : Prop :=
  w.heap[g]? = some (.cells #[.int .i64 i, .slice A n c, .slice B m d] 80 (0, 0))
/-- An expression in memory. -/
def ExAt (S : Nat → Prop) (w : World) (p : Nat) (e : Ex) : Prop := ∃ ks, NodeAt S w p e.tn ks ∧ FoAt S w e.kids ks
theorem ExAt.keep {S : Nat → Prop} {w w' : World} {p : Nat} {e : Ex} (h : ExAt S w p e) (hb : Like S w w') : ExAt S w' p e := by
  obtain ⟨ks, h1, h2⟩ := h
  exact ⟨ks, h1.keep hb, h2.keep hb⟩
theorem exFo_get {S : Nat → Prop} {w : World} : ∀ {es : List Ex} {bs : List Nat}, FoAt S w (exFo es) bs → ∀ (j : Nat) (a : Ex), es[j]? = some a → ∃ p, bs[j]? = some p ∧ ExAt S w p a := by
  intro es
  induction es with
  | nil => intro bs h j a hj; simp at hj
  | cons e r ih =>
    rintro bs ⟨b, bs', ks, rfl, h1, h2, h3⟩ j a hj
    cases j with
    | zero => simp at hj; subst hj; exact ⟨b, rfl, ks, h1, h2⟩
    | succ j =>
      obtain ⟨p, k1, k2⟩ := ih h3 j a (by simpa using hj)
      exact ⟨p, by simpa using k1, k2⟩
theorem exFo_len {S : Nat → Prop} {w : World} {es : List Ex} {bs : List Nat} (h : FoAt S w (exFo es) bs) : bs.length = es.length := by
  rw [h.length]
  clear h
  induction es with
  | nil => rfl
  | cons e r ih => simp [exFo, Fo.len, ih]

theorem cknode_any (g : Nat) (i : Int) (A : Option Addr) (n c : Nat) (B : Option Addr) (m d : Nat) (w : World) (h : CkIs w g i A n c B m d) (hi : 0 ≤ i ∧ i ≤ 4611686018427387904) :
    Calls Tryd.prog 36 #[.pointer (some ⟨g, 0, none⟩)] w fun e w' => e = .returned (.int .i64 i) ∧ CkIs w' g (i + 1) A n c B m d ∧ Tch (fun q => q = g) w w' := by
  have c0 : w.cell? ⟨g, 0, none⟩ = some (.int .i64 i) := cell_of h 0
  have f0 : w.frozen? ⟨g, 0, none⟩ = false := frozen_of h 0
  have hgl := heap_lt h
  have H1 : Asd (CkIs (w.setCell ⟨g, 0, none⟩ (.int .i64 (i + 1))) g (i + 1) A n c B m d) := ⟨by
    have := heap_set h 0 (.int .i64 (i + 1))
    unfold CkIs; rw [this]; rfl⟩
  have H2 : Asd (Tch (fun q => q = g) w (w.setCell ⟨g, 0, none⟩ (.int .i64 (i + 1)))) := ⟨(Tch.refl (fun q => q = g) w).setCell (p := ⟨g, 0, none⟩) (fun _ => rfl) _⟩
  have d0 : (w.setCell ⟨g, 0, none⟩ (.int .i64 (i + 1))).cell? ⟨g, 0, none⟩ = some (.int .i64 (i + 1)) := cell_of H1.out 0
  have hw1 : IntKind.i64.wrap (i + 1) = i + 1 := IntWalk.i64_in _ (by omega)
  have hw2 : wrap64 i = i := by first | exact wrap64_of (by omega) (by omega) | (unfold wrap64; omega)
  clear h hi
  go_enter Tryd.func36, Tryd.ntmps36
  go_wp2_with fail
  go_ret
  first
  | exact ⟨rfl, H1.out, H2.out⟩
  | exact ⟨by show Ending.returned (.int .i64 (wrap64 i)) = _; rw [hw2], H1.out, H2.out⟩

def seenI (vs : List Var) (s : Str) : Int := match findV vs s with | some p => (p.1 : Int) | none => -1
set_option maxHeartbeats 800000 in
theorem seen_any (g : Nat) (i : Int) (A : Option Addr) (n c : Nat) (B : Option Addr) (m d : Nat) (vs : List Var) (s : Str) (lo : Nat) (w : World) (h : CkIs w g i A n c B m d)
    (hv : w.ownsRow lo 149 3 (.slice A n c) n (varCells vs)) (hn : vs.length = n) (hm : n ≤ 4611686018427387904) (hN : NamesOk vs) :
    Calls Tryd.prog 91 #[.pointer (some ⟨g, 0, none⟩), .string s] w fun e w' => e = .returned (.int .i64 (seenI vs s)) ∧ w' = w := by
  have c1 : w.cell? ⟨g, 1, none⟩ = some (.slice A n c) := cell_of h 1
  have HV : Asd (∀ (j : Nat) (v : Var), vs[j]? = some v → ∃ b, A = some ⟨b, 0, none⟩ ∧ w.cell? ⟨b, j * 3, none⟩ = some (.string v.name)) := ⟨by
    obtain ⟨A', c', he, _, _, _, hr⟩ := owns_shape hv
    injection he with he _ _
    subst he
    intro j v hj
    obtain ⟨b, h1, _, h2⟩ := hr _ _ (varCells_get vs j v hj).1
    exact ⟨b, h1, h2⟩⟩
  have HN := Asd.mk hN; have HL := Asd.mk hn; clear h hv hN hn
  have hw0 : IntKind.i64.wrap ((n : Int) - 1) = (n : Int) - 1 := IntWalk.i64_in _ (by omega)
  go_enter Tryd.func91, Tryd.ntmps91
  go_wp2_with fail
  go_loop [5] (fun iv => ∃ z : Int, iv = .int .i64 z ∧ -1 ≤ z ∧ z < n ∧ Asd (∀ (j : Nat) (v : Var), z < j → vs[j]? = some v → v.name ≠ s)) (fun iv => (intOf iv + 1).toNat)
  case atStart => exact ⟨(n : Int) - 1, by first | rfl | rw [hw0], by omega, by omega, ⟨fun j v hj hv => by
    have := (List.getElem?_eq_some_iff.1 hv).1; have := HL.out; omega⟩⟩
  case round =>
    obtain ⟨z, rfl, hz1, hz2, HM⟩ := hrel
    by_cases hz : 0 ≤ z
    · obtain ⟨k, rfl⟩ : ∃ k : Nat, z = (k : Int) := ⟨z.toNat, by omega⟩
      obtain ⟨v, hv⟩ : ∃ v, vs[k]? = some v := ⟨_, List.getElem?_eq_getElem (by rw [HL.out]; omega)⟩
      obtain ⟨b, rfl, hc⟩ := HV.out k v hv
      have HX := Asd.mk hv; clear hv
      have hw1 : IntKind.i64.wrap ((k : Int) - 1) = (k : Int) - 1 := IntWalk.i64_in _ (by omega)
      cases hs : (v.name.toList == s.toList) with
      | true =>
        have HE : Asd (v.name = s) := ⟨sEq_iff.1 hs⟩
        go_wp2_with fail
        go_ret
        exact ⟨by simp only [seenI, findV_hit HN.out HX.out HE.out]; rfl, rfl⟩
      | false =>
        have HE : Asd (v.name ≠ s) := ⟨sEq_false.1 hs⟩
        go_wp2_with fail
        go_round
        case rel => exact ⟨(k : Int) - 1, by go_num, by omega, by omega, ⟨fun j u hj hu => by
          by_cases hjk : j = k
          · subst hjk; have := HX.out; rw [this] at hu; injection hu with hu; subst hu; exact HE.out
          · exact HM.out j u (by omega) hu⟩⟩
        case measure => simp [intOf]; try omega
    · have hz' : z = -1 := by omega
      subst hz'
      have HF : Asd (seenI vs s = -1) := ⟨by simp only [seenI, findV_miss (fun j v hj => HM.out j v (by omega) hj)]⟩
      clear hz hz1 hz2
      go_wp2_with fail
      go_ret
      exact ⟨by rw [HF.out]; rfl, rfl⟩

def labCells (labs : List Str) : List Value := labs.map fun l => .string l
def noRing (labs : List Str) (l : Str) : Bool := labs.isEmpty || (!sEq l empty && !hasL labs l)
theorem hasL_true {labs : List Str} {l : Str} {j : Nat} {m : Str} (h : labs[j]? = some m) (he : sEq m l = true) : hasL labs l = true := by
  simp only [hasL, List.any_eq_true]
  exact ⟨m, List.mem_of_getElem? h, he⟩
theorem hasL_false {labs : List Str} {l : Str} (h : ∀ (j : Nat) (m : Str), labs[j]? = some m → sEq m l = false) : hasL labs l = false := by
  simp only [hasL, List.any_eq_false]
  intro m hm
  obtain ⟨j, hj⟩ := List.getElem?_of_mem hm
  simp [h j m hj]
set_option maxHeartbeats 800000 in
theorem ring_any (B : Option Addr) (m d : Nat) (labs : List Str) (s : Str) (lo : Nat) (w : World)
    (hv : w.ownsRow lo 9 1 (.slice B m d) m (labCells labs)) (hn : labs.length = m) (hm : m ≤ 4611686018427387904) :
    Calls Tryd.prog 93 #[.slice B m d, .string s] w fun e w' => ∃ r : Int, e = .returned (.int .i64 r) ∧ decide (r < 0) = noRing labs s ∧ -1 ≤ r ∧ r < m ∧ w' = w := by
  have HV : Asd (∀ (j : Nat) (v : Str), labs[j]? = some v → ∃ b, B = some ⟨b, 0, none⟩ ∧ w.cell? ⟨b, j, none⟩ = some (.string v)) := ⟨by
    obtain ⟨A', c', he, _, _, _, hr⟩ := owns_shape hv
    injection he with he _ _
    subst he
    intro j v hj
    obtain ⟨b, h1, _, h2⟩ := hr j (.string v) (by simp [labCells, hj])
    exact ⟨b, h1, h2⟩⟩
  have HL := Asd.mk hn; clear hv hn
  have hw0 : IntKind.i64.wrap ((m : Int) - 1) = (m : Int) - 1 := IntWalk.i64_in _ (by omega)
  have hemp : sEq s empty = s.toList.isEmpty := by
    unfold sEq; rw [toList_empty]; cases s.toList <;> rfl
  have HE := Asd.mk hemp; clear hemp
  go_enter Tryd.func93, Tryd.ntmps93
  go_wp2_with fail
  go_loop [5] (fun iv => ∃ z : Int, iv = .int .i64 z ∧ -1 ≤ z ∧ z < m ∧ Asd (∀ (j : Nat) (v : Str), z < j → labs[j]? = some v → sEq s empty = false ∧ sEq v s = false)) (fun iv => (intOf iv + 1).toNat)
  case atStart => exact ⟨(m : Int) - 1, by first | rfl | rw [hw0], by omega, by omega, ⟨fun j v hj hv => by
    have := (List.getElem?_eq_some_iff.1 hv).1; have := HL.out; omega⟩⟩
  case round =>
    obtain ⟨z, rfl, hz1, hz2, HM⟩ := hrel
    by_cases hz : 0 ≤ z
    · obtain ⟨k, rfl⟩ : ∃ k : Nat, z = (k : Int) := ⟨z.toNat, by omega⟩
      obtain ⟨v, hv⟩ : ∃ v, labs[k]? = some v := ⟨_, List.getElem?_eq_getElem (by rw [HL.out]; omega)⟩
      obtain ⟨b, rfl, hc⟩ := HV.out k v hv
      have HX := Asd.mk hv; clear hv
      have hw1 : IntKind.i64.wrap ((k : Int) - 1) = (k : Int) - 1 := IntWalk.i64_in _ (by omega)
      have HNE : Asd (labs.isEmpty = false) := ⟨by
        have := (List.getElem?_eq_some_iff.1 HX.out).1
        cases labs with
        | nil => simp at this
        | cons _ _ => rfl⟩
      cases hem : s.toList.isEmpty with
      | true =>
        have hem2 : s.toList = [] := by simpa using hem
        have HR : Asd (decide ((k : Int) < 0) = noRing labs s) := ⟨by
          unfold noRing; rw [HNE.out, HE.out, hem]; simp⟩
        go_wp2_with fail
        go_ret
        exact ⟨(k : Int), rfl, HR.out, by omega, by omega, rfl⟩
      | false =>
        have hem2 : ¬ s.toList = [] := by intro h; rw [h] at hem; cases hem
        cases hs : (v.toList == s.toList) with
        | true =>
          have HR : Asd (decide ((k : Int) < 0) = noRing labs s) := ⟨by
            unfold noRing; rw [HNE.out, HE.out, hem, hasL_true HX.out hs]; simp⟩
          go_wp2_with fail
          go_ret
          exact ⟨(k : Int), rfl, HR.out, by omega, by omega, rfl⟩
        | false =>
          have HS : Asd (sEq s empty = false ∧ sEq v s = false) := ⟨by rw [HE.out]; exact ⟨hem, hs⟩⟩
          go_wp2_with fail
          go_round
          case rel => exact ⟨(k : Int) - 1, by go_num, by omega, by omega, ⟨fun j u hj hu => by
            by_cases hjk : j = k
            · subst hjk; have := HX.out; rw [this] at hu; injection hu with hu; subst hu; exact HS.out
            · exact HM.out j u (by omega) hu⟩⟩
          case measure => simp [intOf]; try omega
    · have hz' : z = -1 := by omega
      subst hz'
      have HF : Asd (noRing labs s = true) := ⟨by
        unfold noRing
        cases labs with
        | nil => rfl
        | cons l r =>
          have := (HM.out 0 l (by omega) rfl).1
          rw [this, hasL_false (fun j u hj => (HM.out j u (by omega) hj).2)]; rfl⟩
      clear hz hz1 hz2
      go_wp2_with fail
      go_ret
      exact ⟨-1, rfl, by rw [HF.out]; rfl, by omega, by omega, rfl⟩
end Go.Proofs.YtocbblafgjpbeaaDoor.Sp
