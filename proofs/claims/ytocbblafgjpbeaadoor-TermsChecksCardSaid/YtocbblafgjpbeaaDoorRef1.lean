/- Walks: the reference: find, has. -/
import Derived.Test.YtocbblafgjpbeaaDoorCk1
namespace Go.Proofs.YtocbblafgjpbeaaDoor.Sp
open Go.RowKit
set_option linter.unusedVariables false
set_option linter.unusedSimpArgs false

theorem rfind_any (A : Option Addr) (n c : Nat) (vs : List Var) (s : Str) (lo : Nat) (w : World)
    (hv : w.ownsRow lo 151 3 (.slice A n c) n (varCells vs)) (hn : vs.length = n) (hm : n ≤ 4611686018427387904) (hN : NamesOk vs) :
    Calls Tryd.prog 95 #[.slice A n c, .string s] w fun e w' => e = .returned (.int .i64 (seenI vs s)) ∧ w' = w := by
  have HV : Asd (∀ (j : Nat) (v : Var), vs[j]? = some v → ∃ b, A = some ⟨b, 0, none⟩ ∧ w.cell? ⟨b, j * 3, none⟩ = some (.string v.name)) := ⟨by
    obtain ⟨A', c', he, _, _, _, hr⟩ := owns_shape hv
    injection he with he _ _
    subst he
    intro j v hj
    obtain ⟨b, h1, _, h2⟩ := hr _ _ (varCells_get vs j v hj).1
    exact ⟨b, h1, h2⟩⟩
  have HN := Asd.mk hN; have HL := Asd.mk hn; clear hv hN hn
  go_enter Tryd.func95, Tryd.ntmps95
  go_wp2_with fail
  go_loop [5] (fun iv => ∃ k : Nat, iv = .int .i64 (k : Int) ∧ k ≤ n ∧ Asd (∀ (j : Nat) (v : Var), j < k → vs[j]? = some v → v.name ≠ s)) (fun iv => n - (intOf iv).toNat)
  case atStart => exact ⟨0, rfl, Nat.zero_le _, ⟨fun j v hj => by omega⟩⟩
  case round =>
    obtain ⟨k, rfl, hk, HM⟩ := hrel
    by_cases hlt : k < n
    · obtain ⟨v, hv⟩ : ∃ v, vs[k]? = some v := ⟨_, List.getElem?_eq_getElem (by rw [HL.out]; exact hlt)⟩
      obtain ⟨b, rfl, hc⟩ := HV.out k v hv
      have HX := Asd.mk hv; clear hv
      have hk0 : (0 : Int) ≤ (k : Int) := Int.natCast_nonneg _
      have hk1 : (k : Int) < (n : Int) := by omega
      cases hs : (v.name.toList == s.toList) with
      | true =>
        have HE : Asd (v.name = s) := ⟨sEq_iff.1 hs⟩
        go_wp2_with fail
        go_ret
        exact ⟨by simp only [seenI, findV_hit HN.out HX.out HE.out]; rfl, rfl⟩
      | false =>
        have HE : Asd (v.name ≠ s) := ⟨sEq_false.1 hs⟩
        go_wp2_with fail
        go_round
        case rel => exact ⟨k + 1, by go_num, hlt, ⟨fun j u hj hu => by
          by_cases hjk : j = k
          · subst hjk; have := HX.out; rw [this] at hu; injection hu with hu; subst hu; exact HE.out
          · exact HM.out j u (by omega) hu⟩⟩
        case measure => simp [intOf]; omega
    · have HF : Asd (seenI vs s = -1) := ⟨by simp only [seenI, findV_miss (fun j v hj => HM.out j v (by have := (List.getElem?_eq_some_iff.1 hj).1; have := HL.out; omega) hj)]⟩
      have hk1 : ¬ (k : Int) < (n : Int) := by omega
      go_wp2_with fail
      go_ret
      exact ⟨by rw [HF.out]; rfl, rfl⟩
theorem rhas_any (B : Option Addr) (m d : Nat) (labs : List Str) (s : Str) (lo : Nat) (w : World)
    (hv : w.ownsRow lo 9 1 (.slice B m d) m (labCells labs)) (hn : labs.length = m) (hm : m ≤ 4611686018427387904) :
    Calls Tryd.prog 98 #[.slice B m d, .string s] w fun e w' => e = .returned (.bool (hasL labs s)) ∧ w' = w := by
  have HV : Asd (∀ (j : Nat) (v : Str), labs[j]? = some v → ∃ b, B = some ⟨b, 0, none⟩ ∧ w.cell? ⟨b, j, none⟩ = some (.string v)) := ⟨by
    obtain ⟨A', c', he, _, _, _, hr⟩ := owns_shape hv
    injection he with he _ _
    subst he
    intro j v hj
    obtain ⟨b, h1, _, h2⟩ := hr j (.string v) (by simp [labCells, hj])
    exact ⟨b, h1, h2⟩⟩
  have HL := Asd.mk hn; clear hv hn
  go_enter Tryd.func98, Tryd.ntmps98
  go_wp2_with fail
  go_loop [5] (fun iv => ∃ k : Nat, iv = .int .i64 (k : Int) ∧ k ≤ m ∧ Asd (∀ (j : Nat) (v : Str), j < k → labs[j]? = some v → sEq v s = false)) (fun iv => m - (intOf iv).toNat)
  case atStart => exact ⟨0, rfl, Nat.zero_le _, ⟨fun j v hj => by omega⟩⟩
  case round =>
    obtain ⟨k, rfl, hk, HM⟩ := hrel
    by_cases hlt : k < m
    · obtain ⟨v, hv⟩ : ∃ v, labs[k]? = some v := ⟨_, List.getElem?_eq_getElem (by rw [HL.out]; exact hlt)⟩
      obtain ⟨b, rfl, hc⟩ := HV.out k v hv
      have HX := Asd.mk hv; clear hv
      have hk0 : (0 : Int) ≤ (k : Int) := Int.natCast_nonneg _
      have hk1 : (k : Int) < (m : Int) := by omega
      cases hs : (v.toList == s.toList) with
      | true =>
        have HE : Asd (hasL labs s = true) := ⟨hasL_true HX.out hs⟩
        go_wp2_with fail
        go_ret
        exact ⟨by rw [HE.out]; rfl, rfl⟩
      | false =>
        have HE : Asd (sEq v s = false) := ⟨hs⟩
        go_wp2_with fail
        go_round
        case rel => exact ⟨k + 1, by go_num, hlt, ⟨fun j u hj hu => by
          by_cases hjk : j = k
          · subst hjk; have := HX.out; rw [this] at hu; injection hu with hu; subst hu; exact HE.out
          · exact HM.out j u (by omega) hu⟩⟩
        case measure => simp [intOf]; omega
    · have HF : Asd (hasL labs s = false) := ⟨hasL_false fun j v hj => HM.out j v (by have := (List.getElem?_eq_some_iff.1 hj).1; have := HL.out; omega) hj⟩
      have hk1 : ¬ (k : Int) < (m : Int) := by omega
      go_wp2_with fail
      go_ret
      exact ⟨by rw [HF.out]; rfl, rfl⟩
end Go.Proofs.YtocbblafgjpbeaaDoor.Sp
