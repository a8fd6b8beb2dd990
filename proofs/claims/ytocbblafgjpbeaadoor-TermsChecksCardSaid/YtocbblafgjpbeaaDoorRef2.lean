/- Walks: the reference: what a node is, its fields. -/
import Derived.Test.YtocbblafgjpbeaaDoorName
import Derived.Test.YtocbblafgjpbeaaDoorTwin
import Derived.Test.YtocbblafgjpbeaaDoorCkInv
namespace Go.Proofs.YtocbblafgjpbeaaDoor.Sp
open Go.RowKit
set_option linter.unusedVariables false
set_option linter.unusedSimpArgs false

theorem rkind_any (op : Int) (w : World) : Calls Tryd.prog 56 #[.int .i64 op] w fun e w' => e = .returned (.int .i64 (opPlace op)) ∧ w' = w := by
  have hv : Asd (opPlace op = if (op == 1) = true then 0 else if (op == 2) = true then 1 else if (op == 3) = true then 2 else if (decide (4 ≤ op) && decide (op ≤ 13)) = true then 3 else if (decide (14 ≤ op) && decide (op ≤ 20)) = true then 4 else -1) := ⟨by
    unfold opPlace; simp⟩
  cases h1 : op == 1 with
  | true =>
    have HV : Asd (opPlace op = 0) := ⟨by rw [hv.out, h1]; rfl⟩
    clear hv
    go_enter Tryd.func56, Tryd.ntmps56
    go_wp2_with fail
    go_ret
    exact ⟨by rw [HV.out]; rfl, rfl⟩
  | false =>
    cases h2 : op == 2 with
    | true =>
      have HV : Asd (opPlace op = 1) := ⟨by rw [hv.out, h1, h2]; rfl⟩
      clear hv
      go_enter Tryd.func56, Tryd.ntmps56
      go_wp2_with fail
      go_ret
      exact ⟨by rw [HV.out]; rfl, rfl⟩
    | false =>
      cases h3 : op == 3 with
      | true =>
        have HV : Asd (opPlace op = 2) := ⟨by rw [hv.out, h1, h2, h3]; rfl⟩
        clear hv
        go_enter Tryd.func56, Tryd.ntmps56
        go_wp2_with fail
        go_ret
        exact ⟨by rw [HV.out]; rfl, rfl⟩
      | false =>
        have hor : (decide (4 ≤ op) = true ∧ decide (op ≤ 13) = true) ∨ (decide (14 ≤ op) = true ∧ decide (op ≤ 20) = true ∧ decide (op ≤ 13) = false ∧ decide (4 ≤ op) = true) ∨ (decide (4 ≤ op) = false ∧ decide (14 ≤ op) = false) ∨ (decide (4 ≤ op) = true ∧ decide (op ≤ 13) = false ∧ decide (14 ≤ op) = true ∧ decide (op ≤ 20) = false) := by
          simp only [decide_eq_true_eq, decide_eq_false_iff_not]; omega
        rcases hor with ⟨h4, h5⟩ | ⟨h4, h5, h6, h7⟩ | ⟨h4, h5⟩ | ⟨h4, h5, h6, h7⟩
        · have HV : Asd (opPlace op = 3) := ⟨by rw [hv.out, h1, h2, h3, h4, h5]; rfl⟩
          clear hv
          go_enter Tryd.func56, Tryd.ntmps56
          go_wp2_with fail
          go_ret
          exact ⟨by rw [HV.out]; rfl, rfl⟩
        · have HV : Asd (opPlace op = 4) := ⟨by rw [hv.out, h1, h2, h3, h4, h5, h6, h7]; rfl⟩
          clear hv
          go_enter Tryd.func56, Tryd.ntmps56
          go_wp2_with fail
          go_ret
          exact ⟨by rw [HV.out]; rfl, rfl⟩
        · have HV : Asd (opPlace op = -1) := ⟨by rw [hv.out, h1, h2, h3, h4, h5]; rfl⟩
          clear hv
          go_enter Tryd.func56, Tryd.ntmps56
          go_wp2_with fail
          go_ret
          exact ⟨by rw [HV.out]; rfl, rfl⟩
        · have HV : Asd (opPlace op = -1) := ⟨by rw [hv.out, h1, h2, h3, h4, h5, h6, h7]; rfl⟩
          clear hv
          go_enter Tryd.func56, Tryd.ntmps56
          go_wp2_with fail
          go_ret
          exact ⟨by rw [HV.out]; rfl, rfl⟩

theorem sEq_emp (s : Str) : sEq s empty = s.toList.isEmpty := by
  unfold sEq; rw [toList_empty]; cases s.toList <;> rfl
def FieldsPost (op n : Int) (s : Str) (w : World) (e : Ending) (w' : World) : Prop := e = .returned (.bool (fieldsOk ⟨op, n, s⟩)) ∧ Below w.heap.size w w'
theorem fields_end {op n : Int} {s : Str} {w : World} {b : Bool} (h : fieldsOk ⟨op, n, s⟩ = b) (v : Value) (t : TypeId) : FieldsPost op n s w (.returned (.bool b)) (w.alloc (.cells #[.int .i64 op, .int .u64 n, v] t)) :=
  ⟨by rw [h], (Below.refl _ _).alloc (Nat.le_refl _) _⟩
theorem empty_facts (s : Str) : (s.toList.isEmpty = true ∧ s.toList = []) ∨ (s.toList.isEmpty = false ∧ ¬ s.toList = []) := by
  cases h : s.toList <;> simp
set_option maxRecDepth 100000 in
set_option maxHeartbeats 1600000 in
theorem rfields_a (op n : Int) (s : Str) (w : World) (hop : op = 1) : Calls Tryd.prog 57 #[.agg #[.int .i64 op, .int .u64 n, .string s]] w (FieldsPost op n s w) := by
  rcases hop with rfl
  all_goals cases h1 : decide (1 ≤ n) <;> rcases empty_facts s with ⟨h2, h3⟩ | ⟨h2, h3⟩
  all_goals
    go_enter Tryd.func57, Tryd.ntmps57
    go_wp2_with fail
    go_ret
    exact fields_end (by simp [fieldsOk, sEq_emp, *]) _ _
set_option maxRecDepth 100000 in
set_option maxHeartbeats 1600000 in
theorem rfields_b (op n : Int) (s : Str) (w : World) (hop : op = 2) : Calls Tryd.prog 57 #[.agg #[.int .i64 op, .int .u64 n, .string s]] w (FieldsPost op n s w) := by
  rcases hop with rfl
  all_goals cases h1 : decide (n ≤ 5) <;> rcases empty_facts s with ⟨h2, h3⟩ | ⟨h2, h3⟩
  all_goals
    go_enter Tryd.func57, Tryd.ntmps57
    go_wp2_with fail
    go_ret
    exact fields_end (by simp [fieldsOk, sEq_emp, *]) _ _
set_option maxRecDepth 100000 in
set_option maxHeartbeats 1600000 in
theorem rfields_c (op n : Int) (s : Str) (w : World) (hop : op = 3 ∨ op = 14) : Calls Tryd.prog 57 #[.agg #[.int .i64 op, .int .u64 n, .string s]] w (FieldsPost op n s w) := by
  rcases hop with rfl | rfl
  all_goals rcases empty_facts s with ⟨h2, h3⟩ | ⟨h2, h3⟩
  all_goals
    go_enter Tryd.func57, Tryd.ntmps57
    go_wp2_with fail
    go_ret
    exact fields_end (by simp [fieldsOk, sEq_emp, *]) _ _
set_option maxRecDepth 100000 in
set_option maxHeartbeats 1600000 in
theorem rfields_d (op n : Int) (s : Str) (w : World) (hop : op = 10 ∨ op = 12) : Calls Tryd.prog 57 #[.agg #[.int .i64 op, .int .u64 n, .string s]] w (FieldsPost op n s w) := by
  rcases hop with rfl | rfl
  all_goals cases h1 : decide (1 ≤ n) <;> cases h4 : decide (n ≤ 999) <;> rcases empty_facts s with ⟨h2, h3⟩ | ⟨h2, h3⟩
  all_goals
    go_enter Tryd.func57, Tryd.ntmps57
    go_wp2_with fail
    go_ret
    exact fields_end (by simp [fieldsOk, sEq_emp, *]) _ _
set_option maxRecDepth 100000 in
set_option maxHeartbeats 1600000 in
theorem rfields_e (op n : Int) (s : Str) (w : World) (hop : op = 19) : Calls Tryd.prog 57 #[.agg #[.int .i64 op, .int .u64 n, .string s]] w (FieldsPost op n s w) := by
  rcases hop with rfl
  all_goals cases h1 : decide (n ≤ 12) <;> rcases empty_facts s with ⟨h2, h3⟩ | ⟨h2, h3⟩
  all_goals
    go_enter Tryd.func57, Tryd.ntmps57
    go_wp2_with fail
    go_ret
    exact fields_end (by simp [fieldsOk, sEq_emp, *]) _ _
set_option maxRecDepth 100000 in
set_option maxHeartbeats 1600000 in
theorem rfields_f (op n : Int) (s : Str) (w : World) (hop : op = 20) : Calls Tryd.prog 57 #[.agg #[.int .i64 op, .int .u64 n, .string s]] w (FieldsPost op n s w) := by
  rcases hop with rfl
  all_goals cases h1 : decide (n ≤ 2) <;> rcases empty_facts s with ⟨h2, h3⟩ | ⟨h2, h3⟩
  all_goals
    go_enter Tryd.func57, Tryd.ntmps57
    go_wp2_with fail
    go_ret
    exact fields_end (by simp [fieldsOk, sEq_emp, *]) _ _
set_option maxRecDepth 100000 in
set_option maxHeartbeats 1600000 in
theorem rfields_i (op n : Int) (s : Str) (w : World) (hop : op = 6 ∨ op = 11 ∨ op = 13 ∨ op = 15 ∨ op = 16 ∨ op = 18) : Calls Tryd.prog 57 #[.agg #[.int .i64 op, .int .u64 n, .string s]] w (FieldsPost op n s w) := by
  rcases hop with rfl | rfl | rfl | rfl | rfl | rfl
  all_goals cases h1 : (n == 0) <;> rcases empty_facts s with ⟨h2, h3⟩ | ⟨h2, h3⟩
  all_goals
    go_enter Tryd.func57, Tryd.ntmps57
    go_wp2_with fail
    go_ret
    exact fields_end (by first | (simp [fieldsOk, sEq_emp, *]; done) | (simp [fieldsOk, sEq_emp, *]; simpa using h1)) _ _
set_option maxRecDepth 100000 in
set_option maxHeartbeats 1600000 in
theorem rfields_g (op n : Int) (s : Str) (w : World) (hop : op = 4 ∨ op = 5 ∨ op = 17) (hk : GRKw w) (hs : s.size ≤ 9223372036854775807) : Calls Tryd.prog 57 #[.agg #[.int .i64 op, .int .u64 n, .string s]] w (FieldsPost op n s w) := by
  have HK : Asd (GRKw (w.alloc (.cells #[.int .i64 op, .int .u64 n, .string s] 68))) := ⟨by
    obtain ⟨fr, h⟩ := hk
    exact ⟨fr, (Below.heap_alloc w _ _ (heap_lt h)).trans h⟩⟩
  clear hk
  have HF : Asd (fieldsOk ⟨op, n, s⟩ = ((n == 0) && nameOk s)) := ⟨by
    rcases hop with rfl | rfl | rfl <;> simp [fieldsOk] <;> rw [Bool.eq_iff_iff] <;> simp⟩
  cases h1 : (n == 0) with
  | false =>
    have HG : Asd (fieldsOk ⟨op, n, s⟩ = false) := ⟨by rw [HF.out, h1]; rfl⟩
    clear HF
    rcases hop with rfl | rfl | rfl
    all_goals
      go_enter Tryd.func57, Tryd.ntmps57
      go_wp2_with fail
      go_ret
      exact fields_end HG.out _ _
  | true =>
    have HG : Asd (fieldsOk ⟨op, n, s⟩ = nameOk s) := ⟨by rw [HF.out, h1]; rfl⟩
    clear HF
    rcases hop with rfl | rfl | rfl
    all_goals
      go_enter Tryd.func57, Tryd.ntmps57
      go_wp2_with fail
      refine (rname_any s _ HK.out hs).mono ?_
      rintro e w' ⟨rfl, hww⟩
      have hww := hww.symm
      subst hww
      go_wp2_with fail
      go_ret
      exact fields_end HG.out _ _
set_option maxRecDepth 100000 in
set_option maxHeartbeats 1600000 in
theorem rfields_h (op n : Int) (s : Str) (w : World) (hop : op = 7 ∨ op = 8 ∨ op = 9) (hk : GRKw w) (hs : s.size ≤ 9223372036854775807) : Calls Tryd.prog 57 #[.agg #[.int .i64 op, .int .u64 n, .string s]] w (FieldsPost op n s w) := by
  have HK : Asd (GRKw (w.alloc (.cells #[.int .i64 op, .int .u64 n, .string s] 68))) := ⟨by
    obtain ⟨fr, h⟩ := hk
    exact ⟨fr, (Below.heap_alloc w _ _ (heap_lt h)).trans h⟩⟩
  clear hk
  have HF : Asd (fieldsOk ⟨op, n, s⟩ = ((n == 0) && (s.toList.isEmpty || nameOk s))) := ⟨by
    rcases hop with rfl | rfl | rfl <;> simp [fieldsOk, sEq_emp] <;> rw [Bool.eq_iff_iff] <;> simp⟩
  rcases empty_facts s with ⟨h2, h3⟩ | ⟨h2, h3⟩
  · have HG : Asd (fieldsOk ⟨op, n, s⟩ = (n == 0)) := ⟨by rw [HF.out, h2]; simp⟩
    clear HF
    cases h1 : (n == 0)
    all_goals rcases hop with rfl | rfl | rfl
    all_goals
      go_enter Tryd.func57, Tryd.ntmps57
      go_wp2_with fail
      go_ret
      exact fields_end (HG.out.trans h1) _ _
  · cases h1 : (n == 0) with
    | false =>
      have HG : Asd (fieldsOk ⟨op, n, s⟩ = false) := ⟨by rw [HF.out, h1]; rfl⟩
      clear HF
      rcases hop with rfl | rfl | rfl
      all_goals
        go_enter Tryd.func57, Tryd.ntmps57
        go_wp2_with fail
        go_ret
        exact fields_end HG.out _ _
    | true =>
      have HG : Asd (fieldsOk ⟨op, n, s⟩ = nameOk s) := ⟨by rw [HF.out, h1, h2]; rfl⟩
      clear HF
      rcases hop with rfl | rfl | rfl
      all_goals
        go_enter Tryd.func57, Tryd.ntmps57
        go_wp2_with fail
        refine (rname_any s _ HK.out hs).mono ?_
        rintro e w' ⟨rfl, hww⟩
        have hww := hww.symm
        subst hww
        go_wp2_with fail
        go_ret
        exact fields_end HG.out _ _
theorem rfields_any (op n : Int) (s : Str) (w : World) (ho : 1 ≤ op ∧ op ≤ 20) (hk : GRKw w) (hs : s.size ≤ 9223372036854775807) : Calls Tryd.prog 57 #[.agg #[.int .i64 op, .int .u64 n, .string s]] w (FieldsPost op n s w) := by
  obtain ⟨h1, h2⟩ := ho
  by_cases a : op = 1
  · exact rfields_a op n s w a
  by_cases b : op = 2
  · exact rfields_b op n s w b
  by_cases c : op = 3 ∨ op = 14
  · exact rfields_c op n s w c
  by_cases d : op = 10 ∨ op = 12
  · exact rfields_d op n s w d
  by_cases e : op = 19
  · exact rfields_e op n s w e
  by_cases f : op = 20
  · exact rfields_f op n s w f
  by_cases g : op = 4 ∨ op = 5 ∨ op = 17
  · exact rfields_g op n s w g hk hs
  by_cases h : op = 7 ∨ op = 8 ∨ op = 9
  · exact rfields_h op n s w h hk hs
  exact rfields_i op n s w (by omega)
end Go.Proofs.YtocbblafgjpbeaaDoor.Sp
