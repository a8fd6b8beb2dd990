/- Walks: what is a name, in the program and in the document's answer. -/
import Derived.Test.YtocbblafgjpbeaaDoorProg
import Derived.Test.YtocbblafgjpbeaaDoorLaws
namespace Go.Proofs.YtocbblafgjpbeaaDoor.Sp
open Go.RowKit
set_option linter.unusedVariables false
set_option linter.unusedSimpArgs false

theorem small_any (c : UInt8) (w : World) :
    Calls Tryd.prog 64 #[.int .u8 c.toNat] w fun e w' => e = .returned (.bool (isSmall c)) ∧ w' = w := by
  rw [isSmall_dec]
  go_enter Tryd.func64, Tryd.ntmps64
  go_wp2_with fail
  all_goals (go_ret; exact ⟨ret_bool (by simp_all <;> omega), rfl⟩)
theorem digit_any (c : UInt8) (w : World) :
    Calls Tryd.prog 65 #[.int .u8 c.toNat] w fun e w' => e = .returned (.bool (isDigit c)) ∧ w' = w := by
  rw [isDigit_dec]
  go_enter Tryd.func65, Tryd.ntmps65
  go_wp2_with fail
  all_goals (go_ret; exact ⟨ret_bool (by simp_all <;> omega), rfl⟩)
theorem rletter_any (c : UInt8) (w : World) :
    Calls Tryd.prog 71 #[.int .u8 c.toNat] w fun e w' => e = .returned (.bool (isSmall c)) ∧ w' = w := by
  rw [isSmall_dec]
  go_enter Tryd.func71, Tryd.ntmps71
  go_wp2_with fail
  all_goals (go_ret; exact ⟨ret_bool (by simp_all <;> omega), rfl⟩)
theorem rdigit_any (c : UInt8) (w : World) :
    Calls Tryd.prog 74 #[.int .u8 c.toNat] w fun e w' => e = .returned (.bool (isDigit c)) ∧ w' = w := by
  rw [isDigit_dec]
  go_enter Tryd.func74, Tryd.ntmps74
  go_wp2_with fail
  all_goals (go_ret; exact ⟨ret_bool (by simp_all <;> omega), rfl⟩)

def kwCells : Array Value := (keywords.map fun (l : List UInt8) => Value.string ⟨l.toArray⟩).toArray
/-- The program's table of keywords. -/
def GKw (w : World) : Prop := ∃ fr : TypeId × Nat × Nat, w.heap[5]? = some (.cells kwCells fr.1 fr.2)
def rkwCells : Array Value := ((keywords ++ [[]]).map fun (l : List UInt8) => Value.string ⟨l.toArray⟩).toArray
def GRKw (w : World) : Prop := ∃ fr : TypeId × Nat × Nat, w.heap[6]? = some (.cells rkwCells fr.1 fr.2)

theorem kwCells_get (k : Nat) (hk : k < 27) : ∃ l, keywords[k]? = some l ∧ kwCells[k]? = some (.string ⟨l.toArray⟩) := by
  have h : k < keywords.length := hk
  exact ⟨_, List.getElem?_eq_getElem h, by simp [kwCells, List.getElem?_eq_getElem h]⟩
theorem kw_step {l : List (List UInt8)} {k : Nat} {x s : List UInt8} (hx : l[k]? = some x) (hn : (l.take k).contains s = false) (h : (s == x) = false) : (l.take (k + 1)).contains s = false := by
  have hlt := (List.getElem?_eq_some_iff.1 hx).1
  rw [List.take_add_one, hx]
  simp only [Option.toList, List.contains_append, hn, Bool.false_or, List.contains_cons, List.contains_nil, Bool.or_false, h]
theorem kw_hit {l : List (List UInt8)} {k : Nat} {x s : List UInt8} (hx : l[k]? = some x) (h : (s == x) = true) : l.contains s = true := by
  have := eq_of_beq h; subst this
  exact List.contains_iff_mem.2 (List.mem_of_getElem? hx)
set_option maxHeartbeats 400000 in
theorem keyword_any (s : Str) (w : World) (hk : GKw w) :
    Calls Tryd.prog 67 #[.string s] w fun e w' => e = .returned (.bool (isKeyword s.toList)) ∧ w' = w := by
  obtain ⟨fr, hk⟩ := hk
  have HK := Asd.mk hk; clear hk
  have HG : Asd (∀ k < 27, ∃ l, keywords[k]? = some l ∧ kwCells[k]? = some (.string ⟨l.toArray⟩)) := ⟨kwCells_get⟩
  have hsz : kwCells.size = 27 := rfl
  have HS := Asd.mk hsz; clear hsz
  generalize kwCells = cs at HK HG HS
  go_enter Tryd.func67, Tryd.ntmps67
  go_wp2_with (refine wpList_load_row rfl 195 _ rfl 5 rfl fr.1 cs fr.2 _ HK.out Tryd.underlying195 rfl (by rw [HS.out]; kernel_rfl) ?_)
  go_loop [6] (fun i => ∃ k : Nat, k ≤ 27 ∧ i = .int .i64 k ∧ Asd ((keywords.take k).contains s.toList = false)) (fun i => 27 - (intOf i).toNat)
  case atStart => exact ⟨0, by omega, rfl, ⟨rfl⟩⟩
  case round =>
    obtain ⟨k, hk, rfl, HN⟩ := hrel
    by_cases hlt : k < 27
    · obtain ⟨l, hl1, hl2⟩ := HG.out k hlt
      have hix := index_agg1 (P := Tryd.prog) 195 9 27 Tryd.underlying195 (by kernel_rfl) (by kernel_rfl) cs k _ hl2 hlt
      have H1 := Asd.mk hl1; have H2 := Asd.mk hl2; clear hl1 hl2
      go_wp2_with fail
      · go_ret
        exact ⟨ret_bool (kw_hit H1.out ‹_›).symm, rfl⟩
      · go_round
        case rel => exact ⟨k + 1, by omega, by go_num, ⟨kw_step H1.out HN.out ‹_›⟩⟩
        case measure => simp [intOf]; omega
    · have hk27 : k = 27 := by omega
      subst hk27
      have H27 := HN.out
      clear HN hlt
      go_wp2_with fail
      go_ret
      exact ⟨ret_bool (by rw [← H27]; rfl), rfl⟩

/-- All bytes from the k-th on are letters or digits. -/
theorem all_drop {l : List UInt8} {p : UInt8 → Bool} {k : Nat} (hk : k < l.length) : (l.drop k).all p = (p l[k] && (l.drop (k + 1)).all p) := by
  rw [List.drop_eq_getElem_cons hk]; rfl
theorem data_len (s : Str) : s.toList.length = s.size := by rw [ByteArray.toList_eq]; rfl
theorem data_get (s : Str) (k : Nat) (h : k < s.size) : s.toList[k]? = some (s[k]'h) := by
  rw [ByteArray.toList_eq]
  exact Array.getElem?_toList .. |>.trans (Array.getElem?_eq_getElem h)
theorem nameOk_eq (s : Str) : nameOk s = (!s.toList.isEmpty && decide (s.size ≤ 12) && (match s.toList[0]? with | some c => isSmall c | none => false) && !isKeyword s.toList && s.toList.all (fun c => isSmall c || isDigit c)) := by
  unfold nameOk
  rw [← data_len]
  cases h : s.toList with
  | nil => rfl
  | cons c l => simp [Bool.and_assoc, Bool.and_comm, Bool.and_left_comm]
set_option maxHeartbeats 400000 in
theorem named_any (s : Str) (w : World) (hk : GKw w) (hs : s.size ≤ 9223372036854775807) :
    Calls Tryd.prog 89 #[.string s] w fun e w' => e = .returned (.bool (nameOk s)) ∧ w' = w := by
  have HK := Asd.mk hk; clear hk
  go_enter Tryd.func89, Tryd.ntmps89
  by_cases h0 : s.toList.isEmpty = true
  · have hno : Asd (nameOk s = false) := ⟨by rw [nameOk_eq, h0]; rfl⟩
    go_wp2_with fail
    go_ret
    exact ⟨ret_bool hno.out.symm, rfl⟩
  · have h0 : s.toList.isEmpty = false := by simpa using h0
    have hpos : 0 < s.size := by
      have := data_len s
      rcases Nat.eq_zero_or_pos s.size with h | h
      · rw [h] at this; have := List.eq_nil_of_length_eq_zero this; rw [this] at h0; simp at h0
      · exact h
    by_cases h12 : 12 < s.size
    · have hno : Asd (nameOk s = false) := ⟨by rw [nameOk_eq]; simp; omega⟩
      go_wp2_with fail
      go_ret
      exact ⟨ret_bool hno.out.symm, rfl⟩
    · have h12' : decide ((12 : Int) < (s.size : Int)) = false := by simp; omega
      have hc0 : s.toList[0]? = some (s[0]'hpos) := data_get s 0 hpos
      generalize hc : s[0]'hpos = c at hc0
      have HC0 := Asd.mk hc0; clear hc0
      cases hsm : isSmall c with
      | false =>
        have hno : Asd (nameOk s = false) := ⟨by rw [nameOk_eq, HC0.out]; simp [hsm]⟩
        have HSM := Asd.mk hsm; clear hsm
        go_wp2_with (go_at_call 64; refine (small_any c _).mono ?_; rw [HSM.out]; rintro e w' ⟨rfl, rfl⟩)
        go_ret
        exact ⟨ret_bool hno.out.symm, rfl⟩
      | true =>
        have HSM := Asd.mk hsm; clear hsm
        cases hkw : isKeyword s.toList with
        | true =>
          have hno : Asd (nameOk s = false) := ⟨by rw [nameOk_eq, HC0.out]; simp [hkw]⟩
          have HKW := Asd.mk hkw; clear hkw
          go_wp2_with (first | (go_at_call 64; refine (small_any c _).mono ?_; rw [HSM.out]; rintro e w' ⟨rfl, rfl⟩) | (go_at_call 67; refine (keyword_any s _ HK.out).mono ?_; rw [HKW.out]; rintro e w' ⟨rfl, rfl⟩))
          go_ret
          exact ⟨ret_bool hno.out.symm, rfl⟩
        | false =>
          have hyes : Asd (nameOk s = s.toList.all (fun c => isSmall c || isDigit c)) := ⟨by rw [nameOk_eq, HC0.out]; simp [hkw, h0, HSM.out]; omega⟩
          have HKW := Asd.mk hkw; clear hkw
          have HLEN := Asd.mk (data_len s)
          have HGET := Asd.mk (data_get s)
          go_wp2_with (first | (go_at_call 64; refine (small_any c _).mono ?_; rw [HSM.out]; rintro e w' ⟨rfl, rfl⟩) | (go_at_call 67; refine (keyword_any s _ HK.out).mono ?_; rw [HKW.out]; rintro e w' ⟨rfl, rfl⟩))
          clear hc
          go_loop [23] (fun i => ∃ k : Nat, k ≤ s.size ∧ i = .int .i64 k ∧ Asd (nameOk s = (s.toList.drop k).all (fun c => isSmall c || isDigit c))) (fun i => s.size - (intOf i).toNat)
          case atStart => exact ⟨0, by omega, rfl, ⟨by rw [hyes.out]; rfl⟩⟩
          case round =>
            obtain ⟨k, hk, rfl, HN⟩ := hrel
            by_cases hlt : k < s.size
            · have hd : (s.toList.drop k).all (fun c => isSmall c || isDigit c) = ((isSmall s[k] || isDigit s[k]) && (s.toList.drop (k + 1)).all (fun c => isSmall c || isDigit c)) := by
                rw [all_drop (by rw [HLEN.out]; exact hlt)]
                have := HGET.out k hlt
                rw [List.getElem?_eq_getElem (by rw [HLEN.out]; exact hlt)] at this
                injection this with this
                rw [this]
              generalize hck : s[k] = ck at hd
              have HN' : Asd (nameOk s = ((isSmall ck || isDigit ck) && (s.toList.drop (k + 1)).all (fun c => isSmall c || isDigit c))) := ⟨HN.out.trans hd⟩
              clear HN hd
              cases hs1 : isSmall ck with
              | true =>
                have HS1 := Asd.mk hs1; clear hs1
                go_wp2_with (go_at_call 64; refine (small_any ck _).mono ?_; rw [HS1.out]; rintro e w' ⟨rfl, rfl⟩)
                go_round
                case rel => exact ⟨k + 1, by omega, by go_num, ⟨by rw [HN'.out, HS1.out]; rfl⟩⟩
                case measure => simp [intOf]; omega
              | false =>
                have HS1 := Asd.mk hs1; clear hs1
                cases hs2 : isDigit ck with
                | true =>
                  have HS2 := Asd.mk hs2; clear hs2
                  go_wp2_with (first | (go_at_call 64; refine (small_any ck _).mono ?_; rw [HS1.out]; rintro e w' ⟨rfl, rfl⟩) | (go_at_call 65; refine (digit_any ck _).mono ?_; rw [HS2.out]; rintro e w' ⟨rfl, rfl⟩))
                  go_round
                  case rel => exact ⟨k + 1, by omega, by go_num, ⟨by rw [HN'.out, HS1.out, HS2.out]; rfl⟩⟩
                  case measure => simp [intOf]; omega
                | false =>
                  have HS2 := Asd.mk hs2; clear hs2
                  go_wp2_with (first | (go_at_call 64; refine (small_any ck _).mono ?_; rw [HS1.out]; rintro e w' ⟨rfl, rfl⟩) | (go_at_call 65; refine (digit_any ck _).mono ?_; rw [HS2.out]; rintro e w' ⟨rfl, rfl⟩))
                  go_ret
                  exact ⟨ret_bool (by rw [HN'.out, HS1.out, HS2.out]; rfl), rfl⟩
            · have hks : k = s.size := by omega
              have hno : Asd (nameOk s = true) := ⟨by rw [HN.out, hks, ← HLEN.out]; simp⟩
              clear HN hks
              go_wp2_with fail
              go_ret
              exact ⟨ret_bool hno.out.symm, rfl⟩

set_option maxHeartbeats 400000 in
theorem rkeyword_any (s : Str) (w : World) (hk : GRKw w) :
    Calls Tryd.prog 73 #[.string s] w fun e w' => e = .returned (.bool (isKeyword s.toList)) ∧ w' = w := by
  obtain ⟨fr, hk⟩ := hk
  have HG : Asd (∀ k < 27, ∃ l, keywords[k]? = some l ∧ w.cell? ⟨6, k, none⟩ = some (.string ⟨l.toArray⟩)) := ⟨fun k hlt => by
    have h : k < keywords.length := hlt
    refine ⟨_, List.getElem?_eq_getElem h, ?_⟩
    rw [cell_of hk]
    have : (keywords ++ [[]])[k]? = some keywords[k] := by rw [List.getElem?_append_left h, List.getElem?_eq_getElem h]
    simp only [rkwCells, List.getElem?_toArray, List.getElem?_map, this, Option.map_some]⟩
  clear hk
  go_enter Tryd.func73, Tryd.ntmps73
  go_wp2_with fail
  go_loop [3] (fun i => ∃ k : Nat, k ≤ 27 ∧ i = .int .i64 k ∧ Asd ((keywords.take k).contains s.toList = false)) (fun i => 27 - (intOf i).toNat)
  case atStart => exact ⟨0, by omega, rfl, ⟨rfl⟩⟩
  case round =>
    obtain ⟨k, hk, rfl, HN⟩ := hrel
    by_cases hlt : k < 27
    · obtain ⟨l, hl1, hl2⟩ := HG.out k hlt
      have H1 := Asd.mk hl1; clear hl1
      have hlt' : (k : Int) < 28 := by omega
      go_wp2_with fail
      · go_ret
        exact ⟨ret_bool (kw_hit H1.out (by rw [BEq.comm]; assumption)).symm, rfl⟩
      · go_round
        case rel => exact ⟨k + 1, by omega, by go_num, ⟨kw_step H1.out HN.out (by rw [BEq.comm]; assumption)⟩⟩
        case measure => simp [intOf]; omega
    · have hk27 : k = 27 := by omega
      subst hk27
      have H27 := HN.out
      clear HN hlt
      go_wp2_with fail
      go_ret
      exact ⟨ret_bool (by rw [← H27]; rfl), rfl⟩

set_option maxHeartbeats 400000 in
theorem rname_any (s : Str) (w : World) (hk : GRKw w) (hs : s.size ≤ 9223372036854775807) :
    Calls Tryd.prog 88 #[.string s] w fun e w' => e = .returned (.bool (nameOk s)) ∧ w' = w := by
  have HK := Asd.mk hk; clear hk
  go_enter Tryd.func88, Tryd.ntmps88
  by_cases h0 : s.size < 1
  · have hno : Asd (nameOk s = false) := ⟨by
      have : s.toList = [] := List.eq_nil_of_length_eq_zero (by rw [data_len]; omega)
      rw [nameOk_eq, this]; rfl⟩
    have h0' : (s.size : Int) < 1 := by omega
    go_wp2_with fail
    go_ret
    exact ⟨ret_bool hno.out.symm, rfl⟩
  · have hpos : 0 < s.size := by omega
    have he : s.toList.isEmpty = false := by
      cases h : s.toList with
      | nil => have := data_len s; rw [h] at this; simp at this; omega
      | cons => rfl
    have HE := Asd.mk he; clear he
    have h0' : decide ((s.size : Int) < 1) = false := by simp; omega
    by_cases h12 : 12 < s.size
    · have hno : Asd (nameOk s = false) := ⟨by rw [nameOk_eq]; simp; omega⟩
      go_wp2_with fail
      go_ret
      exact ⟨ret_bool hno.out.symm, rfl⟩
    · have h12' : decide ((12 : Int) < (s.size : Int)) = false := by simp; omega
      have hc0 : s.toList[0]? = some (s[0]'hpos) := data_get s 0 hpos
      generalize hc : s[0]'hpos = c at hc0
      have HC0 := Asd.mk hc0; clear hc0
      cases hsm : isSmall c with
      | false =>
        have hno : Asd (nameOk s = false) := ⟨by rw [nameOk_eq, HC0.out]; simp [hsm]⟩
        have HSM := Asd.mk hsm; clear hsm
        go_wp2_with (go_at_call 71; refine (rletter_any c _).mono ?_; rw [HSM.out]; rintro e w' ⟨rfl, rfl⟩)
        go_ret
        exact ⟨ret_bool hno.out.symm, rfl⟩
      | true =>
        have HSM := Asd.mk hsm; clear hsm
        have hyes : Asd (nameOk s = (s.toList.all (fun c => isSmall c || isDigit c) && !isKeyword s.toList)) := ⟨by
          rw [nameOk_eq, HC0.out]
          dsimp only
          rw [HSM.out, HE.out]
          have : decide (s.size ≤ 12) = true := by simp; omega
          rw [this]; simp [Bool.and_comm]⟩
        have HLEN := Asd.mk (data_len s)
        have HGET := Asd.mk (data_get s)
        go_wp2_with (go_at_call 71; refine (rletter_any c _).mono ?_; rw [HSM.out]; rintro e w' ⟨rfl, rfl⟩)
        clear hc
        go_loop [3] (fun i => ∃ k : Nat, k ≤ s.size ∧ i = .int .i64 k ∧ Asd (nameOk s = ((s.toList.drop k).all (fun c => isSmall c || isDigit c) && !isKeyword s.toList))) (fun i => s.size - (intOf i).toNat)
        case atStart => exact ⟨0, by omega, rfl, ⟨by rw [hyes.out]; rfl⟩⟩
        case round =>
          obtain ⟨k, hk, rfl, HN⟩ := hrel
          by_cases hlt : k < s.size
          · have hd : (s.toList.drop k).all (fun c => isSmall c || isDigit c) = ((isSmall s[k] || isDigit s[k]) && (s.toList.drop (k + 1)).all (fun c => isSmall c || isDigit c)) := by
              rw [all_drop (by rw [HLEN.out]; exact hlt)]
              have := HGET.out k hlt
              rw [List.getElem?_eq_getElem (by rw [HLEN.out]; exact hlt)] at this
              injection this with this
              rw [this]
            generalize hck : s[k] = ck at hd
            have HN' : Asd (nameOk s = (((isSmall ck || isDigit ck) && (s.toList.drop (k + 1)).all (fun c => isSmall c || isDigit c)) && !isKeyword s.toList)) := ⟨HN.out.trans (by rw [hd])⟩
            clear HN hd
            cases hs1 : isSmall ck with
            | true =>
              have HS1 := Asd.mk hs1; clear hs1
              go_wp2_with (go_at_call 71; refine (rletter_any ck _).mono ?_; rw [HS1.out]; rintro e w' ⟨rfl, rfl⟩)
              go_round
              case rel => exact ⟨k + 1, by omega, by go_num, ⟨by rw [HN'.out, HS1.out]; rfl⟩⟩
              case measure => simp [intOf]; omega
            | false =>
              have HS1 := Asd.mk hs1; clear hs1
              cases hs2 : isDigit ck with
              | true =>
                have HS2 := Asd.mk hs2; clear hs2
                go_wp2_with (first | (go_at_call 71; refine (rletter_any ck _).mono ?_; rw [HS1.out]; rintro e w' ⟨rfl, rfl⟩) | (go_at_call 74; refine (rdigit_any ck _).mono ?_; rw [HS2.out]; rintro e w' ⟨rfl, rfl⟩))
                go_round
                case rel => exact ⟨k + 1, by omega, by go_num, ⟨by rw [HN'.out, HS1.out, HS2.out]; rfl⟩⟩
                case measure => simp [intOf]; omega
              | false =>
                have HS2 := Asd.mk hs2; clear hs2
                go_wp2_with (first | (go_at_call 71; refine (rletter_any ck _).mono ?_; rw [HS1.out]; rintro e w' ⟨rfl, rfl⟩) | (go_at_call 74; refine (rdigit_any ck _).mono ?_; rw [HS2.out]; rintro e w' ⟨rfl, rfl⟩))
                go_ret
                exact ⟨ret_bool (by rw [HN'.out, HS1.out, HS2.out]; rfl), rfl⟩
          · have hks : k = s.size := by omega
            have hno : Asd (nameOk s = !isKeyword s.toList) := ⟨by rw [HN.out, hks, ← HLEN.out]; simp⟩
            clear HN hks
            go_wp2_with (go_at_call 73; refine (rkeyword_any s _ HK.out).mono ?_; rintro e w' ⟨rfl, rfl⟩)
            go_ret
            exact ⟨ret_bool hno.out.symm, rfl⟩
end Go.Proofs.YtocbblafgjpbeaaDoor.Sp
