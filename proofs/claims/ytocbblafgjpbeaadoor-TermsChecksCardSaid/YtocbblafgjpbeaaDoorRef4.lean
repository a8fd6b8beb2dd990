/- Walks: the reference: where a tree ends. -/
import Derived.Test.YtocbblafgjpbeaaDoorRef3
namespace Go.Proofs.YtocbblafgjpbeaaDoor.Sp
open Go.RowKit
set_option linter.unusedVariables false
set_option linter.unusedSimpArgs false

theorem Fo.len_size (f : Fo) : f.len ≤ f.size := by
  induction f with
  | nil => simp [Fo.len, Fo.size]
  | cons x k r _ ih => simp [Fo.len, Fo.size]; omega
theorem wantSum_step {l : List Want} {k : Nat} {x : Want} (h : l[k]? = some x) : wantSum (l.take (k + 1)) = wantSum (l.take k) + x.left := by
  rw [take_get' h, wantSum_append]; simp [wantSum]
set_option maxRecDepth 100000 in
set_option maxHeartbeats 1600000 in
theorem rend_any (A : Option Addr) (n c : Nat) (l : List TN) (w : World) (i : Nat) (f : Fo) (hl : l.length = n) (hn : n ≤ 4611686018427387904) (hA : TNsAt w A l) (hat : AtL l i f) (hkc : f.KC) (h1 : f.len = 1) (hi : i ≤ n) :
    Calls Tryd.prog 31 #[.slice A n c, .int .i64 i] w fun e w' => e = .returned (.int .i64 ((i + f.size : Nat) : Int)) ∧ Below w.heap.size w w' := by
  have HA := Asd.mk hA; have HL := Asd.mk hl
  have hle : i + f.size ≤ n := by have := hat.le (by omega); omega
  have HI : Asd (∃ g : Fo, AtL l i g ∧ g.KC ∧ (g.len : Int) = 1 ∧ i + g.size = i + f.size) := ⟨f, hat, hkc, by omega, rfl⟩
  clear hA hl hat hkc h1
  go_enter Tryd.func31, Tryd.ntmps31
  go_wp2_with fail
  go_loopw [1, 5] (fun iv lv wr => ∃ (j : Nat) (m : Int), iv = .int .i64 (j : Int) ∧ lv = .int .u64 m ∧ j ≤ i + f.size ∧ Asd (Below w.heap.size w wr) ∧ Asd (∃ g : Fo, AtL l j g ∧ g.KC ∧ (g.len : Int) = m ∧ j + g.size = i + f.size)) (fun iv _ _ => i + f.size - (intOf iv).toNat)
  case atStart => exact ⟨i, 1, rfl, rfl, by omega, ⟨Below.refl _ _⟩, HI⟩
  case round =>
    obtain ⟨j, m, rfl, rfl, hj, HB, HG⟩ := hrel
    by_cases hm : 0 < m
    · obtain ⟨g, g1, g2, g3, g4⟩ := HG.out
      cases g with
      | nil => simp [Fo.len] at g3; omega
      | cons x k r =>
        have hx := g1.head
        have hms : m ≤ 4611686018427387904 := by have := Fo.len_size (.cons x k r); omega
        have hjn : j < n := by have := g1.lt; have := HL.out; omega
        have HN : Asd (∃ g : Fo, AtL l (j + 1) g ∧ g.KC ∧ (g.len : Int) = m - 1 + kidCount x ∧ j + 1 + g.size = i + f.size) := ⟨k.app r, g1.tail, KC_app g2.2.2.1 g2.2.2.2, by
          have := g2.2.1; have := Fo.len_app k r; simp only [Fo.len] at g3; omega, by
          have := Fo.size_app k r; simp only [Fo.size] at g4; omega⟩
        have hj2 : j + 1 ≤ i + f.size := by obtain ⟨g, _, _, _, h⟩ := HN.out; omega
        have hkb : 0 ≤ kidCount x ∧ kidCount x ≤ 4611686018427387904 := by
          have := g2.2.1
          have h2 := Fo.len_size k
          simp only [Fo.size] at g4
          omega
        have hm0 : 0 ≤ m - 1 := by omega
        have ho := g2.1
        obtain ⟨b, off, rfl, hb, a1, a2, a3⟩ := (HA.out.below HB.out) j x hx
        clear g1 g2 g3 g4 hx HG
        have hj0 : (0 : Int) ≤ (j : Int) := Int.natCast_nonneg _
        have hj1 : (j : Int) < (n : Int) := by omega
        go_wp2_with fail
        refine (rparts_any x.op x.n x.name 0 wr ho).mono ?_
        rintro e w2 ⟨A2, c2, rfl, hW, hB2, _⟩
        have HW := Asd.mk hW
        have HB2 : Asd (Below w.heap.size w w2) := ⟨HB.out.trans (hB2.mono HB.out.size)⟩
        have HP : Asd (∀ k : Nat, 0 ≤ wantSum ((wants x 0).reverse.take k) ∧ wantSum ((wants x 0).reverse.take k) ≤ kidCount x) := ⟨fun k => by
          have h := wantSum_take (l := (wants x 0).reverse) (fun v hv => wants_left x 0 hkb.1 v (by simpa using hv)) k
          rw [wantSum_reverse (wants x 0), wantSum_wants x 0 ho] at h
          exact h⟩
        have HS : Asd (wantSum ((wants x 0).reverse.take (wants x 0).length) = kidCount x) := ⟨by
          rw [List.take_of_length_le (by simp), wantSum_reverse, wantSum_wants x 0 ho]⟩
        have hlen3 : (wants x 0).length ≤ 3 := wants_len x 0
        have hpl : (wants x 0).reverse.length = (wants x 0).length := by simp
        have HPL := Asd.mk hpl
        clear hW hB2 hpl a1 a2 a3
        have e0 : (⟨x.op, x.n, x.name⟩ : TN) = x := rfl
        simp only [e0] at HW ⊢
        clear e0
        generalize wants x 0 = ws at *
        have hw1 : IntKind.u64.wrap (m - 1) = m - 1 := IntWalk.u64_in _ (by omega)
        go_wp2_with fail
        go_loop [5, 7] (fun lv kv => ∃ q : Nat, kv = .int .i64 (q : Int) ∧ q ≤ ws.length ∧ lv = .int .u64 (m - 1 + wantSum (ws.reverse.take q))) (fun _ kv => ws.length - (intOf kv).toNat)
        case atStart => exact ⟨0, rfl, Nat.zero_le _, by simp [wantSum]⟩
        case round =>
          obtain ⟨q, rfl, hq, rfl⟩ := hrel
          by_cases hlt : q < ws.length
          · obtain ⟨v, hv⟩ : ∃ v, ws.reverse[q]? = some v := ⟨_, List.getElem?_eq_getElem (by rw [HPL.out]; exact hlt)⟩
            obtain ⟨wb, rfl, hwb, v1, v2, v3⟩ := HW.out q v hv
            have hs := wantSum_step hv
            have hp1 := HP.out q
            have hp2 := HP.out (q + 1)
            rw [hs] at hp2
            have HSS := Asd.mk hs
            have hq0 : (0 : Int) ≤ (q : Int) := Int.natCast_nonneg _
            have hq1 : (q : Int) < (ws.length : Int) := by omega
            clear hs hv
            generalize wantSum (ws.reverse.take q) = z at *
            have hw2 : IntKind.u64.wrap (m - 1 + z + v.left) = m - 1 + z + v.left := IntWalk.u64_in _ (by omega)
            go_wp2_with fail
            go_round
            case rel => exact ⟨q + 1, by go_num, hlt, by rw [HSS.out]; simp [Int.add_assoc]⟩
            case measure => simp [intOf]; omega
          · have hqe : q = ws.length := by omega
            subst hqe
            rw [HS.out]
            have hq1 : ¬ (ws.length : Int) < (ws.length : Int) := by omega
            go_wp2_with fail
            go_roundw
            case rel => exact ⟨j + 1, _, by go_num, rfl, (by obtain ⟨g, _, _, _, h⟩ := HN.out; omega), HB2, HN⟩
            case measure => simp [intOf]; omega
    · have HF : Asd (j = i + f.size) := ⟨by
        obtain ⟨g, g1, g2, g3, g4⟩ := HG.out
        cases g with
        | nil => simpa [Fo.size] using g4
        | cons x k r => simp [Fo.len] at g3; omega⟩
      have hm' : ¬ 0 < m := hm
      go_wp2_with fail
      go_ret
      exact ⟨by rw [HF.out]; rfl, HB.out⟩
end Go.Proofs.YtocbblafgjpbeaaDoor.Sp
