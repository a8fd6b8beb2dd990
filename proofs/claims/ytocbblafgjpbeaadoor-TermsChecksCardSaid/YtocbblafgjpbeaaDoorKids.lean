/- Walks: how many parts a node has, and where they stand. -/
import Derived.Test.YtocbblafgjpbeaaDoorTwin
import Derived.Test.YtocbblafgjpbeaaDoorScan
namespace Go.Proofs.YtocbblafgjpbeaaDoor.Sp
open Go.RowKit
set_option linter.unusedVariables false
set_option linter.unusedSimpArgs false

theorem kids1_any (A : Option Addr) (n c : Nat) (w : World) (hn : n ≤ 3) :
    Calls Tryd.prog 127 #[.slice A n c] w fun e w' => e = .returned (.tuple #[.int .u64 n, .func (.func 128) #[] #[.pointer (some ⟨w.heap.size, 0, none⟩)]]) ∧ w' = w.alloc (.cells #[.slice A n c] 207) := by
  have hmf : ∀ (fn : Fn) (first cap : Array Value) (w : World), (Instr.makeFunc fn first cap).run Tryd.prog w = .ok (.func fn first cap) w := fun _ _ _ _ => rfl
  go_enter Tryd.func127, Tryd.ntmps127
  go_wp2_with fail
  go_ret2
  exact ⟨rfl, rfl⟩
/-- What tells where the parts stand. -/
def PlaceFn (w : World) (lo : Nat) (fv : Value) (x : TN) : Prop :=
  (fv = .func (.func 129) #[] #[] ∧ ∀ k, kidPlace x k = 1) ∨ (fv = .func (.func 130) #[] #[] ∧ ∀ k, kidPlace x k = 3) ∨
  ∃ b A n c, fv = .func (.func 128) #[] #[.pointer (some ⟨b, 0, none⟩)] ∧ lo ≤ b ∧ b < w.heap.size ∧ w.cell? ⟨b, 0, none⟩ = some (.slice A n c) ∧ ((n : Nat) : Int) = kidCount x ∧
    ∀ j, j < n → ∃ kb, A = some ⟨kb, 0, none⟩ ∧ lo ≤ kb ∧ kb < w.heap.size ∧ w.cell? ⟨kb, j, none⟩ = some (.int .i64 (kidPlace x j))
theorem place_list (w : World) (x : TN) (O : Obj) (pl : List Int) (e1 e2 : TypeId) (hlen : (pl.length : Int) = kidCount x) (hp : ∀ (j : Nat) (p : Int), pl[j]? = some p → p = kidPlace x j) :
    PlaceFn (((w.alloc O).alloc (.cells (pl.map fun p => Value.int .i64 p).toArray e1)).alloc (.cells #[.slice (some ⟨w.heap.size + 1, 0, none⟩) pl.length pl.length] e2)) w.heap.size (.func (.func 128) #[] #[.pointer (some ⟨w.heap.size + 1 + 1, 0, none⟩)]) x := by
  refine .inr (.inr ⟨w.heap.size + 1 + 1, _, pl.length, pl.length, rfl, by omega, by simp, ?_, hlen, fun j hj => ⟨w.heap.size + 1, rfl, by omega, by simp, ?_⟩⟩)
  · have := heap_alloc_new ((w.alloc O).alloc (.cells (pl.map fun p => Value.int .i64 p).toArray e1)) (.cells #[.slice (some ⟨w.heap.size + 1, 0, none⟩) pl.length pl.length] e2)
    simp only [World.size_alloc] at this
    exact cell_of this 0
  · have := Below.heap_alloc ((w.alloc O).alloc (.cells (pl.map fun p => Value.int .i64 p).toArray e1)) (.cells #[.slice (some ⟨w.heap.size + 1, 0, none⟩) pl.length pl.length] e2) (w.heap.size + 1) (by simp)
    rw [heap_alloc2_new] at this
    rw [cell_of this j]
    simp only [List.getElem?_toArray, List.getElem?_map, List.getElem?_eq_getElem hj, Option.map_some]
    rw [hp j _ (List.getElem?_eq_getElem hj)]
theorem place_none (w : World) (x : TN) (O : Obj) (e2 : TypeId) (hlen : kidCount x = 0) :
    PlaceFn ((w.alloc O).alloc (.cells #[.slice none 0 0] e2)) w.heap.size (.func (.func 128) #[] #[.pointer (some ⟨w.heap.size + 1, 0, none⟩)]) x := by
  refine .inr (.inr ⟨w.heap.size + 1, _, 0, 0, rfl, by omega, by simp, cell_of (heap_alloc2_new w _ _) 0, by simp [hlen], fun j hj => by omega⟩)
theorem places1 {x : TN} {p : Int} (h : p = kidPlace x 0) : ∀ (j : Nat) (q : Int), [p][j]? = some q → q = kidPlace x j := by
  intro j q hj
  cases j with
  | zero => simp at hj; subst hj; exact h
  | succ j => simp at hj
theorem places2 {x : TN} {p q : Int} (h : p = kidPlace x 0) (h' : q = kidPlace x 1) : ∀ (j : Nat) (r : Int), [p, q][j]? = some r → r = kidPlace x j := by
  intro j r hj
  match j, hj with
  | 0, hj => simp at hj; subst hj; exact h
  | 1, hj => simp at hj; subst hj; exact h'
  | j + 2, hj => simp at hj
theorem places3 {x : TN} {p q s : Int} (h : p = kidPlace x 0) (h' : q = kidPlace x 1) (h'' : s = kidPlace x 2) : ∀ (j : Nat) (r : Int), [p, q, s][j]? = some r → r = kidPlace x j := by
  intro j r hj
  match j, hj with
  | 0, hj => simp at hj; subst hj; exact h
  | 1, hj => simp at hj; subst hj; exact h'
  | 2, hj => simp at hj; subst hj; exact h''
  | j + 3, hj => simp at hj
set_option maxHeartbeats 1600000 in
theorem kids_any (op n : Int) (s : Str) (w : World) (ho : 1 ≤ op ∧ op ≤ 20) (hn : 0 ≤ n) :
    Calls Tryd.prog 90 #[.agg #[.int .i64 op, .int .u64 n, .string s]] w fun e w' => ∃ fv, e = .returned (.tuple #[.int .u64 (kidCount ⟨op, n, s⟩), fv]) ∧ PlaceFn w' w.heap.size fv ⟨op, n, s⟩ ∧ Below w.heap.size w w' := by
  obtain ⟨h1, h2⟩ := ho
  have hop : op = 1 ∨ op = 2 ∨ op = 3 ∨ op = 4 ∨ op = 5 ∨ op = 6 ∨ op = 7 ∨ op = 8 ∨ op = 9 ∨ op = 10 ∨ op = 11 ∨ op = 12 ∨ op = 13 ∨ op = 14 ∨ op = 15 ∨ op = 16 ∨ op = 17 ∨ op = 18 ∨ op = 19 ∨ op = 20 := by omega
  clear h1 h2
  rcases hop with rfl | rfl | rfl | rfl | rfl | rfl | rfl | rfl | rfl | rfl | rfl | rfl | rfl | rfl | rfl | rfl | rfl | rfl | rfl | rfl
  · go_enter Tryd.func90, Tryd.ntmps90
    go_wp2_with (go_at_call 127; refine (kids1_any _ _ _ _ (by decide)).mono ?_; rintro e w' ⟨rfl, rfl⟩)
    go_ret2
    exact ⟨_, rfl, .inl ⟨rfl, fun k => rfl⟩, (Below.refl _ _).alloc (Nat.le_refl _) _⟩
  · go_enter Tryd.func90, Tryd.ntmps90
    go_wp2_with (go_at_call 127; refine (kids1_any _ _ _ _ (by decide)).mono ?_; rintro e w' ⟨rfl, rfl⟩)
    go_ret2
    exact ⟨_, rfl, place_list w _ _ [2] _ _ rfl (places1 rfl), (((Below.refl _ _).alloc (Nat.le_refl _) _).alloc (by simp) _).alloc (by simp; omega) _⟩
  · go_enter Tryd.func90, Tryd.ntmps90
    go_wp2_with (go_at_call 127; refine (kids1_any _ _ _ _ (by decide)).mono ?_; rintro e w' ⟨rfl, rfl⟩)
    go_ret2
    exact ⟨_, rfl, .inr (.inl ⟨rfl, fun k => rfl⟩), (Below.refl _ _).alloc (Nat.le_refl _) _⟩
  · go_enter Tryd.func90, Tryd.ntmps90
    go_wp2_with (go_at_call 127; refine (kids1_any _ _ _ _ (by decide)).mono ?_; rintro e w' ⟨rfl, rfl⟩)
    go_ret2
    exact ⟨_, rfl, place_list w _ _ [4] _ _ rfl (places1 rfl), (((Below.refl _ _).alloc (Nat.le_refl _) _).alloc (by simp) _).alloc (by simp; omega) _⟩
  · go_enter Tryd.func90, Tryd.ntmps90
    go_wp2_with (go_at_call 127; refine (kids1_any _ _ _ _ (by decide)).mono ?_; rintro e w' ⟨rfl, rfl⟩)
    go_ret2
    exact ⟨_, rfl, place_list w _ _ [4] _ _ rfl (places1 rfl), (((Below.refl _ _).alloc (Nat.le_refl _) _).alloc (by simp) _).alloc (by simp; omega) _⟩
  · go_enter Tryd.func90, Tryd.ntmps90
    go_wp2_with (go_at_call 127; refine (kids1_any _ _ _ _ (by decide)).mono ?_; rintro e w' ⟨rfl, rfl⟩)
    go_ret2
    exact ⟨_, rfl, place_list w _ _ [4, 2, 2] _ _ rfl (places3 rfl rfl rfl), (((Below.refl _ _).alloc (Nat.le_refl _) _).alloc (by simp) _).alloc (by simp; omega) _⟩
  · go_enter Tryd.func90, Tryd.ntmps90
    go_wp2_with (go_at_call 127; refine (kids1_any _ _ _ _ (by decide)).mono ?_; rintro e w' ⟨rfl, rfl⟩)
    go_ret2
    exact ⟨_, rfl, place_list w _ _ [4, 2] _ _ rfl (places2 rfl rfl), (((Below.refl _ _).alloc (Nat.le_refl _) _).alloc (by simp) _).alloc (by simp; omega) _⟩
  · go_enter Tryd.func90, Tryd.ntmps90
    go_wp2_with (go_at_call 127; refine (kids1_any _ _ _ _ (by decide)).mono ?_; rintro e w' ⟨rfl, rfl⟩)
    go_ret2
    exact ⟨_, rfl, place_none w _ _ _ rfl, ((Below.refl _ _).alloc (Nat.le_refl _) _).alloc (by simp) _⟩
  · go_enter Tryd.func90, Tryd.ntmps90
    go_wp2_with (go_at_call 127; refine (kids1_any _ _ _ _ (by decide)).mono ?_; rintro e w' ⟨rfl, rfl⟩)
    go_ret2
    exact ⟨_, rfl, place_none w _ _ _ rfl, ((Below.refl _ _).alloc (Nat.le_refl _) _).alloc (by simp) _⟩
  · go_enter Tryd.func90, Tryd.ntmps90
    go_wp2_with (go_at_call 127; refine (kids1_any _ _ _ _ (by decide)).mono ?_; rintro e w' ⟨rfl, rfl⟩)
    go_ret2
    exact ⟨_, rfl, place_list w _ _ [4] _ _ rfl (places1 rfl), (((Below.refl _ _).alloc (Nat.le_refl _) _).alloc (by simp) _).alloc (by simp; omega) _⟩
  · go_enter Tryd.func90, Tryd.ntmps90
    go_wp2_with (go_at_call 127; refine (kids1_any _ _ _ _ (by decide)).mono ?_; rintro e w' ⟨rfl, rfl⟩)
    go_ret2
    exact ⟨_, rfl, place_list w _ _ [4, 4] _ _ rfl (places2 rfl rfl), (((Below.refl _ _).alloc (Nat.le_refl _) _).alloc (by simp) _).alloc (by simp; omega) _⟩
  · go_enter Tryd.func90, Tryd.ntmps90
    go_wp2_with (go_at_call 127; refine (kids1_any _ _ _ _ (by decide)).mono ?_; rintro e w' ⟨rfl, rfl⟩)
    go_ret2
    exact ⟨_, rfl, place_none w _ _ _ rfl, ((Below.refl _ _).alloc (Nat.le_refl _) _).alloc (by simp) _⟩
  · go_enter Tryd.func90, Tryd.ntmps90
    go_wp2_with (go_at_call 127; refine (kids1_any _ _ _ _ (by decide)).mono ?_; rintro e w' ⟨rfl, rfl⟩)
    go_ret2
    exact ⟨_, rfl, place_none w _ _ _ rfl, ((Below.refl _ _).alloc (Nat.le_refl _) _).alloc (by simp) _⟩
  · go_enter Tryd.func90, Tryd.ntmps90
    go_wp2_with (go_at_call 127; refine (kids1_any _ _ _ _ (by decide)).mono ?_; rintro e w' ⟨rfl, rfl⟩)
    go_ret2
    exact ⟨_, rfl, place_none w _ _ _ rfl, ((Below.refl _ _).alloc (Nat.le_refl _) _).alloc (by simp) _⟩
  · go_enter Tryd.func90, Tryd.ntmps90
    go_wp2_with (go_at_call 127; refine (kids1_any _ _ _ _ (by decide)).mono ?_; rintro e w' ⟨rfl, rfl⟩)
    go_ret2
    exact ⟨_, rfl, place_none w _ _ _ rfl, ((Below.refl _ _).alloc (Nat.le_refl _) _).alloc (by simp) _⟩
  · go_enter Tryd.func90, Tryd.ntmps90
    go_wp2_with (go_at_call 127; refine (kids1_any _ _ _ _ (by decide)).mono ?_; rintro e w' ⟨rfl, rfl⟩)
    go_ret2
    exact ⟨_, rfl, place_none w _ _ _ rfl, ((Below.refl _ _).alloc (Nat.le_refl _) _).alloc (by simp) _⟩
  · go_enter Tryd.func90, Tryd.ntmps90
    go_wp2_with (go_at_call 127; refine (kids1_any _ _ _ _ (by decide)).mono ?_; rintro e w' ⟨rfl, rfl⟩)
    go_ret2
    exact ⟨_, rfl, place_none w _ _ _ rfl, ((Below.refl _ _).alloc (Nat.le_refl _) _).alloc (by simp) _⟩
  · go_enter Tryd.func90, Tryd.ntmps90
    go_wp2_with (go_at_call 127; refine (kids1_any _ _ _ _ (by decide)).mono ?_; rintro e w' ⟨rfl, rfl⟩)
    go_ret2
    exact ⟨_, rfl, place_list w _ _ [4] _ _ rfl (places1 rfl), (((Below.refl _ _).alloc (Nat.le_refl _) _).alloc (by simp) _).alloc (by simp; omega) _⟩
  · go_enter Tryd.func90, Tryd.ntmps90
    go_wp2_with (go_at_call 127; refine (kids1_any _ _ _ _ (by decide)).mono ?_; rintro e w' ⟨rfl, rfl⟩)
    go_ret2
    exact ⟨_, rfl, place_list w _ _ [4, 4] _ _ rfl (places2 rfl rfl), (((Below.refl _ _).alloc (Nat.le_refl _) _).alloc (by simp) _).alloc (by simp; omega) _⟩
  · by_cases h : n = 2
    · subst h
      go_enter Tryd.func90, Tryd.ntmps90
      go_wp2_with (go_at_call 127; refine (kids1_any _ _ _ _ (by decide)).mono ?_; rintro e w' ⟨rfl, rfl⟩)
      go_ret2
      exact ⟨_, rfl, place_list w _ _ [4, 4, 4] _ _ rfl (places3 rfl rfl rfl), (((Below.refl _ _).alloc (Nat.le_refl _) _).alloc (by simp) _).alloc (by simp; omega) _⟩
    · have hn2 : (n == 2) = false := by simpa using h
      have hk : kidCount ⟨20, n, s⟩ = 2 := by simp [kidCount, h]
      have HK := Asd.mk hk; clear hk h
      go_enter Tryd.func90, Tryd.ntmps90
      go_wp2_with (go_at_call 127; refine (kids1_any _ _ _ _ (by decide)).mono ?_; rintro e w' ⟨rfl, rfl⟩)
      go_ret2
      exact ⟨_, by rw [HK.out]; rfl, place_list w _ _ [4, 4] _ _ HK.out.symm (places2 rfl rfl), (((Below.refl _ _).alloc (Nat.le_refl _) _).alloc (by simp) _).alloc (by simp; omega) _⟩
end Go.Proofs.YtocbblafgjpbeaaDoor.Sp
