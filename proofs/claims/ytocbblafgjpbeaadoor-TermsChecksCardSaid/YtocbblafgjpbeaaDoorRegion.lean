/- A region that draws its order, walked once in the order of the text: what only reads is the same in every world that meets S; what writes or calls comes up alone; behind the n-th operation all comes in one order and S need hold no more. -/
import Derived.OrdersHeld
import Derived.StillTail
import Derived.KernelRfl
import Derived.Tactics
namespace Go.Proofs.YtocbblafgjpbeaaDoor.Sp
open Go
section
variable {P : Program} {ops : Array Oper} {Q : Exit → Act → World → Prop} {md : Region.Mode} {S : World → Prop}

/-- As 'wpAnyH', but S is asked for only behind the operations below number n. -/
def wpAnyE (P : Program) (md : Region.Mode) (ops : Array Oper) (Q : Exit → Act → World → Prop) (S : World → Prop) (n : Nat) : Nat → Array Bool → Act → World → Prop
  | 0, listed, a, w => Region.ready md ops listed = [] ∧ Q .normal a w
  | fuel + 1, listed, a, w =>
    (Region.ready md ops listed = [] → Q .normal a w) ∧
    ∀ i ∈ Region.ready md ops listed, wpOp P ops Q i (fun a' w' => (i < n → S w') ∧ wpAnyE P md ops Q S n fuel (listed.setIfInBounds i true) a' w') a w
theorem wpAny_of_E {n : Nat} : ∀ (fuel : Nat) (listed : Array Bool) (a : Act) (w : World), wpAnyE P md ops Q S n fuel listed a w → wpAny P md ops Q fuel listed a w
  | 0, _, _, _, h => h
  | fuel + 1, _, _, _, h => ⟨h.1, fun i hi => wpOp_mono (fun a' w' h' => wpAny_of_E fuel _ a' w' h'.2) (h.2 i hi)⟩

theorem ready_lt {n i : Nat} {listed : Array Bool} (hs : n = ops.size ∨ (Region.sinkB md ops n = true ∧ Region.chainB md ops n = true)) (hn : n ≤ ops.size) (inv : HeadInv md ops n listed)
    (hin : i < n) (hun : listed.getD i true = false) {j : Nat} (hj : j ∈ Region.ready md ops listed) : j < n := by
  rcases Nat.lt_or_ge j n with h | h
  · exact h
  · rcases Nat.lt_or_ge n ops.size with h' | h'
    · obtain ⟨hs, hc⟩ := hs.resolve_left (by omega)
      exact absurd hj (tail_waits hs hc h' inv _ i rfl hin hun j h)
    · obtain ⟨_, oj, hoj, _⟩ := mem_ready.1 hj
      have := (Array.getElem?_eq_some_iff.1 hoj).1
      omega

theorem wpAnyE_first {n i : Nat} {oi : Oper} {v : Value} (hi : ops[i]? = some oi) (hsel : ∀ (j : Nat) (o : Oper) cs b, ops[j]? = some o → o.op ≠ .select cs b)
    (hs : n = ops.size ∨ (Region.sinkB md ops n = true ∧ Region.chainB md ops n = true)) (hn : n ≤ ops.size) (hin : i < n)
    (hQ : ∀ c a w, Q (.panic c) (a.put oi.dst v) w → Q (.panic c) a w) :
    ∀ (fuel : Nat) (listed : Array Bool) (a : Act) (w : World), HeadInv md ops n listed →
      (∀ j oj, ops[j]? = some oj → j ≠ i → listed.getD j true = false → (∀ e ∈ oj.after, Region.binds md e = true → e.on ≠ i) → oi.apart ops oj = true) →
      i ∈ Region.ready md ops listed → YieldsIf P ops S oi v a → S w →
      wpAnyE P md ops Q S n fuel (listed.setIfInBounds i true) (a.put oi.dst v) w → wpAnyE P md ops Q S n (fuel + 1) listed a w := by
  intro fuel
  induction fuel with
  | zero =>
    intro listed a w _ _ hr hy hS H
    refine ⟨fun h => (by rw [h] at hr; cases hr), fun j hj => ?_⟩
    by_cases hji : j = i
    · subst hji; exact hy.wpOp hi hS ⟨fun _ => hS, H⟩
    · have := ready_mono hj hji
      rw [H.1] at this
      cases this
  | succ fuel ih =>
    intro listed a w inv hfree hr hy hS H
    have hun := (mem_ready.1 hr).1
    refine ⟨fun h => (by rw [h] at hr; cases hr), fun j hj => ?_⟩
    have hjn := ready_lt hs hn inv hin hun hj
    by_cases hji : j = i
    · subst hji; exact hy.wpOp hi hS ⟨fun _ => hS, H⟩
    · have h1 := H.2 j (ready_mono hj hji)
      obtain ⟨hjun, oj, hoj, hall⟩ := mem_ready.1 hj
      have hnot : ∀ e ∈ oj.after, Region.binds md e = true → e.on ≠ i := fun e he hb heq => by
        have h1 := hall e he hb
        rw [heq, getD_both hun] at h1
        cases h1
      have h2 := wpOp_putIf hoj (hfree j oj hoj hji hjun hnot) (fun cs b => hsel i oi cs b hi) (fun cs b => hsel j oj cs b hoj) hQ hy h1
      have hfree' : ∀ k ok, ops[k]? = some ok → k ≠ i → (listed.setIfInBounds j true).getD k true = false →
          (∀ e ∈ ok.after, Region.binds md e = true → e.on ≠ i) → oi.apart ops ok = true := fun k ok hk hki hun hno => by
        refine hfree k ok hk hki ?_ hno
        by_cases hjk : j = k
        · subst hjk; exact hjun
        · rw [getD_set_ne true hjk] at hun; exact hun
      refine wpOp_mono (fun a' w' h3 => ⟨h3.2.1, ih (listed.setIfInBounds j true) a' w' (inv.set hj hjn) hfree' (ready_mono hr (Ne.symm hji)) h3.1 (h3.2.1 hjn) ?_⟩) h2
      rw [Array.setIfInBounds_comm _ _ hji]
      exact h3.2.2

/-! ### The walk in the order of the text -/
/-- What only reads, by its kind. -/
def lightOp : Op → Bool
  | .move _ | .assign _ | .pick _ _ _ | .build _ _ | .load _ _ | .nilCheck _ | .binOp _ _ _ _ _ | .unOp _ _ _ | .convert _ _ _ | .makeInterface _ _ => true
  | .slice _ _ _ _ _ | .fieldAddr _ _ _ | .field _ _ _ | .indexAddr _ _ _ | .index _ _ _ | .extract _ _ => true
  | .call c => match c.callee with
    | .builtin .len | .builtin .cap => true
    | _ => false
  | _ => false
/-- From number k on; n: where the tail begins. -/
def wpHeld (P : Program) (ops : Array Oper) (Q : Exit → Act → World → Prop) (S : World → Prop) (n : Nat) : Nat → List Oper → Act → World → Prop
  | _, [], a, w => Q .normal a w
  | k, o :: rest, a, w =>
    if k < n then
      if lightOp o.op then ∃ v, YieldsIf P ops S o v a ∧ wpHeld P ops Q S n (k + 1) rest (a.put o.dst v) w
      else if Region.wanted o (yielded ops a.tmps) then o.wp P a w (fun a' w' => S w' ∧ wpHeld P ops Q S n (k + 1) rest a' w') Q
      else wpHeld P ops Q S n (k + 1) rest (a.put o.dst undef) w
    else wpList P ops Q (o :: rest) a w
theorem wpHeld_light {n k : Nat} {o : Oper} {rest : List Oper} {a : Act} {w : World} {v : Value} (hk : decide (k < n) = true) (hl : lightOp o.op = true)
    (hw : Region.wanted o (yielded ops a.tmps) = true) (hy : ∀ w, S w → (execOp a.eval o).run P w = .ok (.value v) w)
    (h : wpHeld P ops Q S n (k + 1) rest (a.put o.dst v) w) : wpHeld P ops Q S n k (o :: rest) a w := by
  unfold wpHeld
  rw [if_pos (of_decide_eq_true hk), if_pos hl]
  exact ⟨v, .inl ⟨hw, hy⟩, h⟩
theorem wpHeld_skip {n k : Nat} {o : Oper} {rest : List Oper} {a : Act} {w : World} (hk : decide (k < n) = true) (hl : lightOp o.op = true)
    (hw : Region.wanted o (yielded ops a.tmps) = false)
    (h : wpHeld P ops Q S n (k + 1) rest (a.put o.dst undef) w) : wpHeld P ops Q S n k (o :: rest) a w := by
  unfold wpHeld
  rw [if_pos (of_decide_eq_true hk), if_pos hl]
  exact ⟨_, .inr ⟨hw, rfl⟩, h⟩
theorem wpHeld_heavy {n k : Nat} {o : Oper} {rest : List Oper} {a : Act} {w : World} (hk : decide (k < n) = true) (hl : lightOp o.op = false) (hg : o.guard = none)
    (h : ∀ K : Act → World → Prop, (∀ a w, S w → wpHeld P ops Q S n (k + 1) rest a w → K a w) → o.wp P a w K Q) : wpHeld P ops Q S n k (o :: rest) a w := by
  unfold wpHeld
  rw [if_pos (of_decide_eq_true hk), if_neg (by rw [hl]; simp), if_pos (by simp [Region.wanted, hg])]
  exact h _ fun a w h1 h2 => ⟨h1, h2⟩
theorem wpHeld_tail {n k : Nat} {l : List Oper} {a : Act} {w : World} (hk : decide (k < n) = false) (h : wpList P ops Q l a w) : wpHeld P ops Q S n k l a w := by
  cases l with
  | nil => exact h
  | cons o rest =>
    unfold wpHeld
    rw [if_neg (of_decide_eq_false hk)]
    exact h

/-- The Bool over a region: what reads is free where it stands; what writes or calls comes up alone; behind n all comes one by one. -/
def heldGo (md : Region.Mode) (ops : Array Oper) (g : Nat) : Nat → Nat → Array Bool → Bool
  | 0, k, listed => Region.seqB md ops g k listed
  | f + 1, k, listed => (match ops[k]? with
      | some o => if lightOp o.op then (Region.ready md ops listed).contains k && Region.free md ops listed k else decide (Region.ready md ops listed = [k])
      | none => false) && heldGo md ops g f (k + 1) (listed.setIfInBounds k true)
def heldB (md : Region.Mode) (ops : Array Oper) (n : Nat) : Bool :=
  Region.noSelect ops && decide (n ≤ ops.size) && (decide (n = ops.size) || (Region.sinkB md ops n && Region.chainB md ops n)) && heldGo md ops (ops.size - n) n 0 (Array.replicate ops.size false)

theorem wpAnyE_of_seq {n : Nat} : ∀ (l : List Oper) (k : Nat) (listed : Array Bool) (a : Act) (w : World), (∀ j, l[j]? = ops[k + j]?) → n ≤ k →
    Region.seqB md ops l.length k listed = true → wpList P ops Q l a w → wpAnyE P md ops Q S n l.length listed a w
  | [], _, _, _, _, _, _, hB, h => ⟨by simpa [Region.seqB] using hB, h⟩
  | o :: l, k, listed, a, w, hl, hn, hB, h => by
    have h0 : ops[k]? = some o := by simpa using (hl 0).symm
    simp only [List.length_cons, Region.seqB, Bool.and_eq_true, decide_eq_true_eq] at hB
    refine ⟨fun h1 => (by rw [hB.1] at h1; cases h1), fun i hi => ?_⟩
    rw [hB.1] at hi
    have hik : i = k := by simpa using hi
    subst hik
    have hw : wpOp P ops Q i (wpList P ops Q l) a w := by unfold wpOp; simp only [h0]; exact h
    exact wpOp_mono (fun a' w' h' => ⟨fun hlt => absurd hlt (by omega), wpAnyE_of_seq l (i + 1) _ a' w' (fun j => by have := hl (j + 1); simpa [Nat.add_assoc, Nat.add_comm 1 j] using this) (by omega) hB.2 h'⟩) hw

theorem wpAnyE_of_held {n : Nat} (hsel : Region.noSelect ops = true) (hs : n = ops.size ∨ (Region.sinkB md ops n = true ∧ Region.chainB md ops n = true)) (hn : n ≤ ops.size)
    (hQ : ∀ c a d v w, Q (.panic c) (Act.put a d v) w → Q (.panic c) a w) :
    ∀ (l : List Oper) (k : Nat) (listed : Array Bool) (a : Act) (w : World), (∀ j, l[j]? = ops[k + j]?) → k + l.length = ops.size → k ≤ n → HeadInv md ops n listed →
      heldGo md ops (ops.size - n) (n - k) k listed = true → S w → wpHeld P ops Q S n k l a w → wpAnyE P md ops Q S n l.length listed a w := by
  intro l
  induction l with
  | nil =>
    intro k listed a w hl hlen hk inv hB hS h
    have : k = n := by simp at hlen; omega
    subst this
    simp only [Nat.sub_self, heldGo] at hB
    rw [show ops.size - k = 0 by simp at hlen; omega] at hB
    exact ⟨by simpa [Region.seqB] using hB, h⟩
  | cons o l ih =>
    intro k listed a w hl hlen hk inv hB hS h
    have h0 : ops[k]? = some o := by simpa using (hl 0).symm
    have hl' : ∀ j, l[j]? = ops[k + 1 + j]? := fun j => by have := hl (j + 1); simpa [Nat.add_assoc, Nat.add_comm 1 j] using this
    have hlen' : k + 1 + l.length = ops.size := by simp at hlen; omega
    rcases Nat.lt_or_ge k n with hkn | hkn
    · obtain ⟨m, hm⟩ : ∃ m, n - k = m + 1 := ⟨n - k - 1, by omega⟩
      rw [hm] at hB
      simp only [heldGo, h0, Bool.and_eq_true] at hB
      obtain ⟨hB1, hB2⟩ := hB
      rw [show m = n - (k + 1) by omega] at hB2
      unfold wpHeld at h
      rw [if_pos hkn] at h
      by_cases hli : lightOp o.op = true
      · rw [if_pos hli] at hB1 h
        simp only [Bool.and_eq_true] at hB1
        obtain ⟨v, hy, h⟩ := h
        have hr : k ∈ Region.ready md ops listed := by simpa using hB1.1
        exact wpAnyE_first h0 (Region.noSelect_spec hsel) hs hn hkn (fun c a w => hQ c a _ _ w) l.length listed a w inv (Region.free_spec h0 hB1.2) hr hy hS
          (ih (k + 1) _ _ w hl' hlen' hkn (inv.set hr hkn) hB2 hS h)
      · rw [if_neg hli] at hB1 h
        have hr : Region.ready md ops listed = [k] := of_decide_eq_true hB1
        have hr' : k ∈ Region.ready md ops listed := by rw [hr]; simp
        refine ⟨fun h1 => (by rw [hr] at h1; cases h1), fun i hi => ?_⟩
        rw [hr] at hi
        have hik : i = k := by simpa using hi
        subst hik
        unfold wpOp
        simp only [h0]
        split
        · rename_i hw
          rw [if_pos hw] at h
          refine .inl (Oper.wp_mono (fun a' w' h' => ?_) h)
          exact ⟨fun _ => h'.1, ih (i + 1) _ a' w' hl' hlen' hkn (inv.set hr' hkn) hB2 h'.1 h'.2⟩
        · rename_i hw
          rw [if_neg hw] at h
          exact ⟨fun _ => hS, ih (i + 1) _ _ w hl' hlen' hkn (inv.set hr' hkn) hB2 hS h⟩
    · have hkn' : k = n := by omega
      subst hkn'
      simp only [Nat.sub_self, heldGo] at hB
      unfold wpHeld at h
      rw [if_neg (Nat.lt_irrefl _)] at h
      exact wpAnyE_of_seq (o :: l) k listed a w hl (Nat.le_refl _) (by rw [← show ops.size - k = (o :: l).length by omega]; exact hB) h

/-- The region, walked once. -/
theorem wp_region_heldB {id n : Nat} {l : List Oper} {a : Act} {w : World} (S : World → Prop) (hm : P.follows .mixedOrders = true) (hB : heldB .any l.toArray n = true)
    (hQ : ∀ c a d v w, Q (.panic c) (Act.put a d v) w → Q (.panic c) a w) (hS : S w.drew) (h : wpHeld P l.toArray Q S n 0 l a w.drew) : (Code.region id l.toArray true).wp P Q a w := by
  simp only [heldB, Bool.and_eq_true, Bool.or_eq_true, decide_eq_true_eq] at hB
  obtain ⟨⟨⟨h1, h2⟩, h3⟩, h5⟩ := hB
  refine wp_region_any hm (wpAny_of_E (S := S) (n := n) _ _ _ _ ?_)
  have inv : HeadInv .any l.toArray n (Array.replicate l.toArray.size false) :=
    ⟨by simp, fun j oj _ hl => (by rw [getD_replicate_false] at hl; cases hl), fun t _ ht => by simp at ht; simp [ht]⟩
  have := wpAnyE_of_held (P := P) (Q := Q) (S := S) h1 h3 h2 hQ l 0 (Array.replicate l.toArray.size false) a w.drew (fun j => by simp) (by simp) (Nat.zero_le _) inv (by simpa using h5) hS h
  simpa using this
end
end Go.Proofs.YtocbblafgjpbeaaDoor.Sp
