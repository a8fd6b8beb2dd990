/- Walks: the program makes a tree out of a list of nodes, or tells the wrong place. -/
import Derived.Test.YtocbblafgjpbeaaDoorKids
import Derived.Test.YtocbblafgjpbeaaDoorShape
import Derived.Deep.DeepCutAuto
import Derived.Deep.LoopGhost
namespace Go.Proofs.YtocbblafgjpbeaaDoor.Sp
open Go.RowKit
set_option linter.unusedVariables false
set_option linter.unusedSimpArgs false

theorem node_info : (Tryd.prog.info? 69).map (fun i => (i.zero, i.size, i.bytes)) = some (some (.pointer none), 1, 8) := by kernel_rfl
theorem kids2_any (k : Int) (w : World) : Calls Tryd.prog 129 #[.int .u64 k] w fun e w' => e = .returned (.int .i64 1) ∧ w' = w := by
  go_enter Tryd.func129, Tryd.ntmps129
  go_wp2_with fail
  go_ret
  exact ⟨rfl, rfl⟩
theorem kids3_any (k : Int) (w : World) : Calls Tryd.prog 130 #[.int .u64 k] w fun e w' => e = .returned (.int .i64 3) ∧ w' = w := by
  go_enter Tryd.func130, Tryd.ntmps130
  go_wp2_with fail
  go_ret
  exact ⟨rfl, rfl⟩
theorem kids11_any (k b kb n c : Nat) (p : Int) (w : World) (h0 : w.cell? ⟨b, 0, none⟩ = some (.slice (some ⟨kb, 0, none⟩) n c)) (hk : k < n) (h1 : w.cell? ⟨kb, k, none⟩ = some (.int .i64 p)) :
    Calls Tryd.prog 128 #[.int .u64 (k : Int), .pointer (some ⟨b, 0, none⟩)] w fun e w' => e = .returned (.int .i64 p) ∧ w' = w := by
  have hk0 : (0 : Int) ≤ (k : Int) := Int.natCast_nonneg _
  have hk1 : (k : Int) < (n : Int) := by omega
  go_enter Tryd.func128, Tryd.ntmps128
  go_wp2_with fail
  go_ret
  exact ⟨rfl, rfl⟩
theorem GShapes.tch {S : Nat → Prop} {w w' : World} (h : GShapes w) (ht : Tch S w w') (hn : ¬ S 4) : GShapes w' := by
  obtain ⟨fr, h⟩ := h
  exact ⟨fr, (ht.block _ (heap_lt h) hn).trans h⟩
theorem GKw.tch {S : Nat → Prop} {w w' : World} (h : GKw w) (ht : Tch S w w') (hn : ¬ S 5) : GKw w' := by
  obtain ⟨fr, h⟩ := h
  exact ⟨fr, (ht.block _ (heap_lt h) hn).trans h⟩
/-- What is asked of a list of nodes that comes in. -/
structure TNsOk (l : List TN) : Prop where
  n : ∀ (i : Nat) (x : TN), l[i]? = some x → 0 ≤ x.n ∧ x.n ≤ 18446744073709551615
  s : ∀ (i : Nat) (x : TN), l[i]? = some x → x.name.size ≤ 9223372036854775807
def BuiAt (w : World) (gb : Nat) (A : Option Addr) (n c : Nat) (i : Nat) : Prop :=
  w.heap[gb]? = some (.cells #[.slice A n c, .int .i64 (i : Int)] 141 (0, 0))
def TreePost (w : World) (gb : Nat) (A : Option Addr) (n c : Nat) (l : List TN) (i : Nat) (at_ depth : Int) (e : Ending) (w' : World) : Prop :=
  ∃ i' : Nat, i ≤ i' ∧ i' ≤ n ∧ BuiAt w' gb A n c i' ∧ Tch (fun b => b = gb) w w' ∧
    ((e = .returned (.pointer none) ∧ ∀ st, scan (l.drop i) i (⟨at_, depth, 1⟩ :: st) = some i') ∨
     (∃ p x ks, e = .returned (.pointer (some ⟨p, 0, none⟩)) ∧ FoAt (fun b => w.heap.size ≤ b ∧ b < w'.heap.size) w' (.cons x ks .nil) [p] ∧ l.drop i = x :: (ks.flat ++ l.drop i') ∧
        okNode at_ x = true ∧ (ks.len : Int) = kidCount x ∧ VF x 0 ks ∧ i' ≤ 256 ∧ ∀ st, scan (l.drop i) i (⟨at_, depth, 1⟩ :: st) = scan (l.drop i') i' st))

set_option maxRecDepth 100000 in
set_option maxHeartbeats 1600000 in
/-- Nothing can stand here: the list's end, too many nodes, too deep. -/
theorem tree_out (gb : Nat) (A : Option Addr) (n c : Nat) (l : List TN) (i : Nat) (at_ depth : Int) (w : World) (hl : l.length = n) (hn : n ≤ 4611686018427387904) (hi : i ≤ n) (hb : BuiAt w gb A n c i) (hd : 1 ≤ depth ∧ depth ≤ 25)
    (h : n ≤ i ∨ 256 ≤ i ∨ 24 < depth) :
    Calls Tryd.prog 59 #[.pointer (some ⟨gb, 0, none⟩), .int .i64 at_, .int .i64 depth] w (TreePost w gb A n c l i at_ depth) := by
  have hpost : Asd (∀ q, TreePost w gb A n c l i at_ depth (.returned (.pointer none)) (w.drewN q)) := ⟨fun q => ⟨i, Nat.le_refl _, hi, hb, (Tch.refl _ _).drewN q, .inl ⟨rfl, fun st => scan_bad (by
    rcases h with h | h | h
    · left; exact List.drop_of_length_le (by omega)
    · exact .inr (.inl h)
    · exact .inr (.inr (.inl h)))⟩⟩⟩
  have c0 : w.cell? ⟨gb, 0, none⟩ = some (.slice A n c) := cell_of hb 0
  have c1 : w.cell? ⟨gb, 1, none⟩ = some (.int .i64 (i : Int)) := cell_of hb 1
  obtain ⟨hd1, hd2⟩ := hd
  have HL := Asd.mk hl
  clear hb hl
  by_cases h1 : n ≤ i
  · have g1 : decide ((n : Int) ≤ (i : Int)) = true := by simp; omega
    clear h
    go_enter Tryd.func59, Tryd.ntmps59
    go_wp2_with fail
    go_quiet (fail)
    go_wp2_with fail
    go_ret
    exact hpost.out _
  · have g1 : decide ((n : Int) ≤ (i : Int)) = false := by simp; omega
    by_cases h2 : 256 ≤ i
    · have g2 : decide ((256 : Int) ≤ (i : Int)) = true := by simp; omega
      clear h
      go_enter Tryd.func59, Tryd.ntmps59
      go_wp2_with fail
      go_quiet (fail)
      go_wp2_with fail
      go_ret
      exact hpost.out _
    · have g2 : decide ((256 : Int) ≤ (i : Int)) = false := by simp; omega
      have h3 : 24 < depth := by omega
      clear h
      go_enter Tryd.func59, Tryd.ntmps59
      go_wp2_with fail
      go_quiet (fail)
      go_wp2_with fail
      go_ret
      exact hpost.out _

theorem okNode_bad {x : TN} {p : Int} (hp : 0 ≤ p) (h : x.op < 1 ∨ 20 < x.op) : okNode p x = false := by
  cases hh : okNode p x with
  | false => rfl
  | true => have := okNode_op hp hh; omega
theorem PlaceFn.keep {w w' : World} {lo : Nat} {fv : Value} {x : TN} (h : PlaceFn w lo fv x) (hk : ∀ q, lo ≤ q → q < w.heap.size → w'.heap[q]? = w.heap[q]?) (hs : w.heap.size ≤ w'.heap.size) : PlaceFn w' lo fv x := by
  rcases h with h | h | ⟨b, A, n, c, h1, h2, h3, h4, h5, h6⟩
  · exact .inl h
  · exact .inr (.inl h)
  · refine .inr (.inr ⟨b, A, n, c, h1, h2, Nat.lt_of_lt_of_le h3 hs, (World.cell?_of_block (w := w) (a := ⟨b, 0, none⟩) (hk b h2 h3)).trans h4, h5, fun j hj => ?_⟩)
    obtain ⟨kb, k1, k2, k3, k4⟩ := h6 j hj
    exact ⟨kb, k1, k2, Nat.lt_of_lt_of_le k3 hs, (World.cell?_of_block (w := w) (a := ⟨kb, j, none⟩) (hk kb k2 k3)).trans k4⟩
def ptrs (bs : List Nat) : List Value := bs.map fun b => .pointer (some ⟨b, 0, none⟩)
/-- Where the loop over a node's parts stands: k parts are read, j is the next node. lo: the heap's size when the loop began. -/
structure TreeRel (w : World) (gb po lo lo0 : Nat) (fv : Value) (A : Option Addr) (n c : Nat) (l : List TN) (i : Nat) (x : TN) (depth : Int) (wr : World) (k j : Nat) (f : Fo) (bs : List Nat) (S : Option Addr) (cap : Nat) : Prop where
  hk : (k : Int) ≤ kidCount x
  hf : f.len = k
  hbs : bs.length = k
  hj : i < j
  hjn : j ≤ n
  h256 : j ≤ 256
  blk : wr.heap[po]? = some (.cells #[.int .i64 x.op, .int .u64 x.n, .string x.name, .slice S k cap] 85 (0, 0))
  row : wr.ownsRow lo 69 1 (.slice S k cap) k (ptrs bs)
  fo : FoAt (fun q => lo ≤ q ∧ q < wr.heap.size ∧ (Value.slice S k cap).ownBlock ≠ some q) wr f bs
  bui : BuiAt wr gb A n c j
  tch : Tch (fun b => b = gb) w wr
  low : lo ≤ wr.heap.size
  pf : ∃ w1 : World, w1.heap.size = lo ∧ PlaceFn w1 lo0 fv x ∧ Tch (fun q => q = gb ∨ q = po) w1 wr
  drop : l.drop (i + 1) = f.flat ++ l.drop j
  vf : VF x 0 f
  scan : ∀ st, scan (l.drop (i + 1)) (i + 1) (restW x (depth + 1) 0 ++ st) = scan (l.drop j) j (restW x (depth + 1) k ++ st)

theorem TNsAt.tch {S : Nat → Prop} {w w' : World} {A : Option Addr} {l : List TN} (h : TNsAt w A l) (ht : Tch S w w') (hn : ∀ b off, A = some ⟨b, off, none⟩ → ¬ S b) : TNsAt w' A l := by
  intro j x hj
  obtain ⟨b, off, h1, h2, h3, h4, h5⟩ := h j x hj
  have hb := hn b off h1
  exact ⟨b, off, h1, Nat.lt_of_lt_of_le h2 ht.size, ht.cell_some h3 hb, ht.cell_some h4 hb, ht.cell_some h5 hb⟩
theorem Fo.len_le (f : Fo) : f.len ≤ f.flat.length := by
  induction f with
  | nil => simp [Fo.len]
  | cons x k r _ ih => simp [Fo.len, Fo.flat]; omega
section
variable {w : World} {gb po lo lo0 : Nat} {fv : Value} {A : Option Addr} {n c : Nat} {l : List TN} {i : Nat} {x : TN} {depth : Int} {wr : World} {k j : Nat} {f : Fo} {bs : List Nat} {S : Option Addr} {cap : Nat}
theorem treeRel_place (h : TreeRel w gb po lo lo0 fv A n c l i x depth wr k j f bs S cap) (hg : gb < lo0) (hpo : po < lo0) : PlaceFn wr lo0 fv x := by
  obtain ⟨w1, e, hp, ht⟩ := h.pf
  exact hp.keep (fun q q1 q2 => ht.block q q2 (by omega)) ht.size
theorem treeRel_small (h : TreeRel w gb po lo lo0 fv A n c l i x depth wr k j f bs S cap) (hl : l.length = n) (hi : i < l.length) : k ≤ 256 := by
  have h1 := congrArg List.length h.drop
  have h2 := Fo.len_le f
  have h3 := h.hf
  have h4 := h.h256
  have h5 := h.hj
  simp only [List.length_drop, List.length_append] at h1
  omega
theorem treeRel_next (h : TreeRel w gb po lo lo0 fv A n c l i x depth wr k j f bs S cap) (hg : gb < w.heap.size) (hw : w.heap.size ≤ po) (hpo : po < lo) (hlo : po < lo0) (hkc : (k : Int) < kidCount x)
    {w2 : World} {j' p : Nat} {y : TN} {ks : Fo} {te : TypeId} (h2i : j ≤ j') (h2n : j' ≤ n) (h2b : BuiAt w2 gb A n c j') (h2t : Tch (fun b => b = gb) wr w2)
    (h2f : FoAt (fun b => wr.heap.size ≤ b ∧ b < w2.heap.size) w2 (.cons y ks .nil) [p]) (h2d : l.drop j = y :: (ks.flat ++ l.drop j')) (h2o : okNode (kidPlace x k) y = true) (h2k : (ks.len : Int) = kidCount y) (h2v : VF y 0 ks) (h2m : j' ≤ 256)
    (h2s : ∀ st, scan (l.drop j) j (⟨kidPlace x k, depth + 1, 1⟩ :: st) = scan (l.drop j') j' st)
    {g cap2 : Nat} {w3 : World} (ho : w3.ownsRow lo 69 1 (.slice (some ⟨g, 0, none⟩) (k + 1) cap2) (k + 1) (ptrs bs ++ [.pointer (some ⟨p, 0, none⟩)]))
    (h3 : Tch (fun q => (Value.slice S k cap).ownBlock = some q) (w2.alloc (.cells #[.pointer (some ⟨p, 0, none⟩)] te)) w3) (h3g : (Value.slice S k cap).ownBlock = some g ∨ (w2.alloc (.cells #[.pointer (some ⟨p, 0, none⟩)] te)).heap.size ≤ g) (h3l : g < w3.heap.size) :
    TreeRel w gb po lo lo0 fv A n c l i x depth (w3.setCell ⟨po, 3, none⟩ (.slice (some ⟨g, 0, none⟩) (k + 1) cap2)) (k + 1) j' (f.app (.cons y ks .nil)) (bs ++ [p]) (some ⟨g, 0, none⟩) cap2 := by
  have e0 : w.heap.size ≤ wr.heap.size := h.tch.size
  have e1 : wr.heap.size ≤ w2.heap.size := h2t.size
  have e2 : w2.heap.size + 1 ≤ w3.heap.size := by have := h3.size; simpa using this
  have elo := h.low
  have hown : ∀ q, (Value.slice S k cap).ownBlock = some q → lo ≤ q ∧ q < wr.heap.size := fun q hq => h.row.lt q hq
  have hgl : lo ≤ g := (ho.lt g rfl).1
  have T2 : Tch (fun q => q = gb) wr (w2.alloc (.cells #[.pointer (some ⟨p, 0, none⟩)] te)) := h2t.alloc _
  have T3 : Tch (fun q => q = gb ∨ lo ≤ q ∧ (Value.slice S k cap).ownBlock = some q) wr w3 := (T2.mono (fun _ _ h => .inl h)).trans' h3 (fun q _ hq => .inr ⟨(hown q hq).1, hq⟩)
  have T3a : Tch (fun q => lo ≤ q ∧ (Value.slice S k cap).ownBlock = some q) w2 w3 := ((Tch.refl _ w2).alloc _).trans' h3 (fun q _ hq => ⟨(hown q hq).1, hq⟩)
  have T4 : Tch (fun q => q = po) w3 (w3.setCell ⟨po, 3, none⟩ (.slice (some ⟨g, 0, none⟩) (k + 1) cap2)) := (Tch.refl (fun q => q = po) w3).setCell (p := ⟨po, 3, none⟩) (fun _ => rfl) _
  have T34 : Tch (fun q => q = gb ∨ q = po ∨ lo ≤ q ∧ (Value.slice S k cap).ownBlock = some q) wr (w3.setCell ⟨po, 3, none⟩ (.slice (some ⟨g, 0, none⟩) (k + 1) cap2)) :=
    (T3.mono (fun _ _ h => h.imp id .inr)).trans' T4 (fun q _ hq => .inr (.inl hq))
  have T34a : Tch (fun q => q = po ∨ lo ≤ q ∧ (Value.slice S k cap).ownBlock = some q) w2 (w3.setCell ⟨po, 3, none⟩ (.slice (some ⟨g, 0, none⟩) (k + 1) cap2)) :=
    (T3a.mono (fun _ _ h => .inr h)).trans' T4 (fun q _ hq => .inl hq)
  have hpw : po < wr.heap.size := heap_lt h.blk
  refine { hk := by omega, hf := ?_, hbs := by simp [h.hbs], hj := Nat.lt_of_lt_of_le h.hj h2i, hjn := h2n, h256 := h2m, blk := ?_, row := ?_, fo := ?_, bui := ?_, tch := ?_, low := ?_, pf := ?_, drop := ?_, vf := ?_, scan := ?_ }
  · rw [Fo.len_app, h.hf]; rfl
  · have p3 := (T3.block po hpw (by omega)).trans h.blk
    have := heap_set p3 3 (.slice (some ⟨g, 0, none⟩) (k + 1) cap2)
    rw [this]; rfl
  · have := T4.owns ho (fun q hq => by
      have hq : g = q := by simpa [Value.ownBlock] using hq
      omega)
    rw [show ptrs (bs ++ [p]) = ptrs bs ++ [.pointer (some ⟨p, 0, none⟩)] by simp [ptrs]]
    exact this
  · have hne : ∀ q, lo ≤ q → q < w2.heap.size → (Value.slice S k cap).ownBlock ≠ some q → (Value.slice (some ⟨g, 0, none⟩) (k + 1) cap2).ownBlock ≠ some q := by
      intro q q1 q2 q3 hq
      have hq : g = q := by simpa [Value.ownBlock] using hq
      subst hq
      rcases h3g with h3g | h3g
      · exact q3 h3g
      · simp at h3g; omega
    have hsz : w3.heap.size ≤ (w3.setCell ⟨po, 3, none⟩ (.slice (some ⟨g, 0, none⟩) (k + 1) cap2)).heap.size := T4.size
    refine FoAt.app (FoAt.mono ?_ (FoAt.keep (Like.of_tch T34 ?_) h.fo)) (FoAt.mono ?_ (FoAt.keep (Like.of_tch T34a ?_) h2f))
    · rintro q ⟨q1, q2, q3⟩
      exact ⟨q1, by omega, hne q q1 (by omega) q3⟩
    · rintro q ⟨q1, q2, q3⟩
      refine ⟨q2, ?_⟩
      rintro (hq | hq | ⟨_, hq⟩)
      · omega
      · omega
      · exact q3 hq
    · rintro q ⟨q1, q2⟩
      exact ⟨by omega, by omega, hne q (by omega) q2 (fun hq => by have := (hown q hq).2; omega)⟩
    · rintro q ⟨q1, q2⟩
      refine ⟨q2, ?_⟩
      rintro (hq | ⟨_, hq⟩)
      · omega
      · have := (hown q hq).2; omega
  · exact (T34a.block gb (by omega) (by rintro (hq | ⟨hq, _⟩) <;> omega)).trans h2b
  · refine h.tch.trans' T34 ?_
    rintro q hq (e | e | ⟨e, _⟩)
    · exact e
    · omega
    · omega
  · have := T34.size; omega
  · obtain ⟨w1, p1, p2, p3⟩ := h.pf
    refine ⟨w1, p1, p2, p3.trans' T34 ?_⟩
    rintro q hq (e | e | ⟨e, _⟩)
    · exact .inl e
    · exact .inr e
    · omega
  · rw [h.drop, h2d, Fo.flat_app]; simp [Fo.flat]
  · refine VF_app x f _ 0 h.vf ?_
    simp only [VF, Int.zero_add, h.hf]
    exact ⟨h2o, h2k, h2v, trivial⟩
  · intro st
    rw [h.scan, restW_step x (depth + 1) k _ _ _ hkc, h2s]
    rfl
end

set_option maxRecDepth 100000 in
set_option maxHeartbeats 3200000 in
/-- A node that stands there. ih: what is read one deeper. -/
theorem tree_in (gb : Nat) (A : Option Addr) (n c : Nat) (l : List TN) (i : Nat) (x : TN) (at_ depth : Int) (w : World) (hl : l.length = n) (hn : n ≤ 4611686018427387904) (hb : BuiAt w gb A n c i) (hA : TNsAt w A l) (hok : TNsOk l) (hd : 1 ≤ depth ∧ depth ≤ 24) (hat : 0 ≤ at_)
    (hx : l[i]? = some x) (h256 : i < 256) (hG : GShapes w) (hK : GKw w) (hglob : 4 < gb ∧ 5 < gb)
    (hAb : ∀ b off, A = some ⟨b, off, none⟩ → b ≠ gb)
    (ih : ∀ (w' : World) (i' : Nat) (at' : Int), BuiAt w' gb A n c i' → i' ≤ n → TNsAt w' A l → GShapes w' → GKw w' → 0 ≤ at' → Calls Tryd.prog 59 #[.pointer (some ⟨gb, 0, none⟩), .int .i64 at', .int .i64 (depth + 1)] w' (TreePost w' gb A n c l i' at' (depth + 1))) :
    Calls Tryd.prog 59 #[.pointer (some ⟨gb, 0, none⟩), .int .i64 at_, .int .i64 depth] w (TreePost w gb A n c l i at_ depth) := by
  have hlt := (List.getElem?_eq_some_iff.1 hx).1
  have hbad : Asd (∀ w', okNode at_ x = false → Tch (fun b => False) w w' → TreePost w gb A n c l i at_ depth (.returned (.pointer none)) w') := ⟨fun w' hno ht => ⟨i, Nat.le_refl _, by omega, by unfold BuiAt; rw [ht.block gb (heap_lt hb) id]; exact hb, ht.mono (fun _ _ h => h.elim), .inl ⟨rfl, fun st => scan_bad (by
    exact .inr (.inr (.inr ⟨x, l.drop (i + 1), drop_cons hx, hno⟩)))⟩⟩⟩
  have hgb := heap_lt hb
  have c0 : w.cell? ⟨gb, 0, none⟩ = some (.slice A n c) := cell_of hb 0
  have c1 : w.cell? ⟨gb, 1, none⟩ = some (.int .i64 (i : Int)) := cell_of hb 1
  obtain ⟨b, off, rfl, hbl, a0, a1, a2⟩ := hA i x hx
  obtain ⟨hd1, hd2⟩ := hd
  have HL := Asd.mk hl; have HX := Asd.mk hx; have HBui := Asd.mk hb; have HTN := Asd.mk hA; have HOK := Asd.mk hok; have HGS := Asd.mk hG; have HGK := Asd.mk hK; have HIH := Asd.mk ih; have HGL := Asd.mk hglob; have HAB := Asd.mk (hAb b off rfl)
  have g1 : decide ((n : Int) ≤ (i : Int)) = false := by simp; omega
  have g2 : decide ((256 : Int) ≤ (i : Int)) = false := by simp; omega
  have g3 : decide ((24 : Int) < depth) = false := by simp; omega
  have g1' : decide (n ≤ i) = false := by simp; omega
  have k0 : (0 : Int) ≤ (i : Int) := Int.natCast_nonneg _
  have k1 : (i : Int) < (n : Int) := by omega
  clear hb hl hA hx hok hG hK ih hglob hAb
  go_enter Tryd.func59, Tryd.ntmps59
  go_wp2_with fail
  go_quiet (fail)
  have T0 : Tch (fun _ => False) w (w.drewN nq) := (Tch.refl _ _).drewN _
  replace c0 : (w.drewN nq).cell? _ = _ := c0
  replace c1 : (w.drewN nq).cell? _ = _ := c1
  replace a0 : (w.drewN nq).cell? _ = _ := a0
  replace a1 : (w.drewN nq).cell? _ = _ := a1
  replace a2 : (w.drewN nq).cell? _ = _ := a2
  generalize w.drewN nq = wd at c0 c1 a0 a1 a2 T0 ⊢
  have HT := Asd.mk T0; clear T0
  go_wp2_with fail
  refine wp_region_heldB (n := 11) (fun w' => w'.cell? ⟨gb, 0, none⟩ = some (.slice (some ⟨b, off, none⟩) n c) ∧ w'.cell? ⟨gb, 1, none⟩ = some (.int .i64 (i : Int)) ∧
    w'.cell? ⟨b, off + i * 3, none⟩ = some (.int .i64 x.op) ∧ w'.cell? ⟨b, off + i * 3 + 1, none⟩ = some (.int .u64 x.n) ∧ w'.cell? ⟨b, off + i * 3 + 2, none⟩ = some (.string x.name)) (by kernel_rfl) (by kernel_rfl) ?_ ⟨c0, c1, a0, a1, a2⟩ ?_
  · intro _ _ d _ _ h; cases d <;> exact h
  repeat (apply wpHeld_light rfl rfl rfl
          · (rintro w' ⟨s1, s2, s3, s4, s5⟩; go_simp; first | done | rfl)
          simp only [Act.put, List.setIfInBounds_toArray, List.set_cons_zero, List.set_cons_succ])
  refine wpHeld_heavy rfl rfl rfl (fun K hK => ?_)
  go_simp
  refine hK _ _ ⟨cell_ad c0, cell_ad c1, cell_ad a0, cell_ad a1, cell_ad a2⟩ ?_
  clear hK K
  refine wpHeld_tail rfl ?_
  by_cases h : x.op < 1
  · have HNO := Asd.mk (okNode_bad hat (.inl h))
    go_wp2_with fail
    go_ret
    exact hbad.out _ HNO.out ((HT.out.alloc _).drew)
  by_cases h' : 20 < x.op
  · have HNO := Asd.mk (okNode_bad hat (.inr h'))
    go_wp2_with fail
    go_ret
    exact hbad.out _ HNO.out ((HT.out.alloc _).drew)
  obtain ⟨s, hsc, hsk, hsl, hsl1, hsm, hs⟩ := shape_get x.op (by omega) (by omega)
  replace hs := hs at_ x.n x.name (HOK.out.n i x HX.out).1 (HOK.out.n i x HX.out).2
  have GSd : GShapes wd := HGS.out.tch HT.out id
  obtain ⟨sh0, sh1, sh2, sh3⟩ := hsc wd GSd
  have HS := Asd.mk hs; have HGSd := Asd.mk GSd; have HGKd := Asd.mk (HGK.out.tch HT.out id)
  have q1 : 1 ≤ x.op := by omega
  have q2 : x.op ≤ 20 := by omega
  have q0 : 0 ≤ x.op := by omega
  have q3 : x.op < 21 := by omega
  have hz4 : 4 < wd.heap.size := World.block_lt_of_cell? _ _ sh0
  clear hsc hs GSd
  clear h h'
  go_upto_region 7 with fail
  go_cut [111] (fun v wx => v = .bool (!okNode at_ x) ∧ wx = ((wd.alloc (.cells #[.int .i64 x.op, .int .u64 x.n, .string x.name] 68)).alloc (.cells #[.int .i64 s.a, .int .u64 s.l, .int .u64 s.m, .int .i64 s.k] 182)).drew)
  case first =>
    have hval : okNode at_ x = (decide (s.a = at_) && decide (s.l ≤ x.n) && decide (x.n ≤ s.m) && nameRule s.k x.name) := HS.out
    have HGK2 : Asd (GKw ((wd.alloc (.cells #[.int .i64 x.op, .int .u64 x.n, .string x.name] 68)).alloc (.cells #[.int .i64 s.a, .int .u64 s.l, .int .u64 s.m, .int .i64 s.k] 182)).drew) :=
      ⟨HGKd.out.tch ((((Tch.refl (fun _ => False) _).alloc _).alloc _).drew) id⟩
    have HNS := Asd.mk (HOK.out.s i x HX.out)
    by_cases ha : s.a = at_
    case neg =>
      have f1 : (s.a != at_) = true := by simpa using ha
      have HOKV : Asd (okNode at_ x = false) := ⟨by rw [hval]; simp [ha]⟩
      clear hval ha
      go_wp2_with fail
      go_meet
      exact ⟨by rw [HOKV.out]; rfl, rfl⟩
    have f1 : (s.a != at_) = false := by simpa using ha
    by_cases hl : x.n < s.l
    · have f2 : decide (x.n < s.l) = true := by simpa using hl
      have HOKV : Asd (okNode at_ x = false) := ⟨by rw [hval]; simp; omega⟩
      clear hval ha
      go_wp2_with fail
      go_meet
      exact ⟨by rw [HOKV.out]; rfl, rfl⟩
    have f2 : decide (x.n < s.l) = false := by simpa using hl
    by_cases hm : s.m < x.n
    · have f3 : decide (s.m < x.n) = true := by simpa using hm
      have HOKV : Asd (okNode at_ x = false) := ⟨by rw [hval]; simp; omega⟩
      clear hval ha hl
      go_wp2_with fail
      go_meet
      exact ⟨by rw [HOKV.out]; rfl, rfl⟩
    have f3 : decide (s.m < x.n) = false := by simpa using hm
    have hval2 : okNode at_ x = nameRule s.k x.name := by
      have e1 : decide (s.l ≤ x.n) = true := by simp; omega
      have e2 : decide (x.n ≤ s.m) = true := by simp; omega
      rw [hval, e1, e2]; simp [ha]
    clear hval ha hl hm
    have hemp : sEq x.name empty = x.name.toList.isEmpty := by
      unfold sEq; rw [toList_empty]; cases x.name.toList <;> rfl
    cases hnm : nameOk x.name with
    | true =>
      have HNM := Asd.mk hnm
      cases hem : x.name.toList.isEmpty with
      | true => exfalso; rw [nameOk_eq, hem] at hnm; simp at hnm
      | false =>
        have hem2 : ¬ x.name.toList = [] := by intro h; rw [h] at hem; cases hem
        rcases hsk with hk | hk | hk
        · have HOKV : Asd (okNode at_ x = false) := ⟨by rw [hval2]; simp [nameRule, hk, hemp, hem]⟩
          have f4 : (s.k == 0) = true := by simp [hk]
          clear hval2 hk hemp hnm
          go_wp2_with fail
          go_meet
          exact ⟨by rw [HOKV.out]; rfl, rfl⟩
        · have HOKV : Asd (okNode at_ x = true) := ⟨by rw [hval2]; simp [nameRule, hk, hnm]⟩
          have f4 : (s.k == 0) = false := by simp [hk]
          have f5 : (s.k == 1) = true := by simp [hk]
          have f6 : (s.k == 2) = false := by simp [hk]
          clear hval2 hk hemp hnm
          go_wp2_with (go_at_call 89; refine (named_any x.name _ HGK2.out HNS.out).mono ?_; rw [HNM.out]; rintro e w' ⟨rfl, rfl⟩)
          go_meet
          exact ⟨by rw [HOKV.out]; rfl, rfl⟩
        · have HOKV : Asd (okNode at_ x = true) := ⟨by rw [hval2]; simp [nameRule, hk, hnm]⟩
          have f4 : (s.k == 0) = false := by simp [hk]
          have f5 : (s.k == 1) = false := by simp [hk]
          have f6 : (s.k == 2) = true := by simp [hk]
          clear hval2 hk hemp hnm
          go_wp2_with (go_at_call 89; refine (named_any x.name _ HGK2.out HNS.out).mono ?_; rw [HNM.out]; rintro e w' ⟨rfl, rfl⟩)
          go_meet
          exact ⟨by rw [HOKV.out]; rfl, rfl⟩
    | false =>
      have HNM := Asd.mk hnm
      cases hem : x.name.toList.isEmpty with
      | true =>
        have hem2 : x.name.toList = [] := by simpa using hem
        rcases hsk with hk | hk | hk
        · have HOKV : Asd (okNode at_ x = true) := ⟨by rw [hval2]; simp [nameRule, hk, hemp, hem]⟩
          have f4 : (s.k == 0) = true := by simp [hk]
          have f5 : (s.k == 1) = false := by simp [hk]
          have f6 : (s.k == 2) = false := by simp [hk]
          clear hval2 hk hemp hnm
          go_wp2_with fail
          go_meet
          exact ⟨by rw [HOKV.out]; rfl, rfl⟩
        · have HOKV : Asd (okNode at_ x = false) := ⟨by rw [hval2]; simp [nameRule, hk, hnm]⟩
          have f4 : (s.k == 0) = false := by simp [hk]
          have f5 : (s.k == 1) = true := by simp [hk]
          clear hval2 hk hemp hnm
          go_wp2_with (go_at_call 89; refine (named_any x.name _ HGK2.out HNS.out).mono ?_; rw [HNM.out]; rintro e w' ⟨rfl, rfl⟩)
          go_meet
          exact ⟨by rw [HOKV.out]; rfl, rfl⟩
        · have HOKV : Asd (okNode at_ x = true) := ⟨by rw [hval2]; simp [nameRule, hk, hemp, hem]⟩
          have f4 : (s.k == 0) = false := by simp [hk]
          have f5 : (s.k == 1) = false := by simp [hk]
          have f6 : (s.k == 2) = true := by simp [hk]
          clear hval2 hk hemp hnm
          go_wp2_with fail
          go_meet
          exact ⟨by rw [HOKV.out]; rfl, rfl⟩
      | false =>
        have hem2 : ¬ x.name.toList = [] := by intro h; rw [h] at hem; cases hem
        rcases hsk with hk | hk | hk
        · have HOKV : Asd (okNode at_ x = false) := ⟨by rw [hval2]; simp [nameRule, hk, hemp, hem]⟩
          have f4 : (s.k == 0) = true := by simp [hk]
          clear hval2 hk hemp hnm
          go_wp2_with fail
          go_meet
          exact ⟨by rw [HOKV.out]; rfl, rfl⟩
        · have HOKV : Asd (okNode at_ x = false) := ⟨by rw [hval2]; simp [nameRule, hk, hnm]⟩
          have f4 : (s.k == 0) = false := by simp [hk]
          have f5 : (s.k == 1) = true := by simp [hk]
          clear hval2 hk hemp hnm
          go_wp2_with (go_at_call 89; refine (named_any x.name _ HGK2.out HNS.out).mono ?_; rw [HNM.out]; rintro e w' ⟨rfl, rfl⟩)
          go_meet
          exact ⟨by rw [HOKV.out]; rfl, rfl⟩
        · have HOKV : Asd (okNode at_ x = false) := ⟨by rw [hval2]; simp [nameRule, hk, hemp, hem, hnm]⟩
          have f4 : (s.k == 0) = false := by simp [hk]
          have f5 : (s.k == 1) = false := by simp [hk]
          have f6 : (s.k == 2) = true := by simp [hk]
          clear hval2 hk hemp hnm
          go_wp2_with (go_at_call 89; refine (named_any x.name _ HGK2.out HNS.out).mono ?_; rw [HNM.out]; rintro e w' ⟨rfl, rfl⟩)
          go_meet
          exact ⟨by rw [HOKV.out]; rfl, rfl⟩
  case rest =>
    obtain ⟨rfl, rfl⟩ := hcut
    cases hok : okNode at_ x with
    | false =>
      have HOKV := Asd.mk hok; clear hok
      go_wp2_with fail
      go_ret
      exact hbad.out _ HOKV.out (((HT.out.alloc _).alloc _).drew)
    | true =>
      have HOKV := Asd.mk hok; clear hok
      have hg1 : gb < wd.heap.size := World.block_lt_of_cell? _ _ c0
      have hb1 : b < wd.heap.size := World.block_lt_of_cell? _ _ a0
      have f1 : wd.frozen? ⟨gb, 1, none⟩ = false := by
        rw [HT.out.frozen (a := ⟨gb, 1, none⟩) hgb id]; exact frozen_of HBui.out 1
      have hw1 : IntKind.i64.wrap ((i : Int) + 1) = (i : Int) + 1 := IntWalk.i64_in _ (by omega)
      go_wp2_with fail
      refine (kids_any x.op x.n x.name _ ⟨q1, q2⟩ (HOK.out.n i x HX.out).1).mono ?_
      rintro e w1 ⟨fv, rfl, hpf, hb1⟩
      have hsz : ((((wd.setCell ⟨gb, 1, none⟩ (.int .i64 ((i : Int) + 1))).alloc (.cells #[.int .i64 x.op, .int .u64 x.n, .string x.name] 68)).alloc (.cells #[.int .i64 s.a, .int .u64 s.l, .int .u64 s.m, .int .i64 s.k] 182)).alloc
          (.cells #[.int .i64 x.op, .int .u64 x.n, .string x.name, .slice none 0 0] 85)).drew.heap.size = wd.heap.size + 3 := by simp
      have hsz1 : wd.heap.size + 3 ≤ w1.heap.size := by have := hb1.size; rwa [hsz] at this
      have hbd : wd.heap[gb]? = some (.cells #[.slice (some ⟨b, off, none⟩) n c, .int .i64 (i : Int)] 141 (0, 0)) := (HT.out.block gb hgb id).trans HBui.out
      have HR : Asd (TreeRel w gb (wd.heap.size + 2) w1.heap.size (wd.heap.size + 3) fv (some ⟨b, off, none⟩) n c l i x depth w1 0 (i + 1) .nil [] none 0) := ⟨by
        refine { hk := ?_, hf := rfl, hbs := rfl, hj := by omega, hjn := by omega, h256 := by omega, blk := ?_, row := World.ownsRow_nil _ _ _ _, fo := rfl, bui := ?_, tch := ?_, low := Nat.le_refl _, pf := ?_, drop := rfl, vf := trivial, scan := fun st => rfl }
        · have := (HOK.out.n i x HX.out).1
          unfold kidCount; repeat (first | split | omega)
        · refine (hb1.block _ (by rw [hsz]; omega)).trans ?_
          have := heap_alloc_new (((wd.setCell ⟨gb, 1, none⟩ (.int .i64 ((i : Int) + 1))).alloc (.cells #[.int .i64 x.op, .int .u64 x.n, .string x.name] 68)).alloc (.cells #[.int .i64 s.a, .int .u64 s.l, .int .u64 s.m, .int .i64 s.k] 182)) (.cells #[.int .i64 x.op, .int .u64 x.n, .string x.name, .slice none 0 0] 85)
          rw [show ((((wd.setCell ⟨gb, 1, none⟩ (.int .i64 ((i : Int) + 1))).alloc (.cells #[.int .i64 x.op, .int .u64 x.n, .string x.name] 68)).alloc (.cells #[.int .i64 s.a, .int .u64 s.l, .int .u64 s.m, .int .i64 s.k] 182))).heap.size = wd.heap.size + 2 by simp] at this
          exact this
        · refine (hb1.block _ (by rw [hsz]; omega)).trans ?_
          have T : Tch (fun _ => False) (wd.setCell ⟨gb, 1, none⟩ (.int .i64 ((i : Int) + 1))) _ := ((((Tch.refl _ _).alloc (.cells #[.int .i64 x.op, .int .u64 x.n, .string x.name] 68)).alloc (.cells #[.int .i64 s.a, .int .u64 s.l, .int .u64 s.m, .int .i64 s.k] 182)).alloc
            (.cells #[.int .i64 x.op, .int .u64 x.n, .string x.name, .slice none 0 0] 85)).drew
          refine (T.block gb (by simp [World.setCell]; exact hg1) id).trans ?_
          have := heap_set hbd 1 (.int .i64 ((i : Int) + 1))
          rw [this]; rfl
        · have T2 : Tch (fun b => b = gb) w wd := HT.out.mono (fun _ _ h => h.elim)
          have T1 : Tch (fun b => b = gb) w _ := ((((T2.setCell (p := ⟨gb, 1, none⟩) (fun _ => rfl) (.int .i64 ((i : Int) + 1))).alloc (.cells #[.int .i64 x.op, .int .u64 x.n, .string x.name] 68)).alloc (.cells #[.int .i64 s.a, .int .u64 s.l, .int .u64 s.m, .int .i64 s.k] 182)).alloc
            (.cells #[.int .i64 x.op, .int .u64 x.n, .string x.name, .slice none 0 0] 85)).drew
          exact T1.trans (Tch.of_below _ hb1)
        · rw [hsz] at hpf; exact ⟨w1, rfl, hpf, Tch.refl _ _⟩⟩
      have hcnt : Asd (kidCount x ≤ 18446744073709551615) := ⟨by
        have := (HOK.out.n i x HX.out).2
        unfold kidCount; repeat (first | split | omega)⟩
      have HT1 : Asd (Tch (fun _ => False) w wd) := HT
      clear hpf hb1 hsz hbd c0 c1 a0 a1 a2 sh0 sh1 sh2 sh3
      go_wp2_with fail
      go_loopg [12] (n - (i + 1)) (fun g kv wr => ∃ (k j : Nat) (f : Fo) (bs : List Nat) (S : Option Addr) (cap : Nat), kv = .int .u64 (k : Int) ∧ j + g = n ∧ Asd (TreeRel w gb (wd.heap.size + 2) w1.heap.size (wd.heap.size + 3) fv (some ⟨b, off, none⟩) n c l i x depth wr k j f bs S cap))
      case atStart => exact ⟨0, i + 1, .nil, [], none, 0, rfl, by omega, HR⟩
      case round =>
        obtain ⟨k, j, f, bs, S, cap, rfl, hjg, HREL⟩ := hrel
        have hsz0 : w.heap.size ≤ wd.heap.size := HT1.out.size
        by_cases hkc : (k : Int) < kidCount x
        · have hkd : decide ((k : Int) < kidCount x) = true := by simpa using hkc
          have hw2 : IntKind.i64.wrap (depth + 1) = depth + 1 := IntWalk.i64_in _ (by omega)
          have hw3 : IntKind.u64.wrap ((k : Int) + 1) = (k : Int) + 1 := IntWalk.u64_in _ (by have := hcnt.out; omega)
          have HKC := Asd.mk hkc; clear hkc
          have HIH2 : Asd (Calls Tryd.prog 59 #[.pointer (some ⟨gb, 0, none⟩), .int .i64 (kidPlace x k), .int .i64 (depth + 1)] wr (TreePost wr gb (some ⟨b, off, none⟩) n c l j (kidPlace x k) (depth + 1))) := ⟨by
            refine HIH.out wr j (kidPlace x k) HREL.out.bui HREL.out.hjn ?_ (HGS.out.tch HREL.out.tch (by have := HGL.out; omega)) (HGK.out.tch HREL.out.tch (by have := HGL.out; omega)) ?_
            · exact HTN.out.tch HREL.out.tch (fun b' off' e hb' => by injection e with e; injection e with e _ _; have := HAB.out; omega)
            · unfold kidPlace; repeat (first | split | omega)⟩
          have hpl := treeRel_place HREL.out (by omega) (by omega)
          have hpoN : w.heap.size ≤ wd.heap.size + 2 := by omega
          have hp3 : wr.cell? ⟨wd.heap.size + 2, 3, none⟩ = some (.slice S k cap) := cell_of HREL.out.blk 3
          have hpf3 : wr.frozen? ⟨wd.heap.size + 2, 3, none⟩ = false := frozen_of HREL.out.blk 3
          --AFTER
          have hhl := hpl
          clear hhl
          rcases hpl with ⟨rfl, hp⟩ | ⟨rfl, hp⟩ | ⟨pb, pA, pn, pc, rfl, hp1, hp2, hp3, hp4, hp5⟩
          · have HP := Asd.mk (hp k); clear hp
            have HI3 : Calls Tryd.prog 59 #[.pointer (some ⟨gb, 0, none⟩), .int .i64 1, .int .i64 (depth + 1)] wr (TreePost wr gb (some ⟨b, off, none⟩) n c l j 1 (depth + 1)) := by have := HIH2.out; rw [HP.out] at this; exact this
            go_wp2_with fail
            refine (kids2_any _ _).mono ?_
            rintro e w' ⟨rfl, rfl⟩
            go_wp2_with fail
            refine HI3.mono ?_
            rintro e w2 ⟨j', hjj, hjn', hb2, ht2, hcase⟩
            have HT2 := Asd.mk ht2; have HB2 := Asd.mk hb2; clear ht2 hb2
            rcases hcase with ⟨rfl, hsc⟩ | ⟨p, y, ks, rfl, hfo, hdr, hoky, hkn, hvf, hm256, hsc⟩
            · have HSC := Asd.mk hsc; clear hsc
              go_wp2_with fail
              go_ret
              exact ⟨j', by have := HREL.out.hj; omega, hjn', HB2.out, HREL.out.tch.trans HT2.out, .inl ⟨rfl, fun st => by
                rw [drop_cons HX.out, scan_head hat h256 hd2 HOKV.out, HREL.out.scan, restW_step x _ k _ _ _ HKC.out, HP.out]; exact HSC.out _⟩⟩
            · have HNX := Asd.mk (And.intro hfo (And.intro hdr (And.intro hoky (And.intro hkn (And.intro hvf (And.intro hm256 hsc))))))
              clear hfo hdr hoky hkn hvf hm256 hsc
              have hpN : wd.heap.size + 2 ≠ gb := by omega
              have hp3 : w2.cell? ⟨wd.heap.size + 2, 3, none⟩ = some (.slice S k cap) := cell_of ((HT2.out.block _ (heap_lt HREL.out.blk) hpN).trans HREL.out.blk) 3
              have hpf3 : w2.frozen? ⟨wd.heap.size + 2, 3, none⟩ = false := frozen_of ((HT2.out.block _ (heap_lt HREL.out.blk) hpN).trans HREL.out.blk) 3
              have hpl2 : wd.heap.size + 2 < w2.heap.size := heap_lt ((HT2.out.block _ (heap_lt HREL.out.blk) hpN).trans HREL.out.blk)
              have hrow : w2.ownsRow w1.heap.size 69 1 (.slice S k cap) k (ptrs bs) := HT2.out.owns HREL.out.row (fun q hq => by have := (HREL.out.row.lt q hq).1; omega)
              have hk256 : k ≤ 256 := treeRel_small HREL.out HL.out hlt
              have hlow : w1.heap.size ≤ w2.heap.size := Nat.le_trans HREL.out.low HT2.out.size
              go_wp2_with (refine wpApp rfl (.tmp 145) (.tmp 147) 83 rfl w1.heap.size 69 1 8 _ Tryd.underlying83 node_info rfl (by decide) (by decide) _ k _ rfl (hrow.alloc _) w2.heap.size 1 1 [.pointer (some ⟨p, 0, none⟩)] _ _ rfl (heap_alloc_new w2 _) rfl (by simp [Value.oneCell']) (by decide) (by omega) (by simp; omega) ?_)
              intro g2 cap2 w3 hown2 T3 hat3 hlt3
              have HN := Asd.mk (treeRel_next HREL.out hgb hpoN (by omega) (by omega) HKC.out hjj hjn' HB2.out HT2.out HNX.out.1 HNX.out.2.1 (by rw [HP.out]; exact HNX.out.2.2.1) HNX.out.2.2.2.1 HNX.out.2.2.2.2.1 HNX.out.2.2.2.2.2.1 (fun st => by rw [HP.out]; exact HNX.out.2.2.2.2.2.2 st) hown2 T3 (by simpa using hat3) hlt3)
              have hjlt : j < j' := by
                have h1 := congrArg List.length HNX.out.2.1
                have h2 := HL.out
                simp only [List.length_drop, List.length_cons, List.length_append] at h1
                omega
              have hfz : w3.frozen? ⟨wd.heap.size + 1 + 1, 3, none⟩ = false := by
                rw [T3.frozen (a := ⟨wd.heap.size + 1 + 1, 3, none⟩) (by simp; omega) (fun hq => by have : w1.heap.size ≤ wd.heap.size + 2 := (hrow.lt _ hq).1; omega), World.frozen?_of_block (w := w2) (Below.heap_alloc _ _ _ hpl2)]; exact hpf3
              have hc3 : w3.cell? ⟨wd.heap.size + 1 + 1, 3, none⟩ = some (.slice S k cap) := by
                rw [T3.cell (a := ⟨wd.heap.size + 1 + 1, 3, none⟩) (by simp; omega) (fun hq => by have : w1.heap.size ≤ wd.heap.size + 2 := (hrow.lt _ hq).1; omega), World.cell?_of_block (w := w2) (Below.heap_alloc _ _ _ hpl2)]; exact hp3
              clear T3 hown2 hat3
              go_wp2_with fail
              go_roundg (n - j')
              case measure => omega
              case rel => exact ⟨k + 1, j', _, _, _, _, by go_num, by omega, HN⟩
          · have HP := Asd.mk (hp k); clear hp
            have HI3 : Calls Tryd.prog 59 #[.pointer (some ⟨gb, 0, none⟩), .int .i64 3, .int .i64 (depth + 1)] wr (TreePost wr gb (some ⟨b, off, none⟩) n c l j 3 (depth + 1)) := by have := HIH2.out; rw [HP.out] at this; exact this
            go_wp2_with fail
            refine (kids3_any _ _).mono ?_
            rintro e w' ⟨rfl, rfl⟩
            go_wp2_with fail
            refine HI3.mono ?_
            rintro e w2 ⟨j', hjj, hjn', hb2, ht2, hcase⟩
            have HT2 := Asd.mk ht2; have HB2 := Asd.mk hb2; clear ht2 hb2
            rcases hcase with ⟨rfl, hsc⟩ | ⟨p, y, ks, rfl, hfo, hdr, hoky, hkn, hvf, hm256, hsc⟩
            · have HSC := Asd.mk hsc; clear hsc
              go_wp2_with fail
              go_ret
              exact ⟨j', by have := HREL.out.hj; omega, hjn', HB2.out, HREL.out.tch.trans HT2.out, .inl ⟨rfl, fun st => by
                rw [drop_cons HX.out, scan_head hat h256 hd2 HOKV.out, HREL.out.scan, restW_step x _ k _ _ _ HKC.out, HP.out]; exact HSC.out _⟩⟩
            · have HNX := Asd.mk (And.intro hfo (And.intro hdr (And.intro hoky (And.intro hkn (And.intro hvf (And.intro hm256 hsc))))))
              clear hfo hdr hoky hkn hvf hm256 hsc
              have hpN : wd.heap.size + 2 ≠ gb := by omega
              have hp3 : w2.cell? ⟨wd.heap.size + 2, 3, none⟩ = some (.slice S k cap) := cell_of ((HT2.out.block _ (heap_lt HREL.out.blk) hpN).trans HREL.out.blk) 3
              have hpf3 : w2.frozen? ⟨wd.heap.size + 2, 3, none⟩ = false := frozen_of ((HT2.out.block _ (heap_lt HREL.out.blk) hpN).trans HREL.out.blk) 3
              have hpl2 : wd.heap.size + 2 < w2.heap.size := heap_lt ((HT2.out.block _ (heap_lt HREL.out.blk) hpN).trans HREL.out.blk)
              have hrow : w2.ownsRow w1.heap.size 69 1 (.slice S k cap) k (ptrs bs) := HT2.out.owns HREL.out.row (fun q hq => by have := (HREL.out.row.lt q hq).1; omega)
              have hk256 : k ≤ 256 := treeRel_small HREL.out HL.out hlt
              have hlow : w1.heap.size ≤ w2.heap.size := Nat.le_trans HREL.out.low HT2.out.size
              go_wp2_with (refine wpApp rfl (.tmp 145) (.tmp 147) 83 rfl w1.heap.size 69 1 8 _ Tryd.underlying83 node_info rfl (by decide) (by decide) _ k _ rfl (hrow.alloc _) w2.heap.size 1 1 [.pointer (some ⟨p, 0, none⟩)] _ _ rfl (heap_alloc_new w2 _) rfl (by simp [Value.oneCell']) (by decide) (by omega) (by simp; omega) ?_)
              intro g2 cap2 w3 hown2 T3 hat3 hlt3
              have HN := Asd.mk (treeRel_next HREL.out hgb hpoN (by omega) (by omega) HKC.out hjj hjn' HB2.out HT2.out HNX.out.1 HNX.out.2.1 (by rw [HP.out]; exact HNX.out.2.2.1) HNX.out.2.2.2.1 HNX.out.2.2.2.2.1 HNX.out.2.2.2.2.2.1 (fun st => by rw [HP.out]; exact HNX.out.2.2.2.2.2.2 st) hown2 T3 (by simpa using hat3) hlt3)
              have hjlt : j < j' := by
                have h1 := congrArg List.length HNX.out.2.1
                have h2 := HL.out
                simp only [List.length_drop, List.length_cons, List.length_append] at h1
                omega
              have hfz : w3.frozen? ⟨wd.heap.size + 1 + 1, 3, none⟩ = false := by
                rw [T3.frozen (a := ⟨wd.heap.size + 1 + 1, 3, none⟩) (by simp; omega) (fun hq => by have : w1.heap.size ≤ wd.heap.size + 2 := (hrow.lt _ hq).1; omega), World.frozen?_of_block (w := w2) (Below.heap_alloc _ _ _ hpl2)]; exact hpf3
              have hc3 : w3.cell? ⟨wd.heap.size + 1 + 1, 3, none⟩ = some (.slice S k cap) := by
                rw [T3.cell (a := ⟨wd.heap.size + 1 + 1, 3, none⟩) (by simp; omega) (fun hq => by have : w1.heap.size ≤ wd.heap.size + 2 := (hrow.lt _ hq).1; omega), World.cell?_of_block (w := w2) (Below.heap_alloc _ _ _ hpl2)]; exact hp3
              clear T3 hown2 hat3
              go_wp2_with fail
              go_roundg (n - j')
              case measure => omega
              case rel => exact ⟨k + 1, j', _, _, _, _, by go_num, by omega, HN⟩
          · have hkn : k < pn := by have := HKC.out; omega
            obtain ⟨kb, rfl, k1, k2, k3⟩ := hp5 k hkn
            obtain ⟨q, hq⟩ : ∃ q, kidPlace x k = q := ⟨_, rfl⟩
            rw [hq] at k3
            have HP := Asd.mk hq
            have HI3 : Calls Tryd.prog 59 #[.pointer (some ⟨gb, 0, none⟩), .int .i64 q, .int .i64 (depth + 1)] wr (TreePost wr gb (some ⟨b, off, none⟩) n c l j q (depth + 1)) := by have := HIH2.out; rw [HP.out] at this; exact this
            clear hp5 hq
            go_wp2_with fail
            refine (kids11_any k pb kb pn pc q _ hp3 hkn k3).mono ?_
            rintro e w' ⟨rfl, rfl⟩
            go_wp2_with fail
            refine HI3.mono ?_
            rintro e w2 ⟨j', hjj, hjn', hb2, ht2, hcase⟩
            have HT2 := Asd.mk ht2; have HB2 := Asd.mk hb2; clear ht2 hb2
            rcases hcase with ⟨rfl, hsc⟩ | ⟨p, y, ks, rfl, hfo, hdr, hoky, hkn, hvf, hm256, hsc⟩
            · have HSC := Asd.mk hsc; clear hsc
              go_wp2_with fail
              go_ret
              exact ⟨j', by have := HREL.out.hj; omega, hjn', HB2.out, HREL.out.tch.trans HT2.out, .inl ⟨rfl, fun st => by
                rw [drop_cons HX.out, scan_head hat h256 hd2 HOKV.out, HREL.out.scan, restW_step x _ k _ _ _ HKC.out, HP.out]; exact HSC.out _⟩⟩
            · have HNX := Asd.mk (And.intro hfo (And.intro hdr (And.intro hoky (And.intro hkn (And.intro hvf (And.intro hm256 hsc))))))
              clear hfo hdr hoky hkn hvf hm256 hsc
              have hpN : wd.heap.size + 2 ≠ gb := by omega
              have hp3 : w2.cell? ⟨wd.heap.size + 2, 3, none⟩ = some (.slice S k cap) := cell_of ((HT2.out.block _ (heap_lt HREL.out.blk) hpN).trans HREL.out.blk) 3
              have hpf3 : w2.frozen? ⟨wd.heap.size + 2, 3, none⟩ = false := frozen_of ((HT2.out.block _ (heap_lt HREL.out.blk) hpN).trans HREL.out.blk) 3
              have hpl2 : wd.heap.size + 2 < w2.heap.size := heap_lt ((HT2.out.block _ (heap_lt HREL.out.blk) hpN).trans HREL.out.blk)
              have hrow : w2.ownsRow w1.heap.size 69 1 (.slice S k cap) k (ptrs bs) := HT2.out.owns HREL.out.row (fun q hq => by have := (HREL.out.row.lt q hq).1; omega)
              have hk256 : k ≤ 256 := treeRel_small HREL.out HL.out hlt
              have hlow : w1.heap.size ≤ w2.heap.size := Nat.le_trans HREL.out.low HT2.out.size
              go_wp2_with (refine wpApp rfl (.tmp 145) (.tmp 147) 83 rfl w1.heap.size 69 1 8 _ Tryd.underlying83 node_info rfl (by decide) (by decide) _ k _ rfl (hrow.alloc _) w2.heap.size 1 1 [.pointer (some ⟨p, 0, none⟩)] _ _ rfl (heap_alloc_new w2 _) rfl (by simp [Value.oneCell']) (by decide) (by omega) (by simp; omega) ?_)
              intro g2 cap2 w3 hown2 T3 hat3 hlt3
              have HN := Asd.mk (treeRel_next HREL.out hgb hpoN (by omega) (by omega) HKC.out hjj hjn' HB2.out HT2.out HNX.out.1 HNX.out.2.1 (by rw [HP.out]; exact HNX.out.2.2.1) HNX.out.2.2.2.1 HNX.out.2.2.2.2.1 HNX.out.2.2.2.2.2.1 (fun st => by rw [HP.out]; exact HNX.out.2.2.2.2.2.2 st) hown2 T3 (by simpa using hat3) hlt3)
              have hjlt : j < j' := by
                have h1 := congrArg List.length HNX.out.2.1
                have h2 := HL.out
                simp only [List.length_drop, List.length_cons, List.length_append] at h1
                omega
              have hfz : w3.frozen? ⟨wd.heap.size + 1 + 1, 3, none⟩ = false := by
                rw [T3.frozen (a := ⟨wd.heap.size + 1 + 1, 3, none⟩) (by simp; omega) (fun hq => by have : w1.heap.size ≤ wd.heap.size + 2 := (hrow.lt _ hq).1; omega), World.frozen?_of_block (w := w2) (Below.heap_alloc _ _ _ hpl2)]; exact hpf3
              have hc3 : w3.cell? ⟨wd.heap.size + 1 + 1, 3, none⟩ = some (.slice S k cap) := by
                rw [T3.cell (a := ⟨wd.heap.size + 1 + 1, 3, none⟩) (by simp; omega) (fun hq => by have : w1.heap.size ≤ wd.heap.size + 2 := (hrow.lt _ hq).1; omega), World.cell?_of_block (w := w2) (Below.heap_alloc _ _ _ hpl2)]; exact hp3
              clear T3 hown2 hat3
              go_wp2_with fail
              go_roundg (n - j')
              case measure => omega
              case rel => exact ⟨k + 1, j', _, _, _, _, by go_num, by omega, HN⟩
        · have hkd : decide ((k : Int) < kidCount x) = false := by simpa using hkc
          have hke : (k : Int) = kidCount x := by have := HREL.out.hk; omega
          have HKE := Asd.mk hke; clear hke hkc
          go_wp2_with fail
          go_ret
          refine ⟨j, by have := HREL.out.hj; omega, HREL.out.hjn, HREL.out.bui, HREL.out.tch, .inr ⟨wd.heap.size + 2, x, f, rfl, ?_, ?_, HOKV.out, ?_, HREL.out.vf, HREL.out.h256, ?_⟩⟩
          · obtain ⟨A', c', he, _, _, hA0, hrd⟩ := owns_shape HREL.out.row
            injection he with e1 _ e3
            subst e1; subst e3
            refine ⟨wd.heap.size + 2, [], bs, rfl, ⟨⟨by omega, heap_lt HREL.out.blk⟩, cell_of HREL.out.blk 0, cell_of HREL.out.blk 1, cell_of HREL.out.blk 2, S, cap, ?_, ?_⟩, FoAt.mono ?_ HREL.out.fo, rfl⟩
            · rw [HREL.out.hbs]; exact cell_of HREL.out.blk 3
            · intro q p hp
              obtain ⟨g, rfl, h1, h2⟩ := hrd q (.pointer (some ⟨p, 0, none⟩)) (by simp [ptrs, hp])
              exact ⟨g, ⟨by omega, (HREL.out.row.lt g rfl).2⟩, rfl, h2⟩
            · rintro q ⟨q1, q2, _⟩; exact ⟨by omega, q2⟩
          · rw [drop_cons HX.out, HREL.out.drop]
          · rw [HREL.out.hf]; exact HKE.out
          · intro st
            rw [drop_cons HX.out, scan_head hat h256 hd2 HOKV.out, HREL.out.scan, HKE.out, restW_end, scan_zero]
end Go.Proofs.YtocbblafgjpbeaaDoor.Sp
