/- Walks: the reference: the wrong place of a list. -/
import Derived.Test.YtocbblafgjpbeaaDoorRef11
import Derived.Deep.RegionHeld3
namespace Go.Proofs.YtocbblafgjpbeaaDoor.Sp
open Go.RowKit
set_option linter.unusedVariables false
set_option linter.unusedSimpArgs false

def wrongI (l : List TN) : Int := match wrong l with | some i => (i : Int) | none => -1
structure StOk (st : List Want) (i : Nat) : Prop where
  v : ∀ x ∈ st, 0 ≤ x.left ∧ x.left ≤ 18446744073709551615 ∧ 0 ≤ x.depth ∧ x.depth ≤ 25 ∧ 0 ≤ x.place ∧ x.place ≤ 4
  n : st.length ≤ 1 + 3 * i
theorem scan_at {l : List TN} {i : Nat} {x : TN} (hx : l[i]? = some x) (st : List Want) : scan (l.drop i) i st = match pop st with
    | [] => some i
    | w :: st' => if i ≥ 256 ∨ w.depth > 24 ∨ okNode w.place x = false then some i else scan (l.drop (i + 1)) (i + 1) (wants x (w.depth + 1) ++ ⟨w.place, w.depth, w.left - 1⟩ :: st') := by
  rw [drop_cons hx, scan]
  cases pop st <;> rfl
theorem wpHeld_heavyW {P : Program} {ops : Array Oper} {Q : Exit → Act → World → Prop} {S : World → Prop} {n k : Nat} {o : Oper} {rest : List Oper} {a : Act} {w : World} (hk : decide (k < n) = true) (hl : lightOp o.op = false) (hw : Region.wanted o (yielded ops a.tmps) = true)
    (h : ∀ K : Act → World → Prop, (∀ a w, S w → wpHeld P ops Q S n (k + 1) rest a w → K a w) → o.wp P a w K Q) : wpHeld P ops Q S n k (o :: rest) a w := by
  unfold wpHeld
  rw [if_pos (of_decide_eq_true hk), if_neg (by rw [hl]; simp), if_pos hw]
  exact h _ fun a w h1 h2 => ⟨h1, h2⟩
theorem StAt.get {lo : Nat} {w : World} {A : Option Addr} {c m : Nat} {st : List Want} (h : StAt lo w (.slice A m c) st) {j : Nat} {v : Want} (hj : st.reverse[j]? = some v) :
    ∃ q, A = some ⟨q, 0, none⟩ ∧ w.cell? ⟨q, j * 3 + 2, none⟩ = some (.int .u64 v.left) := by
  obtain ⟨A', c', he, _, _, _, hr⟩ := owns_shape h
  injection he with he1 _ _
  subst he1
  obtain ⟨q, h1, _, h2⟩ := hr _ _ (wantCells_get _ j v hj).2.2
  exact ⟨q, h1, h2⟩
theorem wants_ok {x : TN} {d : Int} (hn : 0 ≤ x.n ∧ x.n ≤ 18446744073709551615) (hd : 0 ≤ d ∧ d ≤ 25) : ∀ v ∈ wants x d, 0 ≤ v.left ∧ v.left ≤ 18446744073709551615 ∧ 0 ≤ v.depth ∧ v.depth ≤ 25 ∧ 0 ≤ v.place ∧ v.place ≤ 4 := by
  unfold wants
  repeat' split
  all_goals simp
  all_goals omega
def badV (v : Want) (x : TN) : Bool := !(decide (v.depth ≤ 24) && okNode v.place x)
theorem wrongI_some {l : List TN} {i : Nat} (h : wrong l = some i) : wrongI l = (i : Int) := by simp [wrongI, h]
set_option maxRecDepth 100000 in
set_option maxHeartbeats 3200000 in
theorem rwrong_any (A : Option Addr) (n c : Nat) (l : List TN) (w : World) (hl : l.length = n) (hn : n ≤ 4611686018427387904) (hA : TNsAt w A l) (hok : TNsOk l) (hk : GRKw w) :
    Calls Tryd.prog 30 #[.slice A n c] w fun e w' => e = .returned (.int .i64 (wrongI l)) ∧ Below w.heap.size w w' := by
  have HA := Asd.mk hA; have HL := Asd.mk hl; have HOK := Asd.mk hok; have HK := Asd.mk hk
  have hkl : 6 < w.heap.size := by obtain ⟨fr, h⟩ := hk; exact heap_lt h
  clear hA hl hok hk
  have H0 : Asd (StAt w.heap.size (w.alloc (.cells (wantCells [⟨0, 1, 1⟩]).toArray 135)) (.slice (some ⟨w.heap.size, 0, none⟩) 1 1) [⟨0, 1, 1⟩]) := ⟨by
    have := World.ownsRow_lit (base := w.heap.size) (e := 135) (size := 3) w (wantCells [⟨0, 1, 1⟩]).toArray 1 (Nat.le_refl _) (by decide) (by rfl)
    exact this⟩
  go_enter Tryd.func30, Tryd.ntmps30
  go_wp2_with fail
  go_loopw [3, 4] (fun ov iv wr => ∃ (i : Nat) (st : List Want) (S : Option Addr) (cap : Nat), iv = .int .i64 (i : Int) ∧ i ≤ n ∧ i ≤ 256 ∧ ov = .slice S st.length cap ∧ Asd (StAt w.heap.size wr (.slice S st.length cap) st) ∧ Asd (Below w.heap.size w wr) ∧ Asd (wrong l = scan (l.drop i) i st) ∧ Asd (StOk st i)) (fun _ iv _ => n - (intOf iv).toNat)
  case atStart => exact ⟨0, [⟨0, 1, 1⟩], some ⟨w.heap.size, 0, none⟩, 1, rfl, Nat.zero_le _, by omega, rfl, H0, ⟨(Below.refl _ _).alloc (Nat.le_refl _) _⟩, ⟨rfl⟩, ⟨⟨by simp, by simp⟩⟩⟩
  case round =>
    obtain ⟨i, st, S, cap, rfl, hin, hi256, rfl, HST, HB, HSC, HSO⟩ := hrel
    have hi0 : (0 : Int) ≤ (i : Int) := Int.natCast_nonneg _
    by_cases hlt : i < n
    · have hi1 : (i : Int) < (n : Int) := by omega
      obtain ⟨x, hx⟩ : ∃ x, l[i]? = some x := ⟨_, List.getElem?_eq_getElem (by rw [HL.out]; exact hlt)⟩
      obtain ⟨xb, xo, hTe, hxb, a1, a2, a3⟩ := (HA.out.below HB.out) i x hx
      have hxl : xb < w.heap.size := by
        obtain ⟨xb', xo', hTe', hxb', _⟩ := HA.out i x hx
        rw [hTe] at hTe'; injection hTe' with h; injection h with h; omega
      have HX := Asd.mk hx
      clear hx
      obtain ⟨wo, hwo⟩ : ∃ wo : World, wo = wr := ⟨_, rfl⟩
      subst hwo
      go_wp2_with fail
      go_loop [3] (fun ov => ∃ (st' : List Want), ov = .slice S st'.length cap ∧ Asd (StAt w.heap.size wo (.slice S st'.length cap) st') ∧ Asd (pop st' = pop st) ∧ Asd (∃ p, st = p ++ st')) (fun ov => match ov with | .slice _ m _ => m | _ => 0)
      case atStart => exact ⟨st, rfl, HST, ⟨rfl⟩, ⟨[], rfl⟩⟩
      case round =>
        obtain ⟨st', rfl, HST', HPOP, HSUF⟩ := hrel
        cases st' with
        | nil =>
          have HW : Asd (wrongI l = (i : Int)) := ⟨wrongI_some (by rw [HSC.out, scan_at HX.out, ← HPOP.out]; rfl)⟩
          go_wp2_with fail
          go_ret
          exact ⟨by rw [HW.out]; rfl, HB.out⟩
        | cons v r =>
          obtain ⟨q, rfl, hlo, hql, t1, t2, t3, hfr⟩ := HST'.out.top
          have HFR := Asd.mk hfr; clear hfr
          have hwr : IntKind.i64.wrap (r.length : Int) = (r.length : Int) := IntWalk.i64_in _ (by
            have := HST'.out.shape
            obtain ⟨_, _, _, _, h⟩ := this
            have h2 := HSO.out.n
            obtain ⟨p, hp⟩ := HSUF.out
            have := congrArg List.length hp
            simp at this
            omega)
          have hr0 : (0 : Int) ≤ (r.length : Int) := Int.natCast_nonneg _
          have hcap : (r.length : Int) ≤ (cap : Int) := by
            obtain ⟨_, _, he, h, _⟩ := HST'.out.shape
            injection he with _ _ he
            subst he
            simp at h; omega
          simp only [List.length_cons]
          by_cases hz : v.left = 0
          · have hb1 : (v.left == 0) = true := by simpa using hz
            have HP2 : Asd (pop r = pop st) := ⟨by rw [← HPOP.out]; simp [pop, hz]⟩
            have HS2 : Asd (∃ p, st = p ++ r) := ⟨by obtain ⟨p, hp⟩ := HSUF.out; exact ⟨p ++ [v], by simp [hp]⟩⟩
            clear hz
            go_wp2_with fail
            go_round
            case rel => exact ⟨r, rfl, ⟨HST'.out.pop⟩, HP2, HS2⟩
            case measure => simp
          · have hb1 : (v.left == 0) = false := by simpa using hz
            have HPV : Asd (pop st = v :: r) := ⟨by rw [← HPOP.out]; simp [pop, hz]⟩
            have hvok : 0 ≤ v.left ∧ v.left ≤ 18446744073709551615 ∧ 0 ≤ v.depth ∧ v.depth ≤ 25 ∧ 0 ≤ v.place ∧ v.place ≤ 4 := by
              obtain ⟨p, hp⟩ := HSUF.out
              exact HSO.out.v v (by rw [hp]; simp)
            have hrn : r.length + 1 ≤ 1 + 3 * i := by
              obtain ⟨p, hp⟩ := HSUF.out
              have h1 := congrArg List.length hp
              have h2 := HSO.out.n
              simp at h1
              omega
            have HRV : Asd (∀ x ∈ r, 0 ≤ x.left ∧ x.left ≤ 18446744073709551615 ∧ 0 ≤ x.depth ∧ x.depth ≤ 25 ∧ 0 ≤ x.place ∧ x.place ≤ 4) := ⟨fun x hx => by
              obtain ⟨p, hp⟩ := HSUF.out
              exact HSO.out.v x (by rw [hp]; simp [hx])⟩
            have hvl : 1 ≤ v.left := by omega
            clear hz
            by_cases h256 : 256 ≤ i
            · have hb2 : (256 : Int) ≤ (i : Int) := by omega
              have HW : Asd (wrongI l = (i : Int)) := ⟨wrongI_some (by rw [HSC.out, scan_at HX.out, HPV.out]; simp only; rw [if_pos (.inl h256)])⟩
              go_wp2_with fail
              go_ret
              exact ⟨by rw [HW.out]; rfl, HB.out⟩
            · have hb2 : ¬ (256 : Int) ≤ (i : Int) := by omega
              have hwl : IntKind.u64.wrap (v.left - 1) = v.left - 1 := IntWalk.u64_in _ (by omega)
              have hne : q < wo.heap.size := hql
              have fr2 := HFR.out (r.length * 3 + 2)
              have H1 : Asd (StAt w.heap.size ((wo.setCell ⟨q, r.length * 3 + 2, none⟩ (.int .u64 (v.left - 1))).alloc (.cells #[.int .i64 v.place, .int .i64 v.depth, .int .u64 v.left] 135)) (.slice (some ⟨q, 0, none⟩) (r.length + 1) cap) (⟨v.place, v.depth, v.left - 1⟩ :: r)) := ⟨(HST'.out.less _).below ((Below.refl _ _).alloc (Nat.le_refl _) _)⟩
              have HB1 : Asd (Below w.heap.size w ((wo.setCell ⟨q, r.length * 3 + 2, none⟩ (.int .u64 (v.left - 1))).alloc (.cells #[.int .i64 v.place, .int .i64 v.depth, .int .u64 v.left] 135))) := ⟨(HB.out.setCell hlo _).alloc (by have := HB.out.size; simp; omega) _⟩
              have p0 : ((wo.setCell ⟨q, r.length * 3 + 2, none⟩ (.int .u64 (v.left - 1))).alloc (.cells #[.int .i64 v.place, .int .i64 v.depth, .int .u64 v.left] 135)).cell? ⟨wo.heap.size, 0, none⟩ = some (.int .i64 v.place) := by
                have := heap_alloc_new (wo.setCell ⟨q, r.length * 3 + 2, none⟩ (.int .u64 (v.left - 1))) (.cells #[.int .i64 v.place, .int .i64 v.depth, .int .u64 v.left] 135)
                simp only [World.size_setCell] at this
                exact cell_of this 0
              have p1 : ((wo.setCell ⟨q, r.length * 3 + 2, none⟩ (.int .u64 (v.left - 1))).alloc (.cells #[.int .i64 v.place, .int .i64 v.depth, .int .u64 v.left] 135)).cell? ⟨wo.heap.size, 1, none⟩ = some (.int .i64 v.depth) := by
                have := heap_alloc_new (wo.setCell ⟨q, r.length * 3 + 2, none⟩ (.int .u64 (v.left - 1))) (.cells #[.int .i64 v.place, .int .i64 v.depth, .int .u64 v.left] 135)
                simp only [World.size_setCell] at this
                exact cell_of this 1
              go_upto_region 11 with fail
              clear a1 a2 a3 t1 t2 t3 fr2
              generalize (wo.setCell ⟨q, r.length * 3 + 2, none⟩ (.int .u64 (v.left - 1))).alloc (.cells #[.int .i64 v.place, .int .i64 v.depth, .int .u64 v.left] 135) = w1 at *
              obtain ⟨xb', xo', hTe', hxb', a1, a2, a3⟩ := (HA.out.below HB1.out) i x HX.out
              subst hTe
              injection hTe' with hTe'
              injection hTe' with hT1 hT2 _
              subst hT1; subst hT2
              have HK1 : Asd (GRKw w1) := ⟨by
                obtain ⟨fr, h⟩ := HK.out
                exact ⟨fr, (HB1.out.block _ hkl).trans h⟩⟩
              go_cut [79] (fun b wx => b = .bool (badV v x) ∧ Below w1.heap.size w1 wx)
              case first =>
                cases h24 : decide ((24 : Int) < v.depth) with
                | true =>
                  have HBV : Asd (badV v x = true) := ⟨by
                    have : decide (v.depth ≤ 24) = false := by simp at h24 ⊢; omega
                    simp [badV, this]⟩
                  go_wp2_with fail
                  go_quiet (fail)
                  go_wp2_with fail
                  go_meet
                  exact ⟨by rw [HBV.out], (Below.refl _ _).drewN _⟩
                | false =>
                  have hd24 : decide (v.depth ≤ 24) = true := by simp at h24 ⊢; omega
                  cases hp : (opPlace x.op != v.place) with
                  | true =>
                    have HBV : Asd (badV v x = true) := ⟨by
                      have : decide (opPlace x.op = v.place) = false := by simpa using hp
                      simp [badV, okNode, this]⟩
                    go_wp2_with fail
                    go_quiet ((go_at_call 56; exact Calls.quiet_of_same (rkind_any x.op _)))
                    go_wp2_with fail
                    go_meet
                    exact ⟨by rw [HBV.out], (Below.refl _ _).drewN _⟩
                  | false =>
                    have hpe : opPlace x.op = v.place := by simpa using hp
                    have ho : 1 ≤ x.op ∧ x.op ≤ 20 := by
                      have := hvok.2.2.2.2.1
                      rcases opPlace_cases hpe this with h | h | h | h | h <;> omega
                    have HBV : Asd (badV v x = !fieldsOk x) := ⟨by
                      have h1 : decide (opPlace x.op = v.place) = true := by simpa using hpe
                      have h2 : decide (0 ≤ x.n) = true := by simpa using (HOK.out.n i x HX.out).1
                      simp only [badV, okNode, hd24, h1, h2]; simp⟩
                    have HNS := Asd.mk (HOK.out.s i x HX.out)
                    clear hpe
                    have HB0 : Below w1.heap.size w1 w1.drew := (Below.refl _ _).drewN 1
                    have HCF : Asd (Calls Tryd.prog 57 #[.agg #[.int .i64 x.op, .int .u64 x.n, .string x.name]] w1.drew fun e w' => e = .returned (.bool (fieldsOk x)) ∧ w'.cell? ⟨wo.heap.size, 0, none⟩ = some (.int .i64 v.place) ∧ w'.cell? ⟨wo.heap.size, 1, none⟩ = some (.int .i64 v.depth) ∧ w'.cell? ⟨xb, xo + i * 3, none⟩ = some (.int .i64 x.op) ∧ w'.cell? ⟨xb, xo + i * 3 + 1, none⟩ = some (.int .u64 x.n) ∧ w'.cell? ⟨xb, xo + i * 3 + 2, none⟩ = some (.string x.name) ∧ Below w1.heap.size w1 w') := ⟨by
                      refine (rfields_any x.op x.n x.name w1.drew ho (show GRKw w1.drew from HK1.out) HNS.out).mono ?_
                      rintro e w' ⟨h1, hB⟩
                      exact ⟨h1, (hB.cell (p := ⟨wo.heap.size, 0, none⟩) (World.block_lt_of_cell? w1 _ p0)).trans p0, (hB.cell (p := ⟨wo.heap.size, 1, none⟩) (World.block_lt_of_cell? w1 _ p1)).trans p1, (hB.cell (p := ⟨xb, xo + i * 3, none⟩) hxb').trans a1,
                        (hB.cell (p := ⟨xb, xo + i * 3 + 1, none⟩) hxb').trans a2, (hB.cell (p := ⟨xb, xo + i * 3 + 2, none⟩) hxb').trans a3, HB0.trans hB⟩⟩
                    go_region_held3 (fun w' => w'.cell? ⟨wo.heap.size, 0, none⟩ = some (.int .i64 v.place) ∧ w'.cell? ⟨wo.heap.size, 1, none⟩ = some (.int .i64 v.depth) ∧ w'.cell? ⟨xb, xo + i * 3, none⟩ = some (.int .i64 x.op) ∧ w'.cell? ⟨xb, xo + i * 3 + 1, none⟩ = some (.int .u64 x.n) ∧ w'.cell? ⟨xb, xo + i * 3 + 2, none⟩ = some (.string x.name) ∧ Below w1.heap.size w1 w')
                      (first | exact ⟨p0, p1, a1, a2, a3, HB0⟩ | exact ⟨k0, k1, k2, k3, k4, k5⟩)
                      (first
                        | (go_at_call 56; refine (rkind_any x.op _).mono ?_; rintro e w' ⟨rfl, rfl⟩)
                        | (go_at_call 57; refine HCF.out.mono ?_; rintro e w' ⟨rfl, k0, k1, k2, k3, k4, k5⟩))
                    go_wp2_with fail
                    go_meet
                    exact ⟨by rw [HBV.out], k5⟩
              case rest =>
                obtain ⟨rfl, hBc⟩ := hcut
                have HBC := Asd.mk hBc
                have HB2 : Asd (Below w.heap.size w wc) := ⟨HB1.out.trans (hBc.mono HB1.out.size)⟩
                have H2 : Asd (StAt w.heap.size wc (.slice (some ⟨q, 0, none⟩) (r.length + 1) cap) (⟨v.place, v.depth, v.left - 1⟩ :: r)) := ⟨H1.out.below hBc⟩
                have hq1 : q < w1.heap.size := by
                  obtain ⟨q', hq', _, h, _⟩ := H1.out.top
                  injection hq' with hq'; injection hq' with hq' _ _; omega
                have d1 : wc.cell? ⟨wo.heap.size, 1, none⟩ = some (.int .i64 v.depth) := (hBc.cell (p := ⟨wo.heap.size, 1, none⟩) (World.block_lt_of_cell? w1 _ p1)).trans p1
                have b1 := (hBc.cell (p := ⟨xb, xo + i * 3, none⟩) hxb').trans a1
                have b2 := (hBc.cell (p := ⟨xb, xo + i * 3 + 1, none⟩) hxb').trans a2
                have b3 := (hBc.cell (p := ⟨xb, xo + i * 3 + 2, none⟩) hxb').trans a3
                have hscan := scan_at HX.out st
                rw [HPV.out] at hscan
                simp only at hscan
                clear hBc p0 p1 a1 a2 a3
                cases hbv : badV v x with
                | true =>
                  have HW : Asd (wrongI l = (i : Int)) := ⟨wrongI_some (by
                    rw [HSC.out, hscan, if_pos]
                    by_cases h : v.depth ≤ 24
                    · exact .inr (.inr (by simpa [badV, h] using hbv))
                    · exact .inr (.inl (by omega)))⟩
                  clear hscan hbv
                  go_wp2_with fail
                  go_ret
                  exact ⟨by rw [HW.out]; rfl, HB2.out⟩
                | false =>
                  have hgood : v.depth ≤ 24 ∧ okNode v.place x = true := by simpa [badV] using hbv
                  have HSN : Asd (wrong l = scan (l.drop (i + 1)) (i + 1) (wants x (v.depth + 1) ++ ⟨v.place, v.depth, v.left - 1⟩ :: r)) := ⟨by
                    rw [HSC.out, hscan, if_neg]
                    rintro (h | h | h)
                    · omega
                    · omega
                    · rw [hgood.2] at h; cases h⟩
                  have ho : 1 ≤ x.op ∧ x.op ≤ 20 := okNode_op hvok.2.2.2.2.1 hgood.2
                  have hdd : v.depth ≤ 24 := hgood.1
                  have HWK : Asd (∀ y ∈ wants x (v.depth + 1), 0 ≤ y.left ∧ y.left ≤ 18446744073709551615 ∧ 0 ≤ y.depth ∧ y.depth ≤ 25 ∧ 0 ≤ y.place ∧ y.place ≤ 4) := ⟨wants_ok (HOK.out.n i x HX.out) ⟨by omega, by omega⟩⟩
                  have hwl3 : (wants x (v.depth + 1)).length ≤ 3 := wants_len x _
                  have HPR : Asd (Calls Tryd.prog 58 #[.agg #[.int .i64 x.op, .int .u64 x.n, .string x.name], .int .i64 (v.depth + 1)] wc.drew (PartsPost x (v.depth + 1) wc.drew)) := ⟨rparts_any x.op x.n x.name (v.depth + 1) wc.drew ho⟩
                  have hwd : IntKind.i64.wrap (v.depth + 1) = v.depth + 1 := IntWalk.i64_in _ (by omega)
                  clear hscan hbv hgood ho
                  go_wp2_with fail
                  refine wp_region_heldB (n := 7) (fun w' => w'.cell? ⟨wo.heap.size, 1, none⟩ = some (.int .i64 v.depth) ∧ w'.cell? ⟨xb, xo + i * 3, none⟩ = some (.int .i64 x.op) ∧ w'.cell? ⟨xb, xo + i * 3 + 1, none⟩ = some (.int .u64 x.n) ∧ w'.cell? ⟨xb, xo + i * 3 + 2, none⟩ = some (.string x.name)) (by kernel_rfl) (by kernel_rfl) ?_ ⟨d1, b1, b2, b3⟩ ?_
                  · intro _ _ d _ _ h; cases d <;> exact h
                  repeat (apply wpHeld_light rfl rfl rfl
                          · (rintro w' ⟨s1, s2, s3, s4⟩; go_simp; first | done | rfl)
                          simp only [Act.put, List.setIfInBounds_toArray, List.set_cons_zero, List.set_cons_succ])
                  refine wpHeld_tail rfl ?_
                  go_wp2_with fail
                  refine HPR.out.mono ?_
                  rintro e w2 ⟨A2, c2, rfl, hW, hBp, hfr⟩
                  have HB3 : Asd (Below w.heap.size w w2) := ⟨(HB2.out.drewN 1).trans (hBp.mono HB2.out.size)⟩
                  have H3 : Asd (StAt w.heap.size w2 (.slice (some ⟨q, 0, none⟩) (r.length + 1) cap) (⟨v.place, v.depth, v.left - 1⟩ :: r)) := ⟨StAt.below (w := wc.drew) H2.out hBp⟩
                  have hqc : q < wc.heap.size := Nat.lt_of_lt_of_le hq1 HBC.out.size
                  have HOW : Asd (∀ a, A2 = some a → (Value.slice (some ⟨q, 0, none⟩) (r.length + 1) cap).ownBlock ≠ some a.block) := ⟨fun a ha he => by
                    have h1 := hfr a ha
                    have h2 : q = a.block := by simpa [Value.ownBlock] using he
                    have h3 : wc.heap.size ≤ a.block := h1
                    omega⟩
                  have HW := Asd.mk hW
                  clear hW hBp hfr HPR HBC H2 H1 HB2 HB1 d1 b1 b2 b3
                  generalize hws : wants x (v.depth + 1) = ws at *
                  have HWS := Asd.mk hws; clear hws
                  go_wp2_with fail
                  go_loopw [3, 7] (fun ov kv wr => ∃ (k : Nat) (S2 : Option Addr) (cap2 : Nat), kv = .int .i64 (k : Int) ∧ k ≤ ws.length ∧ ov = .slice S2 (r.length + 1 + k) cap2 ∧ Asd (wr.ownsRow w.heap.size 135 3 (.slice S2 (r.length + 1 + k) cap2) (r.length + 1 + k) (wantCells ((⟨v.place, v.depth, v.left - 1⟩ :: r : List Want).reverse ++ ws.reverse.take k))) ∧ Asd (Below w.heap.size w wr) ∧ Asd (WantsAt wr A2 ws.reverse) ∧ Asd (∀ a, A2 = some a → (Value.slice S2 (r.length + 1 + k) cap2).ownBlock ≠ some a.block)) (fun _ kv _ => ws.length - (intOf kv).toNat)
                  case atStart => exact ⟨0, some ⟨q, 0, none⟩, cap, rfl, Nat.zero_le _, rfl, ⟨by have := H3.out; unfold StAt at this; simpa using this⟩, HB3, HW, HOW⟩
                  case round =>
                    obtain ⟨k, S2, cap2, rfl, hk, rfl, HO, HBx, HWx, HOx⟩ := hrel
                    have hk0 : (0 : Int) ≤ (k : Int) := Int.natCast_nonneg _
                    by_cases hltk : k < ws.length
                    · obtain ⟨y, hy⟩ : ∃ y, ws.reverse[k]? = some y := ⟨_, List.getElem?_eq_getElem (by simpa using hltk)⟩
                      obtain ⟨pb, rfl, hpb, y1, y2, y3⟩ := HWx.out k y hy
                      have hk1 : (k : Int) < (ws.length : Int) := by omega
                      have HY := Asd.mk hy; clear hy
                      have hlow : w.heap.size ≤ wr.heap.size := HBx.out.size
                      go_wp2_with (refine wpApp rfl (.tmp 95) (.tmp 100) 136 rfl w.heap.size 135 3 24 _ Tryd.underlying136 want_info rfl (by decide) (by decide) _ (r.length + 1 + k) _ rfl (HO.out.alloc _) wr.heap.size 1 1 (Want.cells y) _ _ rfl (heap_alloc_new wr _) rfl (by simp [Want.cells, Value.oneCell']) (by decide) (by omega) (by simp; omega) ?_)
                      intro g2 cap3 w4 ho hT hq2 hlt4
                      have HO2 : Asd (w4.ownsRow w.heap.size 135 3 (.slice (some ⟨g2, 0, none⟩) (r.length + 1 + (k + 1)) cap3) (r.length + 1 + (k + 1)) (wantCells ((⟨v.place, v.depth, v.left - 1⟩ :: r : List Want).reverse ++ ws.reverse.take (k + 1)))) := ⟨by
                        rw [take_get' HY.out, ← List.append_assoc, wantCells_append]
                        rw [show r.length + 1 + (k + 1) = r.length + 1 + k + 1 by omega]
                        simpa [wantCells] using ho⟩
                      have HB4 : Asd (Below w.heap.size w w4) := ⟨(HBx.out.alloc hlow _).trans (hT.below (B := w.heap.size) (fun i hi => (HO.out.lt i hi).1) (by simp; omega))⟩
                      have HT4 : Tch (fun i => (Value.slice S2 (r.length + 1 + k) cap2).ownBlock = some i) wr w4 := ((Tch.refl _ _).alloc _).trans hT
                      have HW4 : Asd (WantsAt w4 (some ⟨pb, 0, none⟩) ws.reverse) := ⟨fun j z hj => by
                        obtain ⟨b', h1, h2, h3, h4, h5⟩ := HWx.out j z hj
                        injection h1 with h1
                        injection h1 with h1 _ _
                        subst h1
                        have hno := HOx.out _ rfl
                        exact ⟨pb, rfl, Nat.lt_of_lt_of_le h2 HT4.size, HT4.cell_some h3 hno, HT4.cell_some h4 hno, HT4.cell_some h5 hno⟩⟩
                      have HO4 : Asd (∀ a, (some (⟨pb, 0, none⟩ : Addr)) = some a → (Value.slice (some ⟨g2, 0, none⟩) (r.length + 1 + (k + 1)) cap3).ownBlock ≠ some a.block) := ⟨fun a ha he => by
                        injection ha with ha
                        subst ha
                        have he : g2 = pb := by simpa [Value.ownBlock] using he
                        subst he
                        rcases hq2 with hq2 | hq2
                        · exact HOx.out _ rfl hq2
                        · first | omega | (simp at hq2; omega)⟩
                      clear ho hT hq2 hlt4 HT4
                      go_wp2_with fail
                      go_roundw
                      case rel => exact ⟨k + 1, some ⟨g2, 0, none⟩, cap3, by go_num, hltk, rfl, HO2, HB4, HW4, HO4⟩
                      case measure => simp [intOf]; omega
                    · have hke : k = ws.length := by omega
                      subst hke
                      have hlen : (ws ++ (⟨v.place, v.depth, v.left - 1⟩ :: r)).length = r.length + 1 + ws.length := by simp; omega
                      have HFIN : Asd (StAt w.heap.size wr (.slice S2 (ws ++ (⟨v.place, v.depth, v.left - 1⟩ :: r)).length cap2) (ws ++ (⟨v.place, v.depth, v.left - 1⟩ :: r))) := ⟨by
                        have h1 := HO.out
                        rw [List.take_of_length_le (by simp)] at h1
                        unfold StAt
                        rw [hlen, List.reverse_append]
                        exact h1⟩
                      have HSO2 : Asd (StOk (ws ++ (⟨v.place, v.depth, v.left - 1⟩ :: r)) (i + 1)) := ⟨⟨by
                        intro y hy
                        rcases List.mem_append.1 hy with hy | hy
                        · exact HWK.out y hy
                        · rcases List.mem_cons.1 hy with rfl | hy
                          · exact ⟨by simp; omega, by simp; omega, hvok.2.2.1, hvok.2.2.2.1, hvok.2.2.2.2.1, hvok.2.2.2.2.2⟩
                          · exact HRV.out y hy, by rw [hlen]; omega⟩⟩
                      have hk1 : ¬ (ws.length : Int) < (ws.length : Int) := by omega
                      have HLEN := Asd.mk hlen; clear hlen
                      go_wp2_with fail
                      go_roundw
                      case rel => exact ⟨i + 1, _, S2, cap2, by go_num, by omega, by omega, by rw [HLEN.out], HFIN, HBx, HSN, HSO2⟩
                      case measure => simp [intOf]; omega
    · have hin' : i = n := by omega
      have hnl : ¬ (i : Int) < (n : Int) := by omega
      have hstl : st.length ≤ 1000 := by have := HSO.out.n; omega
      have HWN : Asd (wrong l = scan [] n st) := ⟨by rw [HSC.out, List.drop_of_length_le (by rw [HL.out]; omega), hin']⟩
      have hrl : st.reverse.length = st.length := by simp
      have HRL := Asd.mk hrl; clear hrl
      go_wp2_with fail
      go_loop [8] (fun kv => ∃ k : Nat, kv = .int .i64 (k : Int) ∧ k ≤ st.length ∧ Asd (∀ (j : Nat) (v : Want), j < k → st.reverse[j]? = some v → v.left = 0)) (fun kv => st.length - (intOf kv).toNat)
      case atStart => exact ⟨0, rfl, Nat.zero_le _, ⟨fun j v h => by omega⟩⟩
      case round =>
        obtain ⟨k, rfl, hk, HZ⟩ := hrel
        have hk0 : (0 : Int) ≤ (k : Int) := Int.natCast_nonneg _
        by_cases hltk : k < st.length
        · obtain ⟨v, hv⟩ : ∃ v, st.reverse[k]? = some v := ⟨_, List.getElem?_eq_getElem (by rw [HRL.out]; exact hltk)⟩
          obtain ⟨q, rfl, t3⟩ := HST.out.get hv
          have hk1 : (k : Int) < (st.length : Int) := by omega
          have HVV := Asd.mk hv
          have hvm : v ∈ st := by have := List.mem_of_getElem? hv; simpa using this
          have hv0 : 0 ≤ v.left := (HSO.out.v v hvm).1
          have HVM := Asd.mk hvm
          clear hv hvm
          by_cases hz : 0 < v.left
          · have HW : Asd (wrongI l = (n : Int)) := ⟨wrongI_some (by
              rw [HWN.out, scan, if_neg]
              intro hp
              have := (pop_nil_iff st).1 hp v HVM.out
              omega)⟩
            go_wp2_with fail
            go_ret
            exact ⟨by rw [HW.out]; rfl, HB.out⟩
          · have hz0 : v.left = 0 := by omega
            have HZ0 := Asd.mk hz0; clear hz0
            go_wp2_with fail
            go_round
            case rel => exact ⟨k + 1, by go_num, hltk, ⟨fun j u hj hu => by
              by_cases hjk : j = k
              · subst hjk; have := HVV.out; rw [this] at hu; injection hu with hu; subst hu; exact HZ0.out
              · exact HZ.out j u (by omega) hu⟩⟩
            case measure => simp [intOf]; omega
        · have HW : Asd (wrongI l = -1) := ⟨by
            have h1 : wrong l = none := by
              rw [HWN.out, scan, if_pos]
              refine (pop_nil_iff st).2 fun v hv => ?_
              obtain ⟨j, hj⟩ := List.getElem?_of_mem (List.mem_reverse.2 hv)
              have := (List.getElem?_eq_some_iff.1 hj).1
              rw [HRL.out] at this
              exact HZ.out j v (by omega) hj
            simp [wrongI, h1]⟩
          have hk1 : ¬ (k : Int) < (st.length : Int) := by omega
          go_wp2_with fail
          go_ret
          exact ⟨by rw [HW.out]; rfl, HB.out⟩
end Go.Proofs.YtocbblafgjpbeaaDoor.Sp
