/- Walks: what can be seen everywhere; what the check finds is caught. -/
import Derived.Test.YtocbblafgjpbeaaDoorErr
import Derived.Test.YtocbblafgjpbeaaDoorCkSpec
import Derived.Test.YtocbblafgjpbeaaDoorEnv
import Derived.Recover
import Derived.Laws.Pointers
namespace Go.Proofs.YtocbblafgjpbeaaDoor.Sp
open Go.RowKit
set_option linter.unusedVariables false
set_option linter.unusedSimpArgs false

set_option maxHeartbeats 3200000 in
theorem inputs_any (e : En) (w : World) :
    Calls Tryd.prog 35 #[e.agg] w fun en w' => en = .returned (.slice (some ⟨w.heap.size + 1, 0, none⟩) 11 11) ∧ w'.ownsRow w.heap.size 149 3 (.slice (some ⟨w.heap.size + 1, 0, none⟩) 11 11) 11 (varCells (inputsV e)) ∧ Below w.heap.size w w' ∧ w'.heap.size = w.heap.size + 2 := by
  obtain ⟨c, a, h, n, o, d, k, dis⟩ := e
  have key : ∀ (d1 : Int) (dis : Bool), (if dis = true then (1 : Int) else 0) = d1 → ((w.alloc (.cells #[.int .u64 c, .int .u64 a, .int .u64 h, .int .u64 n, .int .u64 o, .int .u64 d, .int .u64 k, .bool dis] 42)).alloc (.cells (varCells (inputsV ⟨c, a, h, n, o, d, k, dis⟩)).toArray 149)).ownsRow w.heap.size 149 3 (.slice (some ⟨w.heap.size + 1, 0, none⟩) 11 11) 11 (varCells (inputsV ⟨c, a, h, n, o, d, k, dis⟩)) := by
    intro d1 dis _
    refine ⟨by rw [varCells_length]; rfl, .inr ⟨w.heap.size + 1, 11, (varCells (inputsV ⟨c, a, h, n, o, d, k, dis⟩)).toArray, rfl, by omega, heap_alloc2_new w _ _, by omega, by decide, by simp [varCells_length]; rfl, ?_⟩⟩
    exact List.take_of_length_le (by rw [varCells_length]; simp [inputsV])
  have HKY := Asd.mk key; clear key
  simp only [En.agg]
  cases dis with
  | true =>
    go_enter Tryd.func35, Tryd.ntmps35
    go_wp2_with fail
    go_ret
    exact ⟨rfl, HKY.out 1 true rfl, ((Below.refl _ _).alloc (Nat.le_refl _) _).alloc (by simp) _, by simp⟩
  | false =>
    go_enter Tryd.func35, Tryd.ntmps35
    go_wp2_with fail
    go_ret
    exact ⟨rfl, HKY.out 0 false rfl, ((Below.refl _ _).alloc (Nat.le_refl _) _).alloc (by simp) _, by simp⟩

theorem assert_found (a c : Int) (w : World) : (Instr.typeAssert (.iface 75 (.agg #[.int .i64 a, .int .i64 c])) 20 75 true).run Tryd.prog w = .ok (.tuple #[.agg #[.int .i64 a, .int .i64 c], .bool true]) w := by kernel_rfl
set_option maxHeartbeats 1600000 in
theorem catch_found (p : Nat) (code : Int) (at_ : Nat) (older : List PanicEntry) (w : World) (hc : w.heap[p]? = some (.cells #[.nilIface] 25 (0, 0))) :
    CallsD Tryd.prog 34 #[.pointer (some ⟨p, 0, none⟩)] (.panicking ({ v := .iface 75 (.agg #[.int .i64 at_, .int .i64 code]), recovered := false } :: older)) w fun e u' w' =>
      e = .returned (.tuple #[]) ∧ u' = .panicking ({ v := .iface 75 (.agg #[.int .i64 at_, .int .i64 code]), recovered := true } :: older) ∧
        ∃ v, ErrAt w'.heap.size w' [(⟨#[116, 101, 114, 109, 115]⟩, (at_ : Int))] code v ∧ w'.heap[p]? = some (.cells #[v] 25 (0, 0)) ∧ Tch (fun q => q = p) w w' := by
  refine callsD_of_wpS Tryd.func34 rfl fun c₀ cs hu => ?_
  apply wpS_seq
  apply wpS_region
  simp [wpOpsS, go_sem, recoverD, hu, Tryd.ntmps34, Exit.thenS]
  refine wpS_of_wp ?_
  have hc0 : w.cell? ⟨p, 0, none⟩ = some .nilIface := cell_of hc 0
  have hf0 : w.frozen? ⟨p, 0, none⟩ = false := frozen_of hc 0
  have HP := Asd.mk hc
  have hpl := heap_lt hc
  clear hc
  have ta := assert_found
  rw [show (#[Value.pointer (some ⟨p, 0, none⟩)] ++ (Array.replicate 14 undef).setIfInBounds 3 (Value.iface 75 (Value.agg #[Value.int IntKind.i64 (at_ : Int), Value.int IntKind.i64 code])) : Array Value) =
    #[Value.pointer (some ⟨p, 0, none⟩), undef, undef, undef, Value.iface 75 (Value.agg #[Value.int IntKind.i64 (at_ : Int), Value.int IntKind.i64 code]), undef, undef, undef, undef, undef, undef, undef, undef, undef, undef] from rfl]
  go_wp2_with fail
  refine (fault_any _ _ _).mono ?_
  rintro e w' ⟨v, rfl, hv, hb, hs⟩
  have HV := Asd.mk hv
  obtain ⟨b0, e0, l0, rfl, h1, h2, h3, h4⟩ := hv
  have hpB := hb.block p (by simp; omega)
  have hpA := hpB.trans ((Below.heap_alloc w _ p hpl).trans HP.out)
  have HPA := Asd.mk hpA
  have HBB : Asd (Tch (fun q => q = p) w w') := ⟨((Tch.refl (fun q => q = p) w).alloc _).trans (Tch.of_below _ hb)⟩
  have hc1 : w'.cell? ⟨p, 0, none⟩ = some .nilIface := cell_of hpA 0
  have hf1 : w'.frozen? ⟨p, 0, none⟩ = false := frozen_of hpA 0
  clear hpA hpB hb h1 h2 h3 h4 hc0 hf0
  go_wp2_with fail
  have hT : Tch (fun q => q = p) w' (w'.setCell ⟨p, 0, none⟩ (.iface 144 (.pointer (some ⟨b0, 0, none⟩)))) := (Tch.refl (fun q => q = p) w').setCell (p := ⟨p, 0, none⟩) (fun _ => rfl) _
  refine ⟨rfl, _, rfl, .tuple #[], by exact results_none rfl _ _ _, rfl, rfl, .iface 144 (.pointer (some ⟨b0, 0, none⟩)), ?_, ?_, HBB.out.trans hT⟩
  · obtain ⟨b1, e1, l1, hv1, h1, h2, h3, h4⟩ := HV.out
    injection hv1 with _ hv1
    injection hv1 with hv1
    injection hv1 with hv1
    injection hv1 with hv1 _ _
    subst hv1
    have hne : ¬ b0 = p := by
      intro he
      subst he
      rw [hc1] at h1
      injection h1 with h1
      cases h1
    exact ⟨b0, e1, by have := hT.size; omega, rfl, hT.cell_some h1 hne, hT.cell_some h2 hne, hT.cell_some h3 hne, h4⟩
  · have := heap_set HPA.out 0 (.iface 144 (.pointer (some ⟨b0, 0, none⟩)))
    rw [this]; rfl
theorem catch_idle (p : Addr) (w : World) :
    CallsD Tryd.prog 34 #[.pointer (some p)] .returning w fun e u' w' => e = .returned (.tuple #[]) ∧ u' = .returning ∧ w' = w := by
  refine callsD_of_wpS Tryd.func34 rfl fun c₀ cs hu => ?_
  apply wpS_seq
  apply wpS_region
  simp [wpOpsS, go_sem, recoverD, hu, Tryd.ntmps34, Exit.thenS]
  refine wpS_of_wp ?_
  go_wp2_with fail
  cases c₀
  simp_all [bodyPostS, results, Tryd.results34]
end Go.Proofs.YtocbblafgjpbeaaDoor.Sp
