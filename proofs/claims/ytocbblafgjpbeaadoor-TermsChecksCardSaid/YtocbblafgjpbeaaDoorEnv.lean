/- Plain Lean: what a run is told, and what can be seen everywhere. -/
import Derived.Test.YtocbblafgjpbeaaDoorCkSpec
namespace Go.Proofs.YtocbblafgjpbeaaDoor.Sp
set_option linter.unusedVariables false
/-- What a run is told. -/
structure En where
  caller : Int
  amount : Int
  held : Int
  now : Int
  opened : Int
  due : Int
  asked : Int
  disputed : Bool
def En.agg (e : En) : Value := .agg #[.int .u64 e.caller, .int .u64 e.amount, .int .u64 e.held, .int .u64 e.now, .int .u64 e.opened, .int .u64 e.due, .int .u64 e.asked, .bool e.disputed]
def inputsV (e : En) : List Var :=
  [⟨⟨#[98, 117, 121, 101, 114]⟩, 1, 1⟩, ⟨⟨#[115, 101, 108, 108, 101, 114]⟩, 1, 2⟩, ⟨⟨#[97, 114, 98, 105, 116, 101, 114]⟩, 1, 3⟩, ⟨⟨#[99, 97, 108, 108, 101, 114]⟩, 1, e.caller⟩,
   ⟨⟨#[97, 109, 111, 117, 110, 116]⟩, 1, e.amount⟩, ⟨⟨#[104, 101, 108, 100]⟩, 1, e.held⟩, ⟨⟨#[110, 111, 119]⟩, 1, e.now⟩, ⟨⟨#[111, 112, 101, 110, 101, 100]⟩, 1, e.opened⟩,
   ⟨⟨#[100, 117, 101]⟩, 1, e.due⟩, ⟨⟨#[97, 115, 107, 101, 100]⟩, 1, e.asked⟩, ⟨⟨#[100, 105, 115, 112, 117, 116, 101, 100]⟩, 2, if e.disputed then 1 else 0⟩]
def enZero : En := ⟨0, 0, 0, 0, 0, 0, 0, false⟩
theorem inputs_names (e : En) : NamesOk (inputsV e) := by
  intro i j u v hi hj h
  have h1 := (List.getElem?_eq_some_iff.1 hi)
  have h2 := (List.getElem?_eq_some_iff.1 hj)
  obtain ⟨a1, a2⟩ := h1
  obtain ⟨b1, b2⟩ := h2
  have key : ∀ (a b : Fin 11), ((inputsV e).map Var.name)[a.1]? = ((inputsV e).map Var.name)[b.1]? → a = b := by
    simp only [inputsV, List.map_cons, List.map_nil]
    decide
  have := key ⟨i, by simpa [inputsV] using a1⟩ ⟨j, by simpa [inputsV] using b1⟩ (by simp [hi, hj, h])
  exact congrArg Fin.val this
theorem inputs_kinds (e : En) : KindsOk (inputsV e) := by
  intro j v hj
  have := List.mem_of_getElem? hj
  simp only [inputsV, List.mem_cons, List.not_mem_nil, or_false] at this
  rcases this with rfl | rfl | rfl | rfl | rfl | rfl | rfl | rfl | rfl | rfl | rfl <;> simp

end Go.Proofs.YtocbblafgjpbeaaDoor.Sp
