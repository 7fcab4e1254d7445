/-
  Readings of arguments, kind by kind: what can be read as data of a type is a plain value whose cells are told by a kind, with its numbers in range, its lengths within the reach, and no more of it than its bulk. No condition.
-/
import Derived.Test.YtkpncagfhiceoaaRows
import Derived.Test.YtkpncagfhiceoaaWWords
import Derived.WalkKit
import Derived.ProofKit
import Derived.SizedLaws
import Derived.Deep.Slices
import Derived.ChangeArms
set_option linter.unusedVariables false
namespace Go.Proofs.Ytkpncagfhiceoaa.MOpen
open Go.ChangeShapes Go.WideShapes Go.Deep Go.RowKit Go.Proofs.YtkpncagfhiceoaaW.PrintWords Go.Proofs.Ytkpncagfhiceoaa

/-- Whatever reads as data of type t is a plain value of the kind d; G: what is known of it; B: at least so much of bulk. -/
def Opens (P : Program) (t : TypeId) {α : Type} (d : Kd α) (G : α → Prop) (B : α → Nat) : Prop :=
  ∀ {H : Type} {enc : TypeId × Value → H} {w : World} {base : Nat} {held : Bool} {fuel : Nat} {cs : List Value} {x : DataW H × List MemPlace},
    DataW.trod enc P w base (fun _ => true) held fuel t cs = some x → (x.1.weights P t).all (· ≤ reachBytes) = true → ∃ a : α, d.K w a cs ∧ G a ∧ B a ≤ Rows.uptoBulk x.1

theorem opens_int {P : Program} {t : TypeId} {k : IntKind} (hu : P.underlying t = some (.int k)) : Opens P t (Kd.int k) (fun a => (Lit.int k a).wf = true) (fun _ => 1) := by
  intro H enc w base held fuel cs x h hw
  obtain ⟨n, rfl, rfl, hn⟩ := DataW.trod_int hu h
  exact ⟨n, rfl, hn, by simp [Rows.uptoBulk]⟩
theorem opens_bool {P : Program} {t : TypeId} (hu : P.underlying t = some .bool) : Opens P t Kd.bool (fun _ => True) (fun _ => 1) := by
  intro H enc w base held fuel cs x h hw
  obtain ⟨n, rfl, rfl⟩ := DataW.trod_bool hu h
  exact ⟨n, rfl, trivial, by simp [Rows.uptoBulk]⟩
theorem opens_string {P : Program} {t : TypeId} (hu : P.underlying t = some .string) : Opens P t Kd.string (fun s => s.size ≤ 140737488351232) (fun s => s.size + 1) := by
  intro H enc w base held fuel cs x h hw
  obtain ⟨s, rfl, rfl, hn⟩ := DataW.trod_string hu h
  refine ⟨s, rfl, ?_, by simp [Rows.uptoBulk]⟩
  simp only [DataW.weights, List.all_cons, List.all_nil, Bool.and_true, decide_eq_true_eq, Array.length_toList] at hw
  exact hw
end Go.Proofs.Ytkpncagfhiceoaa.MOpen
