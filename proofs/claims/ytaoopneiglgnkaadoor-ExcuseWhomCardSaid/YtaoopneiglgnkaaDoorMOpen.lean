/-
  Readings of arguments, kind by kind: what can be read as data of a type is a plain value whose cells are told by a kind, with its numbers in range, its lengths within the reach, and no more of it than its bulk. No condition.
-/
import Derived.Test.YtaoopneiglgnkaaDoorRows
import Derived.Test.YtaoopneiglgnkaaDoorWWords
import Derived.WalkKit
import Derived.ProofKit
import Derived.SizedLaws
import Derived.Deep.Slices
import Derived.ChangeArms
set_option linter.unusedVariables false
namespace Go.Proofs.YtaoopneiglgnkaaDoor.MOpen
open Go.ChangeShapes Go.WideShapes Go.Deep Go.RowKit Go.Proofs.YtaoopneiglgnkaaDoorW.PrintWords Go.Proofs.YtaoopneiglgnkaaDoor

/-- Whatever reads as data of type t is a plain value of the kind d; G: what is known of it; B: at least so much of bulk. -/
def Opens (P : Program) (t : TypeId) {α : Type} (d : Kd α) (G : α → Prop) (B : α → Nat) : Prop :=
  ∀ {H : Type} {enc : TypeId × Value → H} {w : World} {base : Nat} {held : Bool} {fuel : Nat} {cs : List Value} {x : DataW H × List MemPlace},
    DataW.trod enc P w base (fun _ => true) held fuel t cs = some x → (x.1.weights P t).all (· ≤ reachBytes) = true → ∃ a : α, d.K w a cs ∧ G a ∧ B a ≤ Rows.uptoBulk x.1

theorem opens_int {P : Program} {t : TypeId} {k : IntKind} (hu : P.underlying t = some (.int k)) : Opens P t (Kd.int k) (fun a => (Lit.int k a).wf = true) (fun _ => 1) := by
  intro H enc w base held fuel cs x h hw
  obtain ⟨n, rfl, rfl, hn⟩ := DataW.trod_int hu h
  exact ⟨n, rfl, hn, by simp [Rows.uptoBulk]⟩
theorem opens_bool {P : Program} {t : TypeId} (hu : P.underlying t = some .bool) : Opens P t Kd.bool (fun _ => True) (fun _ => 1) := by
  intro H enc w base held fuel cs x h hw
  obtain ⟨n, rfl, rfl⟩ := DataW.trod_bool hu h
  exact ⟨n, rfl, trivial, by simp [Rows.uptoBulk]⟩
theorem opens_string {P : Program} {t : TypeId} (hu : P.underlying t = some .string) : Opens P t Kd.string (fun s => s.size ≤ 140737488351232) (fun s => s.size + 1) := by
  intro H enc w base held fuel cs x h hw
  obtain ⟨s, rfl, rfl, hn⟩ := DataW.trod_string hu h
  refine ⟨s, rfl, ?_, by simp [Rows.uptoBulk]⟩
  simp only [DataW.weights, List.all_cons, List.all_nil, Bool.and_true, decide_eq_true_eq, Array.length_toList] at hw
  exact hw
theorem bulk_le {H : Type} {l : List (DataW H)} {α : Type} {la : List α} {B : α → Nat} (hl : la.length = l.length) (h : ∀ i (hi : i < la.length), B la[i] ≤ Rows.uptoBulk (l[i]'(by omega))) : (la.map B).sum ≤ Rows.uptoBulkAll l := by
  induction la generalizing l with
  | nil => simp
  | cons a la ih =>
    cases l with
    | nil => simp at hl
    | cons d l =>
      simp only [List.map_cons, List.sum_cons, Rows.uptoBulkAll]
      have h0 := h 0 (by simp)
      have h1 := ih (l := l) (by simpa using hl) (fun i hi => by have h2 := h (i + 1) (by simp only [List.length_cons]; omega); simp only [List.getElem_cons_succ] at h2; exact h2)
      simp only [List.getElem_cons_zero] at h0
      omega
theorem weightsAll_mem {H : Type} {P : Program} {e : TypeId} : ∀ {l : List (DataW H)}, (DataW.weightsAll P e l).all (· ≤ reachBytes) = true → ∀ d ∈ l, (d.weights P e).all (· ≤ reachBytes) = true
  | [], _, d, hd => by cases hd
  | c :: l, h, d, hd => by
    rw [DataW.weightsAll, List.all_append, Bool.and_eq_true] at h
    rcases List.mem_cons.1 hd with rfl | hd
    · exact h.1
    · exact weightsAll_mem h.2 d hd
theorem opens_slice {P : Program} {t e : TypeId} {α : Type} {d : Kd α} {G : α → Prop} {B : α → Nat} (hu : P.underlying t = some (.slice e)) {b : Nat} (hb : P.bytesOf e = b) (hc : P.cellsOf e = d.sz) (h : Opens P e d G B) :
    Opens P t (Kd.slice e d) (fun l => l.length * b ≤ 140737488351232 ∧ ∀ x ∈ l, G x) (fun l => (l.map B).sum + 1) := by
  intro H enc w base held fuel cs x hx hw
  rcases open_slice hu hx with ⟨rfl, rfl⟩ | ⟨a, len, cap, m, n, D, Pl, rfl, hba, hl, hm, hmm, rfl, hi⟩
  · exact ⟨[], ⟨none, 0, rfl, Nat.le_refl _, rfl, Nat.zero_le _, fun h0 => by cases h0⟩, ⟨by simp, fun x hx => by cases hx⟩, by simp [Rows.uptoBulk]⟩
  · simp only [if_true] at hmm
    subst hmm
    simp only [DataW.weights, hu, List.all_cons, List.all_append, Bool.and_eq_true, decide_eq_true_eq, List.length_map, List.length_range] at hw
    obtain ⟨hw0, hw1, _⟩ := hw
    have each : ∀ i, i < len → ∃ (y : α × List Value), d.K w y.1 y.2 ∧ G y.1 ∧ B y.1 ≤ Rows.uptoBulk (D i) ∧ w.cells? base (a.add (i * P.cellsOf e)) (P.cellsOf e) = some y.2 := by
      intro i hil
      obtain ⟨cs', hcs, ht⟩ := hi i (by omega)
      obtain ⟨y, h1, h2, h3⟩ := h ht (weightsAll_mem hw1 _ (List.mem_map.2 ⟨i, List.mem_range.2 hil, rfl⟩))
      exact ⟨(y, cs'), h1, h2, h3, hcs⟩
    by_cases h00 : len = 0
    · subst h00
      exact ⟨[], ⟨some a, m, rfl, Nat.zero_le _, rfl, Nat.zero_le _, fun h0 => by cases h0⟩, ⟨by simp, fun x hx => by cases hx⟩, by simp [Rows.uptoBulk]⟩
    obtain ⟨y0, _⟩ := each 0 (by omega)
    haveI : Inhabited (α × List Value) := ⟨y0⟩
    obtain ⟨Y, hY⟩ := choose_lt each
    refine ⟨(List.range len).map fun i => (Y i).1, ⟨some a, m, by simp, by simpa using hl, ?_⟩, ⟨?_, ?_⟩, ?_⟩
    · refine ⟨by simp, ?_, fun _ => ⟨a, rfl, fun j p hj => ?_⟩⟩
      · simp only [List.length_map, List.length_range]
        have : maxLen = 9223372036854775807 := rfl
        omega
      · obtain ⟨hjl, hjp⟩ := List.getElem?_eq_some_iff.1 hj
        simp only [List.length_map, List.length_range] at hjl
        simp only [List.getElem_map, List.getElem_range] at hjp
        subst hjp
        obtain ⟨h1, h2, h3, h4⟩ := hY j hjl
        obtain ⟨_, hlen, hat⟩ := World.cells?_some h4
        refine ⟨(Y j).2, by rw [hlen, hc], h1, fun i u hiu => ?_⟩
        have hil : i < P.cellsOf e := by
          have := (List.getElem?_eq_some_iff.1 hiu).1
          omega
        rw [← hc, ← Deep.add_add, hat i hil, hiu]
    · simp only [List.length_map, List.length_range]
      rw [hb] at hw0
      refine Nat.le_trans (Nat.mul_le_mul_right _ ?_) hw0
      omega
    · intro x hx
      obtain ⟨i, hi, rfl⟩ := List.mem_map.1 hx
      exact (hY i (List.mem_range.1 hi)).2.1
    · simp only [Rows.uptoBulk]
      have := bulk_le (l := (List.range len).map D) (la := (List.range len).map fun i => (Y i).1) (B := B) (by simp) (fun i hi => by
        simp only [List.length_map, List.length_range] at hi
        simp only [List.getElem_map, List.getElem_range]
        exact (hY i hi).2.2.1)
      omega

/-- Fields that stand one behind the other. -/
inductive Laid {H : Type} (enc : TypeId × Value → H) (P : Program) (w : World) (base : Nat) (held : Bool) (n : Nat) : List TypeId → List Value → List (DataW H × List MemPlace) → Prop
  | none : Laid enc P w base held n [] [] []
  | more {t : TypeId} {c : List Value} {x : DataW H × List MemPlace} {ts : List TypeId} {cs : List Value} {xs : List (DataW H × List MemPlace)} (h : DataW.trod enc P w base (fun _ => true) held n t c = some x) (hc : c.length = P.cellsOf t) (r : Laid enc P w base held n ts cs xs) :
      Laid enc P w base held n (t :: ts) (c ++ cs) (x :: xs)
def OpensF (P : Program) (ts : List TypeId) {α : Type} (d : Kd α) (G : α → Prop) (B : α → Nat) : Prop :=
  ∀ {H : Type} {enc : TypeId × Value → H} {w : World} {base : Nat} {held : Bool} {n : Nat} {cs : List Value} {xs : List (DataW H × List MemPlace)},
    Laid enc P w base held n ts cs xs → (DataW.weightsEach P ts (xs.map (·.1))).all (· ≤ reachBytes) = true → ∃ a : α, d.K w a cs ∧ G a ∧ B a ≤ Rows.uptoBulkAll (xs.map (·.1))
theorem opens_one {P : Program} {t : TypeId} {α : Type} {d : Kd α} {G : α → Prop} {B : α → Nat} (h : Opens P t d G B) : OpensF P [t] d G B := by
  intro H enc w base held n cs xs hl hw
  cases hl with
  | more h1 hc r =>
    cases r
    simp only [List.map_cons, List.map_nil, DataW.weightsEach, List.append_nil] at hw
    obtain ⟨a, h2, h3, h4⟩ := h h1 hw
    exact ⟨a, by simpa using h2, h3, by simpa [Rows.uptoBulkAll] using h4⟩
theorem opens_pair {P : Program} {t : TypeId} {ts : List TypeId} {α β : Type} {d : Kd α} {G : α → Prop} {B : α → Nat} {d' : Kd β} {G' : β → Prop} {B' : β → Nat} (h : Opens P t d G B) (h' : OpensF P ts d' G' B') :
    OpensF P (t :: ts) (Kd.pair d d') (fun x => G x.1 ∧ G' x.2) (fun x => B x.1 + B' x.2) := by
  intro H enc w base held n cs xs hl hw
  cases hl with
  | more h1 hc r =>
    simp only [List.map_cons, DataW.weightsEach, List.all_append, Bool.and_eq_true] at hw
    obtain ⟨a, h2, h3, h4⟩ := h h1 hw.1
    obtain ⟨b, h5, h6, h7⟩ := h' r hw.2
    exact ⟨(a, b), ⟨_, _, rfl, h2, h5⟩, ⟨h3, h6⟩, by simp only [List.map_cons, Rows.uptoBulkAll]; omega⟩
/-- The offsets are those of fields that stand one behind the other, from 'o' on. -/
def inLine (P : Program) : Nat → List Field → Bool
  | _, [] => true
  | o, f :: fs => f.offset == o && inLine P (o + P.cellsOf f.type) fs
theorem laid_of {H : Type} {enc : TypeId × Value → H} {P : Program} {w : World} {base : Nat} {held : Bool} {n : Nat} : ∀ (fs : List Field) (o : Nat) (cs : List Value) (xs : List (DataW H × List MemPlace)),
    inLine P o fs = true → xs.length = fs.length → cs.length = o + (fs.map fun f => P.cellsOf f.type).sum →
    (∀ (i : Nat) (f : Field), fs[i]? = some f → DataW.trod enc P w base (fun _ => true) held n f.type ((cs.drop f.offset).take (P.cellsOf f.type)) = xs[i]?) → Laid enc P w base held n (fs.map (·.type)) (cs.drop o) xs
  | [], o, cs, [], _, _, hc, _ => by
    simp only [List.map_nil, List.sum_nil, Nat.add_zero] at hc
    rw [List.drop_eq_nil_of_le (by omega)]
    exact .none
  | [], _, _, _ :: _, _, hl, _, _ => by simp at hl
  | f :: fs, o, cs, [], _, hl, _, _ => by simp at hl
  | f :: fs, o, cs, x :: xs, hi, hl, hc, h => by
    simp only [inLine, Bool.and_eq_true, beq_iff_eq] at hi
    simp only [List.map_cons, List.sum_cons] at hc
    have h0 := h 0 f rfl
    rw [hi.1] at h0
    have e : cs.drop o = (cs.drop o).take (P.cellsOf f.type) ++ cs.drop (o + P.cellsOf f.type) := by
      rw [← List.drop_drop, List.take_append_drop]
    rw [e, List.map_cons]
    refine .more h0 (by rw [List.length_take, List.length_drop]; omega) (laid_of fs _ cs xs hi.2 (by simpa using hl) (by omega) fun i g hg => ?_)
    exact h (i + 1) g (by simpa using hg)
theorem opens_struct {P : Program} {t : TypeId} {fs : Array Field} {α β : Type} {d : Kd α} {G : α → Prop} {B : α → Nat} (hu : P.underlying t = some (.struct fs)) (hi : inLine P 0 fs.toList = true) (hs : P.cellsOf t = (fs.toList.map fun f => P.cellsOf f.type).sum)
    (f : β → α) (mk : α → β) (hm : ∀ a, f (mk a) = a) (h : OpensF P (fs.toList.map (·.type)) d G B) : Opens P t (Kd.iso d f) (fun b => G (f b)) (fun b => B (f b)) := by
  intro H enc w base held fuel cs x hx hw
  obtain ⟨xs, n, _, rfl, hcl, hxl, hf⟩ := DataW.trod_struct hu hx
  have hl := laid_of (enc := enc) (P := P) (w := w) (base := base) (held := held) (n := n) fs.toList 0 cs xs hi (by simpa using hxl) (by omega) (fun i g hg => hf i g (by simpa using hg))
  simp only [DataW.weights, hu] at hw
  obtain ⟨a, h1, h2, h3⟩ := h hl hw
  rw [List.drop_zero] at h1
  refine ⟨mk a, ?_, by simp only [hm]; exact h2, by simp only [hm, Rows.uptoBulk]; omega⟩
  show d.K w (f (mk a)) cs
  rw [hm]; exact h1
theorem weights_at {H : Type} {P : Program} {ts : List TypeId} {ds : List (DataW H)} (h : (DataW.weightsEach P ts ds).all (· ≤ reachBytes) = true) {j : Nat} {t : TypeId} {d : DataW H} (ht : ts[j]? = some t) (hd : ds[j]? = some d) : (d.weights P t).all (· ≤ reachBytes) = true :=
  List.all_eq_true.2 fun n hn => List.all_eq_true.1 h n (DataW.weights_mem_each ht hd n hn)
end Go.Proofs.YtaoopneiglgnkaaDoor.MOpen
