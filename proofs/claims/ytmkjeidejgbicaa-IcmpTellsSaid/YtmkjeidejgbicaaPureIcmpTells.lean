/-
  The law IcmpTells: which messages tell of an error, and what answers one. The plain part, and the joined contract of the call. For all messages.
-/
import Derived.Test.YtmkjeidejgbicaaPBasex13
set_option linter.unusedVariables false
set_option linter.unusedSimpArgs false
namespace Go.Proofs.Ytmkjeidejgbicaa.PureTells
open Go.RowKit Go.Proofs.Ytmkjeidejgbicaa.PBase
/-- Does a message tell of an error? -/
def errB (six : Bool) (kd : Int) : Bool := if six = true then decide (0 ≤ kd ∧ kd < 128) else decide (kd = 3 ∨ kd = 4 ∨ kd = 5 ∨ kd = 11 ∨ kd = 12)
theorem err_eq (six : Bool) (kd cd rs : Int) (data : ByteArray) : icmp_IsError.f six kd cd rs data = some (errB six kd) := by
  unfold icmp_IsError.f errB
  cases six with
  | true =>
    simp only [if_true]
    by_cases h : kd ≥ 0
    · rw [if_pos h]; congr 1; apply decide_eq_decide.2; omega
    · rw [if_neg h]; congr 1; symm; apply decide_eq_false; omega
  | false =>
    simp only [Bool.false_eq_true, if_false]
    repeat' split
    all_goals (congr 1; symm; first | (apply decide_eq_true; omega) | (apply decide_eq_false; omega))
theorem rerr_eq (six : Bool) (kd cd rs : Int) (data : ByteArray) : crosswayref08_IsError.f six kd cd rs data = some (errB six kd) := by
  unfold crosswayref08_IsError.f errB
  cases six with
  | true =>
    simp only [if_true]
    by_cases h : kd ≥ 0
    · rw [if_pos h]; congr 1; apply decide_eq_decide.2; omega
    · rw [if_neg h]; congr 1; symm; apply decide_eq_false; omega
  | false =>
    simp only [Bool.false_eq_true, if_false]
    repeat' split
    all_goals (congr 1; first | (symm; apply decide_eq_true; omega) | (rw [Bool.eq_iff_iff, beq_iff_eq, decide_eq_true_iff]; omega))
theorem fin {k : Nat} {six : Bool} {kd cd rs : Int} {data : ByteArray} {b1 : Bool} {n1 n2 n3 n4 : Int} {d1 : ByteArray} (r1 : icmp_Reply.f six kd cd rs data = some (b1, n1, n2, n3, d1, n4)) (r2 : crosswayref08_Reply.f k six kd cd rs data = some (b1, n1, n2, n3, d1, n4))
    (h : n4 = 0 → errB six kd = false ∧ errB b1 n1 = false) : crosswaylaw08_IcmpTells.f k six kd cd rs data = some true := by
  unfold crosswaylaw08_IcmpTells.f
  rw [show crosswaylaw08_awake.f = some true from rfl, r1, r2]
  simp only [Option.bind_some, err_eq, rerr_eq]
  rw [if_pos trivial, if_pos (by simp), if_pos trivial, if_pos (by simp)]
  by_cases e : n4 = 0
  · rw [if_pos e, (h e).1, (h e).2]; rfl
  · rw [if_neg e]
theorem IcmpTells (six : Bool) (kd cd rs : Int) (data : ByteArray) (_ : (Lit.int .i64 kd).wf = true) (_ : (Lit.int .i64 cd).wf = true) (_ : (Lit.int .i64 rs).wf = true) (_ : data.size ≤ 140737488351232) : ∃ k, crosswaylaw08_IcmpTells.f k six kd cd rs data = some true := by
  by_cases h : cd = 0 ∧ ((six = true ∧ kd = 128) ∨ (six = false ∧ kd = 8))
  · obtain ⟨rfl, ⟨rfl, rfl⟩ | ⟨rfl, rfl⟩⟩ := h
    · exact ⟨1, fin (k := 1) (b1 := true) (n1 := 129) (n2 := 0) (n3 := rs) (d1 := data) (n4 := 0) rfl rfl (fun _ => ⟨rfl, rfl⟩)⟩
    · exact ⟨1, fin (k := 1) (b1 := false) (n1 := 0) (n2 := 0) (n3 := rs) (d1 := data) (n4 := 0) rfl rfl (fun _ => ⟨rfl, rfl⟩)⟩
  · have r1 : icmp_Reply.f six kd cd rs data = some (false, 0, 0, 0, ⟨#[]⟩, 70) := by
      unfold icmp_Reply.f
      cases six with
      | true =>
        rw [if_pos rfl]
        by_cases a : kd = 128
        · rw [if_pos a, if_neg (fun b => h ⟨b, Or.inl ⟨rfl, a⟩⟩)]
        · rw [if_neg a]
      | false =>
        rw [if_neg (by decide)]
        by_cases a : kd = 8
        · rw [if_pos a, if_neg (fun b => h ⟨b, Or.inr ⟨rfl, a⟩⟩)]
        · rw [if_neg a]
    have r2 : crosswayref08_Reply.f 1 six kd cd rs data = some (false, 0, 0, 0, ⟨#[]⟩, 70) := by
      unfold crosswayref08_Reply.f
      by_cases b : cd = 0
      · rw [if_pos b]
        cases six with
        | true =>
          rw [if_pos rfl, if_neg (fun a => h ⟨b, Or.inl ⟨rfl, a⟩⟩)]; rfl
        | false =>
          rw [if_neg (by decide), show (kd != 8) = true from bne_iff_ne.mpr (fun a => h ⟨b, Or.inr ⟨rfl, a⟩⟩)]; rfl
      · rw [if_neg b]; rfl
    exact ⟨1, fin r1 r2 (fun e => by cases e)⟩
end Go.Proofs.Ytmkjeidejgbicaa.PureTells
namespace Go.Proofs.Ytmkjeidejgbicaa.Pure
open Go.RowKit Go.Proofs.Ytmkjeidejgbicaa.PBase
theorem IcmpTells (six : Bool) (kd cd rs : Int) (data : ByteArray) (h1 : (Lit.int .i64 kd).wf = true) (h2 : (Lit.int .i64 cd).wf = true) (h3 : (Lit.int .i64 rs).wf = true) (h4 : data.size ≤ 140737488351232) : ∃ k, crosswaylaw08_IcmpTells.f k six kd cd rs data = some true := PureTells.IcmpTells six kd cd rs data h1 h2 h3 h4
end Go.Proofs.Ytmkjeidejgbicaa.Pure
