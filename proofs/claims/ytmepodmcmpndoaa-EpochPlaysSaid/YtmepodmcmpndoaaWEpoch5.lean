/-
  What the laws of an epoch share: steps and what is true behind any of them. Conditions: those of each theorem.
-/
import Derived.Test.YtmepodmcmpndoaaWEpoch4
set_option linter.unusedVariables false
set_option linter.unusedSimpArgs false
namespace Go.Proofs.Ytmepodmcmpndoaa.WEp
open Go.RowKit Go.Proofs.Ytmepodmcmpndoaa.PBase Go.Proofs.YtmepodmcmpndoaaW.PrintWords Go.Proofs.YtmepodmcmpndoaaW.PrintLast Go.Proofs.YtmepodmcmpndoaaW.PrintMore Go.Proofs.Ytmepodmcmpndoaa.Ep Go.Proofs.Ytmepodmcmpndoaa.EpM Go.MuLone
/-- A step, as it lies in a row. -/
structure S32 where
  f0 : Int
  f1 : Int
def z32 : S32 := ⟨0, 0⟩
def k32 : Kd S32 := Kd.iso (Kd.pair (Kd.int .i64) (Kd.int .i64)) (fun x : S32 => (x.f0, x.f1))
theorem k32_open {w : World} {x : S32} {cs : List Value} (h : k32.K w x cs) : cs = [.int .i64 x.f0, .int .i64 x.f1] := by
  obtain ⟨_, _, rfl, rfl, rfl⟩ := h
  exact rfl
theorem at_take {w : World} {A : Option Addr} {xs : List S32} (h : Kd.C k32 w A xs.length xs) {i : Nat} (h1 : i < xs.length) : ∃ ad, A = some ad ∧ w.cell? (ad.add (i * 2)) = some (.int .i64 xs[i].f0) ∧ w.cell? ⟨(ad.add (i * 2)).block, (ad.add (i * 2)).off + 1, none⟩ = some (.int .i64 xs[i].f1) := by
  obtain ⟨ad, c, e, _, hK, hc0⟩ := Kd.C_get h z32 (i : Int) (by omega) (by omega)
  rw [Int.toNat_natCast] at hc0 hK
  have hg : xs.getD i z32 = xs[i] := by simp [List.getD_eq_getElem?_getD, List.getElem?_eq_getElem h1]
  rw [hg] at hK
  have hc : ∀ j u, c[j]? = some u → w.cell? (ad.add (i * 2 + j)) = some u := hc0
  obtain rfl := k32_open hK
  exact ⟨ad, e, hc 0 _ rfl, by rw [← add_field _ _ 1 (by omega)]; exact hc 1 _ rfl⟩
/-- The number of readers that is made of a number. -/
theorem readers_of (n0 : Int) : ∃ (M : Int) (N : Nat), bits .and .i64 n0 15 = M ∧ 1 + M = (N : Int) ∧ 0 ≤ M ∧ M ≤ 15 ∧ 1 ≤ N ∧ N ≤ 16 :=
  ⟨n0 % 16, (1 + n0 % 16).toNat, and15 n0, by omega, by omega, by omega, by omega, by omega⟩
theorem and15_of (x : Int) : ∃ q, bits .and .i64 x 15 = q ∧ 0 ≤ q ∧ q ≤ 15 := ⟨_, and15 x, by omega, by omega⟩
theorem and3_of (x : Int) : ∃ q, bits .and .i64 x 3 = q ∧ 0 ≤ q ∧ q ≤ 3 := ⟨_, and3 x, by omega, by omega⟩
/-- Behind i steps. -/
structure Inv (N i : Nat) (st : St) : Prop where mk ::
  ok : Ok st
  tight : Tight st
  rd : st.rd.length = N
  new : st.new ≤ i
section
variable {N i : Nat} {st : St}
theorem Inv.made {N : Nat} (h1 : 1 ≤ N) (h2 : N ≤ 16) (v : Int) : Inv N 0 (St.made N v) := ⟨Ok.made h1 h2 v, made_tight v, by simp [St.made], by simp [St.made, St.new]⟩
theorem Inv.publish (h : Inv N i st) (v : Int) : Inv N (i + 1) (st.publish v) := ⟨h.ok.publish v, h.ok.publish_tight v, h.rd, by rw [publish_new h.ok]; have := h.new; omega⟩
theorem Inv.enter (h : Inv N i st) (r : Int) : Inv N (i + 1) (st.enter r) := ⟨h.ok.enter r, h.ok.enter_tight h.tight r, by rw [enter_rd]; exact h.rd, by rw [enter_new]; have := h.new; omega⟩
theorem Inv.leave (h : Inv N i st) (r : Int) : Inv N (i + 1) (st.leave r) := ⟨h.ok.leave r, h.ok.leave_tight h.tight r, by rw [leave_rd]; exact h.rd, by rw [leave_new h.ok]; have := h.new; omega⟩
theorem Inv.more (h : Inv N i st) {j : Nat} (hj : i ≤ j) : Inv N j st := ⟨h.ok, h.tight, h.rd, by have := h.new; omega⟩
theorem Inv.big (h : Inv N i st) (hi : i ≤ 1000) : st.given + st.all.length ≤ 90000 := by have := h.new; unfold St.new at this; omega
theorem Inv.big2 (h : Inv N i st) (hi : i ≤ 1000) : st.all.length ≤ 90000 := by have := h.big hi; have := h.ok.given; omega
end
end Go.Proofs.Ytmepodmcmpndoaa.WEp
