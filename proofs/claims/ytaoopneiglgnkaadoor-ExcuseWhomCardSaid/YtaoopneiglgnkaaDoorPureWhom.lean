/-
  Of which packets something is told, and of which nothing: of packets that were laid. No program in sight but its Lean functions. Conditions: those of each theorem.
-/
import Derived.Test.YtaoopneiglgnkaaDoorPureTold
set_option linter.unusedVariables false
set_option linter.unusedSectionVars false
set_option linter.unusedSimpArgs false
namespace Go.Proofs.YtaoopneiglgnkaaDoor.Pure
open Go.RowKit Go.Proofs.YtaoopneiglgnkaaDoor.PBase Go.Proofs.YtaoopneiglgnkaaDoorW.PrintWords Go.Proofs.YtaoopneiglgnkaaDoorW.PrintLast Go.Proofs.YtaoopneiglgnkaaDoorW.PrintMore Go.Proofs.YtaoopneiglgnkaaDoor.MTally Go.Proofs.YtaoopneiglgnkaaDoor.MBe
/-- A packet without Six, its options none. -/
structure F4 where
  tos : Int
  id : Int
  df : Bool
  mf : Bool
  off : Int
  ttl : Int
  proto : Int
  b1 : Bool
  h1 : Int
  src : Int
  b2 : Bool
  h2 : Int
  dst : Int
  data : ByteArray
/-- What May says of it, when it is laid. -/
def mayF (p : F4) : Bool := endsB p.b1 p.h1 p.src p.b2 p.h2 p.dst && (decide (p.off = 0) && !(decide (p.proto = 1) && errB false p.data))
def layF (p : F4) : ByteArray × Int := Pure4.layR p.tos p.id p.df p.mf p.off p.ttl p.proto p.b1 p.h1 p.src p.b2 p.h2 p.dst ⟨#[]⟩ p.data
theorem laid_may {p : F4} (u1 : 0 ≤ p.src) (u2 : 0 ≤ p.dst) (e : (layF p).2 = 0) : mayR (layF p).1 = mayF p ∧ (layF p).1.size ≤ 70000 := by
  unfold layF at e ⊢
  unfold Pure4.layR at e ⊢
  have h00' : (⟨#[]⟩ : ByteArray).size = 0 := rfl
  cases hmb : Pure4.mayB p.tos p.id p.off p.ttl p.proto p.b1 p.h1 p.src p.b2 p.h2 p.dst ⟨#[]⟩
  · rw [hmb, if_neg (by decide)] at e; cases e
  rw [hmb, if_pos rfl] at e
  rw [if_pos rfl]
  by_cases hl : 65535 < 20 + ((⟨#[]⟩ : ByteArray).size : Int) + (p.data.size : Int)
  · rw [if_pos hl] at e; cases e
  rw [if_neg hl]
  simp only
  have c := Pure4.ck_range p.tos p.id p.df p.mf p.off p.ttl p.proto p.src p.dst ⟨#[]⟩ p.data
  have hS := Pure4.S_ck p.tos p.id p.df p.mf p.off p.ttl p.proto p.src p.dst ⟨#[]⟩ p.data
  obtain ⟨s, hs⟩ : ∃ s, strOfNums (Pure4.ofR p.tos p.id p.df p.mf p.off p.ttl p.proto p.src p.dst ⟨#[]⟩ p.data) = s := ⟨_, rfl⟩
  have hbs : bytesOf s = Pure4.pkC p.tos p.id p.df p.mf p.off p.ttl p.proto p.src p.dst ⟨#[]⟩ p.data (Pure4.ck p.tos p.id p.df p.mf p.off p.ttl p.proto p.src p.dst ⟨#[]⟩ p.data) := by rw [← hs]; exact MBytes.ofNums (Pure4.pkC_bytes _ _ _ _ _ _ _ _ _ _ _ _)
  rw [hs]
  obtain ⟨t1, t2, t3, _⟩ := Pure4.take_of (s := s) (B := []) (by rw [List.append_nil]; exact hbs) hmb (by omega) u1 u2 c.1 c.2 hS
  have h79 := (Pure4.heads_ok (s := s) (by rw [t2])).2.2.1
  have r := bt_range s 0
  have h6 : sixB s = false := by
    unfold sixB
    split
    · rfl
    · rw [beq_eq_false_iff_ne]; omega
  refine ⟨?_, by rw [t3]; simp only [List.length_nil]; omega⟩
  unfold mayR
  rw [h6, if_neg (by decide), t1]
  unfold mayFourT mayF
  simp
/-- Lay and May, as the program's functions: what a laid packet answers. -/
theorem lay_f {p : F4} (hd : p.data.size ≤ 140737488355328) (u1 : 0 ≤ p.src) (u2 : 0 ≤ p.dst) : ∃ k, ip4_Lay.f k p.tos p.id p.df p.mf p.off p.ttl p.proto p.b1 p.h1 p.src p.b2 p.h2 p.dst ⟨#[]⟩ p.data = some (layF p) :=
  (Pure4.lay_ev p.tos p.id p.df p.mf p.off p.ttl p.proto p.b1 p.h1 (src := p.src) p.b2 p.h2 (dst := p.dst) ⟨#[]⟩ p.data (Nat.zero_le _) hd u1 u2).rounds
theorem may_f {p : F4} (u1 : 0 ≤ p.src) (u2 : 0 ≤ p.dst) (e : (layF p).2 = 0) : ∃ k, excuse_May.f k (layF p).1 = some (mayF p) := by
  obtain ⟨h1, h2⟩ := laid_may u1 u2 e
  rw [← h1]
  exact (may_ev (by omega)).rounds
theorem cls_ten1 : cls false 0 167772161 = 5 := by decide
theorem cls_ten2 : cls false 0 167772162 = 5 := by decide
theorem cls_far {x : Int} (h0 : 0 ≤ x) (h1 : x ≤ 268435455) : cls false 0 (3758096384 + x) = 3 := by
  unfold cls
  rw [if_neg (by decide), if_neg (by simp; omega), if_neg (by omega), if_neg (by omega), if_neg (by omega), if_neg (by omega), if_pos (by omega)]
theorem cls_loop {x : Int} (h0 : 0 ≤ x) (h1 : x ≤ 16777215) : cls false 0 (2130706432 + x) = 1 := by
  unfold cls
  rw [if_neg (by decide), if_neg (by simp; omega), if_neg (by omega), if_pos (by omega)]
section
variable (tos id : Int) (df : Bool) (ttl : Int) (data : ByteArray) (x : Int)
def fPlain : F4 := ⟨tos, id, df, false, 0, ttl, 17, false, 0, 167772161, false, 0, 167772162, data⟩
def fFar : F4 := ⟨tos, id, df, false, 0, ttl, 17, false, 0, 167772161, false, 0, 3758096384 + x, data⟩
def fAll : F4 := ⟨tos, id, df, false, 0, ttl, 17, false, 0, 167772161, false, 0, 4294967295, data⟩
def fNobody : F4 := ⟨tos, id, df, false, 0, ttl, 17, false, 0, 0, false, 0, 167772162, data⟩
def fLoop : F4 := ⟨tos, id, df, false, 0, ttl, 17, false, 0, 2130706432 + x, false, 0, 167772162, data⟩
def fPiece : F4 := ⟨tos, id, df, false, 1 + x, ttl, 17, false, 0, 167772161, false, 0, 167772162, data⟩
def fIcmp : F4 := ⟨tos, id, df, false, 0, ttl, 1, false, 0, 167772161, false, 0, 167772162, data⟩
theorem may_plain : mayF (fPlain tos id df ttl data) = true := by
  unfold mayF fPlain endsB
  simp only [cls_ten1, cls_ten2]
  simp
theorem may_far (h0 : 0 ≤ x) (h1 : x ≤ 268435455) : mayF (fFar tos id df ttl data x) = false := by
  unfold mayF fFar endsB
  simp only [cls_far h0 h1]
  simp
theorem may_all : mayF (fAll tos id df ttl data) = false := by
  unfold mayF fAll endsB
  simp only [show cls false 0 4294967295 = 4 by decide]
  simp
theorem may_nobody : mayF (fNobody tos id df ttl data) = false := by
  unfold mayF fNobody endsB
  simp only [show cls false 0 0 = 0 by decide]
  simp
theorem may_loop (h0 : 0 ≤ x) (h1 : x ≤ 16777215) : mayF (fLoop tos id df ttl data x) = false := by
  unfold mayF fLoop endsB
  simp only [cls_loop h0 h1]
  simp
theorem may_piece (h0 : 0 ≤ x) : mayF (fPiece tos id df ttl data x) = false := by
  unfold mayF fPiece
  simp only [decide_eq_false (show ¬ 1 + x = 0 by omega)]
  simp
theorem may_wrong (he : errB false data = true) : mayF (fIcmp tos id df ttl data) = false := by
  unfold mayF fIcmp
  simp [he]
theorem may_echo (he : errB false data = false) : mayF (fIcmp tos id df ttl data) = true := by
  unfold mayF fIcmp endsB
  simp only [cls_ten1, cls_ten2, he]
  simp
end
theorem err_first (c : UInt8) (s : ByteArray) : errB false (⟨#[c]⟩ ++ s) = errK false (c.toNat : Int) := by
  have hz : ((⟨#[c]⟩ : ByteArray) ++ s).size = 1 + s.size := by rw [ByteArray.size_append]; rfl
  unfold errB
  rw [if_neg (by omega)]
  refine congrArg (errK false) ?_
  rw [← rd_bytesOf, MBytes.append]
  rfl
end Go.Proofs.YtaoopneiglgnkaaDoor.Pure
