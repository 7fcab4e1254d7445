/-
  What icmp.Lay and icmp.Take come to. No program in sight but their Lean functions. Conditions: those of each theorem.
-/
import Derived.Test.YtmkjeidejgbicaaPureTally08
import Derived.Test.YtmkjeidejgbicaaMBytes
set_option linter.unusedVariables false
set_option linter.unusedSectionVars false
set_option linter.unusedSimpArgs false
namespace Go.Proofs.Ytmkjeidejgbicaa.Pure
open Go.RowKit Go.Proofs.Ytmkjeidejgbicaa.PBase Go.Proofs.YtmkjeidejgbicaaW.PrintWords Go.Proofs.YtmkjeidejgbicaaW.PrintLast Go.Proofs.YtmkjeidejgbicaaW.PrintMore Go.Proofs.Ytmkjeidejgbicaa.MTally Go.Proofs.Ytmkjeidejgbicaa.MBe
theorem M_bytes (kind code rest : Int) (data : ByteArray) (check : Int) : Bytes (icmp_base_bytes.of kind code rest data check) := by
  unfold icmp_base_bytes.of
  refine ((Bytes.append (Bytes.append ?_ (be_bytes _ _)) (be_bytes _ _))).append (MBytes.range _)
  intro x hx
  simp only [List.mem_cons, List.not_mem_nil, or_false] at hx
  omega
/-- What else is summed up with a message. -/
def ps (six b1 : Bool) (h1 l1 h2 l2 n : Int) : Int := if six = true then S (PureT.ends b1 h1 l1 h2 l2 n 58) else 0
theorem ps_R (six b1 : Bool) (h1 l1 h2 l2 n : Int) : R (ps six b1 h1 l1 h2 l2 n) := by
  unfold ps; split
  · exact S_R (PureT.ends_bytes _ _ _ _ _ _ _)
  · exact R_zero
theorem side_ev {h1 l1 h2 l2 : Int} (u1 : PureT.U h1) (u2 : PureT.U l1) (u3 : PureT.U h2) (u4 : PureT.U l2) (six b1 b2 : Bool) (n : Int) : Ev (fun k => icmp_Lay.side k six b1 h1 l1 b2 h2 l2 n) (ps six b1 h1 l1 h2 l2 n) := by
  unfold icmp_Lay.side ps
  by_cases h : six = true
  · rw [if_pos h]; exact ev_pos h (PureT.pseudo_ev b1 h1 l1 b2 h2 l2 n 58 u1 u2 u3 u4)
  · rw [if_neg h]; exact ev_neg h (ev_eq fun _ => rfl)
def may (kind code rest : Int) (n : Nat) : Bool := decide (0 ≤ kind ∧ kind < 256 ∧ 0 ≤ code ∧ code < 256 ∧ 0 ≤ rest ∧ rest < 4294967296 ∧ n ≤ 65000)
theorem may_eq (s : Bool) (kind code rest : Int) (data : ByteArray) (b1 : Bool) (h1 l1 : Int) (b2 : Bool) (h2 l2 : Int) : icmp_base_may.f s kind code rest data b1 h1 l1 b2 h2 l2 = some (may kind code rest data.size) := by
  unfold icmp_base_may.f may
  repeat' split
  all_goals (congr 1; first | (apply decide_eq_decide.2; omega) | (symm; apply decide_eq_false; omega))
theorem right_eq (s : Bool) (kind code rest : Int) (data : ByteArray) : crosswayref08_Right.f s kind code rest data = some (may kind code rest data.size) := by
  unfold crosswayref08_Right.f may
  repeat' split
  all_goals (congr 1; first | (apply decide_eq_decide.2; omega) | (symm; apply decide_eq_false; omega))
theorem may_size {kind code rest : Int} {n : Nat} (h : may kind code rest n = true) : (0 ≤ kind ∧ kind < 256) ∧ (0 ≤ code ∧ code < 256) ∧ (0 ≤ rest ∧ rest < 4294967296) ∧ n ≤ 65000 := by
  have := of_decide_eq_true h; omega
/-- The check of a message. -/
def chk (six : Bool) (kind code rest : Int) (data : ByteArray) (b1 : Bool) (h1 l1 h2 l2 : Int) : Int := 65535 - oadd (ps six b1 h1 l1 h2 l2 (8 + (data.size : Int))) (S (icmp_base_bytes.of kind code rest data 0))
theorem chk_R (six : Bool) (kind code rest : Int) (data : ByteArray) (b1 : Bool) (h1 l1 h2 l2 : Int) : R (chk six kind code rest data b1 h1 l1 h2 l2) := R_compl (oadd_R (ps_R ..) (S_R (M_bytes _ _ _ _ _)))
def layR (six : Bool) (kind code rest : Int) (data : ByteArray) (b1 : Bool) (h1 l1 : Int) (b2 : Bool) (h2 l2 : Int) : ByteArray × Int :=
  if six = true ∧ (b1 && b2) = false then (⟨#[]⟩, 70) else if may kind code rest data.size = false then (⟨#[]⟩, 70) else
  (strOfNums (icmp_base_bytes.of kind code rest data (chk six kind code rest data b1 h1 l1 h2 l2)), 0)
theorem lay_ev {h1 l1 h2 l2 : Int} (u1 : PureT.U h1) (u2 : PureT.U l1) (u3 : PureT.U h2) (u4 : PureT.U l2) (six : Bool) (kind code rest : Int) (data : ByteArray) (b1 b2 : Bool) : Ev (fun k => icmp_Lay.f k six kind code rest data b1 h1 l1 b2 h2 l2) (layR six kind code rest data b1 h1 l1 b2 h2 l2) := by
  unfold icmp_Lay.f layR
  by_cases ho : six = true ∧ (b1 && b2) = false
  · rw [if_pos ho]; exact ev_pos ho (ev_eq fun _ => rfl)
  rw [if_neg ho]
  refine ev_neg ho (ev_bind (may_eq ..) ?_)
  by_cases hm : may kind code rest data.size = false
  · rw [if_pos hm]; exact ev_pos hm (ev_eq fun _ => rfl)
  rw [if_neg hm]
  have hs := may_size (by simpa using hm)
  have hl := icmp_base_bytes.of_length kind code rest data 0
  have hR := chk_R six kind code rest data b1 h1 l1 h2 l2
  have hR2 := oadd_R (ps_R six b1 h1 l1 h2 l2 (8 + (data.size : Int))) (S_R (M_bytes kind code rest data 0))
  refine ev_neg hm (Ev.bind (side_ev u1 u2 u3 u4 six b1 b2 _) (Ev.bind (PureT.sum1_ev (M_bytes kind code rest data 0) (by omega)) (ev_bind (PureT.add_eq (ps_R ..) (S_R (M_bytes _ _ _ _ _))) (ev_pos ?_ (ev_eq fun _ => rfl)))))
  unfold R at hR2; omega
/-- What icmp.Take comes to. -/
def takeR (s : ByteArray) (six b1 : Bool) (h1 l1 : Int) (b2 : Bool) (h2 l2 : Int) : Bool × Int × Int × Int × ByteArray × Int :=
  if six = true ∧ (b1 && b2) = false then (false, 0, 0, 0, ⟨#[]⟩, 70) else
  if s.size < 8 then (false, 0, 0, 0, ⟨#[]⟩, 71) else
  if oadd (ps six b1 h1 l1 h2 l2 (s.size : Int)) (S (bytesOf s)) ≠ 65535 then (false, 0, 0, 0, ⟨#[]⟩, 72) else
  if 65008 < s.size then (false, 0, 0, 0, ⟨#[]⟩, 70) else
  (six, bt s 0, bt s 1, num (((bytesOf s).drop 4).take 4), s.extract 8 s.size, 0)
theorem num4 {l : List Int} (hb : Bytes l) : 0 ≤ num ((l.drop 4).take 4) ∧ num ((l.drop 4).take 4) < 4294967296 := by
  have h := num_range (l := (l.drop 4).take 4) ((hb.drop _).take _)
  have hl : ((l.drop 4).take 4).length ≤ 4 := by rw [List.length_take]; omega
  have h5 : ((l.drop 4).take 4).length = 0 ∨ ((l.drop 4).take 4).length = 1 ∨ ((l.drop 4).take 4).length = 2 ∨ ((l.drop 4).take 4).length = 3 ∨ ((l.drop 4).take 4).length = 4 := by omega
  rcases h5 with e | e | e | e | e <;> rw [e] at h <;> omega
theorem take_ev {h1 l1 h2 l2 : Int} (u1 : PureT.U h1) (u2 : PureT.U l1) (u3 : PureT.U h2) (u4 : PureT.U l2) (s : ByteArray) (hsz : s.size ≤ 140737488351232) (six b1 b2 : Bool) : Ev (fun k => icmp_Take.f k s six b1 h1 l1 b2 h2 l2) (takeR s six b1 h1 l1 b2 h2 l2) := by
  unfold icmp_Take.f takeR
  by_cases ho : six = true ∧ (b1 && b2) = false
  · rw [if_pos ho]; exact ev_pos ho (ev_eq fun _ => rfl)
  rw [if_neg ho]
  refine ev_neg ho ?_
  by_cases h8 : s.size < 8
  · rw [if_pos h8]; exact ev_pos h8 (ev_eq fun _ => rfl)
  rw [if_neg h8]
  have hb := MBytes.range s
  have hl := bytesOf_length s
  refine ev_neg h8 (ev_neg (by omega) (Ev.bind (side_ev u1 u2 u3 u4 six b1 b2 _) (Ev.bind (PureT.sum1_ev hb (by omega)) (ev_bind (PureT.add_eq (ps_R ..) (S_R hb)) ?_))))
  by_cases hc : oadd (ps six b1 h1 l1 h2 l2 (s.size : Int)) (S (bytesOf s)) ≠ 65535
  · rw [if_pos hc]; exact ev_pos hc (ev_eq fun _ => rfl)
  rw [if_neg hc]
  refine ev_neg hc ?_
  by_cases hg : 65008 < s.size
  · rw [if_pos hg]; exact ev_pos hg (ev_eq fun _ => rfl)
  rw [if_neg hg]
  refine ev_neg hg ?_
  have hx := MBytes.extract s 0 8
  have hg8 := get_ev (l := bytesOf (s.extract 0 8)) (a := 4) (w := 4) (MBytes.range _) (by rw [hx]; simp; omega) (by omega) (by omega)
  have hn := num4 hb
  have e : get (bytesOf (s.extract 0 8)) 4 4 = (num (((bytesOf s).drop 4).take 4), true) := by
    unfold get
    have hlen : (bytesOf (s.extract 0 8)).length = 8 := by rw [hx]; simp; omega
    rw [if_pos (by unfold fits; omega)]
    unfold slice_
    rw [hx]
    congr 2
    simp [List.drop_take, List.take_take]
  rw [e] at hg8
  refine Ev.bind hg8 (ev_eq fun _ => ?_)
  rw [w64 (by omega) (by omega)]
end Go.Proofs.Ytmkjeidejgbicaa.Pure
