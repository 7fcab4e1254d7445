/-
  The pure law FourBack: what a packet is laid as is taken up as that packet, whatever stands behind, and nothing that is cut short is. For packets of bulk at most 1048576.
-/
import Derived.Test.YtedampcicmaamaaPBasex17
import Derived.Test.YtedampcicmaamaaPureFourTake
set_option linter.unusedVariables false
set_option linter.unusedSectionVars false
set_option linter.unusedSimpArgs false
namespace Go.Proofs.Ytedampcicmaamaa.Pure
open Go.RowKit Go.Proofs.Ytedampcicmaamaa.PBase Go.Proofs.YtedampcicmaamaaW.PrintWords Go.Proofs.YtedampcicmaamaaW.PrintLast Go.Proofs.YtedampcicmaamaaW.PrintMore Go.Proofs.Ytedampcicmaamaa.MTally Go.Proofs.Ytedampcicmaamaa.MBe
theorem ofR_pk (tos id : Int) (df mf : Bool) (off ttl proto src dst : Int) (opts data : ByteArray) : ofR tos id df mf off ttl proto src dst opts data = pkC tos id df mf off ttl proto src dst opts data (ck tos id df mf off ttl proto src dst opts data) := rfl
theorem back_j0 (B : ByteArray) (hB : B.size ≤ 5000) (cut : Int) (hcut : -9223372036854775808 ≤ cut ∧ cut ≤ 9223372036854775807) (tos id : Int) (df mf : Bool) (off ttl proto : Int) (b1 : Bool) (h1 : Int) {src : Int} (b2 : Bool) (h2 : Int) {dst : Int} (opts data : ByteArray)
    (hs : opts.size ≤ 1099511627776) (hd : data.size ≤ 140737488355328) (u1 : 0 ≤ src) (u2 : 0 ≤ dst) :
    Ev (fun k => crosswaylaw06_FourBack.j0 k B cut true tos id df mf off ttl proto b1 h1 src b2 h2 dst opts data) true := by
  refine Ev.step (fun k => by simp only [crosswaylaw06_FourBack.j0]; rfl) ?_
  refine Ev.bind (lay_ev tos id df mf off ttl proto b1 h1 b2 h2 opts data hs hd u1 u2) ?_
  cases hm : mayB tos id off ttl proto b1 h1 src b2 h2 dst opts with
  | false =>
    have el : layR tos id df mf off ttl proto b1 h1 src b2 h2 dst opts data = (⟨#[]⟩, 50) := by unfold layR; rw [hm]; rfl
    rw [el]
    exact ev_neg (by decide) (ev_pos (by first | exact True.intro | exact rfl) (ev_eq fun _ => by simp))
  | true =>
  by_cases hl : 65535 < 20 + (opts.size : Int) + (data.size : Int)
  · have el : layR tos id df mf off ttl proto b1 h1 src b2 h2 dst opts data = (⟨#[]⟩, 53) := by unfold layR; rw [hm, if_pos rfl, if_pos hl]
    rw [el]
    exact ev_neg (by decide) (ev_pos (by first | exact True.intro | exact rfl) (ev_eq fun _ => by simp))
  have el : layR tos id df mf off ttl proto b1 h1 src b2 h2 dst opts data = (strOfNums (ofR tos id df mf off ttl proto src dst opts data), 0) := by unfold layR; rw [hm, if_pos rfl, if_neg hl]
  rw [el]
  have c := ck_range tos id df mf off ttl proto src dst opts data
  have hS := S_ck tos id df mf off ttl proto src dst opts data
  obtain ⟨s, hs'⟩ : ∃ s, strOfNums (ofR tos id df mf off ttl proto src dst opts data) = s := ⟨_, rfl⟩
  have hbs : bytesOf s = pkC tos id df mf off ttl proto src dst opts data (ck tos id df mf off ttl proto src dst opts data) := by rw [← hs', ofR_pk]; exact MBytes.ofNums (pkC_bytes _ _ _ _ _ _ _ _ _ _ _ _)
  simp only [hs']
  obtain ⟨t1, t2, t3, _⟩ := take_of (s := s) (B := []) (by rw [List.append_nil]; exact hbs) hm (by omega) u1 u2 c.1 c.2 hS
  obtain ⟨t4, _, _, _⟩ := take_of (s := s ++ B) (B := bytesOf B) (by rw [MBytes.append, hbs]) hm (by omega) u1 u2 c.1 c.2 hS
  rw [List.length_nil] at t3
  have t5 : at_ (bytesOf s) 2 2 = (s.size : Int) := by
    have h0 := (heads_ok (s := s) (by rw [t2])).2.2.2.2.2.2.2.2
    rw [t2] at h0
    injection h0 with _ h0
    injection h0 with h0 _
    omega
  refine ev_pos (by first | exact True.intro | exact rfl) (ev_pos (by omega) (Ev.bind (take_ev (s ++ B)) ?_))
  rw [t4]
  have fin : ∀ n : Int, 0 ≤ n → n < (s.size : Int) → ∀ g : Nat → Option Bool, Ev g true → True := fun _ _ _ _ _ => trivial
  by_cases hneg : cut < 0
  · have e : wrap64 (-(wrap64 (cut + 1))) = -(cut + 1) := by rw [w64 (n := cut + 1) (by omega) (by omega)]; exact w64 (by omega) (by omega)
    refine ev_pos hneg (ev_neg (by omega) ?_)
    rw [e, Int.tmod_eq_emod_of_nonneg (by omega)]
    have n0 := Int.emod_nonneg (-(cut + 1)) (show (s.size : Int) ≠ 0 by omega)
    have n1 := Int.emod_lt_of_pos (-(cut + 1)) (show 0 < (s.size : Int) by omega)
    have hk := take_cut (s := s) t5 (n := (-(cut + 1) % (s.size : Int)).toNat) (by omega)
    refine ev_pos n0 (ev_pos (by omega) (Ev.bind (take_ev _) (ev_pos (by first | exact True.intro | exact rfl) (ev_pos (by first | exact True.intro | exact rfl) (ev_pos (by simp) (ev_eq fun _ => ?_))))))
    rw [bne_iff_ne.2 hk]
  · refine ev_neg hneg (ev_neg (by omega) ?_)
    rw [Int.tmod_eq_emod_of_nonneg (by omega)]
    have n0 := Int.emod_nonneg cut (show (s.size : Int) ≠ 0 by omega)
    have n1 := Int.emod_lt_of_pos cut (show 0 < (s.size : Int) by omega)
    have hk := take_cut (s := s) t5 (n := (cut % (s.size : Int)).toNat) (by omega)
    refine ev_pos n0 (ev_pos (by omega) (Ev.bind (take_ev _) (ev_pos (by first | exact True.intro | exact rfl) (ev_pos (by first | exact True.intro | exact rfl) (ev_pos (by simp) (ev_eq fun _ => ?_))))))
    rw [bne_iff_ne.2 hk]
theorem FourBack (tos id : Int) (df mf : Bool) (off ttl proto : Int) (b1 : Bool) (h1 src : Int) (b2 : Bool) (h2 dst : Int) (opts data : ByteArray) (B : ByteArray) (cut : Int) (_ : (Lit.int .i64 tos).wf = true) (_ : (Lit.int .i64 id).wf = true) (_ : (Lit.int .i64 off).wf = true) (_ : (Lit.int .i64 ttl).wf = true) (_ : (Lit.int .i64 proto).wf = true)
    (w1 : (Lit.int .u64 h1).wf = true) (w2 : (Lit.int .u64 src).wf = true) (w3 : (Lit.int .u64 h2).wf = true) (w4 : (Lit.int .u64 dst).wf = true) (ho : opts.size ≤ 140737488351232) (hd : data.size ≤ 140737488351232) (hB : B.size ≤ 140737488351232) (wc : (Lit.int .i64 cut).wf = true) (hz : opts.size ≤ 1048576) :
    ∃ k, crosswaylaw06_FourBack.f k tos id df mf off ttl proto b1 h1 src b2 h2 dst opts data B cut = some true := by
  have hc := i64_of_wf wc
  refine Ev.rounds (r := true) ?_
  unfold crosswaylaw06_FourBack.f
  refine Ev.bind awake_ev (ev_pos (by first | exact True.intro | exact rfl) ?_)
  by_cases hb : (B.size : Int) > 5000
  · refine ev_pos hb (ev_pos (by omega) (ev_pos (by omega) ?_))
    exact back_j0 _ (by rw [← bytesOf_length, MBytes.extract]; simp; omega) cut hc tos id df mf off ttl proto b1 h1 b2 h2 opts data (by omega) (by omega) (u64_of_wf w2).1 (u64_of_wf w4).1
  · exact ev_neg hb (back_j0 _ (by omega) cut hc tos id df mf off ttl proto b1 h1 b2 h2 opts data (by omega) (by omega) (u64_of_wf w2).1 (u64_of_wf w4).1)
end Go.Proofs.Ytedampcicmaamaa.Pure
