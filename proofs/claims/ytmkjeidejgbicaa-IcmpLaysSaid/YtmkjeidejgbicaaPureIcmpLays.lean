/-
  The pure laws IcmpLays and IcmpTakes: a message is laid, and bytes are taken up, as the document says; for all messages, bytes and ends.
-/
import Derived.Test.YtmkjeidejgbicaaPBasex9
import Derived.Test.YtmkjeidejgbicaaPureIcmpR
set_option linter.unusedVariables false
set_option linter.unusedSimpArgs false
namespace Go.Proofs.Ytmkjeidejgbicaa.Pure
open Go.RowKit Go.Proofs.Ytmkjeidejgbicaa.PBase Go.Proofs.YtmkjeidejgbicaaW.PrintWords Go.Proofs.YtmkjeidejgbicaaW.PrintLast Go.Proofs.YtmkjeidejgbicaaW.PrintMore Go.Proofs.Ytmkjeidejgbicaa.MTally Go.Proofs.Ytmkjeidejgbicaa.MBe
theorem IcmpLays (six : Bool) (kind code rest : Int) (data : ByteArray) (b1 : Bool) (h1 l1 : Int) (b2 : Bool) (h2 l2 : Int) (_ : (Lit.int .i64 kind).wf = true) (_ : (Lit.int .i64 code).wf = true) (_ : (Lit.int .i64 rest).wf = true) (hs : data.size ≤ 140737488351232)
    (w1 : (Lit.int .u64 h1).wf = true) (w2 : (Lit.int .u64 l1).wf = true) (w3 : (Lit.int .u64 h2).wf = true) (w4 : (Lit.int .u64 l2).wf = true) : ∃ k, crosswaylaw08_IcmpLays.f k six kind code rest data b1 h1 l1 b2 h2 l2 = some true := by
  have u1 := PureT.U_of_wf w1; have u2 := PureT.U_of_wf w2; have u3 := PureT.U_of_wf w3; have u4 := PureT.U_of_wf w4
  refine Ev.rounds (r := true) ?_
  unfold crosswaylaw08_IcmpLays.f
  exact ev_bind rfl (Ev.bind (lay_ev u1 u2 u3 u4 six kind code rest data b1 b2) (Ev.bind (rlay_ev u1 u2 u3 u4 six kind code rest data b1 b2) (ev_pos rfl (ev_pos rfl (ev_eq fun _ => by simp)))))
theorem IcmpTakes (s : ByteArray) (six : Bool) (b1 : Bool) (h1 l1 : Int) (b2 : Bool) (h2 l2 : Int) (hs : s.size ≤ 140737488351232)
    (w1 : (Lit.int .u64 h1).wf = true) (w2 : (Lit.int .u64 l1).wf = true) (w3 : (Lit.int .u64 h2).wf = true) (w4 : (Lit.int .u64 l2).wf = true) : ∃ k, crosswaylaw08_IcmpTakes.f k s six b1 h1 l1 b2 h2 l2 = some true := by
  have u1 := PureT.U_of_wf w1; have u2 := PureT.U_of_wf w2; have u3 := PureT.U_of_wf w3; have u4 := PureT.U_of_wf w4
  refine Ev.rounds (r := true) ?_
  unfold crosswaylaw08_IcmpTakes.f
  exact ev_bind rfl (Ev.bind (take_ev u1 u2 u3 u4 s hs six b1 b2) (Ev.bind (rtake_ev u1 u2 u3 u4 s hs six b1 b2) (ev_pos rfl (ev_pos (by simp) (ev_eq fun _ => by simp)))))
end Go.Proofs.Ytmkjeidejgbicaa.Pure
