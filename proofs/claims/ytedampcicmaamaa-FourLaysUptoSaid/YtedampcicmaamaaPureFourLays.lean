/-
  The pure law FourLays: any packet is laid as the document says, or is refused. For packets of bulk at most 1048576.
-/
import Derived.Test.YtedampcicmaamaaPBasex12
import Derived.Test.YtedampcicmaamaaPureFourLay
set_option linter.unusedVariables false
set_option linter.unusedSimpArgs false
namespace Go.Proofs.Ytedampcicmaamaa.Pure
open Go.RowKit Go.Proofs.Ytedampcicmaamaa.PBase Go.Proofs.YtedampcicmaamaaW.PrintWords Go.Proofs.YtedampcicmaamaaW.PrintLast Go.Proofs.YtedampcicmaamaaW.PrintMore Go.Proofs.Ytedampcicmaamaa.MTally Go.Proofs.Ytedampcicmaamaa.MBe
theorem FourLays (tos id : Int) (df mf : Bool) (off ttl proto : Int) (b1 : Bool) (h1 src : Int) (b2 : Bool) (h2 dst : Int) (opts data : ByteArray) (_ : (Lit.int .i64 tos).wf = true) (_ : (Lit.int .i64 id).wf = true) (_ : (Lit.int .i64 off).wf = true) (_ : (Lit.int .i64 ttl).wf = true) (_ : (Lit.int .i64 proto).wf = true)
    (w1 : (Lit.int .u64 h1).wf = true) (w2 : (Lit.int .u64 src).wf = true) (w3 : (Lit.int .u64 h2).wf = true) (w4 : (Lit.int .u64 dst).wf = true) (ho : opts.size ≤ 140737488351232) (hd : data.size ≤ 140737488351232) (hz : opts.size ≤ 1048576) : ∃ k, crosswaylaw06_FourLays.f k tos id df mf off ttl proto b1 h1 src b2 h2 dst opts data = some true := by
  refine Ev.rounds (r := true) ?_
  unfold crosswaylaw06_FourLays.f
  exact Ev.bind awake_ev (Ev.bind (lay_ev tos id df mf off ttl proto b1 h1 b2 h2 opts data (by omega) (by omega) (u64_of_wf w2).1 (u64_of_wf w4).1) (Ev.bind (rlay_ev tos id df mf off ttl proto b1 h1 b2 h2 opts data (by omega) (by omega) (u64_of_wf w2).1 (u64_of_wf w4).1) (ev_pos rfl (ev_pos rfl (ev_eq fun _ => by simp)))))
end Go.Proofs.Ytedampcicmaamaa.Pure
