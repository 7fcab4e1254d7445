/-
  The pure law FourHops: a packet goes as many hops as its Ttl says, less one; each is the packet with less to go. For packets of bulk at most 1048576.
-/
import Derived.Test.YtedampcicmaamaaPBasex18
import Derived.Test.YtedampcicmaamaaPureFourHop
set_option linter.unusedVariables false
set_option linter.unusedSectionVars false
set_option linter.unusedSimpArgs false
namespace Go.Proofs.Ytedampcicmaamaa.Pure
open Go.RowKit Go.Proofs.Ytedampcicmaamaa.PBase Go.Proofs.YtedampcicmaamaaW.PrintWords Go.Proofs.YtedampcicmaamaaW.PrintLast Go.Proofs.YtedampcicmaamaaW.PrintMore Go.Proofs.Ytedampcicmaamaa.MTally Go.Proofs.Ytedampcicmaamaa.MBe
theorem hops_l0 {tos id : Int} {df mf : Bool} {off ttl proto : Int} {b1 : Bool} {h1 src : Int} {b2 : Bool} {h2 dst : Int} {opts data : ByteArray} (hl : 20 + (opts.size : Int) + (data.size : Int) ≤ 65535) (u1 : 0 ≤ src) (u2 : 0 ≤ dst) :
    ∀ (d : Nat) (s : ByteArray) (t c : Int), t = d → bytesOf s = pkC tos id df mf off t proto src dst opts data c → mayB tos id off t proto b1 h1 src b2 h2 dst opts = true → 0 ≤ c → c ≤ 65535 → S (hdC tos id df mf off t proto src dst opts.size data.size c ++ bytesOf opts) = 65535 →
    Ev (fun k => crosswaylaw06_FourHops.l0 k true s t tos id df mf off ttl proto b1 h1 src b2 h2 dst opts data) true := by
  intro d
  induction d with
  | zero =>
    intro s t c hd hs hm c0 c1 hS
    obtain ⟨t1, _⟩ := take_of (s := s) (B := []) (by rw [List.append_nil]; exact hs) hm hl u1 u2 c0 c1 hS
    refine Ev.step (f := fun k => (ip4_Hop.f k s).bind fun r => (if true = true then (if r.1.toList = ([] : List UInt8) then (some (r.2 == 54)) else (some false)) else (some false))) (fun k => by simp only [crosswaylaw06_FourHops.l0]; rw [if_neg (by omega)]) ?_
    exact Ev.bind (hop_low t1 (by omega)) (ev_pos rfl (ev_pos (by simp) (ev_eq fun _ => rfl)))
  | succ d ih =>
    intro s t c hd hs hm c0 c1 hS
    obtain ⟨t1, _, t3, _⟩ := take_of (s := s) (B := []) (by rw [List.append_nil]; exact hs) hm hl u1 u2 c0 c1 hS
    rw [List.length_nil] at t3
    by_cases ht2 : t < 2
    · refine Ev.step (f := fun k => (ip4_Hop.f k s).bind fun r => (if true = true then (if r.1.toList = ([] : List UInt8) then (some (r.2 == 54)) else (some false)) else (some false))) (fun k => by simp only [crosswaylaw06_FourHops.l0]; rw [if_neg (by omega)]) ?_
      exact Ev.bind (hop_low t1 (by omega)) (ev_pos rfl (ev_pos (by simp) (ev_eq fun _ => rfl)))
    obtain ⟨hop, r0, r1, hS2⟩ := hop_step hs hm hl u1 u2 c0 c1 hS ht2
    obtain ⟨a1, a2, a3, a4, a5, a6, a7, a8, a9, a10⟩ := mayB_of hm
    have hm2 : mayB tos id off (t - 1) proto b1 h1 src b2 h2 dst opts = true := mayB_mk ⟨a1, by omega, a3, a4, a5, a6, a7, a8, a9, a10⟩
    obtain ⟨s2, hs2⟩ : ∃ s2, strOfNums (pkC tos id df mf off (t - 1) proto src dst opts data (nextC t proto c)) = s2 := ⟨_, rfl⟩
    have hbs : bytesOf s2 = pkC tos id df mf off (t - 1) proto src dst opts data (nextC t proto c) := by rw [← hs2]; exact MBytes.ofNums (pkC_bytes _ _ _ _ _ _ _ _ _ _ _ _)
    rw [hs2] at hop
    obtain ⟨v1, _, v3, _⟩ := take_of (s := s2) (B := []) (by rw [List.append_nil]; exact hbs) hm2 hl u1 u2 r0 r1 hS2
    rw [List.length_nil] at v3
    have next := ih s2 (t - 1) (nextC t proto c) (by omega) hbs hm2 r0 r1 hS2
    refine Ev.step (fun k => by simp only [crosswaylaw06_FourHops.l0]; rw [if_pos (by omega)]) ?_
    refine Ev.bind hop (Ev.bind (take_ev s2) ?_)
    rw [v1]
    refine ev_pos rfl ?_
    refine Ev.step (f := fun k => crosswaylaw06_FourHops.l0 k true s2 (t - 1) tos id df mf off ttl proto b1 h1 src b2 h2 dst opts data) (fun k => ?_) next
    simp only [crosswaylaw06_FourHops.j1]
    rw [if_neg (by decide), if_neg (by simp), if_pos (by omega), w64 (by omega) (by omega)]
theorem FourHops (tos id : Int) (df mf : Bool) (off ttl proto : Int) (b1 : Bool) (h1 src : Int) (b2 : Bool) (h2 dst : Int) (opts data : ByteArray) (_ : (Lit.int .i64 tos).wf = true) (_ : (Lit.int .i64 id).wf = true) (_ : (Lit.int .i64 off).wf = true) (_ : (Lit.int .i64 ttl).wf = true) (_ : (Lit.int .i64 proto).wf = true)
    (w1 : (Lit.int .u64 h1).wf = true) (w2 : (Lit.int .u64 src).wf = true) (w3 : (Lit.int .u64 h2).wf = true) (w4 : (Lit.int .u64 dst).wf = true) (ho : opts.size ≤ 140737488351232) (hd : data.size ≤ 140737488351232) (hz : opts.size ≤ 1048576) :
    ∃ k, crosswaylaw06_FourHops.f k tos id df mf off ttl proto b1 h1 src b2 h2 dst opts data = some true := by
  have u1 := (u64_of_wf w2).1
  have u2 := (u64_of_wf w4).1
  refine Ev.rounds (r := true) ?_
  unfold crosswaylaw06_FourHops.f
  refine Ev.bind awake_ev (Ev.bind (lay_ev tos id df mf off ttl proto b1 h1 b2 h2 opts data (by omega) (by omega) u1 u2) ?_)
  cases hm : mayB tos id off ttl proto b1 h1 src b2 h2 dst opts with
  | false =>
    have el : layR tos id df mf off ttl proto b1 h1 src b2 h2 dst opts data = (⟨#[]⟩, 50) := by unfold layR; rw [hm]; rfl
    rw [el]
    exact ev_neg (by decide) (ev_eq fun _ => rfl)
  | true =>
  by_cases hl : 65535 < 20 + (opts.size : Int) + (data.size : Int)
  · have el : layR tos id df mf off ttl proto b1 h1 src b2 h2 dst opts data = (⟨#[]⟩, 53) := by unfold layR; rw [hm, if_pos rfl, if_pos hl]
    rw [el]
    exact ev_neg (by decide) (ev_eq fun _ => rfl)
  have el : layR tos id df mf off ttl proto b1 h1 src b2 h2 dst opts data = (strOfNums (ofR tos id df mf off ttl proto src dst opts data), 0) := by unfold layR; rw [hm, if_pos rfl, if_neg hl]
  rw [el]
  have c := ck_range tos id df mf off ttl proto src dst opts data
  have hS := S_ck tos id df mf off ttl proto src dst opts data
  obtain ⟨s, hs'⟩ : ∃ s, strOfNums (ofR tos id df mf off ttl proto src dst opts data) = s := ⟨_, rfl⟩
  have hbs : bytesOf s = pkC tos id df mf off ttl proto src dst opts data (ck tos id df mf off ttl proto src dst opts data) := by rw [← hs']; exact MBytes.ofNums (pkC_bytes tos id df mf off ttl proto src dst opts data (ck tos id df mf off ttl proto src dst opts data))
  simp only [hs']
  have a2 := (mayB_of hm).2.1
  exact ev_pos (by first | exact True.intro | exact rfl) (hops_l0 (by omega) u1 u2 ttl.toNat s ttl _ (by omega) hbs hm c.1 c.2 hS)
end Go.Proofs.Ytedampcicmaamaa.Pure
