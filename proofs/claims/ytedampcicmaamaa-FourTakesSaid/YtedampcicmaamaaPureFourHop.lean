/-
  One hop of a packet as it was laid: its bytes with less to go, the check mended. No program in sight but its Lean functions. Conditions: those of each theorem.
-/
import Derived.Test.YtedampcicmaamaaPureFourTake
set_option linter.unusedVariables false
set_option linter.unusedSectionVars false
set_option linter.unusedSimpArgs false
namespace Go.Proofs.Ytedampcicmaamaa.Pure
open Go.RowKit Go.Proofs.Ytedampcicmaamaa.PBase Go.Proofs.YtedampcicmaamaaW.PrintWords Go.Proofs.YtedampcicmaamaaW.PrintLast Go.Proofs.YtedampcicmaamaaW.PrintMore Go.Proofs.Ytedampcicmaamaa.MTally Go.Proofs.Ytedampcicmaamaa.MBe
theorem word_eq {x y : Int} (hx : 0 ≤ x ∧ x ≤ 255) (hy : 0 ≤ y ∧ y ≤ 255) : ip4_Hop.word x y = x * 256 + y := by
  unfold ip4_Hop.word
  exact bits_join .u16 16 (by decide) (fun n h0 h1 => by simp only [IntKind.wrap, IntKind.signed, IntKind.bits, Bool.false_and, Bool.false_eq_true, if_false]; omega) 8 _ _ (by omega) (by omega) (by omega) (by omega) (by omega) (by omega)
theorem hop_set (tos id : Int) (df mf : Bool) (off ttl proto src dst : Int) (opts data : ByteArray) (c v c2 : Int) (hv : 0 ≤ v ∧ v ≤ 255) (h0 : 0 ≤ c2) (h1 : c2 ≤ 65535) :
    (((pkC tos id df mf off ttl proto src dst opts data c).set 8 v).set 10 (c2 / 256)).set 11 (c2 % 256) = pkC tos id df mf off v proto src dst opts data c2 := by
  unfold pkC hdC
  simp only [be, List.append_assoc, List.cons_append, List.nil_append, List.set_cons_succ, List.set_cons_zero, Int.pow_zero, Int.ediv_one]
  rw [show (256 : Int) ^ 1 = 256 from rfl, show c2 / 256 % 256 = c2 / 256 by omega, show v % 256 = v by omega]
theorem oadd_spec {a b : Int} (ha : R a) (hb : R b) : ∃ i : Int, oadd a b = a + b - 65535 * i ∧ 0 ≤ oadd a b ∧ oadd a b ≤ 65535 ∧ (a ≠ 0 → oadd a b ≠ 0) := by
  unfold R at ha hb
  unfold oadd
  split
  · exact ⟨1, by omega, by omega, by omega, fun h => by omega⟩
  · exact ⟨0, by omega, by omega, by omega, fun h => by omega⟩
/-- The check that is mended: of any numbers. -/
theorem mended {x w w2 z c : Int} (hx : R x) (hx0 : x ≠ 0) (hw : R w) (hw2 : R w2) (hz : R z) (hc : R c) (h : oadd (oadd (oadd x w) z) c = 65535) :
    R (65535 - oadd (oadd (65535 - c) (65535 - w)) w2) ∧ oadd (oadd (oadd x w2) z) (65535 - oadd (oadd (65535 - c) (65535 - w)) w2) = 65535 := by
  have r := oadd_R (oadd_R (R_compl hc) (R_compl hw)) hw2
  refine ⟨R_compl r, ?_⟩
  obtain ⟨i1, e1, p1, q1, n1⟩ := oadd_spec hx hw
  obtain ⟨i2, e2, p2, q2, n2⟩ := oadd_spec (oadd_R hx hw) hz
  obtain ⟨i3, e3, p3, q3, n3⟩ := oadd_spec (oadd_R (oadd_R hx hw) hz) hc
  obtain ⟨i4, e4, p4, q4, n4⟩ := oadd_spec (R_compl hc) (R_compl hw)
  obtain ⟨i5, e5, p5, q5, n5⟩ := oadd_spec (oadd_R (R_compl hc) (R_compl hw)) hw2
  obtain ⟨i6, e6, p6, q6, n6⟩ := oadd_spec hx hw2
  obtain ⟨i7, e7, p7, q7, n7⟩ := oadd_spec (oadd_R hx hw2) hz
  obtain ⟨i8, e8, p8, q8, n8⟩ := oadd_spec (oadd_R (oadd_R hx hw2) hz) (R_compl r)
  have m6 := n6 hx0
  have m7 := n7 m6
  have m8 := n8 m7
  clear n1 n2 n3 n4 n5 n6 n7 n8
  generalize oadd (oadd (oadd x w2) z) (65535 - oadd (oadd (65535 - c) (65535 - w)) w2) = y8 at *
  generalize oadd (oadd x w2) z = y7 at *
  generalize oadd x w2 = y6 at *
  generalize oadd (oadd (65535 - c) (65535 - w)) w2 = y5 at *
  generalize oadd (65535 - c) (65535 - w) = y4 at *
  generalize oadd (oadd (oadd x w) z) c = y3 at *
  generalize oadd (oadd x w) z = y2 at *
  generalize oadd x w = y1 at *
  omega
/-- What stands ahead of the hops that are left. -/
def hdB (tos id : Int) (df mf : Bool) (off ol dl : Int) : List Int := be (64 + (20 + ol) / 4) 1 ++ be tos 1 ++ be (20 + ol + dl) 2 ++ be id 2 ++ be (bitsN df mf off) 2
theorem hdB_bytes (tos id : Int) (df mf : Bool) (off ol dl : Int) : Bytes (hdB tos id df mf off ol dl) := by
  have b := fun n w => (be_bytes n w : Bytes (be n w))
  unfold hdB
  exact Bytes.append (Bytes.append (Bytes.append (Bytes.append (b _ _) (b _ _)) (b _ _)) (b _ _)) (b _ _)
theorem hdB_S (tos id : Int) (df mf : Bool) (off ol dl : Int) (h0 : 0 ≤ ol) (h1 : ol ≤ 40) : S (hdB tos id df mf off ol dl) ≠ 0 := by
  intro h
  have h2 := (S_eq_zero (hdB_bytes tos id df mf off ol dl)).1 h ((64 + (20 + ol) / 4) % 256) (by unfold hdB; simp [be])
  omega
theorem hdA_S {tos id : Int} {df mf : Bool} {off ttl proto ol dl : Int} (ht : 0 ≤ ttl ∧ ttl ≤ 255) (hp : 0 ≤ proto ∧ proto ≤ 255) : S (hdA tos id df mf off ttl proto ol dl) = oadd (S (hdB tos id df mf off ol dl)) (ttl * 256 + proto) := by
  have e : hdA tos id df mf off ttl proto ol dl = hdB tos id df mf off ol dl ++ ttl :: proto :: [] := by
    unfold hdA hdB
    rw [be_one ht, be_one hp]
    simp only [List.append_assoc, List.cons_append, List.nil_append]
  rw [e, S_word (by unfold hdB; simp [be_length]) (hdB_bytes _ _ _ _ _ _ _) Bytes.nil ht hp]
  rw [show S [] = 0 from rfl, oadd_zero (S_R (hdB_bytes _ _ _ _ _ _ _))]
theorem hop_low {s : ByteArray} {t1 t2 : Int} {t3 t4 : Bool} {t5 t6 t7 : Int} {t8 : Bool} {t9 t10 : Int} {t11 : Bool} {t12 t13 : Int} {t14 t15 : ByteArray} (h : takeR s = (t1, t2, t3, t4, t5, t6, t7, t8, t9, t10, t11, t12, t13, t14, t15, 0)) (h2 : t6 < 2) :
    Ev (fun k => ip4_Hop.f k s) (⟨#[]⟩, 54) := by
  unfold ip4_Hop.f
  refine Ev.bind (take_ev s) ?_
  rw [h]
  exact ev_neg (by simp) (ev_pos h2 (ev_eq fun _ => rfl))
/-- The next check. -/
def nextC (ttl proto c : Int) : Int := 65535 - oadd (oadd (65535 - c) (65535 - (ttl * 256 + proto))) ((ttl - 1) * 256 + proto)
theorem hop_stepB {s : ByteArray} {tos id : Int} {df mf : Bool} {off ttl proto : Int} {b1 : Bool} {h1 src : Int} {b2 : Bool} {h2 dst : Int} {opts data : ByteArray} {c : Int} {B : List Int} (h : bytesOf s = pkC tos id df mf off ttl proto src dst opts data c ++ B)
    (hm : mayB tos id off ttl proto b1 h1 src b2 h2 dst opts = true) (hl : 20 + (opts.size : Int) + (data.size : Int) ≤ 65535) (u1 : 0 ≤ src) (u2 : 0 ≤ dst) (c0 : 0 ≤ c) (c1 : c ≤ 65535) (hS : S (hdC tos id df mf off ttl proto src dst opts.size data.size c ++ bytesOf opts) = 65535) (ht : ¬ ttl < 2) :
    Ev (fun k => ip4_Hop.f k s) (strOfNums (pkC tos id df mf off (ttl - 1) proto src dst opts data (nextC ttl proto c)), 0) ∧ 0 ≤ nextC ttl proto c ∧ nextC ttl proto c ≤ 65535 ∧
    S (hdC tos id df mf off (ttl - 1) proto src dst opts.size data.size (nextC ttl proto c) ++ bytesOf opts) = 65535 := by
  obtain ⟨a1, a2, a3, a4, a5, a6, a7, a8, a9, a10⟩ := mayB_of hm
  obtain ⟨t1, t2, t3, e8, e9, e10, e11⟩ := take_of (s := s) h hm hl u1 u2 c0 c1 hS
  have hS2 := hS
  rw [S_check _ _ _ _ _ _ _ _ _ _ _ _ c0 c1, hdA_S a2 a3] at hS2
  have hM := mended (w2 := (ttl - 1) * 256 + proto) (S_R (hdB_bytes tos id df mf off opts.size data.size)) (hdB_S tos id df mf off opts.size data.size (by omega) (by omega)) (by unfold R; omega) (by unfold R; omega) (S_R (hdZ_bytes src dst opts)) ⟨c0, c1⟩ hS2
  rw [show 65535 - oadd (oadd (65535 - c) (65535 - (ttl * 256 + proto))) ((ttl - 1) * 256 + proto) = nextC ttl proto c from rfl] at hM
  have r0 : 0 ≤ nextC ttl proto c := hM.1.1
  have r1 : nextC ttl proto c ≤ 65535 := hM.1.2
  refine ⟨?_, r0, r1, ?_⟩
  · unfold ip4_Hop.f
    refine Ev.bind (take_ev s) ?_
    rw [t1]
    refine ev_neg (by simp) (ev_neg ht (Ev.bind (heads_ev s) ?_))
    rw [t2]
    dsimp only
    refine ev_neg (fun q => q ⟨by omega, by omega, by omega⟩) ?_
    rw [e8, e9, e10, e11, word_eq (x := c / 256) (by omega) (by omega), word_eq (x := ttl) (by omega) (by omega), show (ttl - 1) % 256 = ttl - 1 by omega, word_eq (x := ttl - 1) (by omega) (by omega), show c / 256 * 256 + c % 256 = c by omega]
    refine ev_bind (PureT.upd_eq ⟨c0, c1⟩ (by unfold R; omega) (by unfold R; omega)) ?_
    rw [show 65535 - oadd (oadd (65535 - c) (65535 - (ttl * 256 + proto))) ((ttl - 1) * 256 + proto) = nextC ttl proto c from rfl]
    refine ev_neg (fun q => q ⟨r0, r1⟩) (ev_eq fun _ => ?_)
    unfold ip4_Hop.of
    rw [MBytes.extract, List.drop_zero, Nat.sub_zero, h, List.take_left' (by rw [pkC_length]; omega), e8, show (ttl - 1) % 256 = ttl - 1 by omega, hop_set _ _ _ _ _ _ _ _ _ _ _ _ _ _ (by omega) r0 r1]
  · rw [S_check _ _ _ _ _ _ _ _ _ _ _ _ r0 r1, hdA_S (by omega) a3]
    exact hM.2
theorem hop_step {s : ByteArray} {tos id : Int} {df mf : Bool} {off ttl proto : Int} {b1 : Bool} {h1 src : Int} {b2 : Bool} {h2 dst : Int} {opts data : ByteArray} {c : Int} (h : bytesOf s = pkC tos id df mf off ttl proto src dst opts data c)
    (hm : mayB tos id off ttl proto b1 h1 src b2 h2 dst opts = true) (hl : 20 + (opts.size : Int) + (data.size : Int) ≤ 65535) (u1 : 0 ≤ src) (u2 : 0 ≤ dst) (c0 : 0 ≤ c) (c1 : c ≤ 65535) (hS : S (hdC tos id df mf off ttl proto src dst opts.size data.size c ++ bytesOf opts) = 65535) (ht : ¬ ttl < 2) :
    Ev (fun k => ip4_Hop.f k s) (strOfNums (pkC tos id df mf off (ttl - 1) proto src dst opts data (nextC ttl proto c)), 0) ∧ 0 ≤ nextC ttl proto c ∧ nextC ttl proto c ≤ 65535 ∧
    S (hdC tos id df mf off (ttl - 1) proto src dst opts.size data.size (nextC ttl proto c) ++ bytesOf opts) = 65535 :=
  hop_stepB (B := []) (by rw [List.append_nil]; exact h) hm hl u1 u2 c0 c1 hS ht
end Go.Proofs.Ytedampcicmaamaa.Pure
