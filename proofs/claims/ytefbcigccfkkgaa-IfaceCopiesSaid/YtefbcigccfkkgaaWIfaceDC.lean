/-
  Several texts in one. Conditions: those of each theorem.
-/
import Derived.Test.YtefbcigccfkkgaaWIfaceD8
set_option linter.unusedVariables false
set_option linter.unusedSimpArgs false
namespace Go.Proofs.Ytefbcigccfkkgaa.WIf
open Go.RowKit Go.Maps Go.WideMaps Go.Proofs.Ytefbcigccfkkgaa.PBase Go.Proofs.YtefbcigccfkkgaaW.PrintWords Go.Proofs.YtefbcigccfkkgaaW.PrintLast Go.Proofs.YtefbcigccfkkgaaW.PrintMore Go.Proofs.Ytefbcigccfkkgaa.If
attribute [local go_sem] max2_int min2_int max_two min_two
theorem same_l0 (L : List Lo) (h8 : L.length ≤ 8) : ∀ (d i : Nat), i + d = L.length → crosswaylaw14_sameLocals.l0 (d + 1) L L (i : Int) = some true := by
  intro d
  induction d with
  | zero =>
    intro i h
    unfold crosswaylaw14_sameLocals.l0
    rw [if_neg (by omega)]
  | succ d ih =>
    intro i h
    unfold crosswaylaw14_sameLocals.l0
    rw [if_pos (by omega), if_pos (by omega), if_pos (by omega), if_neg (by simp)]
    have e : wrap64 ((i : Int) + 1) = ((i + 1 : Nat) : Int) := by unfold wrap64; omega
    rw [e]
    exact ih (i + 1) (by omega)
theorem same_self (L : List Lo) (h8 : L.length ≤ 8) : crosswaylaw14_sameLocals.f (L.length + 1) L L = some true := by
  unfold crosswaylaw14_sameLocals.f
  rw [if_pos rfl]
  exact same_l0 L h8 L.length 0 (by omega)
theorem eqPort (d : Nat) (w : World) (x0 y0 : ByteArray) (x1 y1 x2 y2 : Int) (x3 y3 : Bool) :
    (Op.equalIn (d + 2) 50 (.agg #[.string x0, .int .u64 x1, .int .i64 x2, .bool x3]) (.agg #[.string y0, .int .u64 y1, .int .i64 y2, .bool y3])).run Try.prog w = .ok (x0.toList == y0.toList && (x1 == y1 && (x2 == y2 && (x3 == y3)))) w := by
  refine eqA_of Try.underlying50 (by kernel_rfl) ?_
  refine eqf_cons (by rfl) (by go_simp; rfl) (by go_simp; rfl) (by go_simp) ?_
  refine eqf_cons (by rfl) (by go_simp; rfl) (by go_simp; rfl) (by go_simp) ?_
  refine eqf_cons (by rfl) (by go_simp; rfl) (by go_simp; rfl) (by go_simp) ?_
  exact eqf_last (by rfl) (by go_simp; rfl) (by go_simp; rfl) (by go_simp)
theorem nePort (w : World) (x0 : ByteArray) (x1 x2 : Int) (x3 : Bool) :
    (binOp .neq 50 (.agg #[.string x0, .int .u64 x1, .int .i64 x2, .bool x3]) (.agg #[.string x0, .int .u64 x1, .int .i64 x2, .bool x3])).run Try.prog w = .ok (.bool false) w := by
  rw [run_neq_struct, show (10000 : Nat) = 9998 + 2 from rfl, eqPort]
  simp
theorem neSame (w : World) (x0 : Bool) (x1 x2 : Int) :
    (binOp .neq 25 (.agg #[.bool x0, .int .u64 x1, .int .u64 x2]) (.agg #[.bool x0, .int .u64 x1, .int .u64 x2])).run Try.prog w = .ok (.bool false) w := by
  rw [neA25, eqA_self]; rfl
attribute [local go_sem high] nePort neSame
section
variable {w : World} {S : Nat → Prop} {db : Nat} {v1 v2 : Value} {ls : List Sl} {st : St}
set_option maxHeartbeats 2000000 in
set_option maxRecDepth 100000 in
theorem does_calls (h : Dem w S db v1 v2 ls st) (hI : Inv st) (x : SI) (hx : Fit x) (ha : AdOk x.f6) :
    Calls Try.prog 16 #[.pointer (some ⟨db, 0, none⟩), .agg (stA x)] w fun e w' => e = .returned (.tuple #[.int .i64 (If.step st (spOf x)).2.1, .int .i64 (If.step st (spOf x)).2.2]) ∧ DStepped w w' S db (If.step st (spOf x)).1 := by
  have HB := Aside0.mk (Below.refl w.heap.size w)
  obtain ⟨h0, h1, hs⟩ := hx
  have h8 := hI.few
  have hls := Inv.ls8 hI
  have hap := hI.apart
  obtain ⟨q, hq⟩ : ∃ q, x.f0 % 8 = q := ⟨_, rfl⟩
  have h7 : bits .and .i64 x.f0 7 = q := by rw [and7, hq]
  have HQ := Aside0.mk (show (spOf x).what % 8 = q from hq)
  clear hI hq
  by_cases q0 : q = 0
  · subst q0
    have e0 : If.step st (spOf x) = add st x.f1 x.f2 x.f3 := by unfold If.step; rw [HQ.out, if_pos rfl]; rfl
    rw [e0]
    clear e0
    have hcall := fun W (hW : Dem W S db v1 v2 ls st) => dadd_calls hW h8 x.f1 hs x.f2 x.f3 h0 h1
    obtain ⟨r, hr⟩ : ∃ r, add st x.f1 x.f2 x.f3 = r := ⟨_, rfl⟩
    rw [hr] at hcall ⊢
    clear hr
    go_enter Try.func16, Try.ntmps16
    go_wp2_with (first | ((with_reducible refine gate_dst (N := 3) rfl ?_); refine sh_E 3 45 (stA x) ?_; intro g hg w1 hbox hb; replace HB := sh_S HB hb; obtain ⟨c0, c1, c2, c3, c4, c5, c6, c7, c8⟩ := MBlk.c9 hbox; have HM := Aside0.mk (h.below hb); clear hbox hb hg) | fail)
    refine Calls.mono (hcall _ HM.out) ?_
    rintro e w' ⟨rfl, hst⟩
    have HS := Aside0.mk (DStepped.pre HB.out hst)
    clear hst
    go_wp2
    go_ret2
    exact ⟨rfl, HS.out⟩
  by_cases q1 : q = 1
  · subst q1
    have e0 : If.step st (spOf x) = ((turn st x.f4 x.f5).1, 0, (turn st x.f4 x.f5).2) := by unfold If.step; rw [HQ.out, if_neg (by decide), if_pos rfl]; rfl
    rw [e0]
    clear e0
    have hcall := fun W (hW : Dem W S db v1 v2 ls st) => dturn_calls hW h8 x.f4 x.f5
    obtain ⟨r, hr⟩ : ∃ r, turn st x.f4 x.f5 = r := ⟨_, rfl⟩
    rw [hr] at hcall ⊢
    clear hr
    go_enter Try.func16, Try.ntmps16
    go_wp2_with (first | ((with_reducible refine gate_dst (N := 3) rfl ?_); refine sh_E 3 45 (stA x) ?_; intro g hg w1 hbox hb; replace HB := sh_S HB hb; obtain ⟨c0, c1, c2, c3, c4, c5, c6, c7, c8⟩ := MBlk.c9 hbox; have HM := Aside0.mk (h.below hb); clear hbox hb hg) | fail)
    refine Calls.mono (hcall _ HM.out) ?_
    rintro e w' ⟨rfl, hst⟩
    have HS := Aside0.mk (DStepped.pre HB.out hst)
    clear hst
    go_wp2
    go_ret2
    exact ⟨rfl, HS.out⟩
  by_cases q5 : q = 5
  · subst q5
    have e0 : If.step st (spOf x) = ((drop st x.f4 x.f6).1, 0, (drop st x.f4 x.f6).2) := by unfold If.step; rw [HQ.out, if_neg (by decide), if_neg (by decide), if_pos rfl]; rfl
    rw [e0]
    clear e0
    have hcall := fun W (hW : Dem W S db v1 v2 ls st) => ddrop_calls hW h8 hls hap x.f4 x.f6
    obtain ⟨r, hr⟩ : ∃ r, drop st x.f4 x.f6 = r := ⟨_, rfl⟩
    rw [hr] at hcall ⊢
    clear hr
    go_enter Try.func16, Try.ntmps16
    go_wp2_with (first | ((with_reducible refine gate_dst (N := 3) rfl ?_); refine sh_E 3 45 (stA x) ?_; intro g hg w1 hbox hb; replace HB := sh_S HB hb; obtain ⟨c0, c1, c2, c3, c4, c5, c6, c7, c8⟩ := MBlk.c9 hbox; have HM := Aside0.mk (h.below hb); clear hbox hb hg) | fail)
    refine Calls.mono (hcall _ HM.out) ?_
    rintro e w' ⟨rfl, hst⟩
    have HS := Aside0.mk (DStepped.pre HB.out hst)
    clear hst
    go_wp2
    go_ret2
    exact ⟨rfl, HS.out⟩
  have e0 : If.step st (spOf x) = ((put st x.f4 x.f6 x.f3).1, 0, (put st x.f4 x.f6 x.f3).2) := by unfold If.step; rw [HQ.out, if_neg q0, if_neg q1, if_neg q5]; rfl
  rw [e0]
  have p0 : (q == 0) = false := by simpa using q0
  have p1 : (q == 1) = false := by simpa using q1
  have p5 : (q == 5) = false := by simpa using q5
  clear e0
  have hcall := fun W (hW : Dem W S db v1 v2 ls st) => dput_calls hW h8 hls x.f4 x.f6 ha x.f3
  obtain ⟨r, hr⟩ : ∃ r, put st x.f4 x.f6 x.f3 = r := ⟨_, rfl⟩
  rw [hr] at hcall ⊢
  clear hr
  go_enter Try.func16, Try.ntmps16
  go_wp2_with (first | ((with_reducible refine gate_dst (N := 3) rfl ?_); refine sh_E 3 45 (stA x) ?_; intro g hg w1 hbox hb; replace HB := sh_S HB hb; obtain ⟨c0, c1, c2, c3, c4, c5, c6, c7, c8⟩ := MBlk.c9 hbox; have HM := Aside0.mk (h.below hb); clear hbox hb hg) | fail)
  refine Calls.mono (hcall _ HM.out) ?_
  rintro e w' ⟨rfl, hst⟩
  have HS := Aside0.mk (DStepped.pre HB.out hst)
  clear hst
  go_wp2
  go_ret2
  exact ⟨rfl, HS.out⟩
end
section
variable {w : World} {B db : Nat} {X : Nat → Prop} {st : St}
theorem dhas_port (h : DHas w B X db st) (h8 : st.length ≤ 8) (n : Int) :
    Calls Try.prog 36 #[.pointer (some ⟨db, 0, none⟩), .int .i64 n] w fun e w' => e = .returned (.tuple #[.agg #[.string (portR st n).1.f0, .int .u64 (portR st n).1.f1, .int .i64 (portR st n).1.f2, .bool (portR st n).1.f3], .bool (portR st n).2]) ∧ Below w.heap.size w w' := by
  obtain ⟨S, v1, v2, ls, hm, hS⟩ := h
  exact dport_calls hm h8 n
theorem dhas_source (h : DHas w B X db st) (h8 : st.length ≤ 8) (hls : ∀ p ∈ st, p.ls.length ≤ 8) (hR : Rng st) (n : Int) (a : Ad) (ha : AdOk a) :
    Calls Try.prog 37 #[.pointer (some ⟨db, 0, none⟩), .int .i64 n, .agg (adA a)] w fun e w' => e = .returned (.tuple #[.agg (adA (source st n a).1), .bool (source st n a).2]) ∧ Below w.heap.size w w' := by
  obtain ⟨S, v1, v2, ls, hm, hS⟩ := h
  exact dsource_calls hm h8 hls hR n a ha
theorem dhas_locals (h : DHas w B X db st) (h8 : st.length ≤ 8) (n : Int) :
    Calls Try.prog 39 #[.pointer (some ⟨db, 0, none⟩), .int .i64 n] w fun e w' => (∃ A c, e = .returned (.slice A (locals st n).length c) ∧ (locals st n).length ≤ c ∧ k34.C w A (locals st n).length (locals st n)) ∧ w = w' := by
  obtain ⟨S, v1, v2, ls, hm, hS⟩ := h
  exact dlocals_calls hm h8 n
theorem dhas_mine (h : DHas w B X db st) (h8 : st.length ≤ 8) (hls : ∀ p ∈ st, p.ls.length ≤ 8) (a : Ad) :
    Calls Try.prog 41 #[.pointer (some ⟨db, 0, none⟩), .agg (adA a)] w fun e w' => e = .returned (.int .i64 (mine st a)) ∧ Below w.heap.size w w' := by
  obtain ⟨S, v1, v2, ls, hm, hS⟩ := h
  exact dmine_calls hm h8 hls a
theorem dhas_named (h : DHas w B X db st) (h8 : st.length ≤ 8) (s : ByteArray) :
    Calls Try.prog 42 #[.pointer (some ⟨db, 0, none⟩), .string s] w fun e w' => e = .returned (.int .i64 (named st s)) ∧ w = w' := by
  obtain ⟨S, v1, v2, ls, hm, hS⟩ := h
  exact dnamed_calls hm h8 s
theorem dhas_near (h : DHas w B X db st) (h8 : st.length ≤ 8) (hls : ∀ p ∈ st, p.ls.length ≤ 8) (hR : Rng st) (a : Ad) (ha : AdOk a) :
    Calls Try.prog 40 #[.pointer (some ⟨db, 0, none⟩), .agg (adA a)] w fun e w' => e = .returned (.tuple #[.int .i64 (near st a), .bool (decide (near st a > 0))]) ∧ Below w.heap.size w w' := by
  obtain ⟨S, v1, v2, ls, hm, hS⟩ := h
  exact dnear_calls hm h8 hls hR a ha
theorem locals8 (h : ∀ p ∈ st, p.ls.length ≤ 8) (n : Int) : (locals st n).length ≤ 8 := by
  unfold locals
  split
  · exact Nat.zero_le _
  · rename_i i hi
    obtain ⟨p, hp⟩ : ∃ p, st[i]? = some p := ⟨_, List.getElem?_eq_getElem (at_lt hi).1⟩
    rw [hp]
    exact h p (List.mem_of_getElem? hp)
end
def Tl (B sb : Nat) (X : Nat → Prop) (B' db : Nat) (X' : Nat → Prop) (st : St) (x : SI) (g : Nat) (w W : World) : Prop :=
  Has W B X sb st ∧ DHas W B' X' db st ∧ Below w.heap.size w W ∧ W.heap[g]? = some (.cells (stA x) 45 (0, 0))
section
variable {w W W1 : World} {B sb B' db g : Nat} {X X' : Nat → Prop} {st : St} {x : SI}
theorem Tl.has (h : Tl B sb X B' db X' st x g w W) : Has W B X sb st := h.1
theorem Tl.dhas (h : Tl B sb X B' db X' st x g w W) : DHas W B' X' db st := h.2.1
theorem Tl.below (h : Tl B sb X B' db X' st x g w W) (hb : Below W.heap.size W W1) : Tl B sb X B' db X' st x g w W1 :=
  ⟨h.1.below hb, h.2.1.below hb, below_step h.2.2.1 hb, blk_below h.2.2.2 hb⟩
set_option maxHeartbeats 8000000 in
set_option maxRecDepth 100000 in
theorem tells_calls (hs : Has w B X sb st) (hd : DHas w B' X' db st) (hI : Inv st) (hR : Rng st) (hx : Fit x) (ha : AdOk x.f6) :
    Calls Try.prog 17 #[.pointer (some ⟨sb, 0, none⟩), .pointer (some ⟨db, 0, none⟩), .agg (stA x)] w fun e w' => e = .returned (.bool true) ∧ Below w.heap.size w w' := by
  have hu25 := Try.underlying25
  have hu50 := Try.underlying50
  have HB := Aside0.mk (Below.refl w.heap.size w)
  have h8 := hI.few
  have hls := Inv.ls8 hI
  have HI := Aside0.mk hI
  have HR := Aside0.mk hR
  have HA := Aside0.mk ha
  have HX := Aside0.mk hx.2.2
  have H8 := Aside0.mk h8
  have HLS := Aside0.mk hls
  clear hI hR hx ha h8 hls
  go_enter Try.func17, Try.ntmps17
  go_wp2_with (first | ((with_reducible refine gate_dst (N := 5) rfl ?_); refine sh_E 5 45 (stA x) ?_; intro g hg w1 hbox hb; replace HB := sh_S HB hb; have HT := Aside0.mk (show Tl B sb X B' db X' st x g w w1 from ⟨hs.below hb, hd.below hb, HB.out, hbox⟩); clear hbox hb hg) | fail)
  clear hs hd HB
  go_loopg [7] 10 (fun kq v7 w' => ∃ (j : Nat), v7 = .int .i64 (j : Int) ∧ Aside0 (j + kq = 10) ∧ Aside0 (Tl B sb X B' db X' st x g w w'))
  case atStart => exact ⟨0, rfl, ⟨by omega⟩, HT⟩
  case round =>
    clear HT
    obtain ⟨j, rfl, HJ, HT⟩ := hrel
    obtain ⟨n, hn⟩ : ∃ n : Int, (j : Int) = n := ⟨_, rfl⟩
    rw [hn]
    by_cases h9 : n ≤ 9
    · have hport := fun W (hW : Has W B X sb st) => has_port hW HI.out n
      have hdport := fun W (hW : DHas W B' X' db st) => dhas_port hW H8.out n
      have hsrc := fun W (hW : Has W B X sb st) => has_source hW HI.out n x.f6
      have hdsrc := fun W (hW : DHas W B' X' db st) => dhas_source hW H8.out HLS.out HR.out n x.f6 HA.out
      have hlocs := fun W (hW : Has W B X sb st) => has_locals hW HI.out n
      have hdlocs := fun W (hW : DHas W B' X' db st) => dhas_locals hW H8.out n
      have HL8 := Aside0.mk (locals8 HLS.out n)
      generalize portR st n = pr at hport hdport
      generalize source st n x.f6 = sr at hsrc hdsrc
      generalize locals st n = L at hlocs hdlocs HL8
      obtain ⟨P, pb⟩ := pr
      obtain ⟨ra, rb⟩ := sr
      have HN := Aside0.mk hn
      have hw1 : wrap64 (n + 1) = ((j + 1 : Nat) : Int) := by unfold wrap64; omega
      have HW1 := Aside0.mk hw1
      obtain ⟨gk, rfl⟩ : ∃ q, gk = q + 1 := ⟨gk - 1, by have := HJ.out; omega⟩
      clear hn hw1
      go_wp2_with fail
      refine Calls.mono (hport _ HT.out.1) ?_
      rintro e w4 ⟨rfl, hb⟩
      replace HT := Aside0.mk (HT.out.below hb)
      clear hb hport
      go_wp2_with (first | ((with_reducible refine gate_dst (N := 8) rfl ?_); refine sh_E 8 50 #[.string (⟨#[]⟩ : ByteArray), .int .u64 0, .int .i64 0, .bool false] ?_; intro g8 hg V1 hbox hb; have HG8 := Aside0.mk hg; have BK8 := Aside0.mk hbox; have HBB := Aside0.mk hb; obtain ⟨d0, d1, d2, d3⟩ := MBlk.c4 hbox; obtain ⟨f0, f1, f2, f3⟩ := MBlk.f4 hbox; clear hbox hb hg) | fail)
      have hbk := put4 (b0 := .string P.f0) (b1 := .int .u64 P.f1) (b2 := .int .i64 P.f2) (b3 := .bool P.f3) BK8.out
      have hbb : Below w4.heap.size w4 ((((V1.setCell ⟨g8, 0, none⟩ (.string P.f0)).setCell ⟨g8, 1, none⟩ (.int .u64 P.f1)).setCell ⟨g8, 2, none⟩ (.int .i64 P.f2)).setCell ⟨g8, 3, none⟩ (.bool P.f3)) := below4 HBB.out (by have := HG8.out; omega)
      clear BK8 HBB HG8 f0 f1 f2 f3 d0 d1 d2 d3
      generalize ((((V1.setCell ⟨g8, 0, none⟩ (.string P.f0)).setCell ⟨g8, 1, none⟩ (.int .u64 P.f1)).setCell ⟨g8, 2, none⟩ (.int .i64 P.f2)).setCell ⟨g8, 3, none⟩ (.bool P.f3)) = w5 at hbk hbb ⊢
      clear V1
      replace HT := Aside0.mk (HT.out.below hbb)
      have BK8 := Aside0.mk hbk
      clear hbk hbb
      refine Calls.mono (hdport _ HT.out.2.1) ?_
      rintro e w6 ⟨rfl, hb⟩
      replace HT := Aside0.mk (HT.out.below hb)
      replace BK8 := Aside0.mk (blk_below BK8.out hb)
      clear hb hdport
      obtain ⟨c0, c1, c2, c3, c4, c5, c6, c7, c8⟩ := MBlk.c9 HT.out.2.2.2
      go_wp2_with (first | ((with_reducible refine gate_dst (N := 10) rfl ?_); refine sh_E 10 50 #[.string (⟨#[]⟩ : ByteArray), .int .u64 0, .int .i64 0, .bool false] ?_; intro g10 hg V1 hbox hb; have HG8 := Aside0.mk hg; have BK10 := Aside0.mk hbox; have HBB := Aside0.mk hb; obtain ⟨d0, d1, d2, d3⟩ := MBlk.c4 hbox; obtain ⟨f0, f1, f2, f3⟩ := MBlk.f4 hbox; replace c6 := pw_cell_below hb c6; replace c7 := pw_cell_below hb c7; replace c8 := pw_cell_below hb c8; clear hbox hb hg) | fail)
      have hbk := put4 (b0 := .string P.f0) (b1 := .int .u64 P.f1) (b2 := .int .i64 P.f2) (b3 := .bool P.f3) BK10.out
      have hbb : Below w6.heap.size w6 ((((V1.setCell ⟨g10, 0, none⟩ (.string P.f0)).setCell ⟨g10, 1, none⟩ (.int .u64 P.f1)).setCell ⟨g10, 2, none⟩ (.int .i64 P.f2)).setCell ⟨g10, 3, none⟩ (.bool P.f3)) := below4 HBB.out (by have := HG8.out; omega)
      clear BK10 HBB HG8 f0 f1 f2 f3 d0 d1 d2 d3 c0 c1 c2 c3 c4 c5 c6 c7 c8
      generalize ((((V1.setCell ⟨g10, 0, none⟩ (.string P.f0)).setCell ⟨g10, 1, none⟩ (.int .u64 P.f1)).setCell ⟨g10, 2, none⟩ (.int .i64 P.f2)).setCell ⟨g10, 3, none⟩ (.bool P.f3)) = w7 at hbk hbb ⊢
      clear V1
      replace HT := Aside0.mk (HT.out.below hbb)
      replace BK8 := Aside0.mk (blk_below BK8.out hbb)
      have BK10 := Aside0.mk hbk
      clear hbk hbb
      refine Calls.mono (hsrc _ HT.out.1) ?_
      rintro e w8 ⟨rfl, hb⟩
      replace HT := Aside0.mk (HT.out.below hb)
      replace BK8 := Aside0.mk (blk_below BK8.out hb)
      replace BK10 := Aside0.mk (blk_below BK10.out hb)
      clear hb hsrc
      obtain ⟨c0, c1, c2, c3, c4, c5, c6, c7, c8⟩ := MBlk.c9 HT.out.2.2.2
      go_wp2_with (first | ((with_reducible refine gate_dst (N := 12) rfl ?_); refine sh_E 12 25 (adA zeroA) ?_; intro g12 hg V1 hbox hb; have HG8 := Aside0.mk hg; have BK12 := Aside0.mk hbox; have HBB := Aside0.mk hb; obtain ⟨d0, d1, d2⟩ := MBlk.c3 hbox; obtain ⟨f0, f1, f2⟩ := MBlk.f3 hbox; replace c6 := pw_cell_below hb c6; replace c7 := pw_cell_below hb c7; replace c8 := pw_cell_below hb c8; clear hbox hb hg) | fail)
      have hbk := put3 (b0 := .bool ra.f0) (b1 := .int .u64 ra.f1) (b2 := .int .u64 ra.f2) BK12.out
      have hbb : Below w8.heap.size w8 (((V1.setCell ⟨g12, 0, none⟩ (.bool ra.f0)).setCell ⟨g12, 1, none⟩ (.int .u64 ra.f1)).setCell ⟨g12, 2, none⟩ (.int .u64 ra.f2)) := below3 HBB.out (by have := HG8.out; omega)
      clear BK12 HBB HG8 f0 f1 f2 d0 d1 d2 c0 c1 c2 c3 c4 c5 c6 c7 c8
      generalize (((V1.setCell ⟨g12, 0, none⟩ (.bool ra.f0)).setCell ⟨g12, 1, none⟩ (.int .u64 ra.f1)).setCell ⟨g12, 2, none⟩ (.int .u64 ra.f2)) = w9 at hbk hbb ⊢
      clear V1
      replace HT := Aside0.mk (HT.out.below hbb)
      replace BK8 := Aside0.mk (blk_below BK8.out hbb)
      replace BK10 := Aside0.mk (blk_below BK10.out hbb)
      have BK12 := Aside0.mk hbk
      clear hbk hbb
      refine Calls.mono (hdsrc _ HT.out.2.1) ?_
      rintro e w10 ⟨rfl, hb⟩
      replace HT := Aside0.mk (HT.out.below hb)
      replace BK8 := Aside0.mk (blk_below BK8.out hb)
      replace BK10 := Aside0.mk (blk_below BK10.out hb)
      replace BK12 := Aside0.mk (blk_below BK12.out hb)
      clear hb hdsrc
      obtain ⟨c0, c1, c2, c3, c4, c5, c6, c7, c8⟩ := MBlk.c9 HT.out.2.2.2
      go_upto_region 8 with (first | ((with_reducible refine gate_dst (N := 14) rfl ?_); refine sh_E 14 25 (adA zeroA) ?_; intro g14 hg V1 hbox hb; have HG8 := Aside0.mk hg; have BK14 := Aside0.mk hbox; have HBB := Aside0.mk hb; obtain ⟨d0, d1, d2⟩ := MBlk.c3 hbox; obtain ⟨f0, f1, f2⟩ := MBlk.f3 hbox; replace c6 := pw_cell_below hb c6; replace c7 := pw_cell_below hb c7; replace c8 := pw_cell_below hb c8; clear hbox hb hg) | fail)
      have hbk := put3 (b0 := .bool ra.f0) (b1 := .int .u64 ra.f1) (b2 := .int .u64 ra.f2) BK14.out
      have hbb : Below w10.heap.size w10 (((V1.setCell ⟨g14, 0, none⟩ (.bool ra.f0)).setCell ⟨g14, 1, none⟩ (.int .u64 ra.f1)).setCell ⟨g14, 2, none⟩ (.int .u64 ra.f2)) := below3 HBB.out (by have := HG8.out; omega)
      clear BK14 HBB HG8 f0 f1 f2 d0 d1 d2 c0 c1 c2 c3 c4 c5 c6 c7 c8
      generalize (((V1.setCell ⟨g14, 0, none⟩ (.bool ra.f0)).setCell ⟨g14, 1, none⟩ (.int .u64 ra.f1)).setCell ⟨g14, 2, none⟩ (.int .u64 ra.f2)) = w11 at hbk hbb ⊢
      clear V1
      replace HT := Aside0.mk (HT.out.below hbb)
      replace BK8 := Aside0.mk (blk_below BK8.out hbb)
      replace BK10 := Aside0.mk (blk_below BK10.out hbb)
      replace BK12 := Aside0.mk (blk_below BK12.out hbb)
      have BK14 := Aside0.mk hbk
      clear hbk hbb
      obtain ⟨p0, p1, p2, p3⟩ := MBlk.c4 BK8.out
      obtain ⟨q0, q1, q2, q3⟩ := MBlk.c4 BK10.out
      obtain ⟨r0, r1, r2⟩ := MBlk.c3 BK12.out
      obtain ⟨s0, s1, s2⟩ := MBlk.c3 BK14.out
      go_wp2_with fail
      refine Calls.mono (hlocs _ HT.out.1) ?_
      rintro e w12 ⟨⟨A1, cc1, rfl, hC1, hRL, _⟩, hb⟩
      replace HT := Aside0.mk (HT.out.below hb)
      have HC1 := Aside0.mk hC1
      have HL1 := Aside0.mk (Kd.R_reads' hRL).2.1
      clear hb hlocs p0 p1 p2 p3 q0 q1 q2 q3 r0 r1 r2 s0 s1 s2 BK8 BK10 BK12 BK14 hC1 hRL
      go_wp2_with fail
      refine Calls.mono (hdlocs _ HT.out.2.1) ?_
      rintro e w' ⟨⟨A2, cc2, rfl, hL2, hC2⟩, rfl⟩
      have HL2 := Aside0.mk hL2
      have HC2 := Aside0.mk hC2
      clear hL2 hC2 hdlocs
      go_wp2_with fail
      refine Calls.mono (crosswaylaw14_sameLocals.calls _ A1 cc1 L A2 cc2 L true _ HC1.out HL1.out HC2.out HL2.out (same_self L HL8.out)) ?_
      rintro e w13 ⟨rfl, hb⟩
      replace HT := Aside0.mk (HT.out.below hb.below)
      clear hb
      go_wp2
      go_roundg gk
      case measure => omega
      case rel => exact ⟨j + 1, by first | rw [HW1.out] | exact congrArg _ (by have := HN.out; omega), ⟨by have := HJ.out; omega⟩, HT⟩
    · have hmine := fun W (hW : Has W B X sb st) => has_mine hW HI.out x.f6
      have hdmine := fun W (hW : DHas W B' X' db st) => dhas_mine hW H8.out HLS.out x.f6
      have hnear := fun W (hW : Has W B X sb st) => has_near hW HI.out x.f6
      have hdnear := fun W (hW : DHas W B' X' db st) => dhas_near hW H8.out HLS.out HR.out x.f6 HA.out
      have hnamed := fun W (hW : Has W B X sb st) => has_named hW x.f1 HX.out
      have hdnamed := fun W (hW : DHas W B' X' db st) => dhas_named hW H8.out x.f1
      generalize near st x.f6 = nr at hnear hdnear
      generalize mine st x.f6 = mi at hmine hdmine
      generalize named st x.f1 = na at hnamed hdnamed
      generalize decide (nr > 0) = nb at hnear hdnear
      obtain ⟨c0, c1, c2, c3, c4, c5, c6, c7, c8⟩ := MBlk.c9 HT.out.2.2.2
      clear hn
      go_wp2_with fail
      refine Calls.mono (hnear _ HT.out.1) ?_
      rintro e w4 ⟨rfl, hb⟩
      replace HT := Aside0.mk (HT.out.below hb)
      clear hb hnear c0 c1 c2 c3 c4 c5 c6 c7 c8
      obtain ⟨c0, c1, c2, c3, c4, c5, c6, c7, c8⟩ := MBlk.c9 HT.out.2.2.2
      go_wp2_with fail
      refine Calls.mono (hdnear _ HT.out.2.1) ?_
      rintro e w5 ⟨rfl, hb⟩
      replace HT := Aside0.mk (HT.out.below hb)
      clear hb hdnear c0 c1 c2 c3 c4 c5 c6 c7 c8
      obtain ⟨c0, c1, c2, c3, c4, c5, c6, c7, c8⟩ := MBlk.c9 HT.out.2.2.2
      clear c0 c2 c3 c4 c5
      go_wp2_with fail
      replace HT := Aside0.mk (HT.out.below (below_drew1 (Below.refl _ _)))
      refine start_ (n := 31) (S := fun W => W.cell? ⟨g, 1, none⟩ = some (.string x.f1) ∧ W.cell? ⟨g, 6, none⟩ = some (.bool x.f6.f0) ∧ W.cell? ⟨g, 7, none⟩ = some (.int .u64 x.f6.f1) ∧ W.cell? ⟨g, 8, none⟩ = some (.int .u64 x.f6.f2)) (ds := []) #[false, false, false, false, false, false, false, false, false, false, false, false, false, false, false, false, false, false, false, false, false, false, false, false, false, false, false, false, false, false, false] (by kernel_rfl) rfl rfl ⟨c1, c6, c7, c8⟩ (fun hHeld => ?_)
      refine pure_ (i := 0) (N := some 94) (v := ?_) (a' := ?_) #[true, false, false, false, false, false, false, false, false, false, false, false, false, false, false, false, false, false, false, false, false, false, false, false, false, false, false, false, false, false, false] rfl rfl (by kernel_rfl) (fun _ _ _ h => h) (Or.inl ⟨by rfl, ?_⟩) ?_ ?_
      rotate_left
      ·
       intro w'
       go_simp
       with_reducible rfl
      rotate_left
      ·
       simp only [Act.put, List.setIfInBounds_toArray, List.set_cons_zero, List.set_cons_succ, i64_w, i32_w]
       rfl
      refine pure_ (i := 1) (N := some 95) (v := ?_) (a' := ?_) #[true, true, false, false, false, false, false, false, false, false, false, false, false, false, false, false, false, false, false, false, false, false, false, false, false, false, false, false, false, false, false] rfl rfl (by kernel_rfl) (fun _ _ _ h => h) (Or.inl ⟨by rfl, ?_⟩) ?_ ?_
      rotate_left
      ·
       intro w'
       go_simp
       with_reducible rfl
      rotate_left
      ·
       simp only [Act.put, List.setIfInBounds_toArray, List.set_cons_zero, List.set_cons_succ, i64_w, i32_w]
       rfl
      refine pure_ (i := 2) (N := some 96) (v := ?_) (a' := ?_) #[true, true, true, false, false, false, false, false, false, false, false, false, false, false, false, false, false, false, false, false, false, false, false, false, false, false, false, false, false, false, false] rfl rfl (by kernel_rfl) (fun _ _ _ h => h) (Or.inl ⟨by rfl, ?_⟩) ?_ ?_
      rotate_left
      ·
       intro w'
       go_simp
       with_reducible rfl
      rotate_left
      ·
       simp only [Act.put, List.setIfInBounds_toArray, List.set_cons_zero, List.set_cons_succ, i64_w, i32_w]
       rfl
      refine pure_ (i := 3) (N := some 97) (v := ?_) (a' := ?_) #[true, true, true, true, false, false, false, false, false, false, false, false, false, false, false, false, false, false, false, false, false, false, false, false, false, false, false, false, false, false, false] rfl rfl (by kernel_rfl) (fun _ _ _ h => h) (Or.inl ⟨by rfl, ?_⟩) ?_ ?_
      rotate_left
      ·
       intro w'
       go_simp
       with_reducible rfl
      rotate_left
      ·
       simp only [Act.put, List.setIfInBounds_toArray, List.set_cons_zero, List.set_cons_succ, i64_w, i32_w]
       rfl
      refine pure_ (i := 4) (N := some 98) (v := ?_) (a' := ?_) #[true, true, true, true, true, false, false, false, false, false, false, false, false, false, false, false, false, false, false, false, false, false, false, false, false, false, false, false, false, false, false] rfl rfl (by kernel_rfl) (fun _ _ _ h => h) (Or.inl ⟨by rfl, ?_⟩) ?_ ?_
      rotate_left
      ·
       intro w'
       go_simp
       with_reducible rfl
      rotate_left
      ·
       simp only [Act.put, List.setIfInBounds_toArray, List.set_cons_zero, List.set_cons_succ, i64_w, i32_w]
       rfl
      refine pure_ (i := 5) (N := some 99) (v := ?_) (a' := ?_) #[true, true, true, true, true, true, false, false, false, false, false, false, false, false, false, false, false, false, false, false, false, false, false, false, false, false, false, false, false, false, false] rfl rfl (by kernel_rfl) (fun _ _ _ h => h) (Or.inl ⟨by rfl, ?_⟩) ?_ ?_
      rotate_left
      ·
       intro w'
       go_simp
       with_reducible rfl
      rotate_left
      ·
       simp only [Act.put, List.setIfInBounds_toArray, List.set_cons_zero, List.set_cons_succ, i64_w, i32_w]
       rfl
      refine pure_ (i := 6) (N := some 100) (v := ?_) (a' := ?_) #[true, true, true, true, true, true, true, false, false, false, false, false, false, false, false, false, false, false, false, false, false, false, false, false, false, false, false, false, false, false, false] rfl rfl (by kernel_rfl) (fun _ _ _ h => h) (Or.inl ⟨by rfl, ?_⟩) ?_ ?_
      rotate_left
      ·
       intro w'
       go_simp
       with_reducible rfl
      rotate_left
      ·
       simp only [Act.put, List.setIfInBounds_toArray, List.set_cons_zero, List.set_cons_succ, i64_w, i32_w]
       rfl
      refine pure_ (i := 7) (N := some 101) (v := ?_) (a' := ?_) #[true, true, true, true, true, true, true, true, false, false, false, false, false, false, false, false, false, false, false, false, false, false, false, false, false, false, false, false, false, false, false] rfl rfl (by kernel_rfl) (fun _ _ _ h => h) (Or.inl ⟨by rfl, ?_⟩) ?_ ?_
      rotate_left
      ·
       intro w'
       go_simp
       with_reducible rfl
      rotate_left
      ·
       simp only [Act.put, List.setIfInBounds_toArray, List.set_cons_zero, List.set_cons_succ, i64_w, i32_w]
       rfl
      refine pure_ (i := 8) (N := some 102) (v := ?_) (a' := ?_) #[true, true, true, true, true, true, true, true, true, false, false, false, false, false, false, false, false, false, false, false, false, false, false, false, false, false, false, false, false, false, false] rfl rfl (by kernel_rfl) (fun _ _ _ h => h) (Or.inl ⟨by rfl, ?_⟩) ?_ ?_
      rotate_left
      ·
       intro w'
       go_simp
       with_reducible rfl
      rotate_left
      ·
       simp only [Act.put, List.setIfInBounds_toArray, List.set_cons_zero, List.set_cons_succ, i64_w, i32_w]
       rfl
      refine pure_ (i := 9) (N := some 103) (v := ?_) (a' := ?_) #[true, true, true, true, true, true, true, true, true, true, false, false, false, false, false, false, false, false, false, false, false, false, false, false, false, false, false, false, false, false, false] rfl rfl (by kernel_rfl) (fun _ _ _ h => h) (Or.inl ⟨by rfl, ?_⟩) ?_ ?_
      rotate_left
      ·
       intro w'
       go_simp
       with_reducible rfl
      rotate_left
      ·
       simp only [Act.put, List.setIfInBounds_toArray, List.set_cons_zero, List.set_cons_succ, i64_w, i32_w]
       rfl
      refine pure_ (i := 10) (N := some 104) (v := ?_) (a' := ?_) #[true, true, true, true, true, true, true, true, true, true, true, false, false, false, false, false, false, false, false, false, false, false, false, false, false, false, false, false, false, false, false] rfl rfl (by kernel_rfl) (fun _ _ _ h => h) (Or.inl ⟨by rfl, ?_⟩) ?_ ?_
      rotate_left
      ·
       intro w'
       go_simp
       with_reducible rfl
      rotate_left
      ·
       simp only [Act.put, List.setIfInBounds_toArray, List.set_cons_zero, List.set_cons_succ, i64_w, i32_w]
       rfl
      refine take_ (i := 11) (N := some 105) (v := ?_) (a' := ?_) #[true, true, true, true, true, true, true, true, true, true, true, true, false, false, false, false, false, false, false, false, false, false, false, false, false, false, false, false, false, false, false] rfl rfl (by kernel_rfl) (fun _ _ _ h => h) (Or.inl ⟨by rfl, ?_⟩) hHeld ?_ ?_
      rotate_left
      ·
       rintro w' ⟨s0, s1, s2, s3⟩
       go_simp
       with_reducible rfl
      rotate_left
      ·
       simp only [Act.put, List.setIfInBounds_toArray, List.set_cons_zero, List.set_cons_succ, i64_w, i32_w]
       rfl
      refine pure_ (i := 13) (N := some 107) (v := ?_) (a' := ?_) #[true, true, true, true, true, true, true, true, true, true, true, true, false, true, false, false, false, false, false, false, false, false, false, false, false, false, false, false, false, false, false] rfl rfl (by kernel_rfl) (fun _ _ _ h => h) (Or.inl ⟨by rfl, ?_⟩) ?_ ?_
      rotate_left
      ·
       intro w'
       go_simp
       with_reducible rfl
      rotate_left
      ·
       simp only [Act.put, List.setIfInBounds_toArray, List.set_cons_zero, List.set_cons_succ, i64_w, i32_w]
       rfl
      refine pure_ (i := 14) (N := some 108) (v := ?_) (a' := ?_) #[true, true, true, true, true, true, true, true, true, true, true, true, false, true, true, false, false, false, false, false, false, false, false, false, false, false, false, false, false, false, false] rfl rfl (by kernel_rfl) (fun _ _ _ h => h) (Or.inl ⟨by rfl, ?_⟩) ?_ ?_
      rotate_left
      ·
       intro w'
       go_simp
       with_reducible rfl
      rotate_left
      ·
       simp only [Act.put, List.setIfInBounds_toArray, List.set_cons_zero, List.set_cons_succ, i64_w, i32_w]
       rfl
      refine take_ (i := 15) (N := some 109) (v := ?_) (a' := ?_) #[true, true, true, true, true, true, true, true, true, true, true, true, false, true, true, true, false, false, false, false, false, false, false, false, false, false, false, false, false, false, false] rfl rfl (by kernel_rfl) (fun _ _ _ h => h) (Or.inl ⟨by rfl, ?_⟩) hHeld ?_ ?_
      rotate_left
      ·
       rintro w' ⟨s0, s1, s2, s3⟩
       go_simp
       with_reducible rfl
      rotate_left
      ·
       simp only [Act.put, List.setIfInBounds_toArray, List.set_cons_zero, List.set_cons_succ, i64_w, i32_w]
       rfl
      refine one_ (i := 12) (N := some 106) #[true, true, true, true, true, true, true, true, true, true, true, true, true, true, true, true, false, false, false, false, false, false, false, false, false, false, false, false, false, false, false] rfl rfl (by kernel_rfl) (by decide) (fun K hK => ?_)
      refine goes_ Try.func12 (by kernel_rfl) rfl #[.pointer (some ⟨sb, 0, none⟩), .agg #[.bool x.f6.f0, .int .u64 x.f6.f1, .int .u64 x.f6.f2]] (by rfl) rfl rfl (by (try simp only [List.map_toArray, List.map_cons, List.map_nil]); first | done | rfl) ?_
      with_reducible refine (hmine _ HT.out.has).mono ?_
      rintro e V12 ⟨rfl, hb⟩
      refine ⟨_, rfl, ?_⟩
      replace HT := Aside0.mk (HT.out.below hb)
      refine hK.out _ _ ⟨pw_cell_below hb hHeld.1, pw_cell_below hb hHeld.2.1, pw_cell_below hb hHeld.2.2.1, pw_cell_below hb hHeld.2.2.2⟩ (fun hHeld => ?_)
      clear hb
      clear hK K
      refine norm_ (a' := ?_) ?_ ?_
      rotate_left
      ·
        show Act.put _ (some 106) _ = _
        simp only [Act.put, List.setIfInBounds_toArray, List.set_cons_zero, List.set_cons_succ, i64_w, i32_w]
        rfl
      refine one_ (i := 16) (N := some 110) #[true, true, true, true, true, true, true, true, true, true, true, true, true, true, true, true, true, false, false, false, false, false, false, false, false, false, false, false, false, false, false] rfl rfl (by kernel_rfl) (by decide) (fun K hK => ?_)
      refine goes_ Try.func41 (by kernel_rfl) rfl #[.pointer (some ⟨db, 0, none⟩), .agg #[.bool x.f6.f0, .int .u64 x.f6.f1, .int .u64 x.f6.f2]] (by rfl) rfl rfl (by (try simp only [List.map_toArray, List.map_cons, List.map_nil]); first | done | rfl) ?_
      with_reducible refine (hdmine _ HT.out.dhas).mono ?_
      rintro e V16 ⟨rfl, hb⟩
      refine ⟨_, rfl, ?_⟩
      replace HT := Aside0.mk (HT.out.below hb)
      refine hK.out _ _ ⟨pw_cell_below hb hHeld.1, pw_cell_below hb hHeld.2.1, pw_cell_below hb hHeld.2.2.1, pw_cell_below hb hHeld.2.2.2⟩ (fun hHeld => ?_)
      clear hb
      clear hK K
      refine norm_ (a' := ?_) ?_ ?_
      rotate_left
      ·
        show Act.put _ (some 110) _ = _
        simp only [Act.put, List.setIfInBounds_toArray, List.set_cons_zero, List.set_cons_succ, i64_w, i32_w]
        rfl
      refine pure_ (i := 17) (N := some 111) (v := ?_) (a' := ?_) #[true, true, true, true, true, true, true, true, true, true, true, true, true, true, true, true, true, true, false, false, false, false, false, false, false, false, false, false, false, false, false] rfl rfl (by kernel_rfl) (fun _ _ _ h => h) (Or.inl ⟨by rfl, ?_⟩) ?_ ?_
      rotate_left
      ·
       intro w'
       go_simp
       with_reducible rfl
      rotate_left
      ·
       simp only [Act.put, List.setIfInBounds_toArray, List.set_cons_zero, List.set_cons_succ, i64_w, i32_w]
       rfl
      refine pure_ (i := 18) (N := some 112) (v := ?_) (a' := ?_) #[true, true, true, true, true, true, true, true, true, true, true, true, true, true, true, true, true, true, true, false, false, false, false, false, false, false, false, false, false, false, false] rfl rfl (by kernel_rfl) (fun _ _ _ h => h) (Or.inl ⟨by rfl, ?_⟩) ?_ ?_
      rotate_left
      ·
       intro w'
       go_simp
       with_reducible rfl
      rotate_left
      ·
       simp only [Act.put, List.setIfInBounds_toArray, List.set_cons_zero, List.set_cons_succ, i64_w, i32_w]
       rfl
      refine pure_ (i := 19) (N := some 113) (v := ?_) (a' := ?_) #[true, true, true, true, true, true, true, true, true, true, true, true, true, true, true, true, true, true, true, true, false, false, false, false, false, false, false, false, false, false, false] rfl rfl (by kernel_rfl) (fun _ _ _ h => h) (Or.inl ⟨by rfl, ?_⟩) ?_ ?_
      rotate_left
      ·
       intro w'
       go_simp
       with_reducible rfl
      rotate_left
      ·
       simp only [Act.put, List.setIfInBounds_toArray, List.set_cons_zero, List.set_cons_succ, i64_w, i32_w]
       rfl
      refine pure_ (i := 20) (N := some 114) (v := ?_) (a' := ?_) #[true, true, true, true, true, true, true, true, true, true, true, true, true, true, true, true, true, true, true, true, true, false, false, false, false, false, false, false, false, false, false] rfl rfl (by kernel_rfl) (fun _ _ _ h => h) (Or.inl ⟨by rfl, ?_⟩) ?_ ?_
      rotate_left
      ·
       intro w'
       go_simp
       with_reducible rfl
      rotate_left
      ·
       simp only [Act.put, List.setIfInBounds_toArray, List.set_cons_zero, List.set_cons_succ, i64_w, i32_w]
       rfl
      refine pure_ (i := 21) (N := some 115) (v := ?_) (a' := ?_) #[true, true, true, true, true, true, true, true, true, true, true, true, true, true, true, true, true, true, true, true, true, true, false, false, false, false, false, false, false, false, false] rfl rfl (by kernel_rfl) (fun _ _ _ h => h) (Or.inl ⟨by rfl, ?_⟩) ?_ ?_
      rotate_left
      ·
       intro w'
       go_simp
       with_reducible rfl
      rotate_left
      ·
       simp only [Act.put, List.setIfInBounds_toArray, List.set_cons_zero, List.set_cons_succ, i64_w, i32_w]
       rfl
      refine take_ (i := 22) (N := some 116) (v := ?_) (a' := ?_) #[true, true, true, true, true, true, true, true, true, true, true, true, true, true, true, true, true, true, true, true, true, true, true, false, false, false, false, false, false, false, false] rfl rfl (by kernel_rfl) (fun _ _ _ h => h) (Or.inl ⟨by rfl, ?_⟩) hHeld ?_ ?_
      rotate_left
      ·
       rintro w' ⟨s0, s1, s2, s3⟩
       go_simp
       with_reducible rfl
      rotate_left
      ·
       simp only [Act.put, List.setIfInBounds_toArray, List.set_cons_zero, List.set_cons_succ, i64_w, i32_w]
       rfl
      refine pure_ (i := 24) (N := some 118) (v := ?_) (a' := ?_) #[true, true, true, true, true, true, true, true, true, true, true, true, true, true, true, true, true, true, true, true, true, true, true, false, true, false, false, false, false, false, false] rfl rfl (by kernel_rfl) (fun _ _ _ h => h) (Or.inl ⟨by rfl, ?_⟩) ?_ ?_
      rotate_left
      ·
       intro w'
       go_simp
       with_reducible rfl
      rotate_left
      ·
       simp only [Act.put, List.setIfInBounds_toArray, List.set_cons_zero, List.set_cons_succ, i64_w, i32_w]
       rfl
      refine pure_ (i := 25) (N := some 119) (v := ?_) (a' := ?_) #[true, true, true, true, true, true, true, true, true, true, true, true, true, true, true, true, true, true, true, true, true, true, true, false, true, true, false, false, false, false, false] rfl rfl (by kernel_rfl) (fun _ _ _ h => h) (Or.inl ⟨by rfl, ?_⟩) ?_ ?_
      rotate_left
      ·
       intro w'
       go_simp
       with_reducible rfl
      rotate_left
      ·
       simp only [Act.put, List.setIfInBounds_toArray, List.set_cons_zero, List.set_cons_succ, i64_w, i32_w]
       rfl
      refine take_ (i := 26) (N := some 120) (v := ?_) (a' := ?_) #[true, true, true, true, true, true, true, true, true, true, true, true, true, true, true, true, true, true, true, true, true, true, true, false, true, true, true, false, false, false, false] rfl rfl (by kernel_rfl) (fun _ _ _ h => h) (Or.inl ⟨by rfl, ?_⟩) hHeld ?_ ?_
      rotate_left
      ·
       rintro w' ⟨s0, s1, s2, s3⟩
       go_simp
       with_reducible rfl
      rotate_left
      ·
       simp only [Act.put, List.setIfInBounds_toArray, List.set_cons_zero, List.set_cons_succ, i64_w, i32_w]
       rfl
      refine one_ (i := 23) (N := some 117) #[true, true, true, true, true, true, true, true, true, true, true, true, true, true, true, true, true, true, true, true, true, true, true, true, true, true, true, false, false, false, false] rfl rfl (by kernel_rfl) (by decide) (fun K hK => ?_)
      refine goes_ Try.func19 (by kernel_rfl) rfl #[.pointer (some ⟨sb, 0, none⟩), .string x.f1] (by rfl) rfl rfl (by (try simp only [List.map_toArray, List.map_cons, List.map_nil]); first | done | rfl) ?_
      with_reducible refine (hnamed _ HT.out.has).mono ?_
      rintro e w' ⟨rfl, rfl⟩
      refine ⟨_, rfl, ?_⟩
      refine hK.out _ _ hHeld (fun hHeld => ?_)
      clear hK K
      refine norm_ (a' := ?_) ?_ ?_
      rotate_left
      ·
        show Act.put _ (some 117) _ = _
        simp only [Act.put, List.setIfInBounds_toArray, List.set_cons_zero, List.set_cons_succ, i64_w, i32_w]
        rfl
      refine one_ (i := 27) (N := some 121) #[true, true, true, true, true, true, true, true, true, true, true, true, true, true, true, true, true, true, true, true, true, true, true, true, true, true, true, true, false, false, false] rfl rfl (by kernel_rfl) (by decide) (fun K hK => ?_)
      refine goes_ Try.func42 (by kernel_rfl) rfl #[.pointer (some ⟨db, 0, none⟩), .string x.f1] (by rfl) rfl rfl (by (try simp only [List.map_toArray, List.map_cons, List.map_nil]); first | done | rfl) ?_
      with_reducible refine (hdnamed _ HT.out.dhas).mono ?_
      rintro e w' ⟨rfl, rfl⟩
      refine ⟨_, rfl, ?_⟩
      refine hK.out _ _ hHeld (fun hHeld => ?_)
      clear hK K
      refine norm_ (a' := ?_) ?_ ?_
      rotate_left
      ·
        show Act.put _ (some 121) _ = _
        simp only [Act.put, List.setIfInBounds_toArray, List.set_cons_zero, List.set_cons_succ, i64_w, i32_w]
        rfl
      refine pure_ (i := 28) (N := some 122) (v := ?_) (a' := ?_) #[true, true, true, true, true, true, true, true, true, true, true, true, true, true, true, true, true, true, true, true, true, true, true, true, true, true, true, true, true, false, false] rfl rfl (by kernel_rfl) (fun _ _ _ h => h) (Or.inl ⟨by rfl, ?_⟩) ?_ ?_
      rotate_left
      ·
       intro w'
       go_simp
       with_reducible rfl
      rotate_left
      ·
       simp only [Act.put, List.setIfInBounds_toArray, List.set_cons_zero, List.set_cons_succ, i64_w, i32_w]
       rfl
      refine pure_ (i := 29) (N := some 123) (v := ?_) (a' := ?_) #[true, true, true, true, true, true, true, true, true, true, true, true, true, true, true, true, true, true, true, true, true, true, true, true, true, true, true, true, true, true, false] rfl rfl (by kernel_rfl) (fun _ _ _ h => h) (Or.inl ⟨by rfl, ?_⟩) ?_ ?_
      rotate_left
      ·
       intro w'
       go_simp
       with_reducible rfl
      rotate_left
      ·
       simp only [Act.put, List.setIfInBounds_toArray, List.set_cons_zero, List.set_cons_succ, i64_w, i32_w]
       rfl
      refine pure_ (i := 30) (N := some 6) (v := ?_) (a' := ?_) #[true, true, true, true, true, true, true, true, true, true, true, true, true, true, true, true, true, true, true, true, true, true, true, true, true, true, true, true, true, true, true] rfl rfl (by kernel_rfl) (fun _ _ _ h => h) (Or.inl ⟨by rfl, ?_⟩) ?_ ?_
      rotate_left
      ·
       intro w'
       go_simp
       with_reducible rfl
      rotate_left
      ·
       simp only [Act.put, List.setIfInBounds_toArray, List.set_cons_zero, List.set_cons_succ, i64_w, i32_w]
       rfl
      refine done_ (by kernel_rfl) ?_
      go_wp2
      go_ret
      exact ⟨rfl, HT.out.2.2.1⟩
end
end Go.Proofs.Ytefbcigccfkkgaa.WIf
namespace Go.Proofs.Ytefbcigccfkkgaa.WIf
open Go.RowKit Go.Maps Go.WideMaps Go.Proofs.Ytefbcigccfkkgaa.PBase Go.Proofs.YtefbcigccfkkgaaW.PrintWords Go.Proofs.YtefbcigccfkkgaaW.PrintLast Go.Proofs.YtefbcigccfkkgaaW.PrintMore Go.Proofs.Ytefbcigccfkkgaa.If
attribute [local go_sem] max2_int min2_int max_two min_two
def Ads (st : St) : Prop := ∀ p ∈ st, ∀ l ∈ p.ls, AdOk l.f0
theorem rng_of {st : St} (h : Ads st) (hI : Inv st) : Rng st := fun p hp l hl => ⟨h p hp l hl, ((hI.rows p hp).2 l hl).1⟩
theorem ads_nil : Ads [] := fun p hp => by cases hp
theorem ads_mod {st : St} (h : Ads st) (i : Nat) (f : Pt → Pt) (hf : ∀ p, p ∈ st → ∀ l ∈ (f p).ls, AdOk l.f0) : Ads (st.modify i f) := fun q hq => by
  rcases mod_mem hq with ⟨p, h1, rfl⟩ | q1
  · exact hf p (List.mem_of_getElem? h1)
  · exact h q q1
theorem ads_step {st : St} (h : Ads st) (x : Sp) (hx : AdOk x.addr) : Ads (If.step st x).1 := by
  unfold If.step
  split
  · unfold add
    split
    · exact h
    split
    · exact h
    split
    · exact h
    · intro p hp
      rcases List.mem_append.1 hp with q | q
      · exact h p q
      · rw [List.mem_singleton.1 q]
        intro l hl
        cases hl
  split
  · unfold turn
    split
    · exact h
    · exact ads_mod h _ _ (fun p hp => h p hp)
  split
  · unfold drop
    split
    · exact h
    · split
      · exact h
      · exact ads_mod h _ _ (fun p hp l hl => h p hp l ((List.eraseIdx_sublist _ _).subset hl))
  · unfold put
    split
    · exact h
    split
    · exact h
    split
    · exact h
    · refine ads_mod h _ _ (fun p hp l hl => ?_)
      rcases List.mem_append.1 hl with q | q
      · exact h p hp l q
      · rw [List.mem_singleton.1 q]
        exact hx
def Two (W : World) (B sb db : Nat) (st dt : St) : Prop :=
  ∃ S mb v xs S' v1 v2 ls, Mem W S sb mb v xs st ∧ Dem W S' db v1 v2 ls dt ∧ (∀ k, S k → B ≤ k) ∧ (∀ k, S' k → B ≤ k) ∧ ∀ k, S k → ¬ S' k
section
variable {w W W1 : World} {B sb db : Nat} {st dt st' dt' : St}
theorem Two.below (h : Two W B sb db st dt) (hb : Below W.heap.size W W1) : Two W1 B sb db st dt := by
  obtain ⟨S, mb, v, xs, S', v1, v2, ls, h1, h2, h3⟩ := h
  exact ⟨S, mb, v, xs, S', v1, v2, ls, h1.below hb, h2.below hb, h3⟩
theorem Two.has (h : Two W B sb db st dt) : Has W B (fun _ => False) sb st := by
  obtain ⟨S, mb, v, xs, S', v1, v2, ls, h1, h2, h3, h4, h5⟩ := h
  exact ⟨S, mb, v, xs, h1, fun k hk => ⟨h3 k hk, fun q => q⟩⟩
theorem Two.dhas (h : Two W B sb db st dt) : DHas W B (fun _ => False) db dt := by
  obtain ⟨S, mb, v, xs, S', v1, v2, ls, h1, h2, h3, h4, h5⟩ := h
  exact ⟨S', v1, v2, ls, h2, fun k hk => ⟨h4 k hk, fun q => q⟩⟩
theorem two_do (h : Two w B sb db st dt) (hI : Inv st) (hB : B ≤ w.heap.size) (x : SI) (hx : Fit x) :
    Calls Try.prog 15 #[.pointer (some ⟨sb, 0, none⟩), .agg (stA x)] w fun e w' => e = .returned (.tuple #[.int .i64 (If.step st (spOf x)).2.1, .int .i64 (If.step st (spOf x)).2.2]) ∧ Two w' B sb db (If.step st (spOf x)).1 dt ∧ Below B w w' := by
  obtain ⟨S, mb, v, xs, S', v1, v2, ls, h1, h2, h3, h4, h5⟩ := h
  refine Calls.mono (do_calls h1 hI x hx) ?_
  rintro e w' ⟨he, S2, v', xs', g1, g2, g3⟩
  refine ⟨he, ⟨S2, mb, v', xs', S', v1, v2, ls, g1, h2.keep g3.size (fun k hk => g3.block k (h2.lt k hk) (fun q => h5 k q hk)), ?_, h4, ?_⟩, g3.below (Below.refl _ _) hB h3⟩
  · intro k hk
    rcases g2 k hk with q | q
    · exact h3 k q
    · omega
  · intro k hk hk'
    rcases g2 k hk with q | q
    · exact h5 k q hk'
    · have := h2.lt k hk'; omega
theorem two_does (h : Two w B sb db st dt) (hI : Inv dt) (hB : B ≤ w.heap.size) (x : SI) (hx : Fit x) (ha : AdOk x.f6) :
    Calls Try.prog 16 #[.pointer (some ⟨db, 0, none⟩), .agg (stA x)] w fun e w' => e = .returned (.tuple #[.int .i64 (If.step dt (spOf x)).2.1, .int .i64 (If.step dt (spOf x)).2.2]) ∧ Two w' B sb db st (If.step dt (spOf x)).1 ∧ Below B w w' := by
  obtain ⟨S, mb, v, xs, S', v1, v2, ls, h1, h2, h3, h4, h5⟩ := h
  refine Calls.mono (does_calls h2 hI x hx ha) ?_
  rintro e w' ⟨he, S2, u1, u2, ls', g1, g2, g3⟩
  refine ⟨he, ⟨S, mb, v, xs, S2, u1, u2, ls', h1.keep g3.size (fun k hk => g3.block k (h1.lt k hk) (fun q => h5 k hk q)), g1, h3, ?_, ?_⟩, g3.below (Below.refl _ _) hB h4⟩
  · intro k hk
    rcases g2 k hk with q | q
    · exact h4 k q
    · omega
  · intro k hk hk'
    rcases g2 k hk' with q | q
    · exact h5 k hk q
    · have := h1.lt k hk; omega
end
def Rw (w : World) (B : Nat) (A : Option Addr) (n c : Nat) : Prop := ∃ L : List Lo, L.length = n ∧ RowK k34 34 w (.slice A n c) L ∧ ∀ k, (Value.slice A n c).ownBlock = some k → B ≤ k
theorem plL : Plain k34 lcs := ⟨fun h => k34_openM h, fun w b ok x => k34_mkM w b ok x⟩
theorem rw_cell {w : World} {B n c i : Nat} {A : Option Addr} (h : Rw w B A n c) (hi : i < n) : ∃ g, A = some ⟨g, 0, none⟩ ∧ B ≤ g ∧ (∃ u, w.cell? ⟨g, i * 4 + 3, none⟩ = some (.int .i64 u)) ∧ w.frozen? ⟨g, i * 4 + 3, none⟩ = false ∧ Rw (w.setCell ⟨g, i * 4 + 3, none⟩ (.int .i64 77)) B A n c := by
  obtain ⟨L, rfl, hR, hB⟩ := h
  obtain ⟨g, c', e⟩ := hR.shape (by omega)
  injection e with e1 _ e2
  subst e1
  have hx : L[i]? = some L[i] := List.getElem?_eq_getElem hi
  obtain ⟨h1, h2⟩ := RowK.cell plL hR hx (j := 3) (u := .int .i64 L[i].f1) rfl (by decide)
  refine ⟨g, rfl, hB g rfl, ⟨_, h1⟩, h2, L.set i ⟨L[i].f0, 77⟩, by rw [List.length_set], ?_, hB⟩
  exact RowK.set plL hR (j := 3) hx (by decide) rfl
theorem cells9y {w : World} {ad : Addr} {xs : List SI} (h : Kd.C k45 w (some ad) xs.length xs) {j : Nat} {y : Int} (hy : (j : Int) = y) {x : SI} (hx : xs[j]? = some x) : w.cell? (ad.add (y.toNat * 9)) = some (.int .i64 x.f0) ∧ w.cell? ⟨(ad.add (y.toNat * 9)).block, (ad.add (y.toNat * 9)).off + 1, none⟩ = some (.string x.f1) ∧ w.cell? ⟨(ad.add (y.toNat * 9)).block, (ad.add (y.toNat * 9)).off + 2, none⟩ = some (.int .u64 x.f2) ∧
    w.cell? ⟨(ad.add (y.toNat * 9)).block, (ad.add (y.toNat * 9)).off + 3, none⟩ = some (.int .i64 x.f3) ∧ w.cell? ⟨(ad.add (y.toNat * 9)).block, (ad.add (y.toNat * 9)).off + 4, none⟩ = some (.int .i64 x.f4) ∧ w.cell? ⟨(ad.add (y.toNat * 9)).block, (ad.add (y.toNat * 9)).off + 5, none⟩ = some (.bool x.f5) ∧ w.cell? ⟨(ad.add (y.toNat * 9)).block, (ad.add (y.toNat * 9)).off + 6, none⟩ = some (.bool x.f6.f0) ∧
    w.cell? ⟨(ad.add (y.toNat * 9)).block, (ad.add (y.toNat * 9)).off + 7, none⟩ = some (.int .u64 x.f6.f1) ∧ w.cell? ⟨(ad.add (y.toNat * 9)).block, (ad.add (y.toNat * 9)).off + 8, none⟩ = some (.int .u64 x.f6.f2) := by
  obtain ⟨ad', e, h9⟩ := cells9 h hx
  obtain rfl := Option.some.inj e
  have e2 : y.toNat = j := by omega
  rw [e2]
  exact h9
theorem ads_made {xs : List SI} (h : ∀ x ∈ xs, AdOk x.f6) (j : Nat) : Ads (madeAt xs j) := by
  induction j with
  | zero => exact ads_nil
  | succ j ih =>
    by_cases hj : j < xs.length
    · rw [madeAt_succ (List.getElem?_eq_getElem hj)]
      exact ads_step ih _ (h _ (List.getElem_mem hj))
    · have e : madeAt xs (j + 1) = madeAt xs j := by
        unfold madeAt
        rw [List.take_of_length_le (by omega), List.take_of_length_le (by omega)]
      rw [e]
      exact ih
set_option maxHeartbeats 8000000 in
set_option maxRecDepth 100000 in
theorem plays (A : Option Addr) (c : Nat) (xs : List SI) (w : World) (hC : Kd.C k45 w A xs.length xs) (hl : xs.length ≤ 140737488355328) (hfit : ∀ x ∈ xs, Fit x) (hads : ∀ x ∈ xs, AdOk x.f6) :
    Calls Try.prog 4 #[.slice A xs.length c] w fun e w' => e = .returned (.bool true) ∧ Below w.heap.size w w' := by
  have HC := Aside0.mk hC
  have HFIT := Aside0.mk hfit
  have HADS := Aside0.mk hads
  clear hC hfit hads
  go_enter Try.func4, Try.ntmps4
  go_wp2_with fail
  refine Calls.mono (awake_calls w) ?_
  rintro e w1 ⟨rfl, hb⟩
  have HB := Aside0.mk hb
  clear hb
  go_wp2_with fail
  refine Calls.mono (new_calls w1) ?_
  rintro e w2 ⟨sb, mb, S, rfl, hm, hS, hb⟩
  have hw1 := HB.out.size
  replace HB := Aside0.mk (below_step HB.out hb)
  have HS := Aside0.mk (show ∀ k, S k → w.heap.size ≤ k from fun k hk => Nat.le_trans hw1 (hS k hk))
  clear hw1
  have HM := Aside0.mk hm
  clear hb hm hS
  go_wp2_with fail
  refine Calls.mono (dnew_calls w2) ?_
  rintro e w3 ⟨db, S', rfl, hd, hS', hb⟩
  have HT := Aside0.mk (show Two w3 w.heap.size sb db (madeAt xs 0) (madeAt xs 0) from ⟨S, mb, _, _, S', _, _, _, HM.out.below hb, hd, HS.out, fun k hk => Nat.le_trans HB.out.size (hS' k hk), fun k hk hk' => by have := HM.out.lt k hk; have := hS' k hk'; omega⟩)
  replace HB := Aside0.mk (below_step HB.out hb)
  clear hb hd hS' HM HS
  go_wp2_with fail
  go_loopg [6] (min xs.length 60) (fun kq v6 w' => ∃ (j : Nat), v6 = .int .i64 (j : Int) ∧ Aside0 (j + kq = min xs.length 60) ∧ Aside0 (Two w' w.heap.size sb db (madeAt xs j) (madeAt xs j)) ∧ Aside0 (Below w.heap.size w w'))
  case atStart => exact ⟨0, rfl, ⟨by omega⟩, HT, HB⟩
  case round =>
    clear HT HB
    obtain ⟨j, rfl, HJ, HT, HB⟩ := hrel
    have hj0 := HJ.out
    obtain ⟨y, hy⟩ : ∃ y : Int, (j : Int) = y := ⟨_, rfl⟩
    by_cases hj : j < xs.length
    · by_cases h60 : j < 60
      · obtain ⟨x, hx⟩ : ∃ x, xs[j]? = some x := ⟨_, List.getElem?_eq_getElem hj⟩
        obtain ⟨ad, e, _⟩ := cells9 HC.out hx
        subst e
        have HCF := Aside0.mk (fun (W : World) (hb : Below w.heap.size w W) => cells9y (Kd.C_below HC.out hb) hy hx)
        have HF := Aside0.mk (HFIT.out x (List.mem_of_getElem? hx))
        have HA := Aside0.mk (HADS.out x (List.mem_of_getElem? hx))
        have HMS := Aside0.mk (madeAt_succ hx)
        have HI := Aside0.mk (inv_made xs j)
        have HI2 := Aside0.mk (inv_made xs (j + 1))
        have HR2 := Aside0.mk (rng_of (ads_made HADS.out (j + 1)) HI2.out)
        rw [HMS.out] at HI2 HR2
        have hdo := fun W (hW : Two W w.heap.size sb db (madeAt xs j) (madeAt xs j)) (hB : w.heap.size ≤ W.heap.size) => two_do hW HI.out hB x HF.out
        have hdoes := fun W (hW : Two W w.heap.size sb db (If.step (madeAt xs j) (spOf x)).1 (madeAt xs j)) (hB : w.heap.size ≤ W.heap.size) => two_does hW HI.out hB x HF.out HA.out
        generalize If.step (madeAt xs j) (spOf x) = r at hdo hdoes HMS HI2 HR2
        obtain ⟨r0, r1, r2⟩ := r
        simp only at hdo hdoes HMS HI2 HR2
        rw [hy]
        have HY := Aside0.mk hy
        have b1 : decide (y < (xs.length : Int)) = true := decide_eq_true (by omega)
        have b2 : decide (y < 60) = true := decide_eq_true (by omega)
        have p1 : (0 ≤ y) = True := eq_true (by omega)
        have q1 : (y < (xs.length : Int)) = True := eq_true (by omega)
        have hn : wrap64 (y + 1) = ((j + 1 : Nat) : Int) := by unfold wrap64; omega
        have HN := Aside0.mk hn
        obtain ⟨gk0, rfl⟩ : ∃ q, gk = q + 1 := ⟨gk - 1, by omega⟩
        clear hx hy hn hj h60 hj0
        obtain ⟨x0, x1, x2, x3, x4, x5, x6, x7, x8⟩ := HCF.out _ HB.out
        go_wp2_with fail
        refine Calls.mono (hdo _ HT.out HB.out.size) ?_
        rintro e w4 ⟨rfl, ht, hb⟩
        replace HT := Aside0.mk ht
        replace HB := Aside0.mk (HB.out.trans hb)
        clear ht hb hdo x0 x1 x2 x3 x4 x5 x6 x7 x8
        obtain ⟨x0, x1, x2, x3, x4, x5, x6, x7, x8⟩ := HCF.out _ HB.out
        go_wp2_with fail
        refine Calls.mono (hdoes _ HT.out HB.out.size) ?_
        rintro e w5 ⟨rfl, ht, hb⟩
        replace HT := Aside0.mk ht
        replace HB := Aside0.mk (HB.out.trans hb)
        clear ht hb hdoes x0 x1 x2 x3 x4 x5 x6 x7 x8
        obtain ⟨x0, x1, x2, x3, x4, x5, x6, x7, x8⟩ := HCF.out _ HB.out
        go_wp2_with fail
        refine Calls.mono (tells_calls HT.out.has HT.out.dhas HI2.out HR2.out HF.out HA.out) ?_
        rintro e w6 ⟨rfl, hb⟩
        replace HT := Aside0.mk (HT.out.below hb)
        replace HB := Aside0.mk (below_step HB.out hb)
        clear hb x0 x1 x2 x3 x4 x5 x6 x7 x8
        obtain ⟨x0, x1, x2, x3, x4, x5, x6, x7, x8⟩ := HCF.out _ HB.out
        have hlocs := has_locals HT.out.has HI2.out x.f4
        have HL8 := Aside0.mk (locals8 (Inv.ls8 HI2.out) x.f4)
        generalize locals r0 x.f4 = L at hlocs HL8
        go_wp2_with fail
        refine Calls.mono hlocs ?_
        rintro e w7 ⟨⟨A1, cc1, rfl, hC1, hRL, hge⟩, hb⟩
        have HRW := Aside0.mk (show Rw w7 w6.heap.size A1 L.length cc1 from ⟨L, rfl, hRL, hge⟩)
        have HB7 := Aside0.mk hb
        have hlen : (L.length : Int) ≤ 8 := by have := HL8.out; omega
        clear hb hlocs hC1 hRL hge x0 x1 x2 x3 x4 x5 x6 x7 x8
        obtain ⟨m, hm⟩ : ∃ m, L.length = m := ⟨_, rfl⟩
        rw [hm] at HRW hlen ⊢
        clear hm HL8
        go_wp2_with fail
        go_loopg [12] m (fun kq v12 w' => ∃ (k : Nat), v12 = .int .i64 (k : Int) ∧ Aside0 (k + kq = m) ∧ Aside0 (Below w6.heap.size w6 w') ∧ Aside0 (Rw w' w6.heap.size A1 m cc1))
        case atStart => exact ⟨0, rfl, ⟨by omega⟩, HB7, HRW⟩
        case round =>
          clear HB7 HRW
          obtain ⟨k, rfl, HK, HB7, HRW⟩ := hrel
          obtain ⟨z, hz⟩ : ∃ z : Int, (k : Int) = z := ⟨_, rfl⟩
          by_cases hk : k < m
          · obtain ⟨g, e, hg, ⟨u, hu⟩, hfr, hrw⟩ := rw_cell HRW.out hk
            subst e
            have HG := Aside0.mk hg
            have HRW2 := Aside0.mk hrw
            have hzk : z.toNat = k := by omega
            have hwz : wrap64 (z + 1) = ((k + 1 : Nat) : Int) := by unfold wrap64; omega
            have HZ := Aside0.mk hz
            have HWZ := Aside0.mk hwz
            have b3 : decide (z < (m : Int)) = true := decide_eq_true (by omega)
            have p3 : (0 ≤ z) = True := eq_true (by omega)
            have q3 : (z < (m : Int)) = True := eq_true (by omega)
            obtain ⟨gk2, rfl⟩ : ∃ q, gk = q + 1 := ⟨gk - 1, by have := HK.out; omega⟩
            rw [hz]
            clear hz hwz hg hrw
            go_wp2
            go_roundg gk2
            case measure => omega
            case rel => exact ⟨k + 1, by first | rw [HWZ.out] | exact congrArg _ (by have := HZ.out; omega), ⟨by have := HK.out; omega⟩, ⟨below_set HB7.out HG.out⟩, HRW2⟩
          · have b3 : decide (z < (m : Int)) = false := decide_eq_false (by omega)
            have HT3 := Aside0.mk (HT.out.below HB7.out)
            have HB3 := Aside0.mk (below_step HB.out HB7.out)
            rw [hz]
            clear hz hk
            go_wp2
            go_roundg gk0
            case measure => omega
            case rel => exact ⟨j + 1, by first | rw [HN.out] | exact congrArg _ (by have := HY.out; omega), ⟨by have := HJ.out; omega⟩, ⟨by rw [HMS.out]; exact HT3.out⟩, HB3⟩
      · have b1 : decide (y < (xs.length : Int)) = true := decide_eq_true (by omega)
        have b2 : decide (y < 60) = false := decide_eq_false (by omega)
        rw [hy]
        clear hy hj h60 hj0
        go_wp2
        go_ret
        exact ⟨rfl, HB.out⟩
    · have b1 : decide (y < (xs.length : Int)) = false := decide_eq_false (by omega)
      rw [hy]
      clear hy hj hj0
      go_wp2
      go_ret
      exact ⟨rfl, HB.out⟩
theorem ads_of {x : SI} (h : GSI x) : AdOk x.f6 := ⟨⟨(wf_u64 h.2.2.2.2.2.2.2.1).1, by have := (wf_u64 h.2.2.2.2.2.2.2.1).2; omega⟩, ⟨(wf_u64 h.2.2.2.2.2.2.2.2).1, by have := (wf_u64 h.2.2.2.2.2.2.2.2).2; omega⟩⟩
theorem playsCalls (A : Option Addr) (c : Nat) (ls : List SI) (hl : ls.length * 80 ≤ 140737488351232) (hf : ∀ x ∈ ls, GSI x) (w : World) (hr : Kd.C k45 w A ls.length ls) (hc : ls.length ≤ c) :
    Calls Try.prog 4 #[.slice A ls.length c] w fun e w' => e = .returned (.bool true) ∧ Below w.heap.size w w' :=
  plays A c ls w hr (by omega) (fun x hx => fit_of (hf x hx)) (fun x hx => ads_of (hf x hx))
end Go.Proofs.Ytefbcigccfkkgaa.WIf
