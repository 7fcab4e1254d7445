/-
  The calls of a set of ports in memory, tenth part: the first calls, whose answers are fixed. Conditions: those of each theorem.
-/
import Derived.Test.YtefbcigccfkkgaaWIface9
set_option linter.unusedVariables false
set_option linter.unusedSimpArgs false
namespace Go.Proofs.Ytefbcigccfkkgaa.WIf
open Go.RowKit Go.Maps Go.WideMaps Go.Proofs.Ytefbcigccfkkgaa.PBase Go.Proofs.YtefbcigccfkkgaaW.PrintWords Go.Proofs.YtefbcigccfkkgaaW.PrintLast Go.Proofs.YtefbcigccfkkgaaW.PrintMore Go.Proofs.Ytefbcigccfkkgaa.If
attribute [local go_sem] max2_int min2_int max_two min_two
attribute [local go_sem high] eqA25
section
variable {w : World} {B sb : Nat} {X : Nat → Prop} {st : St}
/-- What a call that writes leaves. -/
def Left (w w' : World) (B : Nat) (X : Nat → Prop) (sb : Nat) (st : St) : Prop := Has w' B X sb st ∧ Below B w w' ∧ ∀ k, X k → w'.heap[k]? = w.heap[k]?
theorem has_add (h : Has w B X sb st) (hI : Inv st) (hB : B ≤ w.heap.size) (hX : ∀ k, X k → k < w.heap.size) (s : ByteArray) (hs : s.size ≤ maxLen) (mac mtu : Int) (h0 : 0 ≤ mac) (h1 : mac < 18446744073709551616) :
    Calls Try.prog 24 #[.pointer (some ⟨sb, 0, none⟩), .string s, .int .u64 mac, .int .i64 mtu] w fun e w' => e = .returned (.tuple #[.int .i64 (add st s mac mtu).2.1, .int .i64 (add st s mac mtu).2.2]) ∧ Left w w' B X sb (add st s mac mtu).1 := by
  obtain ⟨S, mb, v, xs, hm, hS⟩ := h
  exact Calls.mono (add_calls hm hI.few s hs mac mtu h0 h1) (fun _ _ q => ⟨q.1, Has.stepped hS hX hB q.2⟩)
theorem has_put (h : Has w B X sb st) (hI : Inv st) (hB : B ≤ w.heap.size) (hX : ∀ k, X k → k < w.heap.size) (n : Int) (a : Ad) (bits : Int) :
    Calls Try.prog 25 #[.pointer (some ⟨sb, 0, none⟩), .int .i64 n, .agg (adA a), .int .i64 bits] w fun e w' => e = .returned (.int .i64 (put st n a bits).2) ∧ Left w w' B X sb (put st n a bits).1 := by
  obtain ⟨S, mb, v, xs, hm, hS⟩ := h
  exact Calls.mono (put_calls hm hI.few (Inv.ls8 hI) n a bits) (fun _ _ q => ⟨q.1, Has.stepped hS hX hB q.2⟩)
theorem has_turn (h : Has w B X sb st) (hI : Inv st) (hB : B ≤ w.heap.size) (hX : ∀ k, X k → k < w.heap.size) (n : Int) (up : Bool) :
    Calls Try.prog 21 #[.pointer (some ⟨sb, 0, none⟩), .int .i64 n, .bool up] w fun e w' => e = .returned (.int .i64 (turn st n up).2) ∧ Left w w' B X sb (turn st n up).1 := by
  obtain ⟨S, mb, v, xs, hm, hS⟩ := h
  exact Calls.mono (turn_calls hm hI.few n up) (fun _ _ q => ⟨q.1, Has.stepped hS hX hB (Stepped.turned q.2)⟩)
theorem has_do (h : Has w B X sb st) (hI : Inv st) (hB : B ≤ w.heap.size) (hX : ∀ k, X k → k < w.heap.size) (x : SI) (hx : Fit x) :
    Calls Try.prog 15 #[.pointer (some ⟨sb, 0, none⟩), .agg (stA x)] w fun e w' => e = .returned (.tuple #[.int .i64 (If.step st (spOf x)).2.1, .int .i64 (If.step st (spOf x)).2.2]) ∧ Left w w' B X sb (If.step st (spOf x)).1 := by
  obtain ⟨S, mb, v, xs, hm, hS⟩ := h
  exact Calls.mono (do_calls hm hI x hx) (fun _ _ q => ⟨q.1, Has.stepped hS hX hB q.2⟩)
theorem has_mine (h : Has w B X sb st) (hI : Inv st) (a : Ad) :
    Calls Try.prog 12 #[.pointer (some ⟨sb, 0, none⟩), .agg (adA a)] w fun e w' => e = .returned (.int .i64 (mine st a)) ∧ Below w.heap.size w w' := by
  obtain ⟨S, mb, v, xs, hm, hS⟩ := h
  exact mine_calls hm hI.few (Inv.ls8 hI) a
theorem has_near (h : Has w B X sb st) (hI : Inv st) (a : Ad) :
    Calls Try.prog 20 #[.pointer (some ⟨sb, 0, none⟩), .agg (adA a)] w fun e w' => e = .returned (.tuple #[.int .i64 (near st a), .bool (decide (near st a > 0))]) ∧ Below w.heap.size w w' := by
  obtain ⟨S, mb, v, xs, hm, hS⟩ := h
  exact near_calls hm hI.few (Inv.ls8 hI) a
theorem has_source (h : Has w B X sb st) (hI : Inv st) (n : Int) (a : Ad) :
    Calls Try.prog 10 #[.pointer (some ⟨sb, 0, none⟩), .int .i64 n, .agg (adA a)] w fun e w' => e = .returned (.tuple #[.agg (adA (source st n a).1), .bool (source st n a).2]) ∧ Below w.heap.size w w' := by
  obtain ⟨S, mb, v, xs, hm, hS⟩ := h
  exact source_calls hm hI.few (Inv.ls8 hI) n a
theorem has_named (h : Has w B X sb st) (s : ByteArray) (hs : s.size ≤ maxLen) :
    Calls Try.prog 19 #[.pointer (some ⟨sb, 0, none⟩), .string s] w fun e w' => e = .returned (.int .i64 (named st s)) ∧ w = w' := by
  obtain ⟨S, mb, v, xs, hm, hS⟩ := h
  exact named_calls hm s hs
theorem has_port (h : Has w B X sb st) (hI : Inv st) (n : Int) :
    Calls Try.prog 18 #[.pointer (some ⟨sb, 0, none⟩), .int .i64 n] w fun e w' => e = .returned (.tuple #[.agg #[.string (portR st n).1.f0, .int .u64 (portR st n).1.f1, .int .i64 (portR st n).1.f2, .bool (portR st n).1.f3], .bool (portR st n).2]) ∧ Below w.heap.size w w' := by
  obtain ⟨S, mb, v, xs, hm, hS⟩ := h
  exact port_calls hm hI.few n
theorem has_locals (h : Has w B X sb st) (hI : Inv st) (n : Int) :
    Calls Try.prog 11 #[.pointer (some ⟨sb, 0, none⟩), .int .i64 n] w fun e w' => (∃ A c, e = .returned (.slice A (locals st n).length c) ∧ k34.C w' A (locals st n).length (locals st n) ∧ RL w' (.slice A (locals st n).length c) (locals st n) ∧ ∀ k, (Value.slice A (locals st n).length c).ownBlock = some k → w.heap.size ≤ k) ∧ Below w.heap.size w w' := by
  obtain ⟨S, mb, v, xs, hm, hS⟩ := h
  refine Calls.mono (locals_calls hm hI.few (Inv.ls8 hI) n) ?_
  rintro e w' ⟨v', rfl, h1, h2, h3⟩
  obtain ⟨A, c, rfl, hC⟩ := RL.reads h1
  exact ⟨⟨A, c, rfl, hC, h1, h2⟩, h3⟩
theorem Left.lt {w w' : World} (h : Left w w' B X sb st) (hX : ∀ k, X k → k < w.heap.size) (hB : B ≤ w.heap.size) : (∀ k, X k → k < w'.heap.size) ∧ B ≤ w'.heap.size := ⟨fun k hk => Nat.lt_of_lt_of_le (hX k hk) h.2.1.size, Nat.le_trans hB h.2.1.size⟩
end
def eth0 : ByteArray := ⟨#[101, 116, 104, 48]⟩
def eth1 : ByteArray := ⟨#[101, 116, 104, 49]⟩
def aA : Ad := ⟨false, 0, 167772161⟩
def aB : Ad := ⟨false, 0, 167772169⟩
def aC : Ad := ⟨false, 0, 184549377⟩
def s1 : St := [⟨eth0, 2, 1500, false, []⟩]
def s2 : St := [⟨eth0, 2, 1500, false, [⟨aA, 24⟩]⟩]
def s3 : St := [⟨eth0, 2, 1500, true, [⟨aA, 24⟩]⟩]
theorem w1_ : add [] eth0 2 1500 = (s1, 1, 0) := by kernel_rfl
theorem w2_ : add s1 eth0 4 1500 = (s1, 0, 130) := by kernel_rfl
theorem w3_ : add s1 eth1 3298534883328 1500 = (s1, 0, 1) := by kernel_rfl
theorem w4_ : put s1 1 aA 24 = (s2, 0) := by kernel_rfl
theorem w5_ : put s2 1 aA 16 = (s2, 133) := by kernel_rfl
theorem w6_ : near s2 aB = 0 := by kernel_rfl
theorem w7_ : turn s2 1 true = (s3, 0) := by kernel_rfl
theorem w8_ : near s3 aB = 1 := by kernel_rfl
theorem w9_ : source s3 1 aC = (aA, true) := by kernel_rfl
theorem w10_ : mine s3 aA = 1 := by kernel_rfl
theorem w11_ : named s3 eth0 = 1 := by kernel_rfl
theorem w12_ : locals s3 1 = [⟨aA, 24⟩] := by kernel_rfl
theorem i1_ : Inv s1 := by have := inv_add inv_nil eth0 2 1500; rwa [w1_] at this
theorem i2_ : Inv s2 := by have := inv_put i1_ 1 aA 24; rwa [w4_] at this
theorem i3_ : Inv s3 := by have := inv_turn i2_ 1 true; rwa [w7_] at this
set_option maxHeartbeats 4000000 in
set_option maxRecDepth 100000 in
theorem awake_calls (w : World) : Calls Try.prog 8 #[] w fun e w' => e = .returned (.bool true) ∧ Below w.heap.size w w' := by
  have hu25 := Try.underlying25
  go_enter Try.func8, Try.ntmps8
  go_wp2_with fail
  refine Calls.mono (new_calls w) ?_
  rintro e w1 ⟨sb, mb, S, rfl, hm, hS, hb⟩
  have HH := Aside0.mk (show Has w1 w.heap.size (fun _ => False) sb [] from ⟨S, mb, _, _, hm, fun k hk => ⟨hS k hk, fun q => q⟩⟩)
  have HB := Aside0.mk hb
  clear hm hS hb
  go_wp2_with (first | ((with_reducible refine gate_dst (N := 2) rfl ?_); refine sh_E 2 25 (adA zeroA) ?_; intro g hg w2 hbox hb; have HG := Aside0.mk hg; have BK := Aside0.mk hbox; have HBB := Aside0.mk hb; obtain ⟨c0, c1, c2⟩ := MBlk.c3 hbox; obtain ⟨f0, f1, f2⟩ := MBlk.f3 hbox; clear hbox hb hg) | fail)
  have hbk := put3 (b0 := .bool false) (b1 := .int .u64 0) (b2 := .int .u64 167772161) BK.out
  have hbb : Below w1.heap.size w1 (((w2.setCell ⟨g, 0, none⟩ (.bool false)).setCell ⟨g, 1, none⟩ (.int .u64 0)).setCell ⟨g, 2, none⟩ (.int .u64 167772161)) := below3 HBB.out (by have := HG.out; omega)
  have hav := (HH.out.avoid (g := g) (by have := HG.out; omega)).below hbb
  have hbn := below_step HB.out hbb
  clear BK HBB HG HH HB hbb f0 f1 f2 c0 c1 c2
  generalize (((w2.setCell ⟨g, 0, none⟩ (.bool false)).setCell ⟨g, 1, none⟩ (.int .u64 0)).setCell ⟨g, 2, none⟩ (.int .u64 167772161)) = W at hbk hav hbn ⊢
  have HH := Aside0.mk hav
  have HB := Aside0.mk hbn
  have BK := Aside0.mk (show W.heap[g]? = some (.cells (adA aA) 25 (0, 0)) from hbk)
  have hX : ∀ V : World, V.heap[g]? = some (.cells (adA aA) 25 (0, 0)) → ∀ k, (False ∨ k = g) → k < V.heap.size := fun V hV k hk => by
    rcases hk with q | q
    · exact q.elim
    · rw [q]; exact blk_lt hV
  clear hbk hav hbn
  have hc := has_add HH.out inv_nil HB.out.size (hX _ BK.out) eth0 (by decide) 2 1500 (by decide) (by decide)
  rw [w1_] at hc
  refine Calls.mono hc ?_
  rintro e w3 ⟨rfl, hh, hb, hk⟩
  replace HH := Aside0.mk hh
  replace HB := Aside0.mk (HB.out.trans hb)
  replace BK := Aside0.mk ((hk g (.inr rfl)).trans BK.out)
  clear hc hh hb hk
  obtain ⟨c0, c1, c2⟩ := MBlk.c3 BK.out
  go_wp2_with fail
  have hc := has_add HH.out i1_ HB.out.size (hX _ BK.out) eth0 (by decide) 4 1500 (by decide) (by decide)
  rw [w2_] at hc
  refine Calls.mono hc ?_
  rintro e w4 ⟨rfl, hh, hb, hk⟩
  replace HH := Aside0.mk hh
  replace HB := Aside0.mk (HB.out.trans hb)
  replace BK := Aside0.mk ((hk g (.inr rfl)).trans BK.out)
  clear hc hh hb hk
  obtain ⟨c0, c1, c2⟩ := MBlk.c3 BK.out
  go_wp2_with fail
  have hc := has_add HH.out i1_ HB.out.size (hX _ BK.out) eth1 (by decide) 3298534883328 1500 (by decide) (by decide)
  rw [w3_] at hc
  refine Calls.mono hc ?_
  rintro e w5 ⟨rfl, hh, hb, hk⟩
  replace HH := Aside0.mk hh
  replace HB := Aside0.mk (HB.out.trans hb)
  replace BK := Aside0.mk ((hk g (.inr rfl)).trans BK.out)
  clear hc hh hb hk
  obtain ⟨c0, c1, c2⟩ := MBlk.c3 BK.out
  go_wp2_with fail
  have hc := has_put HH.out i1_ HB.out.size (hX _ BK.out) 1 aA 24
  rw [w4_] at hc
  refine Calls.mono hc ?_
  rintro e w6 ⟨rfl, hh, hb, hk⟩
  replace HH := Aside0.mk hh
  replace HB := Aside0.mk (HB.out.trans hb)
  replace BK := Aside0.mk ((hk g (.inr rfl)).trans BK.out)
  clear hc hh hb hk
  obtain ⟨c0, c1, c2⟩ := MBlk.c3 BK.out
  go_wp2_with fail
  have hc := has_put HH.out i2_ HB.out.size (hX _ BK.out) 1 aA 16
  rw [w5_] at hc
  refine Calls.mono hc ?_
  rintro e w7 ⟨rfl, hh, hb, hk⟩
  replace HH := Aside0.mk hh
  replace HB := Aside0.mk (HB.out.trans hb)
  replace BK := Aside0.mk ((hk g (.inr rfl)).trans BK.out)
  clear hc hh hb hk
  obtain ⟨c0, c1, c2⟩ := MBlk.c3 BK.out
  go_wp2_with fail
  have hc := has_near HH.out i2_ aB
  rw [w6_] at hc
  refine Calls.mono hc ?_
  rintro e w8 ⟨rfl, hb⟩
  replace HH := Aside0.mk (HH.out.below hb)
  replace HB := Aside0.mk (below_step HB.out hb)
  replace BK := Aside0.mk (blk_below BK.out hb)
  clear hc hb
  obtain ⟨c0, c1, c2⟩ := MBlk.c3 BK.out
  go_wp2_with fail
  have hc := has_turn HH.out i2_ HB.out.size (hX _ BK.out) 1 true
  rw [w7_] at hc
  refine Calls.mono hc ?_
  rintro e w9 ⟨rfl, hh, hb, hk⟩
  replace HH := Aside0.mk hh
  replace HB := Aside0.mk (HB.out.trans hb)
  replace BK := Aside0.mk ((hk g (.inr rfl)).trans BK.out)
  clear hc hh hb hk
  obtain ⟨c0, c1, c2⟩ := MBlk.c3 BK.out
  go_wp2_with fail
  have hc := has_near HH.out i3_ aB
  rw [w8_] at hc
  refine Calls.mono hc ?_
  rintro e w10 ⟨rfl, hb⟩
  replace HH := Aside0.mk (HH.out.below hb)
  replace HB := Aside0.mk (below_step HB.out hb)
  replace BK := Aside0.mk (blk_below BK.out hb)
  clear hc hb
  obtain ⟨c0, c1, c2⟩ := MBlk.c3 BK.out
  go_wp2_with fail
  have hc := has_source HH.out i3_ 1 aC
  rw [w9_] at hc
  refine Calls.mono hc ?_
  rintro e w11 ⟨rfl, hb⟩
  replace HH := Aside0.mk (HH.out.below hb)
  replace HB := Aside0.mk (below_step HB.out hb)
  replace BK := Aside0.mk (blk_below BK.out hb)
  clear hc hb
  obtain ⟨c0, c1, c2⟩ := MBlk.c3 BK.out
  go_upto_region 14 with (first | ((with_reducible refine gate_dst (N := 16) rfl ?_); refine sh_E 16 25 (adA zeroA) ?_; intro g6 hg V1 hbox hb; have HG := Aside0.mk hg; have BK6 := Aside0.mk hbox; have HBB := Aside0.mk hb; obtain ⟨d0, d1, d2⟩ := MBlk.c3 hbox; obtain ⟨f0, f1, f2⟩ := MBlk.f3 hbox; clear hbox hb hg) | fail)
  have hbk := put3 (b0 := .bool aA.f0) (b1 := .int .u64 aA.f1) (b2 := .int .u64 aA.f2) BK6.out
  have hbb : Below w11.heap.size w11 (((V1.setCell ⟨g6, 0, none⟩ (.bool aA.f0)).setCell ⟨g6, 1, none⟩ (.int .u64 aA.f1)).setCell ⟨g6, 2, none⟩ (.int .u64 aA.f2)) := below3 HBB.out (by have := HG.out; omega)
  clear BK6 HBB HG f0 f1 f2 d0 d1 d2 c0 c1 c2
  generalize (((V1.setCell ⟨g6, 0, none⟩ (.bool aA.f0)).setCell ⟨g6, 1, none⟩ (.int .u64 aA.f1)).setCell ⟨g6, 2, none⟩ (.int .u64 aA.f2)) = V2 at hbk hbb ⊢
  replace HH := Aside0.mk (HH.out.below hbb)
  replace HB := Aside0.mk (below_step HB.out hbb)
  replace BK := Aside0.mk (blk_below BK.out hbb)
  have BK6 := Aside0.mk hbk
  clear hbb hbk
  obtain ⟨c0, c1, c2⟩ := MBlk.c3 BK.out
  obtain ⟨d0, d1, d2⟩ := MBlk.c3 BK6.out
  go_wp2_with fail
  have hc := has_mine HH.out i3_ aA
  rw [w10_] at hc
  refine Calls.mono hc ?_
  rintro e V3 ⟨rfl, hb⟩
  replace HH := Aside0.mk (HH.out.below hb)
  replace HB := Aside0.mk (below_step HB.out hb)
  replace BK := Aside0.mk (blk_below BK.out hb)
  replace BK6 := Aside0.mk (blk_below BK6.out hb)
  clear hc hb c0 c1 c2 d0 d1 d2
  obtain ⟨c0, c1, c2⟩ := MBlk.c3 BK.out
  obtain ⟨d0, d1, d2⟩ := MBlk.c3 BK6.out
  go_wp2_with fail
  have hc := has_named HH.out eth0 (by decide)
  rw [w11_] at hc
  refine Calls.mono hc ?_
  rintro e V4 ⟨rfl, rfl⟩
  clear hc
  go_wp2_with fail
  have hc := has_locals HH.out i3_ 1
  rw [w12_] at hc
  refine Calls.mono hc ?_
  rintro e V5 ⟨⟨A, cc, rfl, _⟩, hb⟩
  replace HB := Aside0.mk (below_step HB.out hb)
  clear hc hb c0 c1 c2 d0 d1 d2
  go_wp2
  go_ret
  exact ⟨rfl, HB.out⟩
/-- What is known of a step that came in. -/
def GSI (x : SI) : Prop := (Lit.int .i64 x.f0).wf = true ∧ x.f1.size ≤ 140737488351232 ∧ (Lit.int .u64 x.f2).wf = true ∧ (Lit.int .i64 x.f3).wf = true ∧ (Lit.int .i64 x.f4).wf = true ∧ True ∧ True ∧ (Lit.int .u64 x.f6.f1).wf = true ∧ (Lit.int .u64 x.f6.f2).wf = true
theorem wf_u64 {x : Int} (h : (Lit.int .u64 x).wf = true) : 0 ≤ x ∧ x < 18446744073709551616 := by
  have h2 : (decide ((0 : Int) ≤ x) && decide (x ≤ 18446744073709551615)) = true := h
  rw [Bool.and_eq_true, decide_eq_true_eq, decide_eq_true_eq] at h2
  omega
theorem fit_of {x : SI} (h : GSI x) : Fit x := ⟨(wf_u64 h.2.2.1).1, (wf_u64 h.2.2.1).2, by have := h.2.1; unfold maxLen; omega⟩
end Go.Proofs.Ytefbcigccfkkgaa.WIf
