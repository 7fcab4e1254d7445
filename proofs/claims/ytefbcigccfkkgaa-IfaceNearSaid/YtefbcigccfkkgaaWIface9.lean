/-
  The calls of a set of ports in memory, ninth part: a step, a set behind steps. Conditions: those of each theorem.
-/
import Derived.Test.YtefbcigccfkkgaaWIface8
import Derived.Laws.BitsLemmas
set_option linter.unusedVariables false
set_option linter.unusedSimpArgs false
namespace Go.Proofs.Ytefbcigccfkkgaa.WIf
open Go.RowKit Go.Maps Go.WideMaps Go.Proofs.Ytefbcigccfkkgaa.PBase Go.Proofs.YtefbcigccfkkgaaW.PrintWords Go.Proofs.YtefbcigccfkkgaaW.PrintLast Go.Proofs.YtefbcigccfkkgaaW.PrintMore Go.Proofs.Ytefbcigccfkkgaa.If
attribute [local go_sem] max2_int min2_int max_two min_two
/-- A step, as it lies in a row. -/
structure S45 where
  f0 : Int
  f1 : ByteArray
  f2 : Int
  f3 : Int
  f4 : Int
  f5 : Bool
  f6 : S25
abbrev SI := S45
def zSI : SI := ⟨0, ⟨#[]⟩, 0, 0, 0, false, zeroA⟩
def k45 : Kd SI := Kd.iso (Kd.pair (Kd.int .i64) (Kd.pair Kd.string (Kd.pair (Kd.int .u64) (Kd.pair (Kd.int .i64) (Kd.pair (Kd.int .i64) (Kd.pair Kd.bool k25)))))) (fun x : SI => (x.f0, x.f1, x.f2, x.f3, x.f4, x.f5, x.f6))
def stL (x : SI) : List Value := [.int .i64 x.f0, .string x.f1, .int .u64 x.f2, .int .i64 x.f3, .int .i64 x.f4, .bool x.f5, .bool x.f6.f0, .int .u64 x.f6.f1, .int .u64 x.f6.f2]
abbrev stA (x : SI) : Array Value := #[.int .i64 x.f0, .string x.f1, .int .u64 x.f2, .int .i64 x.f3, .int .i64 x.f4, .bool x.f5, .bool x.f6.f0, .int .u64 x.f6.f1, .int .u64 x.f6.f2]
theorem kSI_open {w : World} {x : SI} {cs : List Value} (h : k45.K w x cs) : cs = stL x := by
  obtain ⟨_, _, rfl, rfl, ⟨_, _, rfl, rfl, ⟨_, _, rfl, rfl, ⟨_, _, rfl, rfl, ⟨_, _, rfl, rfl, ⟨_, _, rfl, rfl, s0⟩⟩⟩⟩⟩⟩ := h
  obtain rfl := k25_open s0
  exact rfl
/-- The cells of a step in a row. -/
theorem at_step {w : World} {A : Option Addr} {xs : List SI} (h : Kd.C k45 w A xs.length xs) {i : Nat} {x : SI} (hx : xs[i]? = some x) : ∃ ad, A = some ad ∧ w.cell? (ad.add (i * 9)) = some (.int .i64 x.f0) ∧ ∀ j u, 0 < j → (stL x)[j]? = some u → w.cell? ⟨(ad.add (i * 9)).block, (ad.add (i * 9)).off + j, none⟩ = some u := by
  have hi := (List.getElem?_eq_some_iff.1 hx).1
  obtain ⟨ad, c, e, _, hK, hc0⟩ := Kd.C_get h zSI (i : Int) (by omega) (by omega)
  rw [Int.toNat_natCast] at hc0 hK
  have hg : xs.getD i zSI = x := by rw [List.getD_eq_getElem?_getD, hx]; rfl
  rw [hg] at hK
  have hc : ∀ j u, c[j]? = some u → w.cell? (ad.add (i * 9 + j)) = some u := hc0
  obtain rfl := kSI_open hK
  exact ⟨ad, e, hc 0 _ rfl, fun j u h0 hj => by rw [← add_field _ _ j h0]; exact hc j u hj⟩
def spOf (x : SI) : Sp := ⟨x.f0, x.f1, x.f2, x.f3, x.f4, x.f5, x.f6⟩
/-- A step that can be. -/
def Fit (x : SI) : Prop := 0 ≤ x.f2 ∧ x.f2 < 18446744073709551616 ∧ x.f1.size ≤ maxLen
theorem and7 (n : Int) : bits .and .i64 n 7 = n % 8 := by
  have h127 : (BitVec.ofInt 64 7).toNat = 2 ^ 3 - 1 := by decide
  have key : (BitVec.ofInt 64 n &&& BitVec.ofInt 64 7).toNat = (n % ((2 ^ 64 : Nat) : Int)).toNat % 2 ^ 3 := by
    rw [BitVec.toNat_and, BitVec.toNat_ofInt, h127, Nat.and_two_pow_sub_one_eq_mod]
  show IntKind.i64.wrap ((BitVec.ofInt 64 n &&& BitVec.ofInt 64 7).toNat : Nat) = n % 8
  rw [key, IntKind.wrap_i64]
  omega
theorem Inv.ls8 {st : St} (h : Inv st) : ∀ p ∈ st, p.ls.length ≤ 8 := fun p hp => (h.rows p hp).1
section
variable {w : World} {S : Nat → Prop} {sb mb : Nat} {v : Value} {xs : List PS} {st st' : St}
theorem Stepped.pre {w1 w' : World} (hb : Below w.heap.size w w1) (h : Stepped w1 w' S sb mb st') : Stepped w w' S sb mb st' := by
  obtain ⟨S', v', xs', h1, h2, h3⟩ := h
  refine ⟨S', v', xs', h1, fun k hk => ?_, (Fr.of_below hb).trans h3 (fun k hk => .inl hk)⟩
  have := hb.size
  rcases h2 k hk with q | q
  · exact .inl q
  · exact .inr (by omega)
theorem Stepped.turned {w' : World} (h : (∃ xs', Mem w' S sb mb v xs' st') ∧ Fr S w w') : Stepped w w' S sb mb st' := by
  obtain ⟨⟨xs', h1⟩, h2⟩ := h
  exact ⟨S, v, xs', h1, fun k hk => .inl hk, h2⟩
set_option maxHeartbeats 2000000 in
set_option maxRecDepth 100000 in
theorem do_calls (h : Mem w S sb mb v xs st) (hI : Inv st) (x : SI) (hx : Fit x) :
    Calls Try.prog 15 #[.pointer (some ⟨sb, 0, none⟩), .agg (stA x)] w fun e w' => e = .returned (.tuple #[.int .i64 (If.step st (spOf x)).2.1, .int .i64 (If.step st (spOf x)).2.2]) ∧ Stepped w w' S sb mb (If.step st (spOf x)).1 := by
  have HB := Aside0.mk (Below.refl w.heap.size w)
  obtain ⟨h0, h1, hs⟩ := hx
  have h8 := hI.few
  have hls := Inv.ls8 hI
  obtain ⟨q, hq⟩ : ∃ q, x.f0 % 8 = q := ⟨_, rfl⟩
  have h7 : bits .and .i64 x.f0 7 = q := by rw [and7, hq]
  have HQ := Aside0.mk (show (spOf x).what % 8 = q from hq)
  clear hI hq
  by_cases q0 : q = 0
  · subst q0
    have e0 : If.step st (spOf x) = add st x.f1 x.f2 x.f3 := by unfold If.step; rw [HQ.out, if_pos rfl]; rfl
    rw [e0]
    clear e0
    have hcall := fun W (hW : Mem W S sb mb v xs st) => add_calls hW h8 x.f1 hs x.f2 x.f3 h0 h1
    obtain ⟨r, hr⟩ : ∃ r, add st x.f1 x.f2 x.f3 = r := ⟨_, rfl⟩
    rw [hr] at hcall ⊢
    clear hr
    go_enter Try.func15, Try.ntmps15
    go_wp2_with (first | ((with_reducible refine gate_dst (N := 3) rfl ?_); refine sh_E 3 45 (stA x) ?_; intro g hg w1 hbox hb; replace HB := sh_S HB hb; obtain ⟨c0, c1, c2, c3, c4, c5, c6, c7, c8⟩ := MBlk.c9 hbox; have HM := Aside0.mk (h.below hb); clear hbox hb hg) | fail)
    refine Calls.mono (hcall _ HM.out) ?_
    rintro e w' ⟨rfl, hst⟩
    have HS := Aside0.mk (Stepped.pre HB.out hst)
    clear hst
    go_wp2
    go_ret2
    exact ⟨rfl, HS.out⟩
  by_cases q1 : q = 1
  · subst q1
    have e0 : If.step st (spOf x) = ((turn st x.f4 x.f5).1, 0, (turn st x.f4 x.f5).2) := by unfold If.step; rw [HQ.out, if_neg (by decide), if_pos rfl]; rfl
    rw [e0]
    clear e0
    have hcall := fun W (hW : Mem W S sb mb v xs st) => turn_calls hW h8 x.f4 x.f5
    obtain ⟨r, hr⟩ : ∃ r, turn st x.f4 x.f5 = r := ⟨_, rfl⟩
    rw [hr] at hcall ⊢
    clear hr
    go_enter Try.func15, Try.ntmps15
    go_wp2_with (first | ((with_reducible refine gate_dst (N := 3) rfl ?_); refine sh_E 3 45 (stA x) ?_; intro g hg w1 hbox hb; replace HB := sh_S HB hb; obtain ⟨c0, c1, c2, c3, c4, c5, c6, c7, c8⟩ := MBlk.c9 hbox; have HM := Aside0.mk (h.below hb); clear hbox hb hg) | fail)
    refine Calls.mono (hcall _ HM.out) ?_
    rintro e w' ⟨rfl, hst⟩
    have HS := Aside0.mk (Stepped.pre HB.out (Stepped.turned hst))
    clear hst
    go_wp2
    go_ret2
    exact ⟨rfl, HS.out⟩
  by_cases q5 : q = 5
  · subst q5
    have e0 : If.step st (spOf x) = ((drop st x.f4 x.f6).1, 0, (drop st x.f4 x.f6).2) := by unfold If.step; rw [HQ.out, if_neg (by decide), if_neg (by decide), if_pos rfl]; rfl
    rw [e0]
    clear e0
    have hcall := fun W (hW : Mem W S sb mb v xs st) => drop_calls hW h8 hls x.f4 x.f6
    obtain ⟨r, hr⟩ : ∃ r, drop st x.f4 x.f6 = r := ⟨_, rfl⟩
    rw [hr] at hcall ⊢
    clear hr
    go_enter Try.func15, Try.ntmps15
    go_wp2_with (first | ((with_reducible refine gate_dst (N := 3) rfl ?_); refine sh_E 3 45 (stA x) ?_; intro g hg w1 hbox hb; replace HB := sh_S HB hb; obtain ⟨c0, c1, c2, c3, c4, c5, c6, c7, c8⟩ := MBlk.c9 hbox; have HM := Aside0.mk (h.below hb); clear hbox hb hg) | fail)
    refine Calls.mono (hcall _ HM.out) ?_
    rintro e w' ⟨rfl, hst⟩
    have HS := Aside0.mk (Stepped.pre HB.out hst)
    clear hst
    go_wp2
    go_ret2
    exact ⟨rfl, HS.out⟩
  have e0 : If.step st (spOf x) = ((put st x.f4 x.f6 x.f3).1, 0, (put st x.f4 x.f6 x.f3).2) := by unfold If.step; rw [HQ.out, if_neg q0, if_neg q1, if_neg q5]; rfl
  rw [e0]
  have p0 : (q == 0) = false := by simpa using q0
  have p1 : (q == 1) = false := by simpa using q1
  have p5 : (q == 5) = false := by simpa using q5
  clear e0
  have hcall := fun W (hW : Mem W S sb mb v xs st) => put_calls hW h8 hls x.f4 x.f6 x.f3
  obtain ⟨r, hr⟩ : ∃ r, put st x.f4 x.f6 x.f3 = r := ⟨_, rfl⟩
  rw [hr] at hcall ⊢
  clear hr
  go_enter Try.func15, Try.ntmps15
  go_wp2_with (first | ((with_reducible refine gate_dst (N := 3) rfl ?_); refine sh_E 3 45 (stA x) ?_; intro g hg w1 hbox hb; replace HB := sh_S HB hb; obtain ⟨c0, c1, c2, c3, c4, c5, c6, c7, c8⟩ := MBlk.c9 hbox; have HM := Aside0.mk (h.below hb); clear hbox hb hg) | fail)
  refine Calls.mono (hcall _ HM.out) ?_
  rintro e w' ⟨rfl, hst⟩
  have HS := Aside0.mk (Stepped.pre HB.out hst)
  clear hst
  go_wp2
  go_ret2
  exact ⟨rfl, HS.out⟩
end
/-- A set of ports lies from B on, and holds no block of X. -/
def Has (w : World) (B : Nat) (X : Nat → Prop) (sb : Nat) (st : St) : Prop := ∃ S mb v xs, Mem w S sb mb v xs st ∧ ∀ k, S k → B ≤ k ∧ ¬ X k
theorem Has.below {w w1 : World} {B sb : Nat} {X : Nat → Prop} {st : St} (h : Has w B X sb st) (hb : Below w.heap.size w w1) : Has w1 B X sb st := by
  obtain ⟨S, mb, v, xs, h1, h2⟩ := h
  exact ⟨S, mb, v, xs, h1.below hb, h2⟩
theorem Has.drewN {w : World} {B sb : Nat} {X : Nat → Prop} {st : St} (h : Has w B X sb st) (n : Nat) : Has (w.drewN n) B X sb st := by
  obtain ⟨S, mb, v, xs, h1, h2⟩ := h
  exact ⟨S, mb, v, xs, h1.keep (Nat.le_refl _) (fun _ _ => rfl), h2⟩
/-- One more block that is none of its. -/
theorem Has.avoid {w : World} {B sb : Nat} {X : Nat → Prop} {st : St} (h : Has w B X sb st) {g : Nat} (hg : w.heap.size ≤ g) : Has w B (fun k => X k ∨ k = g) sb st := by
  obtain ⟨S, mb, v, xs, h1, h2⟩ := h
  exact ⟨S, mb, v, xs, h1, fun k hk => ⟨(h2 k hk).1, fun q => by
    rcases q with q | q
    · exact (h2 k hk).2 q
    · have := h1.lt k hk; omega⟩⟩
theorem Has.stepped {w w' : World} {B sb mb : Nat} {X S : Nat → Prop} {st' : St} (hS : ∀ k, S k → B ≤ k ∧ ¬ X k) (hX : ∀ k, X k → k < w.heap.size) (hB : B ≤ w.heap.size) (h : Stepped w w' S sb mb st') : Has w' B X sb st' ∧ Below B w w' ∧ ∀ k, X k → w'.heap[k]? = w.heap[k]? := by
  obtain ⟨S', v', xs', h1, h2, h3⟩ := h
  refine ⟨⟨S', mb, v', xs', h1, fun k hk => ?_⟩, h3.below (Below.refl _ _) hB (fun k hk => (hS k hk).1), fun k hk => h3.block k (hX k hk) (fun q => (hS k q).2 hk)⟩
  rcases h2 k hk with q | q
  · exact hS k q
  · exact ⟨by omega, fun z => by have := hX k z; omega⟩
theorem run_snoc (l : List Sp) (x : Sp) : ∀ st : St, If.run st (l ++ [x]) = (If.step (If.run st l) x).1 := by
  induction l with
  | nil => intro st; rfl
  | cons y r ih => intro st; exact ih _
/-- The set behind the first i steps. -/
def madeAt (xs : List SI) (i : Nat) : St := If.run [] ((xs.take i).map spOf)
theorem madeAt_succ {xs : List SI} {i : Nat} {x : SI} (h : xs[i]? = some x) : madeAt xs (i + 1) = (If.step (madeAt xs i) (spOf x)).1 := by
  unfold madeAt
  rw [List.take_add_one, h, Option.toList_some, List.map_append, List.map_cons, List.map_nil, run_snoc]
theorem inv_made (xs : List SI) (i : Nat) : Inv (madeAt xs i) := inv_run _ inv_nil
theorem cells9 {w : World} {A : Option Addr} {xs : List SI} (h : Kd.C k45 w A xs.length xs) {i : Nat} {x : SI} (hx : xs[i]? = some x) : ∃ ad, A = some ad ∧ w.cell? (ad.add (i * 9)) = some (.int .i64 x.f0) ∧ w.cell? ⟨(ad.add (i * 9)).block, (ad.add (i * 9)).off + 1, none⟩ = some (.string x.f1) ∧ w.cell? ⟨(ad.add (i * 9)).block, (ad.add (i * 9)).off + 2, none⟩ = some (.int .u64 x.f2) ∧
    w.cell? ⟨(ad.add (i * 9)).block, (ad.add (i * 9)).off + 3, none⟩ = some (.int .i64 x.f3) ∧ w.cell? ⟨(ad.add (i * 9)).block, (ad.add (i * 9)).off + 4, none⟩ = some (.int .i64 x.f4) ∧ w.cell? ⟨(ad.add (i * 9)).block, (ad.add (i * 9)).off + 5, none⟩ = some (.bool x.f5) ∧ w.cell? ⟨(ad.add (i * 9)).block, (ad.add (i * 9)).off + 6, none⟩ = some (.bool x.f6.f0) ∧
    w.cell? ⟨(ad.add (i * 9)).block, (ad.add (i * 9)).off + 7, none⟩ = some (.int .u64 x.f6.f1) ∧ w.cell? ⟨(ad.add (i * 9)).block, (ad.add (i * 9)).off + 8, none⟩ = some (.int .u64 x.f6.f2) := by
  obtain ⟨ad, e, h0, h1⟩ := at_step h hx
  exact ⟨ad, e, h0, h1 1 _ (by decide) rfl, h1 2 _ (by decide) rfl, h1 3 _ (by decide) rfl, h1 4 _ (by decide) rfl, h1 5 _ (by decide) rfl, h1 6 _ (by decide) rfl, h1 7 _ (by decide) rfl, h1 8 _ (by decide) rfl⟩
set_option maxHeartbeats 2000000 in
set_option maxRecDepth 100000 in
theorem made_calls (w : World) (A : Option Addr) (c : Nat) (xs : List SI) (hC : Kd.C k45 w A xs.length xs) (hl : xs.length ≤ 140737488355328) (hfit : ∀ x ∈ xs, Fit x) :
    Calls Try.prog 9 #[.slice A xs.length c] w fun e w' => ∃ sb, e = .returned (.pointer (some ⟨sb, 0, none⟩)) ∧ Has w' w.heap.size (fun _ => False) sb (madeAt xs 60) ∧ Below w.heap.size w w' := by
  have HC := Aside0.mk hC
  clear hC
  go_enter Try.func9, Try.ntmps9
  go_wp2_with fail
  refine Calls.mono (new_calls w) ?_
  rintro e w1 ⟨sb, mb, S, rfl, hm, hS, hb⟩
  have HH := Aside0.mk (show Has w1 w.heap.size (fun _ => False) sb (madeAt xs 0) from ⟨S, mb, _, _, hm, fun k hk => ⟨hS k hk, fun q => q⟩⟩)
  have HB := Aside0.mk hb
  clear hm hS hb
  go_wp2_with fail
  go_loopg [4] (min xs.length 60) (fun kq v4 w' => ∃ (j : Nat), v4 = .int .i64 (j : Int) ∧ Aside0 (j + kq = min xs.length 60) ∧ Aside0 (Has w' w.heap.size (fun _ => False) sb (madeAt xs j)) ∧ Aside0 (Below w.heap.size w w'))
  case atStart => exact ⟨0, rfl, ⟨by omega⟩, HH, HB⟩
  case round =>
    clear HH HB
    obtain ⟨j, rfl, HJ, HH, HB⟩ := hrel
    have hj0 := HJ.out
    by_cases hj : j < xs.length
    · by_cases h60 : j < 60
      · obtain ⟨x, hx⟩ : ∃ x, xs[j]? = some x := ⟨_, List.getElem?_eq_getElem hj⟩
        obtain ⟨ad, e, x0, x1, x2, x3, x4, x5, x6, x7, x8⟩ := cells9 (Kd.C_below HC.out HB.out) hx
        subst e
        have HX := Aside0.mk hx
        have hfx := hfit x (List.mem_of_getElem? hx)
        obtain ⟨S, mb, v, ps, hm, hS⟩ := HH.out
        have HD := Aside0.mk (do_calls hm (inv_made xs j) x hfx)
        obtain ⟨r, hr⟩ : ∃ r, If.step (madeAt xs j) (spOf x) = r := ⟨_, rfl⟩
        have HR := Aside0.mk hr
        rw [hr] at HD
        have HS := Aside0.mk hS
        obtain ⟨y, hy⟩ : ∃ y : Int, (j : Int) = y := ⟨_, rfl⟩
        have hyn : y.toNat = j := by omega
        rw [← hyn] at x0 x1 x2 x3 x4 x5 x6 x7 x8
        rw [hy]
        have HY := Aside0.mk hy
        have b1 : decide (y < (xs.length : Int)) = true := decide_eq_true (by omega)
        have b2 : decide (y < 60) = true := decide_eq_true (by omega)
        have p1 : (0 ≤ y) = True := eq_true (by omega)
        have q1 : (y < (xs.length : Int)) = True := eq_true (by omega)
        have hn : wrap64 (y + 1) = ((j + 1 : Nat) : Int) := by unfold wrap64; omega
        have HN := Aside0.mk hn
        obtain ⟨gk, rfl⟩ : ∃ q, gk = q + 1 := ⟨gk - 1, by omega⟩
        clear hx hfx hm hS hr hy hn hj h60 hj0 hyn hfit
        go_wp2_with fail
        refine Calls.mono HD.out ?_
        rintro e w' ⟨rfl, hst⟩
        obtain ⟨t1, t2, _⟩ := Has.stepped (B := w.heap.size) (X := fun _ => False) HS.out (fun k q => q.elim) HB.out.size hst
        have HH2 := Aside0.mk t1
        have HB2 := Aside0.mk (HB.out.trans t2)
        clear hst t1 t2
        go_wp2
        go_roundg gk
        case measure => omega
        case rel => exact ⟨j + 1, by first | rw [HN.out] | exact congrArg _ (by have := HY.out; omega), ⟨by have := HJ.out; omega⟩, ⟨by rw [madeAt_succ HX.out, HR.out]; exact HH2.out⟩, HB2⟩
      · have hj60 : j = 60 := by omega
        subst hj60
        have b1 : decide ((60 : Int) < (xs.length : Int)) = true := decide_eq_true (by omega)
        have hlt : (60 : Int) < (xs.length : Int) := by omega
        clear hj h60 hj0 HJ hfit
        go_wp2
        go_ret
        exact ⟨sb, rfl, HH.out, HB.out⟩
    · have hm : madeAt xs 60 = madeAt xs j := by
        unfold madeAt
        rw [List.take_of_length_le (by omega), List.take_of_length_le (by omega)]
      have HM := Aside0.mk hm
      obtain ⟨y, hy⟩ : ∃ y : Int, (j : Int) = y := ⟨_, rfl⟩
      have b1 : decide (y < (xs.length : Int)) = false := decide_eq_false (by omega)
      rw [hy]
      clear hj hm hy hj0 hfit
      go_wp2
      go_ret
      exact ⟨sb, rfl, by rw [HM.out]; exact HH.out, HB.out⟩
end Go.Proofs.Ytefbcigccfkkgaa.WIf
