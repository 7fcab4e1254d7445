/-
  The statement IfaceCopies: a copy is the same, and each goes its own way. Conditions: those of each theorem.
-/
import Derived.Test.YtefbcigccfkkgaaWIfaceKA
set_option linter.unusedVariables false
set_option linter.unusedSimpArgs false
namespace Go.Proofs.Ytefbcigccfkkgaa.WIf
open Go.RowKit Go.Maps Go.WideMaps Go.Proofs.Ytefbcigccfkkgaa.PBase Go.Proofs.YtefbcigccfkkgaaW.PrintWords Go.Proofs.YtefbcigccfkkgaaW.PrintLast Go.Proofs.YtefbcigccfkkgaaW.PrintMore Go.Proofs.Ytefbcigccfkkgaa.If
attribute [local go_sem] max2_int min2_int max_two min_two
/-- Four sets lie in memory, from B on, apart: two of the program's, two of the document's. -/
def Four (W : World) (B sb cb tb ub : Nat) (s c t u : St) : Prop :=
  ∃ S1 m1 v1 xs1 S2 m2 v2 xs2 S3 v3 v3' ls3 S4 v4 v4' ls4, Mem W S1 sb m1 v1 xs1 s ∧ Mem W S2 cb m2 v2 xs2 c ∧ Dem W S3 tb v3 v3' ls3 t ∧ Dem W S4 ub v4 v4' ls4 u ∧
    (∀ k, (S1 k ∨ S2 k ∨ S3 k ∨ S4 k) → B ≤ k) ∧ (∀ k, (S1 k → ¬ S2 k ∧ ¬ S3 k ∧ ¬ S4 k) ∧ (S2 k → ¬ S3 k ∧ ¬ S4 k) ∧ (S3 k → ¬ S4 k))
section
variable {w W W1 : World} {B sb cb tb ub : Nat} {s c t u : St}
theorem Four.below (h : Four W B sb cb tb ub s c t u) (hb : Below W.heap.size W W1) : Four W1 B sb cb tb ub s c t u := by
  obtain ⟨S1, m1, v1, xs1, S2, m2, v2, xs2, S3, v3, v3', ls3, S4, v4, v4', ls4, h1, h2, h3, h4, h5⟩ := h
  exact ⟨S1, m1, v1, xs1, S2, m2, v2, xs2, S3, v3, v3', ls3, S4, v4, v4', ls4, h1.below hb, h2.below hb, h3.below hb, h4.below hb, h5⟩
theorem Four.swap (h : Four W B sb cb tb ub s c t u) : Four W B cb sb ub tb c s u t := by
  obtain ⟨S1, m1, v1, xs1, S2, m2, v2, xs2, S3, v3, v3', ls3, S4, v4, v4', ls4, h1, h2, h3, h4, h5, h6⟩ := h
  refine ⟨S2, m2, v2, xs2, S1, m1, v1, xs1, S4, v4, v4', ls4, S3, v3, v3', ls3, h2, h1, h4, h3, fun k hk => h5 k ?_, fun k => ⟨fun q => ⟨fun z => ((h6 k).1 z).1 q, ((h6 k).2.1 q).2, ((h6 k).2.1 q).1⟩, fun q => ⟨((h6 k).1 q).2.2, ((h6 k).1 q).2.1⟩, fun q z => (h6 k).2.2 z q⟩⟩
  rcases hk with q | q | q | q
  · exact .inr (.inl q)
  · exact .inl q
  · exact .inr (.inr (.inr q))
  · exact .inr (.inr (.inl q))
theorem Four.has (h : Four W B sb cb tb ub s c t u) : Has W B (fun _ => False) sb s := by
  obtain ⟨S1, m1, v1, xs1, S2, m2, v2, xs2, S3, v3, v3', ls3, S4, v4, v4', ls4, h1, h2, h3, h4, h5, h6⟩ := h
  exact ⟨S1, m1, v1, xs1, h1, fun k hk => ⟨h5 k (.inl hk), fun q => q⟩⟩
theorem Four.dhas (h : Four W B sb cb tb ub s c t u) : DHas W B (fun _ => False) tb t := by
  obtain ⟨S1, m1, v1, xs1, S2, m2, v2, xs2, S3, v3, v3', ls3, S4, v4, v4', ls4, h1, h2, h3, h4, h5, h6⟩ := h
  exact ⟨S3, v3, v3', ls3, h3, fun k hk => ⟨h5 k (.inr (.inr (.inl hk))), fun q => q⟩⟩
theorem Four.has2 (h : Four W B sb cb tb ub s c t u) : Has W B (fun _ => False) cb c := h.swap.has
theorem Four.dhas2 (h : Four W B sb cb tb ub s c t u) : DHas W B (fun _ => False) ub u := h.swap.dhas
theorem four_do (h : Four w B sb cb tb ub s c t u) (hI : Inv s) (hB : B ≤ w.heap.size) (x : SI) (hx : Fit x) :
    Calls Try.prog 15 #[.pointer (some ⟨sb, 0, none⟩), .agg (stA x)] w fun e w' => e = .returned (.tuple #[.int .i64 (If.step s (spOf x)).2.1, .int .i64 (If.step s (spOf x)).2.2]) ∧ Four w' B sb cb tb ub (If.step s (spOf x)).1 c t u ∧ Below B w w' := by
  obtain ⟨S1, m1, v1, xs1, S2, m2, v2, xs2, S3, v3, v3', ls3, S4, v4, v4', ls4, h1, h2, h3, h4, h5, h6⟩ := h
  refine Calls.mono (do_calls h1 hI x hx) ?_
  rintro e w' ⟨he, S', v', xs', g1, g2, g3⟩
  refine ⟨he, ⟨S', m1, v', xs', S2, m2, v2, xs2, S3, v3, v3', ls3, S4, v4, v4', ls4, g1, h2.keep g3.size (fun k hk => g3.block k (h2.lt k hk) (fun q => ((h6 k).1 q).1 hk)), h3.keep g3.size (fun k hk => g3.block k (h3.lt k hk) (fun q => ((h6 k).1 q).2.1 hk)), h4.keep g3.size (fun k hk => g3.block k (h4.lt k hk) (fun q => ((h6 k).1 q).2.2 hk)), ?_, ?_⟩, g3.below (Below.refl _ _) hB (fun k hk => h5 k (.inl hk))⟩
  · intro k hk
    rcases hk with q | q
    · rcases g2 k q with z | z
      · exact h5 k (.inl z)
      · omega
    · exact h5 k (.inr q)
  · refine fun k => ⟨fun q => ?_, (h6 k).2⟩
    rcases g2 k q with z | z
    · exact (h6 k).1 z
    · exact ⟨fun y => by have := h2.lt k y; omega, fun y => by have := h3.lt k y; omega, fun y => by have := h4.lt k y; omega⟩
theorem four_does (h : Four w B sb cb tb ub s c t u) (hI : Inv t) (hB : B ≤ w.heap.size) (x : SI) (hx : Fit x) (ha : AdOk x.f6) :
    Calls Try.prog 16 #[.pointer (some ⟨tb, 0, none⟩), .agg (stA x)] w fun e w' => e = .returned (.tuple #[.int .i64 (If.step t (spOf x)).2.1, .int .i64 (If.step t (spOf x)).2.2]) ∧ Four w' B sb cb tb ub s c (If.step t (spOf x)).1 u ∧ Below B w w' := by
  obtain ⟨S1, m1, v1, xs1, S2, m2, v2, xs2, S3, v3, v3', ls3, S4, v4, v4', ls4, h1, h2, h3, h4, h5, h6⟩ := h
  refine Calls.mono (does_calls h3 hI x hx ha) ?_
  rintro e w' ⟨he, S', u1, u2, ls', g1, g2, g3⟩
  refine ⟨he, ⟨S1, m1, v1, xs1, S2, m2, v2, xs2, S', u1, u2, ls', S4, v4, v4', ls4, h1.keep g3.size (fun k hk => g3.block k (h1.lt k hk) (fun q => ((h6 k).1 hk).2.1 q)), h2.keep g3.size (fun k hk => g3.block k (h2.lt k hk) (fun q => ((h6 k).2.1 hk).1 q)), g1, h4.keep g3.size (fun k hk => g3.block k (h4.lt k hk) (fun q => (h6 k).2.2 q hk)), ?_, ?_⟩, g3.below (Below.refl _ _) hB (fun k hk => h5 k (.inr (.inr (.inl hk))))⟩
  · intro k hk
    rcases hk with q | q | q | q
    · exact h5 k (.inl q)
    · exact h5 k (.inr (.inl q))
    · rcases g2 k q with z | z
      · exact h5 k (.inr (.inr (.inl z)))
      · omega
    · exact h5 k (.inr (.inr (.inr q)))
  · refine fun k => ⟨fun q => ⟨((h6 k).1 q).1, fun y => ?_, ((h6 k).1 q).2.2⟩, fun q => ⟨fun y => ?_, ((h6 k).2.1 q).2⟩, fun q => ?_⟩
    · rcases g2 k y with z | z
      · exact ((h6 k).1 q).2.1 z
      · have := h1.lt k q; omega
    · rcases g2 k y with z | z
      · exact ((h6 k).2.1 q).1 z
      · have := h2.lt k q; omega
    · rcases g2 k q with z | z
      · exact (h6 k).2.2 z
      · intro y
        have := h4.lt k y; omega
theorem four_do2 (h : Four w B sb cb tb ub s c t u) (hI : Inv c) (hB : B ≤ w.heap.size) (x : SI) (hx : Fit x) :
    Calls Try.prog 15 #[.pointer (some ⟨cb, 0, none⟩), .agg (stA x)] w fun e w' => e = .returned (.tuple #[.int .i64 (If.step c (spOf x)).2.1, .int .i64 (If.step c (spOf x)).2.2]) ∧ Four w' B sb cb tb ub s (If.step c (spOf x)).1 t u ∧ Below B w w' :=
  Calls.mono (four_do h.swap hI hB x hx) (fun _ _ q => ⟨q.1, q.2.1.swap, q.2.2⟩)
theorem four_does2 (h : Four w B sb cb tb ub s c t u) (hI : Inv u) (hB : B ≤ w.heap.size) (x : SI) (hx : Fit x) (ha : AdOk x.f6) :
    Calls Try.prog 16 #[.pointer (some ⟨ub, 0, none⟩), .agg (stA x)] w fun e w' => e = .returned (.tuple #[.int .i64 (If.step u (spOf x)).2.1, .int .i64 (If.step u (spOf x)).2.2]) ∧ Four w' B sb cb tb ub s c t (If.step u (spOf x)).1 ∧ Below B w w' :=
  Calls.mono (four_does h.swap hI hB x hx ha) (fun _ _ q => ⟨q.1, q.2.1.swap, q.2.2⟩)
end
/-- A set behind the first j steps more. -/
def hAt (st : St) (xs : List SI) (j : Nat) : St := If.run st ((xs.take j).map spOf)
theorem hAt_succ {st : St} {xs : List SI} {j : Nat} {x : SI} (h : xs[j]? = some x) : hAt st xs (j + 1) = (If.step (hAt st xs j) (spOf x)).1 := by
  unfold hAt
  rw [List.take_add_one, h, Option.toList_some, List.map_append, List.map_cons, List.map_nil, run_snoc]
theorem hAt_end {st : St} {xs : List SI} {j : Nat} (h : xs.length ≤ j) : hAt st xs (j + 1) = hAt st xs j := by
  unfold hAt
  rw [List.take_of_length_le (by omega), List.take_of_length_le h]
theorem ads_run {st : St} {xs : List SI} (h0 : Ads st) (h : ∀ x ∈ xs, AdOk x.f6) (j : Nat) : Ads (hAt st xs j) := by
  induction j with
  | zero => exact h0
  | succ j ih =>
    by_cases hj : j < xs.length
    · rw [hAt_succ (List.getElem?_eq_getElem hj)]
      exact ads_step ih _ (h _ (List.getElem_mem hj))
    · rw [hAt_end (by omega)]
      exact ih
def zSt : SI := ⟨0, ⟨#[]⟩, 0, 0, 0, false, zeroA⟩
set_option maxHeartbeats 8000000 in
set_option maxRecDepth 100000 in
theorem copies (A : Option Addr) (c : Nat) (xs : List SI) (Ah : Option Addr) (ch : Nat) (he : List SI) (At : Option Addr) (ct : Nat) (th : List SI) (w : World) (hC : Kd.C k45 w A xs.length xs) (hl : xs.length ≤ 140737488355328) (hfit : ∀ x ∈ xs, Fit x) (hads : ∀ x ∈ xs, AdOk x.f6)
    (hH : Kd.C k45 w Ah he.length he) (hfh : ∀ x ∈ he, Fit x) (hah : ∀ x ∈ he, AdOk x.f6) (hlh : he.length ≤ 140737488355328) (hT : Kd.C k45 w At th.length th) (hft : ∀ x ∈ th, Fit x) (hat : ∀ x ∈ th, AdOk x.f6) (hlt : th.length ≤ 140737488355328) :
    Calls Try.prog 7 #[.slice A xs.length c, .slice Ah he.length ch, .slice At th.length ct] w fun e w' => e = .returned (.bool true) ∧ Below w.heap.size w w' := by
  have HC := Aside0.mk hC
  have HFIT := Aside0.mk hfit
  have HADS := Aside0.mk hads
  have HH := Aside0.mk hH
  have HFH := Aside0.mk hfh
  have HAH := Aside0.mk hah
  have HT0 := Aside0.mk hT
  have HFT := Aside0.mk hft
  have HAT := Aside0.mk hat
  have HL := Aside0.mk (And.intro hl (And.intro hlh hlt))
  clear hC hfit hads hH hfh hah hT hft hat hl hlh hlt
  go_enter Try.func7, Try.ntmps7
  go_wp2_with fail
  refine Calls.mono (awake_calls w) ?_
  rintro e w1 ⟨rfl, hb⟩
  have HB := Aside0.mk hb
  clear hb
  go_wp2_with fail
  refine Calls.mono (made_calls w1 A c xs (Kd.C_below HC.out HB.out) HL.out.1 HFIT.out) ?_
  rintro e w2 ⟨sb, rfl, hh, hb⟩
  have HS1 := Aside0.mk hh
  have HW1 := Aside0.mk HB.out.size
  replace HB := Aside0.mk (below_step HB.out hb)
  clear hb hh
  go_wp2_with fail
  obtain ⟨S1, m1, v1, xs1, hm1, hs1⟩ := HS1.out
  refine Calls.mono (copy_calls hm1 (inv_made xs 60)) ?_
  rintro e w3 ⟨⟨cb, m2, v2, xs2, S2, rfl, hm2, hs2⟩, hb⟩
  have HM1 := Aside0.mk (And.intro hm1 (fun k hk => Nat.le_trans HW1.out (hs1 k hk).1))
  have HM2 := Aside0.mk (And.intro hm2 hs2)
  have HB3 := Aside0.mk hb
  have HB2 := HB
  replace HB := Aside0.mk (below_step HB.out hb)
  clear hb hm1 hs1 hm2 hs2 HS1 HW1
  go_wp2_with fail
  refine Calls.mono (dnew_calls w3) ?_
  rintro e w4 ⟨tb, S3, rfl, hd, hS3, hb⟩
  have HD := Aside0.mk (show DHas w4 w3.heap.size (fun _ => False) tb (madeAt xs 0) from ⟨S3, _, _, _, hd, fun k hk => ⟨hS3 k hk, fun q => q⟩⟩)
  have HB4 := Aside0.mk hb
  clear hb hd hS3
  go_wp2_with fail
  go_loopg [11] (min xs.length 60) (fun kq v11 w' => ∃ (j : Nat), v11 = .int .i64 (j : Int) ∧ Aside0 (j + kq = min xs.length 60) ∧ Aside0 (DHas w' w3.heap.size (fun _ => False) tb (madeAt xs j)) ∧ Aside0 (Below w3.heap.size w3 w'))
  case atStart => exact ⟨0, rfl, ⟨by omega⟩, HD, HB4⟩
  case round =>
    clear HD HB4
    obtain ⟨j, rfl, HJ, HD, HB4⟩ := hrel
    have hj0 := HJ.out
    obtain ⟨y, hy⟩ : ∃ y : Int, (j : Int) = y := ⟨_, rfl⟩
    by_cases hgo : j < xs.length ∧ j < 60
    · obtain ⟨hj, h60⟩ := hgo
      obtain ⟨x, hx⟩ : ∃ x, xs[j]? = some x := ⟨_, List.getElem?_eq_getElem hj⟩
      obtain ⟨ad, e, _⟩ := cells9 HC.out hx
      subst e
      obtain ⟨x0, x1, x2, x3, x4, x5, x6, x7, x8⟩ := cells9y (Kd.C_below HC.out (below_step HB.out HB4.out)) hy hx
      have HMS := Aside0.mk (madeAt_succ hx)
      obtain ⟨S, u1, u2, ls, hd, hS⟩ := HD.out
      have HDO := Aside0.mk (does_calls hd (inv_made xs j) x (HFIT.out x (List.mem_of_getElem? hx)) (HADS.out x (List.mem_of_getElem? hx)))
      have HSS := Aside0.mk hS
      generalize If.step (madeAt xs j) (spOf x) = r at HDO HMS
      rw [hy]
      have HY := Aside0.mk hy
      have b1 : decide (y < (xs.length : Int)) = true := decide_eq_true (by omega)
      have b2 : decide (y < 60) = true := decide_eq_true (by omega)
      have p1 : (0 ≤ y) = True := eq_true (by omega)
      have q1 : (y < (xs.length : Int)) = True := eq_true (by omega)
      have hn : wrap64 (y + 1) = ((j + 1 : Nat) : Int) := by unfold wrap64; omega
      have HN := Aside0.mk hn
      obtain ⟨gk0, rfl⟩ : ∃ q, gk = q + 1 := ⟨gk - 1, by omega⟩
      clear hx hy hn hj h60 hj0 hd hS
      go_wp2_with fail
      refine Calls.mono HDO.out ?_
      rintro e w' ⟨rfl, hst⟩
      obtain ⟨t1, t2, _⟩ := DHas.stepped (B := w3.heap.size) (X := fun _ => False) HSS.out (fun k q => q.elim) HB4.out.size hst
      have HD2 := Aside0.mk t1
      have HB2' := Aside0.mk (HB4.out.trans t2)
      clear hst t1 t2
      go_wp2
      go_roundg gk0
      case measure => omega
      case rel => exact ⟨j + 1, by first | rw [HN.out] | exact congrArg _ (by have := HY.out; omega), ⟨by have := HJ.out; omega⟩, ⟨by rw [HMS.out]; exact HD2.out⟩, HB2'⟩
    · have hm60 : madeAt xs j = madeAt xs 60 := by
        unfold madeAt
        by_cases h60 : j = 60
        · rw [h60]
        · rw [List.take_of_length_le (by omega), List.take_of_length_le (by omega)]
      rw [hm60] at HD
      have hb12 : (decide (y < (xs.length : Int)) = true ∧ decide (y < 60) = false) ∨ decide (y < (xs.length : Int)) = false := by
        by_cases q : y < (xs.length : Int)
        · exact .inl ⟨decide_eq_true q, decide_eq_false (by omega)⟩
        · exact .inr (decide_eq_false q)
      rw [hy]
      clear hy hj0 HJ hm60 hgo
      obtain ⟨S3, v3, v3', ls3, hd, hS3⟩ := HD.out
      have HD3 := Aside0.mk (And.intro hd hS3)
      have HDC := Aside0.mk (dcopy_calls hd (inv_made xs 60))
      clear hd hS3 HD
      have HBW := Aside0.mk (below_step HB.out HB4.out)
      have HI0 := Aside0.mk (inv_made xs 60)
      have HA0 := Aside0.mk (ads_made HADS.out 60)
      generalize madeAt xs 60 = s0 at HM1 HM2 HD3 HDC HI0 HA0
      clear HC HFIT HADS
      rcases hb12 with ⟨b1, b2⟩ | b1
      all_goals
        go_wp2_with fail
        refine Calls.mono HDC.out ?_
        rintro e w5 ⟨⟨ub, v4, v4', ls4, S4, rfl, hm4, hs4⟩, hb⟩
        have HT := Aside0.mk (show Four w5 w.heap.size sb cb tb ub (hAt s0 he 0) (hAt s0 th 0) (hAt s0 he 0) (hAt s0 th 0) from ⟨S1, m1, v1, xs1, S2, m2, v2, xs2, S3, v3, v3', ls3, S4, v4, v4', ls4, (HM1.out.1.below HB3.out).below (below_step HB4.out hb), HM2.out.1.below (below_step HB4.out hb), HD3.out.1.below hb, hm4, fun k hk => by
          have := HB2.out.size
          have := HB3.out.size
          have := HBW.out.size
          rcases hk with q | q | q | q
          · exact HM1.out.2 k q
          · have := HM2.out.2 k q; omega
          · have := (HD3.out.2 k q).1; omega
          · have := hs4 k q; omega, fun k => by
          have z3 := HB3.out.size
          have z4 := HB4.out.size
          refine ⟨fun q => ?_, fun q => ?_, fun q z => ?_⟩
          · have := HM1.out.1.lt k q
            exact ⟨fun z => by have := HM2.out.2 k z; omega, fun z => by have := (HD3.out.2 k z).1; omega, fun z => by have := hs4 k z; omega⟩
          · have := HM2.out.1.lt k q
            exact ⟨fun z => by have := (HD3.out.2 k z).1; omega, fun z => by have := hs4 k z; omega⟩
          · have := HD3.out.1.lt k q
            have := hs4 k z; omega⟩)
        have HB5 := Aside0.mk (below_step HBW.out hb)
        clear hb hm4 hs4
        go_wp2_with fail
        go_loopg [13] 20 (fun kq v13 w' => ∃ (j : Nat), v13 = .int .i64 (j : Int) ∧ Aside0 (j + kq = 20) ∧ Aside0 (Four w' w.heap.size sb cb tb ub (hAt s0 he j) (hAt s0 th j) (hAt s0 he j) (hAt s0 th j)) ∧ Aside0 (Below w.heap.size w w'))
        case atStart => exact ⟨0, rfl, ⟨by omega⟩, HT, HB5⟩
        case round =>
          clear HT HB5
          obtain ⟨j, rfl, HJ, HT, HB⟩ := hrel
          obtain ⟨y, hy⟩ : ∃ y : Int, (j : Int) = y := ⟨_, rfl⟩
          have HY := Aside0.mk hy
          have HIC := Aside0.mk (show Inv (hAt s0 th j) from inv_run _ HI0.out)
          have HRC := Aside0.mk (rng_of (ads_run HA0.out HAT.out j) HIC.out)
          by_cases h20 : j < 20
          · have b0 : decide (y < 20) = true := decide_eq_true (by omega)
            have hyw : wrap64 (y + 1) = ((j + 1 : Nat) : Int) := by unfold wrap64; omega
            have HYW := Aside0.mk hyw
            obtain ⟨gk0, rfl⟩ : ∃ q, gk = q + 1 := ⟨gk - 1, by have := HJ.out; omega⟩
            rw [hy]
            clear hy hyw h20
            go_upto_if 61 with (fail)
            go_cut [] (fun wc => Aside0 (Four wc w.heap.size sb cb tb ub (hAt s0 he (j + 1)) (hAt s0 th j) (hAt s0 he (j + 1)) (hAt s0 th j)) ∧ Aside0 (Below w.heap.size w wc))
            case first =>
              by_cases hj : j < he.length
              · have hlh : (he.length : Int) ≤ 140737488355328 := by have := HL.out.2.1; omega
                have b1 : decide (y < (he.length : Int)) = true := decide_eq_true (by have := HY.out; omega)
                have hyj : 0 ≤ y ∧ y < (he.length : Int) := by have := HY.out; omega
                rw [b1]
                obtain ⟨ct, hct⟩ : ∃ q, hAt s0 th j = q := ⟨_, rfl⟩
                have HCT := Aside0.mk hct
                rw [hct] at HT HIC HRC
                clear hct
                obtain ⟨x, hx⟩ : ∃ x, he[j]? = some x := ⟨_, List.getElem?_eq_getElem hj⟩
                obtain ⟨ad, e, _⟩ := cells9 HH.out hx
                subst e
                have HCF := Aside0.mk (fun (W : World) (hb : Below w.heap.size w W) => cells9y (Kd.C_below HH.out hb) HY.out hx)
                have HF := Aside0.mk (HFH.out x (List.mem_of_getElem? hx))
                have HA := Aside0.mk (HAH.out x (List.mem_of_getElem? hx))
                have HMS := Aside0.mk (hAt_succ (st := s0) hx)
                have HI := Aside0.mk (inv_run (((he.take j)).map spOf) HI0.out)
                have HI2 := Aside0.mk (inv_run (((he.take (j + 1))).map spOf) HI0.out)
                have HR2 := Aside0.mk (rng_of (ads_run HA0.out HAH.out (j + 1)) HI2.out)
                replace HI := Aside0.mk (show Inv (hAt s0 he j) from HI.out)
                replace HI2 := Aside0.mk (show Inv (hAt s0 he (j + 1)) from HI2.out)
                rw [HMS.out] at HI2 HR2
                have hdo := fun W (hW : Four W w.heap.size sb cb tb ub (hAt s0 he j) ct (hAt s0 he j) ct) (hB : w.heap.size ≤ W.heap.size) => four_do hW HI.out hB x HF.out
                have hdoes := fun W (hW : Four W w.heap.size sb cb tb ub (If.step (hAt s0 he j) (spOf x)).1 ct (hAt s0 he j) ct) (hB : w.heap.size ≤ W.heap.size) => four_does hW HI.out hB x HF.out HA.out
                generalize If.step (hAt s0 he j) (spOf x) = r at hdo hdoes HMS HI2 HR2
                obtain ⟨r0, r1, r2⟩ := r
                simp only at hdo hdoes HMS HI2 HR2
                have p1 : (0 ≤ y) = True := eq_true hyj.1
                have q1 : (y < (he.length : Int)) = True := eq_true hyj.2
                clear hx hj hyj
                obtain ⟨x0, x1, x2, x3, x4, x5, x6, x7, x8⟩ := HCF.out _ HB.out
                go_wp2_with fail
                refine Calls.mono (hdo _ HT.out HB.out.size) ?_
                rintro e w4 ⟨rfl, ht, hb⟩
                replace HT := Aside0.mk ht
                replace HB := Aside0.mk (HB.out.trans hb)
                clear ht hb hdo x0 x1 x2 x3 x4 x5 x6 x7 x8
                obtain ⟨x0, x1, x2, x3, x4, x5, x6, x7, x8⟩ := HCF.out _ HB.out
                go_wp2_with fail
                refine Calls.mono (hdoes _ HT.out HB.out.size) ?_
                rintro e w5 ⟨rfl, ht, hb⟩
                replace HT := Aside0.mk ht
                replace HB := Aside0.mk (HB.out.trans hb)
                clear ht hb hdoes x0 x1 x2 x3 x4 x5 x6 x7 x8
                obtain ⟨x0, x1, x2, x3, x4, x5, x6, x7, x8⟩ := HCF.out _ HB.out
                go_wp2_with fail
                refine Calls.mono (tells_calls HT.out.has HT.out.dhas HI2.out HR2.out HF.out HA.out) ?_
                rintro e w6 ⟨rfl, hb⟩
                replace HT := Aside0.mk (HT.out.below hb)
                replace HB := Aside0.mk (below_step HB.out hb)
                clear hb x0 x1 x2 x3 x4 x5 x6 x7 x8
                obtain ⟨x0, x1, x2, x3, x4, x5, x6, x7, x8⟩ := HCF.out _ HB.out
                go_wp2_with fail
                refine Calls.mono (tells_calls HT.out.has2 HT.out.dhas2 HIC.out HRC.out HF.out HA.out) ?_
                rintro e w7 ⟨rfl, hb⟩
                replace HT := Aside0.mk (HT.out.below hb)
                replace HB := Aside0.mk (below_step HB.out hb)
                clear hb x0 x1 x2 x3 x4 x5 x6 x7 x8
                go_wp2
                go_meet
                exact ⟨⟨by rw [HMS.out, HCT.out]; exact HT.out⟩, HB⟩
              · have q1 : (y < (he.length : Int)) = False := eq_false (by have := HY.out; omega)
                have b1 : decide (y < (he.length : Int)) = false := decide_eq_false (by have := HY.out; omega)
                have HE := Aside0.mk (hAt_end (st := s0) (Nat.le_of_not_lt hj))
                rw [b1]
                clear hj
                go_wp2
                go_meet
                exact ⟨⟨by rw [HE.out]; exact HT.out⟩, HB⟩
            case rest =>
              clear HT HB
              obtain ⟨HT, HB⟩ := hcut
              clear HIC HRC
              have HIS := Aside0.mk (show Inv (hAt s0 he (j + 1)) from inv_run _ HI0.out)
              have HRS := Aside0.mk (rng_of (ads_run HA0.out HAH.out (j + 1)) HIS.out)
              by_cases hj : j < th.length
              · have hlh : (th.length : Int) ≤ 140737488355328 := by have := HL.out.2.2; omega
                have b1 : decide (y < (th.length : Int)) = true := decide_eq_true (by have := HY.out; omega)
                have hyj : 0 ≤ y ∧ y < (th.length : Int) := by have := HY.out; omega
                obtain ⟨st, hst⟩ : ∃ q, hAt s0 he (j + 1) = q := ⟨_, rfl⟩
                have HST := Aside0.mk hst
                rw [hst] at HT HIS HRS
                clear hst
                obtain ⟨x, hx⟩ : ∃ x, th[j]? = some x := ⟨_, List.getElem?_eq_getElem hj⟩
                obtain ⟨ad, e, _⟩ := cells9 HT0.out hx
                subst e
                have HCF := Aside0.mk (fun (W : World) (hb : Below w.heap.size w W) => cells9y (Kd.C_below HT0.out hb) HY.out hx)
                have HF := Aside0.mk (HFT.out x (List.mem_of_getElem? hx))
                have HA := Aside0.mk (HAT.out x (List.mem_of_getElem? hx))
                have HMS := Aside0.mk (hAt_succ (st := s0) hx)
                have HI := Aside0.mk (inv_run (((th.take j)).map spOf) HI0.out)
                have HI2 := Aside0.mk (inv_run (((th.take (j + 1))).map spOf) HI0.out)
                have HR2 := Aside0.mk (rng_of (ads_run HA0.out HAT.out (j + 1)) HI2.out)
                replace HI := Aside0.mk (show Inv (hAt s0 th j) from HI.out)
                replace HI2 := Aside0.mk (show Inv (hAt s0 th (j + 1)) from HI2.out)
                rw [HMS.out] at HI2 HR2
                have hdo := fun W (hW : Four W w.heap.size sb cb tb ub st (hAt s0 th j) st (hAt s0 th j)) (hB : w.heap.size ≤ W.heap.size) => four_do2 hW HI.out hB x HF.out
                have hdoes := fun W (hW : Four W w.heap.size sb cb tb ub st (If.step (hAt s0 th j) (spOf x)).1 st (hAt s0 th j)) (hB : w.heap.size ≤ W.heap.size) => four_does2 hW HI.out hB x HF.out HA.out
                generalize If.step (hAt s0 th j) (spOf x) = r at hdo hdoes HMS HI2 HR2
                obtain ⟨r0, r1, r2⟩ := r
                simp only at hdo hdoes HMS HI2 HR2
                have p1 : (0 ≤ y) = True := eq_true hyj.1
                have q1 : (y < (th.length : Int)) = True := eq_true hyj.2
                clear hx hj hyj
                obtain ⟨x0, x1, x2, x3, x4, x5, x6, x7, x8⟩ := HCF.out _ HB.out
                go_wp2_with fail
                refine Calls.mono (hdo _ HT.out HB.out.size) ?_
                rintro e w4 ⟨rfl, ht, hb⟩
                replace HT := Aside0.mk ht
                replace HB := Aside0.mk (HB.out.trans hb)
                clear ht hb hdo x0 x1 x2 x3 x4 x5 x6 x7 x8
                obtain ⟨x0, x1, x2, x3, x4, x5, x6, x7, x8⟩ := HCF.out _ HB.out
                go_wp2_with fail
                refine Calls.mono (hdoes _ HT.out HB.out.size) ?_
                rintro e w5 ⟨rfl, ht, hb⟩
                replace HT := Aside0.mk ht
                replace HB := Aside0.mk (HB.out.trans hb)
                clear ht hb hdoes x0 x1 x2 x3 x4 x5 x6 x7 x8
                obtain ⟨x0, x1, x2, x3, x4, x5, x6, x7, x8⟩ := HCF.out _ HB.out
                go_wp2_with fail
                refine Calls.mono (tells_calls HT.out.has HT.out.dhas HIS.out HRS.out HF.out HA.out) ?_
                rintro e w6 ⟨rfl, hb⟩
                replace HT := Aside0.mk (HT.out.below hb)
                replace HB := Aside0.mk (below_step HB.out hb)
                clear hb x0 x1 x2 x3 x4 x5 x6 x7 x8
                obtain ⟨x0, x1, x2, x3, x4, x5, x6, x7, x8⟩ := HCF.out _ HB.out
                go_wp2_with fail
                refine Calls.mono (tells_calls HT.out.has2 HT.out.dhas2 HI2.out HR2.out HF.out HA.out) ?_
                rintro e w7 ⟨rfl, hb⟩
                replace HT := Aside0.mk (HT.out.below hb)
                replace HB := Aside0.mk (below_step HB.out hb)
                clear hb x0 x1 x2 x3 x4 x5 x6 x7 x8
                go_wp2
                go_roundg gk0
                case measure => omega
                case rel => exact ⟨j + 1, by first | rw [HYW.out] | exact congrArg _ (by have := HY.out; omega), ⟨by have := HJ.out; omega⟩, ⟨by rw [HST.out, HMS.out]; exact HT.out⟩, HB⟩
              · have q1 : (y < (th.length : Int)) = False := eq_false (by have := HY.out; omega)
                have b1 : decide (y < (th.length : Int)) = false := decide_eq_false (by have := HY.out; omega)
                have HE := Aside0.mk (hAt_end (st := s0) (Nat.le_of_not_lt hj))
                clear hj
                go_wp2
                go_roundg gk0
                case measure => omega
                case rel => exact ⟨j + 1, by first | rw [HYW.out] | exact congrArg _ (by have := HY.out; omega), ⟨by have := HJ.out; omega⟩, ⟨by rw [HE.out]; exact HT.out⟩, HB⟩
          · have b0 : decide (y < 20) = false := decide_eq_false (by omega)
            have HR := Aside0.mk HRC.out
            rw [hy]
            clear hy h20
            go_wp2_with fail
            refine Calls.mono (tells_calls (x := zSt) HT.out.has2 HT.out.dhas2 HIC.out HRC.out ⟨by decide, by decide, by decide⟩ ⟨⟨by decide, by decide⟩, ⟨by decide, by decide⟩⟩) ?_
            rintro e w7 ⟨rfl, hb⟩
            replace HB := Aside0.mk (below_step HB.out hb)
            clear hb
            go_wp2
            go_ret
            exact ⟨rfl, HB.out⟩
theorem copiesCalls (A : Option Addr) (c : Nat) (l0 : List SI) (A1 : Option Addr) (c1 : Nat) (l1 : List SI) (A2 : Option Addr) (c2 : Nat) (l2 : List SI) (hl0 : l0.length * 80 ≤ 140737488351232) (hf0 : ∀ x ∈ l0, GSI x) (hl1 : l1.length * 80 ≤ 140737488351232) (hf1 : ∀ x ∈ l1, GSI x) (hl2 : l2.length * 80 ≤ 140737488351232) (hf2 : ∀ x ∈ l2, GSI x) (w : World)
    (hr0 : Kd.C k45 w A l0.length l0) (hc0 : l0.length ≤ c) (hr1 : Kd.C k45 w A1 l1.length l1) (hc1 : l1.length ≤ c1) (hr2 : Kd.C k45 w A2 l2.length l2) (hc2 : l2.length ≤ c2) :
    Calls Try.prog 7 #[.slice A l0.length c, .slice A1 l1.length c1, .slice A2 l2.length c2] w fun e w' => e = .returned (.bool true) ∧ Below w.heap.size w w' :=
  copies A c l0 A1 c1 l1 A2 c2 l2 w hr0 (by omega) (fun x hx => fit_of (hf0 x hx)) (fun x hx => ads_of (hf0 x hx)) hr1 (fun x hx => fit_of (hf1 x hx)) (fun x hx => ads_of (hf1 x hx)) (by omega) hr2 (fun x hx => fit_of (hf2 x hx)) (fun x hx => ads_of (hf2 x hx)) (by omega)
end Go.Proofs.Ytefbcigccfkkgaa.WIf
