/-
  The walk of the law TallyOrder, by hand, out of the contracts of what it calls. Conditions: those of each theorem.
-/
import Derived.Test.YtgloieofdnpggaaPBasex3
import Derived.Test.YtgloieofdnpggaaMTally
import Derived.Outline
import Derived.Deep.RegionHeld3
import Derived.Deep.AppendLies
set_option linter.unusedVariables false
set_option linter.unusedSimpArgs false
namespace Go.Proofs.Ytgloieofdnpggaa.WTallyOrder
open Go.RowKit Go.Proofs.Ytgloieofdnpggaa.PBase Go.Proofs.YtgloieofdnpggaaW.PrintWords Go.Proofs.YtgloieofdnpggaaW.PrintLast Go.Proofs.YtgloieofdnpggaaW.PrintMore Go.Proofs.Ytgloieofdnpggaa.MTally
/-! Small facts for walks by hand. -/
theorem drewN_below {w w1 : World} (h : Below w.heap.size w w1) (n : Nat) : Below w.heap.size w (w1.drewN n) := pw_below_drewN h n
theorem below_of {w w1 w2 : World} (h : Below w.heap.size w w1) (h2 : Below w1.heap.size w1 w2) : Below w.heap.size w w2 := below_step h h2
/-- One slice in a new block: a row of one slice, that is read. -/
theorem C_one {e : Nat} {α : Type} {d : Kd α} {w : World} {A : Option Addr} {l : List α} {c : Nat} {ad : Addr} (hr : d.C w A l.length l) (hc : l.length ≤ c) (hcell : w.cell? ad = some (.slice A l.length c)) : Kd.C (Kd.slice e d) w (some ad) [l].length [l] := by
  refine ⟨rfl, by simp, fun _ => ⟨ad, rfl, fun j p hj => ?_⟩⟩
  cases j with
  | zero =>
    obtain rfl : l = p := by simpa using hj
    refine ⟨[.slice A l.length c], rfl, ⟨A, c, rfl, hc, hr⟩, fun i u hu => ?_⟩
    cases i with
    | zero =>
      obtain rfl : Value.slice A l.length c = u := by simpa using hu
      have e : ad.add (0 * (Kd.slice e d).sz + 0) = ad := by rw [Nat.zero_mul]; unfold Addr.add; cases ad; rename_i b o f; cases f <;> rfl
      rw [e]; exact hcell
    | succ i => simp at hu
  | succ j => simp at hj
/-- A variadic call's row of one slice: the new block, and its one cell. -/
theorem C_var {e t : Nat} {α : Type} {d : Kd α} {W : World} {A : Option Addr} {l : List α} {c b : Nat} (hr : d.C W A l.length l) (hc : l.length ≤ c) (hb : b = W.heap.size) :
    Kd.C (Kd.slice e d) (W.alloc (.cells #[.slice A l.length c] t)) (some ⟨b, 0, none⟩) [l].length [l] :=
  C_one (Kd.C_below hr (below_alloc (Below.refl _ _) _)) hc (by subst hb; simp)
/-- The facts of the calls, of an even row l and a place p in it. -/
structure Facts (k : Nat) (l : List Int) (p : Nat) (s t s1 s2 : Int) : Prop where mk ::
  (hs : tally_Sum.f k [l] = some s) (ht : tally_Sum.f k [turn l] = some t) (hm : tally_Sum.f k [l.drop p ++ l.take p] = some s)
  (h1 : tally_Sum.f k [l.take p] = some s1) (h2 : tally_Sum.f k [l.drop p] = some s2) (ha : tally_Add.f s1 s2 = some s)
  (r0 : 0 ≤ s) (r1 : s ≤ 65535) (hw : t = s % 256 * 256 + s / 256) (hp : p ≤ l.length) (hev : l.length % 2 = 0) (hl : l.length ≤ 140737488351232)
theorem rd_at {xs : List Int} {i : Nat} (h : i < xs.length) : rd xs (i : Int) = xs[i] := by
  simp [rd, List.getElem?_eq_getElem h]
theorem w16 {n : Int} (h0 : 0 ≤ n) (h1 : n ≤ 65535) : IntKind.u16.wrap n = n := by
  simp only [IntKind.wrap, IntKind.signed, IntKind.bits, Bool.false_and, Bool.false_eq_true, if_false]; omega
theorem turn_at {l : List Int} {i : Nat} (h : i + 1 < l.length) : turn (l.drop i) = l[i + 1] :: l[i] :: turn (l.drop (i + 2)) := by
  rw [List.drop_eq_getElem_cons (show i < l.length by omega), List.drop_eq_getElem_cons h]; rfl
set_option maxHeartbeats 2000000 in
set_option maxRecDepth 100000 in
theorem main (k : Nat) (A0 : Option Addr) (c0 : Nat) (l0 l : List Int) (a : Int) (p : Nat) (s t s1 s2 : Int) (w : World) (hr0 : Kd.C (Kd.int .u8) w A0 l0.length l0) (hc0 : l0.length ≤ c0) (hl0 : l0.length ≤ 140737488351232)
    (hcase : ((l0.length : Int) % 2 = 1 ∧ l = l0.take (l0.length - 1)) ∨ ((l0.length : Int) % 2 = 0 ∧ l = l0))
    (h1 : crosswaylaw02_awake.f k = some true) (h2 : crosswaylaw02_word.f l a = some ((p : Int), true)) (F : Facts k l p s t s1 s2) :
    Calls Try.prog 9 #[.slice A0 l0.length c0, .int .i64 a] w fun e w' => e = .returned (.bool true) ∧ Below w.heap.size w w' := by
  have H1 := Aside0.mk h1; have H2 := Aside0.mk h2
  have HR := Aside0.mk (show Kd.C (Kd.int .u8) w A0 l.length l by
    rcases hcase with ⟨_, rfl⟩ | ⟨_, rfl⟩
    · exact Kd.C_take hr0 (by omega)
    · exact hr0)
  have HC := Aside0.mk (show l.length ≤ c0 by
    rcases hcase with ⟨_, rfl⟩ | ⟨_, rfl⟩
    · rw [List.length_take]; omega
    · exact hc0)
  have hlm : (l0.length : Int) % 2 = 1 → l.length = l0.length - 1 := fun h => by
    rcases hcase with ⟨_, rfl⟩ | ⟨h0, _⟩
    · rw [List.length_take]; omega
    · omega
  have hle : (l0.length : Int) % 2 = 0 → l = l0 := fun h => by
    rcases hcase with ⟨h0, _⟩ | ⟨_, rfl⟩
    · omega
    · rfl
  have hpar : (l0.length : Int) % 2 = 0 ∨ (l0.length : Int) % 2 = 1 := by omega
  have HF := Aside0.mk F
  have HB := Aside0.mk (Below.refl w.heap.size w)
  obtain ⟨i0, hi0, hz0, hz1, hz2⟩ := info_parts info5
  have hcutT := cut_to (P := Try.prog) 24 5 .i64 Try.underlying24 hi0 A0 l0.length c0 ((l0.length : Int) - 1)
  have hcutA := cut_to (P := Try.prog) 24 5 .i64 Try.underlying24 hi0 A0 l.length c0 (p : Int) (by omega) (by have := F.hp; omega) HC.out
  have hcutB := cut_from (P := Try.prog) 24 5 .i64 Try.underlying24 hi0 1 hz1 A0 l.length c0 (p : Int) (by omega) (by have := F.hp; omega)
  rw [Int.toNat_natCast] at hcutA hcutB
  have HCA := Aside0.mk (Kd.C_take (m := p) HR.out F.hp)
  have HCB := Aside0.mk (Kd.C_drop (m := p) (c := c0) HR.out F.hp HC.out)
  have hpl := F.hp
  have hll := F.hl
  have HEV := Aside0.mk F.hev
  have hpc : p ≤ c0 := by have := HC.out; omega
  obtain ⟨AB, hAB⟩ : ∃ AB, (if c0 = p then A0 else A0.map (·.add (p * 1))) = AB := ⟨_, rfl⟩
  obtain ⟨cB, hcB⟩ : ∃ cB, c0 - p = cB := ⟨_, rfl⟩
  have HcB := Aside0.mk (show l.length - p ≤ cB by have := HC.out; omega)
  rw [hAB, hcB] at hcutB
  rw [show (Kd.int .u8).sz = 1 from rfl, hAB] at HCB
  have e1 : (l.take p).length = p := by rw [List.length_take]; omega
  have e2 : (l.drop p).length = l.length - p := List.length_drop
  obtain ⟨la, hla⟩ : ∃ la, l.take p = la := ⟨_, rfl⟩
  obtain ⟨lb, hlb⟩ : ∃ lb, l.drop p = lb := ⟨_, rfl⟩
  rw [hla] at HCA e1; rw [hlb] at HCB e2
  rw [← e2] at hcutB HcB
  replace hcutA : ∀ W : World, (Instr.slice 24 (.slice A0 l.length c0) none (some (.int .i64 (p : Int))) none).run Try.prog W = .ok (.slice A0 la.length c0) W := fun W => by rw [e1]; exact hcutA W
  have HT1 := Aside0.mk F.h1; have HT2 := Aside0.mk F.h2; have HTM := Aside0.mk F.hm; have HTA := Aside0.mk F.ha; have HTS := Aside0.mk F.hs; have HTT := Aside0.mk F.ht
  have HLA := Aside0.mk (show la.length ≤ c0 by omega)
  have r0 := F.r0; have r1 := F.r1; have HW := Aside0.mk F.hw
  rw [hla] at HT1 HTM; rw [hlb] at HT2 HTM
  have HE1 := Aside0.mk e1; have HE2 := Aside0.mk e2
  have hcutT2 : (l0.length : Int) % 2 = 1 → ∀ W : World, (Instr.slice 24 (.slice A0 l0.length c0) none (some (.int .i64 ((l0.length : Int) - 1))) none).run Try.prog W = .ok (.slice A0 l.length c0) W := fun h => by
    have h3 := hcutT (by omega) (by omega) hc0
    rw [show ((l0.length : Int) - 1).toNat = l.length by have := hlm h; omega] at h3
    exact h3
  clear hr0 h1 h2 F HF hAB hcB hcase e1 e2 hla hlb hcutT hlm
  have HLL := Aside0.mk hll
  rcases hpar with hpar | hpar
  · obtain rfl := hle hpar
    clear hcutT2 hle
    go_enter Try.func9, Try.ntmps9
    go_wp2_with fail
    refine (crosswaylaw02_awake.calls k true _ H1.out).mono ?_
    rintro e w1 ⟨rfl, hb⟩
    replace HB := Aside0.mk (below_of (by repeat (first | (with_reducible first | exact HB.out | apply below_alloc | apply pw_below_drewN | apply below_drew1) | exact HB.out)) hb); clear hb
    go_wp2_with fail
    refine (crosswaylaw02_word.calls _ _ l a (p : Int) true _ (Kd.C_below HR.out (by repeat (first | (with_reducible first | exact HB.out | apply below_alloc | apply pw_below_drewN | apply below_drew1) | exact HB.out))) HC.out H2.out).mono ?_
    rintro e w2 ⟨rfl, ⟨nd, rfl⟩⟩
    go_wp2_with fail
    go_loopg [8, 9] (l.length + 1) (fun kq v8 v9 w' => ∃ (i : Nat) (acc : List Int), v9 = .int .i64 (i : Int) ∧ Aside0 (i % 2 = 0 ∧ i ≤ l.length ∧ l.length + 1 = i + kq) ∧ Aside0 (acc ++ turn (l.drop i) = turn l) ∧ Aside0 (Kd.R (Kd.int .u8) 5 w' w.heap.size (fun _ => True) v8 acc) ∧ Aside0 (Below w.heap.size w w'))
    case atStart => exact ⟨0, [], rfl, ⟨by omega⟩, ⟨rfl⟩, ⟨Kd.R_nil _ _ _ _ _⟩, ⟨(by repeat (first | (with_reducible first | exact HB.out | apply below_alloc | apply pw_below_drewN | apply below_drew1) | exact HB.out))⟩⟩
    case round =>
      clear HB
      obtain ⟨i, acc, rfl, HI, HE, HV, HB⟩ := hrel
      have hi := HI.out
      have hal : acc.length ≤ l.length := by
        have h1 := congrArg List.length HE.out
        rw [List.length_append, turn_length, turn_length] at h1
        omega
      obtain ⟨A8, c8, rfl⟩ := Kd.R_slice HV.out
      by_cases hlt : i < l.length
      · have hlt1 : i + 1 < l.length := by have := HEV.out; omega
        obtain ⟨d, rfl⟩ : ∃ d, gk = d + 2 := ⟨gk - 2, by omega⟩
        obtain ⟨ad, e0, hx0⟩ := Kd.at_int HR.out (i : Int) (by omega) (by omega)
        obtain ⟨ad1, e1, hx1⟩ := Kd.at_int HR.out ((i : Int) + 1) (by omega) (by omega)
        rw [rd_at (by omega)] at hx0
        rw [show ((i : Int) + 1) = ((i + 1 : Nat) : Int) by omega, rd_at (by omega)] at hx1
        obtain rfl : ad = ad1 := by rw [e0] at e1; injection e1
        subst e0
        obtain ⟨y0, hy0⟩ : ∃ y, l[i] = y := ⟨_, rfl⟩
        obtain ⟨y1, hy1⟩ : ∃ y, l[i + 1] = y := ⟨_, rfl⟩
        rw [hy0] at hx0; rw [hy1] at hx1
        have HY := Aside0.mk (show turn (l.drop i) = y1 :: y0 :: turn (l.drop (i + 2)) by rw [← hy0, ← hy1]; exact turn_at hlt1)
        obtain ⟨ji, hji⟩ : ∃ ji : Int, (i : Int) = ji := ⟨_, rfl⟩
        have hw : IntKind.i64.wrap (ji + 1) = ji + 1 := IntWalk.i64_in _ (by omega)
        have HJ := Aside0.mk hji
        rw [show ((i + 1 : Nat) : Int) = ji + 1 by omega] at hx1
        rw [hji] at hx0
        have q0 : 0 ≤ ji := by omega
        have q1 : ji < (l.length : Int) := by omega
        have q2 : 0 ≤ ji + 1 := by omega
        have q3 : ji + 1 < (l.length : Int) := by omega
        rw [hji]
        have HAL := Aside0.mk hal
        clear hy0 hy1 hji hi hlt hlt1 hal
        have HX0 := Aside0.mk hx0; have HX1 := Aside0.mk hx1
        replace hx0 := pw_cell_below HB.out hx0
        replace hx1 := pw_cell_below HB.out hx1
        go_wp2_with fail
        have hown := Aside0.mk (Kd.own_of_R HV.out)
        have hn2 := Aside0.mk (show acc.length + 2 ≤ maxLen by have := HAL.out; unfold maxLen; omega)
        have hn3 := Aside0.mk (show (acc.length + 2) * 1 ≤ 140737488355328 by have := HAL.out; omega)
        have hnw := Aside0.mk (World.news_of_block (w := wr.alloc (.cells #[.int .u8 y1, .int .u8 y0] 5)) (cs := #[.int .u8 y1, .int .u8 y0]) (t := 5) (fr := (0, 0)) (heap_alloc_new wr _))
        have hbw := Aside0.mk HB.out.size
        go_region_held3 (fun w' => w'.cell? (ad.add ji.toNat) = some (.int .u8 y0) ∧ w'.cell? (ad.add (ji + 1).toNat) = some (.int .u8 y1))
          (first | go_keep | (exact ⟨pw_cell_below HB3.out HX0.out, pw_cell_below HB3.out HX1.out⟩))
          ((refine step_append_lies _ (by rfl) _ _ _ (by rfl) w.heap.size 5 i0 _ 1 1 Try.underlying24 hi0 hz0 hz1 hz2 rfl (by omega) _ acc.length _ (by rfl) ((hown.out.alloc _).drew) ⟨wr.heap.size, 0, none⟩ 2 2 [.int .u8 y1, .int .u8 y0] (by rfl) (by rfl) hnw.out (by simp [Value.oneCell']) (by omega) hn2.out hn3.out (by have := hbw.out; simp; omega) (wr.heap.size + 1) (by simp) ?_; intro gg cap w1_ hown1 hgrow hat hlt; have HB3 := Aside0.mk (show Below w.heap.size w w1_ from pw_below_grown (below_drew1 (below_alloc HB.out _)) _ (by have := hbw.out; simp; omega) hgrow (fun q hq => Kd.R_base HV.out q hq))))
        go_wp2_with fail
        go_roundg d
        case measure => omega
        case rel =>
          refine ⟨i + 2, acc ++ [y1, y0], by have := HJ.out; go_num, ⟨by have := HI.out; have := HEV.out; have := HJ.out; omega⟩, ⟨by rw [List.append_assoc]; have := HE.out; rw [HY.out] at this; exact this⟩, ⟨?_⟩, HB3⟩
          have h2 : (acc ++ [y1, y0]).length = acc.length + 2 := by simp
          refine Kd.R_of_own (xs := acc ++ [y1, y0]) ?_ (fun _ _ => trivial)
          rw [h2, encs_append]
          exact hown1
      · have hge : ¬ (i : Int) < (l.length : Int) := by omega
        have hacc : acc = turn l := by
          have h1 := HE.out
          rw [List.drop_eq_nil_of_le (by omega)] at h1
          simpa [turn] using h1
        subst hacc
        have HVC := Aside0.mk (Kd.R_reads' HV.out)
        have HVT := Aside0.mk (show ∀ k, (Value.slice A8 (turn l).length c8).ownBlock = some k → k < wr.heap.size from fun k hk => Kd.R_lt HV.out k hk)
        have HAL := Aside0.mk hal
        clear hi hlt hal
        go_wp2_with (first | ((with_reducible refine gate_builtin (b := .append) (xs := #[.tmp 56, .tmp 59]) rfl ?_); at_builtin; refine Kd.R_append_rows (Kd.int .u8) (w0 := w) w.heap.size rfl (.tmp 56) (.tmp 59) 24 5 (.int .u8 0) 1 rfl Try.underlying24 info5 rfl (by decide) (by omega) (.slice none 0 0) ([] : List Int) lb _ _ _ (fun _ => True) (fun _ => False) rfl rfl ?aO ?aR (fun _ _ h => h) (fun _ h => h.elim) ?aF ?aB ?aS ?aL ?_; (case aR => exact (Aside0.mk (Kd.C_below HCB.out (by repeat (first | (with_reducible first | exact HB.out | apply below_alloc | apply pw_below_drewN | apply below_drew1) | exact HB.out)))).out); (case aB => exact HB.out); (case aF => exact (fun _ _ => trivial)); (case aO => exact (Aside0.mk (Kd.R_nil _ _ _ _ _)).out); (case aS => exact HB.out.size); (case aL => have := HE2.out; have := HLL.out; simp only [List.length_nil]; omega); intro v8 w8 ho hb hg hat; have n0_ := Aside0.mk hb; have O8 := Aside0.mk ho; replace HV := Aside0.mk (Kd.R_grown HV.out hg (fun k _ => by simp [Value.ownBlock])); have HNB := Aside0.mk (show ∀ k, v8.ownBlock = some k → wr.heap.size ≤ k from fun k hk => by (rcases hat with h | ⟨b, h, hb_⟩ <;> (rw [h] at hk; first | (simp [Value.ownBlock] at hk; done) | (injection hk with hk; omega)))); clear HB; have HB := n0_; clear n0_; clear ho hb hg hat) | ((with_reducible refine gate_builtin (b := .append) (xs := #[.tmp 61, .tmp 64]) rfl ?_); at_builtin; refine Kd.R_append_rows (Kd.int .u8) (w0 := w) w.heap.size rfl (.tmp 61) (.tmp 64) 24 5 (.int .u8 0) 1 rfl Try.underlying24 info5 rfl (by decide) (by omega) v8 ([] ++ lb) la _ _ _ (fun _ => True) (fun _ => False) rfl rfl ?aO ?aR (fun _ _ h => h) (fun _ h => h.elim) ?aF ?aB ?aS ?aL ?_; (case aR => exact (Aside0.mk (Kd.C_below HCA.out (by repeat (first | (with_reducible first | exact HB.out | apply below_alloc | apply pw_below_drewN | apply below_drew1) | exact HB.out)))).out); (case aB => exact HB.out); (case aF => exact (fun _ _ => trivial)); (case aO => exact O8.out); (case aS => exact HB.out.size); (case aL => have := HE2.out; have := HE1.out; have := HLL.out; simp only [List.length_append, List.length_nil]; omega); intro v9 w9 ho hb hg hat; have n0_ := Aside0.mk hb; have O9 := Aside0.mk ho; replace HV := Aside0.mk (Kd.R_grown2 HV.out rfl hg (fun k hk e => by have h1 := HVT.out k e.symm; have h2 := HNB.out k hk; omega)); clear HB; have HB := n0_; clear n0_; clear ho hb hg hat))
        clear hge
        refine (tally_Sum.calls k (some _) 1 [l] s _ (C_var (Kd.C_below HR.out (by repeat (first | (with_reducible first | exact HB.out | apply below_alloc | apply pw_below_drewN | apply below_drew1) | exact HB.out))) HC.out rfl) (Nat.le_refl _) HTS.out).mono ?_
        rintro e w10 ⟨rfl, ⟨nd5, rfl⟩⟩
        go_wp2_with fail
        have HVR := Aside0.mk (Kd.R_reads' HV.out)
        refine (tally_Sum.calls k (some _) 1 [turn l] t _ (C_var (Kd.C_drewN (Kd.C_alloc HVR.out.2.2 _) _) HVR.out.2.1 (by simp)) (Nat.le_refl _) HTT.out).mono ?_
        rintro e w11 ⟨rfl, ⟨nd6, rfl⟩⟩
        go_wp2_with fail
        replace O9 := Aside0.mk (show Kd.R (Kd.int .u8) 5 w9 w.heap.size (fun _ => True) v9 (lb ++ la) from O9.out)
        obtain ⟨A9, c9, rfl⟩ := Kd.R_slice O9.out
        have HOR := Aside0.mk (Kd.R_reads' O9.out)
        obtain ⟨lm, hlm⟩ : ∃ lm, lb ++ la = lm := ⟨_, rfl⟩
        rw [hlm] at HTM HOR ⊢
        have HB9 := Aside0.mk (show Below w9.heap.size w9 (((((w9.alloc (.cells #[.slice A0 l.length c0] 24)).drewN nd5).alloc (.cells #[.slice A8 (turn l).length c8] 24))).drewN nd6) from (by repeat (first | (with_reducible first | exact Below.refl _ _ | apply below_alloc | apply pw_below_drewN | apply below_drew1) | exact Below.refl _ _)))
        obtain ⟨wz, hwz⟩ : ∃ wz, (((((w9.alloc (.cells #[.slice A0 l.length c0] 24)).drewN nd5).alloc (.cells #[.slice A8 (turn l).length c8] 24))).drewN nd6) = wz := ⟨_, rfl⟩
        rw [hwz] at HB9 ⊢
        have HBZ := Aside0.mk (below_of HB.out HB9.out)
        have HCM := Aside0.mk (Kd.C_below HOR.out.2.2 HB9.out)
        replace HCA := Aside0.mk (Kd.C_below HCA.out HBZ.out)
        replace HCB := Aside0.mk (Kd.C_below HCB.out HBZ.out)
        clear hwz hlm HB O9 O8 HV HVC HVT HNB HB9 HR
        have f1 : Int.tmod s 256 = s % 256 := Int.tmod_eq_emod_of_nonneg r0
        have f2 : Int.tdiv s 256 = s / 256 := Int.tdiv_eq_ediv_of_nonneg r0
        have f3 : IntKind.u16.wrap (s % 256) = s % 256 := w16 (by omega) (by omega)
        have f4 : IntKind.u16.wrap (s / 256) = s / 256 := w16 (by omega) (by omega)
        have f5 : IntKind.u16.wrap (s % 256 * 256) = s % 256 * 256 := w16 (by omega) (by omega)
        have f7 : s % 256 * 256 + s / 256 = t := HW.out.symm
        have f6 : IntKind.u16.wrap t = t := w16 (by omega) (by omega)
        have tok1 := True.intro
        have tok2 := True.intro
        have tok3 := True.intro
        go_region_held3 (fun w' => True) (exact trivial) (first | (have t_ := tok1; go_at_call 11; refine (tally_Sum.calls k (some _) 1 [lm] s _ (Kd.C_drew (C_var HCM.out HOR.out.2.1 rfl)) (Nat.le_refl _) HTM.out).mono ?_; rintro e w12 ⟨rfl, ⟨n12, rfl⟩⟩; clear tok1 t_) | (have t_ := tok2; go_at_call 11; refine Calls.mono (tally_Sum.calls k (some _) 1 [la] s1 _ (by exact C_one (by repeat (first | exact HCA.out | (with_reducible apply Kd.C_alloc) | (with_reducible apply Kd.C_drewN) | (with_reducible apply Kd.C_drew))) HLA.out (by first | (simp; done) | (go_simp; done))) (Nat.le_refl _) HT1.out) ?_; rintro e w13 ⟨rfl, ⟨n13, rfl⟩⟩; clear tok2 t_) | (go_at_call 11; refine Calls.mono (tally_Sum.calls k (some _) 1 [lb] s2 _ (by exact C_one (by repeat (first | exact HCB.out | (with_reducible apply Kd.C_alloc) | (with_reducible apply Kd.C_drewN) | (with_reducible apply Kd.C_drew))) HcB.out (by first | (simp; done) | (go_simp; done))) (Nat.le_refl _) HT2.out) ?_; rintro e w14 ⟨rfl, ⟨n14, rfl⟩⟩) | (go_at_call 15; refine (tally_Add.calls s1 s2 s _ HTA.out).mono ?_; rintro e w15 ⟨rfl, ⟨n15, rfl⟩⟩))
        all_goals
          go_wp2_with fail
          go_ret
          exact ⟨by simp, (by repeat (first | (with_reducible first | exact HBZ.out | apply below_alloc | apply pw_below_drewN | apply below_drew1) | exact HBZ.out))⟩
  · have hcutT := hcutT2 hpar
    clear hcutT2 hle
    go_enter Try.func9, Try.ntmps9
    go_wp2_with fail
    refine (crosswaylaw02_awake.calls k true _ H1.out).mono ?_
    rintro e w1 ⟨rfl, hb⟩
    replace HB := Aside0.mk (below_of (by repeat (first | (with_reducible first | exact HB.out | apply below_alloc | apply pw_below_drewN | apply below_drew1) | exact HB.out)) hb); clear hb
    go_wp2_with fail
    refine (crosswaylaw02_word.calls _ _ l a (p : Int) true _ (Kd.C_below HR.out (by repeat (first | (with_reducible first | exact HB.out | apply below_alloc | apply pw_below_drewN | apply below_drew1) | exact HB.out))) HC.out H2.out).mono ?_
    rintro e w2 ⟨rfl, ⟨nd, rfl⟩⟩
    go_wp2_with fail
    go_loopg [8, 9] (l.length + 1) (fun kq v8 v9 w' => ∃ (i : Nat) (acc : List Int), v9 = .int .i64 (i : Int) ∧ Aside0 (i % 2 = 0 ∧ i ≤ l.length ∧ l.length + 1 = i + kq) ∧ Aside0 (acc ++ turn (l.drop i) = turn l) ∧ Aside0 (Kd.R (Kd.int .u8) 5 w' w.heap.size (fun _ => True) v8 acc) ∧ Aside0 (Below w.heap.size w w'))
    case atStart => exact ⟨0, [], rfl, ⟨by omega⟩, ⟨rfl⟩, ⟨Kd.R_nil _ _ _ _ _⟩, ⟨(by repeat (first | (with_reducible first | exact HB.out | apply below_alloc | apply pw_below_drewN | apply below_drew1) | exact HB.out))⟩⟩
    case round =>
      clear HB
      obtain ⟨i, acc, rfl, HI, HE, HV, HB⟩ := hrel
      have hi := HI.out
      have hal : acc.length ≤ l.length := by
        have h1 := congrArg List.length HE.out
        rw [List.length_append, turn_length, turn_length] at h1
        omega
      obtain ⟨A8, c8, rfl⟩ := Kd.R_slice HV.out
      by_cases hlt : i < l.length
      · have hlt1 : i + 1 < l.length := by have := HEV.out; omega
        obtain ⟨d, rfl⟩ : ∃ d, gk = d + 2 := ⟨gk - 2, by omega⟩
        obtain ⟨ad, e0, hx0⟩ := Kd.at_int HR.out (i : Int) (by omega) (by omega)
        obtain ⟨ad1, e1, hx1⟩ := Kd.at_int HR.out ((i : Int) + 1) (by omega) (by omega)
        rw [rd_at (by omega)] at hx0
        rw [show ((i : Int) + 1) = ((i + 1 : Nat) : Int) by omega, rd_at (by omega)] at hx1
        obtain rfl : ad = ad1 := by rw [e0] at e1; injection e1
        subst e0
        obtain ⟨y0, hy0⟩ : ∃ y, l[i] = y := ⟨_, rfl⟩
        obtain ⟨y1, hy1⟩ : ∃ y, l[i + 1] = y := ⟨_, rfl⟩
        rw [hy0] at hx0; rw [hy1] at hx1
        have HY := Aside0.mk (show turn (l.drop i) = y1 :: y0 :: turn (l.drop (i + 2)) by rw [← hy0, ← hy1]; exact turn_at hlt1)
        obtain ⟨ji, hji⟩ : ∃ ji : Int, (i : Int) = ji := ⟨_, rfl⟩
        have hw : IntKind.i64.wrap (ji + 1) = ji + 1 := IntWalk.i64_in _ (by omega)
        have HJ := Aside0.mk hji
        rw [show ((i + 1 : Nat) : Int) = ji + 1 by omega] at hx1
        rw [hji] at hx0
        have q0 : 0 ≤ ji := by omega
        have q1 : ji < (l.length : Int) := by omega
        have q2 : 0 ≤ ji + 1 := by omega
        have q3 : ji + 1 < (l.length : Int) := by omega
        rw [hji]
        have HAL := Aside0.mk hal
        clear hy0 hy1 hji hi hlt hlt1 hal
        have HX0 := Aside0.mk hx0; have HX1 := Aside0.mk hx1
        replace hx0 := pw_cell_below HB.out hx0
        replace hx1 := pw_cell_below HB.out hx1
        go_wp2_with fail
        have hown := Aside0.mk (Kd.own_of_R HV.out)
        have hn2 := Aside0.mk (show acc.length + 2 ≤ maxLen by have := HAL.out; unfold maxLen; omega)
        have hn3 := Aside0.mk (show (acc.length + 2) * 1 ≤ 140737488355328 by have := HAL.out; omega)
        have hnw := Aside0.mk (World.news_of_block (w := wr.alloc (.cells #[.int .u8 y1, .int .u8 y0] 5)) (cs := #[.int .u8 y1, .int .u8 y0]) (t := 5) (fr := (0, 0)) (heap_alloc_new wr _))
        have hbw := Aside0.mk HB.out.size
        go_region_held3 (fun w' => w'.cell? (ad.add ji.toNat) = some (.int .u8 y0) ∧ w'.cell? (ad.add (ji + 1).toNat) = some (.int .u8 y1))
          (first | go_keep | (exact ⟨pw_cell_below HB3.out HX0.out, pw_cell_below HB3.out HX1.out⟩))
          ((refine step_append_lies _ (by rfl) _ _ _ (by rfl) w.heap.size 5 i0 _ 1 1 Try.underlying24 hi0 hz0 hz1 hz2 rfl (by omega) _ acc.length _ (by rfl) ((hown.out.alloc _).drew) ⟨wr.heap.size, 0, none⟩ 2 2 [.int .u8 y1, .int .u8 y0] (by rfl) (by rfl) hnw.out (by simp [Value.oneCell']) (by omega) hn2.out hn3.out (by have := hbw.out; simp; omega) (wr.heap.size + 1) (by simp) ?_; intro gg cap w1_ hown1 hgrow hat hlt; have HB3 := Aside0.mk (show Below w.heap.size w w1_ from pw_below_grown (below_drew1 (below_alloc HB.out _)) _ (by have := hbw.out; simp; omega) hgrow (fun q hq => Kd.R_base HV.out q hq))))
        go_wp2_with fail
        go_roundg d
        case measure => omega
        case rel =>
          refine ⟨i + 2, acc ++ [y1, y0], by have := HJ.out; go_num, ⟨by have := HI.out; have := HEV.out; have := HJ.out; omega⟩, ⟨by rw [List.append_assoc]; have := HE.out; rw [HY.out] at this; exact this⟩, ⟨?_⟩, HB3⟩
          have h2 : (acc ++ [y1, y0]).length = acc.length + 2 := by simp
          refine Kd.R_of_own (xs := acc ++ [y1, y0]) ?_ (fun _ _ => trivial)
          rw [h2, encs_append]
          exact hown1
      · have hge : ¬ (i : Int) < (l.length : Int) := by omega
        have hacc : acc = turn l := by
          have h1 := HE.out
          rw [List.drop_eq_nil_of_le (by omega)] at h1
          simpa [turn] using h1
        subst hacc
        have HVC := Aside0.mk (Kd.R_reads' HV.out)
        have HVT := Aside0.mk (show ∀ k, (Value.slice A8 (turn l).length c8).ownBlock = some k → k < wr.heap.size from fun k hk => Kd.R_lt HV.out k hk)
        have HAL := Aside0.mk hal
        clear hi hlt hal
        go_wp2_with (first | ((with_reducible refine gate_builtin (b := .append) (xs := #[.tmp 56, .tmp 59]) rfl ?_); at_builtin; refine Kd.R_append_rows (Kd.int .u8) (w0 := w) w.heap.size rfl (.tmp 56) (.tmp 59) 24 5 (.int .u8 0) 1 rfl Try.underlying24 info5 rfl (by decide) (by omega) (.slice none 0 0) ([] : List Int) lb _ _ _ (fun _ => True) (fun _ => False) rfl rfl ?aO ?aR (fun _ _ h => h) (fun _ h => h.elim) ?aF ?aB ?aS ?aL ?_; (case aR => exact (Aside0.mk (Kd.C_below HCB.out (by repeat (first | (with_reducible first | exact HB.out | apply below_alloc | apply pw_below_drewN | apply below_drew1) | exact HB.out)))).out); (case aB => exact HB.out); (case aF => exact (fun _ _ => trivial)); (case aO => exact (Aside0.mk (Kd.R_nil _ _ _ _ _)).out); (case aS => exact HB.out.size); (case aL => have := HE2.out; have := HLL.out; simp only [List.length_nil]; omega); intro v8 w8 ho hb hg hat; have n0_ := Aside0.mk hb; have O8 := Aside0.mk ho; replace HV := Aside0.mk (Kd.R_grown HV.out hg (fun k _ => by simp [Value.ownBlock])); have HNB := Aside0.mk (show ∀ k, v8.ownBlock = some k → wr.heap.size ≤ k from fun k hk => by (rcases hat with h | ⟨b, h, hb_⟩ <;> (rw [h] at hk; first | (simp [Value.ownBlock] at hk; done) | (injection hk with hk; omega)))); clear HB; have HB := n0_; clear n0_; clear ho hb hg hat) | ((with_reducible refine gate_builtin (b := .append) (xs := #[.tmp 61, .tmp 64]) rfl ?_); at_builtin; refine Kd.R_append_rows (Kd.int .u8) (w0 := w) w.heap.size rfl (.tmp 61) (.tmp 64) 24 5 (.int .u8 0) 1 rfl Try.underlying24 info5 rfl (by decide) (by omega) v8 ([] ++ lb) la _ _ _ (fun _ => True) (fun _ => False) rfl rfl ?aO ?aR (fun _ _ h => h) (fun _ h => h.elim) ?aF ?aB ?aS ?aL ?_; (case aR => exact (Aside0.mk (Kd.C_below HCA.out (by repeat (first | (with_reducible first | exact HB.out | apply below_alloc | apply pw_below_drewN | apply below_drew1) | exact HB.out)))).out); (case aB => exact HB.out); (case aF => exact (fun _ _ => trivial)); (case aO => exact O8.out); (case aS => exact HB.out.size); (case aL => have := HE2.out; have := HE1.out; have := HLL.out; simp only [List.length_append, List.length_nil]; omega); intro v9 w9 ho hb hg hat; have n0_ := Aside0.mk hb; have O9 := Aside0.mk ho; replace HV := Aside0.mk (Kd.R_grown2 HV.out rfl hg (fun k hk e => by have h1 := HVT.out k e.symm; have h2 := HNB.out k hk; omega)); clear HB; have HB := n0_; clear n0_; clear ho hb hg hat))
        clear hge
        refine (tally_Sum.calls k (some _) 1 [l] s _ (C_var (Kd.C_below HR.out (by repeat (first | (with_reducible first | exact HB.out | apply below_alloc | apply pw_below_drewN | apply below_drew1) | exact HB.out))) HC.out rfl) (Nat.le_refl _) HTS.out).mono ?_
        rintro e w10 ⟨rfl, ⟨nd5, rfl⟩⟩
        go_wp2_with fail
        have HVR := Aside0.mk (Kd.R_reads' HV.out)
        refine (tally_Sum.calls k (some _) 1 [turn l] t _ (C_var (Kd.C_drewN (Kd.C_alloc HVR.out.2.2 _) _) HVR.out.2.1 (by simp)) (Nat.le_refl _) HTT.out).mono ?_
        rintro e w11 ⟨rfl, ⟨nd6, rfl⟩⟩
        go_wp2_with fail
        replace O9 := Aside0.mk (show Kd.R (Kd.int .u8) 5 w9 w.heap.size (fun _ => True) v9 (lb ++ la) from O9.out)
        obtain ⟨A9, c9, rfl⟩ := Kd.R_slice O9.out
        have HOR := Aside0.mk (Kd.R_reads' O9.out)
        obtain ⟨lm, hlm⟩ : ∃ lm, lb ++ la = lm := ⟨_, rfl⟩
        rw [hlm] at HTM HOR ⊢
        have HB9 := Aside0.mk (show Below w9.heap.size w9 (((((w9.alloc (.cells #[.slice A0 l.length c0] 24)).drewN nd5).alloc (.cells #[.slice A8 (turn l).length c8] 24))).drewN nd6) from (by repeat (first | (with_reducible first | exact Below.refl _ _ | apply below_alloc | apply pw_below_drewN | apply below_drew1) | exact Below.refl _ _)))
        obtain ⟨wz, hwz⟩ : ∃ wz, (((((w9.alloc (.cells #[.slice A0 l.length c0] 24)).drewN nd5).alloc (.cells #[.slice A8 (turn l).length c8] 24))).drewN nd6) = wz := ⟨_, rfl⟩
        rw [hwz] at HB9 ⊢
        have HBZ := Aside0.mk (below_of HB.out HB9.out)
        have HCM := Aside0.mk (Kd.C_below HOR.out.2.2 HB9.out)
        replace HCA := Aside0.mk (Kd.C_below HCA.out HBZ.out)
        replace HCB := Aside0.mk (Kd.C_below HCB.out HBZ.out)
        clear hwz hlm HB O9 O8 HV HVC HVT HNB HB9 HR
        have f1 : Int.tmod s 256 = s % 256 := Int.tmod_eq_emod_of_nonneg r0
        have f2 : Int.tdiv s 256 = s / 256 := Int.tdiv_eq_ediv_of_nonneg r0
        have f3 : IntKind.u16.wrap (s % 256) = s % 256 := w16 (by omega) (by omega)
        have f4 : IntKind.u16.wrap (s / 256) = s / 256 := w16 (by omega) (by omega)
        have f5 : IntKind.u16.wrap (s % 256 * 256) = s % 256 * 256 := w16 (by omega) (by omega)
        have f7 : s % 256 * 256 + s / 256 = t := HW.out.symm
        have f6 : IntKind.u16.wrap t = t := w16 (by omega) (by omega)
        have tok1 := True.intro
        have tok2 := True.intro
        have tok3 := True.intro
        go_region_held3 (fun w' => True) (exact trivial) (first | (have t_ := tok1; go_at_call 11; refine (tally_Sum.calls k (some _) 1 [lm] s _ (Kd.C_drew (C_var HCM.out HOR.out.2.1 rfl)) (Nat.le_refl _) HTM.out).mono ?_; rintro e w12 ⟨rfl, ⟨n12, rfl⟩⟩; clear tok1 t_) | (have t_ := tok2; go_at_call 11; refine Calls.mono (tally_Sum.calls k (some _) 1 [la] s1 _ (by exact C_one (by repeat (first | exact HCA.out | (with_reducible apply Kd.C_alloc) | (with_reducible apply Kd.C_drewN) | (with_reducible apply Kd.C_drew))) HLA.out (by first | (simp; done) | (go_simp; done))) (Nat.le_refl _) HT1.out) ?_; rintro e w13 ⟨rfl, ⟨n13, rfl⟩⟩; clear tok2 t_) | (go_at_call 11; refine Calls.mono (tally_Sum.calls k (some _) 1 [lb] s2 _ (by exact C_one (by repeat (first | exact HCB.out | (with_reducible apply Kd.C_alloc) | (with_reducible apply Kd.C_drewN) | (with_reducible apply Kd.C_drew))) HcB.out (by first | (simp; done) | (go_simp; done))) (Nat.le_refl _) HT2.out) ?_; rintro e w14 ⟨rfl, ⟨n14, rfl⟩⟩) | (go_at_call 15; refine (tally_Add.calls s1 s2 s _ HTA.out).mono ?_; rintro e w15 ⟨rfl, ⟨n15, rfl⟩⟩))
        all_goals
          go_wp2_with fail
          go_ret
          exact ⟨by simp, (by repeat (first | (with_reducible first | exact HBZ.out | apply below_alloc | apply pw_below_drewN | apply below_drew1) | exact HBZ.out))⟩
set_option maxHeartbeats 1000000 in
set_option maxRecDepth 100000 in
theorem noword (k : Nat) (A0 : Option Addr) (c0 : Nat) (l0 : List Int) (a : Int) (w : World) (hr0 : Kd.C (Kd.int .u8) w A0 l0.length l0) (hc0 : l0.length ≤ c0) (hl0 : l0.length < 2)
    (h1 : crosswaylaw02_awake.f k = some true) (h2 : crosswaylaw02_word.f ([] : List Int) a = some (0, false)) (hs : tally_Sum.f k [([] : List Int)] = some 0) :
    Calls Try.prog 9 #[.slice A0 l0.length c0, .int .i64 a] w fun e w' => e = .returned (.bool true) ∧ Below w.heap.size w w' := by
  have H1 := Aside0.mk h1; have H2 := Aside0.mk h2; have HTS := Aside0.mk hs
  have HB := Aside0.mk (Below.refl w.heap.size w)
  have HC := Aside0.mk hc0
  have HR := Aside0.mk hr0
  obtain ⟨i0, hi0, hz0, hz1, hz2⟩ := info_parts info5
  have hcutT := cut_to (P := Try.prog) 24 5 .i64 Try.underlying24 hi0 A0 1 c0 0 (by omega) (by omega)
  have HE := Aside0.mk (show ∀ W : World, Kd.C (Kd.int .u8) W A0 0 ([] : List Int) from fun W => ⟨rfl, by simp, fun h => absurd h (Nat.lt_irrefl 0)⟩)
  rcases (show l0 = [] ∨ ∃ x, l0 = [x] by match l0, hl0 with | [], _ => exact .inl rfl | [x], _ => exact .inr ⟨x, rfl⟩) with rfl | ⟨x, rfl⟩
  · simp only [List.length_nil] at HR HC hc0 ⊢
    clear hr0 hl0 h1 h2 hs hcutT
    go_enter Try.func9, Try.ntmps9
    go_wp2_with fail
    refine (crosswaylaw02_awake.calls k true _ H1.out).mono ?_
    rintro e w1 ⟨rfl, hb⟩
    replace HB := Aside0.mk (below_of (by repeat (first | (with_reducible first | exact HB.out | apply below_alloc | apply pw_below_drewN | apply below_drew1) | exact HB.out)) hb); clear hb
    go_wp2_with fail
    refine (crosswaylaw02_word.calls A0 c0 [] a 0 false _ (HE.out _) (Nat.zero_le _) H2.out).mono ?_
    rintro e w2 ⟨rfl, ⟨nd, rfl⟩⟩
    go_wp2_with fail
    refine (tally_Sum.calls k (some _) 1 [[]] 0 _ (C_var (l := []) (HE.out _) (Nat.zero_le _) rfl) (Nat.le_refl _) HTS.out).mono ?_
    rintro e w3 ⟨rfl, ⟨nd3, rfl⟩⟩
    go_wp2_with fail
    go_ret
    exact ⟨by simp, (by repeat (first | (with_reducible first | exact HB.out | apply below_alloc | apply pw_below_drewN | apply below_drew1) | exact HB.out))⟩
  · simp only [List.length_cons, List.length_nil, Nat.zero_add] at HR HC hc0 ⊢
    have hcut := hcutT hc0
    clear hr0 hl0 h1 h2 hs hcutT
    go_enter Try.func9, Try.ntmps9
    go_wp2_with fail
    refine (crosswaylaw02_awake.calls k true _ H1.out).mono ?_
    rintro e w1 ⟨rfl, hb⟩
    replace HB := Aside0.mk (below_of (by repeat (first | (with_reducible first | exact HB.out | apply below_alloc | apply pw_below_drewN | apply below_drew1) | exact HB.out)) hb); clear hb
    go_wp2_with fail
    refine (crosswaylaw02_word.calls A0 c0 [] a 0 false _ (HE.out _) (Nat.zero_le _) H2.out).mono ?_
    rintro e w2 ⟨rfl, ⟨nd, rfl⟩⟩
    go_wp2_with fail
    refine (tally_Sum.calls k (some _) 1 [[]] 0 _ (C_var (l := []) (HE.out _) (Nat.zero_le _) rfl) (Nat.le_refl _) HTS.out).mono ?_
    rintro e w3 ⟨rfl, ⟨nd3, rfl⟩⟩
    go_wp2_with fail
    go_ret
    exact ⟨by simp, (by repeat (first | (with_reducible first | exact HB.out | apply below_alloc | apply pw_below_drewN | apply below_drew1) | exact HB.out))⟩
end Go.Proofs.Ytgloieofdnpggaa.WTallyOrder
