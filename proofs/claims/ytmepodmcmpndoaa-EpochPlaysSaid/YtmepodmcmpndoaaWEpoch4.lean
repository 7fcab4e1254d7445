/-
  What the laws of an epoch share: rows beside it, the first calls whose answers are fixed, steps. Conditions: those of each theorem.
-/
import Derived.Test.YtmepodmcmpndoaaWEpoch3
import Derived.Laws.BitsLemmas
set_option linter.unusedVariables false
set_option linter.unusedSimpArgs false
namespace Go.Proofs.Ytmepodmcmpndoaa.WEp
open Go.RowKit Go.Proofs.Ytmepodmcmpndoaa.PBase Go.Proofs.YtmepodmcmpndoaaW.PrintWords Go.Proofs.YtmepodmcmpndoaaW.PrintLast Go.Proofs.YtmepodmcmpndoaaW.PrintMore Go.Proofs.Ytmepodmcmpndoaa.Ep Go.Proofs.Ytmepodmcmpndoaa.EpM Go.MuLone
theorem and15 (n : Int) : bits .and .i64 n 15 = n % 16 := by
  have h127 : (BitVec.ofInt 64 15).toNat = 2 ^ 4 - 1 := by decide
  have key : (BitVec.ofInt 64 n &&& BitVec.ofInt 64 15).toNat = (n % ((2 ^ 64 : Nat) : Int)).toNat % 2 ^ 4 := by
    rw [BitVec.toNat_and, BitVec.toNat_ofInt, h127, Nat.and_two_pow_sub_one_eq_mod]
  show IntKind.i64.wrap ((BitVec.ofInt 64 n &&& BitVec.ofInt 64 15).toNat : Nat) = n % 16
  rw [key, IntKind.wrap_i64]
  omega
theorem and3 (n : Int) : bits .and .i64 n 3 = n % 4 := by
  have h127 : (BitVec.ofInt 64 3).toNat = 2 ^ 2 - 1 := by decide
  have key : (BitVec.ofInt 64 n &&& BitVec.ofInt 64 3).toNat = (n % ((2 ^ 64 : Nat) : Int)).toNat % 2 ^ 2 := by
    rw [BitVec.toNat_and, BitVec.toNat_ofInt, h127, Nat.and_two_pow_sub_one_eq_mod]
  show IntKind.i64.wrap ((BitVec.ofInt 64 n &&& BitVec.ofInt 64 3).toNat : Nat) = n % 4
  rw [key, IntKind.wrap_i64]
  omega
/-! Rows beside an epoch -/
/-- A row that is none of the epoch's. -/
structure Kp (w : World) (g a r s b n c : Nat) (xs : List Int) : Prop where mk ::
  (row : Row w 0 b n c xs)
  (ne : ¬ Its g a r s b)
section
variable {w w1 : World} {B g a a' r s b n c : Nat} {m : Int} {st : St} {xs : List Int}
theorem Kp.step (h : Kp w g a r s b n c xs) (hf : Fr (Its g a r s) w w1) (ha : a' = a ∨ w.heap.size ≤ a') : Kp w1 g a' r s b n c xs := by
  have hl := h.row.lt
  refine ⟨hf.own h.row (fun k e x => by obtain rfl : b = k := (by simpa [Value.ownBlock] using e); exact h.ne x), ?_⟩
  rintro (e | e | e | e)
  · exact h.ne (.inl e)
  · rcases ha with q | q
    · exact h.ne (.inr (.inl (e.trans q)))
    · omega
  · exact h.ne (.inr (.inr (.inl e)))
  · exact h.ne (.inr (.inr (.inr e)))
theorem Kp.below (h : Kp w g a r s b n c xs) (hb : Below w.heap.size w w1) : Kp w1 g a r s b n c xs := ⟨pw_own_below h.row hb, h.ne⟩
theorem Kp.new (hm : Mem 56 w B g a r s m st) (hr : Row w1 w.heap.size b n c xs) (ha : a' = a ∨ b ≠ a') : Kp w1 g a' r s b n c xs := by
  have hb := hr.base
  have l := hm.lt
  refine ⟨hr.reb (Nat.zero_le _), ?_⟩
  rintro (e | e | e | e)
  · have := l g (.inl rfl); omega
  · rcases ha with q | q
    · have := l a (.inr (.inl rfl)); omega
    · exact q e
  · have := l r (.inr (.inr (.inl rfl))); omega
  · have := l s (.inr (.inr (.inr rfl))); omega
theorem row_C {B b n c : Nat} {xs : List Int} (h : Row w B b n c xs) : Kd.C (Kd.int .i64) w (some ⟨b, 0, none⟩) n xs := Kd.C_of_reads (enc := Value.int .i64) (d := (0 : Int)) (row_reads h)
end
theorem row_lits {B : Nat} (W : World) (xs : List Int) (k : Nat) (hk : k = W.heap.size) (hB : B ≤ k) (hl : xs.length ≤ 1000) : Row (W.alloc (.cells (nums .i64 xs).toArray 3)) B k xs.length xs.length xs := by
  subst hk; exact own_lit W B 3 .i64 xs hB (by omega)
/-! Are two rows the same? -/
theorem same_l0 (xs ys : List Int) (hl : xs.length = ys.length) (hb : xs.length ≤ 1000000) : ∀ (d i k : Nat), xs.length = i + d → d < k → crosswayref11_SameInts.l0 k xs ys (i : Int) = some (decide (xs.drop i = ys.drop i)) := by
  intro d
  induction d with
  | zero =>
    intro i k h hk
    obtain ⟨k, rfl⟩ : ∃ k', k = k' + 1 := ⟨k - 1, by omega⟩
    rw [crosswayref11_SameInts.l0, if_neg (by omega), List.drop_eq_nil_of_le (by omega), List.drop_eq_nil_of_le (by omega)]
    simp
  | succ d ih =>
    intro i k h hk
    obtain ⟨k, rfl⟩ : ∃ k', k = k' + 1 := ⟨k - 1, by omega⟩
    have hx : rd xs (i : Int) = xs[i]'(by omega) := by simp [rd, List.getElem?_eq_getElem (show i < xs.length by omega)]
    have hy : rd ys (i : Int) = ys[i]'(by omega) := by simp [rd, List.getElem?_eq_getElem (show i < ys.length by omega)]
    have hw : wrap64 ((i : Int) + 1) = ((i + 1 : Nat) : Int) := by unfold wrap64; omega
    rw [crosswayref11_SameInts.l0, if_pos (by omega), if_pos (by omega), if_pos (by omega), hx, hy, hw, List.drop_eq_getElem_cons (show i < xs.length by omega), List.drop_eq_getElem_cons (l := ys) (i := i) (by omega)]
    by_cases e : xs[i]'(by omega) = ys[i]'(by omega)
    · rw [if_pos e, ih (i + 1) k (by omega) (by omega), e]
      congr 1
      rw [decide_eq_decide]
      exact ⟨fun q => by rw [q], fun q => (List.cons.inj q).2⟩
    · rw [if_neg e, decide_eq_false (fun q => e (List.cons.inj q).1)]
theorem same_eq (xs ys : List Int) (hb : xs.length ≤ 1000000) : crosswayref11_SameInts.f (xs.length + 1) xs ys = some (decide (xs = ys)) := by
  unfold crosswayref11_SameInts.f
  by_cases h : xs.length = ys.length
  · rw [if_pos (by omega)]
    exact same_l0 xs ys h hb xs.length 0 _ (by omega) (by omega)
  · rw [if_neg (by omega), decide_eq_false (fun q => h (by rw [q]))]
theorem same_calls (A0 A1 : Option Addr) (n0 c0 n1 c1 : Nat) (xs ys : List Int) (w : World) (hx : Kd.C (Kd.int .i64) w A0 n0 xs) (h0 : n0 ≤ c0) (hy : Kd.C (Kd.int .i64) w A1 n1 ys) (h1 : n1 ≤ c1) (hb : xs.length ≤ 1000000) :
    Calls Try.prog 13 #[.slice A0 n0 c0, .slice A1 n1 c1] w fun e w' => e = .returned (.bool (decide (xs = ys))) ∧ Drawn0 w w' := by
  obtain rfl : xs.length = n0 := hx.1
  obtain rfl : ys.length = n1 := hy.1
  exact crosswayref11_SameInts.calls (xs.length + 1) A0 c0 xs A1 c1 ys _ w hx h0 hy h1 (same_eq xs ys hb)
/-! The first calls -/
def e0 : St := St.made 2 5
def e1 : St := e0.enter 1
def e2 : St := e1.publish 6
def e3 : St := e2.enter 2
def e4 : St := e3.publish 7
def e5 : St := e4.leave 1
def e6 : St := e5.leave 2
def e7 : St := e6.publish 8
theorem o0 : Ok e0 := Ok.made (by decide) (by decide) 5
theorem o1 : Ok e1 := o0.enter 1
theorem o2 : Ok e2 := o1.publish 6
theorem o3 : Ok e3 := o2.enter 2
theorem o4 : Ok e4 := o3.publish 7
theorem o5 : Ok e5 := o4.leave 1
theorem o6 : Ok e6 := o5.leave 2
theorem o7 : Ok e7 := o6.publish 8
set_option maxHeartbeats 2000000 in
set_option maxRecDepth 100000 in
theorem awake_calls (w : World) : Calls Try.prog 8 #[] w fun e w' => e = .returned (.bool true) ∧ Below w.heap.size w w' := by
  go_enter Try.func8, Try.ntmps8
  go_wp2_with fail
  refine (new_calls 2 5 w (by decide) (by decide)).mono ?_
  rintro e w1 ⟨g, a, r, s, rfl, hm, hb⟩
  have HM := Aside0.mk (show Mem 56 w1 w.heap.size g a r s 0 e0 from hm)
  have HB := Aside0.mk hb
  clear hm hb
  go_wp2_with fail
  refine (new_bad 17 0 w1 (by decide)).mono ?_
  rintro e w2 ⟨rfl, rfl⟩
  go_wp2_with fail
  refine (enter_calls HM.out o0 (by decide) 1).mono ?_
  rintro e w3 ⟨⟨v1, x1, rfl, h1⟩, hm, hf⟩
  obtain ⟨rfl, rfl⟩ : v1 = 5 ∧ x1 = 0 := by rcases h1 with h | h; exact ⟨h.2.1.trans (by decide), h.2.2⟩; exact absurd h.1 (by decide)
  replace HB := Aside0.mk (hf.below HB.out HB.out.size (fun k hk => (HM.out.lt k hk).1))
  replace HM := Aside0.mk (show Mem 56 w3 w.heap.size g a r s 0 e1 from hm)
  clear hm hf h1
  go_wp2_with fail
  refine (publish_calls HM.out HB.out.size o1 (by decide) 6).mono ?_
  rintro e w4 ⟨a4, q4, c4, rfl, hq, hm, hle, hqa, hf⟩
  rw [show e1.pubs 6 = [] by decide] at hq ⊢
  rw [show ([] : List Int).length = 0 from rfl] at hq ⊢
  replace HB := Aside0.mk (hf.below HB.out HB.out.size (fun k hk => (HM.out.lt k hk).1))
  replace HM := Aside0.mk (show Mem 56 w4 w.heap.size g a4 r s 0 e2 from hm)
  clear hq hm hle hqa hf
  go_wp2_with fail
  refine (enter_calls HM.out o2 (by decide) 2).mono ?_
  rintro e w5 ⟨⟨v5, x5, rfl, h1⟩, hm, hf⟩
  obtain ⟨rfl, rfl⟩ : v5 = 6 ∧ x5 = 0 := by rcases h1 with h | h; exact ⟨h.2.1.trans (by decide), h.2.2⟩; exact absurd h.1 (by decide)
  replace HB := Aside0.mk (hf.below HB.out HB.out.size (fun k hk => (HM.out.lt k hk).1))
  replace HM := Aside0.mk (show Mem 56 w5 w.heap.size g a4 r s 0 e3 from hm)
  clear hm hf h1
  go_wp2_with fail
  refine (publish_calls HM.out HB.out.size o3 (by decide) 7).mono ?_
  rintro e w6 ⟨a6, q6, c6, rfl, hq, hm, hle, hqa, hf⟩
  rw [show e3.pubs 7 = [] by decide] at hq ⊢
  rw [show ([] : List Int).length = 0 from rfl] at hq ⊢
  replace HB := Aside0.mk (hf.below HB.out HB.out.size (fun k hk => (HM.out.lt k hk).1))
  replace HM := Aside0.mk (show Mem 56 w6 w.heap.size g a6 r s 0 e4 from hm)
  clear hq hm hle hqa hf
  go_wp2_with fail
  refine (waiting_calls HM.out o4 (by decide)).mono ?_
  rintro e w7 ⟨q7, c7, rfl, hq, hm, hf0⟩
  rw [show e4.wait = [5, 6] by decide] at hq ⊢
  rw [show ([5, 6] : List Int).length = 2 from rfl] at hq ⊢
  have hf := frI (a := a6) (r := r) (s := s) hf0
  have KW := Aside0.mk (Kp.new HM.out hq (.inl rfl))
  replace HB := Aside0.mk (hf.below HB.out HB.out.size (fun k hk => (HM.out.lt k hk).1))
  replace HM := Aside0.mk (show Mem 56 w7 w.heap.size g a6 r s 0 e4 from hm)
  clear hq hm hf hf0
  go_wp2_with fail
  refine (leave_calls HM.out o4 (by decide) 1).mono ?_
  rintro e w8 ⟨a8, ⟨V, x8, rfl, h1⟩, hm, hf⟩
  rcases h1 with ⟨_, rfl, hle, q8, c8, rfl, hq, hqa⟩ | h1
  rotate_left
  · exact absurd h1.1 (by decide)
  rw [show e4.leaves 1 = [5] by decide] at hq ⊢
  rw [show ([5] : List Int).length = 1 from rfl] at hq ⊢
  have KN := Aside0.mk (Kp.new HM.out hq (.inr hqa))
  replace KW := Aside0.mk (KW.out.step hf (.inr (by have := hle; omega)))
  replace HB := Aside0.mk (hf.below HB.out HB.out.size (fun k hk => (HM.out.lt k hk).1))
  replace HM := Aside0.mk (show Mem 56 w8 w.heap.size g a8 r s 0 e5 from hm)
  clear hq hm hle hqa hf
  go_wp2_with fail
  refine (leave_calls HM.out o5 (by decide) 2).mono ?_
  rintro e w9 ⟨a9, ⟨V, x9, rfl, h1⟩, hm, hf⟩
  rcases h1 with ⟨_, rfl, hle, q9, c9, rfl, hq, hqa⟩ | h1
  rotate_left
  · exact absurd h1.1 (by decide)
  rw [show e5.leaves 2 = [6] by decide] at hq ⊢
  rw [show ([6] : List Int).length = 1 from rfl] at hq ⊢
  have KO := Aside0.mk (Kp.new HM.out hq (.inr hqa))
  replace KW := Aside0.mk (KW.out.step hf (.inr (by have := hle; omega)))
  replace KN := Aside0.mk (KN.out.step hf (.inr (by have := hle; omega)))
  replace HB := Aside0.mk (hf.below HB.out HB.out.size (fun k hk => (HM.out.lt k hk).1))
  replace HM := Aside0.mk (show Mem 56 w9 w.heap.size g a9 r s 0 e6 from hm)
  clear hq hm hle hqa hf
  go_wp2_with fail
  refine (publish_calls HM.out HB.out.size o6 (by decide) 8).mono ?_
  rintro e w10 ⟨a10, q10, c10, rfl, hq, hm, hle, hqa, hf⟩
  rw [show e6.pubs 8 = [7] by decide] at hq ⊢
  rw [show ([7] : List Int).length = 1 from rfl] at hq ⊢
  have KP := Aside0.mk (Kp.new HM.out hq (.inr hqa))
  replace KW := Aside0.mk (KW.out.step hf (.inr (by have := hle; omega)))
  replace KN := Aside0.mk (KN.out.step hf (.inr (by have := hle; omega)))
  replace KO := Aside0.mk (KO.out.step hf (.inr (by have := hle; omega)))
  replace HB := Aside0.mk (hf.below HB.out HB.out.size (fun k hk => (HM.out.lt k hk).1))
  replace HM := Aside0.mk (show Mem 56 w10 w.heap.size g a10 r s 0 e7 from hm)
  clear hq hm hle hqa hf
  go_wp2_with fail
  refine (same_calls (some ⟨q7, 0, none⟩) (some ⟨w10.heap.size, 0, none⟩) 2 c7 2 2 [5, 6] [5, 6] (w10.alloc (.cells #[.int .i64 5, .int .i64 6] 3)) (row_C (KW.out.below (below_alloc (Below.refl _ _) _)).row) KW.out.row.le.1 (row_C (B := 0) (row_lits w10 [5, 6] _ rfl (Nat.zero_le _) (by decide))) (Nat.le_refl _) (by decide)).mono ?_
  rintro e w11 ⟨rfl, hd⟩
  have hb : Below w10.heap.size w10 w11 := below_step (below_alloc (Below.refl _ _) _) hd.below
  rw [show (decide (([5, 6] : List Int) = [5, 6])) = true by decide]
  replace HB := Aside0.mk (below_step HB.out hb)
  replace HM := Aside0.mk (HM.out.keepBelow hb)
  replace KW := Aside0.mk (KW.out.below hb)
  replace KN := Aside0.mk (KN.out.below hb)
  replace KO := Aside0.mk (KO.out.below hb)
  replace KP := Aside0.mk (KP.out.below hb)
  clear hb hd
  go_wp2_with fail
  refine (seen_calls HM.out o7 1).mono ?_
  rintro e w12 ⟨rfl, hm, hf0⟩
  have hf := frI (a := a10) (r := r) (s := s) hf0
  rw [show e7.isIn 1 = false by decide, show e7.sees 1 = 0 by decide]
  replace KW := Aside0.mk (KW.out.step hf (.inl rfl))
  replace KN := Aside0.mk (KN.out.step hf (.inl rfl))
  replace KO := Aside0.mk (KO.out.step hf (.inl rfl))
  replace KP := Aside0.mk (KP.out.step hf (.inl rfl))
  replace HB := Aside0.mk (hf.below HB.out HB.out.size (fun k hk => (HM.out.lt k hk).1))
  replace HM := Aside0.mk (show Mem 56 w12 w.heap.size g a10 r s 0 e7 from hm)
  clear hm hf hf0
  go_wp2_with fail
  refine (same_calls (some ⟨q8, 0, none⟩) (some ⟨w12.heap.size, 0, none⟩) 1 c8 1 1 [5] [5] (w12.alloc (.cells #[.int .i64 5] 3)) (row_C (KN.out.below (below_alloc (Below.refl _ _) _)).row) KN.out.row.le.1 (row_C (B := 0) (row_lits w12 [5] _ rfl (Nat.zero_le _) (by decide))) (Nat.le_refl _) (by decide)).mono ?_
  rintro e w13 ⟨rfl, hd⟩
  have hb : Below w12.heap.size w12 w13 := below_step (below_alloc (Below.refl _ _) _) hd.below
  rw [show (decide (([5] : List Int) = [5])) = true by decide]
  replace HB := Aside0.mk (below_step HB.out hb)
  replace HM := Aside0.mk (HM.out.keepBelow hb)
  replace KW := Aside0.mk (KW.out.below hb)
  replace KN := Aside0.mk (KN.out.below hb)
  replace KO := Aside0.mk (KO.out.below hb)
  replace KP := Aside0.mk (KP.out.below hb)
  clear hb hd
  go_wp2_with fail
  refine (same_calls (some ⟨q9, 0, none⟩) (some ⟨w13.heap.size, 0, none⟩) 1 c9 1 1 [6] [6] (w13.alloc (.cells #[.int .i64 6] 3)) (row_C (KO.out.below (below_alloc (Below.refl _ _) _)).row) KO.out.row.le.1 (row_C (B := 0) (row_lits w13 [6] _ rfl (Nat.zero_le _) (by decide))) (Nat.le_refl _) (by decide)).mono ?_
  rintro e w14 ⟨rfl, hd⟩
  have hb : Below w13.heap.size w13 w14 := below_step (below_alloc (Below.refl _ _) _) hd.below
  rw [show (decide (([6] : List Int) = [6])) = true by decide]
  replace HB := Aside0.mk (below_step HB.out hb)
  replace HM := Aside0.mk (HM.out.keepBelow hb)
  replace KW := Aside0.mk (KW.out.below hb)
  replace KN := Aside0.mk (KN.out.below hb)
  replace KO := Aside0.mk (KO.out.below hb)
  replace KP := Aside0.mk (KP.out.below hb)
  clear hb hd
  go_wp2_with fail
  refine (same_calls (some ⟨q10, 0, none⟩) (some ⟨w14.heap.size, 0, none⟩) 1 c10 1 1 [7] [7] (w14.alloc (.cells #[.int .i64 7] 3)) (row_C (KP.out.below (below_alloc (Below.refl _ _) _)).row) KP.out.row.le.1 (row_C (B := 0) (row_lits w14 [7] _ rfl (Nat.zero_le _) (by decide))) (Nat.le_refl _) (by decide)).mono ?_
  rintro e w15 ⟨rfl, hd⟩
  have hb : Below w14.heap.size w14 w15 := below_step (below_alloc (Below.refl _ _) _) hd.below
  rw [show (decide (([7] : List Int) = [7])) = true by decide]
  replace HB := Aside0.mk (below_step HB.out hb)
  replace HM := Aside0.mk (HM.out.keepBelow hb)
  replace KW := Aside0.mk (KW.out.below hb)
  replace KN := Aside0.mk (KN.out.below hb)
  replace KO := Aside0.mk (KO.out.below hb)
  replace KP := Aside0.mk (KP.out.below hb)
  clear hb hd
  go_wp2_with fail
  refine (current_calls HM.out o7 (by decide)).mono ?_
  rintro e w16 ⟨rfl, hm, hf0⟩
  have hf := frI (a := a10) (r := r) (s := s) hf0
  rw [show e7.cur = 8 by decide]
  replace KW := Aside0.mk (KW.out.step hf (.inl rfl))
  replace KN := Aside0.mk (KN.out.step hf (.inl rfl))
  replace KO := Aside0.mk (KO.out.step hf (.inl rfl))
  replace KP := Aside0.mk (KP.out.step hf (.inl rfl))
  replace HB := Aside0.mk (hf.below HB.out HB.out.size (fun k hk => (HM.out.lt k hk).1))
  replace HM := Aside0.mk (show Mem 56 w16 w.heap.size g a10 r s 0 e7 from hm)
  clear hm hf hf0
  go_wp2_with fail
  go_ret
  exact ⟨rfl, HB.out⟩
end Go.Proofs.Ytmepodmcmpndoaa.WEp
