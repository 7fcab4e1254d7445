/- Functions of the program as Lean functions, each with a proof that a call comes to what it says. Conditions: those of each theorem. Laid by a program of this session. -/
import Derived.Test.YtedampcicmaamaaPBasex0
namespace Go.Proofs.Ytedampcicmaamaa.PBase
open Go.RowKit Go.Proofs.Ytedampcicmaamaa Go.Proofs.YtedampcicmaamaaW.PrintWords Go.Proofs.YtedampcicmaamaaW.PrintLast Go.Proofs.YtedampcicmaamaaW.PrintMore
attribute [local go_sem] max2_int min2_int max_two min_two max_three min_three max_four min_four   -- for this text's walks alone
set_option linter.unusedVariables false
set_option linter.unusedSimpArgs false

/-! ### ip4_Options: function 15 (by hand) -/
/-- A way out of a scope: by a goto to label l: J l; by any other: as Q. -/
def Jumps (J : Nat → Act → World → Prop) (Q : Exit → Act → World → Prop) : Exit → Act → World → Prop
 | .goto l, a, w => J l a w
 | e, a, w => Q e a w
theorem Jumps_ret (J : Nat → Act → World → Prop) (Q : Exit → Act → World → Prop) (a : Act) (w : World) : Jumps J Q .ret a w = Q .ret a w := rfl
theorem Jumps_goto (J : Nat → Act → World → Prop) (Q : Exit → Act → World → Prop) (l : Nat) (a : Act) (w : World) : Jumps J Q (.goto l) a w = J l a w := rfl
/-- A scope of several labels: what holds at each jump, by a measure that every jump lowers; the way to the first label is told apart. -/
theorem wp_scope_labels {P : Program} {c rest0 : Code} {Q : Exit → Act → World → Prop} {a a0 : Act} {w w0 : World} (J : Nat → Nat → Act → World → Prop) (g0 l0 : Nat) (h0 : findLabel c l0 = some (Code.skip.seq rest0))
  (first : ∀ X : Exit → Act → World → Prop, rest0.wp P X a0 w0 → c.wp P X a w) (hJ : J g0 l0 a0 w0)
  (pass : ∀ g l a w, J g l a w → ∃ rest, findLabel c l = some (Code.skip.seq rest) ∧ rest.wp P (Jumps (fun l2 a2 w2 => ∃ g2, g2 < g ∧ J g2 l2 a2 w2) Q) a w) : (Code.scope c).wp P Q a w := by
 intro b k cs
 have out : ∀ g, (∀ g2, g2 < g → ∀ l a w, J g2 l a w → ∃ rest, findLabel c l = some rest ∧ ∃ e a1 w1, Q e a1 w1 ∧ Arrives P (lone (b.at a (.code rest :: .inScope c :: k)) cs w) b k cs e a1 w1) →
   ∀ m, (∃ e a1 w1, Jumps (fun l2 a2 w2 => ∃ g2, g2 < g ∧ J g2 l2 a2 w2) Q e a1 w1 ∧ Arrives P m b (.inScope c :: k) cs e a1 w1) → ∃ e a1 w1, Q e a1 w1 ∧ Arrives P m b k cs e a1 w1 := by
  rintro g hg m ⟨e, a1, w1, hq, har⟩
  cases e with
  | goto l2 =>
   obtain ⟨g2, hlt, hj2⟩ := hq
   obtain ⟨rest2, hr2, e2, a2, w2, hq2, har2⟩ := hg g2 hlt l2 a1 w1 hj2
   exact ⟨e2, a2, w2, hq2, .of_steps (har _ (by simp [gotoIn, hr2])) har2⟩
  | normal => exact ⟨.normal, a1, w1, hq, Steps.trans har (.one step_inScope)⟩
  | exit id => exact ⟨.exit id, a1, w1, hq, fun k2 hk => har k2 (by simp [exitTo, hk])⟩
  | ret => exact ⟨_, a1, w1, hq, har⟩
  | panic ch => exact ⟨_, a1, w1, hq, har⟩
  | outgrown => exact ⟨_, a1, w1, hq, har⟩
 have run : ∀ g l a w, J g l a w → ∃ rest, findLabel c l = some rest ∧ ∃ e a1 w1, Q e a1 w1 ∧ Arrives P (lone (b.at a (.code rest :: .inScope c :: k)) cs w) b k cs e a1 w1 := by
  intro g
  induction g using Nat.strongRecOn with
  | _ g ih =>
   intro l a w hj
   obtain ⟨rest, hr, hw⟩ := pass g l a w hj
   exact ⟨_, hr, out g (fun g2 hlt l a w => ih g2 hlt l a w) _ (wp_seq (wp_skip hw) b (.inScope c :: k) cs)⟩
 obtain ⟨rest, hr, hw⟩ := pass g0 l0 a0 w0 hJ
 obtain rfl : rest0 = rest := by have e := Option.some.inj (h0.symm.trans hr); injection e
 obtain ⟨e, a1, w1, hq, har⟩ := out g0 (fun g2 _ l a w => run g2 l a w) _ (first _ hw b (.inScope c :: k) cs)
 exact ⟨e, a1, w1, hq, .of_steps (.one step_scope) har⟩

/-- The options that stand from a place on. -/
def ip4_Options.l (s : ByteArray) : Nat → List S44 → Int → Option (List S44 × Int)
 | 0, _, _ => none
 | k + 1, out, at_ => if at_ = (s.size : Int) then some (out, 0) else if bt s at_ = 0 then some (out, 0) else
   if bt s at_ = 1 then ip4_Options.l s k (out ++ [(⟨1, ⟨#[]⟩⟩ : S44)]) (at_ + 1) else
   if at_ + 1 = (s.size : Int) then some ([], 50) else
   if bt s (at_ + 1) < 2 then some ([], 50) else if (s.size : Int) - at_ < bt s (at_ + 1) then some ([], 50) else
   ip4_Options.l s k (out ++ [(⟨bt s at_, s.extract (at_ + 2).toNat (at_ + bt s (at_ + 1)).toNat⟩ : S44)]) (at_ + bt s (at_ + 1))
def ip4_Options.f (a0 : ByteArray) : Option (List S44 × Int) := if a0.size ≤ 1099511627776 then ip4_Options.l a0 (a0.size + 1) [] 0 else none
/-- What holds at the labels. -/
def ip4_Options.J (s : ByteArray) (r : List S44 × Int) (w0 : World) (g l : Nat) (a : Act) (w : World) : Prop :=
 ∃ (at_ : Int) (out : List S44) (v4 v6 v7 u8 u9 u10 u11 u12 u13 u14 u15 u16 u17 u18 u19 u20 u21 u22 u23 u24 u25 u26 u27 u28 u29 u30 u31 u32 u33 u34 u35 u36 u37 u38 u39 u40 u41 u42 u43 u44 u45 u46 u47 u48 u49 u50 u51 u52 u53 u54 u55 u56 u57 u58 u59 u60 u61 : Value), a = { tmps := #[.string s, undef, .slice none 0 0, .int .i64 0, v4, .int .i64 at_, v6, v7, u8, u9, u10, u11, u12, u13, u14, u15, u16, u17, u18, u19, u20, u21, u22, u23, u24, u25, u26, u27, u28, u29, u30, u31, u32, u33, u34, u35, u36, u37, u38, u39, u40, u41, u42, u43, u44, u45, u46, u47, u48, u49, u50, u51, u52, u53, u54, u55, u56, u57, u58, u59, u60, u61], defers := [] } ∧
  ((l = 1 ∧ ip4_Options.l s g out at_ = some r) ∨ (l = 2 ∧ r = ([], 50)) ∨ (l = 0 ∧ r = (out, 0))) ∧ ((out.length : Int) ≤ at_ ∧ 0 ≤ at_ ∧ at_ ≤ (s.size : Int)) ∧ Kd.R k44 44 w w0.heap.size (fun _ => True) v4 out ∧ Below w0.heap.size w0 w
set_option maxHeartbeats 4000000 in
set_option maxRecDepth 100000 in
theorem ip4_Options.calls (a0 : ByteArray) (r1 : List S44) (r2 : Int) (w : World) (h : ip4_Options.f a0 = some (r1, r2)) :
  Calls Try.prog 15 #[.string a0] w fun e w' => ∃ v0_ : Value, e = .returned (.tuple #[v0_, .int .i64 r2]) ∧ Kd.R k44 44 w' w.heap.size (fun _ => True) v0_ r1 ∧ Below w.heap.size w w' := by
 unfold ip4_Options.f at h
 by_cases hs : a0.size ≤ 1099511627776
 case neg => rw [if_neg hs] at h; cases h
 rw [if_pos hs] at h
 have HS := Aside0.mk hs
 have H := Aside0.mk h
 clear h hs
 go_enter Try.func15, Try.ntmps15
 go_wp2
 apply wp_scope_labels (ip4_Options.J a0 (r1, r2) w) (a0.size + 1) 1 rfl
 · intro X hX
   go_wp2
   go_step3
   rename_i hK
   exact hK _ _ hX
 · exact ⟨_, [], _, _, _, _, _, _, _, _, _, _, _, _, _, _, _, _, _, _, _, _, _, _, _, _, _, _, _, _, _, _, _, _, _, _, _, _, _, _, _, _, _, _, _, _, _, _, _, _, _, _, _, _, _, _, _, _, _, rfl, .inl ⟨rfl, H.out⟩, ⟨by simp, by omega, by omega⟩, Kd.R_nil _ _ _ _ _, Below.refl _ _⟩
 · rintro g l a w1 ⟨at_, out, v4, v6, v7, u8, u9, u10, u11, u12, u13, u14, u15, u16, u17, u18, u19, u20, u21, u22, u23, u24, u25, u26, u27, u28, u29, u30, u31, u32, u33, u34, u35, u36, u37, u38, u39, u40, u41, u42, u43, u44, u45, u46, u47, u48, u49, u50, u51, u52, u53, u54, u55, u56, u57, u58, u59, u60, u61, rfl, hl, ⟨hlen, h0, h1⟩, ho, hb⟩
   have HO := Aside0.mk ho
   have HB := Aside0.mk hb
   clear ho hb H
   rcases hl with ⟨rfl, hl⟩ | ⟨rfl, hl⟩ | ⟨rfl, hl⟩
   · refine ⟨_, rfl, ?_⟩
     cases g with
     | zero => simp [ip4_Options.l] at hl
     | succ g =>
      rw [ip4_Options.l] at hl
      obtain ⟨A8, c8, rfl⟩ := Kd.R_slice HO.out
      by_cases ce : at_ = (a0.size : Int)
      · rw [if_pos ce] at hl
        have HL := Aside0.mk hl
        have t0 : (at_ == (a0.size : Int)) = true := by simpa using ce
        clear hl ce HS
        go_wp2
        go_step3
        exact ⟨0, Nat.succ_pos _, at_, out, _, _, _, _, _, _, _, _, _, _, _, _, _, _, _, _, _, _, _, _, _, _, _, _, _, _, _, _, _, _, _, _, _, _, _, _, _, _, _, _, _, _, _, _, _, _, _, _, _, _, _, _, _, _, _, _, _, rfl, .inr (.inr ⟨rfl, (Option.some.inj HL.out).symm⟩), ⟨hlen, h0, h1⟩, HO.out, HB.out⟩
      rw [if_neg ce] at hl
      have t0 : (at_ == (a0.size : Int)) = false := by simpa using ce
      have hb3 := (bt_range a0 at_).1
      have hb4 := (bt_range a0 at_).2
      have hx0 := bt_at a0 at_
      have p0 : (0 ≤ at_) = True := eq_true (by omega)
      have q0 : (at_ < (a0.size : Int)) = True := eq_true (by omega)
      by_cases c0 : bt a0 at_ = 0
      · rw [if_pos c0] at hl
        have HL := Aside0.mk hl
        have t1 : (bt a0 at_ == 0) = true := by simpa using c0
        clear hl ce c0 HS
        go_wp2
        go_step3
        exact ⟨0, Nat.succ_pos _, at_, out, _, _, _, _, _, _, _, _, _, _, _, _, _, _, _, _, _, _, _, _, _, _, _, _, _, _, _, _, _, _, _, _, _, _, _, _, _, _, _, _, _, _, _, _, _, _, _, _, _, _, _, _, _, _, _, _, _, rfl, .inr (.inr ⟨rfl, (Option.some.inj HL.out).symm⟩), ⟨hlen, h0, h1⟩, HO.out, HB.out⟩
      rw [if_neg c0] at hl
      have t1 : (bt a0 at_ == 0) = false := by simpa using c0
      by_cases c1 : bt a0 at_ = 1
      · rw [if_pos c1] at hl
        have HL := Aside0.mk hl
        have t2 : (bt a0 at_ == 1) = true := by simpa using c1
        have hs := HS.out
        clear hl c0 c1 HS
        go_wp2_with (first | ((with_reducible refine gate_builtin (b := .append) (xs := #[.tmp 20, .tmp 22]) rfl ?_); at_builtin; refine Kd.R_append k44 (w0 := w) w.heap.size rfl (.tmp 20) (.tmp 22) 36 44 (.agg #[(.int .i64 0), (.string ⟨#[]⟩)]) 24 rfl Try.underlying36 info44 rfl (by decide) (by omega) (.slice A8 out.length c8) out (⟨1, ⟨#[]⟩⟩ : S44) [.int .i64 1, .string ⟨#[]⟩] (fun _ => True) (fun _ => False) rfl rfl ?aP (fun _ hk => hk.elim) ?aF ?aO ?aB ?aS ?aL ?_; (case aP => exact k44_mkM _ _ _ _); (case aB => exact (sh_B HB)); (case aF => exact (fun _ _ => trivial)); (case aO => exact (by (with_reducible repeat (first | apply Kd.R_alloc | apply Kd.R_drewN | apply Kd.R_drew)); exact HO.out)); (case aS => exact (below_size (sh_B HB))); (case aL => omega); intro v2 w2 ho hb hg hat; have HO2 := Aside0.mk ho; have HB2 := Aside0.mk hb; clear HO HB ho hb hg hat))
        go_step3
        exact ⟨g, Nat.lt_succ_self _, at_ + 1, out ++ [(⟨1, ⟨#[]⟩⟩ : S44)], v2, _, _, _, _, _, _, _, _, _, _, _, _, _, _, _, _, _, _, _, _, _, _, _, _, _, _, _, _, _, _, _, _, _, _, _, _, _, _, _, _, _, _, _, _, _, _, _, _, _, _, _, _, _, _, _, _, rfl, .inl ⟨rfl, HL.out⟩, ⟨by simp; omega, by omega, by omega⟩, HO2.out, HB2.out⟩
      rw [if_neg c1] at hl
      have t2 : (bt a0 at_ == 1) = false := by simpa using c1
      by_cases c2 : at_ + 1 = (a0.size : Int)
      · rw [if_pos c2] at hl
        have HL := Aside0.mk hl
        have t3 : (at_ + 1 == (a0.size : Int)) = true := by simpa using c2
        have hs := HS.out
        clear hl c2 HS ce c0 c1
        go_wp2
        go_step3
        exact ⟨0, Nat.succ_pos _, at_, out, _, _, _, _, _, _, _, _, _, _, _, _, _, _, _, _, _, _, _, _, _, _, _, _, _, _, _, _, _, _, _, _, _, _, _, _, _, _, _, _, _, _, _, _, _, _, _, _, _, _, _, _, _, _, _, _, _, rfl, .inr (.inl ⟨rfl, (Option.some.inj HL.out).symm⟩), ⟨hlen, h0, h1⟩, HO.out, HB.out⟩
      rw [if_neg c2] at hl
      have t3 : (at_ + 1 == (a0.size : Int)) = false := by simpa using c2
      have hb1 := (bt_range a0 (at_ + 1)).1
      have hb2 := (bt_range a0 (at_ + 1)).2
      have hx1 := bt_at a0 (at_ + 1)
      have p1 : (0 ≤ at_ + 1) = True := eq_true (by omega)
      have q1 : (at_ + 1 < (a0.size : Int)) = True := eq_true (by omega)
      by_cases c3 : bt a0 (at_ + 1) < 2
      · rw [if_pos c3] at hl
        have HL := Aside0.mk hl
        have hs := HS.out
        clear hl c2 HS ce c0 c1
        go_wp2
        go_step3
        exact ⟨0, Nat.succ_pos _, at_, out, _, _, _, _, _, _, _, _, _, _, _, _, _, _, _, _, _, _, _, _, _, _, _, _, _, _, _, _, _, _, _, _, _, _, _, _, _, _, _, _, _, _, _, _, _, _, _, _, _, _, _, _, _, _, _, _, _, rfl, .inr (.inl ⟨rfl, (Option.some.inj HL.out).symm⟩), ⟨hlen, h0, h1⟩, HO.out, HB.out⟩
      rw [if_neg c3] at hl
      by_cases c4 : (a0.size : Int) - at_ < bt a0 (at_ + 1)
      · rw [if_pos c4] at hl
        have HL := Aside0.mk hl
        have hs := HS.out
        clear hl c2 HS ce c0 c1
        go_wp2
        go_step3
        exact ⟨0, Nat.succ_pos _, at_, out, _, _, _, _, _, _, _, _, _, _, _, _, _, _, _, _, _, _, _, _, _, _, _, _, _, _, _, _, _, _, _, _, _, _, _, _, _, _, _, _, _, _, _, _, _, _, _, _, _, _, _, _, _, _, _, _, _, rfl, .inr (.inl ⟨rfl, (Option.some.inj HL.out).symm⟩), ⟨hlen, h0, h1⟩, HO.out, HB.out⟩
      rw [if_neg c4] at hl
      have HL := Aside0.mk hl
      have hs := HS.out
      have p2 : (0 ≤ at_ + 2) = True := eq_true (by omega)
      have q2 : (at_ + 2 ≤ at_ + bt a0 (at_ + 1)) = True := eq_true (by omega)
      have q3 : (at_ + bt a0 (at_ + 1) ≤ (a0.size : Int)) = True := eq_true (by omega)
      clear hl c2 HS ce c0 c1
      go_wp2_with (first | ((with_reducible refine gate_builtin (b := .append) (xs := #[.tmp 46, .tmp 56]) rfl ?_); at_builtin; refine Kd.R_append k44 (w0 := w) w.heap.size rfl (.tmp 46) (.tmp 56) 36 44 (.agg #[(.int .i64 0), (.string ⟨#[]⟩)]) 24 rfl Try.underlying36 info44 rfl (by decide) (by omega) (.slice A8 out.length c8) out (⟨bt a0 at_, a0.extract (at_ + 2).toNat (at_ + bt a0 (at_ + 1)).toNat⟩ : S44) [.int .i64 (bt a0 at_), .string (a0.extract (at_ + 2).toNat (at_ + bt a0 (at_ + 1)).toNat)] (fun _ => True) (fun _ => False) rfl rfl ?aP (fun _ hk => hk.elim) ?aF ?aO ?aB ?aS ?aL ?_; (case aP => exact k44_mkM _ _ _ _); (case aB => exact (sh_B HB)); (case aF => exact (fun _ _ => trivial)); (case aO => exact (by (with_reducible repeat (first | apply Kd.R_alloc | apply Kd.R_drewN | apply Kd.R_drew)); exact HO.out)); (case aS => exact (below_size (sh_B HB))); (case aL => omega); intro v2 w2 ho hb hg hat; have HO2 := Aside0.mk ho; have HB2 := Aside0.mk hb; clear HO HB ho hb hg hat))
      go_step3
      exact ⟨g, Nat.lt_succ_self _, at_ + bt a0 (at_ + 1), out ++ [(⟨bt a0 at_, a0.extract (at_ + 2).toNat (at_ + bt a0 (at_ + 1)).toNat⟩ : S44)], v2, _, _, _, _, _, _, _, _, _, _, _, _, _, _, _, _, _, _, _, _, _, _, _, _, _, _, _, _, _, _, _, _, _, _, _, _, _, _, _, _, _, _, _, _, _, _, _, _, _, _, _, _, _, _, _, _, rfl, .inl ⟨rfl, HL.out⟩, ⟨by simp; omega, by omega, by omega⟩, HO2.out, HB2.out⟩
   · injection hl with e1 e2
     subst e1 e2
     refine ⟨_, rfl, ?_⟩
     go_wp2
     rw [Jumps_ret]
     refine bodyPost_ret (results_list (rs := [.tmp 2, .tmp 3]) rfl (by simp) (.tmp (.tmp .nil))) rfl ?_
     exact ⟨_, rfl, Kd.R_nil _ _ _ _ _, HB.out⟩
   · injection hl with e1 e2
     subst e1 e2
     refine ⟨_, rfl, ?_⟩
     go_wp2
     rw [Jumps_ret]
     refine bodyPost_ret (results_list (rs := [.tmp 2, .tmp 3]) rfl (by simp) (.tmp (.tmp .nil))) rfl ?_
     exact ⟨_, rfl, HO.out, HB.out⟩

/-! ### ip4_within: function 35 -/
def ip4_within.f (a0 : Int) (a1 : Int) : Option (Bool) := if a0 ≥ 0 then (some (decide (a0 ≤ a1))) else (some false)
set_option maxHeartbeats 8000000 in
set_option maxRecDepth 100000 in
theorem ip4_within.calls (a0 : Int) (a1 : Int) (r : Bool) (w : World) (h : ip4_within.f a0 a1 = some r) :
  Calls Try.prog 35 #[.int .i64 a0, .int .i64 a1] w fun e w' => e = .returned (.bool r) ∧ Drawn0 w w' := by
 have H : (if a0 ≥ 0 then (some (decide (a0 ≤ a1))) else (some false)) = some r := h
 clear h
 by_cases c3 : a0 ≥ 0
 ·
  rw [if_pos c3] at H
  have c3b0 : decide (0 ≤ a0) = true := decide_eq_true c3
  clear c3
  obtain rfl := Option.some.inj H
  go_enter Try.func35, Try.ntmps35
  go_wp2
  go_ret
  exact ⟨by first | rfl | (simp; done) | (simp [*]; done), by repeat (first | exact Drawn0.refl _ | apply Drawn0.step)⟩
 ·
  rw [if_neg c3] at H
  have c3b0 : decide (0 ≤ a0) = false := decide_eq_false c3
  clear c3
  obtain rfl := Option.some.inj H
  go_enter Try.func35, Try.ntmps35
  go_wp2
  go_ret
  exact ⟨by first | rfl | (simp; done) | (simp [*]; done), by repeat (first | exact Drawn0.refl _ | apply Drawn0.step)⟩

/-! ### addr_Valid: function 47 -/
def addr_Valid.f (a0_0 : Bool) (a0_1 : Int) (a0_2 : Int) : Option (Bool) := if a0_0 = true then (some true) else (if a0_1 = 0 then (some (decide (a0_2 < 4294967296))) else (some false))
set_option maxHeartbeats 8000000 in
set_option maxRecDepth 100000 in
theorem addr_Valid.calls (a0_0 : Bool) (a0_1 : Int) (a0_2 : Int) (r : Bool) (w : World) (h : addr_Valid.f a0_0 a0_1 a0_2 = some r) :
  Calls Try.prog 47 #[.agg #[.bool a0_0, .int .u64 a0_1, .int .u64 a0_2]] w fun e w' => e = .returned (.bool r) ∧ Below w.heap.size w w' := by
 have hu24 := Try.underlying24
 have HB := Aside0.mk (Below.refl w.heap.size w)
 have H : (if a0_0 = true then (some true) else (if a0_1 = 0 then (some (decide (a0_2 < 4294967296))) else (some false))) = some r := h
 clear h
 by_cases c2 : a0_0 = true
 ·
  subst c2
  rw [if_pos rfl] at H
  obtain rfl := Option.some.inj H
  go_enter Try.func47, Try.ntmps47
  go_wp2_with (first | ((with_reducible refine gate_dst (N := 1) rfl ?_); refine sh_E 1 24 #[.bool true, .int .u64 a0_1, .int .u64 a0_2] ?_; intro gb101 hg w3 hbox hb; have BK101 := Aside0.mk hbox; have GW101 := sh_G HB hg; have GE101 := GW101; replace HB := sh_S HB hb; clear hb hbox hg; obtain ⟨hcz4_0, hcz4_1, hcz4_2⟩ := MBlk.c3 BK101.out; obtain ⟨hfz4_0, hfz4_1, hfz4_2⟩ := MBlk.f3 BK101.out))
  go_ret
  exact ⟨by first | rfl | (simp [errW_none, errW_some] <;> rfl) | (simp [*, errW_none, errW_some] <;> rfl), by repeat (first | (with_reducible first | exact HB.out | apply below_alloc | apply pw_below_drewN | apply below_drew1 | refine below_set ?_ GE101.out) | exact HB.out)⟩
 ·
  replace c2 := Bool.eq_false_iff.mpr c2
  subst c2
  rw [if_neg (show ¬ (false = true) by decide)] at H
  by_cases c5 : a0_1 = 0
  ·
   rw [if_pos c5] at H
   have c5b0 : (a0_1 == 0) = true := beq_iff_eq.mpr c5
   have c5b1 : (a0_1 != 0) = false := bne_eq_false_iff_eq.mpr c5
   clear c5
   obtain rfl := Option.some.inj H
   go_enter Try.func47, Try.ntmps47
   go_wp2_with (first | ((with_reducible refine gate_dst (N := 1) rfl ?_); refine sh_E 1 24 #[.bool false, .int .u64 a0_1, .int .u64 a0_2] ?_; intro gb101 hg w6 hbox hb; have BK101 := Aside0.mk hbox; have GW101 := sh_G HB hg; have GE101 := GW101; replace HB := sh_S HB hb; clear hb hbox hg; obtain ⟨hcz7_0, hcz7_1, hcz7_2⟩ := MBlk.c3 BK101.out; obtain ⟨hfz7_0, hfz7_1, hfz7_2⟩ := MBlk.f3 BK101.out))
   go_ret
   exact ⟨by first | rfl | (simp [errW_none, errW_some] <;> rfl) | (simp [*, errW_none, errW_some] <;> rfl), by repeat (first | (with_reducible first | exact HB.out | apply below_alloc | apply pw_below_drewN | apply below_drew1 | refine below_set ?_ GE101.out) | exact HB.out)⟩
  ·
   rw [if_neg c5] at H
   have c5b0 : (a0_1 == 0) = false := beq_eq_false_iff_ne.mpr c5
   have c5b1 : (a0_1 != 0) = true := bne_iff_ne.mpr c5
   obtain rfl := Option.some.inj H
   go_enter Try.func47, Try.ntmps47
   go_wp2_with (first | ((with_reducible refine gate_dst (N := 1) rfl ?_); refine sh_E 1 24 #[.bool false, .int .u64 a0_1, .int .u64 a0_2] ?_; intro gb101 hg w8 hbox hb; have BK101 := Aside0.mk hbox; have GW101 := sh_G HB hg; have GE101 := GW101; replace HB := sh_S HB hb; clear hb hbox hg; obtain ⟨hcz9_0, hcz9_1, hcz9_2⟩ := MBlk.c3 BK101.out; obtain ⟨hfz9_0, hfz9_1, hfz9_2⟩ := MBlk.f3 BK101.out))
   go_ret
   exact ⟨by first | rfl | (simp [errW_none, errW_some] <;> rfl) | (simp [*, errW_none, errW_some] <;> rfl), by repeat (first | (with_reducible first | exact HB.out | apply below_alloc | apply pw_below_drewN | apply below_drew1 | refine below_set ?_ GE101.out) | exact HB.out)⟩

/-! ### ip4_four: function 36 -/
def ip4_four.f (a0_0 : Bool) (a0_1 : Int) (a0_2 : Int) : Option (Bool) := if a0_0 = true then (some false) else ((addr_Valid.f a0_0 a0_1 a0_2).bind fun t103 => (some t103))
set_option maxHeartbeats 8000000 in
set_option maxRecDepth 100000 in
theorem ip4_four.calls (a0_0 : Bool) (a0_1 : Int) (a0_2 : Int) (r : Bool) (w : World) (h : ip4_four.f a0_0 a0_1 a0_2 = some r) :
  Calls Try.prog 36 #[.agg #[.bool a0_0, .int .u64 a0_1, .int .u64 a0_2]] w fun e w' => e = .returned (.bool r) ∧ Below w.heap.size w w' := by
 have hu24 := Try.underlying24
 have HB := Aside0.mk (Below.refl w.heap.size w)
 have H : (if a0_0 = true then (some false) else ((addr_Valid.f a0_0 a0_1 a0_2).bind fun t103 => (some t103))) = some r := h
 clear h
 by_cases c2 : a0_0 = true
 ·
  subst c2
  rw [if_pos rfl] at H
  obtain rfl := Option.some.inj H
  go_enter Try.func36, Try.ntmps36
  go_wp2_with (first | ((with_reducible refine gate_dst (N := 1) rfl ?_); refine sh_E 1 24 #[.bool true, .int .u64 a0_1, .int .u64 a0_2] ?_; intro gb102 hg w3 hbox hb; have BK102 := Aside0.mk hbox; have GW102 := sh_G HB hg; have GE102 := GW102; replace HB := sh_S HB hb; clear hb hbox hg; obtain ⟨hcz4_0, hcz4_1, hcz4_2⟩ := MBlk.c3 BK102.out; obtain ⟨hfz4_0, hfz4_1, hfz4_2⟩ := MBlk.f3 BK102.out))
  go_ret
  exact ⟨by first | rfl | (simp [errW_none, errW_some] <;> rfl) | (simp [*, errW_none, errW_some] <;> rfl), by repeat (first | (with_reducible first | exact HB.out | apply below_alloc | apply pw_below_drewN | apply below_drew1 | refine below_set ?_ GE102.out) | exact HB.out)⟩
 ·
  replace c2 := Bool.eq_false_iff.mpr c2
  subst c2
  rw [if_neg (show ¬ (false = true) by decide)] at H
  replace H := Option.bind_eq_some_iff.mp H
  obtain ⟨t103, A50, H⟩ := H
  have A5 := Aside0.mk A50
  clear A50
  obtain rfl := Option.some.inj H
  go_enter Try.func36, Try.ntmps36
  go_wp2_with (first | ((with_reducible refine gate_dst (N := 1) rfl ?_); refine sh_E 1 24 #[.bool false, .int .u64 a0_1, .int .u64 a0_2] ?_; intro gb102 hg w6 hbox hb; have BK102 := Aside0.mk hbox; have GW102 := sh_G HB hg; have GE102 := GW102; replace HB := sh_S HB hb; clear hb hbox hg; obtain ⟨hcz7_0, hcz7_1, hcz7_2⟩ := MBlk.c3 BK102.out; obtain ⟨hfz7_0, hfz7_1, hfz7_2⟩ := MBlk.f3 BK102.out) | (go_at_call 47; (with_reducible refine (addr_Valid.calls false a0_1 a0_2 t103 _ A5.out).mono ?_); rintro e w8 ⟨rfl, hb⟩; replace BK102 := sh_L BK102 hb; replace HB := sh_S HB hb; (try clear hb); (try clear hb2); (try clear hk); (try clear hi)))
  go_ret
  exact ⟨by first | rfl | (simp [errW_none, errW_some] <;> rfl) | (simp [*, errW_none, errW_some] <;> rfl), by repeat (first | (with_reducible first | exact HB.out | apply below_alloc | apply pw_below_drewN | apply below_drew1 | refine below_set ?_ GE102.out) | exact HB.out)⟩

/-! ### ip4_may: function 21 -/
def ip4_may.f (a0_0 : Int) (a0_1 : Int) (a0_2 : Bool) (a0_3 : Bool) (a0_4 : Int) (a0_5 : Int) (a0_6 : Int) (a0_7 : Bool) (a0_8 : Int) (a0_9 : Int) (a0_10 : Bool) (a0_11 : Int) (a0_12 : Int) (a0_13 : ByteArray) (a0_14 : ByteArray) : Option (Bool) := (ip4_Options.f a0_13).bind fun bt105 => ((ip4_within.f a0_0 255).bind fun t109 => (if t109 = true then ((ip4_within.f a0_5 255).bind fun t110 => (if t110 = true then ((ip4_within.f a0_6 255).bind fun t111 => (if t111 = true then ((ip4_within.f a0_1 65535).bind fun t112 => (if t112 = true then ((ip4_within.f a0_4 8191).bind fun t113 => (if t113 = true then ((ip4_four.f a0_7 a0_8 a0_9).bind fun t114 => (if t114 = true then ((ip4_four.f a0_10 a0_11 a0_12).bind fun t115 => (if t115 = true then (if (a0_13.size : Int) ≤ 40 then (if ((a0_13.size : Int) % 4) = 0 then (some (bt105.2 == 0)) else (some false)) else (some false)) else (some false))) else (some false))) else (some false))) else (some false))) else (some false))) else (some false))) else (some false)))
set_option maxHeartbeats 8000000 in
set_option maxRecDepth 100000 in
theorem ip4_may.calls (a0_0 : Int) (a0_1 : Int) (a0_2 : Bool) (a0_3 : Bool) (a0_4 : Int) (a0_5 : Int) (a0_6 : Int) (a0_7 : Bool) (a0_8 : Int) (a0_9 : Int) (a0_10 : Bool) (a0_11 : Int) (a0_12 : Int) (a0_13 : ByteArray) (a0_14 : ByteArray) (r : Bool) (w : World) (h : ip4_may.f a0_0 a0_1 a0_2 a0_3 a0_4 a0_5 a0_6 a0_7 a0_8 a0_9 a0_10 a0_11 a0_12 a0_13 a0_14 = some r) :
  Calls Try.prog 21 #[.agg #[.int .i64 a0_0, .int .i64 a0_1, .bool a0_2, .bool a0_3, .int .i64 a0_4, .int .i64 a0_5, .int .i64 a0_6, .bool a0_7, .int .u64 a0_8, .int .u64 a0_9, .bool a0_10, .int .u64 a0_11, .int .u64 a0_12, .string a0_13, .string a0_14]] w fun e w' => e = .returned (.bool r) ∧ Below w.heap.size w w' := by
 have hu26 := Try.underlying26
 have hu24 := Try.underlying24
 have HB := Aside0.mk (Below.refl w.heap.size w)
 have H : ((ip4_Options.f a0_13).bind fun bt105 => ((ip4_within.f a0_0 255).bind fun t109 => (if t109 = true then ((ip4_within.f a0_5 255).bind fun t110 => (if t110 = true then ((ip4_within.f a0_6 255).bind fun t111 => (if t111 = true then ((ip4_within.f a0_1 65535).bind fun t112 => (if t112 = true then ((ip4_within.f a0_4 8191).bind fun t113 => (if t113 = true then ((ip4_four.f a0_7 a0_8 a0_9).bind fun t114 => (if t114 = true then ((ip4_four.f a0_10 a0_11 a0_12).bind fun t115 => (if t115 = true then (if (a0_13.size : Int) ≤ 40 then (if ((a0_13.size : Int) % 4) = 0 then (some (bt105.2 == 0)) else (some false)) else (some false)) else (some false))) else (some false))) else (some false))) else (some false))) else (some false))) else (some false))) else (some false)))) = some r := h
 clear h
 replace H := Option.bind_eq_some_iff.mp H
 obtain ⟨⟨t105, t106⟩, A20, H⟩ := H
 replace H : ((ip4_within.f a0_0 255).bind fun t109 => (if t109 = true then ((ip4_within.f a0_5 255).bind fun t110 => (if t110 = true then ((ip4_within.f a0_6 255).bind fun t111 => (if t111 = true then ((ip4_within.f a0_1 65535).bind fun t112 => (if t112 = true then ((ip4_within.f a0_4 8191).bind fun t113 => (if t113 = true then ((ip4_four.f a0_7 a0_8 a0_9).bind fun t114 => (if t114 = true then ((ip4_four.f a0_10 a0_11 a0_12).bind fun t115 => (if t115 = true then (if (a0_13.size : Int) ≤ 40 then (if ((a0_13.size : Int) % 4) = 0 then (some (t106 == 0)) else (some false)) else (some false)) else (some false))) else (some false))) else (some false))) else (some false))) else (some false))) else (some false))) else (some false))) = some r := H
 have A2 := Aside0.mk A20
 clear A20
 replace H := Option.bind_eq_some_iff.mp H
 obtain ⟨t109, A30, H⟩ := H
 have A3 := Aside0.mk A30
 clear A30
 by_cases c4 : t109 = true
 ·
  subst c4
  rw [if_pos rfl] at H
  replace H := Option.bind_eq_some_iff.mp H
  obtain ⟨t110, A50, H⟩ := H
  have A5 := Aside0.mk A50
  clear A50
  by_cases c6 : t110 = true
  ·
   subst c6
   rw [if_pos rfl] at H
   replace H := Option.bind_eq_some_iff.mp H
   obtain ⟨t111, A70, H⟩ := H
   have A7 := Aside0.mk A70
   clear A70
   by_cases c8 : t111 = true
   ·
    subst c8
    rw [if_pos rfl] at H
    replace H := Option.bind_eq_some_iff.mp H
    obtain ⟨t112, A90, H⟩ := H
    have A9 := Aside0.mk A90
    clear A90
    by_cases c10 : t112 = true
    ·
     subst c10
     rw [if_pos rfl] at H
     replace H := Option.bind_eq_some_iff.mp H
     obtain ⟨t113, A110, H⟩ := H
     have A11 := Aside0.mk A110
     clear A110
     by_cases c12 : t113 = true
     ·
      subst c12
      rw [if_pos rfl] at H
      replace H := Option.bind_eq_some_iff.mp H
      obtain ⟨t114, A130, H⟩ := H
      have A13 := Aside0.mk A130
      clear A130
      by_cases c14 : t114 = true
      ·
       subst c14
       rw [if_pos rfl] at H
       replace H := Option.bind_eq_some_iff.mp H
       obtain ⟨t115, A150, H⟩ := H
       have A15 := Aside0.mk A150
       clear A150
       by_cases c16 : t115 = true
       ·
        subst c16
        rw [if_pos rfl] at H
        by_cases c17 : (a0_13.size : Int) ≤ 40
        ·
         rw [if_pos c17] at H
         have c17b0 : decide ((a0_13.size : Int) ≤ 40) = true := decide_eq_true c17
         have c17b1 : decide (a0_13.size ≤ 40) = true := decide_eq_true (by omega)
         clear c17
         by_cases c18 : ((a0_13.size : Int) % 4) = 0
         ·
          rw [if_pos c18] at H
          have c18b0 : (((a0_13.size : Int) % 4) == 0) = true := beq_iff_eq.mpr c18
          have c18b1 : (((a0_13.size : Int) % 4) != 0) = false := bne_eq_false_iff_eq.mpr c18
          clear c18
          obtain rfl := Option.some.inj H
          go_enter Try.func21, Try.ntmps21
          go_wp2_with (first | ((with_reducible refine gate_dst (N := 1) rfl ?_); (try (refine gate_guard (by rfl) ?_; dsimp only)); refine sh_E 1 26 #[.int .i64 a0_0, .int .i64 a0_1, .bool a0_2, .bool a0_3, .int .i64 a0_4, .int .i64 a0_5, .int .i64 a0_6, .bool a0_7, .int .u64 a0_8, .int .u64 a0_9, .bool a0_10, .int .u64 a0_11, .int .u64 a0_12, .string a0_13, .string a0_14] ?_; intro gb104 hg w19 hbox hb; have BK104 := Aside0.mk hbox; have GW104 := sh_G HB hg; have GE104 := GW104; replace HB := sh_S HB hb; clear hb hbox hg; obtain ⟨hcz20_0, hcz20_1, hcz20_2, hcz20_3, hcz20_4, hcz20_5, hcz20_6, hcz20_7, hcz20_8, hcz20_9, hcz20_10, hcz20_11, hcz20_12, hcz20_13, hcz20_14⟩ := MBlk.c15 BK104.out; obtain ⟨hfz20_0, hfz20_1, hfz20_2, hfz20_3, hfz20_4, hfz20_5, hfz20_6, hfz20_7, hfz20_8, hfz20_9, hfz20_10, hfz20_11, hfz20_12, hfz20_13, hfz20_14⟩ := MBlk.f15 BK104.out) | ((with_reducible refine gate_callee (f := 15) rfl ?_); refine sh_C 9 Try.func15 #[.string a0_13] ?_; (with_reducible refine (ip4_Options.calls a0_13 t105 t106 _ A2.out).mono ?_); rintro e w21 ⟨v107, rfl, ho0, hb⟩; refine ⟨_, rfl, ?_⟩; have HO108 := Aside0.mk (Kd.R_lower ho0 (below_size (sh_B HB))); replace BK104 := sh_L BK104 hb; replace HB := sh_S HB hb; (try clear hb); (try clear hb2); (try clear hk); (try clear hi); (try clear ho0); obtain ⟨hcz22_0, hcz22_1, hcz22_2, hcz22_3, hcz22_4, hcz22_5, hcz22_6, hcz22_7, hcz22_8, hcz22_9, hcz22_10, hcz22_11, hcz22_12, hcz22_13, hcz22_14⟩ := MBlk.c15 BK104.out; obtain ⟨hfz22_0, hfz22_1, hfz22_2, hfz22_3, hfz22_4, hfz22_5, hfz22_6, hfz22_7, hfz22_8, hfz22_9, hfz22_10, hfz22_11, hfz22_12, hfz22_13, hfz22_14⟩ := MBlk.f15 BK104.out) | ((with_reducible refine gate_callee (f := 35) rfl ?_); refine sh_C 14 Try.func35 #[.int .i64 a0_0, .int .i64 255] ?_; (with_reducible refine (ip4_within.calls a0_0 255 true _ A3.out).mono ?_); rintro e w' ⟨rfl, ⟨nd, rfl⟩⟩; refine ⟨_, rfl, ?_⟩) | (go_at_call 35; (with_reducible refine (ip4_within.calls a0_5 255 true _ A5.out).mono ?_); rintro e w' ⟨rfl, ⟨nd, rfl⟩⟩) | (go_at_call 35; (with_reducible refine (ip4_within.calls a0_6 255 true _ A7.out).mono ?_); rintro e w' ⟨rfl, ⟨nd, rfl⟩⟩) | (go_at_call 35; (with_reducible refine (ip4_within.calls a0_1 65535 true _ A9.out).mono ?_); rintro e w' ⟨rfl, ⟨nd, rfl⟩⟩) | (go_at_call 35; (with_reducible refine (ip4_within.calls a0_4 8191 true _ A11.out).mono ?_); rintro e w' ⟨rfl, ⟨nd, rfl⟩⟩) | (go_at_call 36; (with_reducible refine (ip4_four.calls a0_7 a0_8 a0_9 true _ A13.out).mono ?_); rintro e w23 ⟨rfl, hb⟩; have n0_ := Aside0.mk (Kd.R_below (by (with_reducible repeat (first | apply Kd.R_alloc | apply Kd.R_drewN | apply Kd.R_drew)); exact HO108.out) hb); have n1_ := sh_L BK104 hb; have n2_ := sh_S HB hb; clear HO108; clear BK104; clear HB; have HO108 := n0_; have BK104 := n1_; have HB := n2_; clear n0_ n1_ n2_; (try clear hb); (try clear hb2); (try clear hk); (try clear hi); obtain ⟨hcz24_0, hcz24_1, hcz24_2, hcz24_3, hcz24_4, hcz24_5, hcz24_6, hcz24_7, hcz24_8, hcz24_9, hcz24_10, hcz24_11, hcz24_12, hcz24_13, hcz24_14⟩ := MBlk.c15 BK104.out; obtain ⟨hfz24_0, hfz24_1, hfz24_2, hfz24_3, hfz24_4, hfz24_5, hfz24_6, hfz24_7, hfz24_8, hfz24_9, hfz24_10, hfz24_11, hfz24_12, hfz24_13, hfz24_14⟩ := MBlk.f15 BK104.out) | (go_at_call 36; (with_reducible refine (ip4_four.calls a0_10 a0_11 a0_12 true _ A15.out).mono ?_); rintro e w25 ⟨rfl, hb⟩; have n0_ := Aside0.mk (Kd.R_below (by (with_reducible repeat (first | apply Kd.R_alloc | apply Kd.R_drewN | apply Kd.R_drew)); exact HO108.out) hb); have n1_ := sh_L BK104 hb; have n2_ := sh_S HB hb; clear HO108; clear BK104; clear HB; have HO108 := n0_; have BK104 := n1_; have HB := n2_; clear n0_ n1_ n2_; (try clear hb); (try clear hb2); (try clear hk); (try clear hi); obtain ⟨hcz26_0, hcz26_1, hcz26_2, hcz26_3, hcz26_4, hcz26_5, hcz26_6, hcz26_7, hcz26_8, hcz26_9, hcz26_10, hcz26_11, hcz26_12, hcz26_13, hcz26_14⟩ := MBlk.c15 BK104.out; obtain ⟨hfz26_0, hfz26_1, hfz26_2, hfz26_3, hfz26_4, hfz26_5, hfz26_6, hfz26_7, hfz26_8, hfz26_9, hfz26_10, hfz26_11, hfz26_12, hfz26_13, hfz26_14⟩ := MBlk.f15 BK104.out))
          go_ret
          exact ⟨by first | rfl | (simp [errW_none, errW_some] <;> rfl) | (simp [*, errW_none, errW_some] <;> rfl), by repeat (first | (with_reducible first | exact HB.out | apply below_alloc | apply pw_below_drewN | apply below_drew1 | refine below_set ?_ GE104.out) | exact HB.out)⟩
         ·
          rw [if_neg c18] at H
          have c18b0 : (((a0_13.size : Int) % 4) == 0) = false := beq_eq_false_iff_ne.mpr c18
          have c18b1 : (((a0_13.size : Int) % 4) != 0) = true := bne_iff_ne.mpr c18
          obtain rfl := Option.some.inj H
          go_enter Try.func21, Try.ntmps21
          go_wp2_with (first | ((with_reducible refine gate_dst (N := 1) rfl ?_); (try (refine gate_guard (by rfl) ?_; dsimp only)); refine sh_E 1 26 #[.int .i64 a0_0, .int .i64 a0_1, .bool a0_2, .bool a0_3, .int .i64 a0_4, .int .i64 a0_5, .int .i64 a0_6, .bool a0_7, .int .u64 a0_8, .int .u64 a0_9, .bool a0_10, .int .u64 a0_11, .int .u64 a0_12, .string a0_13, .string a0_14] ?_; intro gb104 hg w27 hbox hb; have BK104 := Aside0.mk hbox; have GW104 := sh_G HB hg; have GE104 := GW104; replace HB := sh_S HB hb; clear hb hbox hg; obtain ⟨hcz28_0, hcz28_1, hcz28_2, hcz28_3, hcz28_4, hcz28_5, hcz28_6, hcz28_7, hcz28_8, hcz28_9, hcz28_10, hcz28_11, hcz28_12, hcz28_13, hcz28_14⟩ := MBlk.c15 BK104.out; obtain ⟨hfz28_0, hfz28_1, hfz28_2, hfz28_3, hfz28_4, hfz28_5, hfz28_6, hfz28_7, hfz28_8, hfz28_9, hfz28_10, hfz28_11, hfz28_12, hfz28_13, hfz28_14⟩ := MBlk.f15 BK104.out) | ((with_reducible refine gate_callee (f := 15) rfl ?_); refine sh_C 9 Try.func15 #[.string a0_13] ?_; (with_reducible refine (ip4_Options.calls a0_13 t105 t106 _ A2.out).mono ?_); rintro e w29 ⟨v107, rfl, ho0, hb⟩; refine ⟨_, rfl, ?_⟩; have HO108 := Aside0.mk (Kd.R_lower ho0 (below_size (sh_B HB))); replace BK104 := sh_L BK104 hb; replace HB := sh_S HB hb; (try clear hb); (try clear hb2); (try clear hk); (try clear hi); (try clear ho0); obtain ⟨hcz30_0, hcz30_1, hcz30_2, hcz30_3, hcz30_4, hcz30_5, hcz30_6, hcz30_7, hcz30_8, hcz30_9, hcz30_10, hcz30_11, hcz30_12, hcz30_13, hcz30_14⟩ := MBlk.c15 BK104.out; obtain ⟨hfz30_0, hfz30_1, hfz30_2, hfz30_3, hfz30_4, hfz30_5, hfz30_6, hfz30_7, hfz30_8, hfz30_9, hfz30_10, hfz30_11, hfz30_12, hfz30_13, hfz30_14⟩ := MBlk.f15 BK104.out) | ((with_reducible refine gate_callee (f := 35) rfl ?_); refine sh_C 14 Try.func35 #[.int .i64 a0_0, .int .i64 255] ?_; (with_reducible refine (ip4_within.calls a0_0 255 true _ A3.out).mono ?_); rintro e w' ⟨rfl, ⟨nd, rfl⟩⟩; refine ⟨_, rfl, ?_⟩) | (go_at_call 35; (with_reducible refine (ip4_within.calls a0_5 255 true _ A5.out).mono ?_); rintro e w' ⟨rfl, ⟨nd, rfl⟩⟩) | (go_at_call 35; (with_reducible refine (ip4_within.calls a0_6 255 true _ A7.out).mono ?_); rintro e w' ⟨rfl, ⟨nd, rfl⟩⟩) | (go_at_call 35; (with_reducible refine (ip4_within.calls a0_1 65535 true _ A9.out).mono ?_); rintro e w' ⟨rfl, ⟨nd, rfl⟩⟩) | (go_at_call 35; (with_reducible refine (ip4_within.calls a0_4 8191 true _ A11.out).mono ?_); rintro e w' ⟨rfl, ⟨nd, rfl⟩⟩) | (go_at_call 36; (with_reducible refine (ip4_four.calls a0_7 a0_8 a0_9 true _ A13.out).mono ?_); rintro e w31 ⟨rfl, hb⟩; have n0_ := Aside0.mk (Kd.R_below (by (with_reducible repeat (first | apply Kd.R_alloc | apply Kd.R_drewN | apply Kd.R_drew)); exact HO108.out) hb); have n1_ := sh_L BK104 hb; have n2_ := sh_S HB hb; clear HO108; clear BK104; clear HB; have HO108 := n0_; have BK104 := n1_; have HB := n2_; clear n0_ n1_ n2_; (try clear hb); (try clear hb2); (try clear hk); (try clear hi); obtain ⟨hcz32_0, hcz32_1, hcz32_2, hcz32_3, hcz32_4, hcz32_5, hcz32_6, hcz32_7, hcz32_8, hcz32_9, hcz32_10, hcz32_11, hcz32_12, hcz32_13, hcz32_14⟩ := MBlk.c15 BK104.out; obtain ⟨hfz32_0, hfz32_1, hfz32_2, hfz32_3, hfz32_4, hfz32_5, hfz32_6, hfz32_7, hfz32_8, hfz32_9, hfz32_10, hfz32_11, hfz32_12, hfz32_13, hfz32_14⟩ := MBlk.f15 BK104.out) | (go_at_call 36; (with_reducible refine (ip4_four.calls a0_10 a0_11 a0_12 true _ A15.out).mono ?_); rintro e w33 ⟨rfl, hb⟩; have n0_ := Aside0.mk (Kd.R_below (by (with_reducible repeat (first | apply Kd.R_alloc | apply Kd.R_drewN | apply Kd.R_drew)); exact HO108.out) hb); have n1_ := sh_L BK104 hb; have n2_ := sh_S HB hb; clear HO108; clear BK104; clear HB; have HO108 := n0_; have BK104 := n1_; have HB := n2_; clear n0_ n1_ n2_; (try clear hb); (try clear hb2); (try clear hk); (try clear hi); obtain ⟨hcz34_0, hcz34_1, hcz34_2, hcz34_3, hcz34_4, hcz34_5, hcz34_6, hcz34_7, hcz34_8, hcz34_9, hcz34_10, hcz34_11, hcz34_12, hcz34_13, hcz34_14⟩ := MBlk.c15 BK104.out; obtain ⟨hfz34_0, hfz34_1, hfz34_2, hfz34_3, hfz34_4, hfz34_5, hfz34_6, hfz34_7, hfz34_8, hfz34_9, hfz34_10, hfz34_11, hfz34_12, hfz34_13, hfz34_14⟩ := MBlk.f15 BK104.out))
          go_ret
          exact ⟨by first | rfl | (simp [errW_none, errW_some] <;> rfl) | (simp [*, errW_none, errW_some] <;> rfl), by repeat (first | (with_reducible first | exact HB.out | apply below_alloc | apply pw_below_drewN | apply below_drew1 | refine below_set ?_ GE104.out) | exact HB.out)⟩
        ·
         rw [if_neg c17] at H
         have c17b0 : decide ((a0_13.size : Int) ≤ 40) = false := decide_eq_false c17
         have c17b1 : decide (a0_13.size ≤ 40) = false := decide_eq_false (by omega)
         clear c17
         obtain rfl := Option.some.inj H
         go_enter Try.func21, Try.ntmps21
         go_wp2_with (first | ((with_reducible refine gate_dst (N := 1) rfl ?_); (try (refine gate_guard (by rfl) ?_; dsimp only)); refine sh_E 1 26 #[.int .i64 a0_0, .int .i64 a0_1, .bool a0_2, .bool a0_3, .int .i64 a0_4, .int .i64 a0_5, .int .i64 a0_6, .bool a0_7, .int .u64 a0_8, .int .u64 a0_9, .bool a0_10, .int .u64 a0_11, .int .u64 a0_12, .string a0_13, .string a0_14] ?_; intro gb104 hg w35 hbox hb; have BK104 := Aside0.mk hbox; have GW104 := sh_G HB hg; have GE104 := GW104; replace HB := sh_S HB hb; clear hb hbox hg; obtain ⟨hcz36_0, hcz36_1, hcz36_2, hcz36_3, hcz36_4, hcz36_5, hcz36_6, hcz36_7, hcz36_8, hcz36_9, hcz36_10, hcz36_11, hcz36_12, hcz36_13, hcz36_14⟩ := MBlk.c15 BK104.out; obtain ⟨hfz36_0, hfz36_1, hfz36_2, hfz36_3, hfz36_4, hfz36_5, hfz36_6, hfz36_7, hfz36_8, hfz36_9, hfz36_10, hfz36_11, hfz36_12, hfz36_13, hfz36_14⟩ := MBlk.f15 BK104.out) | ((with_reducible refine gate_callee (f := 15) rfl ?_); refine sh_C 9 Try.func15 #[.string a0_13] ?_; (with_reducible refine (ip4_Options.calls a0_13 t105 t106 _ A2.out).mono ?_); rintro e w37 ⟨v107, rfl, ho0, hb⟩; refine ⟨_, rfl, ?_⟩; have HO108 := Aside0.mk (Kd.R_lower ho0 (below_size (sh_B HB))); replace BK104 := sh_L BK104 hb; replace HB := sh_S HB hb; (try clear hb); (try clear hb2); (try clear hk); (try clear hi); (try clear ho0); obtain ⟨hcz38_0, hcz38_1, hcz38_2, hcz38_3, hcz38_4, hcz38_5, hcz38_6, hcz38_7, hcz38_8, hcz38_9, hcz38_10, hcz38_11, hcz38_12, hcz38_13, hcz38_14⟩ := MBlk.c15 BK104.out; obtain ⟨hfz38_0, hfz38_1, hfz38_2, hfz38_3, hfz38_4, hfz38_5, hfz38_6, hfz38_7, hfz38_8, hfz38_9, hfz38_10, hfz38_11, hfz38_12, hfz38_13, hfz38_14⟩ := MBlk.f15 BK104.out) | ((with_reducible refine gate_callee (f := 35) rfl ?_); refine sh_C 14 Try.func35 #[.int .i64 a0_0, .int .i64 255] ?_; (with_reducible refine (ip4_within.calls a0_0 255 true _ A3.out).mono ?_); rintro e w' ⟨rfl, ⟨nd, rfl⟩⟩; refine ⟨_, rfl, ?_⟩) | (go_at_call 35; (with_reducible refine (ip4_within.calls a0_5 255 true _ A5.out).mono ?_); rintro e w' ⟨rfl, ⟨nd, rfl⟩⟩) | (go_at_call 35; (with_reducible refine (ip4_within.calls a0_6 255 true _ A7.out).mono ?_); rintro e w' ⟨rfl, ⟨nd, rfl⟩⟩) | (go_at_call 35; (with_reducible refine (ip4_within.calls a0_1 65535 true _ A9.out).mono ?_); rintro e w' ⟨rfl, ⟨nd, rfl⟩⟩) | (go_at_call 35; (with_reducible refine (ip4_within.calls a0_4 8191 true _ A11.out).mono ?_); rintro e w' ⟨rfl, ⟨nd, rfl⟩⟩) | (go_at_call 36; (with_reducible refine (ip4_four.calls a0_7 a0_8 a0_9 true _ A13.out).mono ?_); rintro e w39 ⟨rfl, hb⟩; have n0_ := Aside0.mk (Kd.R_below (by (with_reducible repeat (first | apply Kd.R_alloc | apply Kd.R_drewN | apply Kd.R_drew)); exact HO108.out) hb); have n1_ := sh_L BK104 hb; have n2_ := sh_S HB hb; clear HO108; clear BK104; clear HB; have HO108 := n0_; have BK104 := n1_; have HB := n2_; clear n0_ n1_ n2_; (try clear hb); (try clear hb2); (try clear hk); (try clear hi); obtain ⟨hcz40_0, hcz40_1, hcz40_2, hcz40_3, hcz40_4, hcz40_5, hcz40_6, hcz40_7, hcz40_8, hcz40_9, hcz40_10, hcz40_11, hcz40_12, hcz40_13, hcz40_14⟩ := MBlk.c15 BK104.out; obtain ⟨hfz40_0, hfz40_1, hfz40_2, hfz40_3, hfz40_4, hfz40_5, hfz40_6, hfz40_7, hfz40_8, hfz40_9, hfz40_10, hfz40_11, hfz40_12, hfz40_13, hfz40_14⟩ := MBlk.f15 BK104.out) | (go_at_call 36; (with_reducible refine (ip4_four.calls a0_10 a0_11 a0_12 true _ A15.out).mono ?_); rintro e w41 ⟨rfl, hb⟩; have n0_ := Aside0.mk (Kd.R_below (by (with_reducible repeat (first | apply Kd.R_alloc | apply Kd.R_drewN | apply Kd.R_drew)); exact HO108.out) hb); have n1_ := sh_L BK104 hb; have n2_ := sh_S HB hb; clear HO108; clear BK104; clear HB; have HO108 := n0_; have BK104 := n1_; have HB := n2_; clear n0_ n1_ n2_; (try clear hb); (try clear hb2); (try clear hk); (try clear hi); obtain ⟨hcz42_0, hcz42_1, hcz42_2, hcz42_3, hcz42_4, hcz42_5, hcz42_6, hcz42_7, hcz42_8, hcz42_9, hcz42_10, hcz42_11, hcz42_12, hcz42_13, hcz42_14⟩ := MBlk.c15 BK104.out; obtain ⟨hfz42_0, hfz42_1, hfz42_2, hfz42_3, hfz42_4, hfz42_5, hfz42_6, hfz42_7, hfz42_8, hfz42_9, hfz42_10, hfz42_11, hfz42_12, hfz42_13, hfz42_14⟩ := MBlk.f15 BK104.out))
         go_ret
         exact ⟨by first | rfl | (simp [errW_none, errW_some] <;> rfl) | (simp [*, errW_none, errW_some] <;> rfl), by repeat (first | (with_reducible first | exact HB.out | apply below_alloc | apply pw_below_drewN | apply below_drew1 | refine below_set ?_ GE104.out) | exact HB.out)⟩
       ·
        replace c16 := Bool.eq_false_iff.mpr c16
        subst c16
        rw [if_neg (show ¬ (false = true) by decide)] at H
        obtain rfl := Option.some.inj H
        go_enter Try.func21, Try.ntmps21
        go_wp2_with (first | ((with_reducible refine gate_dst (N := 1) rfl ?_); (try (refine gate_guard (by rfl) ?_; dsimp only)); refine sh_E 1 26 #[.int .i64 a0_0, .int .i64 a0_1, .bool a0_2, .bool a0_3, .int .i64 a0_4, .int .i64 a0_5, .int .i64 a0_6, .bool a0_7, .int .u64 a0_8, .int .u64 a0_9, .bool a0_10, .int .u64 a0_11, .int .u64 a0_12, .string a0_13, .string a0_14] ?_; intro gb104 hg w43 hbox hb; have BK104 := Aside0.mk hbox; have GW104 := sh_G HB hg; have GE104 := GW104; replace HB := sh_S HB hb; clear hb hbox hg; obtain ⟨hcz44_0, hcz44_1, hcz44_2, hcz44_3, hcz44_4, hcz44_5, hcz44_6, hcz44_7, hcz44_8, hcz44_9, hcz44_10, hcz44_11, hcz44_12, hcz44_13, hcz44_14⟩ := MBlk.c15 BK104.out; obtain ⟨hfz44_0, hfz44_1, hfz44_2, hfz44_3, hfz44_4, hfz44_5, hfz44_6, hfz44_7, hfz44_8, hfz44_9, hfz44_10, hfz44_11, hfz44_12, hfz44_13, hfz44_14⟩ := MBlk.f15 BK104.out) | ((with_reducible refine gate_callee (f := 15) rfl ?_); refine sh_C 9 Try.func15 #[.string a0_13] ?_; (with_reducible refine (ip4_Options.calls a0_13 t105 t106 _ A2.out).mono ?_); rintro e w45 ⟨v107, rfl, ho0, hb⟩; refine ⟨_, rfl, ?_⟩; have HO108 := Aside0.mk (Kd.R_lower ho0 (below_size (sh_B HB))); replace BK104 := sh_L BK104 hb; replace HB := sh_S HB hb; (try clear hb); (try clear hb2); (try clear hk); (try clear hi); (try clear ho0); obtain ⟨hcz46_0, hcz46_1, hcz46_2, hcz46_3, hcz46_4, hcz46_5, hcz46_6, hcz46_7, hcz46_8, hcz46_9, hcz46_10, hcz46_11, hcz46_12, hcz46_13, hcz46_14⟩ := MBlk.c15 BK104.out; obtain ⟨hfz46_0, hfz46_1, hfz46_2, hfz46_3, hfz46_4, hfz46_5, hfz46_6, hfz46_7, hfz46_8, hfz46_9, hfz46_10, hfz46_11, hfz46_12, hfz46_13, hfz46_14⟩ := MBlk.f15 BK104.out) | ((with_reducible refine gate_callee (f := 35) rfl ?_); refine sh_C 14 Try.func35 #[.int .i64 a0_0, .int .i64 255] ?_; (with_reducible refine (ip4_within.calls a0_0 255 true _ A3.out).mono ?_); rintro e w' ⟨rfl, ⟨nd, rfl⟩⟩; refine ⟨_, rfl, ?_⟩) | (go_at_call 35; (with_reducible refine (ip4_within.calls a0_5 255 true _ A5.out).mono ?_); rintro e w' ⟨rfl, ⟨nd, rfl⟩⟩) | (go_at_call 35; (with_reducible refine (ip4_within.calls a0_6 255 true _ A7.out).mono ?_); rintro e w' ⟨rfl, ⟨nd, rfl⟩⟩) | (go_at_call 35; (with_reducible refine (ip4_within.calls a0_1 65535 true _ A9.out).mono ?_); rintro e w' ⟨rfl, ⟨nd, rfl⟩⟩) | (go_at_call 35; (with_reducible refine (ip4_within.calls a0_4 8191 true _ A11.out).mono ?_); rintro e w' ⟨rfl, ⟨nd, rfl⟩⟩) | (go_at_call 36; (with_reducible refine (ip4_four.calls a0_7 a0_8 a0_9 true _ A13.out).mono ?_); rintro e w47 ⟨rfl, hb⟩; have n0_ := Aside0.mk (Kd.R_below (by (with_reducible repeat (first | apply Kd.R_alloc | apply Kd.R_drewN | apply Kd.R_drew)); exact HO108.out) hb); have n1_ := sh_L BK104 hb; have n2_ := sh_S HB hb; clear HO108; clear BK104; clear HB; have HO108 := n0_; have BK104 := n1_; have HB := n2_; clear n0_ n1_ n2_; (try clear hb); (try clear hb2); (try clear hk); (try clear hi); obtain ⟨hcz48_0, hcz48_1, hcz48_2, hcz48_3, hcz48_4, hcz48_5, hcz48_6, hcz48_7, hcz48_8, hcz48_9, hcz48_10, hcz48_11, hcz48_12, hcz48_13, hcz48_14⟩ := MBlk.c15 BK104.out; obtain ⟨hfz48_0, hfz48_1, hfz48_2, hfz48_3, hfz48_4, hfz48_5, hfz48_6, hfz48_7, hfz48_8, hfz48_9, hfz48_10, hfz48_11, hfz48_12, hfz48_13, hfz48_14⟩ := MBlk.f15 BK104.out) | (go_at_call 36; (with_reducible refine (ip4_four.calls a0_10 a0_11 a0_12 false _ A15.out).mono ?_); rintro e w49 ⟨rfl, hb⟩; have n0_ := Aside0.mk (Kd.R_below (by (with_reducible repeat (first | apply Kd.R_alloc | apply Kd.R_drewN | apply Kd.R_drew)); exact HO108.out) hb); have n1_ := sh_L BK104 hb; have n2_ := sh_S HB hb; clear HO108; clear BK104; clear HB; have HO108 := n0_; have BK104 := n1_; have HB := n2_; clear n0_ n1_ n2_; (try clear hb); (try clear hb2); (try clear hk); (try clear hi)))
        go_ret
        exact ⟨by first | rfl | (simp [errW_none, errW_some] <;> rfl) | (simp [*, errW_none, errW_some] <;> rfl), by repeat (first | (with_reducible first | exact HB.out | apply below_alloc | apply pw_below_drewN | apply below_drew1 | refine below_set ?_ GE104.out) | exact HB.out)⟩
      ·
       replace c14 := Bool.eq_false_iff.mpr c14
       subst c14
       rw [if_neg (show ¬ (false = true) by decide)] at H
       obtain rfl := Option.some.inj H
       go_enter Try.func21, Try.ntmps21
       go_wp2_with (first | ((with_reducible refine gate_dst (N := 1) rfl ?_); (try (refine gate_guard (by rfl) ?_; dsimp only)); refine sh_E 1 26 #[.int .i64 a0_0, .int .i64 a0_1, .bool a0_2, .bool a0_3, .int .i64 a0_4, .int .i64 a0_5, .int .i64 a0_6, .bool a0_7, .int .u64 a0_8, .int .u64 a0_9, .bool a0_10, .int .u64 a0_11, .int .u64 a0_12, .string a0_13, .string a0_14] ?_; intro gb104 hg w50 hbox hb; have BK104 := Aside0.mk hbox; have GW104 := sh_G HB hg; have GE104 := GW104; replace HB := sh_S HB hb; clear hb hbox hg; obtain ⟨hcz51_0, hcz51_1, hcz51_2, hcz51_3, hcz51_4, hcz51_5, hcz51_6, hcz51_7, hcz51_8, hcz51_9, hcz51_10, hcz51_11, hcz51_12, hcz51_13, hcz51_14⟩ := MBlk.c15 BK104.out; obtain ⟨hfz51_0, hfz51_1, hfz51_2, hfz51_3, hfz51_4, hfz51_5, hfz51_6, hfz51_7, hfz51_8, hfz51_9, hfz51_10, hfz51_11, hfz51_12, hfz51_13, hfz51_14⟩ := MBlk.f15 BK104.out) | ((with_reducible refine gate_callee (f := 15) rfl ?_); refine sh_C 9 Try.func15 #[.string a0_13] ?_; (with_reducible refine (ip4_Options.calls a0_13 t105 t106 _ A2.out).mono ?_); rintro e w52 ⟨v107, rfl, ho0, hb⟩; refine ⟨_, rfl, ?_⟩; have HO108 := Aside0.mk (Kd.R_lower ho0 (below_size (sh_B HB))); replace BK104 := sh_L BK104 hb; replace HB := sh_S HB hb; (try clear hb); (try clear hb2); (try clear hk); (try clear hi); (try clear ho0); obtain ⟨hcz53_0, hcz53_1, hcz53_2, hcz53_3, hcz53_4, hcz53_5, hcz53_6, hcz53_7, hcz53_8, hcz53_9, hcz53_10, hcz53_11, hcz53_12, hcz53_13, hcz53_14⟩ := MBlk.c15 BK104.out; obtain ⟨hfz53_0, hfz53_1, hfz53_2, hfz53_3, hfz53_4, hfz53_5, hfz53_6, hfz53_7, hfz53_8, hfz53_9, hfz53_10, hfz53_11, hfz53_12, hfz53_13, hfz53_14⟩ := MBlk.f15 BK104.out) | ((with_reducible refine gate_callee (f := 35) rfl ?_); refine sh_C 14 Try.func35 #[.int .i64 a0_0, .int .i64 255] ?_; (with_reducible refine (ip4_within.calls a0_0 255 true _ A3.out).mono ?_); rintro e w' ⟨rfl, ⟨nd, rfl⟩⟩; refine ⟨_, rfl, ?_⟩) | (go_at_call 35; (with_reducible refine (ip4_within.calls a0_5 255 true _ A5.out).mono ?_); rintro e w' ⟨rfl, ⟨nd, rfl⟩⟩) | (go_at_call 35; (with_reducible refine (ip4_within.calls a0_6 255 true _ A7.out).mono ?_); rintro e w' ⟨rfl, ⟨nd, rfl⟩⟩) | (go_at_call 35; (with_reducible refine (ip4_within.calls a0_1 65535 true _ A9.out).mono ?_); rintro e w' ⟨rfl, ⟨nd, rfl⟩⟩) | (go_at_call 35; (with_reducible refine (ip4_within.calls a0_4 8191 true _ A11.out).mono ?_); rintro e w' ⟨rfl, ⟨nd, rfl⟩⟩) | (go_at_call 36; (with_reducible refine (ip4_four.calls a0_7 a0_8 a0_9 false _ A13.out).mono ?_); rintro e w54 ⟨rfl, hb⟩; have n0_ := Aside0.mk (Kd.R_below (by (with_reducible repeat (first | apply Kd.R_alloc | apply Kd.R_drewN | apply Kd.R_drew)); exact HO108.out) hb); have n1_ := sh_L BK104 hb; have n2_ := sh_S HB hb; clear HO108; clear BK104; clear HB; have HO108 := n0_; have BK104 := n1_; have HB := n2_; clear n0_ n1_ n2_; (try clear hb); (try clear hb2); (try clear hk); (try clear hi)))
       go_ret
       exact ⟨by first | rfl | (simp [errW_none, errW_some] <;> rfl) | (simp [*, errW_none, errW_some] <;> rfl), by repeat (first | (with_reducible first | exact HB.out | apply below_alloc | apply pw_below_drewN | apply below_drew1 | refine below_set ?_ GE104.out) | exact HB.out)⟩
     ·
      replace c12 := Bool.eq_false_iff.mpr c12
      subst c12
      rw [if_neg (show ¬ (false = true) by decide)] at H
      obtain rfl := Option.some.inj H
      go_enter Try.func21, Try.ntmps21
      go_wp2_with (first | ((with_reducible refine gate_dst (N := 1) rfl ?_); (try (refine gate_guard (by rfl) ?_; dsimp only)); refine sh_E 1 26 #[.int .i64 a0_0, .int .i64 a0_1, .bool a0_2, .bool a0_3, .int .i64 a0_4, .int .i64 a0_5, .int .i64 a0_6, .bool a0_7, .int .u64 a0_8, .int .u64 a0_9, .bool a0_10, .int .u64 a0_11, .int .u64 a0_12, .string a0_13, .string a0_14] ?_; intro gb104 hg w55 hbox hb; have BK104 := Aside0.mk hbox; have GW104 := sh_G HB hg; have GE104 := GW104; replace HB := sh_S HB hb; clear hb hbox hg; obtain ⟨hcz56_0, hcz56_1, hcz56_2, hcz56_3, hcz56_4, hcz56_5, hcz56_6, hcz56_7, hcz56_8, hcz56_9, hcz56_10, hcz56_11, hcz56_12, hcz56_13, hcz56_14⟩ := MBlk.c15 BK104.out; obtain ⟨hfz56_0, hfz56_1, hfz56_2, hfz56_3, hfz56_4, hfz56_5, hfz56_6, hfz56_7, hfz56_8, hfz56_9, hfz56_10, hfz56_11, hfz56_12, hfz56_13, hfz56_14⟩ := MBlk.f15 BK104.out) | ((with_reducible refine gate_callee (f := 15) rfl ?_); refine sh_C 9 Try.func15 #[.string a0_13] ?_; (with_reducible refine (ip4_Options.calls a0_13 t105 t106 _ A2.out).mono ?_); rintro e w57 ⟨v107, rfl, ho0, hb⟩; refine ⟨_, rfl, ?_⟩; have HO108 := Aside0.mk (Kd.R_lower ho0 (below_size (sh_B HB))); replace BK104 := sh_L BK104 hb; replace HB := sh_S HB hb; (try clear hb); (try clear hb2); (try clear hk); (try clear hi); (try clear ho0); obtain ⟨hcz58_0, hcz58_1, hcz58_2, hcz58_3, hcz58_4, hcz58_5, hcz58_6, hcz58_7, hcz58_8, hcz58_9, hcz58_10, hcz58_11, hcz58_12, hcz58_13, hcz58_14⟩ := MBlk.c15 BK104.out; obtain ⟨hfz58_0, hfz58_1, hfz58_2, hfz58_3, hfz58_4, hfz58_5, hfz58_6, hfz58_7, hfz58_8, hfz58_9, hfz58_10, hfz58_11, hfz58_12, hfz58_13, hfz58_14⟩ := MBlk.f15 BK104.out) | ((with_reducible refine gate_callee (f := 35) rfl ?_); refine sh_C 14 Try.func35 #[.int .i64 a0_0, .int .i64 255] ?_; (with_reducible refine (ip4_within.calls a0_0 255 true _ A3.out).mono ?_); rintro e w' ⟨rfl, ⟨nd, rfl⟩⟩; refine ⟨_, rfl, ?_⟩) | (go_at_call 35; (with_reducible refine (ip4_within.calls a0_5 255 true _ A5.out).mono ?_); rintro e w' ⟨rfl, ⟨nd, rfl⟩⟩) | (go_at_call 35; (with_reducible refine (ip4_within.calls a0_6 255 true _ A7.out).mono ?_); rintro e w' ⟨rfl, ⟨nd, rfl⟩⟩) | (go_at_call 35; (with_reducible refine (ip4_within.calls a0_1 65535 true _ A9.out).mono ?_); rintro e w' ⟨rfl, ⟨nd, rfl⟩⟩) | (go_at_call 35; (with_reducible refine (ip4_within.calls a0_4 8191 false _ A11.out).mono ?_); rintro e w' ⟨rfl, ⟨nd, rfl⟩⟩))
      go_ret
      exact ⟨by first | rfl | (simp [errW_none, errW_some] <;> rfl) | (simp [*, errW_none, errW_some] <;> rfl), by repeat (first | (with_reducible first | exact HB.out | apply below_alloc | apply pw_below_drewN | apply below_drew1 | refine below_set ?_ GE104.out) | exact HB.out)⟩
    ·
     replace c10 := Bool.eq_false_iff.mpr c10
     subst c10
     rw [if_neg (show ¬ (false = true) by decide)] at H
     obtain rfl := Option.some.inj H
     go_enter Try.func21, Try.ntmps21
     go_wp2_with (first | ((with_reducible refine gate_dst (N := 1) rfl ?_); (try (refine gate_guard (by rfl) ?_; dsimp only)); refine sh_E 1 26 #[.int .i64 a0_0, .int .i64 a0_1, .bool a0_2, .bool a0_3, .int .i64 a0_4, .int .i64 a0_5, .int .i64 a0_6, .bool a0_7, .int .u64 a0_8, .int .u64 a0_9, .bool a0_10, .int .u64 a0_11, .int .u64 a0_12, .string a0_13, .string a0_14] ?_; intro gb104 hg w59 hbox hb; have BK104 := Aside0.mk hbox; have GW104 := sh_G HB hg; have GE104 := GW104; replace HB := sh_S HB hb; clear hb hbox hg; obtain ⟨hcz60_0, hcz60_1, hcz60_2, hcz60_3, hcz60_4, hcz60_5, hcz60_6, hcz60_7, hcz60_8, hcz60_9, hcz60_10, hcz60_11, hcz60_12, hcz60_13, hcz60_14⟩ := MBlk.c15 BK104.out; obtain ⟨hfz60_0, hfz60_1, hfz60_2, hfz60_3, hfz60_4, hfz60_5, hfz60_6, hfz60_7, hfz60_8, hfz60_9, hfz60_10, hfz60_11, hfz60_12, hfz60_13, hfz60_14⟩ := MBlk.f15 BK104.out) | ((with_reducible refine gate_callee (f := 15) rfl ?_); refine sh_C 9 Try.func15 #[.string a0_13] ?_; (with_reducible refine (ip4_Options.calls a0_13 t105 t106 _ A2.out).mono ?_); rintro e w61 ⟨v107, rfl, ho0, hb⟩; refine ⟨_, rfl, ?_⟩; have HO108 := Aside0.mk (Kd.R_lower ho0 (below_size (sh_B HB))); replace BK104 := sh_L BK104 hb; replace HB := sh_S HB hb; (try clear hb); (try clear hb2); (try clear hk); (try clear hi); (try clear ho0); obtain ⟨hcz62_0, hcz62_1, hcz62_2, hcz62_3, hcz62_4, hcz62_5, hcz62_6, hcz62_7, hcz62_8, hcz62_9, hcz62_10, hcz62_11, hcz62_12, hcz62_13, hcz62_14⟩ := MBlk.c15 BK104.out; obtain ⟨hfz62_0, hfz62_1, hfz62_2, hfz62_3, hfz62_4, hfz62_5, hfz62_6, hfz62_7, hfz62_8, hfz62_9, hfz62_10, hfz62_11, hfz62_12, hfz62_13, hfz62_14⟩ := MBlk.f15 BK104.out) | ((with_reducible refine gate_callee (f := 35) rfl ?_); refine sh_C 14 Try.func35 #[.int .i64 a0_0, .int .i64 255] ?_; (with_reducible refine (ip4_within.calls a0_0 255 true _ A3.out).mono ?_); rintro e w' ⟨rfl, ⟨nd, rfl⟩⟩; refine ⟨_, rfl, ?_⟩) | (go_at_call 35; (with_reducible refine (ip4_within.calls a0_5 255 true _ A5.out).mono ?_); rintro e w' ⟨rfl, ⟨nd, rfl⟩⟩) | (go_at_call 35; (with_reducible refine (ip4_within.calls a0_6 255 true _ A7.out).mono ?_); rintro e w' ⟨rfl, ⟨nd, rfl⟩⟩) | (go_at_call 35; (with_reducible refine (ip4_within.calls a0_1 65535 false _ A9.out).mono ?_); rintro e w' ⟨rfl, ⟨nd, rfl⟩⟩))
     go_ret
     exact ⟨by first | rfl | (simp [errW_none, errW_some] <;> rfl) | (simp [*, errW_none, errW_some] <;> rfl), by repeat (first | (with_reducible first | exact HB.out | apply below_alloc | apply pw_below_drewN | apply below_drew1 | refine below_set ?_ GE104.out) | exact HB.out)⟩
   ·
    replace c8 := Bool.eq_false_iff.mpr c8
    subst c8
    rw [if_neg (show ¬ (false = true) by decide)] at H
    obtain rfl := Option.some.inj H
    go_enter Try.func21, Try.ntmps21
    go_wp2_with (first | ((with_reducible refine gate_dst (N := 1) rfl ?_); (try (refine gate_guard (by rfl) ?_; dsimp only)); refine sh_E 1 26 #[.int .i64 a0_0, .int .i64 a0_1, .bool a0_2, .bool a0_3, .int .i64 a0_4, .int .i64 a0_5, .int .i64 a0_6, .bool a0_7, .int .u64 a0_8, .int .u64 a0_9, .bool a0_10, .int .u64 a0_11, .int .u64 a0_12, .string a0_13, .string a0_14] ?_; intro gb104 hg w63 hbox hb; have BK104 := Aside0.mk hbox; have GW104 := sh_G HB hg; have GE104 := GW104; replace HB := sh_S HB hb; clear hb hbox hg; obtain ⟨hcz64_0, hcz64_1, hcz64_2, hcz64_3, hcz64_4, hcz64_5, hcz64_6, hcz64_7, hcz64_8, hcz64_9, hcz64_10, hcz64_11, hcz64_12, hcz64_13, hcz64_14⟩ := MBlk.c15 BK104.out; obtain ⟨hfz64_0, hfz64_1, hfz64_2, hfz64_3, hfz64_4, hfz64_5, hfz64_6, hfz64_7, hfz64_8, hfz64_9, hfz64_10, hfz64_11, hfz64_12, hfz64_13, hfz64_14⟩ := MBlk.f15 BK104.out) | ((with_reducible refine gate_callee (f := 15) rfl ?_); refine sh_C 9 Try.func15 #[.string a0_13] ?_; (with_reducible refine (ip4_Options.calls a0_13 t105 t106 _ A2.out).mono ?_); rintro e w65 ⟨v107, rfl, ho0, hb⟩; refine ⟨_, rfl, ?_⟩; have HO108 := Aside0.mk (Kd.R_lower ho0 (below_size (sh_B HB))); replace BK104 := sh_L BK104 hb; replace HB := sh_S HB hb; (try clear hb); (try clear hb2); (try clear hk); (try clear hi); (try clear ho0); obtain ⟨hcz66_0, hcz66_1, hcz66_2, hcz66_3, hcz66_4, hcz66_5, hcz66_6, hcz66_7, hcz66_8, hcz66_9, hcz66_10, hcz66_11, hcz66_12, hcz66_13, hcz66_14⟩ := MBlk.c15 BK104.out; obtain ⟨hfz66_0, hfz66_1, hfz66_2, hfz66_3, hfz66_4, hfz66_5, hfz66_6, hfz66_7, hfz66_8, hfz66_9, hfz66_10, hfz66_11, hfz66_12, hfz66_13, hfz66_14⟩ := MBlk.f15 BK104.out) | ((with_reducible refine gate_callee (f := 35) rfl ?_); refine sh_C 14 Try.func35 #[.int .i64 a0_0, .int .i64 255] ?_; (with_reducible refine (ip4_within.calls a0_0 255 true _ A3.out).mono ?_); rintro e w' ⟨rfl, ⟨nd, rfl⟩⟩; refine ⟨_, rfl, ?_⟩) | (go_at_call 35; (with_reducible refine (ip4_within.calls a0_5 255 true _ A5.out).mono ?_); rintro e w' ⟨rfl, ⟨nd, rfl⟩⟩) | (go_at_call 35; (with_reducible refine (ip4_within.calls a0_6 255 false _ A7.out).mono ?_); rintro e w' ⟨rfl, ⟨nd, rfl⟩⟩))
    go_ret
    exact ⟨by first | rfl | (simp [errW_none, errW_some] <;> rfl) | (simp [*, errW_none, errW_some] <;> rfl), by repeat (first | (with_reducible first | exact HB.out | apply below_alloc | apply pw_below_drewN | apply below_drew1 | refine below_set ?_ GE104.out) | exact HB.out)⟩
  ·
   replace c6 := Bool.eq_false_iff.mpr c6
   subst c6
   rw [if_neg (show ¬ (false = true) by decide)] at H
   obtain rfl := Option.some.inj H
   go_enter Try.func21, Try.ntmps21
   go_wp2_with (first | ((with_reducible refine gate_dst (N := 1) rfl ?_); (try (refine gate_guard (by rfl) ?_; dsimp only)); refine sh_E 1 26 #[.int .i64 a0_0, .int .i64 a0_1, .bool a0_2, .bool a0_3, .int .i64 a0_4, .int .i64 a0_5, .int .i64 a0_6, .bool a0_7, .int .u64 a0_8, .int .u64 a0_9, .bool a0_10, .int .u64 a0_11, .int .u64 a0_12, .string a0_13, .string a0_14] ?_; intro gb104 hg w67 hbox hb; have BK104 := Aside0.mk hbox; have GW104 := sh_G HB hg; have GE104 := GW104; replace HB := sh_S HB hb; clear hb hbox hg; obtain ⟨hcz68_0, hcz68_1, hcz68_2, hcz68_3, hcz68_4, hcz68_5, hcz68_6, hcz68_7, hcz68_8, hcz68_9, hcz68_10, hcz68_11, hcz68_12, hcz68_13, hcz68_14⟩ := MBlk.c15 BK104.out; obtain ⟨hfz68_0, hfz68_1, hfz68_2, hfz68_3, hfz68_4, hfz68_5, hfz68_6, hfz68_7, hfz68_8, hfz68_9, hfz68_10, hfz68_11, hfz68_12, hfz68_13, hfz68_14⟩ := MBlk.f15 BK104.out) | ((with_reducible refine gate_callee (f := 15) rfl ?_); refine sh_C 9 Try.func15 #[.string a0_13] ?_; (with_reducible refine (ip4_Options.calls a0_13 t105 t106 _ A2.out).mono ?_); rintro e w69 ⟨v107, rfl, ho0, hb⟩; refine ⟨_, rfl, ?_⟩; have HO108 := Aside0.mk (Kd.R_lower ho0 (below_size (sh_B HB))); replace BK104 := sh_L BK104 hb; replace HB := sh_S HB hb; (try clear hb); (try clear hb2); (try clear hk); (try clear hi); (try clear ho0); obtain ⟨hcz70_0, hcz70_1, hcz70_2, hcz70_3, hcz70_4, hcz70_5, hcz70_6, hcz70_7, hcz70_8, hcz70_9, hcz70_10, hcz70_11, hcz70_12, hcz70_13, hcz70_14⟩ := MBlk.c15 BK104.out; obtain ⟨hfz70_0, hfz70_1, hfz70_2, hfz70_3, hfz70_4, hfz70_5, hfz70_6, hfz70_7, hfz70_8, hfz70_9, hfz70_10, hfz70_11, hfz70_12, hfz70_13, hfz70_14⟩ := MBlk.f15 BK104.out) | ((with_reducible refine gate_callee (f := 35) rfl ?_); refine sh_C 14 Try.func35 #[.int .i64 a0_0, .int .i64 255] ?_; (with_reducible refine (ip4_within.calls a0_0 255 true _ A3.out).mono ?_); rintro e w' ⟨rfl, ⟨nd, rfl⟩⟩; refine ⟨_, rfl, ?_⟩) | (go_at_call 35; (with_reducible refine (ip4_within.calls a0_5 255 false _ A5.out).mono ?_); rintro e w' ⟨rfl, ⟨nd, rfl⟩⟩))
   go_ret
   exact ⟨by first | rfl | (simp [errW_none, errW_some] <;> rfl) | (simp [*, errW_none, errW_some] <;> rfl), by repeat (first | (with_reducible first | exact HB.out | apply below_alloc | apply pw_below_drewN | apply below_drew1 | refine below_set ?_ GE104.out) | exact HB.out)⟩
 ·
  replace c4 := Bool.eq_false_iff.mpr c4
  subst c4
  rw [if_neg (show ¬ (false = true) by decide)] at H
  obtain rfl := Option.some.inj H
  go_enter Try.func21, Try.ntmps21
  go_wp2_with (first | ((with_reducible refine gate_dst (N := 1) rfl ?_); (try (refine gate_guard (by rfl) ?_; dsimp only)); refine sh_E 1 26 #[.int .i64 a0_0, .int .i64 a0_1, .bool a0_2, .bool a0_3, .int .i64 a0_4, .int .i64 a0_5, .int .i64 a0_6, .bool a0_7, .int .u64 a0_8, .int .u64 a0_9, .bool a0_10, .int .u64 a0_11, .int .u64 a0_12, .string a0_13, .string a0_14] ?_; intro gb104 hg w71 hbox hb; have BK104 := Aside0.mk hbox; have GW104 := sh_G HB hg; have GE104 := GW104; replace HB := sh_S HB hb; clear hb hbox hg; obtain ⟨hcz72_0, hcz72_1, hcz72_2, hcz72_3, hcz72_4, hcz72_5, hcz72_6, hcz72_7, hcz72_8, hcz72_9, hcz72_10, hcz72_11, hcz72_12, hcz72_13, hcz72_14⟩ := MBlk.c15 BK104.out; obtain ⟨hfz72_0, hfz72_1, hfz72_2, hfz72_3, hfz72_4, hfz72_5, hfz72_6, hfz72_7, hfz72_8, hfz72_9, hfz72_10, hfz72_11, hfz72_12, hfz72_13, hfz72_14⟩ := MBlk.f15 BK104.out) | ((with_reducible refine gate_callee (f := 15) rfl ?_); refine sh_C 9 Try.func15 #[.string a0_13] ?_; (with_reducible refine (ip4_Options.calls a0_13 t105 t106 _ A2.out).mono ?_); rintro e w73 ⟨v107, rfl, ho0, hb⟩; refine ⟨_, rfl, ?_⟩; have HO108 := Aside0.mk (Kd.R_lower ho0 (below_size (sh_B HB))); replace BK104 := sh_L BK104 hb; replace HB := sh_S HB hb; (try clear hb); (try clear hb2); (try clear hk); (try clear hi); (try clear ho0); obtain ⟨hcz74_0, hcz74_1, hcz74_2, hcz74_3, hcz74_4, hcz74_5, hcz74_6, hcz74_7, hcz74_8, hcz74_9, hcz74_10, hcz74_11, hcz74_12, hcz74_13, hcz74_14⟩ := MBlk.c15 BK104.out; obtain ⟨hfz74_0, hfz74_1, hfz74_2, hfz74_3, hfz74_4, hfz74_5, hfz74_6, hfz74_7, hfz74_8, hfz74_9, hfz74_10, hfz74_11, hfz74_12, hfz74_13, hfz74_14⟩ := MBlk.f15 BK104.out) | ((with_reducible refine gate_callee (f := 35) rfl ?_); refine sh_C 14 Try.func35 #[.int .i64 a0_0, .int .i64 255] ?_; (with_reducible refine (ip4_within.calls a0_0 255 false _ A3.out).mono ?_); rintro e w' ⟨rfl, ⟨nd, rfl⟩⟩; refine ⟨_, rfl, ?_⟩))
  go_ret
  exact ⟨by first | rfl | (simp [errW_none, errW_some] <;> rfl) | (simp [*, errW_none, errW_some] <;> rfl), by repeat (first | (with_reducible first | exact HB.out | apply below_alloc | apply pw_below_drewN | apply below_drew1 | refine below_set ?_ GE104.out) | exact HB.out)⟩

/-! ### ip4_bit: function 22 -/
def ip4_bit.f (a0 : Bool) (a1 : Int) : Option (Int) := if a0 = true then (some a1) else (some 0)
set_option maxHeartbeats 8000000 in
set_option maxRecDepth 100000 in
theorem ip4_bit.calls (a0 : Bool) (a1 : Int) (r : Int) (w : World) (h : ip4_bit.f a0 a1 = some r) :
  Calls Try.prog 22 #[.bool a0, .int .i64 a1] w fun e w' => e = .returned (.int .i64 r) ∧ Drawn0 w w' := by
 have H : (if a0 = true then (some a1) else (some 0)) = some r := h
 clear h
 by_cases c3 : a0 = true
 ·
  subst c3
  rw [if_pos rfl] at H
  obtain rfl := Option.some.inj H
  go_enter Try.func22, Try.ntmps22
  go_wp2
  go_ret
  exact ⟨by first | rfl | (simp; done) | (simp [*]; done), by repeat (first | exact Drawn0.refl _ | apply Drawn0.step)⟩
 ·
  replace c3 := Bool.eq_false_iff.mpr c3
  subst c3
  rw [if_neg (show ¬ (false = true) by decide)] at H
  obtain rfl := Option.some.inj H
  go_enter Try.func22, Try.ntmps22
  go_wp2
  go_ret
  exact ⟨by first | rfl | (simp; done) | (simp [*]; done), by repeat (first | exact Drawn0.refl _ | apply Drawn0.step)⟩

/-! ### octet_Put: function 23 (by hand) -/
/-- The width as it is taken: from 0 to 8. -/
def octet_Put.wid (w : Int) : Nat := (mn (mx w 0) 8).toNat
theorem octet_Put.wid_eq (w : Int) : mn (mx w 0) 8 = (octet_Put.wid w : Int) := by
 unfold octet_Put.wid mn mx; split <;> split <;> omega
theorem octet_Put.wid_le (w : Int) : octet_Put.wid w ≤ 8 := by
 unfold octet_Put.wid mn mx; split <;> split <;> omega
/-- Bytes, and behind them a number's lowest bytes, the most significant one first. -/
def octet_Put.f (l0 : List Int) (a1 : Int) (a2 : Int) : Option (List Int) := if l0.length ≤ 140737488355200 then some (l0 ++ MBe.be a2 (octet_Put.wid a1)) else none
theorem octet_Put.set_rep (l : List Int) (d : Nat) (v : Int) (m : List Int) : (l ++ (List.replicate (d + 1) 0 ++ m)).set (l.length + d) v = l ++ (List.replicate d 0 ++ v :: m) := by
 rw [List.set_append_right _ _ (by omega), Nat.add_sub_cancel_left, List.replicate_succ', List.append_assoc, List.set_append_right _ _ (by simp)]
 simp
set_option maxHeartbeats 1000000 in
set_option maxRecDepth 100000 in
theorem octet_Put.calls (A0 : Option Addr) (c0 : Nat) (l0 : List Int) (a1 : Int) (a2 : Int) (r : List Int) (w : World) (hr0 : Kd.C (Kd.int .u8) w A0 l0.length l0) (hc0 : l0.length ≤ c0) (h : octet_Put.f l0 a1 a2 = some r) :
  Calls Try.prog 23 #[.slice A0 l0.length c0, .int .i64 a1, .int .u64 a2] w fun e w' => ∃ v0_ : Value, e = .returned (v0_) ∧ Kd.R (Kd.int .u8) 5 w' w.heap.size (fun _ => True) v0_ r ∧ Below w.heap.size w w' := by
 have HR0 := Aside0.mk hr0
 have HC0 := Aside0.mk hc0
 clear hr0 hc0
 have HB := Aside0.mk (Below.refl w.heap.size w)
 unfold octet_Put.f at h
 by_cases hl0 : l0.length ≤ 140737488355200
 ·
  rw [if_pos hl0] at h
  obtain rfl := Option.some.inj h
  clear h
  have hw8 := octet_Put.wid_le a1
  obtain ⟨m, hm⟩ : ∃ m, octet_Put.wid a1 = m := ⟨_, rfl⟩
  have hme := octet_Put.wid_eq a1
  rw [hm] at hw8 hme ⊢
  have HMB := Aside0.mk hm
  obtain ⟨q, hq⟩ : ∃ q, mx a1 0 = q := ⟨_, rfl⟩
  rw [hq] at hme
  unfold mn at hme
  unfold mx at hq
  clear hm
  have hsum : 0 ≤ (l0.length : Int) + (m : Int) := by omega
  obtain ⟨N, hN⟩ : ∃ N, N = l0.length + m := ⟨_, rfl⟩
  have HN := Aside0.mk hN
  have hNn : (l0.length : Int) + (m : Int) = (N : Int) := by omega
  have hNb : N ≤ 140737488355208 := by omega
  clear hN
  go_enter Try.func23, Try.ntmps23
  go_wp2_with (first | ((with_reducible refine gate_dst (N := 16) rfl ?_); refine Kd.R_make (Kd.int .u8) _ 5 rfl (N := 16) rfl 45 _ _ rfl (N : Int) rfl rfl Try.underlying45 (.int .u8 0) 1 info5 rfl (by decide) (by omega) 0 (ok := fun _ => True) (okp := fun _ => True) rfl (fun _ hk => hk) trivial (by omega) (by omega) (Below.refl _ _) (Nat.le_refl _) ?_; intro v1 w1 ho1 hb hg_ hnew_; clear hg_ hnew_; rw [Int.toNat_natCast] at ho1; have HO1 := Aside0.mk ho1; obtain ⟨A1, c1, e1⟩ := Kd.R_slice ho1; rw [List.length_replicate] at e1; subst e1; replace HB := Aside0.mk (below_step HB.out hb); clear hb ho1) | ((with_reducible refine gate_builtin (b := .copy) (xs := #[.tmp 17, .tmp 18]) rfl ?_); refine MCopy.R_copy (k := .u8) (w0 := w) (base := w.heap.size) (ok := fun _ => True) rfl (.tmp 17) (.tmp 18) 45 rfl Try.underlying45 (by kernel_rfl) (.slice A1 N c1) (List.replicate N 0) l0 A0 l0.length c0 rfl rfl HO1.out (Kd.C_below HR0.out HB.out) HB.out ?_; intro w2 n2 ho2 hb2; have HO2 := Aside0.mk ho2; clear HO1 HB ho2; have HB := Aside0.mk hb2; clear hb2))
  have ho3 : Kd.R (Kd.int .u8) 5 w2 w.heap.size (fun _ => True) (.slice A1 N c1) (l0 ++ (List.replicate m 0 ++ MBe.be a2 0)) := by
   have := HO2.out
   rw [HN.out, List.length_replicate, List.take_of_length_le (by omega), List.drop_replicate, Nat.add_sub_cancel_left] at this
   rw [HN.out, MBe.be, List.append_nil]; exact this
  have HO3 := Aside0.mk ho3
  clear HO2 ho3
  go_loopg [21] m (fun kq v21 w' => ∃ i : Nat, v21 = .int .i64 (i : Int) ∧ Aside0 (m = i + kq) ∧ Aside0 (Kd.R (Kd.int .u8) 5 w' w.heap.size (fun _ => True) (.slice A1 N c1) (l0 ++ (List.replicate kq 0 ++ MBe.be a2 i))) ∧ Aside0 (Below w.heap.size w w'))
  case atStart => exact ⟨0, rfl, ⟨by omega⟩, HO3, HB⟩
  case round =>
   clear HO3 HB
   obtain ⟨i, rfl, HI, HO, HB⟩ := hrel
   have hi := HI.out
   cases gk with
   | zero =>
    obtain rfl : m = i := by omega
    clear hi HI
    go_wp2
    go_ret
    exact ⟨_, rfl, by simpa using HO.out, HB.out⟩
   | succ d =>
    have hlt : (i : Int) < (m : Int) := by omega
    have hle : i ≤ 7 := by omega
    obtain ⟨ji, hji⟩ : ∃ ji : Int, (N : Int) - 1 - (i : Int) = ji := ⟨_, rfl⟩
    have hjd : ji.toNat = l0.length + d := by have := HN.out; omega
    have p0 : 0 ≤ ji := by omega
    have p1 : ji < (N : Int) := by omega
    have HJ := Aside0.mk hjd
    obtain ⟨s, hs⟩ : ∃ s : Int, (8 : Int) * (i : Int) = s := ⟨_, rfl⟩
    have hs0 : 0 ≤ s := by omega
    have hs1 : s ≤ 64 := by omega
    obtain ⟨t, ht⟩ : ∃ t : Int, shr .u64 a2 s = t := ⟨_, rfl⟩
    have ht_ : (a2 / 2 ^ min s.toNat 64) = t := ht
    have htz : (a2 / 2 ^ s.toNat) = t := shr_small ht hs1
    have hte : t = a2 / 256 ^ i := by rw [← htz, ← hs, show ((8 : Int) * (i : Int)).toNat = 8 * i by omega, Int.pow_mul]; rfl
    have HT := Aside0.mk hte
    obtain ⟨g, co, eo, gb, gl, cl, hG⟩ := Kd.R_form HO.out (by simp; omega)
    injection eo with ea_ en_ ec_
    subst ea_; subst ec_; clear en_
    have GB := Aside0.mk gb
    obtain ⟨hx, hf⟩ := Kd.R_celln 0 HO.out ji p0 p1
    have HP := Kd.R_putg HO.out ji (t % 256)
    clear gb gl hG hi hte hjd
    go_wp2_with (first | ((with_reducible refine gate_store (t := 5) (p := 35) rfl ?_); refine store_event (t := 5) (p := 35) (v := ?vo) (w1 := (wr.setCell ⟨g, ji.toNat, none⟩ (.int .u8 (t % 256)))) ?hg ?ho ?hn ?hr ?_; (case ho => rfl); (case hg => rfl); (case hn => rfl); (case hr => first | (go_simp; done) | (go_simp; rfl)); intro w5 hw; have hp_ := (show Kd.R (Kd.int .u8) 5 w5 w.heap.size (fun _ => True) (.slice (some ⟨g, 0, none⟩) N c1) _ from (by rw [hw]; exact HP.1)); have n0_ := Aside0.mk (by rw [hw]; exact below_set (HB.out) GB.out : Below w.heap.size w w5); clear HO HB HP; have hp2_ := hp_; have HB := n0_; clear n0_ hw hp_))
    rw [HJ.out, octet_Put.set_rep, HT.out] at hp2_
    go_roundg d
    case measure => omega
    case rel => exact ⟨i + 1, by go_num, ⟨by have := HI.out; omega⟩, ⟨hp2_⟩, HB⟩
 ·
  rw [if_neg hl0] at h
  exact absurd h (by simp)

/-! ### tally_Add: function 46 -/
def tally_Add.f (a0 : Int) (a1 : Int) : Option (Int) := some (IntKind.u16.wrap ((((((a0) % 4294967296) + ((a1) % 4294967296)) % 4294967296) + (((((a0) % 4294967296) + ((a1) % 4294967296)) % 4294967296) / 65536)) % 4294967296))
set_option maxHeartbeats 8000000 in
set_option maxRecDepth 100000 in
theorem tally_Add.calls (a0 : Int) (a1 : Int) (r : Int) (w : World) (h : tally_Add.f a0 a1 = some r) :
  Calls Try.prog 46 #[.int .u16 a0, .int .u16 a1] w fun e w' => e = .returned (.int .u16 r) ∧ Drawn0 w w' := by
 have H : (some (IntKind.u16.wrap ((((((a0) % 4294967296) + ((a1) % 4294967296)) % 4294967296) + (((((a0) % 4294967296) + ((a1) % 4294967296)) % 4294967296) / 65536)) % 4294967296))) = some r := h
 clear h
 obtain rfl := Option.some.inj H
 go_enter Try.func46, Try.ntmps46
 go_wp2
 go_ret
 exact ⟨by first | rfl | (simp; done) | (simp [*]; done), by repeat (first | exact Drawn0.refl _ | apply Drawn0.step)⟩

/-! ### tally_Sum: function 37 -/
mutual
def tally_Sum.l0 : Nat → List (List Int) → Int → Bool → Int → Int → Option (Int)
 | 0, _, _, _, _, _ => none
 | k + 1, x0, x3, x4, x10, x11 => if x11 < x10 then (if 0 ≤ x11 then (if x11 < (x0.length : Int) then (tally_Sum.l1 k x0 x3 x4 x10 x11 (rd_L5 x0 x11) ((rd_L5 x0 x11).length : Int) 0) else (none)) else (none)) else (some x3)
def tally_Sum.l1 : Nat → List (List Int) → Int → Bool → Int → Int → List Int → Int → Int → Option (Int)
 | 0, _, _, _, _, _, _, _, _ => none
 | k + 1, x0, x3, x4, x10, x11, x17, x18, x19 => if x19 < x18 then (if 0 ≤ x19 then (if x19 < (x17.length : Int) then (if x4 = true then ((tally_Add.f x3 (IntKind.u16.wrap ((IntKind.u16.wrap (rd x17 x19)) * 256))).bind fun t118 => (tally_Sum.l1 k x0 t118 (!x4) x10 x11 x17 x18 (wrap64 (x19 + 1)))) else ((tally_Add.f x3 (IntKind.u16.wrap (rd x17 x19))).bind fun t119 => (tally_Sum.l1 k x0 t119 (!x4) x10 x11 x17 x18 (wrap64 (x19 + 1))))) else (none)) else (none)) else (tally_Sum.l0 k x0 x3 x4 x10 (wrap64 (x11 + 1)))
end
def tally_Sum.f (k : Nat) (l0 : List (List Int)) : Option (Int) := tally_Sum.l0 k l0 0 true (l0.length : Int) 0
theorem tally_Sum.mono_l : ∀ k, (∀ y0 y1 y2 y3 y4, LeO (tally_Sum.l0 k y0 y1 y2 y3 y4) (tally_Sum.l0 (k + 1) y0 y1 y2 y3 y4)) ∧ (∀ y0 y1 y2 y3 y4 y5 y6 y7, LeO (tally_Sum.l1 k y0 y1 y2 y3 y4 y5 y6 y7) (tally_Sum.l1 (k + 1) y0 y1 y2 y3 y4 y5 y6 y7))
 | 0 => ⟨fun _ _ _ _ _ r h => by simp [tally_Sum.l0] at h, fun _ _ _ _ _ _ _ _ r h => by simp [tally_Sum.l1] at h⟩
 | k + 1 => by
  obtain ⟨ih0, ih1⟩ := tally_Sum.mono_l k
  refine ⟨?_, ?_⟩
  ·
   intro y0 y1 y2 y3 y4
   unfold tally_Sum.l0
   repeat' first
   | (with_reducible exact ih0 _ _ _ _ _)
   | (with_reducible exact ih1 _ _ _ _ _ _ _ _)
   | (with_reducible exact LeO.refl _)
   | (with_reducible exact LeO.none _)
   | (with_reducible refine LeO.ite ?_ ?_)
   | (with_reducible refine LeO.bind ?_ (fun _ => ?_))
   | exact ih0 _ _ _ _ _
   | exact ih1 _ _ _ _ _ _ _ _
   | exact LeO.none _
   | refine LeO.ite ?_ ?_
   | refine LeO.bind ?_ (fun _ => ?_)
  ·
   intro y0 y1 y2 y3 y4 y5 y6 y7
   unfold tally_Sum.l1
   repeat' first
   | (with_reducible exact ih0 _ _ _ _ _)
   | (with_reducible exact ih1 _ _ _ _ _ _ _ _)
   | (with_reducible exact LeO.refl _)
   | (with_reducible exact LeO.none _)
   | (with_reducible refine LeO.ite ?_ ?_)
   | (with_reducible refine LeO.bind ?_ (fun _ => ?_))
   | exact ih0 _ _ _ _ _
   | exact ih1 _ _ _ _ _ _ _ _
   | exact LeO.none _
   | refine LeO.ite ?_ ?_
   | refine LeO.bind ?_ (fun _ => ?_)
theorem tally_Sum.mono : ∀ a0 k, LeO (tally_Sum.f k a0) (tally_Sum.f (k + 1) a0) := by
 intro a0 k
 obtain ⟨ih0, ih1⟩ := tally_Sum.mono_l k
 unfold tally_Sum.f
 repeat' first
   | (with_reducible exact ih0 _ _ _ _ _)
   | (with_reducible exact ih1 _ _ _ _ _ _ _ _)
   | (with_reducible exact LeO.refl _)
   | (with_reducible exact LeO.none _)
   | (with_reducible refine LeO.ite ?_ ?_)
   | (with_reducible refine LeO.bind ?_ (fun _ => ?_))
   | exact ih0 _ _ _ _ _
   | exact ih1 _ _ _ _ _ _ _ _
   | exact LeO.none _
   | refine LeO.ite ?_ ?_
   | refine LeO.bind ?_ (fun _ => ?_)
set_option maxHeartbeats 8000000 in
set_option maxRecDepth 100000 in
theorem tally_Sum.calls (k : Nat) (A0 : Option Addr) (c0 : Nat) (l0 : List (List Int)) (r : Int) (w : World) (hr0 : Kd.C (Kd.slice 5 (Kd.int .u8)) w A0 l0.length l0) (hc0 : l0.length ≤ c0) (h : tally_Sum.f k l0 = some r) :
  Calls Try.prog 37 #[.slice A0 l0.length c0] w fun e w' => e = .returned (.int .u16 r) ∧ Drawn0 w w' := by
 have HR0 := Aside0.mk hr0
 have HC0 := Aside0.mk hc0
 clear hr0 hc0
 have H : (tally_Sum.l0 k l0 0 true (l0.length : Int) 0) = some r := h
 clear h
 have H' := Aside0.mk H
 clear H
 go_enter Try.func37, Try.ntmps37
 go_wp2
 go_loopg [3, 4, 11] k (fun kq v3 v4 v11 w' => ∃ (x3_1 : Int) (x4_1 : Bool) (x11_1 : Int), v3 = .int .u16 x3_1 ∧ v4 = .bool x4_1 ∧ v11 = .int .i64 x11_1 ∧ Aside0 (tally_Sum.l0 kq l0 x3_1 x4_1 (l0.length : Int) x11_1 = some r) ∧ Aside0 (kq ≤ k) ∧ Drawn0 w w')
 case atStart => exact ⟨(0), (true), (0), (by first | rfl | (simp; done) | (simp [*]; done)), (by first | rfl | (simp; done) | (simp [*]; done)), (by first | rfl | (simp; done) | (simp [*]; done)), H', ⟨Nat.le_refl _⟩, by repeat (first | exact Drawn0.refl _ | apply Drawn0.step)⟩
 case round =>
  clear H'
  obtain ⟨x3_1, x4_1, x11_1, rfl, rfl, rfl, HA, HK1, ⟨m1, rfl⟩⟩ := hrel
  cases gk with
  | zero => exact absurd HA.out (by simp [tally_Sum.l0])
  | succ k1 =>
   have H := HA.out
   clear HA
   simp only [tally_Sum.l0] at H
   by_cases c2 : x11_1 < (l0.length : Int)
   ·
    rw [if_pos c2] at H
    have c2b0 : decide (x11_1 < (l0.length : Int)) = true := decide_eq_true c2
    clear c2
    by_cases c3 : 0 ≤ x11_1
    ·
     rw [if_pos c3] at H
     have c3b0 : decide (0 ≤ x11_1) = true := decide_eq_true c3
     clear c3
     by_cases c4 : x11_1 < (l0.length : Int)
     ·
      rw [if_pos c4] at H
      have c4b0 : decide (x11_1 < (l0.length : Int)) = true := decide_eq_true c4
      clear c4
      have H' := Aside0.mk H
      clear H
      have p116 : 0 ≤ (x11_1 : Int) := of_decide_eq_true (by first | (with_reducible assumption) | assumption)
      have q116 : x11_1 < (l0.length : Int) := of_decide_eq_true (by first | (with_reducible assumption) | assumption)
      obtain ⟨ad116, A116_0, c116_0, e116, hx116_0, hl116_0, hi116_0⟩ := at_L5 HR0.out x11_1 p116 q116
      cases e116
      have HR116_0 := Aside0.mk hi116_0
      have HC116_0 := Aside0.mk hl116_0
      clear hi116_0 hl116_0
      replace p116 := eq_true p116
      replace q116 := eq_true q116
      go_wp2
      go_loopg [3, 4, 19] k1 (fun kq v3 v4 v19 w' => ∃ (x3_2 : Int) (x4_2 : Bool) (x19_2 : Int), v3 = .int .u16 x3_2 ∧ v4 = .bool x4_2 ∧ v19 = .int .i64 x19_2 ∧ Aside0 (tally_Sum.l1 kq l0 x3_2 x4_2 (l0.length : Int) x11_1 (rd_L5 l0 x11_1) ((rd_L5 l0 x11_1).length : Int) x19_2 = some r) ∧ Aside0 (kq ≤ k1) ∧ Drawn0 w w')
      case atStart => exact ⟨(x3_1), (x4_1), (0), (by first | rfl | (simp; done) | (simp [*]; done)), (by first | rfl | (simp; done) | (simp [*]; done)), (by first | rfl | (simp; done) | (simp [*]; done)), H', ⟨Nat.le_refl _⟩, by repeat (first | exact Drawn0.refl _ | apply Drawn0.step)⟩
      case round =>
       clear H'
       try clear c1
       try clear p1
       try clear q1
       try clear hx1
       try clear c2
       try clear c2b0
       try clear p2
       try clear c3
       try clear c3b0
       try clear c4
       try clear c4b0
       try clear hx116_0
       try clear p116
       try clear q116
       obtain ⟨x3_2, x4_2, x19_2, rfl, rfl, rfl, HA, HK2, ⟨m2, rfl⟩⟩ := hrel
       cases gk with
       | zero => exact absurd HA.out (by simp [tally_Sum.l1])
       | succ k2 =>
        have H := HA.out
        clear HA
        simp only [tally_Sum.l1] at H
        by_cases c5 : x19_2 < ((rd_L5 l0 x11_1).length : Int)
        ·
         rw [if_pos c5] at H
         have c5b0 : decide (x19_2 < ((rd_L5 l0 x11_1).length : Int)) = true := decide_eq_true c5
         clear c5
         by_cases c6 : 0 ≤ x19_2
         ·
          rw [if_pos c6] at H
          have c6b0 : decide (0 ≤ x19_2) = true := decide_eq_true c6
          clear c6
          by_cases c7 : x19_2 < ((rd_L5 l0 x11_1).length : Int)
          ·
           rw [if_pos c7] at H
           have c7b0 : decide (x19_2 < ((rd_L5 l0 x11_1).length : Int)) = true := decide_eq_true c7
           clear c7
           by_cases c8 : x4_2 = true
           ·
            subst c8
            rw [if_pos rfl] at H
            replace H := Option.bind_eq_some_iff.mp H
            obtain ⟨t118, A90, H⟩ := H
            have A9 := Aside0.mk A90
            clear A90
            have H' := Aside0.mk H
            clear H
            have p117 : 0 ≤ (x19_2 : Int) := of_decide_eq_true (by first | (with_reducible assumption) | assumption)
            have q117 : x19_2 < ((rd_L5 l0 x11_1).length : Int) := of_decide_eq_true (by first | (with_reducible assumption) | assumption)
            obtain ⟨ad117, e117, hx117_0⟩ := Kd.at_int HR116_0.out x19_2 p117 q117
            cases e117
            replace p117 := eq_true p117
            replace q117 := eq_true q117
            go_wp2_with (first | ((with_reducible refine gate_callee (f := 46) rfl ?_); refine sh_C 30 Try.func46 #[.int .u16 x3_2, .int .u16 (IntKind.u16.wrap ((IntKind.u16.wrap (rd (rd_L5 l0 x11_1) x19_2)) * 256))] ?_; (with_reducible refine (tally_Add.calls x3_2 (IntKind.u16.wrap ((IntKind.u16.wrap (rd (rd_L5 l0 x11_1) x19_2)) * 256)) t118 _ A9.out).mono ?_); rintro e w' ⟨rfl, ⟨nd, rfl⟩⟩; refine ⟨_, rfl, ?_⟩))
            go_roundg k2
            case measure => have := HK1.out; have := HK2.out; omega
            case rel => exact ⟨(t118), (!true), (wrap64 (x19_2 + 1)), (by first | rfl | (simp; done) | (simp [*]; done)), (by first | rfl | (simp; done) | (simp [*]; done)), (by first | rfl | (simp; done) | (simp [*]; done)), H', ⟨by have := HK1.out; have := HK2.out; omega⟩, by repeat (first | exact Drawn0.refl _ | apply Drawn0.step)⟩
           ·
            replace c8 := Bool.eq_false_iff.mpr c8
            subst c8
            rw [if_neg (show ¬ (false = true) by decide)] at H
            replace H := Option.bind_eq_some_iff.mp H
            obtain ⟨t119, A100, H⟩ := H
            have A10 := Aside0.mk A100
            clear A100
            have H' := Aside0.mk H
            clear H
            have p117 : 0 ≤ (x19_2 : Int) := of_decide_eq_true (by first | (with_reducible assumption) | assumption)
            have q117 : x19_2 < ((rd_L5 l0 x11_1).length : Int) := of_decide_eq_true (by first | (with_reducible assumption) | assumption)
            obtain ⟨ad117, e117, hx117_0⟩ := Kd.at_int HR116_0.out x19_2 p117 q117
            cases e117
            replace p117 := eq_true p117
            replace q117 := eq_true q117
            go_wp2_with (first | ((with_reducible refine gate_callee (f := 46) rfl ?_); refine sh_C 30 Try.func46 #[.int .u16 x3_2, .int .u16 (IntKind.u16.wrap (rd (rd_L5 l0 x11_1) x19_2))] ?_; (with_reducible refine (tally_Add.calls x3_2 (IntKind.u16.wrap (rd (rd_L5 l0 x11_1) x19_2)) t119 _ A10.out).mono ?_); rintro e w' ⟨rfl, ⟨nd, rfl⟩⟩; refine ⟨_, rfl, ?_⟩))
            go_roundg k2
            case measure => have := HK1.out; have := HK2.out; omega
            case rel => exact ⟨(t119), (!false), (wrap64 (x19_2 + 1)), (by first | rfl | (simp; done) | (simp [*]; done)), (by first | rfl | (simp; done) | (simp [*]; done)), (by first | rfl | (simp; done) | (simp [*]; done)), H', ⟨by have := HK1.out; have := HK2.out; omega⟩, by repeat (first | exact Drawn0.refl _ | apply Drawn0.step)⟩
          ·
           rw [if_neg c7] at H
           exact absurd H (by simp)
         ·
          rw [if_neg c6] at H
          exact absurd H (by simp)
        ·
         rw [if_neg c5] at H
         have c5b0 : decide (x19_2 < ((rd_L5 l0 x11_1).length : Int)) = false := decide_eq_false c5
         clear c5
         have H' := Aside0.mk H
         clear H
         go_wp2
         go_roundg k2
         case measure => have := HK1.out; have := HK2.out; omega
         case rel => exact ⟨(x3_2), (x4_2), (wrap64 (x11_1 + 1)), (by first | rfl | (simp; done) | (simp [*]; done)), (by first | rfl | (simp; done) | (simp [*]; done)), (by first | rfl | (simp; done) | (simp [*]; done)), H', ⟨by have := HK1.out; have := HK2.out; omega⟩, by repeat (first | exact Drawn0.refl _ | apply Drawn0.step)⟩
     ·
      rw [if_neg c4] at H
      exact absurd H (by simp)
    ·
     rw [if_neg c3] at H
     exact absurd H (by simp)
   ·
    rw [if_neg c2] at H
    have c2b0 : decide (x11_1 < (l0.length : Int)) = false := decide_eq_false c2
    clear c2
    obtain rfl := Option.some.inj H
    go_wp2
    go_ret
    exact ⟨by first | rfl | (simp; done) | (simp [*]; done), by repeat (first | exact Drawn0.refl _ | apply Drawn0.step)⟩

/-! ### tally_Check: function 24 -/
def tally_Check.f (k : Nat) (l0 : List (List Int)) : Option (Int) := (tally_Sum.f k l0).bind fun t120 => (some (IntKind.u16.wrap (65535 - t120)))
theorem tally_Check.mono : ∀ a0 k, LeO (tally_Check.f k a0) (tally_Check.f (k + 1) a0) := by
 intro a0 k
 unfold tally_Check.f
 repeat' first
   | (with_reducible exact tally_Sum.mono _ _)
   | (with_reducible exact LeO.refl _)
   | (with_reducible exact LeO.none _)
   | (with_reducible refine LeO.ite ?_ ?_)
   | (with_reducible refine LeO.bind ?_ (fun _ => ?_))
   | exact tally_Sum.mono _ _
   | exact LeO.none _
   | refine LeO.ite ?_ ?_
   | refine LeO.bind ?_ (fun _ => ?_)
set_option maxHeartbeats 8000000 in
set_option maxRecDepth 100000 in
theorem tally_Check.calls (k : Nat) (A0 : Option Addr) (c0 : Nat) (l0 : List (List Int)) (r : Int) (w : World) (hr0 : Kd.C (Kd.slice 5 (Kd.int .u8)) w A0 l0.length l0) (hc0 : l0.length ≤ c0) (h : tally_Check.f k l0 = some r) :
  Calls Try.prog 24 #[.slice A0 l0.length c0] w fun e w' => e = .returned (.int .u16 r) ∧ Drawn0 w w' := by
 have HR0 := Aside0.mk hr0
 have HC0 := Aside0.mk hc0
 clear hr0 hc0
 have H : ((tally_Sum.f k l0).bind fun t120 => (some (IntKind.u16.wrap (65535 - t120)))) = some r := h
 clear h
 replace H := Option.bind_eq_some_iff.mp H
 obtain ⟨t120, A20, H⟩ := H
 have A2 := Aside0.mk A20
 clear A20
 obtain rfl := Option.some.inj H
 go_enter Try.func24, Try.ntmps24
 go_wp2_with (first | ((with_reducible refine gate_callee (f := 37) rfl ?_); refine sh_C 4 Try.func37 #[.slice A0 l0.length c0] ?_; (with_reducible refine (tally_Sum.calls k _ _ l0 t120 _ ?side1 ?side2 A2.out).mono ?_); (case side1 => repeat (first | exact HR0.out | (with_reducible refine Kd.C_alloc ?_ _) | (with_reducible refine Kd.C_drewN ?_ _) | (with_reducible refine Kd.C_drew ?_))); (case side2 => exact HC0.out); rintro e w' ⟨rfl, ⟨nd, rfl⟩⟩; refine ⟨_, rfl, ?_⟩))
 go_ret
 exact ⟨by first | rfl | (simp; done) | (simp [*]; done), by repeat (first | exact Drawn0.refl _ | apply Drawn0.step)⟩

end Go.Proofs.Ytedampcicmaamaa.PBase
