/- Functions of the program as Lean functions, each with a proof that a call comes to what it says. Conditions: those of each theorem. Laid by a program of this session. -/
import Derived.Test.YtaoopneiglgnkaaDoorPBasex0
import Derived.Test.YtaoopneiglgnkaaDoorPBasex4
import Derived.Test.YtaoopneiglgnkaaDoorPBasex5
import Derived.Test.YtaoopneiglgnkaaDoorPBasex6
import Derived.Test.YtaoopneiglgnkaaDoorPBasex7
import Derived.Test.YtaoopneiglgnkaaDoorPBasex8
namespace Go.Proofs.YtaoopneiglgnkaaDoor.PBase
open Go.RowKit Go.Proofs.YtaoopneiglgnkaaDoor Go.Proofs.YtaoopneiglgnkaaDoorW.PrintWords Go.Proofs.YtaoopneiglgnkaaDoorW.PrintLast Go.Proofs.YtaoopneiglgnkaaDoorW.PrintMore
attribute [local go_sem] max2_int min2_int max_two min_two max_three min_three max_four min_four   -- for this text's walks alone
set_option linter.unusedVariables false
set_option linter.unusedSimpArgs false

/-! ### ip4_Options: function 50 (by hand) -/
/-- The options that stand from a place on. -/
def ip4_Options.l (s : ByteArray) : Nat → List S113 → Int → Option (List S113 × Int)
 | 0, _, _ => none
 | k + 1, out, at_ => if at_ = (s.size : Int) then some (out, 0) else if bt s at_ = 0 then some (out, 0) else
   if bt s at_ = 1 then ip4_Options.l s k (out ++ [(⟨1, ⟨#[]⟩⟩ : S113)]) (at_ + 1) else
   if at_ + 1 = (s.size : Int) then some ([], 50) else
   if bt s (at_ + 1) < 2 then some ([], 50) else if (s.size : Int) - at_ < bt s (at_ + 1) then some ([], 50) else
   ip4_Options.l s k (out ++ [(⟨bt s at_, s.extract (at_ + 2).toNat (at_ + bt s (at_ + 1)).toNat⟩ : S113)]) (at_ + bt s (at_ + 1))
def ip4_Options.f (a0 : ByteArray) : Option (List S113 × Int) := if a0.size ≤ 1099511627776 then ip4_Options.l a0 (a0.size + 1) [] 0 else none
/-- What holds at the labels. -/
def ip4_Options.J (s : ByteArray) (r : List S113 × Int) (w0 : World) (g l : Nat) (a : Act) (w : World) : Prop :=
 ∃ (at_ : Int) (out : List S113) (v4 v6 v7 u8 u9 u10 u11 u12 u13 u14 u15 u16 u17 u18 u19 u20 u21 u22 u23 u24 u25 u26 u27 u28 u29 u30 u31 u32 u33 u34 u35 u36 u37 u38 u39 u40 u41 u42 u43 u44 u45 u46 u47 u48 u49 u50 u51 u52 u53 u54 u55 u56 u57 u58 u59 u60 u61 : Value), a = { tmps := #[.string s, undef, .slice none 0 0, .int .i64 0, v4, .int .i64 at_, v6, v7, u8, u9, u10, u11, u12, u13, u14, u15, u16, u17, u18, u19, u20, u21, u22, u23, u24, u25, u26, u27, u28, u29, u30, u31, u32, u33, u34, u35, u36, u37, u38, u39, u40, u41, u42, u43, u44, u45, u46, u47, u48, u49, u50, u51, u52, u53, u54, u55, u56, u57, u58, u59, u60, u61], defers := [] } ∧
  ((l = 1 ∧ ip4_Options.l s g out at_ = some r) ∨ (l = 2 ∧ r = ([], 50)) ∨ (l = 0 ∧ r = (out, 0))) ∧ ((out.length : Int) ≤ at_ ∧ 0 ≤ at_ ∧ at_ ≤ (s.size : Int)) ∧ Kd.R k113 113 w w0.heap.size (fun _ => True) v4 out ∧ Below w0.heap.size w0 w
set_option maxHeartbeats 4000000 in
set_option maxRecDepth 100000 in
theorem ip4_Options.calls (a0 : ByteArray) (r1 : List S113) (r2 : Int) (w : World) (h : ip4_Options.f a0 = some (r1, r2)) :
  Calls Tryd.prog 50 #[.string a0] w fun e w' => ∃ v0_ : Value, e = .returned (.tuple #[v0_, .int .i64 r2]) ∧ Kd.R k113 113 w' w.heap.size (fun _ => True) v0_ r1 ∧ Below w.heap.size w w' := by
 unfold ip4_Options.f at h
 by_cases hs : a0.size ≤ 1099511627776
 case neg => rw [if_neg hs] at h; cases h
 rw [if_pos hs] at h
 have HS := Aside0.mk hs
 have H := Aside0.mk h
 clear h hs
 go_enter Tryd.func50, Tryd.ntmps50
 go_wp2
 apply wp_scope_labels (ip4_Options.J a0 (r1, r2) w) (a0.size + 1) 1 rfl
 · intro X hX
   go_wp2
   go_step3
   rename_i hK
   exact hK _ _ hX
 · exact ⟨_, [], _, _, _, _, _, _, _, _, _, _, _, _, _, _, _, _, _, _, _, _, _, _, _, _, _, _, _, _, _, _, _, _, _, _, _, _, _, _, _, _, _, _, _, _, _, _, _, _, _, _, _, _, _, _, _, _, _, rfl, .inl ⟨rfl, H.out⟩, ⟨by simp, by omega, by omega⟩, Kd.R_nil _ _ _ _ _, Below.refl _ _⟩
 · rintro g l a w1 ⟨at_, out, v4, v6, v7, u8, u9, u10, u11, u12, u13, u14, u15, u16, u17, u18, u19, u20, u21, u22, u23, u24, u25, u26, u27, u28, u29, u30, u31, u32, u33, u34, u35, u36, u37, u38, u39, u40, u41, u42, u43, u44, u45, u46, u47, u48, u49, u50, u51, u52, u53, u54, u55, u56, u57, u58, u59, u60, u61, rfl, hl, ⟨hlen, h0, h1⟩, ho, hb⟩
   have HO := Aside0.mk ho
   have HB := Aside0.mk hb
   clear ho hb H
   rcases hl with ⟨rfl, hl⟩ | ⟨rfl, hl⟩ | ⟨rfl, hl⟩
   · refine ⟨_, rfl, ?_⟩
     cases g with
     | zero => simp [ip4_Options.l] at hl
     | succ g =>
      rw [ip4_Options.l] at hl
      obtain ⟨A8, c8, rfl⟩ := Kd.R_slice HO.out
      by_cases ce : at_ = (a0.size : Int)
      · rw [if_pos ce] at hl
        have HL := Aside0.mk hl
        have t0 : (at_ == (a0.size : Int)) = true := by simpa using ce
        clear hl ce HS
        go_wp2
        go_step3
        exact ⟨0, Nat.succ_pos _, at_, out, _, _, _, _, _, _, _, _, _, _, _, _, _, _, _, _, _, _, _, _, _, _, _, _, _, _, _, _, _, _, _, _, _, _, _, _, _, _, _, _, _, _, _, _, _, _, _, _, _, _, _, _, _, _, _, _, _, rfl, .inr (.inr ⟨rfl, (Option.some.inj HL.out).symm⟩), ⟨hlen, h0, h1⟩, HO.out, HB.out⟩
      rw [if_neg ce] at hl
      have t0 : (at_ == (a0.size : Int)) = false := by simpa using ce
      have hb3 := (bt_range a0 at_).1
      have hb4 := (bt_range a0 at_).2
      have hx0 := bt_at a0 at_
      have p0 : (0 ≤ at_) = True := eq_true (by omega)
      have q0 : (at_ < (a0.size : Int)) = True := eq_true (by omega)
      by_cases c0 : bt a0 at_ = 0
      · rw [if_pos c0] at hl
        have HL := Aside0.mk hl
        have t1 : (bt a0 at_ == 0) = true := by simpa using c0
        clear hl ce c0 HS
        go_wp2
        go_step3
        exact ⟨0, Nat.succ_pos _, at_, out, _, _, _, _, _, _, _, _, _, _, _, _, _, _, _, _, _, _, _, _, _, _, _, _, _, _, _, _, _, _, _, _, _, _, _, _, _, _, _, _, _, _, _, _, _, _, _, _, _, _, _, _, _, _, _, _, _, rfl, .inr (.inr ⟨rfl, (Option.some.inj HL.out).symm⟩), ⟨hlen, h0, h1⟩, HO.out, HB.out⟩
      rw [if_neg c0] at hl
      have t1 : (bt a0 at_ == 0) = false := by simpa using c0
      by_cases c1 : bt a0 at_ = 1
      · rw [if_pos c1] at hl
        have HL := Aside0.mk hl
        have t2 : (bt a0 at_ == 1) = true := by simpa using c1
        have hs := HS.out
        clear hl c0 c1 HS
        go_wp2_with (first | ((with_reducible refine gate_builtin (b := .append) (xs := #[.tmp 20, .tmp 22]) rfl ?_); at_builtin; refine Kd.R_append k113 (w0 := w) w.heap.size rfl (.tmp 20) (.tmp 22) 89 113 (.agg #[(.int .i64 0), (.string ⟨#[]⟩)]) 24 rfl Tryd.underlying89 info113 rfl (by decide) (by omega) (.slice A8 out.length c8) out (⟨1, ⟨#[]⟩⟩ : S113) [.int .i64 1, .string ⟨#[]⟩] (fun _ => True) (fun _ => False) rfl rfl ?aP (fun _ hk => hk.elim) ?aF ?aO ?aB ?aS ?aL ?_; (case aP => exact k113_mkM _ _ _ _); (case aB => exact (sh_B HB)); (case aF => exact (fun _ _ => trivial)); (case aO => exact (by (with_reducible repeat (first | apply Kd.R_alloc | apply Kd.R_drewN | apply Kd.R_drew)); exact HO.out)); (case aS => exact (below_size (sh_B HB))); (case aL => omega); intro v2 w2 ho hb hg hat; have HO2 := Aside0.mk ho; have HB2 := Aside0.mk hb; clear HO HB ho hb hg hat))
        go_step3
        exact ⟨g, Nat.lt_succ_self _, at_ + 1, out ++ [(⟨1, ⟨#[]⟩⟩ : S113)], v2, _, _, _, _, _, _, _, _, _, _, _, _, _, _, _, _, _, _, _, _, _, _, _, _, _, _, _, _, _, _, _, _, _, _, _, _, _, _, _, _, _, _, _, _, _, _, _, _, _, _, _, _, _, _, _, _, rfl, .inl ⟨rfl, HL.out⟩, ⟨by simp; omega, by omega, by omega⟩, HO2.out, HB2.out⟩
      rw [if_neg c1] at hl
      have t2 : (bt a0 at_ == 1) = false := by simpa using c1
      by_cases c2 : at_ + 1 = (a0.size : Int)
      · rw [if_pos c2] at hl
        have HL := Aside0.mk hl
        have t3 : (at_ + 1 == (a0.size : Int)) = true := by simpa using c2
        have hs := HS.out
        clear hl c2 HS ce c0 c1
        go_wp2
        go_step3
        exact ⟨0, Nat.succ_pos _, at_, out, _, _, _, _, _, _, _, _, _, _, _, _, _, _, _, _, _, _, _, _, _, _, _, _, _, _, _, _, _, _, _, _, _, _, _, _, _, _, _, _, _, _, _, _, _, _, _, _, _, _, _, _, _, _, _, _, _, rfl, .inr (.inl ⟨rfl, (Option.some.inj HL.out).symm⟩), ⟨hlen, h0, h1⟩, HO.out, HB.out⟩
      rw [if_neg c2] at hl
      have t3 : (at_ + 1 == (a0.size : Int)) = false := by simpa using c2
      have hb1 := (bt_range a0 (at_ + 1)).1
      have hb2 := (bt_range a0 (at_ + 1)).2
      have hx1 := bt_at a0 (at_ + 1)
      have p1 : (0 ≤ at_ + 1) = True := eq_true (by omega)
      have q1 : (at_ + 1 < (a0.size : Int)) = True := eq_true (by omega)
      by_cases c3 : bt a0 (at_ + 1) < 2
      · rw [if_pos c3] at hl
        have HL := Aside0.mk hl
        have hs := HS.out
        clear hl c2 HS ce c0 c1
        go_wp2
        go_step3
        exact ⟨0, Nat.succ_pos _, at_, out, _, _, _, _, _, _, _, _, _, _, _, _, _, _, _, _, _, _, _, _, _, _, _, _, _, _, _, _, _, _, _, _, _, _, _, _, _, _, _, _, _, _, _, _, _, _, _, _, _, _, _, _, _, _, _, _, _, rfl, .inr (.inl ⟨rfl, (Option.some.inj HL.out).symm⟩), ⟨hlen, h0, h1⟩, HO.out, HB.out⟩
      rw [if_neg c3] at hl
      by_cases c4 : (a0.size : Int) - at_ < bt a0 (at_ + 1)
      · rw [if_pos c4] at hl
        have HL := Aside0.mk hl
        have hs := HS.out
        clear hl c2 HS ce c0 c1
        go_wp2
        go_step3
        exact ⟨0, Nat.succ_pos _, at_, out, _, _, _, _, _, _, _, _, _, _, _, _, _, _, _, _, _, _, _, _, _, _, _, _, _, _, _, _, _, _, _, _, _, _, _, _, _, _, _, _, _, _, _, _, _, _, _, _, _, _, _, _, _, _, _, _, _, rfl, .inr (.inl ⟨rfl, (Option.some.inj HL.out).symm⟩), ⟨hlen, h0, h1⟩, HO.out, HB.out⟩
      rw [if_neg c4] at hl
      have HL := Aside0.mk hl
      have hs := HS.out
      have p2 : (0 ≤ at_ + 2) = True := eq_true (by omega)
      have q2 : (at_ + 2 ≤ at_ + bt a0 (at_ + 1)) = True := eq_true (by omega)
      have q3 : (at_ + bt a0 (at_ + 1) ≤ (a0.size : Int)) = True := eq_true (by omega)
      clear hl c2 HS ce c0 c1
      go_wp2_with (first | ((with_reducible refine gate_builtin (b := .append) (xs := #[.tmp 46, .tmp 56]) rfl ?_); at_builtin; refine Kd.R_append k113 (w0 := w) w.heap.size rfl (.tmp 46) (.tmp 56) 89 113 (.agg #[(.int .i64 0), (.string ⟨#[]⟩)]) 24 rfl Tryd.underlying89 info113 rfl (by decide) (by omega) (.slice A8 out.length c8) out (⟨bt a0 at_, a0.extract (at_ + 2).toNat (at_ + bt a0 (at_ + 1)).toNat⟩ : S113) [.int .i64 (bt a0 at_), .string (a0.extract (at_ + 2).toNat (at_ + bt a0 (at_ + 1)).toNat)] (fun _ => True) (fun _ => False) rfl rfl ?aP (fun _ hk => hk.elim) ?aF ?aO ?aB ?aS ?aL ?_; (case aP => exact k113_mkM _ _ _ _); (case aB => exact (sh_B HB)); (case aF => exact (fun _ _ => trivial)); (case aO => exact (by (with_reducible repeat (first | apply Kd.R_alloc | apply Kd.R_drewN | apply Kd.R_drew)); exact HO.out)); (case aS => exact (below_size (sh_B HB))); (case aL => omega); intro v2 w2 ho hb hg hat; have HO2 := Aside0.mk ho; have HB2 := Aside0.mk hb; clear HO HB ho hb hg hat))
      go_step3
      exact ⟨g, Nat.lt_succ_self _, at_ + bt a0 (at_ + 1), out ++ [(⟨bt a0 at_, a0.extract (at_ + 2).toNat (at_ + bt a0 (at_ + 1)).toNat⟩ : S113)], v2, _, _, _, _, _, _, _, _, _, _, _, _, _, _, _, _, _, _, _, _, _, _, _, _, _, _, _, _, _, _, _, _, _, _, _, _, _, _, _, _, _, _, _, _, _, _, _, _, _, _, _, _, _, _, _, _, rfl, .inl ⟨rfl, HL.out⟩, ⟨by simp; omega, by omega, by omega⟩, HO2.out, HB2.out⟩
   · injection hl with e1 e2
     subst e1 e2
     refine ⟨_, rfl, ?_⟩
     go_wp2
     rw [Jumps_ret]
     refine bodyPost_ret (results_list (rs := [.tmp 2, .tmp 3]) rfl (by simp) (.tmp (.tmp .nil))) rfl ?_
     exact ⟨_, rfl, Kd.R_nil _ _ _ _ _, HB.out⟩
   · injection hl with e1 e2
     subst e1 e2
     refine ⟨_, rfl, ?_⟩
     go_wp2
     rw [Jumps_ret]
     refine bodyPost_ret (results_list (rs := [.tmp 2, .tmp 3]) rfl (by simp) (.tmp (.tmp .nil))) rfl ?_
     exact ⟨_, rfl, HO.out, HB.out⟩

/-! ### ip4_Take: function 20 (by hand) -/
/-- A number that is there. -/
def ip4_Take.num (k : Nat) (l : List Int) (w : Int) : Option Int := (octet_Get.f k l 0 w).bind fun n => if n.2 = true then some n.1 else none
theorem ip4_Take.num_get {k : Nat} {l : List Int} {w n : Int} (h : ip4_Take.num k l w = some n) : octet_Get.f k l 0 w = some (n, true) := by
 unfold ip4_Take.num at h
 obtain ⟨⟨a, b⟩, h1, h2⟩ := Option.bind_eq_some_iff.1 h
 split at h2
 · rename_i hb
   injection h2 with h2
   simp only at hb h2
   rw [h1, hb, h2]
 · cases h2
theorem ip4_Take.num_mono (l : List Int) (w : Int) (k : Nat) : LeO (ip4_Take.num k l w) (ip4_Take.num (k + 1) l w) := by
 unfold ip4_Take.num
 exact LeO.bind (octet_Get.mono _ _ _ _) (fun _ => LeO.refl _)
/-- Nothing, and why. -/
def ip4_Take.no (e : Int) : Int × Int × Bool × Bool × Int × Int × Int × Bool × Int × Int × Bool × Int × Int × ByteArray × ByteArray × Int := (0, 0, false, false, 0, 0, 0, false, 0, 0, false, 0, 0, ⟨#[]⟩, ⟨#[]⟩, e)
/-- What the ten numbers of a header and its options come to. -/
def ip4_Take.fin (s : ByteArray) (hd wh tos id off ttl proto src dst : Int) (o : List S113 × Int) : Option (Int × Int × Bool × Bool × Int × Int × Int × Bool × Int × Int × Bool × Int × Int × ByteArray × ByteArray × Int) :=
 if ¬ (0 ≤ tos ∧ tos ≤ 255 ∧ 0 ≤ id ∧ id ≤ 65535 ∧ 0 ≤ off ∧ off ≤ 65535 ∧ 0 ≤ ttl ∧ ttl ≤ 255 ∧ 0 ≤ proto ∧ proto ≤ 255) then none else
 if ¬ o.2 = 0 then some (ip4_Take.no o.2) else some (tos, id, Go.bits .and .i64 off 16384 != 0, Go.bits .and .i64 off 8192 != 0, Go.bits .and .i64 off 8191, ttl, proto, false, 0, src, false, 0, dst, s.extract 20 hd.toNat, s.extract hd.toNat wh.toNat, 0)
def ip4_Take.f (k : Nat) (s : ByteArray) : Option (Int × Int × Bool × Bool × Int × Int × Int × Bool × Int × Int × Bool × Int × Int × ByteArray × ByteArray × Int) :=
 (ip4_heads.f k s).bind fun h => if ¬ h.2.2 = 0 then some (ip4_Take.no h.2.2) else if ¬ (20 ≤ h.1 ∧ h.1 ≤ h.2.1 ∧ h.2.1 ≤ (s.size : Int)) then none else
 (ip4_Take.num k (bytesOf (s.extract 0 20)) 1).bind fun n0 => (ip4_Take.num k ((bytesOf (s.extract 0 20)).drop 1) 1).bind fun tos => (ip4_Take.num k ((bytesOf (s.extract 0 20)).drop 2) 2).bind fun n2 =>
 (ip4_Take.num k ((bytesOf (s.extract 0 20)).drop 4) 2).bind fun id => (ip4_Take.num k ((bytesOf (s.extract 0 20)).drop 6) 2).bind fun off => (ip4_Take.num k ((bytesOf (s.extract 0 20)).drop 8) 1).bind fun ttl => (ip4_Take.num k ((bytesOf (s.extract 0 20)).drop 9) 1).bind fun proto =>
 (ip4_Take.num k ((bytesOf (s.extract 0 20)).drop 10) 2).bind fun n10 => (ip4_Take.num k ((bytesOf (s.extract 0 20)).drop 12) 4).bind fun src => (ip4_Take.num k ((bytesOf (s.extract 0 20)).drop 16) 4).bind fun dst =>
 (ip4_Options.f (s.extract 20 h.1.toNat)).bind fun o => ip4_Take.fin s h.1 h.2.1 tos id off ttl proto src dst o
theorem RS.all15 {T g b gp t : Nat} {wb W : World} {bs : List (Nat × Obj)} {l : List Int} {v0 v1 v2 v3 v4 v5 v6 v7 v8 v9 v10 v11 v12 v13 v14 : Value} (h : RS T wb ((gp, .cells #[v0, v1, v2, v3, v4, v5, v6, v7, v8, v9, v10, v11, v12, v13, v14] t (0, 0)) :: bs) g b l W) (hge : wb.heap.size ≤ gp) (hne : ∀ x ∈ bs, x.1 ≠ gp) (b0 b1 b2 b3 b4 b5 b6 b7 b8 b9 b10 b11 b12 b13 b14 : Value) : RS T wb ((gp, .cells #[b0, b1, b2, b3, b4, b5, b6, b7, b8, b9, b10, b11, b12, b13, b14] t (0, 0)) :: bs) g b l (((((((((((((((W.setCell ⟨gp, 0, none⟩ b0).setCell ⟨gp, 1, none⟩ b1).setCell ⟨gp, 2, none⟩ b2).setCell ⟨gp, 3, none⟩ b3).setCell ⟨gp, 4, none⟩ b4).setCell ⟨gp, 5, none⟩ b5).setCell ⟨gp, 6, none⟩ b6).setCell ⟨gp, 7, none⟩ b7).setCell ⟨gp, 8, none⟩ b8).setCell ⟨gp, 9, none⟩ b9).setCell ⟨gp, 10, none⟩ b10).setCell ⟨gp, 11, none⟩ b11).setCell ⟨gp, 12, none⟩ b12).setCell ⟨gp, 13, none⟩ b13).setCell ⟨gp, 14, none⟩ b14) := by
 replace h := h.set hge hne 0 b0
 rw [show (#[v0, v1, v2, v3, v4, v5, v6, v7, v8, v9, v10, v11, v12, v13, v14] : Array Value).setIfInBounds 0 b0 = #[b0, v1, v2, v3, v4, v5, v6, v7, v8, v9, v10, v11, v12, v13, v14] from rfl] at h
 replace h := h.set hge hne 1 b1
 rw [show (#[b0, v1, v2, v3, v4, v5, v6, v7, v8, v9, v10, v11, v12, v13, v14] : Array Value).setIfInBounds 1 b1 = #[b0, b1, v2, v3, v4, v5, v6, v7, v8, v9, v10, v11, v12, v13, v14] from rfl] at h
 replace h := h.set hge hne 2 b2
 rw [show (#[b0, b1, v2, v3, v4, v5, v6, v7, v8, v9, v10, v11, v12, v13, v14] : Array Value).setIfInBounds 2 b2 = #[b0, b1, b2, v3, v4, v5, v6, v7, v8, v9, v10, v11, v12, v13, v14] from rfl] at h
 replace h := h.set hge hne 3 b3
 rw [show (#[b0, b1, b2, v3, v4, v5, v6, v7, v8, v9, v10, v11, v12, v13, v14] : Array Value).setIfInBounds 3 b3 = #[b0, b1, b2, b3, v4, v5, v6, v7, v8, v9, v10, v11, v12, v13, v14] from rfl] at h
 replace h := h.set hge hne 4 b4
 rw [show (#[b0, b1, b2, b3, v4, v5, v6, v7, v8, v9, v10, v11, v12, v13, v14] : Array Value).setIfInBounds 4 b4 = #[b0, b1, b2, b3, b4, v5, v6, v7, v8, v9, v10, v11, v12, v13, v14] from rfl] at h
 replace h := h.set hge hne 5 b5
 rw [show (#[b0, b1, b2, b3, b4, v5, v6, v7, v8, v9, v10, v11, v12, v13, v14] : Array Value).setIfInBounds 5 b5 = #[b0, b1, b2, b3, b4, b5, v6, v7, v8, v9, v10, v11, v12, v13, v14] from rfl] at h
 replace h := h.set hge hne 6 b6
 rw [show (#[b0, b1, b2, b3, b4, b5, v6, v7, v8, v9, v10, v11, v12, v13, v14] : Array Value).setIfInBounds 6 b6 = #[b0, b1, b2, b3, b4, b5, b6, v7, v8, v9, v10, v11, v12, v13, v14] from rfl] at h
 replace h := h.set hge hne 7 b7
 rw [show (#[b0, b1, b2, b3, b4, b5, b6, v7, v8, v9, v10, v11, v12, v13, v14] : Array Value).setIfInBounds 7 b7 = #[b0, b1, b2, b3, b4, b5, b6, b7, v8, v9, v10, v11, v12, v13, v14] from rfl] at h
 replace h := h.set hge hne 8 b8
 rw [show (#[b0, b1, b2, b3, b4, b5, b6, b7, v8, v9, v10, v11, v12, v13, v14] : Array Value).setIfInBounds 8 b8 = #[b0, b1, b2, b3, b4, b5, b6, b7, b8, v9, v10, v11, v12, v13, v14] from rfl] at h
 replace h := h.set hge hne 9 b9
 rw [show (#[b0, b1, b2, b3, b4, b5, b6, b7, b8, v9, v10, v11, v12, v13, v14] : Array Value).setIfInBounds 9 b9 = #[b0, b1, b2, b3, b4, b5, b6, b7, b8, b9, v10, v11, v12, v13, v14] from rfl] at h
 replace h := h.set hge hne 10 b10
 rw [show (#[b0, b1, b2, b3, b4, b5, b6, b7, b8, b9, v10, v11, v12, v13, v14] : Array Value).setIfInBounds 10 b10 = #[b0, b1, b2, b3, b4, b5, b6, b7, b8, b9, b10, v11, v12, v13, v14] from rfl] at h
 replace h := h.set hge hne 11 b11
 rw [show (#[b0, b1, b2, b3, b4, b5, b6, b7, b8, b9, b10, v11, v12, v13, v14] : Array Value).setIfInBounds 11 b11 = #[b0, b1, b2, b3, b4, b5, b6, b7, b8, b9, b10, b11, v12, v13, v14] from rfl] at h
 replace h := h.set hge hne 12 b12
 rw [show (#[b0, b1, b2, b3, b4, b5, b6, b7, b8, b9, b10, b11, v12, v13, v14] : Array Value).setIfInBounds 12 b12 = #[b0, b1, b2, b3, b4, b5, b6, b7, b8, b9, b10, b11, b12, v13, v14] from rfl] at h
 replace h := h.set hge hne 13 b13
 rw [show (#[b0, b1, b2, b3, b4, b5, b6, b7, b8, b9, b10, b11, b12, v13, v14] : Array Value).setIfInBounds 13 b13 = #[b0, b1, b2, b3, b4, b5, b6, b7, b8, b9, b10, b11, b12, b13, v14] from rfl] at h
 replace h := h.set hge hne 14 b14
 rw [show (#[b0, b1, b2, b3, b4, b5, b6, b7, b8, b9, b10, b11, b12, b13, v14] : Array Value).setIfInBounds 14 b14 = #[b0, b1, b2, b3, b4, b5, b6, b7, b8, b9, b10, b11, b12, b13, b14] from rfl] at h
 exact h
theorem ip4_Take.rs {bs : List (Nat × Obj)} {wb W : World} {g b : Nat} {l : List Int} (h : RS 105 wb bs g b l W) {k : Nat} {width n : Int} (hg : octet_Get.f k l 0 width = some (n, true)) (h0 : 0 ≤ width) (h1 : width ≤ (l.length : Int)) :
  Calls Tryd.prog 44 #[.pointer (some ⟨g, 0, none⟩), .int .i64 width] W fun e w' => e = .returned (.int .u64 n) ∧ RS 105 wb bs g b (l.drop width.toNat) w' :=
 (octet_Reader_Num.ok k g b l width n W h.rd hg h0 h1).mono fun _ _ ⟨he, hr, hgr⟩ => ⟨he, h.num hgr hr⟩
set_option maxHeartbeats 4000000 in
set_option maxRecDepth 100000 in
theorem ip4_Take.good (k : Nat) (s : ByteArray) (hd wh : Nat) (n0 tos n2 id off ttl proto n10 src dst off2 : Int) (df mf : Bool) (ol : List S113) (oe : Int) (w : World) (hh : ip4_heads.f k s = some ((hd : Int), (wh : Int), 0)) (h20 : 20 ≤ hd) (hhw : hd ≤ wh) (hws : wh ≤ s.size)
  (hn0 : ip4_Take.num k (bytesOf (s.extract 0 20)) 1 = some n0)
  (htos : ip4_Take.num k ((bytesOf (s.extract 0 20)).drop 1) 1 = some tos)
  (hn2 : ip4_Take.num k ((bytesOf (s.extract 0 20)).drop 2) 2 = some n2)
  (hid : ip4_Take.num k ((bytesOf (s.extract 0 20)).drop 4) 2 = some id)
  (hoff : ip4_Take.num k ((bytesOf (s.extract 0 20)).drop 6) 2 = some off)
  (httl : ip4_Take.num k ((bytesOf (s.extract 0 20)).drop 8) 1 = some ttl)
  (hproto : ip4_Take.num k ((bytesOf (s.extract 0 20)).drop 9) 1 = some proto)
  (hn10 : ip4_Take.num k ((bytesOf (s.extract 0 20)).drop 10) 2 = some n10)
  (hsrc : ip4_Take.num k ((bytesOf (s.extract 0 20)).drop 12) 4 = some src)
  (hdst : ip4_Take.num k ((bytesOf (s.extract 0 20)).drop 16) 4 = some dst)
  (ho : ip4_Options.f (s.extract 20 hd) = some (ol, oe)) (r1 : 0 ≤ tos ∧ tos ≤ 255) (r2 : 0 ≤ id ∧ id ≤ 65535) (r3 : 0 ≤ off ∧ off ≤ 65535) (r4 : 0 ≤ ttl ∧ ttl ≤ 255) (r5 : 0 ≤ proto ∧ proto ≤ 255)
  (e1 : Go.bits .and .i64 off 8191 = off2) (e2 : (Go.bits .and .i64 off 16384 != 0) = df) (e3 : (Go.bits .and .i64 off 8192 != 0) = mf) (hoe : oe = 0) :
  Calls Tryd.prog 20 #[.string s] w fun e w' => e = .returned (.tuple #[.agg #[.int .i64 tos, .int .i64 id, .bool df, .bool mf, .int .i64 off2, .int .i64 ttl, .int .i64 proto, .bool false, .int .u64 0, .int .u64 src, .bool false, .int .u64 0, .int .u64 dst, .string (s.extract 20 hd), .string (s.extract hd wh)], .int .i64 0]) ∧ Below w.heap.size w w' := by
 obtain ⟨L, hL⟩ : ∃ L, bytesOf (s.extract 0 20) = L := ⟨_, rfl⟩
 have hlen : L.length = 20 := by rw [← hL, bytesOf_length]; simp; omega
 rw [hL] at hn0 htos hn2 hid hoff httl hproto hn10 hsrc hdst
 have HLE := Aside0.mk hL; have HN := Aside0.mk hlen
 have Hn0 := Aside0.mk (ip4_Take.num_get hn0); have Htos := Aside0.mk (ip4_Take.num_get htos); have Hn2 := Aside0.mk (ip4_Take.num_get hn2); have Hid := Aside0.mk (ip4_Take.num_get hid); have Hoff := Aside0.mk (ip4_Take.num_get hoff); have Httl := Aside0.mk (ip4_Take.num_get httl); have Hproto := Aside0.mk (ip4_Take.num_get hproto); have Hn10 := Aside0.mk (ip4_Take.num_get hn10); have Hsrc := Aside0.mk (ip4_Take.num_get hsrc); have Hdst := Aside0.mk (ip4_Take.num_get hdst)
 have HH := Aside0.mk hh; have HO := Aside0.mk ho
 clear hh ho hL hlen hn0 htos hn2 hid hoff httl hproto hn10 hsrc hdst
 obtain ⟨p1, q1⟩ := r1; obtain ⟨p2, q2⟩ := r2; obtain ⟨p3, q3⟩ := r3; obtain ⟨p4, q4⟩ := r4; obtain ⟨p5, q5⟩ := r5
 obtain ⟨wa, hwa⟩ : ∃ wa, w.alloc (.cells #[.int .i64 0, .int .i64 0, .bool false, .bool false, .int .i64 0, .int .i64 0, .int .i64 0, .bool false, .int .u64 0, .int .u64 0, .bool false, .int .u64 0, .int .u64 0, .string ⟨#[]⟩, .string ⟨#[]⟩] 37) = wa := ⟨_, rfl⟩
 have HBA := Aside0.mk (show Below w.heap.size w wa by rw [← hwa]; exact below_alloc (Below.refl _ _) _)
 have HX := Aside0.mk (show wa.heap[w.heap.size]? = some (.cells #[.int .i64 0, .int .i64 0, .bool false, .bool false, .int .i64 0, .int .i64 0, .int .i64 0, .bool false, .int .u64 0, .int .u64 0, .bool false, .int .u64 0, .int .u64 0, .string ⟨#[]⟩, .string ⟨#[]⟩] 37 (0, 0)) by rw [← hwa]; exact heap_alloc_new _ _)
 have hu26 := Tryd.underlying37
 have hu24 := Tryd.underlying28
 have kb := fun s W => print_bytes (P := Tryd.prog) 9 70 5 Tryd.underlying9 Tryd.underlying70 Tryd.underlying5 s W
 have hi20 : ((20 : Int) ≤ (s.size : Int)) = True := eq_true (by omega)
 have e20 : (s.extract 0 20).size = 20 := by simp; omega
 have m20 : min 20 s.size = 20 := by omega
 have HHW := Aside0.mk hhw; have HWZ := Aside0.mk hws; have H20 := Aside0.mk h20
 clear hhw hws h20
 go_enter Tryd.func20, Tryd.ntmps20
 go_wp2_with fail
 clear hwa
 refine (ip4_heads.calls k s _ _ _ _ HH.out).mono ?_
 rintro e wb ⟨rfl, hb⟩
 have HBW := Aside0.mk (below_step HBA.out hb)
 have HWS := Aside0.mk (show w.heap.size < wb.heap.size from Nat.lt_of_lt_of_le (Array.getElem?_eq_some_iff.1 HX.out).1 hb.size)
 replace HX := Aside0.mk (MStr.block_below HX.out hb)
 clear hb
 go_wp2_with fail
 have hC := MStr.C_bytes wb 5 (s.extract 0 20) (by rw [e20]; decide)
 rw [HLE.out, e20] at hC
 have hcall := octet_New.calls (some ⟨wb.heap.size, 0, none⟩) (grownCap wb 20 0 5) L (Lib.bytesWorld wb 5 (s.extract 0 20)) (by rw [HN.out]; exact hC) (by rw [HN.out]; exact grownCap_ge _ _ _ _) (by rw [HN.out]; decide)
 rw [HN.out] at hcall
 clear hC kb
 refine hcall.mono ?_
 rintro e w2 ⟨g, bb, rfl, hrd, hg, hbb, hb⟩
 have hbw : Below wb.heap.size wb (Lib.bytesWorld wb 5 (s.extract 0 20)) := bytes_below (Below.refl _ _) (Nat.le_refl _) _ _
 have hsz : (Lib.bytesWorld wb 5 (s.extract 0 20)).heap.size = wb.heap.size + 1 := Lib.bytesWorld_size _ _ _
 have HRS := Aside0.mk (show RS 105 wb [(w.heap.size, .cells #[.int .i64 0, .int .i64 0, .bool false, .bool false, .int .i64 0, .int .i64 0, .int .i64 0, .bool false, .int .u64 0, .int .u64 0, .bool false, .int .u64 0, .int .u64 0, .string ⟨#[]⟩, .string ⟨#[]⟩] 37 (0, 0))] g bb L w2 from ⟨hrd, fun x hx => by
  obtain rfl := List.mem_singleton.1 hx
  exact ⟨MStr.block_below HX.out (below_step hbw hb), by have := HWS.out; simp only; omega, by have := HWS.out; simp only; omega⟩, below_step hbw hb, by omega⟩)
 clear hcall hrd hg hbb hb hbw hsz HX e20 m20
 go_wp2_with fail
 refine (ip4_Take.rs HRS.out Hn0.out (by decide) (by (try rw [List.length_drop]); rw [HN.out]; decide)).mono ?_
 rintro e w3 ⟨rfl, hrs⟩
 replace HRS := Aside0.mk (show RS 105 wb _ g bb (L.drop 1) w3 by have := hrs; rw [show (1 : Int).toNat = 1 from rfl] at this; exact this)
 clear hrs
 have hhw := HHW.out; have hws := HWZ.out; have h20 := H20.out
 have g1 : ((20 : Int) ≤ (hd : Int)) = True := eq_true (by omega)
 have g2 : ((hd : Int) ≤ (s.size : Int)) = True := eq_true (by omega)
 have g3 : ((hd : Int) ≤ (wh : Int)) = True := eq_true (by omega)
 have g4 : ((wh : Int) ≤ (s.size : Int)) = True := eq_true (by omega)
 have g5 : ((0 : Int) ≤ (hd : Int)) = True := eq_true (by omega)
 have g6 : ((0 : Int) ≤ (wh : Int)) = True := eq_true (by omega)
 have ew : IntKind.i64.wrap tos = tos := by simp only [i64_w]; unfold wrap64; omega
 clear hhw hws h20
 have HW3 := Aside0.mk (show wb.heap.size ≤ w3.heap.size from HRS.out.below.size)
 go_upto_region 6 with (fail)
 go_cut [8] (fun v8 wc => ∃ gp : Nat, v8 = .pointer (some ⟨gp, 0, none⟩) ∧ Aside0 (RS 105 wb [(gp, .cells #[.int .i64 tos, .int .i64 0, .bool false, .bool false, .int .i64 0, .int .i64 0, .int .i64 0, .bool false, .int .u64 0, .int .u64 0, .bool false, .int .u64 0, .int .u64 0, .string (s.extract 20 hd), .string (s.extract hd wh)] 37 (0, 0)), (w.heap.size, .cells #[.int .i64 0, .int .i64 0, .bool false, .bool false, .int .i64 0, .int .i64 0, .int .i64 0, .bool false, .int .u64 0, .int .u64 0, .bool false, .int .u64 0, .int .u64 0, .string ⟨#[]⟩, .string ⟨#[]⟩] 37 (0, 0))] g bb (L.drop 2) wc) ∧ Aside0 (wb.heap.size ≤ gp))
 case first =>
   go_region_held3 (fun w' => True) (trivial) (first | (go_at_call 44; refine (ip4_Take.rs (HRS.out.more (below_drew1 (Below.refl _ _))) Htos.out (by decide) (by rw [List.length_drop, HN.out]; decide)).mono ?_; rintro e w5 ⟨rfl, hrs⟩; have HW5 := Aside0.mk hrs.below.size; have HRT := Aside0.mk (show RS 105 wb _ g bb (L.drop 2) w5 by have := hrs; rw [show (1 : Int).toNat = 1 from rfl, List.drop_drop] at this; exact this); clear hrs HRS) | (go_at_call 44; refine (ip4_Take.rs ((HRS.out.alloc (.cells #[.int .i64 0, .int .i64 0, .bool false, .bool false, .int .i64 0, .int .i64 0, .int .i64 0, .bool false, .int .u64 0, .int .u64 0, .bool false, .int .u64 0, .int .u64 0, .string ⟨#[]⟩, .string ⟨#[]⟩] 37)).more (below_drew1 (Below.refl _ _))) Htos.out (by decide) (by rw [List.length_drop, HN.out]; decide)).mono ?_; rintro e w5 ⟨rfl, hrs⟩; obtain ⟨y0, y1, y2, y3, y4, y5, y6, y7, y8, y9, y10, y11, y12, y13, y14⟩ := MBlk.c15 (hrs.keep _ (List.mem_cons_self ..)).1; obtain ⟨z0, z1, z2, z3, z4, z5, z6, z7, z8, z9, z10, z11, z12, z13, z14⟩ := MBlk.f15 (hrs.keep _ (List.mem_cons_self ..)).1; have HW5 := Aside0.mk hrs.below.size; have HRT := Aside0.mk (show RS 105 wb _ g bb (L.drop 2) w5 by have := hrs; rw [show (1 : Int).toNat = 1 from rfl, List.drop_drop] at this; exact this); clear hrs HRS))
   · go_wp2
     go_meet
     case rel => exact ⟨_, rfl, ⟨HRT.out.alloc _⟩, ⟨HRT.out.below.size⟩⟩
   · go_wp2
     go_meet
     case rel =>
      have HGE := HW3.out
      have HNE : ∀ x ∈ [(w.heap.size, Obj.cells #[.int .i64 0, .int .i64 0, .bool false, .bool false, .int .i64 0, .int .i64 0, .int .i64 0, .bool false, .int .u64 0, .int .u64 0, .bool false, .int .u64 0, .int .u64 0, .string ⟨#[]⟩, .string ⟨#[]⟩] 37 (0, 0))], x.1 ≠ w3.heap.size := by
       intro x hx; obtain rfl := List.mem_singleton.1 hx; have := HWS.out; simp only; omega
      exact ⟨_, rfl, ⟨RS.all15 HRT.out HGE HNE (.int .i64 tos) (.int .i64 0) (.bool false) (.bool false) (.int .i64 0) (.int .i64 0) (.int .i64 0) (.bool false) (.int .u64 0) (.int .u64 0) (.bool false) (.int .u64 0) (.int .u64 0) (.string (s.extract 20 hd)) (.string (s.extract hd wh))⟩, ⟨by have := HW3.out; omega⟩⟩
 case rest =>
  clear HRS
  obtain ⟨gp, rfl, HRS, HGP⟩ := hcut
  have HGE := HGP.out
  have HNE : ∀ x ∈ [(w.heap.size, Obj.cells #[.int .i64 0, .int .i64 0, .bool false, .bool false, .int .i64 0, .int .i64 0, .int .i64 0, .bool false, .int .u64 0, .int .u64 0, .bool false, .int .u64 0, .int .u64 0, .string ⟨#[]⟩, .string ⟨#[]⟩] 37 (0, 0))], x.1 ≠ gp := by
   intro x hx; obtain rfl := List.mem_singleton.1 hx; have := HWS.out; simp only; omega
  have AGE := Aside0.mk HGE; have ANE := Aside0.mk HNE
  clear HGE HNE HGP ew g1 g2 g3 g4 g5 g6 hi20
  go_wp2_with fail
  refine (ip4_Take.rs HRS.out Hn2.out (by decide) (by (try rw [List.length_drop]); rw [HN.out]; decide)).mono ?_
  rintro e w4 ⟨rfl, hrs⟩
  replace HRS := Aside0.mk (show RS 105 wb _ g bb (L.drop 4) w4 by have := hrs; rw [show (2 : Int).toNat = 2 from rfl, List.drop_drop] at this; exact this)
  clear hrs
  go_wp2_with fail
  refine (ip4_Take.rs HRS.out Hid.out (by decide) (by (try rw [List.length_drop]); rw [HN.out]; decide)).mono ?_
  rintro e w11 ⟨rfl, hrs⟩
  replace HRS := Aside0.mk (show RS 105 wb _ g bb (L.drop 6) w11 by have := hrs; rw [show (2 : Int).toNat = 2 from rfl, List.drop_drop] at this; exact this)
  clear hrs
  have ew2 : IntKind.i64.wrap id = id := by simp only [i64_w]; unfold wrap64; omega
  have y1 := HRS.out.cell (j := 1) (List.mem_cons_self ..) rfl
  have z1 := HRS.out.free 1 (List.mem_cons_self ..)
  go_wp2_with fail
  clear y1 z1
  have HGE := AGE.out; have HNE := ANE.out
  replace HRS := Aside0.mk (show RS 105 wb [(gp, .cells #[.int .i64 tos, .int .i64 id, .bool false, .bool false, .int .i64 0, .int .i64 0, .int .i64 0, .bool false, .int .u64 0, .int .u64 0, .bool false, .int .u64 0, .int .u64 0, .string (s.extract 20 hd), .string (s.extract hd wh)] 37 (0, 0)), (w.heap.size, .cells #[.int .i64 0, .int .i64 0, .bool false, .bool false, .int .i64 0, .int .i64 0, .int .i64 0, .bool false, .int .u64 0, .int .u64 0, .bool false, .int .u64 0, .int .u64 0, .string ⟨#[]⟩, .string ⟨#[]⟩] 37 (0, 0))] g bb _ _ from (RS.set' (cs2 := #[.int .i64 tos, .int .i64 id, .bool false, .bool false, .int .i64 0, .int .i64 0, .int .i64 0, .bool false, .int .u64 0, .int .u64 0, .bool false, .int .u64 0, .int .u64 0, .string (s.extract 20 hd), .string (s.extract hd wh)]) HRS.out HGE HNE 1 (.int .i64 id) rfl))
  clear HGE HNE
  refine (ip4_Take.rs HRS.out Hoff.out (by decide) (by (try rw [List.length_drop]); rw [HN.out]; decide)).mono ?_
  rintro e w12 ⟨rfl, hrs⟩
  replace HRS := Aside0.mk (show RS 105 wb _ g bb (L.drop 8) w12 by have := hrs; rw [show (2 : Int).toNat = 2 from rfl, List.drop_drop] at this; exact this)
  clear hrs
  have ew3 : IntKind.i64.wrap off = off := by simp only [i64_w]; unfold wrap64; omega
  have y4 := HRS.out.cell (j := 4) (List.mem_cons_self ..) rfl
  have z4 := HRS.out.free 4 (List.mem_cons_self ..)
  have y2 := HRS.out.cell (j := 2) (List.mem_cons_self ..) rfl
  have z2 := HRS.out.free 2 (List.mem_cons_self ..)
  have y3 := HRS.out.cell (j := 3) (List.mem_cons_self ..) rfl
  have z3 := HRS.out.free 3 (List.mem_cons_self ..)
  go_wp2_with fail
  clear y4 z4 y2 z2 y3 z3
  have HGE := AGE.out; have HNE := ANE.out
  replace HRS := Aside0.mk (show RS 105 wb [(gp, .cells #[.int .i64 tos, .int .i64 id, .bool df, .bool mf, .int .i64 off2, .int .i64 0, .int .i64 0, .bool false, .int .u64 0, .int .u64 0, .bool false, .int .u64 0, .int .u64 0, .string (s.extract 20 hd), .string (s.extract hd wh)] 37 (0, 0)), (w.heap.size, .cells #[.int .i64 0, .int .i64 0, .bool false, .bool false, .int .i64 0, .int .i64 0, .int .i64 0, .bool false, .int .u64 0, .int .u64 0, .bool false, .int .u64 0, .int .u64 0, .string ⟨#[]⟩, .string ⟨#[]⟩] 37 (0, 0))] g bb _ _ from (RS.set' (cs2 := #[.int .i64 tos, .int .i64 id, .bool df, .bool mf, .int .i64 off2, .int .i64 0, .int .i64 0, .bool false, .int .u64 0, .int .u64 0, .bool false, .int .u64 0, .int .u64 0, .string (s.extract 20 hd), .string (s.extract hd wh)]) (RS.set' (cs2 := #[.int .i64 tos, .int .i64 id, .bool df, .bool false, .int .i64 off2, .int .i64 0, .int .i64 0, .bool false, .int .u64 0, .int .u64 0, .bool false, .int .u64 0, .int .u64 0, .string (s.extract 20 hd), .string (s.extract hd wh)]) (RS.set' (cs2 := #[.int .i64 tos, .int .i64 id, .bool false, .bool false, .int .i64 off2, .int .i64 0, .int .i64 0, .bool false, .int .u64 0, .int .u64 0, .bool false, .int .u64 0, .int .u64 0, .string (s.extract 20 hd), .string (s.extract hd wh)]) HRS.out HGE HNE 4 (.int .i64 off2) rfl) HGE HNE 2 (.bool df) rfl) HGE HNE 3 (.bool mf) rfl))
  clear HGE HNE
  refine (ip4_Take.rs HRS.out Httl.out (by decide) (by (try rw [List.length_drop]); rw [HN.out]; decide)).mono ?_
  rintro e w13 ⟨rfl, hrs⟩
  replace HRS := Aside0.mk (show RS 105 wb _ g bb (L.drop 9) w13 by have := hrs; rw [show (1 : Int).toNat = 1 from rfl, List.drop_drop] at this; exact this)
  clear hrs
  go_wp2_with fail
  refine (ip4_Take.rs HRS.out Hproto.out (by decide) (by (try rw [List.length_drop]); rw [HN.out]; decide)).mono ?_
  rintro e w14 ⟨rfl, hrs⟩
  replace HRS := Aside0.mk (show RS 105 wb _ g bb (L.drop 10) w14 by have := hrs; rw [show (1 : Int).toNat = 1 from rfl, List.drop_drop] at this; exact this)
  clear hrs
  have ew4 : IntKind.i64.wrap ttl = ttl := by simp only [i64_w]; unfold wrap64; omega
  have ew5 : IntKind.i64.wrap proto = proto := by simp only [i64_w]; unfold wrap64; omega
  have y5 := HRS.out.cell (j := 5) (List.mem_cons_self ..) rfl
  have z5 := HRS.out.free 5 (List.mem_cons_self ..)
  have y6 := HRS.out.cell (j := 6) (List.mem_cons_self ..) rfl
  have z6 := HRS.out.free 6 (List.mem_cons_self ..)
  go_wp2_with fail
  clear y5 z5 y6 z6
  have HGE := AGE.out; have HNE := ANE.out
  replace HRS := Aside0.mk (show RS 105 wb [(gp, .cells #[.int .i64 tos, .int .i64 id, .bool df, .bool mf, .int .i64 off2, .int .i64 ttl, .int .i64 proto, .bool false, .int .u64 0, .int .u64 0, .bool false, .int .u64 0, .int .u64 0, .string (s.extract 20 hd), .string (s.extract hd wh)] 37 (0, 0)), (w.heap.size, .cells #[.int .i64 0, .int .i64 0, .bool false, .bool false, .int .i64 0, .int .i64 0, .int .i64 0, .bool false, .int .u64 0, .int .u64 0, .bool false, .int .u64 0, .int .u64 0, .string ⟨#[]⟩, .string ⟨#[]⟩] 37 (0, 0))] g bb _ _ from (RS.set' (cs2 := #[.int .i64 tos, .int .i64 id, .bool df, .bool mf, .int .i64 off2, .int .i64 ttl, .int .i64 proto, .bool false, .int .u64 0, .int .u64 0, .bool false, .int .u64 0, .int .u64 0, .string (s.extract 20 hd), .string (s.extract hd wh)]) (RS.set' (cs2 := #[.int .i64 tos, .int .i64 id, .bool df, .bool mf, .int .i64 off2, .int .i64 ttl, .int .i64 0, .bool false, .int .u64 0, .int .u64 0, .bool false, .int .u64 0, .int .u64 0, .string (s.extract 20 hd), .string (s.extract hd wh)]) HRS.out HGE HNE 5 (.int .i64 ttl) rfl) HGE HNE 6 (.int .i64 proto) rfl))
  clear HGE HNE
  refine (ip4_Take.rs HRS.out Hn10.out (by decide) (by (try rw [List.length_drop]); rw [HN.out]; decide)).mono ?_
  rintro e w15 ⟨rfl, hrs⟩
  replace HRS := Aside0.mk (show RS 105 wb _ g bb (L.drop 12) w15 by have := hrs; rw [show (2 : Int).toNat = 2 from rfl, List.drop_drop] at this; exact this)
  clear hrs
  go_wp2_with fail
  refine (ip4_Take.rs HRS.out Hsrc.out (by decide) (by (try rw [List.length_drop]); rw [HN.out]; decide)).mono ?_
  rintro e w16 ⟨rfl, hrs⟩
  replace HRS := Aside0.mk (show RS 105 wb _ g bb (L.drop 16) w16 by have := hrs; rw [show (4 : Int).toNat = 4 from rfl, List.drop_drop] at this; exact this)
  clear hrs
  go_wp2_with fail
  refine (ip4_Take.rs HRS.out Hdst.out (by decide) (by (try rw [List.length_drop]); rw [HN.out]; decide)).mono ?_
  rintro e w17 ⟨rfl, hrs⟩
  replace HRS := Aside0.mk (show RS 105 wb _ g bb (L.drop 20) w17 by have := hrs; rw [show (4 : Int).toNat = 4 from rfl, List.drop_drop] at this; exact this)
  clear hrs
  have y7 := HRS.out.cell (j := 7) (List.mem_cons_self ..) rfl
  have z7 := HRS.out.free 7 (List.mem_cons_self ..)
  have y8 := HRS.out.cell (j := 8) (List.mem_cons_self ..) rfl
  have z8 := HRS.out.free 8 (List.mem_cons_self ..)
  have y9 := HRS.out.cell (j := 9) (List.mem_cons_self ..) rfl
  have z9 := HRS.out.free 9 (List.mem_cons_self ..)
  have y10 := HRS.out.cell (j := 10) (List.mem_cons_self ..) rfl
  have z10 := HRS.out.free 10 (List.mem_cons_self ..)
  have y11 := HRS.out.cell (j := 11) (List.mem_cons_self ..) rfl
  have z11 := HRS.out.free 11 (List.mem_cons_self ..)
  have y12 := HRS.out.cell (j := 12) (List.mem_cons_self ..) rfl
  have z12 := HRS.out.free 12 (List.mem_cons_self ..)
  have y13 := HRS.out.cell (j := 13) (List.mem_cons_self ..) rfl
  go_wp2_with fail
  clear y13
  clear y7 z7 y8 z8 y9 z9 y10 z10 y11 z11 y12 z12
  have HGE := AGE.out; have HNE := ANE.out
  replace HRS := Aside0.mk (show RS 105 wb [(gp, .cells #[.int .i64 tos, .int .i64 id, .bool df, .bool mf, .int .i64 off2, .int .i64 ttl, .int .i64 proto, .bool false, .int .u64 0, .int .u64 src, .bool false, .int .u64 0, .int .u64 dst, .string (s.extract 20 hd), .string (s.extract hd wh)] 37 (0, 0)), (w.heap.size, .cells #[.int .i64 0, .int .i64 0, .bool false, .bool false, .int .i64 0, .int .i64 0, .int .i64 0, .bool false, .int .u64 0, .int .u64 0, .bool false, .int .u64 0, .int .u64 0, .string ⟨#[]⟩, .string ⟨#[]⟩] 37 (0, 0))] g bb _ _ from (RS.set' (cs2 := #[.int .i64 tos, .int .i64 id, .bool df, .bool mf, .int .i64 off2, .int .i64 ttl, .int .i64 proto, .bool false, .int .u64 0, .int .u64 src, .bool false, .int .u64 0, .int .u64 dst, .string (s.extract 20 hd), .string (s.extract hd wh)]) (RS.set' (cs2 := #[.int .i64 tos, .int .i64 id, .bool df, .bool mf, .int .i64 off2, .int .i64 ttl, .int .i64 proto, .bool false, .int .u64 0, .int .u64 src, .bool false, .int .u64 0, .int .u64 0, .string (s.extract 20 hd), .string (s.extract hd wh)]) (RS.set' (cs2 := #[.int .i64 tos, .int .i64 id, .bool df, .bool mf, .int .i64 off2, .int .i64 ttl, .int .i64 proto, .bool false, .int .u64 0, .int .u64 src, .bool false, .int .u64 0, .int .u64 0, .string (s.extract 20 hd), .string (s.extract hd wh)]) (RS.set' (cs2 := #[.int .i64 tos, .int .i64 id, .bool df, .bool mf, .int .i64 off2, .int .i64 ttl, .int .i64 proto, .bool false, .int .u64 0, .int .u64 src, .bool false, .int .u64 0, .int .u64 0, .string (s.extract 20 hd), .string (s.extract hd wh)]) (RS.set' (cs2 := #[.int .i64 tos, .int .i64 id, .bool df, .bool mf, .int .i64 off2, .int .i64 ttl, .int .i64 proto, .bool false, .int .u64 0, .int .u64 0, .bool false, .int .u64 0, .int .u64 0, .string (s.extract 20 hd), .string (s.extract hd wh)]) (RS.set' (cs2 := #[.int .i64 tos, .int .i64 id, .bool df, .bool mf, .int .i64 off2, .int .i64 ttl, .int .i64 proto, .bool false, .int .u64 0, .int .u64 0, .bool false, .int .u64 0, .int .u64 0, .string (s.extract 20 hd), .string (s.extract hd wh)]) HRS.out HGE HNE 7 (.bool false) rfl) HGE HNE 8 (.int .u64 0) rfl) HGE HNE 9 (.int .u64 src) rfl) HGE HNE 10 (.bool false) rfl) HGE HNE 11 (.int .u64 0) rfl) HGE HNE 12 (.int .u64 dst) rfl))
  clear HGE HNE
  refine (ip4_Options.calls _ _ _ _ HO.out).mono ?_
  rintro e w20 ⟨vo, rfl, hro, hb⟩
  replace HRS := Aside0.mk (HRS.out.more hb)
  clear hb hro
  have HRES := Aside0.mk (HRS.out.keep _ (List.mem_cons_of_mem _ (List.mem_cons_self ..))).1
  obtain ⟨q0, q1, q2, q3, q4, q5, q6, q7, q8, q9, q10, q11, q12, q13, q14⟩ := MBlk.c15 (HRS.out.keep _ (List.mem_cons_self ..)).1
  obtain ⟨f0, f1, f2, f3, f4, f5, f6, f7, f8, f9, f10, f11, f12, f13, f14⟩ := MBlk.f15 HRES.out
  obtain ⟨s0, s1, s2, s3, s4, s5, s6, s7, s8, s9, s10, s11, s12, s13, s14⟩ := MBlk.c15 HRES.out
  have HBE := Aside0.mk (below_step HBW.out HRS.out.below)
  have HG0 := Aside0.mk (Nat.le_refl w.heap.size)
  have t1 : (oe != 0) = false := by simpa using hoe
  go_wp2_with fail
  refine bodyPost_ret (results_ct rfl _ _ _ 37 #[.int .i64 tos, .int .i64 id, .bool df, .bool mf, .int .i64 off2, .int .i64 ttl, .int .i64 proto, .bool false, .int .u64 0, .int .u64 src, .bool false, .int .u64 0, .int .u64 dst, .string (s.extract 20 hd), .string (s.extract hd wh)] (0, 0) _ rfl (by have h_ := MBlk.put15 HRES.out (.int .i64 tos) (.int .i64 id) (.bool df) (.bool mf) (.int .i64 off2) (.int .i64 ttl) (.int .i64 proto) (.bool false) (.int .u64 0) (.int .u64 src) (.bool false) (.int .u64 0) (.int .u64 dst) (.string (s.extract 20 hd)) (.string (s.extract hd wh)); exact h_) Tryd.underlying37 rfl (by kernel_rfl)) rfl ?_
  exact ⟨rfl, by repeat (first | (with_reducible first | exact HBE.out | apply below_alloc | apply pw_below_drewN | apply below_drew1 | refine below_set ?_ HG0.out) | exact HBE.out)⟩
set_option maxHeartbeats 4000000 in
set_option maxRecDepth 100000 in
theorem ip4_Take.opts (k : Nat) (s : ByteArray) (hd wh : Nat) (n0 tos n2 id off ttl proto n10 src dst off2 : Int) (df mf : Bool) (ol : List S113) (oe : Int) (w : World) (hh : ip4_heads.f k s = some ((hd : Int), (wh : Int), 0)) (h20 : 20 ≤ hd) (hhw : hd ≤ wh) (hws : wh ≤ s.size)
  (hn0 : ip4_Take.num k (bytesOf (s.extract 0 20)) 1 = some n0)
  (htos : ip4_Take.num k ((bytesOf (s.extract 0 20)).drop 1) 1 = some tos)
  (hn2 : ip4_Take.num k ((bytesOf (s.extract 0 20)).drop 2) 2 = some n2)
  (hid : ip4_Take.num k ((bytesOf (s.extract 0 20)).drop 4) 2 = some id)
  (hoff : ip4_Take.num k ((bytesOf (s.extract 0 20)).drop 6) 2 = some off)
  (httl : ip4_Take.num k ((bytesOf (s.extract 0 20)).drop 8) 1 = some ttl)
  (hproto : ip4_Take.num k ((bytesOf (s.extract 0 20)).drop 9) 1 = some proto)
  (hn10 : ip4_Take.num k ((bytesOf (s.extract 0 20)).drop 10) 2 = some n10)
  (hsrc : ip4_Take.num k ((bytesOf (s.extract 0 20)).drop 12) 4 = some src)
  (hdst : ip4_Take.num k ((bytesOf (s.extract 0 20)).drop 16) 4 = some dst)
  (ho : ip4_Options.f (s.extract 20 hd) = some (ol, oe)) (r1 : 0 ≤ tos ∧ tos ≤ 255) (r2 : 0 ≤ id ∧ id ≤ 65535) (r3 : 0 ≤ off ∧ off ≤ 65535) (r4 : 0 ≤ ttl ∧ ttl ≤ 255) (r5 : 0 ≤ proto ∧ proto ≤ 255)
  (e1 : Go.bits .and .i64 off 8191 = off2) (e2 : (Go.bits .and .i64 off 16384 != 0) = df) (e3 : (Go.bits .and .i64 off 8192 != 0) = mf) (hoe : ¬ oe = 0) :
  Calls Tryd.prog 20 #[.string s] w fun e w' => e = .returned (.tuple #[.agg #[.int .i64 0, .int .i64 0, .bool false, .bool false, .int .i64 0, .int .i64 0, .int .i64 0, .bool false, .int .u64 0, .int .u64 0, .bool false, .int .u64 0, .int .u64 0, .string ⟨#[]⟩, .string ⟨#[]⟩], .int .i64 oe]) ∧ Below w.heap.size w w' := by
 obtain ⟨L, hL⟩ : ∃ L, bytesOf (s.extract 0 20) = L := ⟨_, rfl⟩
 have hlen : L.length = 20 := by rw [← hL, bytesOf_length]; simp; omega
 rw [hL] at hn0 htos hn2 hid hoff httl hproto hn10 hsrc hdst
 have HLE := Aside0.mk hL; have HN := Aside0.mk hlen
 have Hn0 := Aside0.mk (ip4_Take.num_get hn0); have Htos := Aside0.mk (ip4_Take.num_get htos); have Hn2 := Aside0.mk (ip4_Take.num_get hn2); have Hid := Aside0.mk (ip4_Take.num_get hid); have Hoff := Aside0.mk (ip4_Take.num_get hoff); have Httl := Aside0.mk (ip4_Take.num_get httl); have Hproto := Aside0.mk (ip4_Take.num_get hproto); have Hn10 := Aside0.mk (ip4_Take.num_get hn10); have Hsrc := Aside0.mk (ip4_Take.num_get hsrc); have Hdst := Aside0.mk (ip4_Take.num_get hdst)
 have HH := Aside0.mk hh; have HO := Aside0.mk ho
 clear hh ho hL hlen hn0 htos hn2 hid hoff httl hproto hn10 hsrc hdst
 obtain ⟨p1, q1⟩ := r1; obtain ⟨p2, q2⟩ := r2; obtain ⟨p3, q3⟩ := r3; obtain ⟨p4, q4⟩ := r4; obtain ⟨p5, q5⟩ := r5
 obtain ⟨wa, hwa⟩ : ∃ wa, w.alloc (.cells #[.int .i64 0, .int .i64 0, .bool false, .bool false, .int .i64 0, .int .i64 0, .int .i64 0, .bool false, .int .u64 0, .int .u64 0, .bool false, .int .u64 0, .int .u64 0, .string ⟨#[]⟩, .string ⟨#[]⟩] 37) = wa := ⟨_, rfl⟩
 have HBA := Aside0.mk (show Below w.heap.size w wa by rw [← hwa]; exact below_alloc (Below.refl _ _) _)
 have HX := Aside0.mk (show wa.heap[w.heap.size]? = some (.cells #[.int .i64 0, .int .i64 0, .bool false, .bool false, .int .i64 0, .int .i64 0, .int .i64 0, .bool false, .int .u64 0, .int .u64 0, .bool false, .int .u64 0, .int .u64 0, .string ⟨#[]⟩, .string ⟨#[]⟩] 37 (0, 0)) by rw [← hwa]; exact heap_alloc_new _ _)
 have hu26 := Tryd.underlying37
 have hu24 := Tryd.underlying28
 have kb := fun s W => print_bytes (P := Tryd.prog) 9 70 5 Tryd.underlying9 Tryd.underlying70 Tryd.underlying5 s W
 have hi20 : ((20 : Int) ≤ (s.size : Int)) = True := eq_true (by omega)
 have e20 : (s.extract 0 20).size = 20 := by simp; omega
 have m20 : min 20 s.size = 20 := by omega
 have HHW := Aside0.mk hhw; have HWZ := Aside0.mk hws; have H20 := Aside0.mk h20
 clear hhw hws h20
 go_enter Tryd.func20, Tryd.ntmps20
 go_wp2_with fail
 clear hwa
 refine (ip4_heads.calls k s _ _ _ _ HH.out).mono ?_
 rintro e wb ⟨rfl, hb⟩
 have HBW := Aside0.mk (below_step HBA.out hb)
 have HWS := Aside0.mk (show w.heap.size < wb.heap.size from Nat.lt_of_lt_of_le (Array.getElem?_eq_some_iff.1 HX.out).1 hb.size)
 replace HX := Aside0.mk (MStr.block_below HX.out hb)
 clear hb
 go_wp2_with fail
 have hC := MStr.C_bytes wb 5 (s.extract 0 20) (by rw [e20]; decide)
 rw [HLE.out, e20] at hC
 have hcall := octet_New.calls (some ⟨wb.heap.size, 0, none⟩) (grownCap wb 20 0 5) L (Lib.bytesWorld wb 5 (s.extract 0 20)) (by rw [HN.out]; exact hC) (by rw [HN.out]; exact grownCap_ge _ _ _ _) (by rw [HN.out]; decide)
 rw [HN.out] at hcall
 clear hC kb
 refine hcall.mono ?_
 rintro e w2 ⟨g, bb, rfl, hrd, hg, hbb, hb⟩
 have hbw : Below wb.heap.size wb (Lib.bytesWorld wb 5 (s.extract 0 20)) := bytes_below (Below.refl _ _) (Nat.le_refl _) _ _
 have hsz : (Lib.bytesWorld wb 5 (s.extract 0 20)).heap.size = wb.heap.size + 1 := Lib.bytesWorld_size _ _ _
 have HRS := Aside0.mk (show RS 105 wb [(w.heap.size, .cells #[.int .i64 0, .int .i64 0, .bool false, .bool false, .int .i64 0, .int .i64 0, .int .i64 0, .bool false, .int .u64 0, .int .u64 0, .bool false, .int .u64 0, .int .u64 0, .string ⟨#[]⟩, .string ⟨#[]⟩] 37 (0, 0))] g bb L w2 from ⟨hrd, fun x hx => by
  obtain rfl := List.mem_singleton.1 hx
  exact ⟨MStr.block_below HX.out (below_step hbw hb), by have := HWS.out; simp only; omega, by have := HWS.out; simp only; omega⟩, below_step hbw hb, by omega⟩)
 clear hcall hrd hg hbb hb hbw hsz HX e20 m20
 go_wp2_with fail
 refine (ip4_Take.rs HRS.out Hn0.out (by decide) (by (try rw [List.length_drop]); rw [HN.out]; decide)).mono ?_
 rintro e w3 ⟨rfl, hrs⟩
 replace HRS := Aside0.mk (show RS 105 wb _ g bb (L.drop 1) w3 by have := hrs; rw [show (1 : Int).toNat = 1 from rfl] at this; exact this)
 clear hrs
 have hhw := HHW.out; have hws := HWZ.out; have h20 := H20.out
 have g1 : ((20 : Int) ≤ (hd : Int)) = True := eq_true (by omega)
 have g2 : ((hd : Int) ≤ (s.size : Int)) = True := eq_true (by omega)
 have g3 : ((hd : Int) ≤ (wh : Int)) = True := eq_true (by omega)
 have g4 : ((wh : Int) ≤ (s.size : Int)) = True := eq_true (by omega)
 have g5 : ((0 : Int) ≤ (hd : Int)) = True := eq_true (by omega)
 have g6 : ((0 : Int) ≤ (wh : Int)) = True := eq_true (by omega)
 have ew : IntKind.i64.wrap tos = tos := by simp only [i64_w]; unfold wrap64; omega
 clear hhw hws h20
 have HW3 := Aside0.mk (show wb.heap.size ≤ w3.heap.size from HRS.out.below.size)
 go_upto_region 6 with (fail)
 go_cut [8] (fun v8 wc => ∃ gp : Nat, v8 = .pointer (some ⟨gp, 0, none⟩) ∧ Aside0 (RS 105 wb [(gp, .cells #[.int .i64 tos, .int .i64 0, .bool false, .bool false, .int .i64 0, .int .i64 0, .int .i64 0, .bool false, .int .u64 0, .int .u64 0, .bool false, .int .u64 0, .int .u64 0, .string (s.extract 20 hd), .string (s.extract hd wh)] 37 (0, 0)), (w.heap.size, .cells #[.int .i64 0, .int .i64 0, .bool false, .bool false, .int .i64 0, .int .i64 0, .int .i64 0, .bool false, .int .u64 0, .int .u64 0, .bool false, .int .u64 0, .int .u64 0, .string ⟨#[]⟩, .string ⟨#[]⟩] 37 (0, 0))] g bb (L.drop 2) wc) ∧ Aside0 (wb.heap.size ≤ gp))
 case first =>
   go_region_held3 (fun w' => True) (trivial) (first | (go_at_call 44; refine (ip4_Take.rs (HRS.out.more (below_drew1 (Below.refl _ _))) Htos.out (by decide) (by rw [List.length_drop, HN.out]; decide)).mono ?_; rintro e w5 ⟨rfl, hrs⟩; have HW5 := Aside0.mk hrs.below.size; have HRT := Aside0.mk (show RS 105 wb _ g bb (L.drop 2) w5 by have := hrs; rw [show (1 : Int).toNat = 1 from rfl, List.drop_drop] at this; exact this); clear hrs HRS) | (go_at_call 44; refine (ip4_Take.rs ((HRS.out.alloc (.cells #[.int .i64 0, .int .i64 0, .bool false, .bool false, .int .i64 0, .int .i64 0, .int .i64 0, .bool false, .int .u64 0, .int .u64 0, .bool false, .int .u64 0, .int .u64 0, .string ⟨#[]⟩, .string ⟨#[]⟩] 37)).more (below_drew1 (Below.refl _ _))) Htos.out (by decide) (by rw [List.length_drop, HN.out]; decide)).mono ?_; rintro e w5 ⟨rfl, hrs⟩; obtain ⟨y0, y1, y2, y3, y4, y5, y6, y7, y8, y9, y10, y11, y12, y13, y14⟩ := MBlk.c15 (hrs.keep _ (List.mem_cons_self ..)).1; obtain ⟨z0, z1, z2, z3, z4, z5, z6, z7, z8, z9, z10, z11, z12, z13, z14⟩ := MBlk.f15 (hrs.keep _ (List.mem_cons_self ..)).1; have HW5 := Aside0.mk hrs.below.size; have HRT := Aside0.mk (show RS 105 wb _ g bb (L.drop 2) w5 by have := hrs; rw [show (1 : Int).toNat = 1 from rfl, List.drop_drop] at this; exact this); clear hrs HRS))
   · go_wp2
     go_meet
     case rel => exact ⟨_, rfl, ⟨HRT.out.alloc _⟩, ⟨HRT.out.below.size⟩⟩
   · go_wp2
     go_meet
     case rel =>
      have HGE := HW3.out
      have HNE : ∀ x ∈ [(w.heap.size, Obj.cells #[.int .i64 0, .int .i64 0, .bool false, .bool false, .int .i64 0, .int .i64 0, .int .i64 0, .bool false, .int .u64 0, .int .u64 0, .bool false, .int .u64 0, .int .u64 0, .string ⟨#[]⟩, .string ⟨#[]⟩] 37 (0, 0))], x.1 ≠ w3.heap.size := by
       intro x hx; obtain rfl := List.mem_singleton.1 hx; have := HWS.out; simp only; omega
      exact ⟨_, rfl, ⟨RS.all15 HRT.out HGE HNE (.int .i64 tos) (.int .i64 0) (.bool false) (.bool false) (.int .i64 0) (.int .i64 0) (.int .i64 0) (.bool false) (.int .u64 0) (.int .u64 0) (.bool false) (.int .u64 0) (.int .u64 0) (.string (s.extract 20 hd)) (.string (s.extract hd wh))⟩, ⟨by have := HW3.out; omega⟩⟩
 case rest =>
  clear HRS
  obtain ⟨gp, rfl, HRS, HGP⟩ := hcut
  have HGE := HGP.out
  have HNE : ∀ x ∈ [(w.heap.size, Obj.cells #[.int .i64 0, .int .i64 0, .bool false, .bool false, .int .i64 0, .int .i64 0, .int .i64 0, .bool false, .int .u64 0, .int .u64 0, .bool false, .int .u64 0, .int .u64 0, .string ⟨#[]⟩, .string ⟨#[]⟩] 37 (0, 0))], x.1 ≠ gp := by
   intro x hx; obtain rfl := List.mem_singleton.1 hx; have := HWS.out; simp only; omega
  have AGE := Aside0.mk HGE; have ANE := Aside0.mk HNE
  clear HGE HNE HGP ew g1 g2 g3 g4 g5 g6 hi20
  go_wp2_with fail
  refine (ip4_Take.rs HRS.out Hn2.out (by decide) (by (try rw [List.length_drop]); rw [HN.out]; decide)).mono ?_
  rintro e w4 ⟨rfl, hrs⟩
  replace HRS := Aside0.mk (show RS 105 wb _ g bb (L.drop 4) w4 by have := hrs; rw [show (2 : Int).toNat = 2 from rfl, List.drop_drop] at this; exact this)
  clear hrs
  go_wp2_with fail
  refine (ip4_Take.rs HRS.out Hid.out (by decide) (by (try rw [List.length_drop]); rw [HN.out]; decide)).mono ?_
  rintro e w11 ⟨rfl, hrs⟩
  replace HRS := Aside0.mk (show RS 105 wb _ g bb (L.drop 6) w11 by have := hrs; rw [show (2 : Int).toNat = 2 from rfl, List.drop_drop] at this; exact this)
  clear hrs
  have ew2 : IntKind.i64.wrap id = id := by simp only [i64_w]; unfold wrap64; omega
  have y1 := HRS.out.cell (j := 1) (List.mem_cons_self ..) rfl
  have z1 := HRS.out.free 1 (List.mem_cons_self ..)
  go_wp2_with fail
  clear y1 z1
  have HGE := AGE.out; have HNE := ANE.out
  replace HRS := Aside0.mk (show RS 105 wb [(gp, .cells #[.int .i64 tos, .int .i64 id, .bool false, .bool false, .int .i64 0, .int .i64 0, .int .i64 0, .bool false, .int .u64 0, .int .u64 0, .bool false, .int .u64 0, .int .u64 0, .string (s.extract 20 hd), .string (s.extract hd wh)] 37 (0, 0)), (w.heap.size, .cells #[.int .i64 0, .int .i64 0, .bool false, .bool false, .int .i64 0, .int .i64 0, .int .i64 0, .bool false, .int .u64 0, .int .u64 0, .bool false, .int .u64 0, .int .u64 0, .string ⟨#[]⟩, .string ⟨#[]⟩] 37 (0, 0))] g bb _ _ from (RS.set' (cs2 := #[.int .i64 tos, .int .i64 id, .bool false, .bool false, .int .i64 0, .int .i64 0, .int .i64 0, .bool false, .int .u64 0, .int .u64 0, .bool false, .int .u64 0, .int .u64 0, .string (s.extract 20 hd), .string (s.extract hd wh)]) HRS.out HGE HNE 1 (.int .i64 id) rfl))
  clear HGE HNE
  refine (ip4_Take.rs HRS.out Hoff.out (by decide) (by (try rw [List.length_drop]); rw [HN.out]; decide)).mono ?_
  rintro e w12 ⟨rfl, hrs⟩
  replace HRS := Aside0.mk (show RS 105 wb _ g bb (L.drop 8) w12 by have := hrs; rw [show (2 : Int).toNat = 2 from rfl, List.drop_drop] at this; exact this)
  clear hrs
  have ew3 : IntKind.i64.wrap off = off := by simp only [i64_w]; unfold wrap64; omega
  have y4 := HRS.out.cell (j := 4) (List.mem_cons_self ..) rfl
  have z4 := HRS.out.free 4 (List.mem_cons_self ..)
  have y2 := HRS.out.cell (j := 2) (List.mem_cons_self ..) rfl
  have z2 := HRS.out.free 2 (List.mem_cons_self ..)
  have y3 := HRS.out.cell (j := 3) (List.mem_cons_self ..) rfl
  have z3 := HRS.out.free 3 (List.mem_cons_self ..)
  go_wp2_with fail
  clear y4 z4 y2 z2 y3 z3
  have HGE := AGE.out; have HNE := ANE.out
  replace HRS := Aside0.mk (show RS 105 wb [(gp, .cells #[.int .i64 tos, .int .i64 id, .bool df, .bool mf, .int .i64 off2, .int .i64 0, .int .i64 0, .bool false, .int .u64 0, .int .u64 0, .bool false, .int .u64 0, .int .u64 0, .string (s.extract 20 hd), .string (s.extract hd wh)] 37 (0, 0)), (w.heap.size, .cells #[.int .i64 0, .int .i64 0, .bool false, .bool false, .int .i64 0, .int .i64 0, .int .i64 0, .bool false, .int .u64 0, .int .u64 0, .bool false, .int .u64 0, .int .u64 0, .string ⟨#[]⟩, .string ⟨#[]⟩] 37 (0, 0))] g bb _ _ from (RS.set' (cs2 := #[.int .i64 tos, .int .i64 id, .bool df, .bool mf, .int .i64 off2, .int .i64 0, .int .i64 0, .bool false, .int .u64 0, .int .u64 0, .bool false, .int .u64 0, .int .u64 0, .string (s.extract 20 hd), .string (s.extract hd wh)]) (RS.set' (cs2 := #[.int .i64 tos, .int .i64 id, .bool df, .bool false, .int .i64 off2, .int .i64 0, .int .i64 0, .bool false, .int .u64 0, .int .u64 0, .bool false, .int .u64 0, .int .u64 0, .string (s.extract 20 hd), .string (s.extract hd wh)]) (RS.set' (cs2 := #[.int .i64 tos, .int .i64 id, .bool false, .bool false, .int .i64 off2, .int .i64 0, .int .i64 0, .bool false, .int .u64 0, .int .u64 0, .bool false, .int .u64 0, .int .u64 0, .string (s.extract 20 hd), .string (s.extract hd wh)]) HRS.out HGE HNE 4 (.int .i64 off2) rfl) HGE HNE 2 (.bool df) rfl) HGE HNE 3 (.bool mf) rfl))
  clear HGE HNE
  refine (ip4_Take.rs HRS.out Httl.out (by decide) (by (try rw [List.length_drop]); rw [HN.out]; decide)).mono ?_
  rintro e w13 ⟨rfl, hrs⟩
  replace HRS := Aside0.mk (show RS 105 wb _ g bb (L.drop 9) w13 by have := hrs; rw [show (1 : Int).toNat = 1 from rfl, List.drop_drop] at this; exact this)
  clear hrs
  go_wp2_with fail
  refine (ip4_Take.rs HRS.out Hproto.out (by decide) (by (try rw [List.length_drop]); rw [HN.out]; decide)).mono ?_
  rintro e w14 ⟨rfl, hrs⟩
  replace HRS := Aside0.mk (show RS 105 wb _ g bb (L.drop 10) w14 by have := hrs; rw [show (1 : Int).toNat = 1 from rfl, List.drop_drop] at this; exact this)
  clear hrs
  have ew4 : IntKind.i64.wrap ttl = ttl := by simp only [i64_w]; unfold wrap64; omega
  have ew5 : IntKind.i64.wrap proto = proto := by simp only [i64_w]; unfold wrap64; omega
  have y5 := HRS.out.cell (j := 5) (List.mem_cons_self ..) rfl
  have z5 := HRS.out.free 5 (List.mem_cons_self ..)
  have y6 := HRS.out.cell (j := 6) (List.mem_cons_self ..) rfl
  have z6 := HRS.out.free 6 (List.mem_cons_self ..)
  go_wp2_with fail
  clear y5 z5 y6 z6
  have HGE := AGE.out; have HNE := ANE.out
  replace HRS := Aside0.mk (show RS 105 wb [(gp, .cells #[.int .i64 tos, .int .i64 id, .bool df, .bool mf, .int .i64 off2, .int .i64 ttl, .int .i64 proto, .bool false, .int .u64 0, .int .u64 0, .bool false, .int .u64 0, .int .u64 0, .string (s.extract 20 hd), .string (s.extract hd wh)] 37 (0, 0)), (w.heap.size, .cells #[.int .i64 0, .int .i64 0, .bool false, .bool false, .int .i64 0, .int .i64 0, .int .i64 0, .bool false, .int .u64 0, .int .u64 0, .bool false, .int .u64 0, .int .u64 0, .string ⟨#[]⟩, .string ⟨#[]⟩] 37 (0, 0))] g bb _ _ from (RS.set' (cs2 := #[.int .i64 tos, .int .i64 id, .bool df, .bool mf, .int .i64 off2, .int .i64 ttl, .int .i64 proto, .bool false, .int .u64 0, .int .u64 0, .bool false, .int .u64 0, .int .u64 0, .string (s.extract 20 hd), .string (s.extract hd wh)]) (RS.set' (cs2 := #[.int .i64 tos, .int .i64 id, .bool df, .bool mf, .int .i64 off2, .int .i64 ttl, .int .i64 0, .bool false, .int .u64 0, .int .u64 0, .bool false, .int .u64 0, .int .u64 0, .string (s.extract 20 hd), .string (s.extract hd wh)]) HRS.out HGE HNE 5 (.int .i64 ttl) rfl) HGE HNE 6 (.int .i64 proto) rfl))
  clear HGE HNE
  refine (ip4_Take.rs HRS.out Hn10.out (by decide) (by (try rw [List.length_drop]); rw [HN.out]; decide)).mono ?_
  rintro e w15 ⟨rfl, hrs⟩
  replace HRS := Aside0.mk (show RS 105 wb _ g bb (L.drop 12) w15 by have := hrs; rw [show (2 : Int).toNat = 2 from rfl, List.drop_drop] at this; exact this)
  clear hrs
  go_wp2_with fail
  refine (ip4_Take.rs HRS.out Hsrc.out (by decide) (by (try rw [List.length_drop]); rw [HN.out]; decide)).mono ?_
  rintro e w16 ⟨rfl, hrs⟩
  replace HRS := Aside0.mk (show RS 105 wb _ g bb (L.drop 16) w16 by have := hrs; rw [show (4 : Int).toNat = 4 from rfl, List.drop_drop] at this; exact this)
  clear hrs
  go_wp2_with fail
  refine (ip4_Take.rs HRS.out Hdst.out (by decide) (by (try rw [List.length_drop]); rw [HN.out]; decide)).mono ?_
  rintro e w17 ⟨rfl, hrs⟩
  replace HRS := Aside0.mk (show RS 105 wb _ g bb (L.drop 20) w17 by have := hrs; rw [show (4 : Int).toNat = 4 from rfl, List.drop_drop] at this; exact this)
  clear hrs
  have y7 := HRS.out.cell (j := 7) (List.mem_cons_self ..) rfl
  have z7 := HRS.out.free 7 (List.mem_cons_self ..)
  have y8 := HRS.out.cell (j := 8) (List.mem_cons_self ..) rfl
  have z8 := HRS.out.free 8 (List.mem_cons_self ..)
  have y9 := HRS.out.cell (j := 9) (List.mem_cons_self ..) rfl
  have z9 := HRS.out.free 9 (List.mem_cons_self ..)
  have y10 := HRS.out.cell (j := 10) (List.mem_cons_self ..) rfl
  have z10 := HRS.out.free 10 (List.mem_cons_self ..)
  have y11 := HRS.out.cell (j := 11) (List.mem_cons_self ..) rfl
  have z11 := HRS.out.free 11 (List.mem_cons_self ..)
  have y12 := HRS.out.cell (j := 12) (List.mem_cons_self ..) rfl
  have z12 := HRS.out.free 12 (List.mem_cons_self ..)
  have y13 := HRS.out.cell (j := 13) (List.mem_cons_self ..) rfl
  go_wp2_with fail
  clear y13
  clear y7 z7 y8 z8 y9 z9 y10 z10 y11 z11 y12 z12
  have HGE := AGE.out; have HNE := ANE.out
  replace HRS := Aside0.mk (show RS 105 wb [(gp, .cells #[.int .i64 tos, .int .i64 id, .bool df, .bool mf, .int .i64 off2, .int .i64 ttl, .int .i64 proto, .bool false, .int .u64 0, .int .u64 src, .bool false, .int .u64 0, .int .u64 dst, .string (s.extract 20 hd), .string (s.extract hd wh)] 37 (0, 0)), (w.heap.size, .cells #[.int .i64 0, .int .i64 0, .bool false, .bool false, .int .i64 0, .int .i64 0, .int .i64 0, .bool false, .int .u64 0, .int .u64 0, .bool false, .int .u64 0, .int .u64 0, .string ⟨#[]⟩, .string ⟨#[]⟩] 37 (0, 0))] g bb _ _ from (RS.set' (cs2 := #[.int .i64 tos, .int .i64 id, .bool df, .bool mf, .int .i64 off2, .int .i64 ttl, .int .i64 proto, .bool false, .int .u64 0, .int .u64 src, .bool false, .int .u64 0, .int .u64 dst, .string (s.extract 20 hd), .string (s.extract hd wh)]) (RS.set' (cs2 := #[.int .i64 tos, .int .i64 id, .bool df, .bool mf, .int .i64 off2, .int .i64 ttl, .int .i64 proto, .bool false, .int .u64 0, .int .u64 src, .bool false, .int .u64 0, .int .u64 0, .string (s.extract 20 hd), .string (s.extract hd wh)]) (RS.set' (cs2 := #[.int .i64 tos, .int .i64 id, .bool df, .bool mf, .int .i64 off2, .int .i64 ttl, .int .i64 proto, .bool false, .int .u64 0, .int .u64 src, .bool false, .int .u64 0, .int .u64 0, .string (s.extract 20 hd), .string (s.extract hd wh)]) (RS.set' (cs2 := #[.int .i64 tos, .int .i64 id, .bool df, .bool mf, .int .i64 off2, .int .i64 ttl, .int .i64 proto, .bool false, .int .u64 0, .int .u64 src, .bool false, .int .u64 0, .int .u64 0, .string (s.extract 20 hd), .string (s.extract hd wh)]) (RS.set' (cs2 := #[.int .i64 tos, .int .i64 id, .bool df, .bool mf, .int .i64 off2, .int .i64 ttl, .int .i64 proto, .bool false, .int .u64 0, .int .u64 0, .bool false, .int .u64 0, .int .u64 0, .string (s.extract 20 hd), .string (s.extract hd wh)]) (RS.set' (cs2 := #[.int .i64 tos, .int .i64 id, .bool df, .bool mf, .int .i64 off2, .int .i64 ttl, .int .i64 proto, .bool false, .int .u64 0, .int .u64 0, .bool false, .int .u64 0, .int .u64 0, .string (s.extract 20 hd), .string (s.extract hd wh)]) HRS.out HGE HNE 7 (.bool false) rfl) HGE HNE 8 (.int .u64 0) rfl) HGE HNE 9 (.int .u64 src) rfl) HGE HNE 10 (.bool false) rfl) HGE HNE 11 (.int .u64 0) rfl) HGE HNE 12 (.int .u64 dst) rfl))
  clear HGE HNE
  refine (ip4_Options.calls _ _ _ _ HO.out).mono ?_
  rintro e w20 ⟨vo, rfl, hro, hb⟩
  replace HRS := Aside0.mk (HRS.out.more hb)
  clear hb hro
  have HRES := Aside0.mk (HRS.out.keep _ (List.mem_cons_of_mem _ (List.mem_cons_self ..))).1
  obtain ⟨q0, q1, q2, q3, q4, q5, q6, q7, q8, q9, q10, q11, q12, q13, q14⟩ := MBlk.c15 (HRS.out.keep _ (List.mem_cons_self ..)).1
  obtain ⟨f0, f1, f2, f3, f4, f5, f6, f7, f8, f9, f10, f11, f12, f13, f14⟩ := MBlk.f15 HRES.out
  obtain ⟨s0, s1, s2, s3, s4, s5, s6, s7, s8, s9, s10, s11, s12, s13, s14⟩ := MBlk.c15 HRES.out
  have HBE := Aside0.mk (below_step HBW.out HRS.out.below)
  have HG0 := Aside0.mk (Nat.le_refl w.heap.size)
  have t1 : (oe != 0) = true := by simpa using hoe
  go_wp2_with fail
  refine bodyPost_ret (results_ct rfl _ _ _ 37 #[.int .i64 0, .int .i64 0, .bool false, .bool false, .int .i64 0, .int .i64 0, .int .i64 0, .bool false, .int .u64 0, .int .u64 0, .bool false, .int .u64 0, .int .u64 0, .string ⟨#[]⟩, .string ⟨#[]⟩] (0, 0) _ rfl (by have h_ := MBlk.put15 HRES.out (.int .i64 0) (.int .i64 0) (.bool false) (.bool false) (.int .i64 0) (.int .i64 0) (.int .i64 0) (.bool false) (.int .u64 0) (.int .u64 0) (.bool false) (.int .u64 0) (.int .u64 0) (.string ⟨#[]⟩) (.string ⟨#[]⟩); exact h_) Tryd.underlying37 rfl (by kernel_rfl)) rfl ?_
  exact ⟨rfl, by repeat (first | (with_reducible first | exact HBE.out | apply below_alloc | apply pw_below_drewN | apply below_drew1 | refine below_set ?_ HG0.out) | exact HBE.out)⟩
set_option maxHeartbeats 2000000 in
set_option maxRecDepth 100000 in
theorem ip4_Take.short (k : Nat) (s : ByteArray) (a b c : Int) (w : World) (hh : ip4_heads.f k s = some (a, b, c)) (hc : ¬ c = 0) :
  Calls Tryd.prog 20 #[.string s] w fun e w' => e = .returned (.tuple #[.agg #[.int .i64 0, .int .i64 0, .bool false, .bool false, .int .i64 0, .int .i64 0, .int .i64 0, .bool false, .int .u64 0, .int .u64 0, .bool false, .int .u64 0, .int .u64 0, .string ⟨#[]⟩, .string ⟨#[]⟩], .int .i64 c]) ∧ Below w.heap.size w w' := by
 have HH := Aside0.mk hh
 clear hh
 have t1 : (c != 0) = true := by simpa using hc
 obtain ⟨wa, hwa⟩ : ∃ wa, w.alloc (.cells #[.int .i64 0, .int .i64 0, .bool false, .bool false, .int .i64 0, .int .i64 0, .int .i64 0, .bool false, .int .u64 0, .int .u64 0, .bool false, .int .u64 0, .int .u64 0, .string ⟨#[]⟩, .string ⟨#[]⟩] 37) = wa := ⟨_, rfl⟩
 have HBA := Aside0.mk (show Below w.heap.size w wa by rw [← hwa]; exact below_alloc (Below.refl _ _) _)
 have HX := Aside0.mk (show wa.heap[w.heap.size]? = some (.cells #[.int .i64 0, .int .i64 0, .bool false, .bool false, .int .i64 0, .int .i64 0, .int .i64 0, .bool false, .int .u64 0, .int .u64 0, .bool false, .int .u64 0, .int .u64 0, .string ⟨#[]⟩, .string ⟨#[]⟩] 37 (0, 0)) by rw [← hwa]; exact heap_alloc_new _ _)
 have hu26 := Tryd.underlying37
 have hu24 := Tryd.underlying28
 go_enter Tryd.func20, Tryd.ntmps20
 go_wp2_with fail
 clear hwa
 refine (ip4_heads.calls k s _ _ _ _ HH.out).mono ?_
 rintro e wb ⟨rfl, hb⟩
 have HBE := Aside0.mk (below_step HBA.out hb)
 have HRES := Aside0.mk (MStr.block_below HX.out hb)
 have HG0 := Aside0.mk (Nat.le_refl w.heap.size)
 clear hb
 obtain ⟨f0, f1, f2, f3, f4, f5, f6, f7, f8, f9, f10, f11, f12, f13, f14⟩ := MBlk.f15 HRES.out
 obtain ⟨s0, s1, s2, s3, s4, s5, s6, s7, s8, s9, s10, s11, s12, s13, s14⟩ := MBlk.c15 HRES.out
 go_wp2_with fail
 refine bodyPost_ret (results_ct rfl _ _ _ 37 #[.int .i64 0, .int .i64 0, .bool false, .bool false, .int .i64 0, .int .i64 0, .int .i64 0, .bool false, .int .u64 0, .int .u64 0, .bool false, .int .u64 0, .int .u64 0, .string ⟨#[]⟩, .string ⟨#[]⟩] (0, 0) _ rfl (by have h_ := MBlk.put15 HRES.out (.int .i64 0) (.int .i64 0) (.bool false) (.bool false) (.int .i64 0) (.int .i64 0) (.int .i64 0) (.bool false) (.int .u64 0) (.int .u64 0) (.bool false) (.int .u64 0) (.int .u64 0) (.string ⟨#[]⟩) (.string ⟨#[]⟩); exact h_) Tryd.underlying37 rfl (by kernel_rfl)) rfl ?_
 exact ⟨rfl, by repeat (first | (with_reducible first | exact HBE.out | apply below_alloc | apply pw_below_drewN | apply below_drew1 | refine below_set ?_ HG0.out) | exact HBE.out)⟩
theorem ip4_Take.mono : ∀ a0 k, LeO (ip4_Take.f k a0) (ip4_Take.f (k + 1) a0) := by
 intro a0 k
 unfold ip4_Take.f
 repeat' first | (with_reducible exact ip4_heads.mono _ _) | (with_reducible exact ip4_Take.num_mono _ _ _) | (with_reducible exact LeO.refl _) | (with_reducible exact LeO.none _) | (with_reducible refine LeO.ite ?_ ?_) | (with_reducible refine LeO.bind ?_ (fun _ => ?_))
theorem ip4_Take.calls (k : Nat) (a0 : ByteArray) (r1 : Int) (r2 : Int) (r3 : Bool) (r4 : Bool) (r5 : Int) (r6 : Int) (r7 : Int) (r8 : Bool) (r9 : Int) (r10 : Int) (r11 : Bool) (r12 : Int) (r13 : Int) (r14 : ByteArray) (r15 : ByteArray) (r16 : Int) (w : World) (h : ip4_Take.f k a0 = some (r1, r2, r3, r4, r5, r6, r7, r8, r9, r10, r11, r12, r13, r14, r15, r16)) :
  Calls Tryd.prog 20 #[.string a0] w fun e w' => e = .returned (.tuple #[.agg #[.int .i64 r1, .int .i64 r2, .bool r3, .bool r4, .int .i64 r5, .int .i64 r6, .int .i64 r7, .bool r8, .int .u64 r9, .int .u64 r10, .bool r11, .int .u64 r12, .int .u64 r13, .string r14, .string r15], .int .i64 r16]) ∧ Below w.heap.size w w' := by
 unfold ip4_Take.f at h
 obtain ⟨⟨a, b, c⟩, hh, h⟩ := Option.bind_eq_some_iff.1 h
 simp only at h
 by_cases hc : c = 0
 case neg =>
  rw [if_pos hc] at h
  injection h with h; simp only [ip4_Take.no, Prod.mk.injEq] at h
  obtain ⟨rfl, rfl, rfl, rfl, rfl, rfl, rfl, rfl, rfl, rfl, rfl, rfl, rfl, rfl, rfl, rfl⟩ := h
  exact ip4_Take.short k a0 a b c w hh hc
 rw [if_neg (fun q => q hc)] at h
 by_cases hr : 20 ≤ a ∧ a ≤ b ∧ b ≤ (a0.size : Int)
 case neg => rw [if_pos hr] at h; cases h
 rw [if_neg (fun q => q hr)] at h
 obtain ⟨hd, rfl⟩ := Int.eq_ofNat_of_zero_le (show 0 ≤ a by omega)
 obtain ⟨wh, rfl⟩ := Int.eq_ofNat_of_zero_le (show 0 ≤ b by omega)
 rw [Int.toNat_natCast] at h
 subst hc
 obtain ⟨n0, hn0, h⟩ := Option.bind_eq_some_iff.1 h
 obtain ⟨tos, htos, h⟩ := Option.bind_eq_some_iff.1 h
 obtain ⟨n2, hn2, h⟩ := Option.bind_eq_some_iff.1 h
 obtain ⟨id, hid, h⟩ := Option.bind_eq_some_iff.1 h
 obtain ⟨off, hoff, h⟩ := Option.bind_eq_some_iff.1 h
 obtain ⟨ttl, httl, h⟩ := Option.bind_eq_some_iff.1 h
 obtain ⟨proto, hproto, h⟩ := Option.bind_eq_some_iff.1 h
 obtain ⟨n10, hn10, h⟩ := Option.bind_eq_some_iff.1 h
 obtain ⟨src, hsrc, h⟩ := Option.bind_eq_some_iff.1 h
 obtain ⟨dst, hdst, h⟩ := Option.bind_eq_some_iff.1 h
 obtain ⟨⟨ol, oe⟩, ho, h⟩ := Option.bind_eq_some_iff.1 h
 unfold ip4_Take.fin at h
 by_cases hq : 0 ≤ tos ∧ tos ≤ 255 ∧ 0 ≤ id ∧ id ≤ 65535 ∧ 0 ≤ off ∧ off ≤ 65535 ∧ 0 ≤ ttl ∧ ttl ≤ 255 ∧ 0 ≤ proto ∧ proto ≤ 255
 case neg => rw [if_pos hq] at h; cases h
 rw [if_neg (fun q => q hq)] at h
 obtain ⟨t1, t2, t3, t4, t5, t6, t7, t8, t9, t10⟩ := hq
 simp only at h
 by_cases hoe : oe = 0
 · rw [if_neg (fun q => q hoe)] at h
   injection h with h; simp only [Prod.mk.injEq, Int.toNat_natCast] at h
   obtain ⟨rfl, rfl, rfl, rfl, rfl, rfl, rfl, rfl, rfl, rfl, rfl, rfl, rfl, rfl, rfl, rfl⟩ := h
   exact ip4_Take.good k a0 hd wh n0 tos n2 id off ttl proto n10 src dst _ _ _ ol oe w hh (by omega) (by omega) (by omega) hn0 htos hn2 hid hoff httl hproto hn10 hsrc hdst ho ⟨t1, t2⟩ ⟨t3, t4⟩ ⟨t5, t6⟩ ⟨t7, t8⟩ ⟨t9, t10⟩ rfl rfl rfl hoe
 · rw [if_pos hoe] at h
   injection h with h; simp only [ip4_Take.no, Prod.mk.injEq] at h
   obtain ⟨rfl, rfl, rfl, rfl, rfl, rfl, rfl, rfl, rfl, rfl, rfl, rfl, rfl, rfl, rfl, rfl⟩ := h
   exact ip4_Take.opts k a0 hd wh n0 tos n2 id off ttl proto n10 src dst _ _ _ ol oe w hh (by omega) (by omega) (by omega) hn0 htos hn2 hid hoff httl hproto hn10 hsrc hdst ho ⟨t1, t2⟩ ⟨t3, t4⟩ ⟨t5, t6⟩ ⟨t7, t8⟩ ⟨t9, t10⟩ rfl rfl rfl hoe

/-! ### excuse_mayFour: function 35 -/
def excuse_mayFour.f (k : Nat) (a0 : ByteArray) : Option (Bool) := (ip4_Take.f k a0).bind fun bt186 => (if bt186.2.2.2.2.2.2.2.2.2.2.2.2.2.2.2 = 0 then ((excuse_ends.f bt186.2.2.2.2.2.2.2.1 bt186.2.2.2.2.2.2.2.2.1 bt186.2.2.2.2.2.2.2.2.2.1 bt186.2.2.2.2.2.2.2.2.2.2.1 bt186.2.2.2.2.2.2.2.2.2.2.2.1 bt186.2.2.2.2.2.2.2.2.2.2.2.2.1).bind fun t203 => (if t203 = true then (if bt186.2.2.2.2.1 = 0 then (if bt186.2.2.2.2.2.2.1 = 1 then ((excuse_isError.f false bt186.2.2.2.2.2.2.2.2.2.2.2.2.2.2.1).bind fun t204 => (some (!t204))) else (some (!false))) else (some false)) else (some false))) else (some false))
theorem excuse_mayFour.mono : ∀ a0 k, LeO (excuse_mayFour.f k a0) (excuse_mayFour.f (k + 1) a0) := by
 intro a0 k
 unfold excuse_mayFour.f
 repeat' first
   | (with_reducible exact ip4_Take.mono _ _)
   | (with_reducible exact LeO.refl _)
   | (with_reducible exact LeO.none _)
   | (with_reducible refine LeO.ite ?_ ?_)
   | (with_reducible refine LeO.bind ?_ (fun _ => ?_))
   | exact ip4_Take.mono _ _
   | exact LeO.none _
   | refine LeO.ite ?_ ?_
   | refine LeO.bind ?_ (fun _ => ?_)
set_option maxHeartbeats 8000000 in
set_option maxRecDepth 100000 in
theorem excuse_mayFour.calls (k : Nat) (a0 : ByteArray) (r : Bool) (w : World) (h : excuse_mayFour.f k a0 = some r) :
  Calls Tryd.prog 35 #[.string a0] w fun e w' => e = .returned (.bool r) ∧ Below w.heap.size w w' := by
 have hu37 := Tryd.underlying37
 have hu28 := Tryd.underlying28
 have HB := Aside0.mk (Below.refl w.heap.size w)
 have H : ((ip4_Take.f k a0).bind fun bt186 => (if bt186.2.2.2.2.2.2.2.2.2.2.2.2.2.2.2 = 0 then ((excuse_ends.f bt186.2.2.2.2.2.2.2.1 bt186.2.2.2.2.2.2.2.2.1 bt186.2.2.2.2.2.2.2.2.2.1 bt186.2.2.2.2.2.2.2.2.2.2.1 bt186.2.2.2.2.2.2.2.2.2.2.2.1 bt186.2.2.2.2.2.2.2.2.2.2.2.2.1).bind fun t203 => (if t203 = true then (if bt186.2.2.2.2.1 = 0 then (if bt186.2.2.2.2.2.2.1 = 1 then ((excuse_isError.f false bt186.2.2.2.2.2.2.2.2.2.2.2.2.2.2.1).bind fun t204 => (some (!t204))) else (some (!false))) else (some false)) else (some false))) else (some false))) = some r := h
 clear h
 replace H := Option.bind_eq_some_iff.mp H
 obtain ⟨⟨t186, t187, t188, t189, t190, t191, t192, t193, t194, t195, t196, t197, t198, t199, t200, t201⟩, A20, H⟩ := H
 replace H : (if t201 = 0 then ((excuse_ends.f t193 t194 t195 t196 t197 t198).bind fun t203 => (if t203 = true then (if t190 = 0 then (if t192 = 1 then ((excuse_isError.f false t200).bind fun t204 => (some (!t204))) else (some (!false))) else (some false)) else (some false))) else (some false)) = some r := H
 have A2 := Aside0.mk A20
 clear A20
 by_cases c3 : t201 = 0
 ·
  rw [if_pos c3] at H
  have c3b0 : (t201 == 0) = true := beq_iff_eq.mpr c3
  have c3b1 : (t201 != 0) = false := bne_eq_false_iff_eq.mpr c3
  clear c3
  replace H := Option.bind_eq_some_iff.mp H
  obtain ⟨t203, A40, H⟩ := H
  have A4 := Aside0.mk A40
  clear A40
  by_cases c5 : t203 = true
  ·
   subst c5
   rw [if_pos rfl] at H
   by_cases c6 : t190 = 0
   ·
    rw [if_pos c6] at H
    have c6b0 : (t190 == 0) = true := beq_iff_eq.mpr c6
    have c6b1 : (t190 != 0) = false := bne_eq_false_iff_eq.mpr c6
    clear c6
    by_cases c7 : t192 = 1
    ·
     rw [if_pos c7] at H
     have c7b0 : (t192 == 1) = true := beq_iff_eq.mpr c7
     have c7b1 : (t192 != 1) = false := bne_eq_false_iff_eq.mpr c7
     clear c7
     replace H := Option.bind_eq_some_iff.mp H
     obtain ⟨t204, A80, H⟩ := H
     have A8 := Aside0.mk A80
     clear A80
     obtain rfl := Option.some.inj H
     go_enter Tryd.func35, Tryd.ntmps35
     go_wp2_with (first | ((with_reducible refine gate_callee (f := 20) rfl ?_); refine sh_C 7 Tryd.func20 #[.string a0] ?_; (with_reducible refine (ip4_Take.calls k a0 t186 t187 t188 t189 t190 t191 t192 t193 t194 t195 t196 t197 t198 t199 t200 t201 _ A2.out).mono ?_); rintro e w9 ⟨rfl, hb⟩; refine ⟨_, rfl, ?_⟩; replace HB := sh_S HB hb; (try clear hb); (try clear hb2); (try clear hk); (try clear hi)) | ((with_reducible refine gate_dst (N := 3) rfl ?_); refine sh_E 3 37 #[.int .i64 0, .int .i64 0, .bool false, .bool false, .int .i64 0, .int .i64 0, .int .i64 0, .bool false, .int .u64 0, .int .u64 0, .bool false, .int .u64 0, .int .u64 0, .string (⟨#[]⟩ : ByteArray), .string (⟨#[]⟩ : ByteArray)] ?_; intro gb202 hg w10 hbox hb; have BK202 := Aside0.mk hbox; have GW202 := sh_G HB hg; have GE202 := GW202; replace HB := sh_S HB hb; clear hb hbox hg; obtain ⟨hcz11_0, hcz11_1, hcz11_2, hcz11_3, hcz11_4, hcz11_5, hcz11_6, hcz11_7, hcz11_8, hcz11_9, hcz11_10, hcz11_11, hcz11_12, hcz11_13, hcz11_14⟩ := MBlk.c15 BK202.out; obtain ⟨hfz11_0, hfz11_1, hfz11_2, hfz11_3, hfz11_4, hfz11_5, hfz11_6, hfz11_7, hfz11_8, hfz11_9, hfz11_10, hfz11_11, hfz11_12, hfz11_13, hfz11_14⟩ := MBlk.f15 BK202.out) | (go_at_call 68; (with_reducible refine (excuse_ends.calls t193 t194 t195 t196 t197 t198 true _ A4.out).mono ?_); rintro e w12 ⟨rfl, hb⟩; have n0_ := Aside0.mk (blk_below (g := gb202) (o := .cells #[.int .i64 t186, .int .i64 t187, .bool t188, .bool t189, .int .i64 t190, .int .i64 t191, .int .i64 t192, .bool t193, .int .u64 t194, .int .u64 t195, .bool t196, .int .u64 t197, .int .u64 t198, .string t199, .string t200] 37 (0, 0)) (by (with_reducible repeat (first | refine blk_drewN ?_ _ | refine blk_drew ?_ | refine blk_alloc ?_ _)); refine blk_put (cs := #[.int .i64 t186, .int .i64 t187, .bool t188, .bool t189, .int .i64 t190, .int .i64 t191, .int .i64 t192, .bool t193, .int .u64 t194, .int .u64 t195, .bool t196, .int .u64 t197, .int .u64 t198, .string t199, .string (⟨#[]⟩ : ByteArray)]) ?_ 14 _ rfl; (with_reducible repeat (first | refine blk_drewN ?_ _ | refine blk_drew ?_ | refine blk_alloc ?_ _)); refine blk_put (cs := #[.int .i64 t186, .int .i64 t187, .bool t188, .bool t189, .int .i64 t190, .int .i64 t191, .int .i64 t192, .bool t193, .int .u64 t194, .int .u64 t195, .bool t196, .int .u64 t197, .int .u64 t198, .string (⟨#[]⟩ : ByteArray), .string (⟨#[]⟩ : ByteArray)]) ?_ 13 _ rfl; (with_reducible repeat (first | refine blk_drewN ?_ _ | refine blk_drew ?_ | refine blk_alloc ?_ _)); refine blk_put (cs := #[.int .i64 t186, .int .i64 t187, .bool t188, .bool t189, .int .i64 t190, .int .i64 t191, .int .i64 t192, .bool t193, .int .u64 t194, .int .u64 t195, .bool t196, .int .u64 t197, .int .u64 0, .string (⟨#[]⟩ : ByteArray), .string (⟨#[]⟩ : ByteArray)]) ?_ 12 _ rfl; (with_reducible repeat (first | refine blk_drewN ?_ _ | refine blk_drew ?_ | refine blk_alloc ?_ _)); refine blk_put (cs := #[.int .i64 t186, .int .i64 t187, .bool t188, .bool t189, .int .i64 t190, .int .i64 t191, .int .i64 t192, .bool t193, .int .u64 t194, .int .u64 t195, .bool t196, .int .u64 0, .int .u64 0, .string (⟨#[]⟩ : ByteArray), .string (⟨#[]⟩ : ByteArray)]) ?_ 11 _ rfl; (with_reducible repeat (first | refine blk_drewN ?_ _ | refine blk_drew ?_ | refine blk_alloc ?_ _)); refine blk_put (cs := #[.int .i64 t186, .int .i64 t187, .bool t188, .bool t189, .int .i64 t190, .int .i64 t191, .int .i64 t192, .bool t193, .int .u64 t194, .int .u64 t195, .bool false, .int .u64 0, .int .u64 0, .string (⟨#[]⟩ : ByteArray), .string (⟨#[]⟩ : ByteArray)]) ?_ 10 _ rfl; (with_reducible repeat (first | refine blk_drewN ?_ _ | refine blk_drew ?_ | refine blk_alloc ?_ _)); refine blk_put (cs := #[.int .i64 t186, .int .i64 t187, .bool t188, .bool t189, .int .i64 t190, .int .i64 t191, .int .i64 t192, .bool t193, .int .u64 t194, .int .u64 0, .bool false, .int .u64 0, .int .u64 0, .string (⟨#[]⟩ : ByteArray), .string (⟨#[]⟩ : ByteArray)]) ?_ 9 _ rfl; (with_reducible repeat (first | refine blk_drewN ?_ _ | refine blk_drew ?_ | refine blk_alloc ?_ _)); refine blk_put (cs := #[.int .i64 t186, .int .i64 t187, .bool t188, .bool t189, .int .i64 t190, .int .i64 t191, .int .i64 t192, .bool t193, .int .u64 0, .int .u64 0, .bool false, .int .u64 0, .int .u64 0, .string (⟨#[]⟩ : ByteArray), .string (⟨#[]⟩ : ByteArray)]) ?_ 8 _ rfl; (with_reducible repeat (first | refine blk_drewN ?_ _ | refine blk_drew ?_ | refine blk_alloc ?_ _)); refine blk_put (cs := #[.int .i64 t186, .int .i64 t187, .bool t188, .bool t189, .int .i64 t190, .int .i64 t191, .int .i64 t192, .bool false, .int .u64 0, .int .u64 0, .bool false, .int .u64 0, .int .u64 0, .string (⟨#[]⟩ : ByteArray), .string (⟨#[]⟩ : ByteArray)]) ?_ 7 _ rfl; (with_reducible repeat (first | refine blk_drewN ?_ _ | refine blk_drew ?_ | refine blk_alloc ?_ _)); refine blk_put (cs := #[.int .i64 t186, .int .i64 t187, .bool t188, .bool t189, .int .i64 t190, .int .i64 t191, .int .i64 0, .bool false, .int .u64 0, .int .u64 0, .bool false, .int .u64 0, .int .u64 0, .string (⟨#[]⟩ : ByteArray), .string (⟨#[]⟩ : ByteArray)]) ?_ 6 _ rfl; (with_reducible repeat (first | refine blk_drewN ?_ _ | refine blk_drew ?_ | refine blk_alloc ?_ _)); refine blk_put (cs := #[.int .i64 t186, .int .i64 t187, .bool t188, .bool t189, .int .i64 t190, .int .i64 0, .int .i64 0, .bool false, .int .u64 0, .int .u64 0, .bool false, .int .u64 0, .int .u64 0, .string (⟨#[]⟩ : ByteArray), .string (⟨#[]⟩ : ByteArray)]) ?_ 5 _ rfl; (with_reducible repeat (first | refine blk_drewN ?_ _ | refine blk_drew ?_ | refine blk_alloc ?_ _)); refine blk_put (cs := #[.int .i64 t186, .int .i64 t187, .bool t188, .bool t189, .int .i64 0, .int .i64 0, .int .i64 0, .bool false, .int .u64 0, .int .u64 0, .bool false, .int .u64 0, .int .u64 0, .string (⟨#[]⟩ : ByteArray), .string (⟨#[]⟩ : ByteArray)]) ?_ 4 _ rfl; (with_reducible repeat (first | refine blk_drewN ?_ _ | refine blk_drew ?_ | refine blk_alloc ?_ _)); refine blk_put (cs := #[.int .i64 t186, .int .i64 t187, .bool t188, .bool false, .int .i64 0, .int .i64 0, .int .i64 0, .bool false, .int .u64 0, .int .u64 0, .bool false, .int .u64 0, .int .u64 0, .string (⟨#[]⟩ : ByteArray), .string (⟨#[]⟩ : ByteArray)]) ?_ 3 _ rfl; (with_reducible repeat (first | refine blk_drewN ?_ _ | refine blk_drew ?_ | refine blk_alloc ?_ _)); refine blk_put (cs := #[.int .i64 t186, .int .i64 t187, .bool false, .bool false, .int .i64 0, .int .i64 0, .int .i64 0, .bool false, .int .u64 0, .int .u64 0, .bool false, .int .u64 0, .int .u64 0, .string (⟨#[]⟩ : ByteArray), .string (⟨#[]⟩ : ByteArray)]) ?_ 2 _ rfl; (with_reducible repeat (first | refine blk_drewN ?_ _ | refine blk_drew ?_ | refine blk_alloc ?_ _)); refine blk_put (cs := #[.int .i64 t186, .int .i64 0, .bool false, .bool false, .int .i64 0, .int .i64 0, .int .i64 0, .bool false, .int .u64 0, .int .u64 0, .bool false, .int .u64 0, .int .u64 0, .string (⟨#[]⟩ : ByteArray), .string (⟨#[]⟩ : ByteArray)]) ?_ 1 _ rfl; (with_reducible repeat (first | refine blk_drewN ?_ _ | refine blk_drew ?_ | refine blk_alloc ?_ _)); refine blk_put (cs := #[.int .i64 0, .int .i64 0, .bool false, .bool false, .int .i64 0, .int .i64 0, .int .i64 0, .bool false, .int .u64 0, .int .u64 0, .bool false, .int .u64 0, .int .u64 0, .string (⟨#[]⟩ : ByteArray), .string (⟨#[]⟩ : ByteArray)]) ?_ 0 _ rfl; (with_reducible repeat (first | refine blk_drewN ?_ _ | refine blk_drew ?_ | refine blk_alloc ?_ _)); exact BK202.out) hb); have n1_ := sh_S HB hb; clear BK202; clear HB; have BK202 := n0_; have HB := n1_; clear n0_ n1_; (try clear hb); (try clear hb2); (try clear hk); (try clear hi); obtain ⟨hcz13_0, hcz13_1, hcz13_2, hcz13_3, hcz13_4, hcz13_5, hcz13_6, hcz13_7, hcz13_8, hcz13_9, hcz13_10, hcz13_11, hcz13_12, hcz13_13, hcz13_14⟩ := MBlk.c15 BK202.out; obtain ⟨hfz13_0, hfz13_1, hfz13_2, hfz13_3, hfz13_4, hfz13_5, hfz13_6, hfz13_7, hfz13_8, hfz13_9, hfz13_10, hfz13_11, hfz13_12, hfz13_13, hfz13_14⟩ := MBlk.f15 BK202.out) | (go_at_call 69; (with_reducible refine (excuse_isError.calls false t200 t204 _ A8.out).mono ?_); rintro e w14 ⟨rfl, hb⟩; replace BK202 := sh_L BK202 hb; replace HB := sh_S HB hb; (try clear hb); (try clear hb2); (try clear hk); (try clear hi)))
     go_ret
     exact ⟨by first | rfl | (simp [errW_none, errW_some] <;> rfl) | (simp [*, errW_none, errW_some] <;> rfl), by repeat (first | (with_reducible first | exact HB.out | apply below_alloc | apply pw_below_drewN | apply below_drew1 | refine below_set ?_ GE202.out) | exact HB.out)⟩
    ·
     rw [if_neg c7] at H
     have c7b0 : (t192 == 1) = false := beq_eq_false_iff_ne.mpr c7
     have c7b1 : (t192 != 1) = true := bne_iff_ne.mpr c7
     obtain rfl := Option.some.inj H
     go_enter Tryd.func35, Tryd.ntmps35
     go_wp2_with (first | ((with_reducible refine gate_callee (f := 20) rfl ?_); refine sh_C 7 Tryd.func20 #[.string a0] ?_; (with_reducible refine (ip4_Take.calls k a0 t186 t187 t188 t189 t190 t191 t192 t193 t194 t195 t196 t197 t198 t199 t200 t201 _ A2.out).mono ?_); rintro e w15 ⟨rfl, hb⟩; refine ⟨_, rfl, ?_⟩; replace HB := sh_S HB hb; (try clear hb); (try clear hb2); (try clear hk); (try clear hi)) | ((with_reducible refine gate_dst (N := 3) rfl ?_); refine sh_E 3 37 #[.int .i64 0, .int .i64 0, .bool false, .bool false, .int .i64 0, .int .i64 0, .int .i64 0, .bool false, .int .u64 0, .int .u64 0, .bool false, .int .u64 0, .int .u64 0, .string (⟨#[]⟩ : ByteArray), .string (⟨#[]⟩ : ByteArray)] ?_; intro gb202 hg w16 hbox hb; have BK202 := Aside0.mk hbox; have GW202 := sh_G HB hg; have GE202 := GW202; replace HB := sh_S HB hb; clear hb hbox hg; obtain ⟨hcz17_0, hcz17_1, hcz17_2, hcz17_3, hcz17_4, hcz17_5, hcz17_6, hcz17_7, hcz17_8, hcz17_9, hcz17_10, hcz17_11, hcz17_12, hcz17_13, hcz17_14⟩ := MBlk.c15 BK202.out; obtain ⟨hfz17_0, hfz17_1, hfz17_2, hfz17_3, hfz17_4, hfz17_5, hfz17_6, hfz17_7, hfz17_8, hfz17_9, hfz17_10, hfz17_11, hfz17_12, hfz17_13, hfz17_14⟩ := MBlk.f15 BK202.out) | (go_at_call 68; (with_reducible refine (excuse_ends.calls t193 t194 t195 t196 t197 t198 true _ A4.out).mono ?_); rintro e w18 ⟨rfl, hb⟩; have n0_ := Aside0.mk (blk_below (g := gb202) (o := .cells #[.int .i64 t186, .int .i64 t187, .bool t188, .bool t189, .int .i64 t190, .int .i64 t191, .int .i64 t192, .bool t193, .int .u64 t194, .int .u64 t195, .bool t196, .int .u64 t197, .int .u64 t198, .string t199, .string t200] 37 (0, 0)) (by (with_reducible repeat (first | refine blk_drewN ?_ _ | refine blk_drew ?_ | refine blk_alloc ?_ _)); refine blk_put (cs := #[.int .i64 t186, .int .i64 t187, .bool t188, .bool t189, .int .i64 t190, .int .i64 t191, .int .i64 t192, .bool t193, .int .u64 t194, .int .u64 t195, .bool t196, .int .u64 t197, .int .u64 t198, .string t199, .string (⟨#[]⟩ : ByteArray)]) ?_ 14 _ rfl; (with_reducible repeat (first | refine blk_drewN ?_ _ | refine blk_drew ?_ | refine blk_alloc ?_ _)); refine blk_put (cs := #[.int .i64 t186, .int .i64 t187, .bool t188, .bool t189, .int .i64 t190, .int .i64 t191, .int .i64 t192, .bool t193, .int .u64 t194, .int .u64 t195, .bool t196, .int .u64 t197, .int .u64 t198, .string (⟨#[]⟩ : ByteArray), .string (⟨#[]⟩ : ByteArray)]) ?_ 13 _ rfl; (with_reducible repeat (first | refine blk_drewN ?_ _ | refine blk_drew ?_ | refine blk_alloc ?_ _)); refine blk_put (cs := #[.int .i64 t186, .int .i64 t187, .bool t188, .bool t189, .int .i64 t190, .int .i64 t191, .int .i64 t192, .bool t193, .int .u64 t194, .int .u64 t195, .bool t196, .int .u64 t197, .int .u64 0, .string (⟨#[]⟩ : ByteArray), .string (⟨#[]⟩ : ByteArray)]) ?_ 12 _ rfl; (with_reducible repeat (first | refine blk_drewN ?_ _ | refine blk_drew ?_ | refine blk_alloc ?_ _)); refine blk_put (cs := #[.int .i64 t186, .int .i64 t187, .bool t188, .bool t189, .int .i64 t190, .int .i64 t191, .int .i64 t192, .bool t193, .int .u64 t194, .int .u64 t195, .bool t196, .int .u64 0, .int .u64 0, .string (⟨#[]⟩ : ByteArray), .string (⟨#[]⟩ : ByteArray)]) ?_ 11 _ rfl; (with_reducible repeat (first | refine blk_drewN ?_ _ | refine blk_drew ?_ | refine blk_alloc ?_ _)); refine blk_put (cs := #[.int .i64 t186, .int .i64 t187, .bool t188, .bool t189, .int .i64 t190, .int .i64 t191, .int .i64 t192, .bool t193, .int .u64 t194, .int .u64 t195, .bool false, .int .u64 0, .int .u64 0, .string (⟨#[]⟩ : ByteArray), .string (⟨#[]⟩ : ByteArray)]) ?_ 10 _ rfl; (with_reducible repeat (first | refine blk_drewN ?_ _ | refine blk_drew ?_ | refine blk_alloc ?_ _)); refine blk_put (cs := #[.int .i64 t186, .int .i64 t187, .bool t188, .bool t189, .int .i64 t190, .int .i64 t191, .int .i64 t192, .bool t193, .int .u64 t194, .int .u64 0, .bool false, .int .u64 0, .int .u64 0, .string (⟨#[]⟩ : ByteArray), .string (⟨#[]⟩ : ByteArray)]) ?_ 9 _ rfl; (with_reducible repeat (first | refine blk_drewN ?_ _ | refine blk_drew ?_ | refine blk_alloc ?_ _)); refine blk_put (cs := #[.int .i64 t186, .int .i64 t187, .bool t188, .bool t189, .int .i64 t190, .int .i64 t191, .int .i64 t192, .bool t193, .int .u64 0, .int .u64 0, .bool false, .int .u64 0, .int .u64 0, .string (⟨#[]⟩ : ByteArray), .string (⟨#[]⟩ : ByteArray)]) ?_ 8 _ rfl; (with_reducible repeat (first | refine blk_drewN ?_ _ | refine blk_drew ?_ | refine blk_alloc ?_ _)); refine blk_put (cs := #[.int .i64 t186, .int .i64 t187, .bool t188, .bool t189, .int .i64 t190, .int .i64 t191, .int .i64 t192, .bool false, .int .u64 0, .int .u64 0, .bool false, .int .u64 0, .int .u64 0, .string (⟨#[]⟩ : ByteArray), .string (⟨#[]⟩ : ByteArray)]) ?_ 7 _ rfl; (with_reducible repeat (first | refine blk_drewN ?_ _ | refine blk_drew ?_ | refine blk_alloc ?_ _)); refine blk_put (cs := #[.int .i64 t186, .int .i64 t187, .bool t188, .bool t189, .int .i64 t190, .int .i64 t191, .int .i64 0, .bool false, .int .u64 0, .int .u64 0, .bool false, .int .u64 0, .int .u64 0, .string (⟨#[]⟩ : ByteArray), .string (⟨#[]⟩ : ByteArray)]) ?_ 6 _ rfl; (with_reducible repeat (first | refine blk_drewN ?_ _ | refine blk_drew ?_ | refine blk_alloc ?_ _)); refine blk_put (cs := #[.int .i64 t186, .int .i64 t187, .bool t188, .bool t189, .int .i64 t190, .int .i64 0, .int .i64 0, .bool false, .int .u64 0, .int .u64 0, .bool false, .int .u64 0, .int .u64 0, .string (⟨#[]⟩ : ByteArray), .string (⟨#[]⟩ : ByteArray)]) ?_ 5 _ rfl; (with_reducible repeat (first | refine blk_drewN ?_ _ | refine blk_drew ?_ | refine blk_alloc ?_ _)); refine blk_put (cs := #[.int .i64 t186, .int .i64 t187, .bool t188, .bool t189, .int .i64 0, .int .i64 0, .int .i64 0, .bool false, .int .u64 0, .int .u64 0, .bool false, .int .u64 0, .int .u64 0, .string (⟨#[]⟩ : ByteArray), .string (⟨#[]⟩ : ByteArray)]) ?_ 4 _ rfl; (with_reducible repeat (first | refine blk_drewN ?_ _ | refine blk_drew ?_ | refine blk_alloc ?_ _)); refine blk_put (cs := #[.int .i64 t186, .int .i64 t187, .bool t188, .bool false, .int .i64 0, .int .i64 0, .int .i64 0, .bool false, .int .u64 0, .int .u64 0, .bool false, .int .u64 0, .int .u64 0, .string (⟨#[]⟩ : ByteArray), .string (⟨#[]⟩ : ByteArray)]) ?_ 3 _ rfl; (with_reducible repeat (first | refine blk_drewN ?_ _ | refine blk_drew ?_ | refine blk_alloc ?_ _)); refine blk_put (cs := #[.int .i64 t186, .int .i64 t187, .bool false, .bool false, .int .i64 0, .int .i64 0, .int .i64 0, .bool false, .int .u64 0, .int .u64 0, .bool false, .int .u64 0, .int .u64 0, .string (⟨#[]⟩ : ByteArray), .string (⟨#[]⟩ : ByteArray)]) ?_ 2 _ rfl; (with_reducible repeat (first | refine blk_drewN ?_ _ | refine blk_drew ?_ | refine blk_alloc ?_ _)); refine blk_put (cs := #[.int .i64 t186, .int .i64 0, .bool false, .bool false, .int .i64 0, .int .i64 0, .int .i64 0, .bool false, .int .u64 0, .int .u64 0, .bool false, .int .u64 0, .int .u64 0, .string (⟨#[]⟩ : ByteArray), .string (⟨#[]⟩ : ByteArray)]) ?_ 1 _ rfl; (with_reducible repeat (first | refine blk_drewN ?_ _ | refine blk_drew ?_ | refine blk_alloc ?_ _)); refine blk_put (cs := #[.int .i64 0, .int .i64 0, .bool false, .bool false, .int .i64 0, .int .i64 0, .int .i64 0, .bool false, .int .u64 0, .int .u64 0, .bool false, .int .u64 0, .int .u64 0, .string (⟨#[]⟩ : ByteArray), .string (⟨#[]⟩ : ByteArray)]) ?_ 0 _ rfl; (with_reducible repeat (first | refine blk_drewN ?_ _ | refine blk_drew ?_ | refine blk_alloc ?_ _)); exact BK202.out) hb); have n1_ := sh_S HB hb; clear BK202; clear HB; have BK202 := n0_; have HB := n1_; clear n0_ n1_; (try clear hb); (try clear hb2); (try clear hk); (try clear hi); obtain ⟨hcz19_0, hcz19_1, hcz19_2, hcz19_3, hcz19_4, hcz19_5, hcz19_6, hcz19_7, hcz19_8, hcz19_9, hcz19_10, hcz19_11, hcz19_12, hcz19_13, hcz19_14⟩ := MBlk.c15 BK202.out; obtain ⟨hfz19_0, hfz19_1, hfz19_2, hfz19_3, hfz19_4, hfz19_5, hfz19_6, hfz19_7, hfz19_8, hfz19_9, hfz19_10, hfz19_11, hfz19_12, hfz19_13, hfz19_14⟩ := MBlk.f15 BK202.out))
     go_ret
     exact ⟨by first | rfl | (simp [errW_none, errW_some] <;> rfl) | (simp [*, errW_none, errW_some] <;> rfl), by repeat (first | (with_reducible first | exact HB.out | apply below_alloc | apply pw_below_drewN | apply below_drew1 | refine below_set ?_ GE202.out) | exact HB.out)⟩
   ·
    rw [if_neg c6] at H
    have c6b0 : (t190 == 0) = false := beq_eq_false_iff_ne.mpr c6
    have c6b1 : (t190 != 0) = true := bne_iff_ne.mpr c6
    obtain rfl := Option.some.inj H
    go_enter Tryd.func35, Tryd.ntmps35
    go_wp2_with (first | ((with_reducible refine gate_callee (f := 20) rfl ?_); refine sh_C 7 Tryd.func20 #[.string a0] ?_; (with_reducible refine (ip4_Take.calls k a0 t186 t187 t188 t189 t190 t191 t192 t193 t194 t195 t196 t197 t198 t199 t200 t201 _ A2.out).mono ?_); rintro e w20 ⟨rfl, hb⟩; refine ⟨_, rfl, ?_⟩; replace HB := sh_S HB hb; (try clear hb); (try clear hb2); (try clear hk); (try clear hi)) | ((with_reducible refine gate_dst (N := 3) rfl ?_); refine sh_E 3 37 #[.int .i64 0, .int .i64 0, .bool false, .bool false, .int .i64 0, .int .i64 0, .int .i64 0, .bool false, .int .u64 0, .int .u64 0, .bool false, .int .u64 0, .int .u64 0, .string (⟨#[]⟩ : ByteArray), .string (⟨#[]⟩ : ByteArray)] ?_; intro gb202 hg w21 hbox hb; have BK202 := Aside0.mk hbox; have GW202 := sh_G HB hg; have GE202 := GW202; replace HB := sh_S HB hb; clear hb hbox hg; obtain ⟨hcz22_0, hcz22_1, hcz22_2, hcz22_3, hcz22_4, hcz22_5, hcz22_6, hcz22_7, hcz22_8, hcz22_9, hcz22_10, hcz22_11, hcz22_12, hcz22_13, hcz22_14⟩ := MBlk.c15 BK202.out; obtain ⟨hfz22_0, hfz22_1, hfz22_2, hfz22_3, hfz22_4, hfz22_5, hfz22_6, hfz22_7, hfz22_8, hfz22_9, hfz22_10, hfz22_11, hfz22_12, hfz22_13, hfz22_14⟩ := MBlk.f15 BK202.out) | (go_at_call 68; (with_reducible refine (excuse_ends.calls t193 t194 t195 t196 t197 t198 true _ A4.out).mono ?_); rintro e w23 ⟨rfl, hb⟩; have n0_ := Aside0.mk (blk_below (g := gb202) (o := .cells #[.int .i64 t186, .int .i64 t187, .bool t188, .bool t189, .int .i64 t190, .int .i64 t191, .int .i64 t192, .bool t193, .int .u64 t194, .int .u64 t195, .bool t196, .int .u64 t197, .int .u64 t198, .string t199, .string t200] 37 (0, 0)) (by (with_reducible repeat (first | refine blk_drewN ?_ _ | refine blk_drew ?_ | refine blk_alloc ?_ _)); refine blk_put (cs := #[.int .i64 t186, .int .i64 t187, .bool t188, .bool t189, .int .i64 t190, .int .i64 t191, .int .i64 t192, .bool t193, .int .u64 t194, .int .u64 t195, .bool t196, .int .u64 t197, .int .u64 t198, .string t199, .string (⟨#[]⟩ : ByteArray)]) ?_ 14 _ rfl; (with_reducible repeat (first | refine blk_drewN ?_ _ | refine blk_drew ?_ | refine blk_alloc ?_ _)); refine blk_put (cs := #[.int .i64 t186, .int .i64 t187, .bool t188, .bool t189, .int .i64 t190, .int .i64 t191, .int .i64 t192, .bool t193, .int .u64 t194, .int .u64 t195, .bool t196, .int .u64 t197, .int .u64 t198, .string (⟨#[]⟩ : ByteArray), .string (⟨#[]⟩ : ByteArray)]) ?_ 13 _ rfl; (with_reducible repeat (first | refine blk_drewN ?_ _ | refine blk_drew ?_ | refine blk_alloc ?_ _)); refine blk_put (cs := #[.int .i64 t186, .int .i64 t187, .bool t188, .bool t189, .int .i64 t190, .int .i64 t191, .int .i64 t192, .bool t193, .int .u64 t194, .int .u64 t195, .bool t196, .int .u64 t197, .int .u64 0, .string (⟨#[]⟩ : ByteArray), .string (⟨#[]⟩ : ByteArray)]) ?_ 12 _ rfl; (with_reducible repeat (first | refine blk_drewN ?_ _ | refine blk_drew ?_ | refine blk_alloc ?_ _)); refine blk_put (cs := #[.int .i64 t186, .int .i64 t187, .bool t188, .bool t189, .int .i64 t190, .int .i64 t191, .int .i64 t192, .bool t193, .int .u64 t194, .int .u64 t195, .bool t196, .int .u64 0, .int .u64 0, .string (⟨#[]⟩ : ByteArray), .string (⟨#[]⟩ : ByteArray)]) ?_ 11 _ rfl; (with_reducible repeat (first | refine blk_drewN ?_ _ | refine blk_drew ?_ | refine blk_alloc ?_ _)); refine blk_put (cs := #[.int .i64 t186, .int .i64 t187, .bool t188, .bool t189, .int .i64 t190, .int .i64 t191, .int .i64 t192, .bool t193, .int .u64 t194, .int .u64 t195, .bool false, .int .u64 0, .int .u64 0, .string (⟨#[]⟩ : ByteArray), .string (⟨#[]⟩ : ByteArray)]) ?_ 10 _ rfl; (with_reducible repeat (first | refine blk_drewN ?_ _ | refine blk_drew ?_ | refine blk_alloc ?_ _)); refine blk_put (cs := #[.int .i64 t186, .int .i64 t187, .bool t188, .bool t189, .int .i64 t190, .int .i64 t191, .int .i64 t192, .bool t193, .int .u64 t194, .int .u64 0, .bool false, .int .u64 0, .int .u64 0, .string (⟨#[]⟩ : ByteArray), .string (⟨#[]⟩ : ByteArray)]) ?_ 9 _ rfl; (with_reducible repeat (first | refine blk_drewN ?_ _ | refine blk_drew ?_ | refine blk_alloc ?_ _)); refine blk_put (cs := #[.int .i64 t186, .int .i64 t187, .bool t188, .bool t189, .int .i64 t190, .int .i64 t191, .int .i64 t192, .bool t193, .int .u64 0, .int .u64 0, .bool false, .int .u64 0, .int .u64 0, .string (⟨#[]⟩ : ByteArray), .string (⟨#[]⟩ : ByteArray)]) ?_ 8 _ rfl; (with_reducible repeat (first | refine blk_drewN ?_ _ | refine blk_drew ?_ | refine blk_alloc ?_ _)); refine blk_put (cs := #[.int .i64 t186, .int .i64 t187, .bool t188, .bool t189, .int .i64 t190, .int .i64 t191, .int .i64 t192, .bool false, .int .u64 0, .int .u64 0, .bool false, .int .u64 0, .int .u64 0, .string (⟨#[]⟩ : ByteArray), .string (⟨#[]⟩ : ByteArray)]) ?_ 7 _ rfl; (with_reducible repeat (first | refine blk_drewN ?_ _ | refine blk_drew ?_ | refine blk_alloc ?_ _)); refine blk_put (cs := #[.int .i64 t186, .int .i64 t187, .bool t188, .bool t189, .int .i64 t190, .int .i64 t191, .int .i64 0, .bool false, .int .u64 0, .int .u64 0, .bool false, .int .u64 0, .int .u64 0, .string (⟨#[]⟩ : ByteArray), .string (⟨#[]⟩ : ByteArray)]) ?_ 6 _ rfl; (with_reducible repeat (first | refine blk_drewN ?_ _ | refine blk_drew ?_ | refine blk_alloc ?_ _)); refine blk_put (cs := #[.int .i64 t186, .int .i64 t187, .bool t188, .bool t189, .int .i64 t190, .int .i64 0, .int .i64 0, .bool false, .int .u64 0, .int .u64 0, .bool false, .int .u64 0, .int .u64 0, .string (⟨#[]⟩ : ByteArray), .string (⟨#[]⟩ : ByteArray)]) ?_ 5 _ rfl; (with_reducible repeat (first | refine blk_drewN ?_ _ | refine blk_drew ?_ | refine blk_alloc ?_ _)); refine blk_put (cs := #[.int .i64 t186, .int .i64 t187, .bool t188, .bool t189, .int .i64 0, .int .i64 0, .int .i64 0, .bool false, .int .u64 0, .int .u64 0, .bool false, .int .u64 0, .int .u64 0, .string (⟨#[]⟩ : ByteArray), .string (⟨#[]⟩ : ByteArray)]) ?_ 4 _ rfl; (with_reducible repeat (first | refine blk_drewN ?_ _ | refine blk_drew ?_ | refine blk_alloc ?_ _)); refine blk_put (cs := #[.int .i64 t186, .int .i64 t187, .bool t188, .bool false, .int .i64 0, .int .i64 0, .int .i64 0, .bool false, .int .u64 0, .int .u64 0, .bool false, .int .u64 0, .int .u64 0, .string (⟨#[]⟩ : ByteArray), .string (⟨#[]⟩ : ByteArray)]) ?_ 3 _ rfl; (with_reducible repeat (first | refine blk_drewN ?_ _ | refine blk_drew ?_ | refine blk_alloc ?_ _)); refine blk_put (cs := #[.int .i64 t186, .int .i64 t187, .bool false, .bool false, .int .i64 0, .int .i64 0, .int .i64 0, .bool false, .int .u64 0, .int .u64 0, .bool false, .int .u64 0, .int .u64 0, .string (⟨#[]⟩ : ByteArray), .string (⟨#[]⟩ : ByteArray)]) ?_ 2 _ rfl; (with_reducible repeat (first | refine blk_drewN ?_ _ | refine blk_drew ?_ | refine blk_alloc ?_ _)); refine blk_put (cs := #[.int .i64 t186, .int .i64 0, .bool false, .bool false, .int .i64 0, .int .i64 0, .int .i64 0, .bool false, .int .u64 0, .int .u64 0, .bool false, .int .u64 0, .int .u64 0, .string (⟨#[]⟩ : ByteArray), .string (⟨#[]⟩ : ByteArray)]) ?_ 1 _ rfl; (with_reducible repeat (first | refine blk_drewN ?_ _ | refine blk_drew ?_ | refine blk_alloc ?_ _)); refine blk_put (cs := #[.int .i64 0, .int .i64 0, .bool false, .bool false, .int .i64 0, .int .i64 0, .int .i64 0, .bool false, .int .u64 0, .int .u64 0, .bool false, .int .u64 0, .int .u64 0, .string (⟨#[]⟩ : ByteArray), .string (⟨#[]⟩ : ByteArray)]) ?_ 0 _ rfl; (with_reducible repeat (first | refine blk_drewN ?_ _ | refine blk_drew ?_ | refine blk_alloc ?_ _)); exact BK202.out) hb); have n1_ := sh_S HB hb; clear BK202; clear HB; have BK202 := n0_; have HB := n1_; clear n0_ n1_; (try clear hb); (try clear hb2); (try clear hk); (try clear hi); obtain ⟨hcz24_0, hcz24_1, hcz24_2, hcz24_3, hcz24_4, hcz24_5, hcz24_6, hcz24_7, hcz24_8, hcz24_9, hcz24_10, hcz24_11, hcz24_12, hcz24_13, hcz24_14⟩ := MBlk.c15 BK202.out; obtain ⟨hfz24_0, hfz24_1, hfz24_2, hfz24_3, hfz24_4, hfz24_5, hfz24_6, hfz24_7, hfz24_8, hfz24_9, hfz24_10, hfz24_11, hfz24_12, hfz24_13, hfz24_14⟩ := MBlk.f15 BK202.out))
    go_ret
    exact ⟨by first | rfl | (simp [errW_none, errW_some] <;> rfl) | (simp [*, errW_none, errW_some] <;> rfl), by repeat (first | (with_reducible first | exact HB.out | apply below_alloc | apply pw_below_drewN | apply below_drew1 | refine below_set ?_ GE202.out) | exact HB.out)⟩
  ·
   replace c5 := Bool.eq_false_iff.mpr c5
   subst c5
   rw [if_neg (show ¬ (false = true) by decide)] at H
   obtain rfl := Option.some.inj H
   go_enter Tryd.func35, Tryd.ntmps35
   go_wp2_with (first | ((with_reducible refine gate_callee (f := 20) rfl ?_); refine sh_C 7 Tryd.func20 #[.string a0] ?_; (with_reducible refine (ip4_Take.calls k a0 t186 t187 t188 t189 t190 t191 t192 t193 t194 t195 t196 t197 t198 t199 t200 t201 _ A2.out).mono ?_); rintro e w25 ⟨rfl, hb⟩; refine ⟨_, rfl, ?_⟩; replace HB := sh_S HB hb; (try clear hb); (try clear hb2); (try clear hk); (try clear hi)) | ((with_reducible refine gate_dst (N := 3) rfl ?_); refine sh_E 3 37 #[.int .i64 0, .int .i64 0, .bool false, .bool false, .int .i64 0, .int .i64 0, .int .i64 0, .bool false, .int .u64 0, .int .u64 0, .bool false, .int .u64 0, .int .u64 0, .string (⟨#[]⟩ : ByteArray), .string (⟨#[]⟩ : ByteArray)] ?_; intro gb202 hg w26 hbox hb; have BK202 := Aside0.mk hbox; have GW202 := sh_G HB hg; have GE202 := GW202; replace HB := sh_S HB hb; clear hb hbox hg; obtain ⟨hcz27_0, hcz27_1, hcz27_2, hcz27_3, hcz27_4, hcz27_5, hcz27_6, hcz27_7, hcz27_8, hcz27_9, hcz27_10, hcz27_11, hcz27_12, hcz27_13, hcz27_14⟩ := MBlk.c15 BK202.out; obtain ⟨hfz27_0, hfz27_1, hfz27_2, hfz27_3, hfz27_4, hfz27_5, hfz27_6, hfz27_7, hfz27_8, hfz27_9, hfz27_10, hfz27_11, hfz27_12, hfz27_13, hfz27_14⟩ := MBlk.f15 BK202.out) | (go_at_call 68; (with_reducible refine (excuse_ends.calls t193 t194 t195 t196 t197 t198 false _ A4.out).mono ?_); rintro e w28 ⟨rfl, hb⟩; have n0_ := Aside0.mk (blk_below (g := gb202) (o := .cells #[.int .i64 t186, .int .i64 t187, .bool t188, .bool t189, .int .i64 t190, .int .i64 t191, .int .i64 t192, .bool t193, .int .u64 t194, .int .u64 t195, .bool t196, .int .u64 t197, .int .u64 t198, .string t199, .string t200] 37 (0, 0)) (by (with_reducible repeat (first | refine blk_drewN ?_ _ | refine blk_drew ?_ | refine blk_alloc ?_ _)); refine blk_put (cs := #[.int .i64 t186, .int .i64 t187, .bool t188, .bool t189, .int .i64 t190, .int .i64 t191, .int .i64 t192, .bool t193, .int .u64 t194, .int .u64 t195, .bool t196, .int .u64 t197, .int .u64 t198, .string t199, .string (⟨#[]⟩ : ByteArray)]) ?_ 14 _ rfl; (with_reducible repeat (first | refine blk_drewN ?_ _ | refine blk_drew ?_ | refine blk_alloc ?_ _)); refine blk_put (cs := #[.int .i64 t186, .int .i64 t187, .bool t188, .bool t189, .int .i64 t190, .int .i64 t191, .int .i64 t192, .bool t193, .int .u64 t194, .int .u64 t195, .bool t196, .int .u64 t197, .int .u64 t198, .string (⟨#[]⟩ : ByteArray), .string (⟨#[]⟩ : ByteArray)]) ?_ 13 _ rfl; (with_reducible repeat (first | refine blk_drewN ?_ _ | refine blk_drew ?_ | refine blk_alloc ?_ _)); refine blk_put (cs := #[.int .i64 t186, .int .i64 t187, .bool t188, .bool t189, .int .i64 t190, .int .i64 t191, .int .i64 t192, .bool t193, .int .u64 t194, .int .u64 t195, .bool t196, .int .u64 t197, .int .u64 0, .string (⟨#[]⟩ : ByteArray), .string (⟨#[]⟩ : ByteArray)]) ?_ 12 _ rfl; (with_reducible repeat (first | refine blk_drewN ?_ _ | refine blk_drew ?_ | refine blk_alloc ?_ _)); refine blk_put (cs := #[.int .i64 t186, .int .i64 t187, .bool t188, .bool t189, .int .i64 t190, .int .i64 t191, .int .i64 t192, .bool t193, .int .u64 t194, .int .u64 t195, .bool t196, .int .u64 0, .int .u64 0, .string (⟨#[]⟩ : ByteArray), .string (⟨#[]⟩ : ByteArray)]) ?_ 11 _ rfl; (with_reducible repeat (first | refine blk_drewN ?_ _ | refine blk_drew ?_ | refine blk_alloc ?_ _)); refine blk_put (cs := #[.int .i64 t186, .int .i64 t187, .bool t188, .bool t189, .int .i64 t190, .int .i64 t191, .int .i64 t192, .bool t193, .int .u64 t194, .int .u64 t195, .bool false, .int .u64 0, .int .u64 0, .string (⟨#[]⟩ : ByteArray), .string (⟨#[]⟩ : ByteArray)]) ?_ 10 _ rfl; (with_reducible repeat (first | refine blk_drewN ?_ _ | refine blk_drew ?_ | refine blk_alloc ?_ _)); refine blk_put (cs := #[.int .i64 t186, .int .i64 t187, .bool t188, .bool t189, .int .i64 t190, .int .i64 t191, .int .i64 t192, .bool t193, .int .u64 t194, .int .u64 0, .bool false, .int .u64 0, .int .u64 0, .string (⟨#[]⟩ : ByteArray), .string (⟨#[]⟩ : ByteArray)]) ?_ 9 _ rfl; (with_reducible repeat (first | refine blk_drewN ?_ _ | refine blk_drew ?_ | refine blk_alloc ?_ _)); refine blk_put (cs := #[.int .i64 t186, .int .i64 t187, .bool t188, .bool t189, .int .i64 t190, .int .i64 t191, .int .i64 t192, .bool t193, .int .u64 0, .int .u64 0, .bool false, .int .u64 0, .int .u64 0, .string (⟨#[]⟩ : ByteArray), .string (⟨#[]⟩ : ByteArray)]) ?_ 8 _ rfl; (with_reducible repeat (first | refine blk_drewN ?_ _ | refine blk_drew ?_ | refine blk_alloc ?_ _)); refine blk_put (cs := #[.int .i64 t186, .int .i64 t187, .bool t188, .bool t189, .int .i64 t190, .int .i64 t191, .int .i64 t192, .bool false, .int .u64 0, .int .u64 0, .bool false, .int .u64 0, .int .u64 0, .string (⟨#[]⟩ : ByteArray), .string (⟨#[]⟩ : ByteArray)]) ?_ 7 _ rfl; (with_reducible repeat (first | refine blk_drewN ?_ _ | refine blk_drew ?_ | refine blk_alloc ?_ _)); refine blk_put (cs := #[.int .i64 t186, .int .i64 t187, .bool t188, .bool t189, .int .i64 t190, .int .i64 t191, .int .i64 0, .bool false, .int .u64 0, .int .u64 0, .bool false, .int .u64 0, .int .u64 0, .string (⟨#[]⟩ : ByteArray), .string (⟨#[]⟩ : ByteArray)]) ?_ 6 _ rfl; (with_reducible repeat (first | refine blk_drewN ?_ _ | refine blk_drew ?_ | refine blk_alloc ?_ _)); refine blk_put (cs := #[.int .i64 t186, .int .i64 t187, .bool t188, .bool t189, .int .i64 t190, .int .i64 0, .int .i64 0, .bool false, .int .u64 0, .int .u64 0, .bool false, .int .u64 0, .int .u64 0, .string (⟨#[]⟩ : ByteArray), .string (⟨#[]⟩ : ByteArray)]) ?_ 5 _ rfl; (with_reducible repeat (first | refine blk_drewN ?_ _ | refine blk_drew ?_ | refine blk_alloc ?_ _)); refine blk_put (cs := #[.int .i64 t186, .int .i64 t187, .bool t188, .bool t189, .int .i64 0, .int .i64 0, .int .i64 0, .bool false, .int .u64 0, .int .u64 0, .bool false, .int .u64 0, .int .u64 0, .string (⟨#[]⟩ : ByteArray), .string (⟨#[]⟩ : ByteArray)]) ?_ 4 _ rfl; (with_reducible repeat (first | refine blk_drewN ?_ _ | refine blk_drew ?_ | refine blk_alloc ?_ _)); refine blk_put (cs := #[.int .i64 t186, .int .i64 t187, .bool t188, .bool false, .int .i64 0, .int .i64 0, .int .i64 0, .bool false, .int .u64 0, .int .u64 0, .bool false, .int .u64 0, .int .u64 0, .string (⟨#[]⟩ : ByteArray), .string (⟨#[]⟩ : ByteArray)]) ?_ 3 _ rfl; (with_reducible repeat (first | refine blk_drewN ?_ _ | refine blk_drew ?_ | refine blk_alloc ?_ _)); refine blk_put (cs := #[.int .i64 t186, .int .i64 t187, .bool false, .bool false, .int .i64 0, .int .i64 0, .int .i64 0, .bool false, .int .u64 0, .int .u64 0, .bool false, .int .u64 0, .int .u64 0, .string (⟨#[]⟩ : ByteArray), .string (⟨#[]⟩ : ByteArray)]) ?_ 2 _ rfl; (with_reducible repeat (first | refine blk_drewN ?_ _ | refine blk_drew ?_ | refine blk_alloc ?_ _)); refine blk_put (cs := #[.int .i64 t186, .int .i64 0, .bool false, .bool false, .int .i64 0, .int .i64 0, .int .i64 0, .bool false, .int .u64 0, .int .u64 0, .bool false, .int .u64 0, .int .u64 0, .string (⟨#[]⟩ : ByteArray), .string (⟨#[]⟩ : ByteArray)]) ?_ 1 _ rfl; (with_reducible repeat (first | refine blk_drewN ?_ _ | refine blk_drew ?_ | refine blk_alloc ?_ _)); refine blk_put (cs := #[.int .i64 0, .int .i64 0, .bool false, .bool false, .int .i64 0, .int .i64 0, .int .i64 0, .bool false, .int .u64 0, .int .u64 0, .bool false, .int .u64 0, .int .u64 0, .string (⟨#[]⟩ : ByteArray), .string (⟨#[]⟩ : ByteArray)]) ?_ 0 _ rfl; (with_reducible repeat (first | refine blk_drewN ?_ _ | refine blk_drew ?_ | refine blk_alloc ?_ _)); exact BK202.out) hb); have n1_ := sh_S HB hb; clear BK202; clear HB; have BK202 := n0_; have HB := n1_; clear n0_ n1_; (try clear hb); (try clear hb2); (try clear hk); (try clear hi)))
   go_ret
   exact ⟨by first | rfl | (simp [errW_none, errW_some] <;> rfl) | (simp [*, errW_none, errW_some] <;> rfl), by repeat (first | (with_reducible first | exact HB.out | apply below_alloc | apply pw_below_drewN | apply below_drew1 | refine below_set ?_ GE202.out) | exact HB.out)⟩
 ·
  rw [if_neg c3] at H
  have c3b0 : (t201 == 0) = false := beq_eq_false_iff_ne.mpr c3
  have c3b1 : (t201 != 0) = true := bne_iff_ne.mpr c3
  obtain rfl := Option.some.inj H
  go_enter Tryd.func35, Tryd.ntmps35
  go_wp2_with (first | ((with_reducible refine gate_callee (f := 20) rfl ?_); refine sh_C 7 Tryd.func20 #[.string a0] ?_; (with_reducible refine (ip4_Take.calls k a0 t186 t187 t188 t189 t190 t191 t192 t193 t194 t195 t196 t197 t198 t199 t200 t201 _ A2.out).mono ?_); rintro e w29 ⟨rfl, hb⟩; refine ⟨_, rfl, ?_⟩; replace HB := sh_S HB hb; (try clear hb); (try clear hb2); (try clear hk); (try clear hi)) | ((with_reducible refine gate_dst (N := 3) rfl ?_); refine sh_E 3 37 #[.int .i64 0, .int .i64 0, .bool false, .bool false, .int .i64 0, .int .i64 0, .int .i64 0, .bool false, .int .u64 0, .int .u64 0, .bool false, .int .u64 0, .int .u64 0, .string (⟨#[]⟩ : ByteArray), .string (⟨#[]⟩ : ByteArray)] ?_; intro gb202 hg w30 hbox hb; have BK202 := Aside0.mk hbox; have GW202 := sh_G HB hg; have GE202 := GW202; replace HB := sh_S HB hb; clear hb hbox hg; obtain ⟨hcz31_0, hcz31_1, hcz31_2, hcz31_3, hcz31_4, hcz31_5, hcz31_6, hcz31_7, hcz31_8, hcz31_9, hcz31_10, hcz31_11, hcz31_12, hcz31_13, hcz31_14⟩ := MBlk.c15 BK202.out; obtain ⟨hfz31_0, hfz31_1, hfz31_2, hfz31_3, hfz31_4, hfz31_5, hfz31_6, hfz31_7, hfz31_8, hfz31_9, hfz31_10, hfz31_11, hfz31_12, hfz31_13, hfz31_14⟩ := MBlk.f15 BK202.out))
  go_ret
  exact ⟨by first | rfl | (simp [errW_none, errW_some] <;> rfl) | (simp [*, errW_none, errW_some] <;> rfl), by repeat (first | (with_reducible first | exact HB.out | apply below_alloc | apply pw_below_drewN | apply below_drew1 | refine below_set ?_ GE202.out) | exact HB.out)⟩

/-! ### excuse_May: function 14 -/
def excuse_May.f (k : Nat) (a0 : ByteArray) : Option (Bool) := (excuse_isSix.f a0).bind fun t205 => (if t205 = true then ((excuse_maySix.f k a0).bind fun t206 => (some t206)) else ((excuse_mayFour.f k a0).bind fun t207 => (some t207)))
theorem excuse_May.mono : ∀ a0 k, LeO (excuse_May.f k a0) (excuse_May.f (k + 1) a0) := by
 intro a0 k
 unfold excuse_May.f
 repeat' first
   | (with_reducible exact excuse_mayFour.mono _ _)
   | (with_reducible exact excuse_maySix.mono _ _)
   | (with_reducible exact LeO.refl _)
   | (with_reducible exact LeO.none _)
   | (with_reducible refine LeO.ite ?_ ?_)
   | (with_reducible refine LeO.bind ?_ (fun _ => ?_))
   | exact excuse_mayFour.mono _ _
   | exact excuse_maySix.mono _ _
   | exact LeO.none _
   | refine LeO.ite ?_ ?_
   | refine LeO.bind ?_ (fun _ => ?_)
set_option maxHeartbeats 8000000 in
set_option maxRecDepth 100000 in
theorem excuse_May.calls (k : Nat) (a0 : ByteArray) (r : Bool) (w : World) (h : excuse_May.f k a0 = some r) :
  Calls Tryd.prog 14 #[.string a0] w fun e w' => e = .returned (.bool r) ∧ Below w.heap.size w w' := by
 have HB := Aside0.mk (Below.refl w.heap.size w)
 have H : ((excuse_isSix.f a0).bind fun t205 => (if t205 = true then ((excuse_maySix.f k a0).bind fun t206 => (some t206)) else ((excuse_mayFour.f k a0).bind fun t207 => (some t207)))) = some r := h
 clear h
 replace H := Option.bind_eq_some_iff.mp H
 obtain ⟨t205, A20, H⟩ := H
 have A2 := Aside0.mk A20
 clear A20
 by_cases c3 : t205 = true
 ·
  subst c3
  rw [if_pos rfl] at H
  replace H := Option.bind_eq_some_iff.mp H
  obtain ⟨t206, A40, H⟩ := H
  have A4 := Aside0.mk A40
  clear A40
  obtain rfl := Option.some.inj H
  go_enter Tryd.func14, Tryd.ntmps14
  go_wp2_with (first | ((with_reducible refine gate_callee (f := 22) rfl ?_); refine sh_C 4 Tryd.func22 #[.string a0] ?_; (with_reducible refine (excuse_isSix.calls a0 true _ A2.out).mono ?_); rintro e w' ⟨rfl, ⟨nd, rfl⟩⟩; refine ⟨_, rfl, ?_⟩) | ((with_reducible refine gate_callee (f := 34) rfl ?_); refine sh_C 6 Tryd.func34 #[.string a0] ?_; (with_reducible refine (excuse_maySix.calls k a0 t206 _ A4.out).mono ?_); rintro e w5 ⟨rfl, hb⟩; refine ⟨_, rfl, ?_⟩; replace HB := sh_S HB hb; (try clear hb); (try clear hb2); (try clear hk); (try clear hi)))
  go_ret
  exact ⟨by first | rfl | (simp [errW_none, errW_some] <;> rfl) | (simp [*, errW_none, errW_some] <;> rfl), by repeat (first | (with_reducible first | exact HB.out | apply below_alloc | apply pw_below_drewN | apply below_drew1) | exact HB.out)⟩
 ·
  replace c3 := Bool.eq_false_iff.mpr c3
  subst c3
  rw [if_neg (show ¬ (false = true) by decide)] at H
  replace H := Option.bind_eq_some_iff.mp H
  obtain ⟨t207, A60, H⟩ := H
  have A6 := Aside0.mk A60
  clear A60
  obtain rfl := Option.some.inj H
  go_enter Tryd.func14, Tryd.ntmps14
  go_wp2_with (first | ((with_reducible refine gate_callee (f := 22) rfl ?_); refine sh_C 4 Tryd.func22 #[.string a0] ?_; (with_reducible refine (excuse_isSix.calls a0 false _ A2.out).mono ?_); rintro e w' ⟨rfl, ⟨nd, rfl⟩⟩; refine ⟨_, rfl, ?_⟩) | ((with_reducible refine gate_callee (f := 35) rfl ?_); refine sh_C 8 Tryd.func35 #[.string a0] ?_; (with_reducible refine (excuse_mayFour.calls k a0 t207 _ A6.out).mono ?_); rintro e w7 ⟨rfl, hb⟩; refine ⟨_, rfl, ?_⟩; replace HB := sh_S HB hb; (try clear hb); (try clear hb2); (try clear hk); (try clear hi)))
  go_ret
  exact ⟨by first | rfl | (simp [errW_none, errW_some] <;> rfl) | (simp [*, errW_none, errW_some] <;> rfl), by repeat (first | (with_reducible first | exact HB.out | apply below_alloc | apply pw_below_drewN | apply below_drew1) | exact HB.out)⟩

/-! ### ip4_within: function 72 -/
def ip4_within.f (a0 : Int) (a1 : Int) : Option (Bool) := if a0 ≥ 0 then (some (decide (a0 ≤ a1))) else (some false)
set_option maxHeartbeats 8000000 in
set_option maxRecDepth 100000 in
theorem ip4_within.calls (a0 : Int) (a1 : Int) (r : Bool) (w : World) (h : ip4_within.f a0 a1 = some r) :
  Calls Tryd.prog 72 #[.int .i64 a0, .int .i64 a1] w fun e w' => e = .returned (.bool r) ∧ Drawn0 w w' := by
 have H : (if a0 ≥ 0 then (some (decide (a0 ≤ a1))) else (some false)) = some r := h
 clear h
 by_cases c3 : a0 ≥ 0
 ·
  rw [if_pos c3] at H
  have c3b0 : decide (0 ≤ a0) = true := decide_eq_true c3
  clear c3
  obtain rfl := Option.some.inj H
  go_enter Tryd.func72, Tryd.ntmps72
  go_wp2
  go_ret
  exact ⟨by first | rfl | (simp; done) | (simp [*]; done), by repeat (first | exact Drawn0.refl _ | apply Drawn0.step)⟩
 ·
  rw [if_neg c3] at H
  have c3b0 : decide (0 ≤ a0) = false := decide_eq_false c3
  clear c3
  obtain rfl := Option.some.inj H
  go_enter Tryd.func72, Tryd.ntmps72
  go_wp2
  go_ret
  exact ⟨by first | rfl | (simp; done) | (simp [*]; done), by repeat (first | exact Drawn0.refl _ | apply Drawn0.step)⟩

/-! ### ip4_four: function 73 -/
def ip4_four.f (a0_0 : Bool) (a0_1 : Int) (a0_2 : Int) : Option (Bool) := if a0_0 = true then (some false) else ((addr_Valid.f a0_0 a0_1 a0_2).bind fun t209 => (some t209))
set_option maxHeartbeats 8000000 in
set_option maxRecDepth 100000 in
theorem ip4_four.calls (a0_0 : Bool) (a0_1 : Int) (a0_2 : Int) (r : Bool) (w : World) (h : ip4_four.f a0_0 a0_1 a0_2 = some r) :
  Calls Tryd.prog 73 #[.agg #[.bool a0_0, .int .u64 a0_1, .int .u64 a0_2]] w fun e w' => e = .returned (.bool r) ∧ Below w.heap.size w w' := by
 have hu28 := Tryd.underlying28
 have HB := Aside0.mk (Below.refl w.heap.size w)
 have H : (if a0_0 = true then (some false) else ((addr_Valid.f a0_0 a0_1 a0_2).bind fun t209 => (some t209))) = some r := h
 clear h
 by_cases c2 : a0_0 = true
 ·
  subst c2
  rw [if_pos rfl] at H
  obtain rfl := Option.some.inj H
  go_enter Tryd.func73, Tryd.ntmps73
  go_wp2_with (first | ((with_reducible refine gate_dst (N := 1) rfl ?_); refine sh_E 1 28 #[.bool true, .int .u64 a0_1, .int .u64 a0_2] ?_; intro gb208 hg w3 hbox hb; have BK208 := Aside0.mk hbox; have GW208 := sh_G HB hg; have GE208 := GW208; replace HB := sh_S HB hb; clear hb hbox hg; obtain ⟨hcz4_0, hcz4_1, hcz4_2⟩ := MBlk.c3 BK208.out; obtain ⟨hfz4_0, hfz4_1, hfz4_2⟩ := MBlk.f3 BK208.out))
  go_ret
  exact ⟨by first | rfl | (simp [errW_none, errW_some] <;> rfl) | (simp [*, errW_none, errW_some] <;> rfl), by repeat (first | (with_reducible first | exact HB.out | apply below_alloc | apply pw_below_drewN | apply below_drew1 | refine below_set ?_ GE208.out) | exact HB.out)⟩
 ·
  replace c2 := Bool.eq_false_iff.mpr c2
  subst c2
  rw [if_neg (show ¬ (false = true) by decide)] at H
  replace H := Option.bind_eq_some_iff.mp H
  obtain ⟨t209, A50, H⟩ := H
  have A5 := Aside0.mk A50
  clear A50
  obtain rfl := Option.some.inj H
  go_enter Tryd.func73, Tryd.ntmps73
  go_wp2_with (first | ((with_reducible refine gate_dst (N := 1) rfl ?_); refine sh_E 1 28 #[.bool false, .int .u64 a0_1, .int .u64 a0_2] ?_; intro gb208 hg w6 hbox hb; have BK208 := Aside0.mk hbox; have GW208 := sh_G HB hg; have GE208 := GW208; replace HB := sh_S HB hb; clear hb hbox hg; obtain ⟨hcz7_0, hcz7_1, hcz7_2⟩ := MBlk.c3 BK208.out; obtain ⟨hfz7_0, hfz7_1, hfz7_2⟩ := MBlk.f3 BK208.out) | (go_at_call 51; (with_reducible refine (addr_Valid.calls false a0_1 a0_2 t209 _ A5.out).mono ?_); rintro e w8 ⟨rfl, hb⟩; replace BK208 := sh_L BK208 hb; replace HB := sh_S HB hb; (try clear hb); (try clear hb2); (try clear hk); (try clear hi)))
  go_ret
  exact ⟨by first | rfl | (simp [errW_none, errW_some] <;> rfl) | (simp [*, errW_none, errW_some] <;> rfl), by repeat (first | (with_reducible first | exact HB.out | apply below_alloc | apply pw_below_drewN | apply below_drew1 | refine below_set ?_ GE208.out) | exact HB.out)⟩

end Go.Proofs.YtaoopneiglgnkaaDoor.PBase
