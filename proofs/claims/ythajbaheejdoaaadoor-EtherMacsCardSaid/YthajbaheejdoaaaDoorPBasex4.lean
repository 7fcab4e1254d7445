/- Functions of the program as Lean functions, each with a proof that a call comes to what it says. Conditions: those of each theorem. Laid by a program of this session. -/
import Derived.Test.YthajbaheejdoaaaDoorPBasex0
namespace Go.Proofs.YthajbaheejdoaaaDoor.PBase
open Go.RowKit Go.Proofs.YthajbaheejdoaaaDoor Go.Proofs.YthajbaheejdoaaaDoorW.PrintWords Go.Proofs.YthajbaheejdoaaaDoorW.PrintLast Go.Proofs.YthajbaheejdoaaaDoorW.PrintMore
attribute [local go_sem] max2_int min2_int max_two min_two max_three min_three max_four min_four   -- for this text's walks alone
set_option linter.unusedVariables false
set_option linter.unusedSimpArgs false

/-! ### ether_isFrame: function 26 -/
def ether_isFrame.f (a0_0 : Int) (a0_1 : Int) (a0_2 : Int) (a0_3 : ByteArray) : Option (Bool) := if a0_0 < 281474976710656 then (if a0_1 < 281474976710656 then (if a0_2 ≥ 1536 then (some (decide (a0_2 < 65536))) else (some false)) else (some false)) else (some false)
set_option maxHeartbeats 8000000 in
set_option maxRecDepth 100000 in
theorem ether_isFrame.calls (a0_0 : Int) (a0_1 : Int) (a0_2 : Int) (a0_3 : ByteArray) (r : Bool) (w : World) (h : ether_isFrame.f a0_0 a0_1 a0_2 a0_3 = some r) :
  Calls Tryd.prog 26 #[.agg #[.int .u64 a0_0, .int .u64 a0_1, .int .i64 a0_2, .string a0_3]] w fun e w' => e = .returned (.bool r) ∧ Below w.heap.size w w' := by
 have hu25 := Tryd.underlying25
 have HB := Aside0.mk (Below.refl w.heap.size w)
 have H : (if a0_0 < 281474976710656 then (if a0_1 < 281474976710656 then (if a0_2 ≥ 1536 then (some (decide (a0_2 < 65536))) else (some false)) else (some false)) else (some false)) = some r := h
 clear h
 by_cases c2 : a0_0 < 281474976710656
 ·
  rw [if_pos c2] at H
  have c2b0 : decide (a0_0 < 281474976710656) = true := decide_eq_true c2
  clear c2
  by_cases c3 : a0_1 < 281474976710656
  ·
   rw [if_pos c3] at H
   have c3b0 : decide (a0_1 < 281474976710656) = true := decide_eq_true c3
   clear c3
   by_cases c4 : a0_2 ≥ 1536
   ·
    rw [if_pos c4] at H
    have c4b0 : decide (1536 ≤ a0_2) = true := decide_eq_true c4
    clear c4
    obtain rfl := Option.some.inj H
    go_enter Tryd.func26, Tryd.ntmps26
    go_wp2_with (first | ((with_reducible refine gate_dst (N := 1) rfl ?_); refine box_event ?hg (N := 1) ?hd (cs := #[.int .u64 a0_0, .int .u64 a0_1, .int .i64 a0_2, .string a0_3]) (t := 25) ?hr ?_; (case hd => rfl); (case hg => rfl); (case hr => first | (go_simp; done) | (go_simp; rfl)); intro gb101 hg w5 hbox hb; have n0_ := Aside0.mk (below_step (by repeat (first | (with_reducible first | exact HB.out | apply below_alloc | apply pw_below_drewN | apply below_drew1) | exact HB.out)) hb); have n1_ := Aside0.mk (hbox); have n2_ := Aside0.mk ((by rw [hg]; exact (below_size (by repeat (first | (with_reducible first | exact HB.out | apply below_alloc | apply pw_below_drewN | apply below_drew1) | exact HB.out))) : w.heap.size ≤ gb101)); have n3_ := Aside0.mk ((by rw [hg]; exact (below_size (by repeat (first | (with_reducible first | exact HB.out | apply below_alloc | apply pw_below_drewN | apply below_drew1) | exact HB.out))) : w.heap.size ≤ gb101)); clear HB; have HB := n0_; have BK101 := n1_; have GW101 := n2_; have GE101 := n3_; clear n0_ n1_ n2_ n3_; clear hb hbox hg; obtain ⟨hcz6_0, hcz6_1, hcz6_2, hcz6_3⟩ := MBlk.c4 BK101.out; obtain ⟨hfz6_0, hfz6_1, hfz6_2, hfz6_3⟩ := MBlk.f4 BK101.out))
    go_ret
    exact ⟨by first | rfl | (simp [errW_none, errW_some] <;> rfl) | (simp [*, errW_none, errW_some] <;> rfl), by repeat (first | (with_reducible first | exact HB.out | apply below_alloc | apply pw_below_drewN | apply below_drew1 | refine below_set ?_ GE101.out) | exact HB.out)⟩
   ·
    rw [if_neg c4] at H
    have c4b0 : decide (1536 ≤ a0_2) = false := decide_eq_false c4
    clear c4
    obtain rfl := Option.some.inj H
    go_enter Tryd.func26, Tryd.ntmps26
    go_wp2_with (first | ((with_reducible refine gate_dst (N := 1) rfl ?_); refine box_event ?hg (N := 1) ?hd (cs := #[.int .u64 a0_0, .int .u64 a0_1, .int .i64 a0_2, .string a0_3]) (t := 25) ?hr ?_; (case hd => rfl); (case hg => rfl); (case hr => first | (go_simp; done) | (go_simp; rfl)); intro gb101 hg w7 hbox hb; have n0_ := Aside0.mk (below_step (by repeat (first | (with_reducible first | exact HB.out | apply below_alloc | apply pw_below_drewN | apply below_drew1) | exact HB.out)) hb); have n1_ := Aside0.mk (hbox); have n2_ := Aside0.mk ((by rw [hg]; exact (below_size (by repeat (first | (with_reducible first | exact HB.out | apply below_alloc | apply pw_below_drewN | apply below_drew1) | exact HB.out))) : w.heap.size ≤ gb101)); have n3_ := Aside0.mk ((by rw [hg]; exact (below_size (by repeat (first | (with_reducible first | exact HB.out | apply below_alloc | apply pw_below_drewN | apply below_drew1) | exact HB.out))) : w.heap.size ≤ gb101)); clear HB; have HB := n0_; have BK101 := n1_; have GW101 := n2_; have GE101 := n3_; clear n0_ n1_ n2_ n3_; clear hb hbox hg; obtain ⟨hcz8_0, hcz8_1, hcz8_2, hcz8_3⟩ := MBlk.c4 BK101.out; obtain ⟨hfz8_0, hfz8_1, hfz8_2, hfz8_3⟩ := MBlk.f4 BK101.out))
    go_ret
    exact ⟨by first | rfl | (simp [errW_none, errW_some] <;> rfl) | (simp [*, errW_none, errW_some] <;> rfl), by repeat (first | (with_reducible first | exact HB.out | apply below_alloc | apply pw_below_drewN | apply below_drew1 | refine below_set ?_ GE101.out) | exact HB.out)⟩
  ·
   rw [if_neg c3] at H
   have c3b0 : decide (a0_1 < 281474976710656) = false := decide_eq_false c3
   clear c3
   obtain rfl := Option.some.inj H
   go_enter Tryd.func26, Tryd.ntmps26
   go_wp2_with (first | ((with_reducible refine gate_dst (N := 1) rfl ?_); refine box_event ?hg (N := 1) ?hd (cs := #[.int .u64 a0_0, .int .u64 a0_1, .int .i64 a0_2, .string a0_3]) (t := 25) ?hr ?_; (case hd => rfl); (case hg => rfl); (case hr => first | (go_simp; done) | (go_simp; rfl)); intro gb101 hg w9 hbox hb; have n0_ := Aside0.mk (below_step (by repeat (first | (with_reducible first | exact HB.out | apply below_alloc | apply pw_below_drewN | apply below_drew1) | exact HB.out)) hb); have n1_ := Aside0.mk (hbox); have n2_ := Aside0.mk ((by rw [hg]; exact (below_size (by repeat (first | (with_reducible first | exact HB.out | apply below_alloc | apply pw_below_drewN | apply below_drew1) | exact HB.out))) : w.heap.size ≤ gb101)); have n3_ := Aside0.mk ((by rw [hg]; exact (below_size (by repeat (first | (with_reducible first | exact HB.out | apply below_alloc | apply pw_below_drewN | apply below_drew1) | exact HB.out))) : w.heap.size ≤ gb101)); clear HB; have HB := n0_; have BK101 := n1_; have GW101 := n2_; have GE101 := n3_; clear n0_ n1_ n2_ n3_; clear hb hbox hg; obtain ⟨hcz10_0, hcz10_1, hcz10_2, hcz10_3⟩ := MBlk.c4 BK101.out; obtain ⟨hfz10_0, hfz10_1, hfz10_2, hfz10_3⟩ := MBlk.f4 BK101.out))
   go_ret
   exact ⟨by first | rfl | (simp [errW_none, errW_some] <;> rfl) | (simp [*, errW_none, errW_some] <;> rfl), by repeat (first | (with_reducible first | exact HB.out | apply below_alloc | apply pw_below_drewN | apply below_drew1 | refine below_set ?_ GE101.out) | exact HB.out)⟩
 ·
  rw [if_neg c2] at H
  have c2b0 : decide (a0_0 < 281474976710656) = false := decide_eq_false c2
  clear c2
  obtain rfl := Option.some.inj H
  go_enter Tryd.func26, Tryd.ntmps26
  go_wp2_with (first | ((with_reducible refine gate_dst (N := 1) rfl ?_); refine box_event ?hg (N := 1) ?hd (cs := #[.int .u64 a0_0, .int .u64 a0_1, .int .i64 a0_2, .string a0_3]) (t := 25) ?hr ?_; (case hd => rfl); (case hg => rfl); (case hr => first | (go_simp; done) | (go_simp; rfl)); intro gb101 hg w11 hbox hb; have n0_ := Aside0.mk (below_step (by repeat (first | (with_reducible first | exact HB.out | apply below_alloc | apply pw_below_drewN | apply below_drew1) | exact HB.out)) hb); have n1_ := Aside0.mk (hbox); have n2_ := Aside0.mk ((by rw [hg]; exact (below_size (by repeat (first | (with_reducible first | exact HB.out | apply below_alloc | apply pw_below_drewN | apply below_drew1) | exact HB.out))) : w.heap.size ≤ gb101)); have n3_ := Aside0.mk ((by rw [hg]; exact (below_size (by repeat (first | (with_reducible first | exact HB.out | apply below_alloc | apply pw_below_drewN | apply below_drew1) | exact HB.out))) : w.heap.size ≤ gb101)); clear HB; have HB := n0_; have BK101 := n1_; have GW101 := n2_; have GE101 := n3_; clear n0_ n1_ n2_ n3_; clear hb hbox hg; obtain ⟨hcz12_0, hcz12_1, hcz12_2, hcz12_3⟩ := MBlk.c4 BK101.out; obtain ⟨hfz12_0, hfz12_1, hfz12_2, hfz12_3⟩ := MBlk.f4 BK101.out))
  go_ret
  exact ⟨by first | rfl | (simp [errW_none, errW_some] <;> rfl) | (simp [*, errW_none, errW_some] <;> rfl), by repeat (first | (with_reducible first | exact HB.out | apply below_alloc | apply pw_below_drewN | apply below_drew1 | refine below_set ?_ GE101.out) | exact HB.out)⟩

/-! ### octet_Put: function 27 (by hand) -/
/-- The width as it is taken: from 0 to 8. -/
def octet_Put.wid (w : Int) : Nat := (mn (mx w 0) 8).toNat
theorem octet_Put.wid_eq (w : Int) : mn (mx w 0) 8 = (octet_Put.wid w : Int) := by
 unfold octet_Put.wid mn mx; split <;> split <;> omega
theorem octet_Put.wid_le (w : Int) : octet_Put.wid w ≤ 8 := by
 unfold octet_Put.wid mn mx; split <;> split <;> omega
/-- Bytes, and behind them a number's lowest bytes, the most significant one first. -/
def octet_Put.f (l0 : List Int) (a1 : Int) (a2 : Int) : Option (List Int) := if l0.length ≤ 140737488355200 then some (l0 ++ MBe.be a2 (octet_Put.wid a1)) else none
theorem octet_Put.set_rep (l : List Int) (d : Nat) (v : Int) (m : List Int) : (l ++ (List.replicate (d + 1) 0 ++ m)).set (l.length + d) v = l ++ (List.replicate d 0 ++ v :: m) := by
 rw [List.set_append_right _ _ (by omega), Nat.add_sub_cancel_left, List.replicate_succ', List.append_assoc, List.set_append_right _ _ (by simp)]
 simp
set_option maxHeartbeats 1000000 in
set_option maxRecDepth 100000 in
theorem octet_Put.calls (A0 : Option Addr) (c0 : Nat) (l0 : List Int) (a1 : Int) (a2 : Int) (r : List Int) (w : World) (hr0 : Kd.C (Kd.int .u8) w A0 l0.length l0) (hc0 : l0.length ≤ c0) (h : octet_Put.f l0 a1 a2 = some r) :
  Calls Tryd.prog 27 #[.slice A0 l0.length c0, .int .i64 a1, .int .u64 a2] w fun e w' => ∃ v0_ : Value, e = .returned (v0_) ∧ Kd.R (Kd.int .u8) 5 w' w.heap.size (fun _ => True) v0_ r ∧ Below w.heap.size w w' := by
 have HR0 := Aside0.mk hr0
 have HC0 := Aside0.mk hc0
 clear hr0 hc0
 have HB := Aside0.mk (Below.refl w.heap.size w)
 unfold octet_Put.f at h
 by_cases hl0 : l0.length ≤ 140737488355200
 ·
  rw [if_pos hl0] at h
  obtain rfl := Option.some.inj h
  clear h
  have hw8 := octet_Put.wid_le a1
  obtain ⟨m, hm⟩ : ∃ m, octet_Put.wid a1 = m := ⟨_, rfl⟩
  have hme := octet_Put.wid_eq a1
  rw [hm] at hw8 hme ⊢
  have HMB := Aside0.mk hm
  obtain ⟨q, hq⟩ : ∃ q, mx a1 0 = q := ⟨_, rfl⟩
  rw [hq] at hme
  unfold mn at hme
  unfold mx at hq
  clear hm
  have hsum : 0 ≤ (l0.length : Int) + (m : Int) := by omega
  obtain ⟨N, hN⟩ : ∃ N, N = l0.length + m := ⟨_, rfl⟩
  have HN := Aside0.mk hN
  have hNn : (l0.length : Int) + (m : Int) = (N : Int) := by omega
  have hNb : N ≤ 140737488355208 := by omega
  clear hN
  go_enter Tryd.func27, Tryd.ntmps27
  go_wp2_with (first | ((with_reducible refine gate_dst (N := 16) rfl ?_); refine Kd.R_make (Kd.int .u8) _ 5 rfl (N := 16) rfl 50 _ _ rfl (N : Int) rfl rfl Tryd.underlying50 (.int .u8 0) 1 info5 rfl (by decide) (by omega) 0 (ok := fun _ => True) (okp := fun _ => True) rfl (fun _ hk => hk) trivial (by omega) (by omega) (Below.refl _ _) (Nat.le_refl _) ?_; intro v1 w1 ho1 hb hg_ hnew_; clear hg_ hnew_; rw [Int.toNat_natCast] at ho1; have HO1 := Aside0.mk ho1; obtain ⟨A1, c1, e1⟩ := Kd.R_slice ho1; rw [List.length_replicate] at e1; subst e1; replace HB := Aside0.mk (below_step HB.out hb); clear hb ho1) | ((with_reducible refine gate_builtin (b := .copy) (xs := #[.tmp 17, .tmp 18]) rfl ?_); refine MCopy.R_copy (k := .u8) (w0 := w) (base := w.heap.size) (ok := fun _ => True) rfl (.tmp 17) (.tmp 18) 50 rfl Tryd.underlying50 (by kernel_rfl) (.slice A1 N c1) (List.replicate N 0) l0 A0 l0.length c0 rfl rfl HO1.out (Kd.C_below HR0.out HB.out) HB.out ?_; intro w2 n2 ho2 hb2; have HO2 := Aside0.mk ho2; clear HO1 HB ho2; have HB := Aside0.mk hb2; clear hb2))
  have ho3 : Kd.R (Kd.int .u8) 5 w2 w.heap.size (fun _ => True) (.slice A1 N c1) (l0 ++ (List.replicate m 0 ++ MBe.be a2 0)) := by
   have := HO2.out
   rw [HN.out, List.length_replicate, List.take_of_length_le (by omega), List.drop_replicate, Nat.add_sub_cancel_left] at this
   rw [HN.out, MBe.be, List.append_nil]; exact this
  have HO3 := Aside0.mk ho3
  clear HO2 ho3
  go_loopg [21] m (fun kq v21 w' => ∃ i : Nat, v21 = .int .i64 (i : Int) ∧ Aside0 (m = i + kq) ∧ Aside0 (Kd.R (Kd.int .u8) 5 w' w.heap.size (fun _ => True) (.slice A1 N c1) (l0 ++ (List.replicate kq 0 ++ MBe.be a2 i))) ∧ Aside0 (Below w.heap.size w w'))
  case atStart => exact ⟨0, rfl, ⟨by omega⟩, HO3, HB⟩
  case round =>
   clear HO3 HB
   obtain ⟨i, rfl, HI, HO, HB⟩ := hrel
   have hi := HI.out
   cases gk with
   | zero =>
    obtain rfl : m = i := by omega
    clear hi HI
    go_wp2
    go_ret
    exact ⟨_, rfl, by simpa using HO.out, HB.out⟩
   | succ d =>
    have hlt : (i : Int) < (m : Int) := by omega
    have hle : i ≤ 7 := by omega
    obtain ⟨ji, hji⟩ : ∃ ji : Int, (N : Int) - 1 - (i : Int) = ji := ⟨_, rfl⟩
    have hjd : ji.toNat = l0.length + d := by have := HN.out; omega
    have p0 : 0 ≤ ji := by omega
    have p1 : ji < (N : Int) := by omega
    have HJ := Aside0.mk hjd
    obtain ⟨s, hs⟩ : ∃ s : Int, (8 : Int) * (i : Int) = s := ⟨_, rfl⟩
    have hs0 : 0 ≤ s := by omega
    have hs1 : s ≤ 64 := by omega
    obtain ⟨t, ht⟩ : ∃ t : Int, shr .u64 a2 s = t := ⟨_, rfl⟩
    have ht_ : (a2 / 2 ^ min s.toNat 64) = t := ht
    have htz : (a2 / 2 ^ s.toNat) = t := shr_small ht hs1
    have hte : t = a2 / 256 ^ i := by rw [← htz, ← hs, show ((8 : Int) * (i : Int)).toNat = 8 * i by omega, Int.pow_mul]; rfl
    have HT := Aside0.mk hte
    obtain ⟨g, co, eo, gb, gl, cl, hG⟩ := Kd.R_form HO.out (by simp; omega)
    injection eo with ea_ en_ ec_
    subst ea_; subst ec_; clear en_
    have GB := Aside0.mk gb
    obtain ⟨hx, hf⟩ := Kd.R_celln 0 HO.out ji p0 p1
    have HP := Kd.R_putg HO.out ji (t % 256)
    clear gb gl hG hi hte hjd
    go_wp2_with (first | ((with_reducible refine gate_store (t := 5) (p := 35) rfl ?_); refine store_event (t := 5) (p := 35) (v := ?vo) (w1 := (wr.setCell ⟨g, ji.toNat, none⟩ (.int .u8 (t % 256)))) ?hg ?ho ?hn ?hr ?_; (case ho => rfl); (case hg => rfl); (case hn => rfl); (case hr => first | (go_simp; done) | (go_simp; rfl)); intro w5 hw; have hp_ := (show Kd.R (Kd.int .u8) 5 w5 w.heap.size (fun _ => True) (.slice (some ⟨g, 0, none⟩) N c1) _ from (by rw [hw]; exact HP.1)); have n0_ := Aside0.mk (by rw [hw]; exact below_set (HB.out) GB.out : Below w.heap.size w w5); clear HO HB HP; have hp2_ := hp_; have HB := n0_; clear n0_ hw hp_))
    rw [HJ.out, octet_Put.set_rep, HT.out] at hp2_
    go_roundg d
    case measure => omega
    case rel => exact ⟨i + 1, by go_num, ⟨by have := HI.out; omega⟩, ⟨hp2_⟩, HB⟩
 ·
  rw [if_neg hl0] at h
  exact absurd h (by simp)

/-! ### ether_Lay: function 11 -/
def ether_Lay.l0 : Nat → List Int → Option (ByteArray × Int)
 | 0, _ => none
 | k + 1, x4 => if (x4.length : Int) < 60 then (if x4.length < 140737488355328 then (ether_Lay.l0 k (x4 ++ [0])) else (none)) else (some (strOfNums x4, 0))
def ether_Lay.f (k : Nat) (a0_0 : Int) (a0_1 : Int) (a0_2 : Int) (a0_3 : ByteArray) : Option (ByteArray × Int) := (ether_isFrame.f a0_0 a0_1 a0_2 a0_3).bind fun t103 => (if t103 = true then (if (a0_3.size : Int) > 1500 then (some ((⟨#[]⟩ : ByteArray), 42)) else ((octet_Put.f ([] : List Int) 6 a0_0).bind fun t104 => ((octet_Put.f t104 6 a0_1).bind fun t107 => ((octet_Put.f t107 2 (IntKind.u64.wrap (a0_2))).bind fun t110 => (if t110.length + a0_3.size < 140737488355328 then (ether_Lay.l0 k (t110 ++ bytesOf a0_3)) else (none)))))) else (some ((⟨#[]⟩ : ByteArray), 40)))
theorem ether_Lay.mono_l : ∀ k, (∀ y0, LeO (ether_Lay.l0 k y0) (ether_Lay.l0 (k + 1) y0))
 | 0 => fun _ r h => by simp [ether_Lay.l0] at h
 | k + 1 => by
  have ih0 := ether_Lay.mono_l k
  ·
   intro y0
   unfold ether_Lay.l0
   repeat' first
   | (with_reducible exact ih0 _)
   | (with_reducible exact LeO.refl _)
   | (with_reducible exact LeO.none _)
   | (with_reducible refine LeO.ite ?_ ?_)
   | (with_reducible refine LeO.bind ?_ (fun _ => ?_))
   | exact ih0 _
   | exact LeO.none _
   | refine LeO.ite ?_ ?_
   | refine LeO.bind ?_ (fun _ => ?_)
theorem ether_Lay.mono : ∀ a0 a1 a2 a3 k, LeO (ether_Lay.f k a0 a1 a2 a3) (ether_Lay.f (k + 1) a0 a1 a2 a3) := by
 intro a0 a1 a2 a3 k
 have ih0 := ether_Lay.mono_l k
 unfold ether_Lay.f
 repeat' first
   | (with_reducible exact ih0 _)
   | (with_reducible exact LeO.refl _)
   | (with_reducible exact LeO.none _)
   | (with_reducible refine LeO.ite ?_ ?_)
   | (with_reducible refine LeO.bind ?_ (fun _ => ?_))
   | exact ih0 _
   | exact LeO.none _
   | refine LeO.ite ?_ ?_
   | refine LeO.bind ?_ (fun _ => ?_)
set_option maxHeartbeats 8000000 in
set_option maxRecDepth 100000 in
theorem ether_Lay.calls (k : Nat) (a0_0 : Int) (a0_1 : Int) (a0_2 : Int) (a0_3 : ByteArray) (r1 : ByteArray) (r2 : Int) (w : World) (h : ether_Lay.f k a0_0 a0_1 a0_2 a0_3 = some (r1, r2)) :
  Calls Tryd.prog 11 #[.agg #[.int .u64 a0_0, .int .u64 a0_1, .int .i64 a0_2, .string a0_3]] w fun e w' => e = .returned (.tuple #[.string r1, .int .i64 r2]) ∧ Below w.heap.size w w' := by
 have hu25 := Tryd.underlying25
 have HB := Aside0.mk (Below.refl w.heap.size w)
 have H : ((ether_isFrame.f a0_0 a0_1 a0_2 a0_3).bind fun t103 => (if t103 = true then (if (a0_3.size : Int) > 1500 then (some ((⟨#[]⟩ : ByteArray), 42)) else ((octet_Put.f ([] : List Int) 6 a0_0).bind fun t104 => ((octet_Put.f t104 6 a0_1).bind fun t107 => ((octet_Put.f t107 2 (IntKind.u64.wrap (a0_2))).bind fun t110 => (if t110.length + a0_3.size < 140737488355328 then (ether_Lay.l0 k (t110 ++ bytesOf a0_3)) else (none)))))) else (some ((⟨#[]⟩ : ByteArray), 40)))) = some (r1, r2) := h
 clear h
 replace H := Option.bind_eq_some_iff.mp H
 obtain ⟨t103, A20, H⟩ := H
 have A2 := Aside0.mk A20
 clear A20
 by_cases c3 : t103 = true
 ·
  subst c3
  rw [if_pos rfl] at H
  by_cases c4 : (a0_3.size : Int) > 1500
  ·
   rw [if_pos c4] at H
   have c4b0 : decide (1500 < (a0_3.size : Int)) = true := decide_eq_true c4
   have c4b1 : decide (1500 < a0_3.size) = true := decide_eq_true (by omega)
   clear c4
   simp only [Option.some.injEq, Prod.mk.injEq] at H
   obtain ⟨rfl, rfl⟩ := H
   go_enter Tryd.func11, Tryd.ntmps11
   go_wp2_with (first | ((with_reducible refine gate_dst (N := 1) rfl ?_); refine box_event ?hg (N := 1) ?hd (cs := #[.int .u64 a0_0, .int .u64 a0_1, .int .i64 a0_2, .string a0_3]) (t := 25) ?hr ?_; (case hd => rfl); (case hg => rfl); (case hr => first | (go_simp; done) | (go_simp; rfl)); intro gb102 hg w5 hbox hb; have n0_ := Aside0.mk (below_step (by repeat (first | (with_reducible first | exact HB.out | apply below_alloc | apply pw_below_drewN | apply below_drew1) | exact HB.out)) hb); have n1_ := Aside0.mk (hbox); have n2_ := Aside0.mk ((by rw [hg]; exact (below_size (by repeat (first | (with_reducible first | exact HB.out | apply below_alloc | apply pw_below_drewN | apply below_drew1) | exact HB.out))) : w.heap.size ≤ gb102)); have n3_ := Aside0.mk ((by rw [hg]; exact (below_size (by repeat (first | (with_reducible first | exact HB.out | apply below_alloc | apply pw_below_drewN | apply below_drew1) | exact HB.out))) : w.heap.size ≤ gb102)); clear HB; have HB := n0_; have BK102 := n1_; have GW102 := n2_; have GE102 := n3_; clear n0_ n1_ n2_ n3_; clear hb hbox hg; obtain ⟨hcz6_0, hcz6_1, hcz6_2, hcz6_3⟩ := MBlk.c4 BK102.out; obtain ⟨hfz6_0, hfz6_1, hfz6_2, hfz6_3⟩ := MBlk.f4 BK102.out) | ((with_reducible refine gate_callee (f := 26) rfl ?_); refine goesL_ (some 7) rfl rfl Tryd.func26 (by kernel_rfl) rfl #[.agg #[.int .u64 a0_0, .int .u64 a0_1, .int .i64 a0_2, .string a0_3]] rfl (by (try simp only [List.map_toArray, List.map_cons, List.map_nil]); first | done | rfl | (simp only [List.length_drop, List.length_take]; rfl)) ?_; (with_reducible refine (ether_isFrame.calls a0_0 a0_1 a0_2 a0_3 true _ A2.out).mono ?_); rintro e w7 ⟨rfl, hb⟩; refine ⟨_, rfl, ?_⟩; have n0_ := Aside0.mk (blk_below (g := gb102) (o := .cells #[.int .u64 a0_0, .int .u64 a0_1, .int .i64 a0_2, .string a0_3] 25 (0, 0)) (by (with_reducible repeat (first | refine blk_drewN ?_ _ | refine blk_drew ?_ | refine blk_alloc ?_ _)); exact BK102.out) hb); have n1_ := Aside0.mk (below_step (by repeat (first | (with_reducible first | exact HB.out | apply below_alloc | apply pw_below_drewN | apply below_drew1 | refine below_set ?_ GE102.out) | exact HB.out)) hb); clear BK102; clear HB; have BK102 := n0_; have HB := n1_; clear n0_ n1_; (try clear hb); (try clear hb2); (try clear hk); (try clear hi); obtain ⟨hcz8_0, hcz8_1, hcz8_2, hcz8_3⟩ := MBlk.c4 BK102.out; obtain ⟨hfz8_0, hfz8_1, hfz8_2, hfz8_3⟩ := MBlk.f4 BK102.out))
   go_ret2
   exact ⟨by first | rfl | (simp [errW_none, errW_some] <;> rfl) | (simp [*, errW_none, errW_some] <;> rfl), by repeat (first | (with_reducible first | exact HB.out | apply below_alloc | apply pw_below_drewN | apply below_drew1 | refine below_set ?_ GE102.out) | exact HB.out)⟩
  ·
   rw [if_neg c4] at H
   have c4b0 : decide (1500 < (a0_3.size : Int)) = false := decide_eq_false c4
   have c4b1 : decide (1500 < a0_3.size) = false := decide_eq_false (by omega)
   clear c4
   replace H := Option.bind_eq_some_iff.mp H
   obtain ⟨t104, A90, H⟩ := H
   have A9 := Aside0.mk A90
   clear A90
   replace H := Option.bind_eq_some_iff.mp H
   obtain ⟨t107, A100, H⟩ := H
   have A10 := Aside0.mk A100
   clear A100
   replace H := Option.bind_eq_some_iff.mp H
   obtain ⟨t110, A110, H⟩ := H
   have A11 := Aside0.mk A110
   clear A110
   by_cases c12 : t110.length + a0_3.size < 140737488355328
   ·
    rw [if_pos c12] at H
    have LMc12 := Aside0.mk c12
    clear c12
    obtain ⟨y113, hy113⟩ : ∃ y_ : List Int, y_ = (t110 ++ bytesOf a0_3) := ⟨_, rfl⟩
    replace H : (ether_Lay.l0 k y113) = some (r1, r2) := by first | (rw [hy113]; with_reducible exact H) | (have H2_ := (Option.bind_some _ _).symm.trans H; rw [hy113]; with_reducible exact H2_) | (have H2_ := (Option.bind_some _ _).symm.trans H; with_reducible exact H2_) | with_reducible exact H | (rw [hy113]; exact H) | exact H
    have Ny113 := Aside0.mk hy113
    clear hy113
    have H' := Aside0.mk H
    clear H
    go_enter Tryd.func11, Tryd.ntmps11
    go_wp2_with (first | ((with_reducible refine gate_dst (N := 1) rfl ?_); refine box_event ?hg (N := 1) ?hd (cs := #[.int .u64 a0_0, .int .u64 a0_1, .int .i64 a0_2, .string a0_3]) (t := 25) ?hr ?_; (case hd => rfl); (case hg => rfl); (case hr => first | (go_simp; done) | (go_simp; rfl)); intro gb102 hg w13 hbox hb; have n0_ := Aside0.mk (below_step (by repeat (first | (with_reducible first | exact HB.out | apply below_alloc | apply pw_below_drewN | apply below_drew1) | exact HB.out)) hb); have n1_ := Aside0.mk (hbox); have n2_ := Aside0.mk ((by rw [hg]; exact (below_size (by repeat (first | (with_reducible first | exact HB.out | apply below_alloc | apply pw_below_drewN | apply below_drew1) | exact HB.out))) : w.heap.size ≤ gb102)); have n3_ := Aside0.mk ((by rw [hg]; exact (below_size (by repeat (first | (with_reducible first | exact HB.out | apply below_alloc | apply pw_below_drewN | apply below_drew1) | exact HB.out))) : w.heap.size ≤ gb102)); clear HB; have HB := n0_; have BK102 := n1_; have GW102 := n2_; have GE102 := n3_; clear n0_ n1_ n2_ n3_; clear hb hbox hg; obtain ⟨hcz14_0, hcz14_1, hcz14_2, hcz14_3⟩ := MBlk.c4 BK102.out; obtain ⟨hfz14_0, hfz14_1, hfz14_2, hfz14_3⟩ := MBlk.f4 BK102.out) | ((with_reducible refine gate_callee (f := 26) rfl ?_); refine goesL_ (some 7) rfl rfl Tryd.func26 (by kernel_rfl) rfl #[.agg #[.int .u64 a0_0, .int .u64 a0_1, .int .i64 a0_2, .string a0_3]] rfl (by (try simp only [List.map_toArray, List.map_cons, List.map_nil]); first | done | rfl | (simp only [List.length_drop, List.length_take]; rfl)) ?_; (with_reducible refine (ether_isFrame.calls a0_0 a0_1 a0_2 a0_3 true _ A2.out).mono ?_); rintro e w15 ⟨rfl, hb⟩; refine ⟨_, rfl, ?_⟩; have n0_ := Aside0.mk (blk_below (g := gb102) (o := .cells #[.int .u64 a0_0, .int .u64 a0_1, .int .i64 a0_2, .string a0_3] 25 (0, 0)) (by (with_reducible repeat (first | refine blk_drewN ?_ _ | refine blk_drew ?_ | refine blk_alloc ?_ _)); exact BK102.out) hb); have n1_ := Aside0.mk (below_step (by repeat (first | (with_reducible first | exact HB.out | apply below_alloc | apply pw_below_drewN | apply below_drew1 | refine below_set ?_ GE102.out) | exact HB.out)) hb); clear BK102; clear HB; have BK102 := n0_; have HB := n1_; clear n0_ n1_; (try clear hb); (try clear hb2); (try clear hk); (try clear hi); obtain ⟨hcz16_0, hcz16_1, hcz16_2, hcz16_3⟩ := MBlk.c4 BK102.out; obtain ⟨hfz16_0, hfz16_1, hfz16_2, hfz16_3⟩ := MBlk.f4 BK102.out) | ((with_reducible refine gate_callee (f := 27) rfl ?_); refine goesL_ (some 16) rfl rfl Tryd.func27 (by kernel_rfl) rfl #[.slice none 0 0, .int .i64 6, .int .u64 a0_0] rfl (by (try simp only [List.map_toArray, List.map_cons, List.map_nil]); first | done | rfl | (simp only [List.length_drop, List.length_take]; rfl)) ?_; (refine (octet_Put.calls _ _ ([] : List Int) 6 a0_0 t104 _ ?side1 ?side2 A9.out).mono ?_); (case side1 => exact Kd.C_nil _ _); (case side2 => exact Nat.le_refl _); rintro e w17 ⟨v105, rfl, ho0, hb⟩; refine ⟨_, rfl, ?_⟩; have n0_ := Aside0.mk (Kd.R_lower ho0 (below_size (by repeat (first | (with_reducible first | exact HB.out | apply below_alloc | apply pw_below_drewN | apply below_drew1 | refine below_set ?_ GE102.out) | exact HB.out)))); have n1_ := Aside0.mk (blk_below (g := gb102) (o := .cells #[.int .u64 a0_0, .int .u64 a0_1, .int .i64 a0_2, .string a0_3] 25 (0, 0)) (by (with_reducible repeat (first | refine blk_drewN ?_ _ | refine blk_drew ?_ | refine blk_alloc ?_ _)); exact BK102.out) hb); have n2_ := Aside0.mk (below_step (by repeat (first | (with_reducible first | exact HB.out | apply below_alloc | apply pw_below_drewN | apply below_drew1 | refine below_set ?_ GE102.out) | exact HB.out)) hb); clear BK102; clear HB; have HO106 := n0_; have BK102 := n1_; have HB := n2_; clear n0_ n1_ n2_; (try clear hb); (try clear hb2); (try clear hk); (try clear hi); (try clear ho0); obtain ⟨hcz18_0, hcz18_1, hcz18_2, hcz18_3⟩ := MBlk.c4 BK102.out; obtain ⟨hfz18_0, hfz18_1, hfz18_2, hfz18_3⟩ := MBlk.f4 BK102.out; obtain ⟨Ao19, co19, eo19⟩ := Kd.R_slice HO106.out; subst eo19) | ((with_reducible refine gate_callee (f := 27) rfl ?_); refine goesL_ (some 20) rfl rfl Tryd.func27 (by kernel_rfl) rfl #[.slice Ao19 t104.length co19, .int .i64 6, .int .u64 a0_1] rfl (by (try simp only [List.map_toArray, List.map_cons, List.map_nil]); first | done | rfl | (simp only [List.length_drop, List.length_take]; rfl)) ?_; (with_reducible refine (octet_Put.calls _ _ t104 6 a0_1 t107 _ ?side1 ?side2 A10.out).mono ?_); (case side1 => repeat (first | exact (Kd.R_reads' HO106.out).2.2 | (with_reducible refine Kd.C_alloc ?_ _) | (with_reducible refine Kd.C_drewN ?_ _) | (with_reducible refine Kd.C_drew ?_))); (case side2 => exact (Kd.R_reads' HO106.out).2.1); rintro e w20 ⟨v108, rfl, ho0, hb⟩; refine ⟨_, rfl, ?_⟩; have n0_ := Aside0.mk (Kd.R_elder' (by (with_reducible repeat (first | apply Kd.R_alloc | apply Kd.R_drewN | apply Kd.R_drew)); exact HO106.out) (Kd.R_base ho0) hb); have n1_ := Aside0.mk (Kd.R_lower (Kd.R_new' ho0 (Kd.R_lt (by (with_reducible repeat (first | apply Kd.R_alloc | apply Kd.R_drewN | apply Kd.R_drew)); exact HO106.out))) (below_size (by repeat (first | (with_reducible first | exact HB.out | apply below_alloc | apply pw_below_drewN | apply below_drew1 | refine below_set ?_ GE102.out) | exact HB.out)))); have n2_ := Aside0.mk (blk_below (g := gb102) (o := .cells #[.int .u64 a0_0, .int .u64 a0_1, .int .i64 a0_2, .string a0_3] 25 (0, 0)) (by (with_reducible repeat (first | refine blk_drewN ?_ _ | refine blk_drew ?_ | refine blk_alloc ?_ _)); exact BK102.out) hb); have n3_ := Aside0.mk (below_step (by repeat (first | (with_reducible first | exact HB.out | apply below_alloc | apply pw_below_drewN | apply below_drew1 | refine below_set ?_ GE102.out) | exact HB.out)) hb); clear HO106; clear BK102; clear HB; have HO106 := n0_; have HO109 := n1_; have BK102 := n2_; have HB := n3_; clear n0_ n1_ n2_ n3_; (try clear hb); (try clear hb2); (try clear hk); (try clear hi); (try clear ho0); obtain ⟨hcz21_0, hcz21_1, hcz21_2, hcz21_3⟩ := MBlk.c4 BK102.out; obtain ⟨hfz21_0, hfz21_1, hfz21_2, hfz21_3⟩ := MBlk.f4 BK102.out; obtain ⟨Ao22, co22, eo22⟩ := Kd.R_slice HO109.out; subst eo22) | ((with_reducible refine gate_callee (f := 27) rfl ?_); refine goesL_ (some 25) rfl rfl Tryd.func27 (by kernel_rfl) rfl #[.slice Ao22 t107.length co22, .int .i64 2, .int .u64 (IntKind.u64.wrap (a0_2))] rfl (by (try simp only [List.map_toArray, List.map_cons, List.map_nil]); first | done | rfl | (simp only [List.length_drop, List.length_take]; rfl)) ?_; (with_reducible refine (octet_Put.calls _ _ t107 2 (IntKind.u64.wrap (a0_2)) t110 _ ?side1 ?side2 A11.out).mono ?_); (case side1 => repeat (first | exact (Kd.R_reads' HO109.out).2.2 | (with_reducible refine Kd.C_alloc ?_ _) | (with_reducible refine Kd.C_drewN ?_ _) | (with_reducible refine Kd.C_drew ?_))); (case side2 => exact (Kd.R_reads' HO109.out).2.1); rintro e w23 ⟨v111, rfl, ho0, hb⟩; refine ⟨_, rfl, ?_⟩; have n0_ := Aside0.mk (Kd.R_elder' (by (with_reducible repeat (first | apply Kd.R_alloc | apply Kd.R_drewN | apply Kd.R_drew)); exact HO106.out) (Kd.R_base ho0) hb); have n1_ := Aside0.mk (Kd.R_elder' (by (with_reducible repeat (first | apply Kd.R_alloc | apply Kd.R_drewN | apply Kd.R_drew)); exact HO109.out) (Kd.R_base ho0) hb); have n2_ := Aside0.mk (Kd.R_lower (Kd.R_new' (Kd.R_new' ho0 (Kd.R_lt (by (with_reducible repeat (first | apply Kd.R_alloc | apply Kd.R_drewN | apply Kd.R_drew)); exact HO106.out))) (Kd.R_lt (by (with_reducible repeat (first | apply Kd.R_alloc | apply Kd.R_drewN | apply Kd.R_drew)); exact HO109.out))) (below_size (by repeat (first | (with_reducible first | exact HB.out | apply below_alloc | apply pw_below_drewN | apply below_drew1 | refine below_set ?_ GE102.out) | exact HB.out)))); have n3_ := Aside0.mk (blk_below (g := gb102) (o := .cells #[.int .u64 a0_0, .int .u64 a0_1, .int .i64 a0_2, .string a0_3] 25 (0, 0)) (by (with_reducible repeat (first | refine blk_drewN ?_ _ | refine blk_drew ?_ | refine blk_alloc ?_ _)); exact BK102.out) hb); have n4_ := Aside0.mk (below_step (by repeat (first | (with_reducible first | exact HB.out | apply below_alloc | apply pw_below_drewN | apply below_drew1 | refine below_set ?_ GE102.out) | exact HB.out)) hb); clear HO106; clear HO109; clear BK102; clear HB; have HO106 := n0_; have HO109 := n1_; have HO112 := n2_; have BK102 := n3_; have HB := n4_; clear n0_ n1_ n2_ n3_ n4_; (try clear hb); (try clear hb2); (try clear hk); (try clear hi); (try clear ho0); obtain ⟨hcz24_0, hcz24_1, hcz24_2, hcz24_3⟩ := MBlk.c4 BK102.out; obtain ⟨hfz24_0, hfz24_1, hfz24_2, hfz24_3⟩ := MBlk.f4 BK102.out) | (at_builtin; refine MStr.R_append_string (w0 := w) w.heap.size rfl (.tmp 26) _ 50 9 5 rfl Tryd.underlying50 Tryd.underlying9 info5 v111 t110 a0_3 (fun k_ => some k_ ≠ (.slice Ao19 t104.length co19 : Value).ownBlock ∧ some k_ ≠ (.slice Ao22 t107.length co22 : Value).ownBlock) rfl rfl ?aO ?aF ?aB ?aS ?aL ?_; (case aB => exact (by repeat (first | (with_reducible first | exact HB.out | apply below_alloc | apply pw_below_drewN | apply below_drew1 | refine below_set ?_ GE102.out) | exact HB.out))); (case aF => exact (fun k_ hk => ⟨Kd.fresh' (Kd.R_lt (by (with_reducible repeat (first | apply Kd.R_alloc | apply Kd.R_drewN | apply Kd.R_drew)); exact HO106.out)) k_ hk, Kd.fresh' (Kd.R_lt (by (with_reducible repeat (first | apply Kd.R_alloc | apply Kd.R_drewN | apply Kd.R_drew)); exact HO109.out)) k_ hk⟩)); (case aO => exact (by (with_reducible repeat (first | apply Kd.R_alloc | apply Kd.R_drewN | apply Kd.R_drew)); exact Kd.R_mono HO112.out (fun _ hk => ⟨hk.1.2, hk.2⟩))); (case aS => exact (below_size (by repeat (first | (with_reducible first | exact HB.out | apply below_alloc | apply pw_below_drewN | apply below_drew1 | refine below_set ?_ GE102.out) | exact HB.out)))); (case aL => have := LMc12.out; omega); intro v114 w25 ho hb hg hat; rw [← Ny113.out] at ho; have n0_ := Aside0.mk (blk_grown (g := gb102) (o := .cells #[.int .u64 a0_0, .int .u64 a0_1, .int .i64 a0_2, .string a0_3] 25 (0, 0)) (by (with_reducible repeat (first | refine blk_drewN ?_ _ | refine blk_drew ?_ | refine blk_alloc ?_ _)); exact BK102.out) hg (Kd.R_ne HO112.out BK102.out (by decide))); have n1_ := Aside0.mk (Kd.R_after (ok := (fun k_ => some k_ ≠ (.slice Ao22 t107.length co22 : Value).ownBlock)) (by (with_reducible repeat (first | apply Kd.R_alloc | apply Kd.R_drewN | apply Kd.R_drew)); exact Kd.R_mono HO106.out (fun _ hk => ⟨hk.1.2, hk.2⟩)) hg hat); have n2_ := Aside0.mk (Kd.R_after (ok := (fun k_ => some k_ ≠ (.slice Ao19 t104.length co19 : Value).ownBlock)) (by (with_reducible repeat (first | apply Kd.R_alloc | apply Kd.R_drewN | apply Kd.R_drew)); exact Kd.R_mono HO109.out (fun _ hk => ⟨hk.1.2, hk.2⟩)) hg hat); have n3_ := Aside0.mk (hb); have n4_ := Aside0.mk (ho); clear BK102; clear HO106; clear HO109; clear HB; clear HO112; have BK102 := n0_; have HO106 := n1_; have HO109 := n2_; have HB := n3_; have HO115 := n4_; clear n0_ n1_ n2_ n3_ n4_; clear ho hb hg hat))
    go_loopg [4] k (fun kq v4 w' => ∃ (x4_1 : List Int), Aside0 (ether_Lay.l0 kq x4_1 = some (r1, r2)) ∧ Aside0 (kq ≤ k) ∧ Aside0 (Kd.R (Kd.int .u8) 5 w' w.heap.size (fun _ => True) v4 x4_1) ∧ Aside0 (w'.heap[gb102]? = some (.cells #[.int .u64 a0_0, .int .u64 a0_1, .int .i64 a0_2, .string a0_3] 25 (0, 0))) ∧ Aside0 (Below w.heap.size w w'))
    case atStart => exact ⟨(y113), H', ⟨Nat.le_refl _⟩, ⟨by (with_reducible repeat (first | apply Kd.R_alloc | apply Kd.R_drewN | apply Kd.R_drew)); exact Kd.R_mono HO115.out (fun _ hk => trivial)⟩, ⟨by (with_reducible repeat (first | refine blk_drewN ?_ _ | refine blk_drew ?_ | refine blk_alloc ?_ _)); exact BK102.out⟩, ⟨by repeat (first | (with_reducible first | exact HB.out | apply below_alloc | apply pw_below_drewN | apply below_drew1 | refine below_set ?_ GE102.out) | exact HB.out)⟩⟩
    case round =>
     clear H'
     try clear c1
     try clear c2
     try clear p2
     try clear c3
     try clear c4
     try clear c4b0
     try clear c4b1
     try clear c11
     try clear c12
     try clear hcz14_0
     try clear hcz14_1
     try clear hcz14_2
     try clear hcz14_3
     try clear hcz16_0
     try clear hcz16_1
     try clear hcz16_2
     try clear hcz16_3
     try clear hcz18_0
     try clear hcz18_1
     try clear hcz18_2
     try clear hcz18_3
     try clear hcz21_0
     try clear hcz21_1
     try clear hcz21_2
     try clear hcz21_3
     try clear hcz24_0
     try clear hcz24_1
     try clear hcz24_2
     try clear hcz24_3
     try clear hcz6_0
     try clear hcz6_1
     try clear hcz6_2
     try clear hcz6_3
     try clear hcz8_0
     try clear hcz8_1
     try clear hcz8_2
     try clear hcz8_3
     try clear hfz14_0
     try clear hfz14_1
     try clear hfz14_2
     try clear hfz14_3
     try clear hfz16_0
     try clear hfz16_1
     try clear hfz16_2
     try clear hfz16_3
     try clear hfz18_0
     try clear hfz18_1
     try clear hfz18_2
     try clear hfz18_3
     try clear hfz21_0
     try clear hfz21_1
     try clear hfz21_2
     try clear hfz21_3
     try clear hfz24_0
     try clear hfz24_1
     try clear hfz24_2
     try clear hfz24_3
     try clear hfz6_0
     try clear hfz6_1
     try clear hfz6_2
     try clear hfz6_3
     try clear hfz8_0
     try clear hfz8_1
     try clear hfz8_2
     try clear hfz8_3
     obtain ⟨x4_1, HA, HK1, HO_4, BK102, HB⟩ := hrel
     cases gk with
     | zero => exact absurd HA.out (by simp [ether_Lay.l0])
     | succ k1 =>
      have H := HA.out
      clear HA
      simp only [ether_Lay.l0] at H
      by_cases c26 : (x4_1.length : Int) < 60
      ·
       rw [if_pos c26] at H
       have c26b0 : decide ((x4_1.length : Int) < 60) = true := decide_eq_true c26
       have c26b1 : decide (x4_1.length < 60) = true := decide_eq_true (by omega)
       clear c26
       by_cases c27 : x4_1.length < 140737488355328
       ·
        rw [if_pos c27] at H
        have LMc27 := Aside0.mk c27
        clear c27
        obtain ⟨y116, hy116⟩ : ∃ y_ : List Int, y_ = (x4_1 ++ [0]) := ⟨_, rfl⟩
        replace H : (ether_Lay.l0 k1 y116) = some (r1, r2) := by first | (rw [hy116]; with_reducible exact H) | (have H2_ := (Option.bind_some _ _).symm.trans H; rw [hy116]; with_reducible exact H2_) | (have H2_ := (Option.bind_some _ _).symm.trans H; with_reducible exact H2_) | with_reducible exact H | (rw [hy116]; exact H) | exact H
        have Ny116 := Aside0.mk hy116
        clear hy116
        have H' := Aside0.mk H
        clear H
        obtain ⟨Ao28, co28, eo28⟩ := Kd.R_slice HO_4.out
        subst eo28
        go_wp2_with (first | ((with_reducible refine gate_builtin (b := .append) (xs := #[.tmp 33, .tmp 34]) rfl ?_); at_builtin; refine Kd.R_append (Kd.int .u8) (w0 := w) w.heap.size rfl (.tmp 33) (.tmp 34) 50 5 (.int .u8 0) 1 rfl Tryd.underlying50 info5 rfl (by decide) (by omega) (.slice Ao28 x4_1.length co28) x4_1 0 [.int .u8 0] (fun _ => True) (fun _ => False) rfl rfl ?aP (fun _ hk => hk.elim) ?aF ?aO ?aB ?aS ?aL ?_; (case aP => exact rfl); (case aB => exact (by repeat (first | (with_reducible first | exact HB.out | apply below_alloc | apply pw_below_drewN | apply below_drew1 | refine below_set ?_ GE102.out) | exact HB.out))); (case aF => exact (fun _ _ => trivial)); (case aO => exact (by (with_reducible repeat (first | apply Kd.R_alloc | apply Kd.R_drewN | apply Kd.R_drew)); exact HO_4.out)); (case aS => exact (below_size (by repeat (first | (with_reducible first | exact HB.out | apply below_alloc | apply pw_below_drewN | apply below_drew1 | refine below_set ?_ GE102.out) | exact HB.out)))); (case aL => have := LMc27.out; omega); intro v117 w29 ho hb hg hat; rw [← Ny116.out] at ho; have n0_ := Aside0.mk (blk_grown (g := gb102) (o := .cells #[.int .u64 a0_0, .int .u64 a0_1, .int .i64 a0_2, .string a0_3] 25 (0, 0)) (by (with_reducible repeat (first | refine blk_drewN ?_ _ | refine blk_drew ?_ | refine blk_alloc ?_ _)); exact BK102.out) hg (Kd.R_ne HO_4.out BK102.out (by decide))); have n1_ := Aside0.mk (hb); have n2_ := Aside0.mk (ho); clear BK102; clear HB; clear HO_4; have BK102 := n0_; have HB := n1_; have HO118 := n2_; clear n0_ n1_ n2_; clear ho hb hg hat))
        go_roundg k1
        case measure => have := HK1.out; omega
        case rel => exact ⟨(y116), H', ⟨by have := HK1.out; omega⟩, ⟨by (with_reducible repeat (first | apply Kd.R_alloc | apply Kd.R_drewN | apply Kd.R_drew)); exact HO118.out⟩, ⟨by (with_reducible repeat (first | refine blk_drewN ?_ _ | refine blk_drew ?_ | refine blk_alloc ?_ _)); exact BK102.out⟩, ⟨by repeat (first | (with_reducible first | exact HB.out | apply below_alloc | apply pw_below_drewN | apply below_drew1 | refine below_set ?_ GE102.out) | exact HB.out)⟩⟩
       ·
        rw [if_neg c27] at H
        exact absurd H (by simp)
      ·
       rw [if_neg c26] at H
       have c26b0 : decide ((x4_1.length : Int) < 60) = false := decide_eq_false c26
       have c26b1 : decide (x4_1.length < 60) = false := decide_eq_false (by omega)
       clear c26
       simp only [Option.some.injEq, Prod.mk.injEq] at H
       obtain ⟨rfl, rfl⟩ := H
       obtain ⟨Ao30, co30, eo30⟩ := Kd.R_slice HO_4.out
       subst eo30
       have hcv31 := own_string (P := Tryd.prog) Tryd.underlying50 Tryd.underlying5 Tryd.underlying9 (Kd.own_of_R HO_4.out)
       go_wp2
       go_ret2
       exact ⟨by first | rfl | (simp [errW_none, errW_some] <;> rfl) | (simp [*, errW_none, errW_some] <;> rfl), by repeat (first | (with_reducible first | exact HB.out | apply below_alloc | apply pw_below_drewN | apply below_drew1 | refine below_set ?_ GE102.out) | exact HB.out)⟩
   ·
    rw [if_neg c12] at H
    exact absurd H (by simp)
 ·
  replace c3 := Bool.eq_false_iff.mpr c3
  subst c3
  rw [if_neg (show ¬ (false = true) by decide)] at H
  simp only [Option.some.injEq, Prod.mk.injEq] at H
  obtain ⟨rfl, rfl⟩ := H
  go_enter Tryd.func11, Tryd.ntmps11
  go_wp2_with (first | ((with_reducible refine gate_dst (N := 1) rfl ?_); refine box_event ?hg (N := 1) ?hd (cs := #[.int .u64 a0_0, .int .u64 a0_1, .int .i64 a0_2, .string a0_3]) (t := 25) ?hr ?_; (case hd => rfl); (case hg => rfl); (case hr => first | (go_simp; done) | (go_simp; rfl)); intro gb102 hg w32 hbox hb; have n0_ := Aside0.mk (below_step (by repeat (first | (with_reducible first | exact HB.out | apply below_alloc | apply pw_below_drewN | apply below_drew1) | exact HB.out)) hb); have n1_ := Aside0.mk (hbox); have n2_ := Aside0.mk ((by rw [hg]; exact (below_size (by repeat (first | (with_reducible first | exact HB.out | apply below_alloc | apply pw_below_drewN | apply below_drew1) | exact HB.out))) : w.heap.size ≤ gb102)); have n3_ := Aside0.mk ((by rw [hg]; exact (below_size (by repeat (first | (with_reducible first | exact HB.out | apply below_alloc | apply pw_below_drewN | apply below_drew1) | exact HB.out))) : w.heap.size ≤ gb102)); clear HB; have HB := n0_; have BK102 := n1_; have GW102 := n2_; have GE102 := n3_; clear n0_ n1_ n2_ n3_; clear hb hbox hg; obtain ⟨hcz33_0, hcz33_1, hcz33_2, hcz33_3⟩ := MBlk.c4 BK102.out; obtain ⟨hfz33_0, hfz33_1, hfz33_2, hfz33_3⟩ := MBlk.f4 BK102.out) | ((with_reducible refine gate_callee (f := 26) rfl ?_); refine goesL_ (some 7) rfl rfl Tryd.func26 (by kernel_rfl) rfl #[.agg #[.int .u64 a0_0, .int .u64 a0_1, .int .i64 a0_2, .string a0_3]] rfl (by (try simp only [List.map_toArray, List.map_cons, List.map_nil]); first | done | rfl | (simp only [List.length_drop, List.length_take]; rfl)) ?_; (with_reducible refine (ether_isFrame.calls a0_0 a0_1 a0_2 a0_3 false _ A2.out).mono ?_); rintro e w34 ⟨rfl, hb⟩; refine ⟨_, rfl, ?_⟩; have n0_ := Aside0.mk (blk_below (g := gb102) (o := .cells #[.int .u64 a0_0, .int .u64 a0_1, .int .i64 a0_2, .string a0_3] 25 (0, 0)) (by (with_reducible repeat (first | refine blk_drewN ?_ _ | refine blk_drew ?_ | refine blk_alloc ?_ _)); exact BK102.out) hb); have n1_ := Aside0.mk (below_step (by repeat (first | (with_reducible first | exact HB.out | apply below_alloc | apply pw_below_drewN | apply below_drew1 | refine below_set ?_ GE102.out) | exact HB.out)) hb); clear BK102; clear HB; have BK102 := n0_; have HB := n1_; clear n0_ n1_; (try clear hb); (try clear hb2); (try clear hk); (try clear hi)))
  go_ret2
  exact ⟨by first | rfl | (simp [errW_none, errW_some] <;> rfl) | (simp [*, errW_none, errW_some] <;> rfl), by repeat (first | (with_reducible first | exact HB.out | apply below_alloc | apply pw_below_drewN | apply below_drew1 | refine below_set ?_ GE102.out) | exact HB.out)⟩

/-! ### addr_Valid: function 45 -/
def addr_Valid.f (a0_0 : Bool) (a0_1 : Int) (a0_2 : Int) : Option (Bool) := if a0_0 = true then (some true) else (if a0_1 = 0 then (some (decide (a0_2 < 4294967296))) else (some false))
set_option maxHeartbeats 8000000 in
set_option maxRecDepth 100000 in
theorem addr_Valid.calls (a0_0 : Bool) (a0_1 : Int) (a0_2 : Int) (r : Bool) (w : World) (h : addr_Valid.f a0_0 a0_1 a0_2 = some r) :
  Calls Tryd.prog 45 #[.agg #[.bool a0_0, .int .u64 a0_1, .int .u64 a0_2]] w fun e w' => e = .returned (.bool r) ∧ Below w.heap.size w w' := by
 have hu27 := Tryd.underlying27
 have HB := Aside0.mk (Below.refl w.heap.size w)
 have H : (if a0_0 = true then (some true) else (if a0_1 = 0 then (some (decide (a0_2 < 4294967296))) else (some false))) = some r := h
 clear h
 by_cases c2 : a0_0 = true
 ·
  subst c2
  rw [if_pos rfl] at H
  obtain rfl := Option.some.inj H
  go_enter Tryd.func45, Tryd.ntmps45
  go_wp2_with (first | ((with_reducible refine gate_dst (N := 1) rfl ?_); refine box_event ?hg (N := 1) ?hd (cs := #[.bool true, .int .u64 a0_1, .int .u64 a0_2]) (t := 27) ?hr ?_; (case hd => rfl); (case hg => rfl); (case hr => first | (go_simp; done) | (go_simp; rfl)); intro gb119 hg w3 hbox hb; have n0_ := Aside0.mk (below_step (by repeat (first | (with_reducible first | exact HB.out | apply below_alloc | apply pw_below_drewN | apply below_drew1) | exact HB.out)) hb); have n1_ := Aside0.mk (hbox); have n2_ := Aside0.mk ((by rw [hg]; exact (below_size (by repeat (first | (with_reducible first | exact HB.out | apply below_alloc | apply pw_below_drewN | apply below_drew1) | exact HB.out))) : w.heap.size ≤ gb119)); have n3_ := Aside0.mk ((by rw [hg]; exact (below_size (by repeat (first | (with_reducible first | exact HB.out | apply below_alloc | apply pw_below_drewN | apply below_drew1) | exact HB.out))) : w.heap.size ≤ gb119)); clear HB; have HB := n0_; have BK119 := n1_; have GW119 := n2_; have GE119 := n3_; clear n0_ n1_ n2_ n3_; clear hb hbox hg; obtain ⟨hcz4_0, hcz4_1, hcz4_2⟩ := MBlk.c3 BK119.out; obtain ⟨hfz4_0, hfz4_1, hfz4_2⟩ := MBlk.f3 BK119.out))
  go_ret
  exact ⟨by first | rfl | (simp [errW_none, errW_some] <;> rfl) | (simp [*, errW_none, errW_some] <;> rfl), by repeat (first | (with_reducible first | exact HB.out | apply below_alloc | apply pw_below_drewN | apply below_drew1 | refine below_set ?_ GE119.out) | exact HB.out)⟩
 ·
  replace c2 := Bool.eq_false_iff.mpr c2
  subst c2
  rw [if_neg (show ¬ (false = true) by decide)] at H
  by_cases c5 : a0_1 = 0
  ·
   rw [if_pos c5] at H
   have c5b0 : (a0_1 == 0) = true := beq_iff_eq.mpr c5
   have c5b1 : (a0_1 != 0) = false := bne_eq_false_iff_eq.mpr c5
   clear c5
   obtain rfl := Option.some.inj H
   go_enter Tryd.func45, Tryd.ntmps45
   go_wp2_with (first | ((with_reducible refine gate_dst (N := 1) rfl ?_); refine box_event ?hg (N := 1) ?hd (cs := #[.bool false, .int .u64 a0_1, .int .u64 a0_2]) (t := 27) ?hr ?_; (case hd => rfl); (case hg => rfl); (case hr => first | (go_simp; done) | (go_simp; rfl)); intro gb119 hg w6 hbox hb; have n0_ := Aside0.mk (below_step (by repeat (first | (with_reducible first | exact HB.out | apply below_alloc | apply pw_below_drewN | apply below_drew1) | exact HB.out)) hb); have n1_ := Aside0.mk (hbox); have n2_ := Aside0.mk ((by rw [hg]; exact (below_size (by repeat (first | (with_reducible first | exact HB.out | apply below_alloc | apply pw_below_drewN | apply below_drew1) | exact HB.out))) : w.heap.size ≤ gb119)); have n3_ := Aside0.mk ((by rw [hg]; exact (below_size (by repeat (first | (with_reducible first | exact HB.out | apply below_alloc | apply pw_below_drewN | apply below_drew1) | exact HB.out))) : w.heap.size ≤ gb119)); clear HB; have HB := n0_; have BK119 := n1_; have GW119 := n2_; have GE119 := n3_; clear n0_ n1_ n2_ n3_; clear hb hbox hg; obtain ⟨hcz7_0, hcz7_1, hcz7_2⟩ := MBlk.c3 BK119.out; obtain ⟨hfz7_0, hfz7_1, hfz7_2⟩ := MBlk.f3 BK119.out))
   go_ret
   exact ⟨by first | rfl | (simp [errW_none, errW_some] <;> rfl) | (simp [*, errW_none, errW_some] <;> rfl), by repeat (first | (with_reducible first | exact HB.out | apply below_alloc | apply pw_below_drewN | apply below_drew1 | refine below_set ?_ GE119.out) | exact HB.out)⟩
  ·
   rw [if_neg c5] at H
   have c5b0 : (a0_1 == 0) = false := beq_eq_false_iff_ne.mpr c5
   have c5b1 : (a0_1 != 0) = true := bne_iff_ne.mpr c5
   obtain rfl := Option.some.inj H
   go_enter Tryd.func45, Tryd.ntmps45
   go_wp2_with (first | ((with_reducible refine gate_dst (N := 1) rfl ?_); refine box_event ?hg (N := 1) ?hd (cs := #[.bool false, .int .u64 a0_1, .int .u64 a0_2]) (t := 27) ?hr ?_; (case hd => rfl); (case hg => rfl); (case hr => first | (go_simp; done) | (go_simp; rfl)); intro gb119 hg w8 hbox hb; have n0_ := Aside0.mk (below_step (by repeat (first | (with_reducible first | exact HB.out | apply below_alloc | apply pw_below_drewN | apply below_drew1) | exact HB.out)) hb); have n1_ := Aside0.mk (hbox); have n2_ := Aside0.mk ((by rw [hg]; exact (below_size (by repeat (first | (with_reducible first | exact HB.out | apply below_alloc | apply pw_below_drewN | apply below_drew1) | exact HB.out))) : w.heap.size ≤ gb119)); have n3_ := Aside0.mk ((by rw [hg]; exact (below_size (by repeat (first | (with_reducible first | exact HB.out | apply below_alloc | apply pw_below_drewN | apply below_drew1) | exact HB.out))) : w.heap.size ≤ gb119)); clear HB; have HB := n0_; have BK119 := n1_; have GW119 := n2_; have GE119 := n3_; clear n0_ n1_ n2_ n3_; clear hb hbox hg; obtain ⟨hcz9_0, hcz9_1, hcz9_2⟩ := MBlk.c3 BK119.out; obtain ⟨hfz9_0, hfz9_1, hfz9_2⟩ := MBlk.f3 BK119.out))
   go_ret
   exact ⟨by first | rfl | (simp [errW_none, errW_some] <;> rfl) | (simp [*, errW_none, errW_some] <;> rfl), by repeat (first | (with_reducible first | exact HB.out | apply below_alloc | apply pw_below_drewN | apply below_drew1 | refine below_set ?_ GE119.out) | exact HB.out)⟩

/-! ### ether_isFour: function 40 -/
def ether_isFour.f (a0_0 : Bool) (a0_1 : Int) (a0_2 : Int) : Option (Bool) := if a0_0 = true then (some false) else ((addr_Valid.f a0_0 a0_1 a0_2).bind fun t121 => (some t121))
set_option maxHeartbeats 8000000 in
set_option maxRecDepth 100000 in
theorem ether_isFour.calls (a0_0 : Bool) (a0_1 : Int) (a0_2 : Int) (r : Bool) (w : World) (h : ether_isFour.f a0_0 a0_1 a0_2 = some r) :
  Calls Tryd.prog 40 #[.agg #[.bool a0_0, .int .u64 a0_1, .int .u64 a0_2]] w fun e w' => e = .returned (.bool r) ∧ Below w.heap.size w w' := by
 have hu27 := Tryd.underlying27
 have HB := Aside0.mk (Below.refl w.heap.size w)
 have H : (if a0_0 = true then (some false) else ((addr_Valid.f a0_0 a0_1 a0_2).bind fun t121 => (some t121))) = some r := h
 clear h
 by_cases c2 : a0_0 = true
 ·
  subst c2
  rw [if_pos rfl] at H
  obtain rfl := Option.some.inj H
  go_enter Tryd.func40, Tryd.ntmps40
  go_wp2_with (first | ((with_reducible refine gate_dst (N := 1) rfl ?_); refine box_event ?hg (N := 1) ?hd (cs := #[.bool true, .int .u64 a0_1, .int .u64 a0_2]) (t := 27) ?hr ?_; (case hd => rfl); (case hg => rfl); (case hr => first | (go_simp; done) | (go_simp; rfl)); intro gb120 hg w3 hbox hb; have n0_ := Aside0.mk (below_step (by repeat (first | (with_reducible first | exact HB.out | apply below_alloc | apply pw_below_drewN | apply below_drew1) | exact HB.out)) hb); have n1_ := Aside0.mk (hbox); have n2_ := Aside0.mk ((by rw [hg]; exact (below_size (by repeat (first | (with_reducible first | exact HB.out | apply below_alloc | apply pw_below_drewN | apply below_drew1) | exact HB.out))) : w.heap.size ≤ gb120)); have n3_ := Aside0.mk ((by rw [hg]; exact (below_size (by repeat (first | (with_reducible first | exact HB.out | apply below_alloc | apply pw_below_drewN | apply below_drew1) | exact HB.out))) : w.heap.size ≤ gb120)); clear HB; have HB := n0_; have BK120 := n1_; have GW120 := n2_; have GE120 := n3_; clear n0_ n1_ n2_ n3_; clear hb hbox hg; obtain ⟨hcz4_0, hcz4_1, hcz4_2⟩ := MBlk.c3 BK120.out; obtain ⟨hfz4_0, hfz4_1, hfz4_2⟩ := MBlk.f3 BK120.out))
  go_ret
  exact ⟨by first | rfl | (simp [errW_none, errW_some] <;> rfl) | (simp [*, errW_none, errW_some] <;> rfl), by repeat (first | (with_reducible first | exact HB.out | apply below_alloc | apply pw_below_drewN | apply below_drew1 | refine below_set ?_ GE120.out) | exact HB.out)⟩
 ·
  replace c2 := Bool.eq_false_iff.mpr c2
  subst c2
  rw [if_neg (show ¬ (false = true) by decide)] at H
  replace H := Option.bind_eq_some_iff.mp H
  obtain ⟨t121, A50, H⟩ := H
  have A5 := Aside0.mk A50
  clear A50
  obtain rfl := Option.some.inj H
  go_enter Tryd.func40, Tryd.ntmps40
  go_wp2_with (first | ((with_reducible refine gate_dst (N := 1) rfl ?_); refine box_event ?hg (N := 1) ?hd (cs := #[.bool false, .int .u64 a0_1, .int .u64 a0_2]) (t := 27) ?hr ?_; (case hd => rfl); (case hg => rfl); (case hr => first | (go_simp; done) | (go_simp; rfl)); intro gb120 hg w6 hbox hb; have n0_ := Aside0.mk (below_step (by repeat (first | (with_reducible first | exact HB.out | apply below_alloc | apply pw_below_drewN | apply below_drew1) | exact HB.out)) hb); have n1_ := Aside0.mk (hbox); have n2_ := Aside0.mk ((by rw [hg]; exact (below_size (by repeat (first | (with_reducible first | exact HB.out | apply below_alloc | apply pw_below_drewN | apply below_drew1) | exact HB.out))) : w.heap.size ≤ gb120)); have n3_ := Aside0.mk ((by rw [hg]; exact (below_size (by repeat (first | (with_reducible first | exact HB.out | apply below_alloc | apply pw_below_drewN | apply below_drew1) | exact HB.out))) : w.heap.size ≤ gb120)); clear HB; have HB := n0_; have BK120 := n1_; have GW120 := n2_; have GE120 := n3_; clear n0_ n1_ n2_ n3_; clear hb hbox hg; obtain ⟨hcz7_0, hcz7_1, hcz7_2⟩ := MBlk.c3 BK120.out; obtain ⟨hfz7_0, hfz7_1, hfz7_2⟩ := MBlk.f3 BK120.out) | (go_at_call 45; (with_reducible refine (addr_Valid.calls false a0_1 a0_2 t121 _ A5.out).mono ?_); rintro e w8 ⟨rfl, hb⟩; have n0_ := Aside0.mk (blk_below (g := gb120) (o := .cells #[.bool false, .int .u64 a0_1, .int .u64 a0_2] 27 (0, 0)) (by (with_reducible repeat (first | refine blk_drewN ?_ _ | refine blk_drew ?_ | refine blk_alloc ?_ _)); exact BK120.out) hb); have n1_ := Aside0.mk (below_step (by repeat (first | (with_reducible first | exact HB.out | apply below_alloc | apply pw_below_drewN | apply below_drew1 | refine below_set ?_ GE120.out) | exact HB.out)) hb); clear BK120; clear HB; have BK120 := n0_; have HB := n1_; clear n0_ n1_; (try clear hb); (try clear hb2); (try clear hk); (try clear hi)))
  go_ret
  exact ⟨by first | rfl | (simp [errW_none, errW_some] <;> rfl) | (simp [*, errW_none, errW_some] <;> rfl), by repeat (first | (with_reducible first | exact HB.out | apply below_alloc | apply pw_below_drewN | apply below_drew1 | refine below_set ?_ GE120.out) | exact HB.out)⟩

/-! ### ether_isArp: function 30 -/
def ether_isArp.f (a0_0 : Int) (a0_1 : Int) (a0_2 : Bool) (a0_3 : Int) (a0_4 : Int) (a0_5 : Int) (a0_6 : Bool) (a0_7 : Int) (a0_8 : Int) : Option (Bool) := if a0_0 = 1 then (if a0_1 < 281474976710656 then (if a0_5 < 281474976710656 then ((ether_isFour.f a0_2 a0_3 a0_4).bind fun t123 => (if t123 = true then ((ether_isFour.f a0_6 a0_7 a0_8).bind fun t124 => (some t124)) else (some false))) else (some false)) else (some false)) else (if a0_0 = 2 then (if a0_1 < 281474976710656 then (if a0_5 < 281474976710656 then ((ether_isFour.f a0_2 a0_3 a0_4).bind fun t125 => (if t125 = true then ((ether_isFour.f a0_6 a0_7 a0_8).bind fun t126 => (some t126)) else (some false))) else (some false)) else (some false)) else (some false))
set_option maxHeartbeats 8000000 in
set_option maxRecDepth 100000 in
theorem ether_isArp.calls (a0_0 : Int) (a0_1 : Int) (a0_2 : Bool) (a0_3 : Int) (a0_4 : Int) (a0_5 : Int) (a0_6 : Bool) (a0_7 : Int) (a0_8 : Int) (r : Bool) (w : World) (h : ether_isArp.f a0_0 a0_1 a0_2 a0_3 a0_4 a0_5 a0_6 a0_7 a0_8 = some r) :
  Calls Tryd.prog 30 #[.agg #[.int .i64 a0_0, .int .u64 a0_1, .bool a0_2, .int .u64 a0_3, .int .u64 a0_4, .int .u64 a0_5, .bool a0_6, .int .u64 a0_7, .int .u64 a0_8]] w fun e w' => e = .returned (.bool r) ∧ Below w.heap.size w w' := by
 have hu29 := Tryd.underlying29
 have hu27 := Tryd.underlying27
 have HB := Aside0.mk (Below.refl w.heap.size w)
 have H : (if a0_0 = 1 then (if a0_1 < 281474976710656 then (if a0_5 < 281474976710656 then ((ether_isFour.f a0_2 a0_3 a0_4).bind fun t123 => (if t123 = true then ((ether_isFour.f a0_6 a0_7 a0_8).bind fun t124 => (some t124)) else (some false))) else (some false)) else (some false)) else (if a0_0 = 2 then (if a0_1 < 281474976710656 then (if a0_5 < 281474976710656 then ((ether_isFour.f a0_2 a0_3 a0_4).bind fun t125 => (if t125 = true then ((ether_isFour.f a0_6 a0_7 a0_8).bind fun t126 => (some t126)) else (some false))) else (some false)) else (some false)) else (some false))) = some r := h
 clear h
 by_cases c2 : a0_0 = 1
 ·
  rw [if_pos c2] at H
  have c2b0 : (a0_0 == 1) = true := beq_iff_eq.mpr c2
  have c2b1 : (a0_0 != 1) = false := bne_eq_false_iff_eq.mpr c2
  clear c2
  by_cases c3 : a0_1 < 281474976710656
  ·
   rw [if_pos c3] at H
   have c3b0 : decide (a0_1 < 281474976710656) = true := decide_eq_true c3
   clear c3
   by_cases c4 : a0_5 < 281474976710656
   ·
    rw [if_pos c4] at H
    have c4b0 : decide (a0_5 < 281474976710656) = true := decide_eq_true c4
    clear c4
    replace H := Option.bind_eq_some_iff.mp H
    obtain ⟨t123, A50, H⟩ := H
    have A5 := Aside0.mk A50
    clear A50
    by_cases c6 : t123 = true
    ·
     subst c6
     rw [if_pos rfl] at H
     replace H := Option.bind_eq_some_iff.mp H
     obtain ⟨t124, A70, H⟩ := H
     have A7 := Aside0.mk A70
     clear A70
     obtain rfl := Option.some.inj H
     go_enter Tryd.func30, Tryd.ntmps30
     go_wp2_with (first | ((with_reducible refine gate_dst (N := 1) rfl ?_); refine box_event ?hg (N := 1) ?hd (cs := #[.int .i64 a0_0, .int .u64 a0_1, .bool a0_2, .int .u64 a0_3, .int .u64 a0_4, .int .u64 a0_5, .bool a0_6, .int .u64 a0_7, .int .u64 a0_8]) (t := 29) ?hr ?_; (case hd => rfl); (case hg => rfl); (case hr => first | (go_simp; done) | (go_simp; rfl)); intro gb122 hg w8 hbox hb; have n0_ := Aside0.mk (below_step (by repeat (first | (with_reducible first | exact HB.out | apply below_alloc | apply pw_below_drewN | apply below_drew1) | exact HB.out)) hb); have n1_ := Aside0.mk (hbox); have n2_ := Aside0.mk ((by rw [hg]; exact (below_size (by repeat (first | (with_reducible first | exact HB.out | apply below_alloc | apply pw_below_drewN | apply below_drew1) | exact HB.out))) : w.heap.size ≤ gb122)); have n3_ := Aside0.mk ((by rw [hg]; exact (below_size (by repeat (first | (with_reducible first | exact HB.out | apply below_alloc | apply pw_below_drewN | apply below_drew1) | exact HB.out))) : w.heap.size ≤ gb122)); clear HB; have HB := n0_; have BK122 := n1_; have GW122 := n2_; have GE122 := n3_; clear n0_ n1_ n2_ n3_; clear hb hbox hg; obtain ⟨hcz9_0, hcz9_1, hcz9_2, hcz9_3, hcz9_4, hcz9_5, hcz9_6, hcz9_7, hcz9_8⟩ := MBlk.c9 BK122.out; obtain ⟨hfz9_0, hfz9_1, hfz9_2, hfz9_3, hfz9_4, hfz9_5, hfz9_6, hfz9_7, hfz9_8⟩ := MBlk.f9 BK122.out) | (go_at_call 40; (with_reducible refine (ether_isFour.calls a0_2 a0_3 a0_4 true _ A5.out).mono ?_); rintro e w10 ⟨rfl, hb⟩; have n0_ := Aside0.mk (blk_below (g := gb122) (o := .cells #[.int .i64 a0_0, .int .u64 a0_1, .bool a0_2, .int .u64 a0_3, .int .u64 a0_4, .int .u64 a0_5, .bool a0_6, .int .u64 a0_7, .int .u64 a0_8] 29 (0, 0)) (by (with_reducible repeat (first | refine blk_drewN ?_ _ | refine blk_drew ?_ | refine blk_alloc ?_ _)); exact BK122.out) hb); have n1_ := Aside0.mk (below_step (by repeat (first | (with_reducible first | exact HB.out | apply below_alloc | apply pw_below_drewN | apply below_drew1 | refine below_set ?_ GE122.out) | exact HB.out)) hb); clear BK122; clear HB; have BK122 := n0_; have HB := n1_; clear n0_ n1_; (try clear hb); (try clear hb2); (try clear hk); (try clear hi); obtain ⟨hcz11_0, hcz11_1, hcz11_2, hcz11_3, hcz11_4, hcz11_5, hcz11_6, hcz11_7, hcz11_8⟩ := MBlk.c9 BK122.out; obtain ⟨hfz11_0, hfz11_1, hfz11_2, hfz11_3, hfz11_4, hfz11_5, hfz11_6, hfz11_7, hfz11_8⟩ := MBlk.f9 BK122.out) | (go_at_call 40; (with_reducible refine (ether_isFour.calls a0_6 a0_7 a0_8 t124 _ A7.out).mono ?_); rintro e w12 ⟨rfl, hb⟩; have n0_ := Aside0.mk (blk_below (g := gb122) (o := .cells #[.int .i64 a0_0, .int .u64 a0_1, .bool a0_2, .int .u64 a0_3, .int .u64 a0_4, .int .u64 a0_5, .bool a0_6, .int .u64 a0_7, .int .u64 a0_8] 29 (0, 0)) (by (with_reducible repeat (first | refine blk_drewN ?_ _ | refine blk_drew ?_ | refine blk_alloc ?_ _)); exact BK122.out) hb); have n1_ := Aside0.mk (below_step (by repeat (first | (with_reducible first | exact HB.out | apply below_alloc | apply pw_below_drewN | apply below_drew1 | refine below_set ?_ GE122.out) | exact HB.out)) hb); clear BK122; clear HB; have BK122 := n0_; have HB := n1_; clear n0_ n1_; (try clear hb); (try clear hb2); (try clear hk); (try clear hi)))
     go_ret
     exact ⟨by first | rfl | (simp [errW_none, errW_some] <;> rfl) | (simp [*, errW_none, errW_some] <;> rfl), by repeat (first | (with_reducible first | exact HB.out | apply below_alloc | apply pw_below_drewN | apply below_drew1 | refine below_set ?_ GE122.out) | exact HB.out)⟩
    ·
     replace c6 := Bool.eq_false_iff.mpr c6
     subst c6
     rw [if_neg (show ¬ (false = true) by decide)] at H
     obtain rfl := Option.some.inj H
     go_enter Tryd.func30, Tryd.ntmps30
     go_wp2_with (first | ((with_reducible refine gate_dst (N := 1) rfl ?_); refine box_event ?hg (N := 1) ?hd (cs := #[.int .i64 a0_0, .int .u64 a0_1, .bool a0_2, .int .u64 a0_3, .int .u64 a0_4, .int .u64 a0_5, .bool a0_6, .int .u64 a0_7, .int .u64 a0_8]) (t := 29) ?hr ?_; (case hd => rfl); (case hg => rfl); (case hr => first | (go_simp; done) | (go_simp; rfl)); intro gb122 hg w13 hbox hb; have n0_ := Aside0.mk (below_step (by repeat (first | (with_reducible first | exact HB.out | apply below_alloc | apply pw_below_drewN | apply below_drew1) | exact HB.out)) hb); have n1_ := Aside0.mk (hbox); have n2_ := Aside0.mk ((by rw [hg]; exact (below_size (by repeat (first | (with_reducible first | exact HB.out | apply below_alloc | apply pw_below_drewN | apply below_drew1) | exact HB.out))) : w.heap.size ≤ gb122)); have n3_ := Aside0.mk ((by rw [hg]; exact (below_size (by repeat (first | (with_reducible first | exact HB.out | apply below_alloc | apply pw_below_drewN | apply below_drew1) | exact HB.out))) : w.heap.size ≤ gb122)); clear HB; have HB := n0_; have BK122 := n1_; have GW122 := n2_; have GE122 := n3_; clear n0_ n1_ n2_ n3_; clear hb hbox hg; obtain ⟨hcz14_0, hcz14_1, hcz14_2, hcz14_3, hcz14_4, hcz14_5, hcz14_6, hcz14_7, hcz14_8⟩ := MBlk.c9 BK122.out; obtain ⟨hfz14_0, hfz14_1, hfz14_2, hfz14_3, hfz14_4, hfz14_5, hfz14_6, hfz14_7, hfz14_8⟩ := MBlk.f9 BK122.out) | (go_at_call 40; (with_reducible refine (ether_isFour.calls a0_2 a0_3 a0_4 false _ A5.out).mono ?_); rintro e w15 ⟨rfl, hb⟩; have n0_ := Aside0.mk (blk_below (g := gb122) (o := .cells #[.int .i64 a0_0, .int .u64 a0_1, .bool a0_2, .int .u64 a0_3, .int .u64 a0_4, .int .u64 a0_5, .bool a0_6, .int .u64 a0_7, .int .u64 a0_8] 29 (0, 0)) (by (with_reducible repeat (first | refine blk_drewN ?_ _ | refine blk_drew ?_ | refine blk_alloc ?_ _)); exact BK122.out) hb); have n1_ := Aside0.mk (below_step (by repeat (first | (with_reducible first | exact HB.out | apply below_alloc | apply pw_below_drewN | apply below_drew1 | refine below_set ?_ GE122.out) | exact HB.out)) hb); clear BK122; clear HB; have BK122 := n0_; have HB := n1_; clear n0_ n1_; (try clear hb); (try clear hb2); (try clear hk); (try clear hi)))
     go_ret
     exact ⟨by first | rfl | (simp [errW_none, errW_some] <;> rfl) | (simp [*, errW_none, errW_some] <;> rfl), by repeat (first | (with_reducible first | exact HB.out | apply below_alloc | apply pw_below_drewN | apply below_drew1 | refine below_set ?_ GE122.out) | exact HB.out)⟩
   ·
    rw [if_neg c4] at H
    have c4b0 : decide (a0_5 < 281474976710656) = false := decide_eq_false c4
    clear c4
    obtain rfl := Option.some.inj H
    go_enter Tryd.func30, Tryd.ntmps30
    go_wp2_with (first | ((with_reducible refine gate_dst (N := 1) rfl ?_); refine box_event ?hg (N := 1) ?hd (cs := #[.int .i64 a0_0, .int .u64 a0_1, .bool a0_2, .int .u64 a0_3, .int .u64 a0_4, .int .u64 a0_5, .bool a0_6, .int .u64 a0_7, .int .u64 a0_8]) (t := 29) ?hr ?_; (case hd => rfl); (case hg => rfl); (case hr => first | (go_simp; done) | (go_simp; rfl)); intro gb122 hg w16 hbox hb; have n0_ := Aside0.mk (below_step (by repeat (first | (with_reducible first | exact HB.out | apply below_alloc | apply pw_below_drewN | apply below_drew1) | exact HB.out)) hb); have n1_ := Aside0.mk (hbox); have n2_ := Aside0.mk ((by rw [hg]; exact (below_size (by repeat (first | (with_reducible first | exact HB.out | apply below_alloc | apply pw_below_drewN | apply below_drew1) | exact HB.out))) : w.heap.size ≤ gb122)); have n3_ := Aside0.mk ((by rw [hg]; exact (below_size (by repeat (first | (with_reducible first | exact HB.out | apply below_alloc | apply pw_below_drewN | apply below_drew1) | exact HB.out))) : w.heap.size ≤ gb122)); clear HB; have HB := n0_; have BK122 := n1_; have GW122 := n2_; have GE122 := n3_; clear n0_ n1_ n2_ n3_; clear hb hbox hg; obtain ⟨hcz17_0, hcz17_1, hcz17_2, hcz17_3, hcz17_4, hcz17_5, hcz17_6, hcz17_7, hcz17_8⟩ := MBlk.c9 BK122.out; obtain ⟨hfz17_0, hfz17_1, hfz17_2, hfz17_3, hfz17_4, hfz17_5, hfz17_6, hfz17_7, hfz17_8⟩ := MBlk.f9 BK122.out))
    go_ret
    exact ⟨by first | rfl | (simp [errW_none, errW_some] <;> rfl) | (simp [*, errW_none, errW_some] <;> rfl), by repeat (first | (with_reducible first | exact HB.out | apply below_alloc | apply pw_below_drewN | apply below_drew1 | refine below_set ?_ GE122.out) | exact HB.out)⟩
  ·
   rw [if_neg c3] at H
   have c3b0 : decide (a0_1 < 281474976710656) = false := decide_eq_false c3
   clear c3
   obtain rfl := Option.some.inj H
   go_enter Tryd.func30, Tryd.ntmps30
   go_wp2_with (first | ((with_reducible refine gate_dst (N := 1) rfl ?_); refine box_event ?hg (N := 1) ?hd (cs := #[.int .i64 a0_0, .int .u64 a0_1, .bool a0_2, .int .u64 a0_3, .int .u64 a0_4, .int .u64 a0_5, .bool a0_6, .int .u64 a0_7, .int .u64 a0_8]) (t := 29) ?hr ?_; (case hd => rfl); (case hg => rfl); (case hr => first | (go_simp; done) | (go_simp; rfl)); intro gb122 hg w18 hbox hb; have n0_ := Aside0.mk (below_step (by repeat (first | (with_reducible first | exact HB.out | apply below_alloc | apply pw_below_drewN | apply below_drew1) | exact HB.out)) hb); have n1_ := Aside0.mk (hbox); have n2_ := Aside0.mk ((by rw [hg]; exact (below_size (by repeat (first | (with_reducible first | exact HB.out | apply below_alloc | apply pw_below_drewN | apply below_drew1) | exact HB.out))) : w.heap.size ≤ gb122)); have n3_ := Aside0.mk ((by rw [hg]; exact (below_size (by repeat (first | (with_reducible first | exact HB.out | apply below_alloc | apply pw_below_drewN | apply below_drew1) | exact HB.out))) : w.heap.size ≤ gb122)); clear HB; have HB := n0_; have BK122 := n1_; have GW122 := n2_; have GE122 := n3_; clear n0_ n1_ n2_ n3_; clear hb hbox hg; obtain ⟨hcz19_0, hcz19_1, hcz19_2, hcz19_3, hcz19_4, hcz19_5, hcz19_6, hcz19_7, hcz19_8⟩ := MBlk.c9 BK122.out; obtain ⟨hfz19_0, hfz19_1, hfz19_2, hfz19_3, hfz19_4, hfz19_5, hfz19_6, hfz19_7, hfz19_8⟩ := MBlk.f9 BK122.out))
   go_ret
   exact ⟨by first | rfl | (simp [errW_none, errW_some] <;> rfl) | (simp [*, errW_none, errW_some] <;> rfl), by repeat (first | (with_reducible first | exact HB.out | apply below_alloc | apply pw_below_drewN | apply below_drew1 | refine below_set ?_ GE122.out) | exact HB.out)⟩
 ·
  rw [if_neg c2] at H
  have c2b0 : (a0_0 == 1) = false := beq_eq_false_iff_ne.mpr c2
  have c2b1 : (a0_0 != 1) = true := bne_iff_ne.mpr c2
  by_cases c20 : a0_0 = 2
  ·
   rw [if_pos c20] at H
   have c20b0 : (a0_0 == 2) = true := beq_iff_eq.mpr c20
   have c20b1 : (a0_0 != 2) = false := bne_eq_false_iff_eq.mpr c20
   clear c20
   by_cases c21 : a0_1 < 281474976710656
   ·
    rw [if_pos c21] at H
    have c21b0 : decide (a0_1 < 281474976710656) = true := decide_eq_true c21
    clear c21
    by_cases c22 : a0_5 < 281474976710656
    ·
     rw [if_pos c22] at H
     have c22b0 : decide (a0_5 < 281474976710656) = true := decide_eq_true c22
     clear c22
     replace H := Option.bind_eq_some_iff.mp H
     obtain ⟨t125, A230, H⟩ := H
     have A23 := Aside0.mk A230
     clear A230
     by_cases c24 : t125 = true
     ·
      subst c24
      rw [if_pos rfl] at H
      replace H := Option.bind_eq_some_iff.mp H
      obtain ⟨t126, A250, H⟩ := H
      have A25 := Aside0.mk A250
      clear A250
      obtain rfl := Option.some.inj H
      go_enter Tryd.func30, Tryd.ntmps30
      go_wp2_with (first | ((with_reducible refine gate_dst (N := 1) rfl ?_); refine box_event ?hg (N := 1) ?hd (cs := #[.int .i64 a0_0, .int .u64 a0_1, .bool a0_2, .int .u64 a0_3, .int .u64 a0_4, .int .u64 a0_5, .bool a0_6, .int .u64 a0_7, .int .u64 a0_8]) (t := 29) ?hr ?_; (case hd => rfl); (case hg => rfl); (case hr => first | (go_simp; done) | (go_simp; rfl)); intro gb122 hg w26 hbox hb; have n0_ := Aside0.mk (below_step (by repeat (first | (with_reducible first | exact HB.out | apply below_alloc | apply pw_below_drewN | apply below_drew1) | exact HB.out)) hb); have n1_ := Aside0.mk (hbox); have n2_ := Aside0.mk ((by rw [hg]; exact (below_size (by repeat (first | (with_reducible first | exact HB.out | apply below_alloc | apply pw_below_drewN | apply below_drew1) | exact HB.out))) : w.heap.size ≤ gb122)); have n3_ := Aside0.mk ((by rw [hg]; exact (below_size (by repeat (first | (with_reducible first | exact HB.out | apply below_alloc | apply pw_below_drewN | apply below_drew1) | exact HB.out))) : w.heap.size ≤ gb122)); clear HB; have HB := n0_; have BK122 := n1_; have GW122 := n2_; have GE122 := n3_; clear n0_ n1_ n2_ n3_; clear hb hbox hg; obtain ⟨hcz27_0, hcz27_1, hcz27_2, hcz27_3, hcz27_4, hcz27_5, hcz27_6, hcz27_7, hcz27_8⟩ := MBlk.c9 BK122.out; obtain ⟨hfz27_0, hfz27_1, hfz27_2, hfz27_3, hfz27_4, hfz27_5, hfz27_6, hfz27_7, hfz27_8⟩ := MBlk.f9 BK122.out) | (go_at_call 40; (with_reducible refine (ether_isFour.calls a0_2 a0_3 a0_4 true _ A23.out).mono ?_); rintro e w28 ⟨rfl, hb⟩; have n0_ := Aside0.mk (blk_below (g := gb122) (o := .cells #[.int .i64 a0_0, .int .u64 a0_1, .bool a0_2, .int .u64 a0_3, .int .u64 a0_4, .int .u64 a0_5, .bool a0_6, .int .u64 a0_7, .int .u64 a0_8] 29 (0, 0)) (by (with_reducible repeat (first | refine blk_drewN ?_ _ | refine blk_drew ?_ | refine blk_alloc ?_ _)); exact BK122.out) hb); have n1_ := Aside0.mk (below_step (by repeat (first | (with_reducible first | exact HB.out | apply below_alloc | apply pw_below_drewN | apply below_drew1 | refine below_set ?_ GE122.out) | exact HB.out)) hb); clear BK122; clear HB; have BK122 := n0_; have HB := n1_; clear n0_ n1_; (try clear hb); (try clear hb2); (try clear hk); (try clear hi); obtain ⟨hcz29_0, hcz29_1, hcz29_2, hcz29_3, hcz29_4, hcz29_5, hcz29_6, hcz29_7, hcz29_8⟩ := MBlk.c9 BK122.out; obtain ⟨hfz29_0, hfz29_1, hfz29_2, hfz29_3, hfz29_4, hfz29_5, hfz29_6, hfz29_7, hfz29_8⟩ := MBlk.f9 BK122.out) | (go_at_call 40; (with_reducible refine (ether_isFour.calls a0_6 a0_7 a0_8 t126 _ A25.out).mono ?_); rintro e w30 ⟨rfl, hb⟩; have n0_ := Aside0.mk (blk_below (g := gb122) (o := .cells #[.int .i64 a0_0, .int .u64 a0_1, .bool a0_2, .int .u64 a0_3, .int .u64 a0_4, .int .u64 a0_5, .bool a0_6, .int .u64 a0_7, .int .u64 a0_8] 29 (0, 0)) (by (with_reducible repeat (first | refine blk_drewN ?_ _ | refine blk_drew ?_ | refine blk_alloc ?_ _)); exact BK122.out) hb); have n1_ := Aside0.mk (below_step (by repeat (first | (with_reducible first | exact HB.out | apply below_alloc | apply pw_below_drewN | apply below_drew1 | refine below_set ?_ GE122.out) | exact HB.out)) hb); clear BK122; clear HB; have BK122 := n0_; have HB := n1_; clear n0_ n1_; (try clear hb); (try clear hb2); (try clear hk); (try clear hi)))
      go_ret
      exact ⟨by first | rfl | (simp [errW_none, errW_some] <;> rfl) | (simp [*, errW_none, errW_some] <;> rfl), by repeat (first | (with_reducible first | exact HB.out | apply below_alloc | apply pw_below_drewN | apply below_drew1 | refine below_set ?_ GE122.out) | exact HB.out)⟩
     ·
      replace c24 := Bool.eq_false_iff.mpr c24
      subst c24
      rw [if_neg (show ¬ (false = true) by decide)] at H
      obtain rfl := Option.some.inj H
      go_enter Tryd.func30, Tryd.ntmps30
      go_wp2_with (first | ((with_reducible refine gate_dst (N := 1) rfl ?_); refine box_event ?hg (N := 1) ?hd (cs := #[.int .i64 a0_0, .int .u64 a0_1, .bool a0_2, .int .u64 a0_3, .int .u64 a0_4, .int .u64 a0_5, .bool a0_6, .int .u64 a0_7, .int .u64 a0_8]) (t := 29) ?hr ?_; (case hd => rfl); (case hg => rfl); (case hr => first | (go_simp; done) | (go_simp; rfl)); intro gb122 hg w31 hbox hb; have n0_ := Aside0.mk (below_step (by repeat (first | (with_reducible first | exact HB.out | apply below_alloc | apply pw_below_drewN | apply below_drew1) | exact HB.out)) hb); have n1_ := Aside0.mk (hbox); have n2_ := Aside0.mk ((by rw [hg]; exact (below_size (by repeat (first | (with_reducible first | exact HB.out | apply below_alloc | apply pw_below_drewN | apply below_drew1) | exact HB.out))) : w.heap.size ≤ gb122)); have n3_ := Aside0.mk ((by rw [hg]; exact (below_size (by repeat (first | (with_reducible first | exact HB.out | apply below_alloc | apply pw_below_drewN | apply below_drew1) | exact HB.out))) : w.heap.size ≤ gb122)); clear HB; have HB := n0_; have BK122 := n1_; have GW122 := n2_; have GE122 := n3_; clear n0_ n1_ n2_ n3_; clear hb hbox hg; obtain ⟨hcz32_0, hcz32_1, hcz32_2, hcz32_3, hcz32_4, hcz32_5, hcz32_6, hcz32_7, hcz32_8⟩ := MBlk.c9 BK122.out; obtain ⟨hfz32_0, hfz32_1, hfz32_2, hfz32_3, hfz32_4, hfz32_5, hfz32_6, hfz32_7, hfz32_8⟩ := MBlk.f9 BK122.out) | (go_at_call 40; (with_reducible refine (ether_isFour.calls a0_2 a0_3 a0_4 false _ A23.out).mono ?_); rintro e w33 ⟨rfl, hb⟩; have n0_ := Aside0.mk (blk_below (g := gb122) (o := .cells #[.int .i64 a0_0, .int .u64 a0_1, .bool a0_2, .int .u64 a0_3, .int .u64 a0_4, .int .u64 a0_5, .bool a0_6, .int .u64 a0_7, .int .u64 a0_8] 29 (0, 0)) (by (with_reducible repeat (first | refine blk_drewN ?_ _ | refine blk_drew ?_ | refine blk_alloc ?_ _)); exact BK122.out) hb); have n1_ := Aside0.mk (below_step (by repeat (first | (with_reducible first | exact HB.out | apply below_alloc | apply pw_below_drewN | apply below_drew1 | refine below_set ?_ GE122.out) | exact HB.out)) hb); clear BK122; clear HB; have BK122 := n0_; have HB := n1_; clear n0_ n1_; (try clear hb); (try clear hb2); (try clear hk); (try clear hi)))
      go_ret
      exact ⟨by first | rfl | (simp [errW_none, errW_some] <;> rfl) | (simp [*, errW_none, errW_some] <;> rfl), by repeat (first | (with_reducible first | exact HB.out | apply below_alloc | apply pw_below_drewN | apply below_drew1 | refine below_set ?_ GE122.out) | exact HB.out)⟩
    ·
     rw [if_neg c22] at H
     have c22b0 : decide (a0_5 < 281474976710656) = false := decide_eq_false c22
     clear c22
     obtain rfl := Option.some.inj H
     go_enter Tryd.func30, Tryd.ntmps30
     go_wp2_with (first | ((with_reducible refine gate_dst (N := 1) rfl ?_); refine box_event ?hg (N := 1) ?hd (cs := #[.int .i64 a0_0, .int .u64 a0_1, .bool a0_2, .int .u64 a0_3, .int .u64 a0_4, .int .u64 a0_5, .bool a0_6, .int .u64 a0_7, .int .u64 a0_8]) (t := 29) ?hr ?_; (case hd => rfl); (case hg => rfl); (case hr => first | (go_simp; done) | (go_simp; rfl)); intro gb122 hg w34 hbox hb; have n0_ := Aside0.mk (below_step (by repeat (first | (with_reducible first | exact HB.out | apply below_alloc | apply pw_below_drewN | apply below_drew1) | exact HB.out)) hb); have n1_ := Aside0.mk (hbox); have n2_ := Aside0.mk ((by rw [hg]; exact (below_size (by repeat (first | (with_reducible first | exact HB.out | apply below_alloc | apply pw_below_drewN | apply below_drew1) | exact HB.out))) : w.heap.size ≤ gb122)); have n3_ := Aside0.mk ((by rw [hg]; exact (below_size (by repeat (first | (with_reducible first | exact HB.out | apply below_alloc | apply pw_below_drewN | apply below_drew1) | exact HB.out))) : w.heap.size ≤ gb122)); clear HB; have HB := n0_; have BK122 := n1_; have GW122 := n2_; have GE122 := n3_; clear n0_ n1_ n2_ n3_; clear hb hbox hg; obtain ⟨hcz35_0, hcz35_1, hcz35_2, hcz35_3, hcz35_4, hcz35_5, hcz35_6, hcz35_7, hcz35_8⟩ := MBlk.c9 BK122.out; obtain ⟨hfz35_0, hfz35_1, hfz35_2, hfz35_3, hfz35_4, hfz35_5, hfz35_6, hfz35_7, hfz35_8⟩ := MBlk.f9 BK122.out))
     go_ret
     exact ⟨by first | rfl | (simp [errW_none, errW_some] <;> rfl) | (simp [*, errW_none, errW_some] <;> rfl), by repeat (first | (with_reducible first | exact HB.out | apply below_alloc | apply pw_below_drewN | apply below_drew1 | refine below_set ?_ GE122.out) | exact HB.out)⟩
   ·
    rw [if_neg c21] at H
    have c21b0 : decide (a0_1 < 281474976710656) = false := decide_eq_false c21
    clear c21
    obtain rfl := Option.some.inj H
    go_enter Tryd.func30, Tryd.ntmps30
    go_wp2_with (first | ((with_reducible refine gate_dst (N := 1) rfl ?_); refine box_event ?hg (N := 1) ?hd (cs := #[.int .i64 a0_0, .int .u64 a0_1, .bool a0_2, .int .u64 a0_3, .int .u64 a0_4, .int .u64 a0_5, .bool a0_6, .int .u64 a0_7, .int .u64 a0_8]) (t := 29) ?hr ?_; (case hd => rfl); (case hg => rfl); (case hr => first | (go_simp; done) | (go_simp; rfl)); intro gb122 hg w36 hbox hb; have n0_ := Aside0.mk (below_step (by repeat (first | (with_reducible first | exact HB.out | apply below_alloc | apply pw_below_drewN | apply below_drew1) | exact HB.out)) hb); have n1_ := Aside0.mk (hbox); have n2_ := Aside0.mk ((by rw [hg]; exact (below_size (by repeat (first | (with_reducible first | exact HB.out | apply below_alloc | apply pw_below_drewN | apply below_drew1) | exact HB.out))) : w.heap.size ≤ gb122)); have n3_ := Aside0.mk ((by rw [hg]; exact (below_size (by repeat (first | (with_reducible first | exact HB.out | apply below_alloc | apply pw_below_drewN | apply below_drew1) | exact HB.out))) : w.heap.size ≤ gb122)); clear HB; have HB := n0_; have BK122 := n1_; have GW122 := n2_; have GE122 := n3_; clear n0_ n1_ n2_ n3_; clear hb hbox hg; obtain ⟨hcz37_0, hcz37_1, hcz37_2, hcz37_3, hcz37_4, hcz37_5, hcz37_6, hcz37_7, hcz37_8⟩ := MBlk.c9 BK122.out; obtain ⟨hfz37_0, hfz37_1, hfz37_2, hfz37_3, hfz37_4, hfz37_5, hfz37_6, hfz37_7, hfz37_8⟩ := MBlk.f9 BK122.out))
    go_ret
    exact ⟨by first | rfl | (simp [errW_none, errW_some] <;> rfl) | (simp [*, errW_none, errW_some] <;> rfl), by repeat (first | (with_reducible first | exact HB.out | apply below_alloc | apply pw_below_drewN | apply below_drew1 | refine below_set ?_ GE122.out) | exact HB.out)⟩
  ·
   rw [if_neg c20] at H
   have c20b0 : (a0_0 == 2) = false := beq_eq_false_iff_ne.mpr c20
   have c20b1 : (a0_0 != 2) = true := bne_iff_ne.mpr c20
   obtain rfl := Option.some.inj H
   go_enter Tryd.func30, Tryd.ntmps30
   go_wp2_with (first | ((with_reducible refine gate_dst (N := 1) rfl ?_); refine box_event ?hg (N := 1) ?hd (cs := #[.int .i64 a0_0, .int .u64 a0_1, .bool a0_2, .int .u64 a0_3, .int .u64 a0_4, .int .u64 a0_5, .bool a0_6, .int .u64 a0_7, .int .u64 a0_8]) (t := 29) ?hr ?_; (case hd => rfl); (case hg => rfl); (case hr => first | (go_simp; done) | (go_simp; rfl)); intro gb122 hg w38 hbox hb; have n0_ := Aside0.mk (below_step (by repeat (first | (with_reducible first | exact HB.out | apply below_alloc | apply pw_below_drewN | apply below_drew1) | exact HB.out)) hb); have n1_ := Aside0.mk (hbox); have n2_ := Aside0.mk ((by rw [hg]; exact (below_size (by repeat (first | (with_reducible first | exact HB.out | apply below_alloc | apply pw_below_drewN | apply below_drew1) | exact HB.out))) : w.heap.size ≤ gb122)); have n3_ := Aside0.mk ((by rw [hg]; exact (below_size (by repeat (first | (with_reducible first | exact HB.out | apply below_alloc | apply pw_below_drewN | apply below_drew1) | exact HB.out))) : w.heap.size ≤ gb122)); clear HB; have HB := n0_; have BK122 := n1_; have GW122 := n2_; have GE122 := n3_; clear n0_ n1_ n2_ n3_; clear hb hbox hg; obtain ⟨hcz39_0, hcz39_1, hcz39_2, hcz39_3, hcz39_4, hcz39_5, hcz39_6, hcz39_7, hcz39_8⟩ := MBlk.c9 BK122.out; obtain ⟨hfz39_0, hfz39_1, hfz39_2, hfz39_3, hfz39_4, hfz39_5, hfz39_6, hfz39_7, hfz39_8⟩ := MBlk.f9 BK122.out))
   go_ret
   exact ⟨by first | rfl | (simp [errW_none, errW_some] <;> rfl) | (simp [*, errW_none, errW_some] <;> rfl), by repeat (first | (with_reducible first | exact HB.out | apply below_alloc | apply pw_below_drewN | apply below_drew1 | refine below_set ?_ GE122.out) | exact HB.out)⟩

/-! ### ether_LayArp: function 13 (by hand) -/
/-- The table of widths lies in its variable. -/
def ether_Glob (w : World) : Prop := w.var? Tryd.prog "crossway/ether.fields" = some #[.int .i64 2, .int .u64 1, .int .i64 2, .int .u64 2048, .int .i64 1, .int .u64 6, .int .i64 1, .int .u64 4, .int .i64 2, .int .u64 0, .int .i64 6, .int .u64 0, .int .i64 4, .int .u64 0, .int .i64 6, .int .u64 0, .int .i64 4, .int .u64 0]
theorem ether_Glob_below {w w' : World} (h : ether_Glob w) (hb : Below w.heap.size w w') : ether_Glob w' := by
 have hg : Tryd.prog.globalNamed "crossway/ether.fields" = some 0 := by kernel_rfl
 have h0 := h
 unfold ether_Glob World.var? at h0
 simp only [hg, Option.bind_some] at h0
 have hlt : 0 < w.heap.size := by
  rcases Nat.eq_zero_or_pos w.heap.size with e | e
  · rw [Array.getElem?_eq_none (by omega)] at h0; cases h0
  · exact e
 exact var?_below hb hg hlt h
theorem ether_Glob_row {w : World} (h : ether_Glob w) : ∃ t fr, w.heap[0]? = some (.cells #[.int .i64 2, .int .u64 1, .int .i64 2, .int .u64 2048, .int .i64 1, .int .u64 6, .int .i64 1, .int .u64 4, .int .i64 2, .int .u64 0, .int .i64 6, .int .u64 0, .int .i64 4, .int .u64 0, .int .i64 6, .int .u64 0, .int .i64 4, .int .u64 0] t fr) := by
 have hg : Tryd.prog.globalNamed "crossway/ether.fields" = some 0 := by kernel_rfl
 unfold ether_Glob World.var? at h
 simp only [hg, Option.bind_some] at h
 split at h
 · rename_i cs t fr hc
   injection h with h
   subst h
   exact ⟨t, fr, hc⟩
 · cases h
/-- Numbers of some widths, one behind the other. -/
def ether_LayArp.cat : List (Nat × Int) → List Int
 | [] => []
 | x :: l => MBe.be x.2 x.1 ++ ether_LayArp.cat l
theorem ether_LayArp.cat_append : ∀ (a b : List (Nat × Int)), ether_LayArp.cat (a ++ b) = ether_LayArp.cat a ++ ether_LayArp.cat b
 | [], b => rfl
 | x :: a, b => by rw [List.cons_append, ether_LayArp.cat, ether_LayArp.cat, ether_LayArp.cat_append a b, List.append_assoc]
/-- The numbers of a message. -/
def ether_LayArp.ns (op fm lo1 tm lo2 : Int) : List (Nat × Int) := [(2, 1), (2, 2048), (1, 6), (1, 4), (2, op), (6, fm), (4, lo1), (6, tm), (4, lo2)]
theorem ether_LayArp.cat_length (op fm lo1 tm lo2 : Int) : (ether_LayArp.cat (ether_LayArp.ns op fm lo1 tm lo2)).length = 28 := by
 simp [ether_LayArp.ns, ether_LayArp.cat, MBe.be_length]
def ether_LayArp.f (op fm : Int) (b1 : Bool) (h1 lo1 tm : Int) (b2 : Bool) (h2 lo2 : Int) : Option (ByteArray × Int) :=
 (ether_isArp.f op fm b1 h1 lo1 tm b2 h2 lo2).bind fun y => if y = false then some (⟨#[]⟩, 40) else if ¬ ((0 ≤ op ∧ op ≤ 65535) ∧ (0 ≤ fm ∧ fm ≤ 281474976710655) ∧ (0 ≤ lo1 ∧ lo1 ≤ 4294967295) ∧ (0 ≤ tm ∧ tm ≤ 281474976710655) ∧ (0 ≤ lo2 ∧ lo2 ≤ 4294967295)) then none else some (strOfNums (ether_LayArp.cat (ether_LayArp.ns op fm lo1 tm lo2)), 0)
theorem ether_LayArp.put {l : List Int} {n : Int} {k : Int} {m : Nat} (hk : octet_Put.wid k = m) (hl : l.length ≤ 140737488355200) : octet_Put.f l k n = some (l ++ MBe.be n m) := by
 unfold octet_Put.f; rw [if_pos hl, hk]
theorem ether_LayArp.wu {n : Int} (h0 : 0 ≤ n) (h1 : n < 18446744073709551616) : IntKind.u64.wrap n = n := by
 simp only [IntKind.wrap, IntKind.signed, IntKind.bits, Bool.false_and, Bool.false_eq_true, if_false]; omega
set_option maxHeartbeats 4000000 in
set_option maxRecDepth 100000 in
theorem ether_LayArp.good (op fm : Int) (b1 : Bool) (h1 lo1 tm : Int) (b2 : Bool) (h2 lo2 : Int) (w : World) (hg : ether_Glob w) (hy : ether_isArp.f op fm b1 h1 lo1 tm b2 h2 lo2 = some true) (hr : (0 ≤ op ∧ op ≤ 65535) ∧ (0 ≤ fm ∧ fm ≤ 281474976710655) ∧ (0 ≤ lo1 ∧ lo1 ≤ 4294967295) ∧ (0 ≤ tm ∧ tm ≤ 281474976710655) ∧ (0 ≤ lo2 ∧ lo2 ≤ 4294967295)) :
  Calls Tryd.prog 13 #[.agg #[.int .i64 op, .int .u64 fm, .bool b1, .int .u64 h1, .int .u64 lo1, .int .u64 tm, .bool b2, .int .u64 h2, .int .u64 lo2]] w fun e w' => e = .returned (.tuple #[.string (strOfNums (ether_LayArp.cat (ether_LayArp.ns op fm lo1 tm lo2))), .int .i64 0]) ∧ Below w.heap.size w w' := by
 have HGL := Aside0.mk hg; have HY := Aside0.mk hy
 clear hg hy
 obtain ⟨⟨r0, r1⟩, ⟨r2, r3⟩, ⟨r4, r5⟩, ⟨r6, r7⟩, ⟨r8, r9⟩⟩ := hr
 have hu29 := Tryd.underlying29
 have hu56 := Tryd.underlying56
 have hu54 := Tryd.underlying54
 have hu57 := Tryd.underlying57
 have hu27 := Tryd.underlying27
 have i0 : ∀ w, (Instr.index 57 (.agg #[.int .i64 2, .int .u64 1, .int .i64 2, .int .u64 2048, .int .i64 1, .int .u64 6, .int .i64 1, .int .u64 4, .int .i64 2, .int .u64 0, .int .i64 6, .int .u64 0, .int .i64 4, .int .u64 0, .int .i64 6, .int .u64 0, .int .i64 4, .int .u64 0]) (.int .i64 0)).run Tryd.prog w = .ok (.agg #[.int .i64 2, .int .u64 1]) w := fun _ => by kernel_rfl
 have i1 : ∀ w, (Instr.index 57 (.agg #[.int .i64 2, .int .u64 1, .int .i64 2, .int .u64 2048, .int .i64 1, .int .u64 6, .int .i64 1, .int .u64 4, .int .i64 2, .int .u64 0, .int .i64 6, .int .u64 0, .int .i64 4, .int .u64 0, .int .i64 6, .int .u64 0, .int .i64 4, .int .u64 0]) (.int .i64 1)).run Tryd.prog w = .ok (.agg #[.int .i64 2, .int .u64 2048]) w := fun _ => by kernel_rfl
 have i2 : ∀ w, (Instr.index 57 (.agg #[.int .i64 2, .int .u64 1, .int .i64 2, .int .u64 2048, .int .i64 1, .int .u64 6, .int .i64 1, .int .u64 4, .int .i64 2, .int .u64 0, .int .i64 6, .int .u64 0, .int .i64 4, .int .u64 0, .int .i64 6, .int .u64 0, .int .i64 4, .int .u64 0]) (.int .i64 2)).run Tryd.prog w = .ok (.agg #[.int .i64 1, .int .u64 6]) w := fun _ => by kernel_rfl
 have i3 : ∀ w, (Instr.index 57 (.agg #[.int .i64 2, .int .u64 1, .int .i64 2, .int .u64 2048, .int .i64 1, .int .u64 6, .int .i64 1, .int .u64 4, .int .i64 2, .int .u64 0, .int .i64 6, .int .u64 0, .int .i64 4, .int .u64 0, .int .i64 6, .int .u64 0, .int .i64 4, .int .u64 0]) (.int .i64 3)).run Tryd.prog w = .ok (.agg #[.int .i64 1, .int .u64 4]) w := fun _ => by kernel_rfl
 have i4 : ∀ w, (Instr.index 57 (.agg #[.int .i64 2, .int .u64 1, .int .i64 2, .int .u64 2048, .int .i64 1, .int .u64 6, .int .i64 1, .int .u64 4, .int .i64 2, .int .u64 0, .int .i64 6, .int .u64 0, .int .i64 4, .int .u64 0, .int .i64 6, .int .u64 0, .int .i64 4, .int .u64 0]) (.int .i64 4)).run Tryd.prog w = .ok (.agg #[.int .i64 2, .int .u64 0]) w := fun _ => by kernel_rfl
 have i5 : ∀ w, (Instr.index 57 (.agg #[.int .i64 2, .int .u64 1, .int .i64 2, .int .u64 2048, .int .i64 1, .int .u64 6, .int .i64 1, .int .u64 4, .int .i64 2, .int .u64 0, .int .i64 6, .int .u64 0, .int .i64 4, .int .u64 0, .int .i64 6, .int .u64 0, .int .i64 4, .int .u64 0]) (.int .i64 5)).run Tryd.prog w = .ok (.agg #[.int .i64 6, .int .u64 0]) w := fun _ => by kernel_rfl
 have i6 : ∀ w, (Instr.index 57 (.agg #[.int .i64 2, .int .u64 1, .int .i64 2, .int .u64 2048, .int .i64 1, .int .u64 6, .int .i64 1, .int .u64 4, .int .i64 2, .int .u64 0, .int .i64 6, .int .u64 0, .int .i64 4, .int .u64 0, .int .i64 6, .int .u64 0, .int .i64 4, .int .u64 0]) (.int .i64 6)).run Tryd.prog w = .ok (.agg #[.int .i64 4, .int .u64 0]) w := fun _ => by kernel_rfl
 have i7 : ∀ w, (Instr.index 57 (.agg #[.int .i64 2, .int .u64 1, .int .i64 2, .int .u64 2048, .int .i64 1, .int .u64 6, .int .i64 1, .int .u64 4, .int .i64 2, .int .u64 0, .int .i64 6, .int .u64 0, .int .i64 4, .int .u64 0, .int .i64 6, .int .u64 0, .int .i64 4, .int .u64 0]) (.int .i64 7)).run Tryd.prog w = .ok (.agg #[.int .i64 6, .int .u64 0]) w := fun _ => by kernel_rfl
 have i8 : ∀ w, (Instr.index 57 (.agg #[.int .i64 2, .int .u64 1, .int .i64 2, .int .u64 2048, .int .i64 1, .int .u64 6, .int .i64 1, .int .u64 4, .int .i64 2, .int .u64 0, .int .i64 6, .int .u64 0, .int .i64 4, .int .u64 0, .int .i64 6, .int .u64 0, .int .i64 4, .int .u64 0]) (.int .i64 8)).run Tryd.prog w = .ok (.agg #[.int .i64 4, .int .u64 0]) w := fun _ => by kernel_rfl
 have q4 : IntKind.u64.wrap op = op := ether_LayArp.wu (by omega) (by omega)
 have q5 : IntKind.u64.wrap fm = fm := ether_LayArp.wu (by omega) (by omega)
 have q6 : IntKind.u64.wrap lo1 = lo1 := ether_LayArp.wu (by omega) (by omega)
 have q7 : IntKind.u64.wrap tm = tm := ether_LayArp.wu (by omega) (by omega)
 have q8 : IntKind.u64.wrap lo2 = lo2 := ether_LayArp.wu (by omega) (by omega)
 obtain ⟨wb, hwb⟩ : ∃ wb, w.alloc (.cells #[.int .i64 op, .int .u64 fm, .bool b1, .int .u64 h1, .int .u64 lo1, .int .u64 tm, .bool b2, .int .u64 h2, .int .u64 lo2] 29) = wb := ⟨_, rfl⟩
 have HBW := Aside0.mk (show Below w.heap.size w wb by rw [← hwb]; exact below_alloc (Below.refl _ _) _)
 have HX := Aside0.mk (show wb.heap[w.heap.size]? = some (.cells #[.int .i64 op, .int .u64 fm, .bool b1, .int .u64 h1, .int .u64 lo1, .int .u64 tm, .bool b2, .int .u64 h2, .int .u64 lo2] 29 (0, 0)) by rw [← hwb]; exact heap_alloc_new _ _)
 obtain ⟨x0, x1, x2, x3, x4, x5, x6, x7, x8⟩ := MBlk.c9 HX.out
 have HGB := Aside0.mk (ether_Glob_below HGL.out HBW.out)
 go_enter Tryd.func13, Tryd.ntmps13
 go_wp2_with fail
 refine (ether_isArp.calls _ _ _ _ _ _ _ _ _ _ _ HY.out).mono ?_
 rintro e w2 ⟨rfl, hb⟩
 clear x0 x1 x2 x3 x4 x5 x6 x7 x8 hwb
 have HX2 := Aside0.mk (MStr.block_below HX.out hb)
 have HG2 := Aside0.mk (ether_Glob_below HGB.out hb)
 have HB2 := Aside0.mk (below_step HBW.out hb)
 clear hb HX HGB HBW
 obtain ⟨x0, x1, x2, x3, x4, x5, x6, x7, x8⟩ := MBlk.c9 HX2.out
 go_upto_region 5 with (fail)
 obtain ⟨W3, hW3⟩ : ∃ W3, w2.alloc (.cells #[.int .u64 0, .int .u64 0, .int .u64 0, .int .u64 0, .int .u64 op, .int .u64 fm, .int .u64 lo1, .int .u64 tm, .int .u64 lo2] 54) = W3 := ⟨_, rfl⟩
 rw [hW3]
 have hb3 : Below w2.heap.size w2 W3 := by rw [← hW3]; exact below_alloc (Below.refl _ _) _
 have HN := Aside0.mk (show W3.heap[w2.heap.size]? = some (.cells #[.int .u64 0, .int .u64 0, .int .u64 0, .int .u64 0, .int .u64 op, .int .u64 fm, .int .u64 lo1, .int .u64 tm, .int .u64 lo2] 54 (0, 0)) by rw [← hW3]; exact heap_alloc_new _ _)
 have HG3 := Aside0.mk (ether_Glob_below HG2.out hb3)
 have HB3 := Aside0.mk (below_step HB2.out hb3)
 clear hb3 hW3 x0 x1 x2 x3 x4 x5 x6 x7 x8 HX2 HG2 HB2
 obtain ⟨tt, fr, hrow⟩ := ether_Glob_row HG3.out
 go_wp2_with (refine wpList_load_row rfl 57 _ rfl 0 rfl tt _ fr _ hrow Tryd.underlying57 rfl (by kernel_rfl) ?_)
 clear hrow HG3
 go_loopg [5, 26] 9 (fun kq v5 v26 w' => ∃ i : Nat, v26 = .int .i64 (i : Int) ∧ Aside0 (9 = i + kq) ∧ Aside0 (Kd.R (Kd.int .u8) 5 w' W3.heap.size (fun _ => True) v5 (ether_LayArp.cat ((ether_LayArp.ns op fm lo1 tm lo2).take i))) ∧ Aside0 (w'.heap[w2.heap.size]? = some (.cells #[.int .u64 0, .int .u64 0, .int .u64 0, .int .u64 0, .int .u64 op, .int .u64 fm, .int .u64 lo1, .int .u64 tm, .int .u64 lo2] 54 (0, 0))) ∧ Aside0 (Below W3.heap.size W3 w'))
 case atStart => exact ⟨0, rfl, ⟨rfl⟩, ⟨Kd.R_nil _ _ _ _ _⟩, HN, ⟨Below.refl _ _⟩⟩
 case round =>
  clear HN
  obtain ⟨i, rfl, HI, HO, HN, HBl⟩ := hrel
  have hi := HI.out
  obtain ⟨Li, hLi⟩ : ∃ Li, ether_LayArp.cat ((ether_LayArp.ns op fm lo1 tm lo2).take i) = Li := ⟨_, rfl⟩
  have HE := Aside0.mk (show Li.length ≤ 28 by have h := ether_LayArp.cat_length op fm lo1 tm lo2; rw [← List.take_append_drop i (ether_LayArp.ns op fm lo1 tm lo2), ether_LayArp.cat_append, List.length_append, hLi] at h; omega)
  rw [hLi] at HO
  have HLi := Aside0.mk hLi
  clear hLi
  obtain ⟨A4, c4, rfl⟩ := Kd.R_slice HO.out
  cases gk with
  | zero =>
   obtain rfl : 9 = i := by omega
   clear hi HI i0 i1 i2 i3 i4 i5 i6 i7 i8 q4 q5 q6 q7 q8
   have hcv := own_string (P := Tryd.prog) Tryd.underlying50 Tryd.underlying5 Tryd.underlying9 (Kd.own_of_R HO.out)
   go_wp2_with fail
   go_ret2
   refine ⟨?_, below_step HB3.out HBl.out⟩
   rw [← HLi.out]
   rfl
  | succ d =>
   rcases (show i = 0 ∨ i = 1 ∨ i = 2 ∨ i = 3 ∨ i = 4 ∨ i = 5 ∨ i = 6 ∨ i = 7 ∨ i = 8 by omega) with rfl | rfl | rfl | rfl | rfl | rfl | rfl | rfl | rfl
   ·
     clear hi
     go_upto_region 8 with (fail)
     obtain ⟨W5, hW5⟩ : ∃ W5, wr.alloc (.cells #[.int .i64 2, .int .u64 1] 56) = W5 := ⟨_, rfl⟩
     rw [hW5]
     have HB5 := Aside0.mk (show Below wr.heap.size wr W5 by rw [← hW5]; exact below_alloc (Below.refl _ _) _)
     have hF : W5.heap[wr.heap.size]? = some (.cells #[.int .i64 2, .int .u64 1] 56 (0, 0)) := by rw [← hW5]; exact heap_alloc_new _ _
     have HN5 := Aside0.mk (MStr.block_below HN.out HB5.out)
     clear hW5 HN
     obtain ⟨f0, f1⟩ := MBlk.c2 hF
     have n0 : W5.cell? ⟨w2.heap.size, 0, none⟩ = some (.int .u64 0) := MStr.block_cell (j := 0) HN5.out rfl
     go_region_held3 (fun w' => w'.cell? ⟨wr.heap.size, 0, none⟩ = some (.int .i64 2) ∧ w'.cell? ⟨wr.heap.size, 1, none⟩ = some (.int .u64 1) ∧ w'.cell? ⟨w2.heap.size, 0, none⟩ = some (.int .u64 0)) (go_keep) (first | (go_at_call 27; refine Calls.mono (octet_Put.calls A4 c4 Li 2 1 _ _ (by exact Kd.C_below (Kd.R_reads' HO.out).2.2 (by repeat (first | (with_reducible first | exact HB5.out | apply below_alloc | apply pw_below_drewN | apply below_drew1) | exact HB5.out))) (Kd.R_reads' HO.out).2.1 (ether_LayArp.put (m := 2) (by decide) (by have := HE.out; omega))) ?_; rintro e w6 ⟨v6, rfl, ho, hb⟩; rw [← HLi.out] at ho; have HO6 := Aside0.mk (show Kd.R (Kd.int .u8) 5 w6 W3.heap.size (fun _ => True) v6 (ether_LayArp.cat ((ether_LayArp.ns op fm lo1 tm lo2).take 1)) by have h := Kd.R_lower ho (show W3.heap.size ≤ _ from (show Below W3.heap.size W3 _ from below_step HBl.out (by repeat (first | (with_reducible first | exact HB5.out | apply below_alloc | apply pw_below_drewN | apply below_drew1) | exact HB5.out))).size); exact (show ether_LayArp.cat ((ether_LayArp.ns op fm lo1 tm lo2).take 1) = ether_LayArp.cat ((ether_LayArp.ns op fm lo1 tm lo2).take 0) ++ MBe.be 1 2 by rw [show (ether_LayArp.ns op fm lo1 tm lo2).take 1 = (ether_LayArp.ns op fm lo1 tm lo2).take 0 ++ [(2, 1)] from rfl, ether_LayArp.cat_append]; simp [ether_LayArp.cat]) ▸ h); have HN6 := Aside0.mk (MStr.block_below (MStr.block_below HN5.out (show Below W5.heap.size W5 _ from (by repeat (first | (with_reducible first | exact Below.refl _ _ | apply below_alloc | apply pw_below_drewN | apply below_drew1) | exact Below.refl _ _)))) hb); have z0 := pw_cell_below hb (show W5.drew.cell? _ = _ from f0); have z1 := pw_cell_below hb (show W5.drew.cell? _ = _ from f1); have z2 := pw_cell_below hb (show W5.drew.cell? _ = _ from n0); have HBl6 := Aside0.mk (below_step (show Below W3.heap.size W3 _ from below_step HBl.out (by repeat (first | (with_reducible first | exact HB5.out | apply below_alloc | apply pw_below_drewN | apply below_drew1) | exact HB5.out))) hb); clear ho hb HO HE f0 f1 n0))
     go_wp2_with fail
     go_roundg d
     case measure => omega
     case rel => exact ⟨1, rfl, ⟨by have := HI.out; omega⟩, HO6, HN6, HBl6⟩
   ·
     clear hi
     go_upto_region 8 with (fail)
     obtain ⟨W5, hW5⟩ : ∃ W5, wr.alloc (.cells #[.int .i64 2, .int .u64 2048] 56) = W5 := ⟨_, rfl⟩
     rw [hW5]
     have HB5 := Aside0.mk (show Below wr.heap.size wr W5 by rw [← hW5]; exact below_alloc (Below.refl _ _) _)
     have hF : W5.heap[wr.heap.size]? = some (.cells #[.int .i64 2, .int .u64 2048] 56 (0, 0)) := by rw [← hW5]; exact heap_alloc_new _ _
     have HN5 := Aside0.mk (MStr.block_below HN.out HB5.out)
     clear hW5 HN
     obtain ⟨f0, f1⟩ := MBlk.c2 hF
     have n1 : W5.cell? ⟨w2.heap.size, 1, none⟩ = some (.int .u64 0) := MStr.block_cell (j := 1) HN5.out rfl
     go_region_held3 (fun w' => w'.cell? ⟨wr.heap.size, 0, none⟩ = some (.int .i64 2) ∧ w'.cell? ⟨wr.heap.size, 1, none⟩ = some (.int .u64 2048) ∧ w'.cell? ⟨w2.heap.size, 1, none⟩ = some (.int .u64 0)) (go_keep) (first | (go_at_call 27; refine Calls.mono (octet_Put.calls A4 c4 Li 2 2048 _ _ (by exact Kd.C_below (Kd.R_reads' HO.out).2.2 (by repeat (first | (with_reducible first | exact HB5.out | apply below_alloc | apply pw_below_drewN | apply below_drew1) | exact HB5.out))) (Kd.R_reads' HO.out).2.1 (ether_LayArp.put (m := 2) (by decide) (by have := HE.out; omega))) ?_; rintro e w6 ⟨v6, rfl, ho, hb⟩; rw [← HLi.out] at ho; have HO6 := Aside0.mk (show Kd.R (Kd.int .u8) 5 w6 W3.heap.size (fun _ => True) v6 (ether_LayArp.cat ((ether_LayArp.ns op fm lo1 tm lo2).take 2)) by have h := Kd.R_lower ho (show W3.heap.size ≤ _ from (show Below W3.heap.size W3 _ from below_step HBl.out (by repeat (first | (with_reducible first | exact HB5.out | apply below_alloc | apply pw_below_drewN | apply below_drew1) | exact HB5.out))).size); exact (show ether_LayArp.cat ((ether_LayArp.ns op fm lo1 tm lo2).take 2) = ether_LayArp.cat ((ether_LayArp.ns op fm lo1 tm lo2).take 1) ++ MBe.be 2048 2 by rw [show (ether_LayArp.ns op fm lo1 tm lo2).take 2 = (ether_LayArp.ns op fm lo1 tm lo2).take 1 ++ [(2, 2048)] from rfl, ether_LayArp.cat_append]; simp [ether_LayArp.cat]) ▸ h); have HN6 := Aside0.mk (MStr.block_below (MStr.block_below HN5.out (show Below W5.heap.size W5 _ from (by repeat (first | (with_reducible first | exact Below.refl _ _ | apply below_alloc | apply pw_below_drewN | apply below_drew1) | exact Below.refl _ _)))) hb); have z0 := pw_cell_below hb (show W5.drew.cell? _ = _ from f0); have z1 := pw_cell_below hb (show W5.drew.cell? _ = _ from f1); have z2 := pw_cell_below hb (show W5.drew.cell? _ = _ from n1); have HBl6 := Aside0.mk (below_step (show Below W3.heap.size W3 _ from below_step HBl.out (by repeat (first | (with_reducible first | exact HB5.out | apply below_alloc | apply pw_below_drewN | apply below_drew1) | exact HB5.out))) hb); clear ho hb HO HE f0 f1 n1))
     go_wp2_with fail
     go_roundg d
     case measure => omega
     case rel => exact ⟨2, rfl, ⟨by have := HI.out; omega⟩, HO6, HN6, HBl6⟩
   ·
     clear hi
     go_upto_region 8 with (fail)
     obtain ⟨W5, hW5⟩ : ∃ W5, wr.alloc (.cells #[.int .i64 1, .int .u64 6] 56) = W5 := ⟨_, rfl⟩
     rw [hW5]
     have HB5 := Aside0.mk (show Below wr.heap.size wr W5 by rw [← hW5]; exact below_alloc (Below.refl _ _) _)
     have hF : W5.heap[wr.heap.size]? = some (.cells #[.int .i64 1, .int .u64 6] 56 (0, 0)) := by rw [← hW5]; exact heap_alloc_new _ _
     have HN5 := Aside0.mk (MStr.block_below HN.out HB5.out)
     clear hW5 HN
     obtain ⟨f0, f1⟩ := MBlk.c2 hF
     have n2 : W5.cell? ⟨w2.heap.size, 2, none⟩ = some (.int .u64 0) := MStr.block_cell (j := 2) HN5.out rfl
     go_region_held3 (fun w' => w'.cell? ⟨wr.heap.size, 0, none⟩ = some (.int .i64 1) ∧ w'.cell? ⟨wr.heap.size, 1, none⟩ = some (.int .u64 6) ∧ w'.cell? ⟨w2.heap.size, 2, none⟩ = some (.int .u64 0)) (go_keep) (first | (go_at_call 27; refine Calls.mono (octet_Put.calls A4 c4 Li 1 6 _ _ (by exact Kd.C_below (Kd.R_reads' HO.out).2.2 (by repeat (first | (with_reducible first | exact HB5.out | apply below_alloc | apply pw_below_drewN | apply below_drew1) | exact HB5.out))) (Kd.R_reads' HO.out).2.1 (ether_LayArp.put (m := 1) (by decide) (by have := HE.out; omega))) ?_; rintro e w6 ⟨v6, rfl, ho, hb⟩; rw [← HLi.out] at ho; have HO6 := Aside0.mk (show Kd.R (Kd.int .u8) 5 w6 W3.heap.size (fun _ => True) v6 (ether_LayArp.cat ((ether_LayArp.ns op fm lo1 tm lo2).take 3)) by have h := Kd.R_lower ho (show W3.heap.size ≤ _ from (show Below W3.heap.size W3 _ from below_step HBl.out (by repeat (first | (with_reducible first | exact HB5.out | apply below_alloc | apply pw_below_drewN | apply below_drew1) | exact HB5.out))).size); exact (show ether_LayArp.cat ((ether_LayArp.ns op fm lo1 tm lo2).take 3) = ether_LayArp.cat ((ether_LayArp.ns op fm lo1 tm lo2).take 2) ++ MBe.be 6 1 by rw [show (ether_LayArp.ns op fm lo1 tm lo2).take 3 = (ether_LayArp.ns op fm lo1 tm lo2).take 2 ++ [(1, 6)] from rfl, ether_LayArp.cat_append]; simp [ether_LayArp.cat]) ▸ h); have HN6 := Aside0.mk (MStr.block_below (MStr.block_below HN5.out (show Below W5.heap.size W5 _ from (by repeat (first | (with_reducible first | exact Below.refl _ _ | apply below_alloc | apply pw_below_drewN | apply below_drew1) | exact Below.refl _ _)))) hb); have z0 := pw_cell_below hb (show W5.drew.cell? _ = _ from f0); have z1 := pw_cell_below hb (show W5.drew.cell? _ = _ from f1); have z2 := pw_cell_below hb (show W5.drew.cell? _ = _ from n2); have HBl6 := Aside0.mk (below_step (show Below W3.heap.size W3 _ from below_step HBl.out (by repeat (first | (with_reducible first | exact HB5.out | apply below_alloc | apply pw_below_drewN | apply below_drew1) | exact HB5.out))) hb); clear ho hb HO HE f0 f1 n2))
     go_wp2_with fail
     go_roundg d
     case measure => omega
     case rel => exact ⟨3, rfl, ⟨by have := HI.out; omega⟩, HO6, HN6, HBl6⟩
   ·
     clear hi
     go_upto_region 8 with (fail)
     obtain ⟨W5, hW5⟩ : ∃ W5, wr.alloc (.cells #[.int .i64 1, .int .u64 4] 56) = W5 := ⟨_, rfl⟩
     rw [hW5]
     have HB5 := Aside0.mk (show Below wr.heap.size wr W5 by rw [← hW5]; exact below_alloc (Below.refl _ _) _)
     have hF : W5.heap[wr.heap.size]? = some (.cells #[.int .i64 1, .int .u64 4] 56 (0, 0)) := by rw [← hW5]; exact heap_alloc_new _ _
     have HN5 := Aside0.mk (MStr.block_below HN.out HB5.out)
     clear hW5 HN
     obtain ⟨f0, f1⟩ := MBlk.c2 hF
     have n3 : W5.cell? ⟨w2.heap.size, 3, none⟩ = some (.int .u64 0) := MStr.block_cell (j := 3) HN5.out rfl
     go_region_held3 (fun w' => w'.cell? ⟨wr.heap.size, 0, none⟩ = some (.int .i64 1) ∧ w'.cell? ⟨wr.heap.size, 1, none⟩ = some (.int .u64 4) ∧ w'.cell? ⟨w2.heap.size, 3, none⟩ = some (.int .u64 0)) (go_keep) (first | (go_at_call 27; refine Calls.mono (octet_Put.calls A4 c4 Li 1 4 _ _ (by exact Kd.C_below (Kd.R_reads' HO.out).2.2 (by repeat (first | (with_reducible first | exact HB5.out | apply below_alloc | apply pw_below_drewN | apply below_drew1) | exact HB5.out))) (Kd.R_reads' HO.out).2.1 (ether_LayArp.put (m := 1) (by decide) (by have := HE.out; omega))) ?_; rintro e w6 ⟨v6, rfl, ho, hb⟩; rw [← HLi.out] at ho; have HO6 := Aside0.mk (show Kd.R (Kd.int .u8) 5 w6 W3.heap.size (fun _ => True) v6 (ether_LayArp.cat ((ether_LayArp.ns op fm lo1 tm lo2).take 4)) by have h := Kd.R_lower ho (show W3.heap.size ≤ _ from (show Below W3.heap.size W3 _ from below_step HBl.out (by repeat (first | (with_reducible first | exact HB5.out | apply below_alloc | apply pw_below_drewN | apply below_drew1) | exact HB5.out))).size); exact (show ether_LayArp.cat ((ether_LayArp.ns op fm lo1 tm lo2).take 4) = ether_LayArp.cat ((ether_LayArp.ns op fm lo1 tm lo2).take 3) ++ MBe.be 4 1 by rw [show (ether_LayArp.ns op fm lo1 tm lo2).take 4 = (ether_LayArp.ns op fm lo1 tm lo2).take 3 ++ [(1, 4)] from rfl, ether_LayArp.cat_append]; simp [ether_LayArp.cat]) ▸ h); have HN6 := Aside0.mk (MStr.block_below (MStr.block_below HN5.out (show Below W5.heap.size W5 _ from (by repeat (first | (with_reducible first | exact Below.refl _ _ | apply below_alloc | apply pw_below_drewN | apply below_drew1) | exact Below.refl _ _)))) hb); have z0 := pw_cell_below hb (show W5.drew.cell? _ = _ from f0); have z1 := pw_cell_below hb (show W5.drew.cell? _ = _ from f1); have z2 := pw_cell_below hb (show W5.drew.cell? _ = _ from n3); have HBl6 := Aside0.mk (below_step (show Below W3.heap.size W3 _ from below_step HBl.out (by repeat (first | (with_reducible first | exact HB5.out | apply below_alloc | apply pw_below_drewN | apply below_drew1) | exact HB5.out))) hb); clear ho hb HO HE f0 f1 n3))
     go_wp2_with fail
     go_roundg d
     case measure => omega
     case rel => exact ⟨4, rfl, ⟨by have := HI.out; omega⟩, HO6, HN6, HBl6⟩
   ·
     clear hi
     go_upto_region 8 with (fail)
     obtain ⟨W5, hW5⟩ : ∃ W5, wr.alloc (.cells #[.int .i64 2, .int .u64 0] 56) = W5 := ⟨_, rfl⟩
     rw [hW5]
     have HB5 := Aside0.mk (show Below wr.heap.size wr W5 by rw [← hW5]; exact below_alloc (Below.refl _ _) _)
     have hF : W5.heap[wr.heap.size]? = some (.cells #[.int .i64 2, .int .u64 0] 56 (0, 0)) := by rw [← hW5]; exact heap_alloc_new _ _
     have HN5 := Aside0.mk (MStr.block_below HN.out HB5.out)
     clear hW5 HN
     obtain ⟨f0, f1⟩ := MBlk.c2 hF
     have n4 : W5.cell? ⟨w2.heap.size, 4, none⟩ = some (.int .u64 op) := MStr.block_cell (j := 4) HN5.out rfl
     go_region_held3 (fun w' => w'.cell? ⟨wr.heap.size, 0, none⟩ = some (.int .i64 2) ∧ w'.cell? ⟨wr.heap.size, 1, none⟩ = some (.int .u64 0) ∧ w'.cell? ⟨w2.heap.size, 4, none⟩ = some (.int .u64 op)) (go_keep) (first | (go_at_call 27; refine Calls.mono (octet_Put.calls A4 c4 Li 2 op _ _ (by exact Kd.C_below (Kd.R_reads' HO.out).2.2 (by repeat (first | (with_reducible first | exact HB5.out | apply below_alloc | apply pw_below_drewN | apply below_drew1) | exact HB5.out))) (Kd.R_reads' HO.out).2.1 (ether_LayArp.put (m := 2) (by decide) (by have := HE.out; omega))) ?_; rintro e w6 ⟨v6, rfl, ho, hb⟩; rw [← HLi.out] at ho; have HO6 := Aside0.mk (show Kd.R (Kd.int .u8) 5 w6 W3.heap.size (fun _ => True) v6 (ether_LayArp.cat ((ether_LayArp.ns op fm lo1 tm lo2).take 5)) by have h := Kd.R_lower ho (show W3.heap.size ≤ _ from (show Below W3.heap.size W3 _ from below_step HBl.out (by repeat (first | (with_reducible first | exact HB5.out | apply below_alloc | apply pw_below_drewN | apply below_drew1) | exact HB5.out))).size); exact (show ether_LayArp.cat ((ether_LayArp.ns op fm lo1 tm lo2).take 5) = ether_LayArp.cat ((ether_LayArp.ns op fm lo1 tm lo2).take 4) ++ MBe.be op 2 by rw [show (ether_LayArp.ns op fm lo1 tm lo2).take 5 = (ether_LayArp.ns op fm lo1 tm lo2).take 4 ++ [(2, op)] from rfl, ether_LayArp.cat_append]; simp [ether_LayArp.cat]) ▸ h); have HN6 := Aside0.mk (MStr.block_below (MStr.block_below HN5.out (show Below W5.heap.size W5 _ from (by repeat (first | (with_reducible first | exact Below.refl _ _ | apply below_alloc | apply pw_below_drewN | apply below_drew1) | exact Below.refl _ _)))) hb); have z0 := pw_cell_below hb (show W5.drew.cell? _ = _ from f0); have z1 := pw_cell_below hb (show W5.drew.cell? _ = _ from f1); have z2 := pw_cell_below hb (show W5.drew.cell? _ = _ from n4); have HBl6 := Aside0.mk (below_step (show Below W3.heap.size W3 _ from below_step HBl.out (by repeat (first | (with_reducible first | exact HB5.out | apply below_alloc | apply pw_below_drewN | apply below_drew1) | exact HB5.out))) hb); clear ho hb HO HE f0 f1 n4))
     go_wp2_with fail
     go_roundg d
     case measure => omega
     case rel => exact ⟨5, rfl, ⟨by have := HI.out; omega⟩, HO6, HN6, HBl6⟩
   ·
     clear hi
     go_upto_region 8 with (fail)
     obtain ⟨W5, hW5⟩ : ∃ W5, wr.alloc (.cells #[.int .i64 6, .int .u64 0] 56) = W5 := ⟨_, rfl⟩
     rw [hW5]
     have HB5 := Aside0.mk (show Below wr.heap.size wr W5 by rw [← hW5]; exact below_alloc (Below.refl _ _) _)
     have hF : W5.heap[wr.heap.size]? = some (.cells #[.int .i64 6, .int .u64 0] 56 (0, 0)) := by rw [← hW5]; exact heap_alloc_new _ _
     have HN5 := Aside0.mk (MStr.block_below HN.out HB5.out)
     clear hW5 HN
     obtain ⟨f0, f1⟩ := MBlk.c2 hF
     have n5 : W5.cell? ⟨w2.heap.size, 5, none⟩ = some (.int .u64 fm) := MStr.block_cell (j := 5) HN5.out rfl
     go_region_held3 (fun w' => w'.cell? ⟨wr.heap.size, 0, none⟩ = some (.int .i64 6) ∧ w'.cell? ⟨wr.heap.size, 1, none⟩ = some (.int .u64 0) ∧ w'.cell? ⟨w2.heap.size, 5, none⟩ = some (.int .u64 fm)) (go_keep) (first | (go_at_call 27; refine Calls.mono (octet_Put.calls A4 c4 Li 6 fm _ _ (by exact Kd.C_below (Kd.R_reads' HO.out).2.2 (by repeat (first | (with_reducible first | exact HB5.out | apply below_alloc | apply pw_below_drewN | apply below_drew1) | exact HB5.out))) (Kd.R_reads' HO.out).2.1 (ether_LayArp.put (m := 6) (by decide) (by have := HE.out; omega))) ?_; rintro e w6 ⟨v6, rfl, ho, hb⟩; rw [← HLi.out] at ho; have HO6 := Aside0.mk (show Kd.R (Kd.int .u8) 5 w6 W3.heap.size (fun _ => True) v6 (ether_LayArp.cat ((ether_LayArp.ns op fm lo1 tm lo2).take 6)) by have h := Kd.R_lower ho (show W3.heap.size ≤ _ from (show Below W3.heap.size W3 _ from below_step HBl.out (by repeat (first | (with_reducible first | exact HB5.out | apply below_alloc | apply pw_below_drewN | apply below_drew1) | exact HB5.out))).size); exact (show ether_LayArp.cat ((ether_LayArp.ns op fm lo1 tm lo2).take 6) = ether_LayArp.cat ((ether_LayArp.ns op fm lo1 tm lo2).take 5) ++ MBe.be fm 6 by rw [show (ether_LayArp.ns op fm lo1 tm lo2).take 6 = (ether_LayArp.ns op fm lo1 tm lo2).take 5 ++ [(6, fm)] from rfl, ether_LayArp.cat_append]; simp [ether_LayArp.cat]) ▸ h); have HN6 := Aside0.mk (MStr.block_below (MStr.block_below HN5.out (show Below W5.heap.size W5 _ from (by repeat (first | (with_reducible first | exact Below.refl _ _ | apply below_alloc | apply pw_below_drewN | apply below_drew1) | exact Below.refl _ _)))) hb); have z0 := pw_cell_below hb (show W5.drew.cell? _ = _ from f0); have z1 := pw_cell_below hb (show W5.drew.cell? _ = _ from f1); have z2 := pw_cell_below hb (show W5.drew.cell? _ = _ from n5); have HBl6 := Aside0.mk (below_step (show Below W3.heap.size W3 _ from below_step HBl.out (by repeat (first | (with_reducible first | exact HB5.out | apply below_alloc | apply pw_below_drewN | apply below_drew1) | exact HB5.out))) hb); clear ho hb HO HE f0 f1 n5))
     go_wp2_with fail
     go_roundg d
     case measure => omega
     case rel => exact ⟨6, rfl, ⟨by have := HI.out; omega⟩, HO6, HN6, HBl6⟩
   ·
     clear hi
     go_upto_region 8 with (fail)
     obtain ⟨W5, hW5⟩ : ∃ W5, wr.alloc (.cells #[.int .i64 4, .int .u64 0] 56) = W5 := ⟨_, rfl⟩
     rw [hW5]
     have HB5 := Aside0.mk (show Below wr.heap.size wr W5 by rw [← hW5]; exact below_alloc (Below.refl _ _) _)
     have hF : W5.heap[wr.heap.size]? = some (.cells #[.int .i64 4, .int .u64 0] 56 (0, 0)) := by rw [← hW5]; exact heap_alloc_new _ _
     have HN5 := Aside0.mk (MStr.block_below HN.out HB5.out)
     clear hW5 HN
     obtain ⟨f0, f1⟩ := MBlk.c2 hF
     have n6 : W5.cell? ⟨w2.heap.size, 6, none⟩ = some (.int .u64 lo1) := MStr.block_cell (j := 6) HN5.out rfl
     go_region_held3 (fun w' => w'.cell? ⟨wr.heap.size, 0, none⟩ = some (.int .i64 4) ∧ w'.cell? ⟨wr.heap.size, 1, none⟩ = some (.int .u64 0) ∧ w'.cell? ⟨w2.heap.size, 6, none⟩ = some (.int .u64 lo1)) (go_keep) (first | (go_at_call 27; refine Calls.mono (octet_Put.calls A4 c4 Li 4 lo1 _ _ (by exact Kd.C_below (Kd.R_reads' HO.out).2.2 (by repeat (first | (with_reducible first | exact HB5.out | apply below_alloc | apply pw_below_drewN | apply below_drew1) | exact HB5.out))) (Kd.R_reads' HO.out).2.1 (ether_LayArp.put (m := 4) (by decide) (by have := HE.out; omega))) ?_; rintro e w6 ⟨v6, rfl, ho, hb⟩; rw [← HLi.out] at ho; have HO6 := Aside0.mk (show Kd.R (Kd.int .u8) 5 w6 W3.heap.size (fun _ => True) v6 (ether_LayArp.cat ((ether_LayArp.ns op fm lo1 tm lo2).take 7)) by have h := Kd.R_lower ho (show W3.heap.size ≤ _ from (show Below W3.heap.size W3 _ from below_step HBl.out (by repeat (first | (with_reducible first | exact HB5.out | apply below_alloc | apply pw_below_drewN | apply below_drew1) | exact HB5.out))).size); exact (show ether_LayArp.cat ((ether_LayArp.ns op fm lo1 tm lo2).take 7) = ether_LayArp.cat ((ether_LayArp.ns op fm lo1 tm lo2).take 6) ++ MBe.be lo1 4 by rw [show (ether_LayArp.ns op fm lo1 tm lo2).take 7 = (ether_LayArp.ns op fm lo1 tm lo2).take 6 ++ [(4, lo1)] from rfl, ether_LayArp.cat_append]; simp [ether_LayArp.cat]) ▸ h); have HN6 := Aside0.mk (MStr.block_below (MStr.block_below HN5.out (show Below W5.heap.size W5 _ from (by repeat (first | (with_reducible first | exact Below.refl _ _ | apply below_alloc | apply pw_below_drewN | apply below_drew1) | exact Below.refl _ _)))) hb); have z0 := pw_cell_below hb (show W5.drew.cell? _ = _ from f0); have z1 := pw_cell_below hb (show W5.drew.cell? _ = _ from f1); have z2 := pw_cell_below hb (show W5.drew.cell? _ = _ from n6); have HBl6 := Aside0.mk (below_step (show Below W3.heap.size W3 _ from below_step HBl.out (by repeat (first | (with_reducible first | exact HB5.out | apply below_alloc | apply pw_below_drewN | apply below_drew1) | exact HB5.out))) hb); clear ho hb HO HE f0 f1 n6))
     go_wp2_with fail
     go_roundg d
     case measure => omega
     case rel => exact ⟨7, rfl, ⟨by have := HI.out; omega⟩, HO6, HN6, HBl6⟩
   ·
     clear hi
     go_upto_region 8 with (fail)
     obtain ⟨W5, hW5⟩ : ∃ W5, wr.alloc (.cells #[.int .i64 6, .int .u64 0] 56) = W5 := ⟨_, rfl⟩
     rw [hW5]
     have HB5 := Aside0.mk (show Below wr.heap.size wr W5 by rw [← hW5]; exact below_alloc (Below.refl _ _) _)
     have hF : W5.heap[wr.heap.size]? = some (.cells #[.int .i64 6, .int .u64 0] 56 (0, 0)) := by rw [← hW5]; exact heap_alloc_new _ _
     have HN5 := Aside0.mk (MStr.block_below HN.out HB5.out)
     clear hW5 HN
     obtain ⟨f0, f1⟩ := MBlk.c2 hF
     have n7 : W5.cell? ⟨w2.heap.size, 7, none⟩ = some (.int .u64 tm) := MStr.block_cell (j := 7) HN5.out rfl
     go_region_held3 (fun w' => w'.cell? ⟨wr.heap.size, 0, none⟩ = some (.int .i64 6) ∧ w'.cell? ⟨wr.heap.size, 1, none⟩ = some (.int .u64 0) ∧ w'.cell? ⟨w2.heap.size, 7, none⟩ = some (.int .u64 tm)) (go_keep) (first | (go_at_call 27; refine Calls.mono (octet_Put.calls A4 c4 Li 6 tm _ _ (by exact Kd.C_below (Kd.R_reads' HO.out).2.2 (by repeat (first | (with_reducible first | exact HB5.out | apply below_alloc | apply pw_below_drewN | apply below_drew1) | exact HB5.out))) (Kd.R_reads' HO.out).2.1 (ether_LayArp.put (m := 6) (by decide) (by have := HE.out; omega))) ?_; rintro e w6 ⟨v6, rfl, ho, hb⟩; rw [← HLi.out] at ho; have HO6 := Aside0.mk (show Kd.R (Kd.int .u8) 5 w6 W3.heap.size (fun _ => True) v6 (ether_LayArp.cat ((ether_LayArp.ns op fm lo1 tm lo2).take 8)) by have h := Kd.R_lower ho (show W3.heap.size ≤ _ from (show Below W3.heap.size W3 _ from below_step HBl.out (by repeat (first | (with_reducible first | exact HB5.out | apply below_alloc | apply pw_below_drewN | apply below_drew1) | exact HB5.out))).size); exact (show ether_LayArp.cat ((ether_LayArp.ns op fm lo1 tm lo2).take 8) = ether_LayArp.cat ((ether_LayArp.ns op fm lo1 tm lo2).take 7) ++ MBe.be tm 6 by rw [show (ether_LayArp.ns op fm lo1 tm lo2).take 8 = (ether_LayArp.ns op fm lo1 tm lo2).take 7 ++ [(6, tm)] from rfl, ether_LayArp.cat_append]; simp [ether_LayArp.cat]) ▸ h); have HN6 := Aside0.mk (MStr.block_below (MStr.block_below HN5.out (show Below W5.heap.size W5 _ from (by repeat (first | (with_reducible first | exact Below.refl _ _ | apply below_alloc | apply pw_below_drewN | apply below_drew1) | exact Below.refl _ _)))) hb); have z0 := pw_cell_below hb (show W5.drew.cell? _ = _ from f0); have z1 := pw_cell_below hb (show W5.drew.cell? _ = _ from f1); have z2 := pw_cell_below hb (show W5.drew.cell? _ = _ from n7); have HBl6 := Aside0.mk (below_step (show Below W3.heap.size W3 _ from below_step HBl.out (by repeat (first | (with_reducible first | exact HB5.out | apply below_alloc | apply pw_below_drewN | apply below_drew1) | exact HB5.out))) hb); clear ho hb HO HE f0 f1 n7))
     go_wp2_with fail
     go_roundg d
     case measure => omega
     case rel => exact ⟨8, rfl, ⟨by have := HI.out; omega⟩, HO6, HN6, HBl6⟩
   ·
     clear hi
     go_upto_region 8 with (fail)
     obtain ⟨W5, hW5⟩ : ∃ W5, wr.alloc (.cells #[.int .i64 4, .int .u64 0] 56) = W5 := ⟨_, rfl⟩
     rw [hW5]
     have HB5 := Aside0.mk (show Below wr.heap.size wr W5 by rw [← hW5]; exact below_alloc (Below.refl _ _) _)
     have hF : W5.heap[wr.heap.size]? = some (.cells #[.int .i64 4, .int .u64 0] 56 (0, 0)) := by rw [← hW5]; exact heap_alloc_new _ _
     have HN5 := Aside0.mk (MStr.block_below HN.out HB5.out)
     clear hW5 HN
     obtain ⟨f0, f1⟩ := MBlk.c2 hF
     have n8 : W5.cell? ⟨w2.heap.size, 8, none⟩ = some (.int .u64 lo2) := MStr.block_cell (j := 8) HN5.out rfl
     go_region_held3 (fun w' => w'.cell? ⟨wr.heap.size, 0, none⟩ = some (.int .i64 4) ∧ w'.cell? ⟨wr.heap.size, 1, none⟩ = some (.int .u64 0) ∧ w'.cell? ⟨w2.heap.size, 8, none⟩ = some (.int .u64 lo2)) (go_keep) (first | (go_at_call 27; refine Calls.mono (octet_Put.calls A4 c4 Li 4 lo2 _ _ (by exact Kd.C_below (Kd.R_reads' HO.out).2.2 (by repeat (first | (with_reducible first | exact HB5.out | apply below_alloc | apply pw_below_drewN | apply below_drew1) | exact HB5.out))) (Kd.R_reads' HO.out).2.1 (ether_LayArp.put (m := 4) (by decide) (by have := HE.out; omega))) ?_; rintro e w6 ⟨v6, rfl, ho, hb⟩; rw [← HLi.out] at ho; have HO6 := Aside0.mk (show Kd.R (Kd.int .u8) 5 w6 W3.heap.size (fun _ => True) v6 (ether_LayArp.cat ((ether_LayArp.ns op fm lo1 tm lo2).take 9)) by have h := Kd.R_lower ho (show W3.heap.size ≤ _ from (show Below W3.heap.size W3 _ from below_step HBl.out (by repeat (first | (with_reducible first | exact HB5.out | apply below_alloc | apply pw_below_drewN | apply below_drew1) | exact HB5.out))).size); exact (show ether_LayArp.cat ((ether_LayArp.ns op fm lo1 tm lo2).take 9) = ether_LayArp.cat ((ether_LayArp.ns op fm lo1 tm lo2).take 8) ++ MBe.be lo2 4 by rw [show (ether_LayArp.ns op fm lo1 tm lo2).take 9 = (ether_LayArp.ns op fm lo1 tm lo2).take 8 ++ [(4, lo2)] from rfl, ether_LayArp.cat_append]; simp [ether_LayArp.cat]) ▸ h); have HN6 := Aside0.mk (MStr.block_below (MStr.block_below HN5.out (show Below W5.heap.size W5 _ from (by repeat (first | (with_reducible first | exact Below.refl _ _ | apply below_alloc | apply pw_below_drewN | apply below_drew1) | exact Below.refl _ _)))) hb); have z0 := pw_cell_below hb (show W5.drew.cell? _ = _ from f0); have z1 := pw_cell_below hb (show W5.drew.cell? _ = _ from f1); have z2 := pw_cell_below hb (show W5.drew.cell? _ = _ from n8); have HBl6 := Aside0.mk (below_step (show Below W3.heap.size W3 _ from below_step HBl.out (by repeat (first | (with_reducible first | exact HB5.out | apply below_alloc | apply pw_below_drewN | apply below_drew1) | exact HB5.out))) hb); clear ho hb HO HE f0 f1 n8))
     go_wp2_with fail
     go_roundg d
     case measure => omega
     case rel => exact ⟨9, rfl, ⟨by have := HI.out; omega⟩, HO6, HN6, HBl6⟩
set_option maxHeartbeats 2000000 in
set_option maxRecDepth 100000 in
theorem ether_LayArp.bad (op fm : Int) (b1 : Bool) (h1 lo1 tm : Int) (b2 : Bool) (h2 lo2 : Int) (w : World) (hy : ether_isArp.f op fm b1 h1 lo1 tm b2 h2 lo2 = some false) :
  Calls Tryd.prog 13 #[.agg #[.int .i64 op, .int .u64 fm, .bool b1, .int .u64 h1, .int .u64 lo1, .int .u64 tm, .bool b2, .int .u64 h2, .int .u64 lo2]] w fun e w' => e = .returned (.tuple #[.string ⟨#[]⟩, .int .i64 40]) ∧ Below w.heap.size w w' := by
 have HY := Aside0.mk hy
 clear hy
 have hu29 := Tryd.underlying29
 go_enter Tryd.func13, Tryd.ntmps13
 go_wp2_with fail
 refine (ether_isArp.calls _ _ _ _ _ _ _ _ _ _ _ HY.out).mono ?_
 rintro e w2 ⟨rfl, hb⟩
 have HB := Aside0.mk (below_step (below_alloc (Below.refl w.heap.size w) (.cells #[.int .i64 op, .int .u64 fm, .bool b1, .int .u64 h1, .int .u64 lo1, .int .u64 tm, .bool b2, .int .u64 h2, .int .u64 lo2] 29)) hb)
 clear hb
 go_wp2_with fail
 go_ret2
 exact ⟨rfl, HB.out⟩
theorem ether_LayArp.calls (a0 a1 : Int) (a2 : Bool) (a3 a4 a5 : Int) (a6 : Bool) (a7 a8 : Int) (r1 : ByteArray) (r2 : Int) (w : World) (h : ether_LayArp.f a0 a1 a2 a3 a4 a5 a6 a7 a8 = some (r1, r2)) (hg : ether_Glob w) :
  Calls Tryd.prog 13 #[.agg #[.int .i64 a0, .int .u64 a1, .bool a2, .int .u64 a3, .int .u64 a4, .int .u64 a5, .bool a6, .int .u64 a7, .int .u64 a8]] w fun e w' => e = .returned (.tuple #[.string r1, .int .i64 r2]) ∧ Below w.heap.size w w' := by
 unfold ether_LayArp.f at h
 obtain ⟨y, hy, h⟩ := Option.bind_eq_some_iff.1 h
 cases y with
 | false =>
  rw [if_pos rfl] at h
  obtain rfl := (Prod.mk.inj (Option.some.inj h)).1; obtain rfl := (Prod.mk.inj (Option.some.inj h)).2
  exact ether_LayArp.bad _ _ _ _ _ _ _ _ _ w hy
 | true =>
  rw [if_neg (by decide)] at h
  split at h
  · cases h
  · rename_i hr
    obtain rfl := (Prod.mk.inj (Option.some.inj h)).1; obtain rfl := (Prod.mk.inj (Option.some.inj h)).2
    exact ether_LayArp.good _ _ _ _ _ _ _ _ _ w hg hy (Classical.byContradiction hr)

end Go.Proofs.YthajbaheejdoaaaDoor.PBase
