/- Functions of the program as Lean functions, each with a proof that a call comes to what it says. Conditions: those of each theorem. Laid by a program of this session. -/
import Derived.Test.YtfkdmdacicahcaaPBasex0
namespace Go.Proofs.Ytfkdmdacicahcaa.PBase
open Go.RowKit Go.Proofs.Ytfkdmdacicahcaa Go.Proofs.YtfkdmdacicahcaaW.PrintWords Go.Proofs.YtfkdmdacicahcaaW.PrintLast Go.Proofs.YtfkdmdacicahcaaW.PrintMore
attribute [local go_sem] max2_int min2_int max_two min_two max_three min_three max_four min_four   -- for this text's walks alone
set_option linter.unusedVariables false
set_option linter.unusedSimpArgs false

/-! ### ip6_within: function 22 -/
def ip6_within.f (a0 : Int) (a1 : Int) : Option (Bool) := if a0 ≥ 0 then (some (decide (a0 ≤ a1))) else (some false)
set_option maxHeartbeats 8000000 in
set_option maxRecDepth 100000 in
theorem ip6_within.calls (a0 : Int) (a1 : Int) (r : Bool) (w : World) (h : ip6_within.f a0 a1 = some r) :
  Calls Try.prog 22 #[.int .i64 a0, .int .i64 a1] w fun e w' => e = .returned (.bool r) ∧ Drawn0 w w' := by
 have H : (if a0 ≥ 0 then (some (decide (a0 ≤ a1))) else (some false)) = some r := h
 clear h
 by_cases c3 : a0 ≥ 0
 ·
  rw [if_pos c3] at H
  have c3b0 : decide (0 ≤ a0) = true := decide_eq_true c3
  clear c3
  obtain rfl := Option.some.inj H
  go_enter Try.func22, Try.ntmps22
  go_wp2
  go_ret
  exact ⟨by first | rfl | (simp; done) | (simp [*]; done), by repeat (first | exact Drawn0.refl _ | apply Drawn0.step)⟩
 ·
  rw [if_neg c3] at H
  have c3b0 : decide (0 ≤ a0) = false := decide_eq_false c3
  clear c3
  obtain rfl := Option.some.inj H
  go_enter Try.func22, Try.ntmps22
  go_wp2
  go_ret
  exact ⟨by first | rfl | (simp; done) | (simp [*]; done), by repeat (first | exact Drawn0.refl _ | apply Drawn0.step)⟩

/-! ### octet_Put: function 23 (by hand) -/
/-- The width as it is taken: from 0 to 8. -/
def octet_Put.wid (w : Int) : Nat := (mn (mx w 0) 8).toNat
theorem octet_Put.wid_eq (w : Int) : mn (mx w 0) 8 = (octet_Put.wid w : Int) := by
 unfold octet_Put.wid mn mx; split <;> split <;> omega
theorem octet_Put.wid_le (w : Int) : octet_Put.wid w ≤ 8 := by
 unfold octet_Put.wid mn mx; split <;> split <;> omega
/-- Bytes, and behind them a number's lowest bytes, the most significant one first. -/
def octet_Put.f (l0 : List Int) (a1 : Int) (a2 : Int) : Option (List Int) := if l0.length ≤ 140737488355200 then some (l0 ++ MBe.be a2 (octet_Put.wid a1)) else none
theorem octet_Put.set_rep (l : List Int) (d : Nat) (v : Int) (m : List Int) : (l ++ (List.replicate (d + 1) 0 ++ m)).set (l.length + d) v = l ++ (List.replicate d 0 ++ v :: m) := by
 rw [List.set_append_right _ _ (by omega), Nat.add_sub_cancel_left, List.replicate_succ', List.append_assoc, List.set_append_right _ _ (by simp)]
 simp
set_option maxHeartbeats 1000000 in
set_option maxRecDepth 100000 in
theorem octet_Put.calls (A0 : Option Addr) (c0 : Nat) (l0 : List Int) (a1 : Int) (a2 : Int) (r : List Int) (w : World) (hr0 : Kd.C (Kd.int .u8) w A0 l0.length l0) (hc0 : l0.length ≤ c0) (h : octet_Put.f l0 a1 a2 = some r) :
  Calls Try.prog 23 #[.slice A0 l0.length c0, .int .i64 a1, .int .u64 a2] w fun e w' => ∃ v0_ : Value, e = .returned (v0_) ∧ Kd.R (Kd.int .u8) 5 w' w.heap.size (fun _ => True) v0_ r ∧ Below w.heap.size w w' := by
 have HR0 := Aside0.mk hr0
 have HC0 := Aside0.mk hc0
 clear hr0 hc0
 have HB := Aside0.mk (Below.refl w.heap.size w)
 unfold octet_Put.f at h
 by_cases hl0 : l0.length ≤ 140737488355200
 ·
  rw [if_pos hl0] at h
  obtain rfl := Option.some.inj h
  clear h
  have hw8 := octet_Put.wid_le a1
  obtain ⟨m, hm⟩ : ∃ m, octet_Put.wid a1 = m := ⟨_, rfl⟩
  have hme := octet_Put.wid_eq a1
  rw [hm] at hw8 hme ⊢
  have HMB := Aside0.mk hm
  obtain ⟨q, hq⟩ : ∃ q, mx a1 0 = q := ⟨_, rfl⟩
  rw [hq] at hme
  unfold mn at hme
  unfold mx at hq
  clear hm
  have hsum : 0 ≤ (l0.length : Int) + (m : Int) := by omega
  obtain ⟨N, hN⟩ : ∃ N, N = l0.length + m := ⟨_, rfl⟩
  have HN := Aside0.mk hN
  have hNn : (l0.length : Int) + (m : Int) = (N : Int) := by omega
  have hNb : N ≤ 140737488355208 := by omega
  clear hN
  go_enter Try.func23, Try.ntmps23
  go_wp2_with (first | ((with_reducible refine gate_dst (N := 16) rfl ?_); refine Kd.R_make (Kd.int .u8) _ 5 rfl (N := 16) rfl 48 _ _ rfl (N : Int) rfl rfl Try.underlying48 (.int .u8 0) 1 info5 rfl (by decide) (by omega) 0 (ok := fun _ => True) (okp := fun _ => True) rfl (fun _ hk => hk) trivial (by omega) (by omega) (Below.refl _ _) (Nat.le_refl _) ?_; intro v1 w1 ho1 hb hg_ hnew_; clear hg_ hnew_; rw [Int.toNat_natCast] at ho1; have HO1 := Aside0.mk ho1; obtain ⟨A1, c1, e1⟩ := Kd.R_slice ho1; rw [List.length_replicate] at e1; subst e1; replace HB := Aside0.mk (below_step HB.out hb); clear hb ho1) | ((with_reducible refine gate_builtin (b := .copy) (xs := #[.tmp 17, .tmp 18]) rfl ?_); refine MCopy.R_copy (k := .u8) (w0 := w) (base := w.heap.size) (ok := fun _ => True) rfl (.tmp 17) (.tmp 18) 48 rfl Try.underlying48 (by kernel_rfl) (.slice A1 N c1) (List.replicate N 0) l0 A0 l0.length c0 rfl rfl HO1.out (Kd.C_below HR0.out HB.out) HB.out ?_; intro w2 n2 ho2 hb2; have HO2 := Aside0.mk ho2; clear HO1 HB ho2; have HB := Aside0.mk hb2; clear hb2))
  have ho3 : Kd.R (Kd.int .u8) 5 w2 w.heap.size (fun _ => True) (.slice A1 N c1) (l0 ++ (List.replicate m 0 ++ MBe.be a2 0)) := by
   have := HO2.out
   rw [HN.out, List.length_replicate, List.take_of_length_le (by omega), List.drop_replicate, Nat.add_sub_cancel_left] at this
   rw [HN.out, MBe.be, List.append_nil]; exact this
  have HO3 := Aside0.mk ho3
  clear HO2 ho3
  go_loopg [21] m (fun kq v21 w' => ∃ i : Nat, v21 = .int .i64 (i : Int) ∧ Aside0 (m = i + kq) ∧ Aside0 (Kd.R (Kd.int .u8) 5 w' w.heap.size (fun _ => True) (.slice A1 N c1) (l0 ++ (List.replicate kq 0 ++ MBe.be a2 i))) ∧ Aside0 (Below w.heap.size w w'))
  case atStart => exact ⟨0, rfl, ⟨by omega⟩, HO3, HB⟩
  case round =>
   clear HO3 HB
   obtain ⟨i, rfl, HI, HO, HB⟩ := hrel
   have hi := HI.out
   cases gk with
   | zero =>
    obtain rfl : m = i := by omega
    clear hi HI
    go_wp2
    go_ret
    exact ⟨_, rfl, by simpa using HO.out, HB.out⟩
   | succ d =>
    have hlt : (i : Int) < (m : Int) := by omega
    have hle : i ≤ 7 := by omega
    obtain ⟨ji, hji⟩ : ∃ ji : Int, (N : Int) - 1 - (i : Int) = ji := ⟨_, rfl⟩
    have hjd : ji.toNat = l0.length + d := by have := HN.out; omega
    have p0 : 0 ≤ ji := by omega
    have p1 : ji < (N : Int) := by omega
    have HJ := Aside0.mk hjd
    obtain ⟨s, hs⟩ : ∃ s : Int, (8 : Int) * (i : Int) = s := ⟨_, rfl⟩
    have hs0 : 0 ≤ s := by omega
    have hs1 : s ≤ 64 := by omega
    obtain ⟨t, ht⟩ : ∃ t : Int, shr .u64 a2 s = t := ⟨_, rfl⟩
    have ht_ : (a2 / 2 ^ min s.toNat 64) = t := ht
    have htz : (a2 / 2 ^ s.toNat) = t := shr_small ht hs1
    have hte : t = a2 / 256 ^ i := by rw [← htz, ← hs, show ((8 : Int) * (i : Int)).toNat = 8 * i by omega, Int.pow_mul]; rfl
    have HT := Aside0.mk hte
    obtain ⟨g, co, eo, gb, gl, cl, hG⟩ := Kd.R_form HO.out (by simp; omega)
    injection eo with ea_ en_ ec_
    subst ea_; subst ec_; clear en_
    have GB := Aside0.mk gb
    obtain ⟨hx, hf⟩ := Kd.R_celln 0 HO.out ji p0 p1
    have HP := Kd.R_putg HO.out ji (t % 256)
    clear gb gl hG hi hte hjd
    go_wp2_with (first | ((with_reducible refine gate_store (t := 5) (p := 35) rfl ?_); refine store_event (t := 5) (p := 35) (v := ?vo) (w1 := (wr.setCell ⟨g, ji.toNat, none⟩ (.int .u8 (t % 256)))) ?hg ?ho ?hn ?hr ?_; (case ho => rfl); (case hg => rfl); (case hn => rfl); (case hr => first | (go_simp; done) | (go_simp; rfl)); intro w5 hw; have hp_ := (show Kd.R (Kd.int .u8) 5 w5 w.heap.size (fun _ => True) (.slice (some ⟨g, 0, none⟩) N c1) _ from (by rw [hw]; exact HP.1)); have n0_ := Aside0.mk (by rw [hw]; exact below_set (HB.out) GB.out : Below w.heap.size w w5); clear HO HB HP; have hp2_ := hp_; have HB := n0_; clear n0_ hw hp_))
    rw [HJ.out, octet_Put.set_rep, HT.out] at hp2_
    go_roundg d
    case measure => omega
    case rel => exact ⟨i + 1, by go_num, ⟨by have := HI.out; omega⟩, ⟨hp2_⟩, HB⟩
 ·
  rw [if_neg hl0] at h
  exact absurd h (by simp)

/-! ### ip6_Lay: function 10 (by hand) -/
theorem ip6_within.yes {x b : Int} (h : 0 ≤ x ∧ x ≤ b) : ip6_within.f x b = some true := by
 unfold ip6_within.f; rw [if_pos (by omega), decide_eq_true (by omega)]
theorem ip6_within.no {x b : Int} (h : ¬ (0 ≤ x ∧ x ≤ b)) : ip6_within.f x b = some false := by
 unfold ip6_within.f; split
 · rw [decide_eq_false (by omega)]
 · rfl
/-- A packet's first number. -/
def ip6_Lay.first (cl fl : Int) : Int := IntKind.u64.wrap (Go.bits .or .i64 (Go.bits .or .i64 1610612736 (cl * 1048576)) fl)
/-- The first so many of the ends' numbers, laid. -/
def ip6_Lay.ends (fh flo th tlo : Int) : Nat → List Int
 | 0 => []
 | 1 => MBe.be fh 8
 | 2 => MBe.be fh 8 ++ MBe.be flo 8
 | 3 => MBe.be fh 8 ++ MBe.be flo 8 ++ MBe.be th 8
 | _ => MBe.be fh 8 ++ MBe.be flo 8 ++ MBe.be th 8 ++ MBe.be tlo 8
theorem ip6_Lay.ends_length (fh flo th tlo : Int) : ∀ n, (ip6_Lay.ends fh flo th tlo n).length ≤ 32
 | 0 => by simp [ip6_Lay.ends]
 | 1 => by simp [ip6_Lay.ends, MBe.be_length]
 | 2 => by simp [ip6_Lay.ends, MBe.be_length]
 | 3 => by simp [ip6_Lay.ends, MBe.be_length]
 | n + 4 => by simp [ip6_Lay.ends, MBe.be_length]
/-- What stands ahead of the ends. -/
def ip6_Lay.head (cl fl nx hp n : Int) : List Int := MBe.be (ip6_Lay.first cl fl) 4 ++ MBe.be n 2 ++ [nx, hp]
def ip6_Lay.of (cl fl nx hp fh flo th tlo : Int) (data : ByteArray) : List Int := (ip6_Lay.head cl fl nx hp (data.size : Int) ++ ip6_Lay.ends fh flo th tlo 4) ++ bytesOf data
theorem ip6_put {l : List Int} {n : Int} {k : Int} {m : Nat} (hk : octet_Put.wid k = m) (hl : l.length ≤ 140737488355200) : octet_Put.f l k n = some (l ++ MBe.be n m) := by
 unfold octet_Put.f; rw [if_pos hl, hk]
set_option maxHeartbeats 2000000 in
set_option maxRecDepth 100000 in
theorem ip6_Lay.good (cl fl nx hp fh flo th tlo : Int) (data : ByteArray) (w : World) (h1 : 0 ≤ cl ∧ cl ≤ 255) (h2 : 0 ≤ nx ∧ nx ≤ 255) (h3 : 0 ≤ hp ∧ hp ≤ 255) (h4 : 0 ≤ fl ∧ fl ≤ 1048575) (hs : data.size ≤ 65535) :
  Calls Try.prog 10 #[.agg #[.int .i64 cl, .int .i64 fl, .int .i64 nx, .int .i64 hp, .bool true, .int .u64 fh, .int .u64 flo, .bool true, .int .u64 th, .int .u64 tlo, .string data]] w fun e w' => e = .returned (.tuple #[.string (strOfNums (ip6_Lay.of cl fl nx hp fh flo th tlo data)), .int .i64 0]) ∧ Below w.heap.size w w' := by
 obtain ⟨wb, hwb⟩ : ∃ wb, w.alloc (.cells #[.int .i64 cl, .int .i64 fl, .int .i64 nx, .int .i64 hp, .bool true, .int .u64 fh, .int .u64 flo, .bool true, .int .u64 th, .int .u64 tlo, .string data] 26) = wb := ⟨_, rfl⟩
 have HB := Aside0.mk (Below.refl wb.heap.size wb)
 have HBW := Aside0.mk (show Below w.heap.size w wb by rw [← hwb]; exact below_alloc (Below.refl _ _) _)
 have HWS := Aside0.mk (show wb.heap.size = w.heap.size + 1 by rw [← hwb]; simp [go_sem])
 have HX := Aside0.mk (show wb.heap[w.heap.size]? = some (.cells #[.int .i64 cl, .int .i64 fl, .int .i64 nx, .int .i64 hp, .bool true, .int .u64 fh, .int .u64 flo, .bool true, .int .u64 th, .int .u64 tlo, .string data] 26 (0, 0)) by rw [← hwb]; exact heap_alloc_new _ _)
 have hu26 := Try.underlying26
 have hu24 := Try.underlying24
 have x0 : wb.cell? ⟨w.heap.size, 0, none⟩ = some (.int .i64 cl) := MStr.block_cell HX.out rfl
 have x1 : wb.cell? ⟨w.heap.size, 1, none⟩ = some (.int .i64 fl) := MStr.block_cell HX.out rfl
 have x2 : wb.cell? ⟨w.heap.size, 2, none⟩ = some (.int .i64 nx) := MStr.block_cell HX.out rfl
 have x3 : wb.cell? ⟨w.heap.size, 3, none⟩ = some (.int .i64 hp) := MStr.block_cell HX.out rfl
 have x4 : wb.cell? ⟨w.heap.size, 4, none⟩ = some (.bool true) := MStr.block_cell HX.out rfl
 have x7 : wb.cell? ⟨w.heap.size, 7, none⟩ = some (.bool true) := MStr.block_cell HX.out rfl
 have x10 : wb.cell? ⟨w.heap.size, 10, none⟩ = some (.string data) := MStr.block_cell HX.out rfl
 obtain ⟨c0, c1⟩ := h1; obtain ⟨n0, n1⟩ := h2; obtain ⟨p0, p1⟩ := h3; obtain ⟨f0, f1⟩ := h4
 go_enter Try.func10, Try.ntmps10
 go_wp2_with fail
 clear hwb
 refine (ip6_within.calls cl 255 true _ (ip6_within.yes ⟨c0, c1⟩)).mono ?_
 rintro e w2 ⟨rfl, ⟨nd1, rfl⟩⟩
 go_wp2_with fail
 refine (ip6_within.calls nx 255 true _ (ip6_within.yes ⟨n0, n1⟩)).mono ?_
 rintro e w2 ⟨rfl, ⟨nd2, rfl⟩⟩
 go_wp2_with fail
 refine (ip6_within.calls hp 255 true _ (ip6_within.yes ⟨p0, p1⟩)).mono ?_
 rintro e w2 ⟨rfl, ⟨nd3, rfl⟩⟩
 go_wp2_with fail
 refine (ip6_within.calls fl 1048575 true _ (ip6_within.yes ⟨f0, f1⟩)).mono ?_
 rintro e w2 ⟨rfl, ⟨nd4, rfl⟩⟩
 go_wp2_with fail
 refine (octet_Put.calls none 0 [] 4 _ _ _ (Kd.C_nil _ _) (Nat.le_refl _) (ip6_put (m := 4) (by decide) (by simp))).mono ?_
 rintro e w2 ⟨v2, rfl, ho, hb⟩
 replace HX := Aside0.mk (MStr.block_below (w := wb.drewN (nd1 + nd2 + nd3 + nd4)) HX.out hb)
 have HO := Aside0.mk (Kd.R_lower ho (show wb.heap.size ≤ _ from (show Below wb.heap.size wb _ from (by repeat (first | (with_reducible first | exact HB.out | apply below_alloc | apply pw_below_drewN | apply below_drew1) | exact HB.out))).size))
 replace HB := Aside0.mk (below_step (by repeat (first | (with_reducible first | exact HB.out | apply below_alloc | apply pw_below_drewN | apply below_drew1) | exact HB.out)) hb)
 clear ho hb x0 x1 x2 x3 x4 x7 x10
 obtain ⟨L1, hL1⟩ : ∃ L1, [] ++ MBe.be (IntKind.u64.wrap (Go.bits .or .i64 (Go.bits .or .i64 1610612736 (cl * 1048576)) fl)) 4 = L1 := ⟨_, rfl⟩
 rw [hL1] at HO
 have HL1 := Aside0.mk hL1
 have HN1 := Aside0.mk (show L1.length = 4 by rw [← hL1]; simp [MBe.be_length])
 clear hL1
 obtain ⟨A2, c2, rfl⟩ := Kd.R_slice HO.out
 have x10 : w2.cell? ⟨w.heap.size, 10, none⟩ = some (.string data) := MStr.block_cell HX.out rfl
 go_wp2_with fail
 refine (octet_Put.calls A2 c2 L1 2 _ _ _ (Kd.R_reads' HO.out).2.2 (Kd.R_reads' HO.out).2.1 (ip6_put (m := 2) (by decide) (by have := HN1.out; omega))).mono ?_
 rintro e w3 ⟨v3, rfl, ho, hb⟩
 replace HX := Aside0.mk (MStr.block_below HX.out hb)
 replace HO := Aside0.mk (Kd.R_lower ho (show wb.heap.size ≤ _ from HB.out.size))
 replace HB := Aside0.mk (below_step (by repeat (first | (with_reducible first | exact HB.out | apply below_alloc | apply pw_below_drewN | apply below_drew1) | exact HB.out)) hb)
 clear ho hb x10
 obtain ⟨L2, hL2⟩ : ∃ L2, L1 ++ MBe.be (data.size : Int) 2 = L2 := ⟨_, rfl⟩
 rw [hL2] at HO
 have HL2 := Aside0.mk hL2
 have HN2 := Aside0.mk (show L2.length = 6 by rw [← hL2]; simp [MBe.be_length, HN1.out])
 clear hL2
 obtain ⟨A3, c3, rfl⟩ := Kd.R_slice HO.out
 have x2 : w3.cell? ⟨w.heap.size, 2, none⟩ = some (.int .i64 nx) := MStr.block_cell HX.out rfl
 have x3 : w3.cell? ⟨w.heap.size, 3, none⟩ = some (.int .i64 hp) := MStr.block_cell HX.out rfl
 go_wp2_with (first | ((with_reducible refine gate_dst (N := 69) rfl ?_); refine Kd.R_lit (Kd.int .u8) _ 5 ?hg (N := 69) ?hd (xs := ([nx, hp] : List Int)) (inner := [.int .u8 nx, .int .u8 hp]) (ok := fun _ => True) (okp := fun _ => True) ?hr ?hp (fun _ hk => hk) trivial (Below.refl _ _) (Nat.le_refl _) (by simp) ?_; (case hd => rfl); (case hg => rfl); (case hr => first | (go_simp; done) | (go_simp; rfl)); (case hp => exact (Reps.one (show Kd.M (Kd.int .u8) _ _ _ nx [.int .u8 nx] from rfl) (Reps.one (show Kd.M (Kd.int .u8) _ _ _ hp [.int .u8 hp] from rfl) (Reps.none _ _)))); intro v7 w7 ho hb hg_ hnew_; clear hg_ hnew_; obtain ⟨A7, c7, e_⟩ := Kd.R_slice ho; subst e_; have C7 := Aside0.mk (Kd.R_reads' ho).2.2; have L7 := Aside0.mk (Kd.R_reads' ho).2.1; clear ho; replace HO := Aside0.mk (Kd.R_below HO.out hb); replace HX := Aside0.mk (MStr.block_below HX.out hb); replace HB := Aside0.mk (below_step (by repeat (first | (with_reducible first | exact HB.out | apply below_alloc | apply pw_below_drewN | apply below_drew1) | exact HB.out)) hb); clear hb) | ((with_reducible refine gate_builtin (b := .append) (xs := #[.tmp 62, .tmp 69]) rfl ?_); at_builtin; refine Kd.R_append_rows (Kd.int .u8) (w0 := wb) wb.heap.size rfl (.tmp 62) (.tmp 69) 48 5 (.int .u8 0) 1 rfl Try.underlying48 info5 rfl (by decide) (by omega) (.slice A3 L2.length c3) L2 [nx, hp] _ _ _ (fun _ => True) (fun _ => False) rfl rfl ?aO ?aR (fun _ _ h => h) (fun _ h => h.elim) ?aF ?aB ?aS ?aL ?_; (case aR => exact C7.out); (case aB => exact HB.out); (case aF => exact (fun _ _ => trivial)); (case aO => exact HO.out); (case aS => exact HB.out.size); (case aL => have := HN2.out; simp only [List.length_cons, List.length_nil]; omega); intro v8 w8 ho hb hg hat; have n0_ := Aside0.mk hb; have O8 := Aside0.mk ho; replace HX := Aside0.mk ((hg.block _ (Array.getElem?_eq_some_iff.1 HX.out).1 (fun e => by have h_ := Kd.R_base HO.out _ e.symm; have := HWS.out; omega)).trans HX.out); clear x2 x3 HO; have x5 := MStr.block_cell (j := 5) HX.out rfl; have x6 := MStr.block_cell (j := 6) HX.out rfl; have x8 := MStr.block_cell (j := 8) HX.out rfl; have x9 := MStr.block_cell (j := 9) HX.out rfl; clear HB; have HB := n0_; clear n0_; clear ho hb hg hat))
 obtain ⟨L3, hL3⟩ : ∃ L3, L2 ++ [nx, hp] = L3 := ⟨_, rfl⟩
 rw [hL3] at O8
 have HL3 := Aside0.mk hL3
 have HN3 := Aside0.mk (show L3.length = 8 by rw [← hL3]; simp [HN2.out])
 clear hL3 x5 x6 x8 x9 C7 L7
 have i0 : ∀ w, (Instr.index 51 (.agg #[.int .u64 fh, .int .u64 flo, .int .u64 th, .int .u64 tlo]) (.int .i64 0)).run Try.prog w = .ok (.int .u64 fh) w := fun _ => by kernel_rfl
 have i1 : ∀ w, (Instr.index 51 (.agg #[.int .u64 fh, .int .u64 flo, .int .u64 th, .int .u64 tlo]) (.int .i64 1)).run Try.prog w = .ok (.int .u64 flo) w := fun _ => by kernel_rfl
 have i2 : ∀ w, (Instr.index 51 (.agg #[.int .u64 fh, .int .u64 flo, .int .u64 th, .int .u64 tlo]) (.int .i64 2)).run Try.prog w = .ok (.int .u64 th) w := fun _ => by kernel_rfl
 have i3 : ∀ w, (Instr.index 51 (.agg #[.int .u64 fh, .int .u64 flo, .int .u64 th, .int .u64 tlo]) (.int .i64 3)).run Try.prog w = .ok (.int .u64 tlo) w := fun _ => by kernel_rfl
 go_loopg [4, 84] 4 (fun kq v4 v84 w' => ∃ i : Nat, v84 = .int .i64 (i : Int) ∧ Aside0 (4 = i + kq) ∧ Aside0 (Kd.R (Kd.int .u8) 5 w' wb.heap.size (fun _ => True) v4 (L3 ++ ip6_Lay.ends fh flo th tlo i)) ∧ Aside0 (w'.heap[w.heap.size]? = some (.cells #[.int .i64 cl, .int .i64 fl, .int .i64 nx, .int .i64 hp, .bool true, .int .u64 fh, .int .u64 flo, .bool true, .int .u64 th, .int .u64 tlo, .string data] 26 (0, 0))) ∧ Aside0 (Below wb.heap.size wb w'))
 case atStart => exact ⟨0, rfl, ⟨rfl⟩, ⟨by rw [show ip6_Lay.ends fh flo th tlo 0 = [] from rfl, List.append_nil]; exact O8.out⟩, HX, HB⟩
 case round =>
  clear O8 HX HB
  obtain ⟨i, rfl, HI, HO, HX, HB⟩ := hrel
  have hi := HI.out
  obtain ⟨Li, hLi⟩ : ∃ Li, L3 ++ ip6_Lay.ends fh flo th tlo i = Li := ⟨_, rfl⟩
  have HE := Aside0.mk (show Li.length ≤ 40 by have := ip6_Lay.ends_length fh flo th tlo i; rw [← hLi, List.length_append, HN3.out]; omega)
  rw [hLi] at HO
  have HLi := Aside0.mk hLi
  clear hLi
  obtain ⟨A4, c4, rfl⟩ := Kd.R_slice HO.out
  cases gk with
  | zero =>
   obtain rfl : 4 = i := by omega
   clear hi HI i0 i1 i2 i3
   have x10 : wr.cell? ⟨w.heap.size, 10, none⟩ = some (.string data) := MStr.block_cell HX.out rfl
   go_wp2_with (first | ((with_reducible refine gate_builtin (b := .append) (xs := #[.tmp 91, .tmp 93]) rfl ?_); at_builtin; refine MStr.R_append_str (w0 := wb) wb.heap.size rfl (.tmp 91) (.tmp 93) 48 9 5 rfl Try.underlying48 Try.underlying9 info5 _ Li data rfl rfl HO.out HB.out HB.out.size (by have := HE.out; omega) ?_; intro v9 w9 ho hb hg; have hcv := own_string (P := Try.prog) Try.underlying48 Try.underlying5 Try.underlying9 (Kd.own_of_R ho); clear HO HB ho hg x10; have HB := Aside0.mk hb; clear hb))
   go_ret2
   refine ⟨?_, below_step HBW.out HB.out⟩
   rw [← HLi.out, ← HL3.out, ← HL2.out, ← HL1.out]
   unfold ip6_Lay.of ip6_Lay.head ip6_Lay.first
   simp
  | succ d =>
   rcases (show i = 0 ∨ i = 1 ∨ i = 2 ∨ i = 3 by omega) with rfl | rfl | rfl | rfl
   all_goals
    clear hi
    go_wp2_with fail
    refine (octet_Put.calls A4 c4 Li 8 _ _ _ (Kd.R_reads' HO.out).2.2 (Kd.R_reads' HO.out).2.1 (ip6_put (m := 8) (by decide) (by have := HE.out; omega))).mono ?_
    rintro e w5 ⟨v5, rfl, ho, hb⟩
    rw [← HLi.out, List.append_assoc] at ho
    replace HX := Aside0.mk (MStr.block_below HX.out hb)
    have HO5 := Aside0.mk (Kd.R_lower ho (show wb.heap.size ≤ _ from HB.out.size))
    replace HB := Aside0.mk (below_step (by repeat (first | (with_reducible first | exact HB.out | apply below_alloc | apply pw_below_drewN | apply below_drew1) | exact HB.out)) hb)
    clear ho hb HO HE
    go_wp2_with fail
    go_roundg d
    case measure => omega
    case rel => first | exact ⟨1, rfl, ⟨by have := HI.out; omega⟩, ⟨HO5.out⟩, HX, HB⟩ | exact ⟨2, rfl, ⟨by have := HI.out; omega⟩, ⟨HO5.out⟩, HX, HB⟩ | exact ⟨3, rfl, ⟨by have := HI.out; omega⟩, ⟨HO5.out⟩, HX, HB⟩ | exact ⟨4, rfl, ⟨by have := HI.out; omega⟩, ⟨HO5.out⟩, HX, HB⟩
set_option maxHeartbeats 4000000 in
set_option maxRecDepth 100000 in
theorem ip6_Lay.bad (cl fl nx hp : Int) (s1 : Bool) (fh flo : Int) (s2 : Bool) (th tlo : Int) (data : ByteArray) (w : World) (hbad : ¬ ((0 ≤ cl ∧ cl ≤ 255) ∧ (0 ≤ nx ∧ nx ≤ 255) ∧ (0 ≤ hp ∧ hp ≤ 255) ∧ (0 ≤ fl ∧ fl ≤ 1048575) ∧ s1 = true ∧ s2 = true)) :
  Calls Try.prog 10 #[.agg #[.int .i64 cl, .int .i64 fl, .int .i64 nx, .int .i64 hp, .bool s1, .int .u64 fh, .int .u64 flo, .bool s2, .int .u64 th, .int .u64 tlo, .string data]] w fun e w' => e = .returned (.tuple #[.string ⟨#[]⟩, .int .i64 60]) ∧ Below w.heap.size w w' := by
 have HBW := Aside0.mk (below_alloc (Below.refl w.heap.size w) (.cells #[.int .i64 cl, .int .i64 fl, .int .i64 nx, .int .i64 hp, .bool s1, .int .u64 fh, .int .u64 flo, .bool s2, .int .u64 th, .int .u64 tlo, .string data] 26))
 have hu26 := Try.underlying26
 have hu24 := Try.underlying24
 by_cases h1 : 0 ≤ cl ∧ cl ≤ 255
 case neg =>
  have A1 := ip6_within.no h1
  clear h1 hbad
  go_enter Try.func10, Try.ntmps10
  go_wp2_with fail
  refine (ip6_within.calls cl 255 false _ A1).mono ?_
  rintro e w2 ⟨rfl, ⟨nd1, rfl⟩⟩
  clear A1
  go_wp2_with fail
  go_ret2
  exact ⟨rfl, pw_below_drewN HBW.out _⟩
 have A1 := Aside0.mk (ip6_within.yes h1)
 by_cases h2 : 0 ≤ nx ∧ nx ≤ 255
 case neg =>
  have A2 := Aside0.mk (ip6_within.no h2)
  clear h1 h2 hbad
  go_enter Try.func10, Try.ntmps10
  go_wp2_with fail
  refine (ip6_within.calls cl 255 true _ A1.out).mono ?_
  rintro e w2 ⟨rfl, ⟨nd1, rfl⟩⟩
  go_wp2_with fail
  refine (ip6_within.calls nx 255 false _ A2.out).mono ?_
  rintro e w2 ⟨rfl, ⟨nd2, rfl⟩⟩
  go_wp2_with fail
  go_ret2
  exact ⟨rfl, pw_below_drewN HBW.out _⟩
 have A2 := Aside0.mk (ip6_within.yes h2)
 by_cases h3 : 0 ≤ hp ∧ hp ≤ 255
 case neg =>
  have A3 := Aside0.mk (ip6_within.no h3)
  clear h1 h2 h3 hbad
  go_enter Try.func10, Try.ntmps10
  go_wp2_with fail
  refine (ip6_within.calls cl 255 true _ A1.out).mono ?_
  rintro e w2 ⟨rfl, ⟨nd1, rfl⟩⟩
  go_wp2_with fail
  refine (ip6_within.calls nx 255 true _ A2.out).mono ?_
  rintro e w2 ⟨rfl, ⟨nd2, rfl⟩⟩
  go_wp2_with fail
  refine (ip6_within.calls hp 255 false _ A3.out).mono ?_
  rintro e w2 ⟨rfl, ⟨nd3, rfl⟩⟩
  go_wp2_with fail
  go_ret2
  exact ⟨rfl, pw_below_drewN HBW.out _⟩
 have A3 := Aside0.mk (ip6_within.yes h3)
 by_cases h4 : 0 ≤ fl ∧ fl ≤ 1048575
 case neg =>
  have A4 := Aside0.mk (ip6_within.no h4)
  clear h1 h2 h3 h4 hbad
  go_enter Try.func10, Try.ntmps10
  go_wp2_with fail
  refine (ip6_within.calls cl 255 true _ A1.out).mono ?_
  rintro e w2 ⟨rfl, ⟨nd1, rfl⟩⟩
  go_wp2_with fail
  refine (ip6_within.calls nx 255 true _ A2.out).mono ?_
  rintro e w2 ⟨rfl, ⟨nd2, rfl⟩⟩
  go_wp2_with fail
  refine (ip6_within.calls hp 255 true _ A3.out).mono ?_
  rintro e w2 ⟨rfl, ⟨nd3, rfl⟩⟩
  go_wp2_with fail
  refine (ip6_within.calls fl 1048575 false _ A4.out).mono ?_
  rintro e w2 ⟨rfl, ⟨nd4, rfl⟩⟩
  go_wp2_with fail
  go_ret2
  exact ⟨rfl, pw_below_drewN HBW.out _⟩
 have A4 := Aside0.mk (ip6_within.yes h4)
 have h5 : s1 = false ∨ (s1 = true ∧ s2 = false) := by
  cases s1 with
  | false => exact .inl rfl
  | true => cases s2 with
   | false => exact .inr ⟨rfl, rfl⟩
   | true => exact absurd ⟨h1, h2, h3, h4, rfl, rfl⟩ hbad
 clear h1 h2 h3 h4 hbad
 rcases h5 with rfl | ⟨rfl, rfl⟩
 all_goals
  go_enter Try.func10, Try.ntmps10
  go_wp2_with fail
  refine (ip6_within.calls cl 255 true _ A1.out).mono ?_
  rintro e w2 ⟨rfl, ⟨nd1, rfl⟩⟩
  go_wp2_with fail
  refine (ip6_within.calls nx 255 true _ A2.out).mono ?_
  rintro e w2 ⟨rfl, ⟨nd2, rfl⟩⟩
  go_wp2_with fail
  refine (ip6_within.calls hp 255 true _ A3.out).mono ?_
  rintro e w2 ⟨rfl, ⟨nd3, rfl⟩⟩
  go_wp2_with fail
  refine (ip6_within.calls fl 1048575 true _ A4.out).mono ?_
  rintro e w2 ⟨rfl, ⟨nd4, rfl⟩⟩
  go_wp2_with fail
  go_ret2
  exact ⟨rfl, pw_below_drewN HBW.out _⟩
set_option maxHeartbeats 4000000 in
set_option maxRecDepth 100000 in
theorem ip6_Lay.long (cl fl nx hp fh flo th tlo : Int) (data : ByteArray) (w : World) (h1 : 0 ≤ cl ∧ cl ≤ 255) (h2 : 0 ≤ nx ∧ nx ≤ 255) (h3 : 0 ≤ hp ∧ hp ≤ 255) (h4 : 0 ≤ fl ∧ fl ≤ 1048575) (hs : 65535 < (data.size : Int)) :
  Calls Try.prog 10 #[.agg #[.int .i64 cl, .int .i64 fl, .int .i64 nx, .int .i64 hp, .bool true, .int .u64 fh, .int .u64 flo, .bool true, .int .u64 th, .int .u64 tlo, .string data]] w fun e w' => e = .returned (.tuple #[.string ⟨#[]⟩, .int .i64 62]) ∧ Below w.heap.size w w' := by
 have HBW := Aside0.mk (below_alloc (Below.refl w.heap.size w) (.cells #[.int .i64 cl, .int .i64 fl, .int .i64 nx, .int .i64 hp, .bool true, .int .u64 fh, .int .u64 flo, .bool true, .int .u64 th, .int .u64 tlo, .string data] 26))
 have hu26 := Try.underlying26
 have hu24 := Try.underlying24
 have A1 := Aside0.mk (ip6_within.yes h1)
 have A2 := Aside0.mk (ip6_within.yes h2)
 have A3 := Aside0.mk (ip6_within.yes h3)
 have A4 := Aside0.mk (ip6_within.yes h4)
 clear h1 h2 h3 h4
 go_enter Try.func10, Try.ntmps10
 go_wp2_with fail
 refine (ip6_within.calls cl 255 true _ A1.out).mono ?_
 rintro e w2 ⟨rfl, ⟨nd1, rfl⟩⟩
 go_wp2_with fail
 refine (ip6_within.calls nx 255 true _ A2.out).mono ?_
 rintro e w2 ⟨rfl, ⟨nd2, rfl⟩⟩
 go_wp2_with fail
 refine (ip6_within.calls hp 255 true _ A3.out).mono ?_
 rintro e w2 ⟨rfl, ⟨nd3, rfl⟩⟩
 go_wp2_with fail
 refine (ip6_within.calls fl 1048575 true _ A4.out).mono ?_
 rintro e w2 ⟨rfl, ⟨nd4, rfl⟩⟩
 go_wp2_with fail
 go_ret2
 exact ⟨rfl, pw_below_drewN HBW.out _⟩
def ip6_Lay.f (a0_0 a0_1 a0_2 a0_3 : Int) (a0_4 : Bool) (a0_5 a0_6 : Int) (a0_7 : Bool) (a0_8 a0_9 : Int) (a0_10 : ByteArray) : Option (ByteArray × Int) :=
 if (0 ≤ a0_0 ∧ a0_0 ≤ 255) ∧ (0 ≤ a0_2 ∧ a0_2 ≤ 255) ∧ (0 ≤ a0_3 ∧ a0_3 ≤ 255) ∧ (0 ≤ a0_1 ∧ a0_1 ≤ 1048575) ∧ a0_4 = true ∧ a0_7 = true then
  (if 65535 < (a0_10.size : Int) then some (⟨#[]⟩, 62) else some (strOfNums (ip6_Lay.of a0_0 a0_1 a0_2 a0_3 a0_5 a0_6 a0_8 a0_9 a0_10), 0))
 else some (⟨#[]⟩, 60)
theorem ip6_Lay.calls (a0_0 a0_1 a0_2 a0_3 : Int) (a0_4 : Bool) (a0_5 a0_6 : Int) (a0_7 : Bool) (a0_8 a0_9 : Int) (a0_10 : ByteArray) (r1 : ByteArray) (r2 : Int) (w : World) (h : ip6_Lay.f a0_0 a0_1 a0_2 a0_3 a0_4 a0_5 a0_6 a0_7 a0_8 a0_9 a0_10 = some (r1, r2)) :
  Calls Try.prog 10 #[.agg #[.int .i64 a0_0, .int .i64 a0_1, .int .i64 a0_2, .int .i64 a0_3, .bool a0_4, .int .u64 a0_5, .int .u64 a0_6, .bool a0_7, .int .u64 a0_8, .int .u64 a0_9, .string a0_10]] w fun e w' => e = .returned (.tuple #[.string r1, .int .i64 r2]) ∧ Below w.heap.size w w' := by
 unfold ip6_Lay.f at h
 split at h
 · rename_i hm
   obtain ⟨h1, h2, h3, h4, rfl, rfl⟩ := hm
   split at h
   · injection h with h; injection h with e1 e2; subst e1 e2
     rename_i hl
     exact ip6_Lay.long _ _ _ _ _ _ _ _ _ w h1 h2 h3 h4 hl
   · injection h with h; injection h with e1 e2; subst e1 e2
     rename_i hl
     exact ip6_Lay.good _ _ _ _ _ _ _ _ _ w h1 h2 h3 h4 (by omega)
 · injection h with h; injection h with e1 e2; subst e1 e2
   rename_i hm
   exact ip6_Lay.bad _ _ _ _ _ _ _ _ _ _ _ w hm

/-! ### octet_New: function 26 (by hand) -/
set_option maxHeartbeats 1000000 in
set_option maxRecDepth 100000 in
theorem octet_New.calls (A0 : Option Addr) (c0 : Nat) (l0 : List Int) (w : World) (hr0 : Kd.C (Kd.int .u8) w A0 l0.length l0) (hc0 : l0.length ≤ c0) (hl : l0.length ≤ 140737488355200) :
  Calls Try.prog 26 #[.slice A0 l0.length c0] w fun e w' => ∃ g b : Nat, e = .returned (.pointer (some ⟨g, 0, none⟩)) ∧ MReader.Rdr 58 w' g b l0 false ∧ w.heap.size ≤ g ∧ w.heap.size ≤ b ∧ Below w.heap.size w w' := by
 have HR0 := Aside0.mk hr0
 have HC0 := Aside0.mk hc0
 clear hr0 hc0
 have HB := Aside0.mk (Below.refl w.heap.size w)
 obtain ⟨N, hN⟩ : ∃ N, l0.length = N := ⟨_, rfl⟩
 have HR1 := Aside0.mk (show Kd.C (Kd.int .u8) w A0 N l0 by rw [← hN]; exact HR0.out)
 rw [hN] at hl ⊢
 have HN := Aside0.mk hN
 clear hN HR0 HC0
 go_enter Try.func26, Try.ntmps26
 go_wp2_with (first | ((with_reducible refine gate_dst (N := 6) rfl ?_); refine Kd.R_make (Kd.int .u8) _ 5 rfl (N := 6) rfl 48 _ _ rfl (N : Int) rfl rfl Try.underlying48 (.int .u8 0) 1 info5 rfl (by decide) (by omega) 0 (ok := fun _ => True) (okp := fun _ => True) rfl (fun _ hk => hk) trivial (by omega) (by omega) (Below.refl _ _) (Nat.le_refl _) ?_; intro v1 w1 ho1 hb hg_ hnew_; clear hg_; rw [Int.toNat_natCast] at ho1; have HO1 := Aside0.mk ho1; have HNEW := Aside0.mk hnew_; clear hnew_; obtain ⟨A1, c1, e1⟩ := Kd.R_slice ho1; rw [List.length_replicate] at e1; subst e1; replace HB := Aside0.mk (below_step HB.out hb); clear hb ho1) | ((with_reducible refine gate_builtin (b := .copy) (xs := #[.tmp 7, .tmp 8]) rfl ?_); refine MCopy.R_copy (k := .u8) (w0 := w) (base := w.heap.size) (ok := fun _ => True) rfl (.tmp 7) (.tmp 8) 48 rfl Try.underlying48 (by kernel_rfl) (.slice A1 N c1) (List.replicate N 0) l0 A0 N c0 rfl rfl HO1.out (Kd.C_below HR1.out HB.out) HB.out ?_; intro w2 n2 ho2 hb2; have HO2 := Aside0.mk ho2; clear HO1 HB ho2; have HB := Aside0.mk hb2; clear hb2))
 go_ret
 obtain ⟨b, hb, hbl⟩ := HNEW.out
 obtain ⟨ad, rfl⟩ : ∃ ad, A1 = some ad := by
  cases A1 with
  | none => simp [Value.ownBlock] at hb
  | some ad => exact ⟨ad, rfl⟩
 have hbk : ad.block = b := by simpa [Value.ownBlock] using hb
 have hrd := Kd.R_reads' HO2.out
 have hlen : (l0.take (List.replicate N (0 : Int)).length ++ (List.replicate N (0 : Int)).drop l0.length) = l0 := by
  rw [List.length_replicate, List.take_of_length_le (by rw [HN.out]; exact Nat.le_refl _), HN.out, List.drop_replicate, Nat.sub_self]; simp
 have hlt := Kd.R_lt HO2.out b (by simp [Value.ownBlock, hbk])
 rw [hlen] at hrd
 refine ⟨w2.heap.size, b, rfl, ⟨⟨some ad, c1, ?_, ?_, ?_, (fun h0 => by cases h0), fun a ha => by injection ha with ha; rw [← ha]; exact hbk⟩, ?_, ?_⟩, HB.out.size, hbl, below_alloc HB.out _⟩
 · rw [HN.out]; exact heap_alloc_new _ _
 · rw [HN.out]; exact hrd.2.1
 · exact Kd.C_alloc hrd.2.2 _
 · exact Nat.lt_of_lt_of_le hlt (World.grownBy_alloc w2 _ none).size
 · omega

/-! ### octet_Get: function 30 -/
mutual
def octet_Get.j0 : Nat → List Int → Int → Int → Bool → Option (Int × Bool)
 | 0, _, _, _, _ => none
 | k + 1, x0, x1, x2, x33 => if x33 = true then (some (0, false)) else (octet_Get.l0 k x0 x1 0 x2 0)
def octet_Get.l0 : Nat → List Int → Int → Int → Int → Int → Option (Int × Bool)
 | 0, _, _, _, _, _ => none
 | k + 1, x0, x1, x8, x34, x35 => if x35 < x34 then (if 0 ≤ (wrap64 (x1 + x35)) then (if (wrap64 (x1 + x35)) < (x0.length : Int) then (octet_Get.l0 k x0 x1 (Go.bits .or .u64 (IntKind.u64.wrap (x8 * 256)) (IntKind.u64.wrap (rd x0 (wrap64 (x1 + x35))))) x34 (wrap64 (x35 + 1))) else (none)) else (none)) else (some (x8, true))
end
def octet_Get.f (k : Nat) (l0 : List Int) (a1 : Int) (a2 : Int) : Option (Int × Bool) := if a2 < 0 then (octet_Get.j0 k l0 a1 a2 true) else (if a2 > 8 then (octet_Get.j0 k l0 a1 a2 true) else (if a1 < 0 then (octet_Get.j0 k l0 a1 a2 true) else (if a1 > (l0.length : Int) then (octet_Get.j0 k l0 a1 a2 true) else (octet_Get.j0 k l0 a1 a2 (decide (a2 > (wrap64 ((l0.length : Int) - a1))))))))
theorem octet_Get.mono_l : ∀ k, (∀ y0 y1 y2 y3, LeO (octet_Get.j0 k y0 y1 y2 y3) (octet_Get.j0 (k + 1) y0 y1 y2 y3)) ∧ (∀ y0 y1 y2 y3 y4, LeO (octet_Get.l0 k y0 y1 y2 y3 y4) (octet_Get.l0 (k + 1) y0 y1 y2 y3 y4))
 | 0 => ⟨fun _ _ _ _ r h => by simp [octet_Get.j0] at h, fun _ _ _ _ _ r h => by simp [octet_Get.l0] at h⟩
 | k + 1 => by
  obtain ⟨ih0, ih1⟩ := octet_Get.mono_l k
  refine ⟨?_, ?_⟩
  ·
   intro y0 y1 y2 y3
   unfold octet_Get.j0
   repeat' first
   | (with_reducible exact ih0 _ _ _ _)
   | (with_reducible exact ih1 _ _ _ _ _)
   | (with_reducible exact LeO.refl _)
   | (with_reducible exact LeO.none _)
   | (with_reducible refine LeO.ite ?_ ?_)
   | (with_reducible refine LeO.bind ?_ (fun _ => ?_))
   | exact ih0 _ _ _ _
   | exact ih1 _ _ _ _ _
   | exact LeO.none _
   | refine LeO.ite ?_ ?_
   | refine LeO.bind ?_ (fun _ => ?_)
  ·
   intro y0 y1 y2 y3 y4
   unfold octet_Get.l0
   repeat' first
   | (with_reducible exact ih0 _ _ _ _)
   | (with_reducible exact ih1 _ _ _ _ _)
   | (with_reducible exact LeO.refl _)
   | (with_reducible exact LeO.none _)
   | (with_reducible refine LeO.ite ?_ ?_)
   | (with_reducible refine LeO.bind ?_ (fun _ => ?_))
   | exact ih0 _ _ _ _
   | exact ih1 _ _ _ _ _
   | exact LeO.none _
   | refine LeO.ite ?_ ?_
   | refine LeO.bind ?_ (fun _ => ?_)
theorem octet_Get.mono : ∀ a0 a1 a2 k, LeO (octet_Get.f k a0 a1 a2) (octet_Get.f (k + 1) a0 a1 a2) := by
 intro a0 a1 a2 k
 obtain ⟨ih0, ih1⟩ := octet_Get.mono_l k
 unfold octet_Get.f
 repeat' first
   | (with_reducible exact ih0 _ _ _ _)
   | (with_reducible exact ih1 _ _ _ _ _)
   | (with_reducible exact LeO.refl _)
   | (with_reducible exact LeO.none _)
   | (with_reducible refine LeO.ite ?_ ?_)
   | (with_reducible refine LeO.bind ?_ (fun _ => ?_))
   | exact ih0 _ _ _ _
   | exact ih1 _ _ _ _ _
   | exact LeO.none _
   | refine LeO.ite ?_ ?_
   | refine LeO.bind ?_ (fun _ => ?_)
set_option maxHeartbeats 8000000 in
set_option maxRecDepth 100000 in
theorem octet_Get.calls (k : Nat) (A0 : Option Addr) (c0 : Nat) (l0 : List Int) (a1 : Int) (a2 : Int) (r1 : Int) (r2 : Bool) (w : World) (hr0 : Kd.C (Kd.int .u8) w A0 l0.length l0) (hc0 : l0.length ≤ c0) (h : octet_Get.f k l0 a1 a2 = some (r1, r2)) :
  Calls Try.prog 30 #[.slice A0 l0.length c0, .int .i64 a1, .int .i64 a2] w fun e w' => e = .returned (.tuple #[.int .u64 r1, .bool r2]) ∧ Drawn0 w w' := by
 have HR0 := Aside0.mk hr0
 have HC0 := Aside0.mk hc0
 clear hr0 hc0
 have H : (if a2 < 0 then (octet_Get.j0 k l0 a1 a2 true) else (if a2 > 8 then (octet_Get.j0 k l0 a1 a2 true) else (if a1 < 0 then (octet_Get.j0 k l0 a1 a2 true) else (if a1 > (l0.length : Int) then (octet_Get.j0 k l0 a1 a2 true) else (octet_Get.j0 k l0 a1 a2 (decide (a2 > (wrap64 ((l0.length : Int) - a1))))))))) = some (r1, r2) := h
 clear h
 have HC4 := Aside0.mk H
 clear H
 go_enter Try.func30, Try.ntmps30
 go_upto_region 1 with (fail)
 go_cut [33] (fun v33 wc => ∃ (kq : Nat) (x33_3 : Bool), v33 = .bool x33_3 ∧ Aside0 (octet_Get.j0 kq l0 a1 a2 x33_3 = some (r1, r2)) ∧ Aside0 (kq ≤ k) ∧ Drawn0 w wc)
 case first =>
  have H := HC4.out
  clear HC4
  by_cases c5 : a2 < 0
  ·
   rw [if_pos c5] at H
   have c5b0 : decide (a2 < 0) = true := decide_eq_true c5
   clear c5
   (first | rw [c5b0] | (simp only [i64_w, i32_w]; rw [c5b0]) | skip)
   have H' := Aside0.mk H
   clear H
   go_wp2
   go_meet
   case rel => exact ⟨_, (true), (by first | rfl | (simp; done) | (simp [*]; done)), H', ⟨by first | omega | exact Nat.le_refl _⟩, by repeat (first | exact Drawn0.refl _ | apply Drawn0.step)⟩
  ·
   rw [if_neg c5] at H
   have c5b0 : decide (a2 < 0) = false := decide_eq_false c5
   clear c5
   (first | rw [c5b0] | (simp only [i64_w, i32_w]; rw [c5b0]) | skip)
   by_cases c6 : a2 > 8
   ·
    rw [if_pos c6] at H
    have c6b0 : decide (8 < a2) = true := decide_eq_true c6
    clear c6
    have H' := Aside0.mk H
    clear H
    go_wp2
    go_meet
    case rel => exact ⟨_, (true), (by first | rfl | (simp; done) | (simp [*]; done)), H', ⟨by first | omega | exact Nat.le_refl _⟩, by repeat (first | exact Drawn0.refl _ | apply Drawn0.step)⟩
   ·
    rw [if_neg c6] at H
    have c6b0 : decide (8 < a2) = false := decide_eq_false c6
    clear c6
    by_cases c7 : a1 < 0
    ·
     rw [if_pos c7] at H
     have c7b0 : decide (a1 < 0) = true := decide_eq_true c7
     clear c7
     have H' := Aside0.mk H
     clear H
     go_wp2
     go_meet
     case rel => exact ⟨_, (true), (by first | rfl | (simp; done) | (simp [*]; done)), H', ⟨by first | omega | exact Nat.le_refl _⟩, by repeat (first | exact Drawn0.refl _ | apply Drawn0.step)⟩
    ·
     rw [if_neg c7] at H
     have c7b0 : decide (a1 < 0) = false := decide_eq_false c7
     clear c7
     by_cases c8 : a1 > (l0.length : Int)
     ·
      rw [if_pos c8] at H
      have c8b0 : decide ((l0.length : Int) < a1) = true := decide_eq_true c8
      clear c8
      have H' := Aside0.mk H
      clear H
      go_wp2
      go_meet
      case rel => exact ⟨_, (true), (by first | rfl | (simp; done) | (simp [*]; done)), H', ⟨by first | omega | exact Nat.le_refl _⟩, by repeat (first | exact Drawn0.refl _ | apply Drawn0.step)⟩
     ·
      rw [if_neg c8] at H
      have c8b0 : decide ((l0.length : Int) < a1) = false := decide_eq_false c8
      clear c8
      have H' := Aside0.mk H
      clear H
      go_wp2
      go_meet
      case rel => exact ⟨_, (decide (a2 > (wrap64 ((l0.length : Int) - a1)))), (by first | rfl | (simp; done) | (simp [*]; done)), H', ⟨by first | omega | exact Nat.le_refl _⟩, by repeat (first | exact Drawn0.refl _ | apply Drawn0.step)⟩
 case rest =>
  clear HC4
  try clear p2
  try clear c3
  try clear c5
  try clear c5b0
  try clear c6
  try clear c6b0
  try clear p6
  try clear c7
  try clear c7b0
  try clear c8
  try clear c8b0
  obtain ⟨kq, x33_3, rfl, HA, HJ3, ⟨mc3, rfl⟩⟩ := hcut
  cases kq with
  | zero => exact absurd HA.out (by simp [octet_Get.j0])
  | succ kj3 =>
   have H := HA.out
   clear HA
   simp only [octet_Get.j0] at H
   by_cases c9 : x33_3 = true
   ·
    subst c9
    have H1 : (some (0, false)) = some (r1, r2) := by rw [if_pos rfl] at H; exact H
    clear H
    have H := H1
    clear H1
    simp only [Option.some.injEq, Prod.mk.injEq] at H
    obtain ⟨rfl, rfl⟩ := H
    go_wp2
    go_ret2
    exact ⟨by first | rfl | (simp; done) | (simp [*]; done), by repeat (first | exact Drawn0.refl _ | apply Drawn0.step)⟩
   ·
    replace c9 := Bool.eq_false_iff.mpr c9
    subst c9
    have H1 : (octet_Get.l0 kj3 l0 a1 0 a2 0) = some (r1, r2) := by rw [if_neg (show ¬ (false = true) by decide)] at H; exact H
    clear H
    have H := H1
    clear H1
    have H' := Aside0.mk H
    clear H
    go_wp2
    go_loopg [8, 35] kj3 (fun kq v8 v35 w' => ∃ (x8_2 : Int) (x35_2 : Int), v8 = .int .u64 x8_2 ∧ v35 = .int .i64 x35_2 ∧ Aside0 (octet_Get.l0 kq l0 a1 x8_2 a2 x35_2 = some (r1, r2)) ∧ Aside0 (kq ≤ kj3) ∧ Drawn0 w w')
    case atStart => exact ⟨(0), (0), (by first | rfl | (simp; done) | (simp [*]; done)), (by first | rfl | (simp; done) | (simp [*]; done)), H', ⟨Nat.le_refl _⟩, by repeat (first | exact Drawn0.refl _ | apply Drawn0.step)⟩
    case round =>
     clear H'
     try clear p2
     try clear c3
     try clear c5
     try clear c5b0
     try clear c6
     try clear c6b0
     try clear p6
     try clear c7
     try clear c7b0
     try clear c8
     try clear c8b0
     try clear c9
     try clear p2
     try clear p6
     obtain ⟨x8_2, x35_2, rfl, rfl, HA, HK2, ⟨m2, rfl⟩⟩ := hrel
     cases gk with
     | zero => exact absurd HA.out (by simp [octet_Get.l0])
     | succ k2 =>
      have H := HA.out
      clear HA
      simp only [octet_Get.l0] at H
      by_cases c10 : x35_2 < a2
      ·
       rw [if_pos c10] at H
       have c10b0 : decide (x35_2 < a2) = true := decide_eq_true c10
       clear c10
       obtain ⟨ji11, hji11⟩ : ∃ j_ : Int, (wrap64 (a1 + x35_2)) = j_ := ⟨_, rfl⟩
       replace H : (if 0 ≤ (ji11) then (if (ji11) < (l0.length : Int) then (octet_Get.l0 k2 l0 a1 (Go.bits .or .u64 (IntKind.u64.wrap (x8_2 * 256)) (IntKind.u64.wrap (rd l0 (ji11)))) a2 (wrap64 (x35_2 + 1))) else (none)) else (none)) = some (r1, r2) := by first | (rw [hji11] at H; exact H) | (simp only [hji11] at H ⊢; exact H)
       have hji11w : (IntKind.i64.wrap (a1 + x35_2)) = ji11 := (i64_w _).trans hji11
       by_cases c12 : 0 ≤ (ji11)
       ·
        rw [if_pos c12] at H
        have c12b0 : decide (0 ≤ (ji11)) = true := decide_eq_true c12
        clear c12
        by_cases c13 : (ji11) < (l0.length : Int)
        ·
         rw [if_pos c13] at H
         have c13b0 : decide ((ji11) < (l0.length : Int)) = true := decide_eq_true c13
         clear c13
         have H' := Aside0.mk H
         clear H
         have p101 : 0 ≤ ((ji11) : Int) := of_decide_eq_true (by first | (with_reducible assumption) | assumption)
         have q101 : (ji11) < (l0.length : Int) := of_decide_eq_true (by first | (with_reducible assumption) | assumption)
         obtain ⟨ad101, e101, hx101_0⟩ := Kd.at_int HR0.out (ji11) p101 q101
         cases e101
         replace p101 := eq_true p101
         replace q101 := eq_true q101
         go_wp2
         go_roundg k2
         case measure => have := HJ3.out; have := HK2.out; omega
         case rel => exact ⟨(Go.bits .or .u64 (IntKind.u64.wrap (x8_2 * 256)) (IntKind.u64.wrap (rd l0 (ji11)))), (wrap64 (x35_2 + 1)), (by first | rfl | (simp; done) | (simp only [← hji11] <;> (first | rfl | simp)) | (simp [*]; done)), (by first | rfl | (simp; done) | (simp [*]; done)), H', ⟨by have := HJ3.out; have := HK2.out; omega⟩, by repeat (first | exact Drawn0.refl _ | apply Drawn0.step)⟩
        ·
         rw [if_neg c13] at H
         exact absurd H (by simp)
       ·
        rw [if_neg c12] at H
        exact absurd H (by simp)
      ·
       rw [if_neg c10] at H
       have c10b0 : decide (x35_2 < a2) = false := decide_eq_false c10
       clear c10
       simp only [Option.some.injEq, Prod.mk.injEq] at H
       obtain ⟨rfl, rfl⟩ := H
       go_wp2
       go_ret2
       exact ⟨by first | rfl | (simp; done) | (simp [*]; done), by repeat (first | exact Drawn0.refl _ | apply Drawn0.step)⟩

/-! ### octet_Reader_ends: function 31 (by hand) -/
set_option maxHeartbeats 400000 in
theorem octet_Reader_ends.calls (g b : Nat) (l : List Int) (s : Bool) (w : World) (h : MReader.Rdr 58 w g b l s) :
  Calls Try.prog 31 #[.pointer (some ⟨g, 0, none⟩)] w fun e w' => e = .returned (.tuple #[]) ∧ MReader.Rdr 58 w' g b [] true ∧ w.grownBy w' (some g) := by
 obtain ⟨A, c, x0, x1, f0, f1, hl, hC, hA⟩ := h.cells
 obtain ⟨⟨A', c', h1, _⟩, hlt, hne⟩ := h
 have H1 := Aside0.mk h1
 clear h1 hl hC hA
 go_enter Try.func31, Try.ntmps31
 go_wp2
 go_end0
 have e1 := MReader.setCell_heap (j := 1) (u := .bool true) (MReader.setCell_heap (j := 0) (u := .slice none 0 0) H1.out)
 refine ⟨rfl, ⟨⟨none, 0, by simpa using e1, Nat.le_refl _, Kd.C_nil _ _, fun _ => rfl, fun _ h0 => by cases h0⟩, by simpa [World.setCell] using hlt, hne⟩, ?_⟩
 exact MReader.grown_trans (MReader.setCell_grown _ _ _ _) (MReader.setCell_grown _ _ _ _)

/-! ### octet_Reader_Num: function 27 (by hand) -/
set_option maxHeartbeats 1000000 in
set_option maxRecDepth 100000 in
theorem octet_Reader_Num.bad (k : Nat) (g b : Nat) (l : List Int) (s : Bool) (width n : Int) (ok : Bool) (w : World) (h : MReader.Rdr 58 w g b l s) (hg : octet_Get.f k l 0 width = some (n, ok)) (hbad : s = true ∨ ok = false) :
  Calls Try.prog 27 #[.pointer (some ⟨g, 0, none⟩), .int .i64 width] w fun e w' => e = .returned (.int .u64 0) ∧ MReader.Rdr 58 w' g b [] true ∧ w.grownBy w' (some g) := by
 obtain ⟨A, c, x0, x1, f0, f1, hl, hC, hN, hA⟩ := h.cells
 have HR := Aside0.mk h
 have HG := Aside0.mk hg
 have HC := Aside0.mk hC
 have HL := Aside0.mk hl
 clear h hg hl hC hN hA
 cases s with
 | true =>
  clear hbad
  go_enter Try.func27, Try.ntmps27
  go_wp2_with fail
  refine (octet_Get.calls k _ _ l 0 width n ok _ HC.out HL.out HG.out).mono ?_
  rintro e w2 ⟨rfl, ⟨nd, rfl⟩⟩
  go_wp2_with fail
  refine (octet_Reader_ends.calls g b l true _ (HR.out.drewN nd)).mono ?_
  rintro e w3 ⟨rfl, hr, hgr⟩
  have HR3 := Aside0.mk hr
  have HG3 := Aside0.mk hgr
  clear hr hgr
  go_wp2_with fail
  go_ret
  exact ⟨rfl, HR3.out, MReader.drewN_grown HG3.out⟩
 | false =>
  obtain rfl : ok = false := by rcases hbad with h | h; cases h; exact h
  clear hbad
  go_enter Try.func27, Try.ntmps27
  go_wp2_with fail
  refine (octet_Get.calls k _ _ l 0 width n false _ HC.out HL.out HG.out).mono ?_
  rintro e w2 ⟨rfl, ⟨nd, rfl⟩⟩
  go_wp2_with fail
  refine (octet_Reader_ends.calls g b l false _ (HR.out.drewN nd)).mono ?_
  rintro e w3 ⟨rfl, hr, hgr⟩
  have HR3 := Aside0.mk hr
  have HG3 := Aside0.mk hgr
  clear hr hgr
  go_wp2_with fail
  go_ret
  exact ⟨rfl, HR3.out, MReader.drewN_grown HG3.out⟩
set_option maxHeartbeats 1000000 in
set_option maxRecDepth 100000 in
theorem octet_Reader_Num.ok (k : Nat) (g b : Nat) (l : List Int) (width n : Int) (w : World) (h : MReader.Rdr 58 w g b l false) (hg : octet_Get.f k l 0 width = some (n, true)) (h0 : 0 ≤ width) (h1 : width ≤ (l.length : Int)) :
  Calls Try.prog 27 #[.pointer (some ⟨g, 0, none⟩), .int .i64 width] w fun e w' => e = .returned (.int .u64 n) ∧ MReader.Rdr 58 w' g b (l.drop width.toNat) false ∧ w.grownBy w' (some g) := by
 obtain ⟨A, c, x0, x1, f0, f1, hl, hC, hN, hA⟩ := h.cells
 have HR := Aside0.mk h
 have HG := Aside0.mk hg
 have HC := Aside0.mk hC
 have HL := Aside0.mk hl
 obtain ⟨m, rfl⟩ := Int.eq_ofNat_of_zero_le h0
 have hml : m ≤ l.length := by omega
 have hmc : m ≤ c := by omega
 clear h hg hC h0
 by_cases hcm : c = m
 ·
  subst hcm
  go_enter Try.func27, Try.ntmps27
  go_wp2_with fail
  refine (octet_Get.calls k _ _ l 0 c n true _ HC.out HL.out HG.out).mono ?_
  rintro e w2 ⟨rfl, ⟨nd, rfl⟩⟩
  go_wp2_with fail
  go_ret
  obtain ⟨⟨A', c', e0, _⟩, hlt, hne⟩ := HR.out
  have e1 := MReader.setCell_heap (w := w.drewN nd) (j := 0) (u := .slice A 0 0) e0
  have hd : l.drop ((c : Int)).toNat = [] := List.drop_eq_nil_of_le (by omega)
  rw [hd]
  refine ⟨rfl, ⟨⟨A, 0, by simpa using e1, Nat.le_refl _, ⟨rfl, Nat.zero_le _, fun h0 => by cases h0⟩, fun _ => rfl, hA⟩, by simpa [World.setCell] using hlt, hne⟩, ?_⟩
  exact MReader.drewN_grown (MReader.setCell_grown _ _ _ _)
 ·
  cases A with
  | none => have := hN rfl; omega
  | some ad =>
   obtain ⟨q, hq⟩ : ∃ q, c - m = q := ⟨_, rfl⟩
   obtain ⟨r, hr⟩ : ∃ r, l.length - m = r := ⟨_, rfl⟩
   have HQ := Aside0.mk hq
   have HRr := Aside0.mk hr
   clear hq hr
   go_enter Try.func27, Try.ntmps27
   go_wp2_with fail
   refine (octet_Get.calls k _ _ l 0 m n true _ HC.out HL.out HG.out).mono ?_
   rintro e w2 ⟨rfl, ⟨nd, rfl⟩⟩
   go_wp2_with fail
   go_ret
   obtain ⟨⟨A', c', e0, _⟩, hlt, hne⟩ := HR.out
   have e1 := MReader.setCell_heap (w := w.drewN nd) (j := 0) (u := .slice (some (ad.add m)) (l.length - m) (c - m)) e0
   have hC2 := Kd.C_drop (c := c) HC.out hml HL.out
   rw [if_neg hcm] at hC2
   have hld : (l.drop m).length = l.length - m := List.length_drop
   rw [Int.toNat_natCast]
   refine ⟨rfl, ⟨⟨some (ad.add m), c - m, by rw [hld]; simpa using e1, by omega, ?_, (fun h0 => by cases h0), fun a ha => ?_⟩, by simpa [World.setCell] using hlt, hne⟩, MReader.drewN_grown (MReader.setCell_grown _ _ _ _)⟩
   · refine MReader.C_block (w := w) (b := b) ?_ (fun a ha => ?_) ?_
     · have e2 : (Kd.int .u8).sz = 1 := rfl
       rw [e2, Nat.mul_one] at hC2
       exact hC2
     · injection ha with ha
       rw [← ha, add_block]; exact hA _ rfl
     · exact Below.heap_setCell (w.drewN nd) ⟨g, 0, none⟩ _ b hne
   · injection ha with ha
     rw [← ha, add_block]; exact hA _ rfl

end Go.Proofs.Ytfkdmdacicahcaa.PBase
