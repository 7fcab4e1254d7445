/- Functions of the program as Lean functions, each with a proof that a call comes to what it says. Conditions: those of each theorem. Laid by a program of this session. -/
import Derived.Test.YtedampcicmaamaaPBasex0
import Derived.Test.YtedampcicmaamaaPBasex3
namespace Go.Proofs.Ytedampcicmaamaa.PBase
open Go.RowKit Go.Proofs.Ytedampcicmaamaa Go.Proofs.YtedampcicmaamaaW.PrintWords Go.Proofs.YtedampcicmaamaaW.PrintLast Go.Proofs.YtedampcicmaamaaW.PrintMore
attribute [local go_sem] max2_int min2_int max_two min_two max_three min_three max_four min_four   -- for this text's walks alone
set_option linter.unusedVariables false
set_option linter.unusedSimpArgs false

/-! ### ip4_Lay: function 9 (by hand) -/
theorem ip4_Lay.put {l : List Int} {n : Int} {k : Int} {m : Nat} (hk : octet_Put.wid k = m) (hl : l.length ≤ 140737488355200) : octet_Put.f l k n = some (l ++ MBe.be n m) := by
 unfold octet_Put.f; rw [if_pos hl, hk]
theorem ip4_Lay.wu {n : Int} (h0 : 0 ≤ n) (h1 : n < 18446744073709551616) : IntKind.u64.wrap n = n := by
 simp only [IntKind.wrap, IntKind.signed, IntKind.bits, Bool.false_and, Bool.false_eq_true, if_false]; omega
theorem ip4_Lay.w8 {n : Int} (h0 : 0 ≤ n) (h1 : n < 256) : IntKind.u8.wrap n = n := by
 simp only [IntKind.wrap, IntKind.signed, IntKind.bits, Bool.false_and, Bool.false_eq_true, if_false]; omega
theorem ip4_Lay.w8m (n : Int) : IntKind.u8.wrap n = n % 256 := by
 simp only [IntKind.wrap, IntKind.signed, IntKind.bits, Bool.false_and, Bool.false_eq_true, if_false]; rfl
/-- Numbers of some widths, one behind the other. -/
def ip4_Lay.cat : List (Nat × Int) → List Int
 | [] => []
 | x :: l => MBe.be x.2 x.1 ++ ip4_Lay.cat l
theorem ip4_Lay.cat_append : ∀ (a b : List (Nat × Int)), ip4_Lay.cat (a ++ b) = ip4_Lay.cat a ++ ip4_Lay.cat b
 | [], b => rfl
 | x :: a, b => by rw [List.cons_append, ip4_Lay.cat, ip4_Lay.cat, ip4_Lay.cat_append a b, List.append_assoc]
/-- The bits of a piece, as one number. -/
def ip4_Lay.bits (df mf : Bool) (off : Int) : Int := Go.bits .or .i64 (Go.bits .or .i64 off (if df = true then 16384 else 0)) (if mf = true then 8192 else 0)
/-- The numbers of a header. -/
def ip4_Lay.ns (tos id bs ttl proto src dst ol dl : Int) : List (Nat × Int) := [(1, 64 + (20 + ol) / 4), (1, tos), (2, 20 + ol + dl), (2, id), (2, bs), (1, ttl), (1, proto), (2, 0), (4, src), (4, dst)]
theorem ip4_Lay.cat_length (tos id bs ttl proto src dst ol dl : Int) : (ip4_Lay.cat (ip4_Lay.ns tos id bs ttl proto src dst ol dl)).length = 20 := by
 simp [ip4_Lay.ns, ip4_Lay.cat, MBe.be_length]
/-- Two bytes in the place of those at 10. -/
def ip4_Lay.mend (l : List Int) (c : Int) : List Int := (l.set 10 (c / 256)).set 11 (c % 256)
def ip4_Lay.f (k : Nat) (tos id : Int) (df mf : Bool) (off ttl proto : Int) (b1 : Bool) (h1 src : Int) (b2 : Bool) (h2 dst : Int) (opts data : ByteArray) : Option (ByteArray × Int) :=
 (ip4_may.f tos id df mf off ttl proto b1 h1 src b2 h2 dst opts data).bind fun m => if m = false then some (⟨#[]⟩, 50) else if ¬ (opts.size ≤ 40 ∧ data.size ≤ 140737488355328) then none else if 65535 < 20 + (opts.size : Int) + (data.size : Int) then some (⟨#[]⟩, 53) else
 if ¬ (0 ≤ src ∧ src ≤ 4294967295 ∧ 0 ≤ dst ∧ dst ≤ 4294967295 ∧ 0 ≤ tos ∧ tos ≤ 255 ∧ 0 ≤ id ∧ id ≤ 65535 ∧ 0 ≤ ttl ∧ ttl ≤ 255 ∧ 0 ≤ proto ∧ proto ≤ 255 ∧ 0 ≤ ip4_Lay.bits df mf off ∧ ip4_Lay.bits df mf off ≤ 65535) then none else
 (tally_Check.f k [ip4_Lay.cat (ip4_Lay.ns tos id (ip4_Lay.bits df mf off) ttl proto src dst opts.size data.size) ++ bytesOf opts]).bind fun c => if ¬ (0 ≤ c ∧ c ≤ 65535) then none else
 some (strOfNums (ip4_Lay.mend (ip4_Lay.cat (ip4_Lay.ns tos id (ip4_Lay.bits df mf off) ttl proto src dst opts.size data.size) ++ bytesOf opts) c ++ bytesOf data), 0)
set_option maxHeartbeats 4000000 in
set_option maxRecDepth 100000 in
theorem ip4_Lay.good (k : Nat) (tos id : Int) (df mf : Bool) (off ttl proto : Int) (b1 : Bool) (h1 src : Int) (b2 : Bool) (h2 dst : Int) (opts data : ByteArray) (c bs : Int) (w : World)
  (hm : ip4_may.f tos id df mf off ttl proto b1 h1 src b2 h2 dst opts data = some true) (hs : 20 + opts.size + data.size ≤ 65535) (hr : 0 ≤ src ∧ src ≤ 4294967295) (hr2 : 0 ≤ dst ∧ dst ≤ 4294967295) (ht : 0 ≤ tos) (ht2 : tos ≤ 255) (hi : 0 ≤ id) (hi2 : id ≤ 65535) (htl : 0 ≤ ttl) (htl2 : ttl ≤ 255) (hp : 0 ≤ proto) (hp2 : proto ≤ 255)
  (hb : ip4_Lay.bits df mf off = bs) (hb0 : 0 ≤ bs) (hb1 : bs ≤ 65535)
  (hc : tally_Check.f k [ip4_Lay.cat (ip4_Lay.ns tos id bs ttl proto src dst opts.size data.size) ++ bytesOf opts] = some c) (hc0 : 0 ≤ c) (hc1 : c ≤ 65535) :
  Calls Try.prog 9 #[.agg #[.int .i64 tos, .int .i64 id, .bool df, .bool mf, .int .i64 off, .int .i64 ttl, .int .i64 proto, .bool b1, .int .u64 h1, .int .u64 src, .bool b2, .int .u64 h2, .int .u64 dst, .string opts, .string data]] w fun e w' => e = .returned (.tuple #[.string (strOfNums (ip4_Lay.mend (ip4_Lay.cat (ip4_Lay.ns tos id bs ttl proto src dst opts.size data.size) ++ bytesOf opts) c ++ bytesOf data)), .int .i64 0]) ∧ Below w.heap.size w w' := by
 obtain ⟨wb, hwb⟩ : ∃ wb, w.alloc (.cells #[.int .i64 tos, .int .i64 id, .bool df, .bool mf, .int .i64 off, .int .i64 ttl, .int .i64 proto, .bool b1, .int .u64 h1, .int .u64 src, .bool b2, .int .u64 h2, .int .u64 dst, .string opts, .string data] 26) = wb := ⟨_, rfl⟩
 have HBW := Aside0.mk (show Below w.heap.size w wb by rw [← hwb]; exact below_alloc (Below.refl _ _) _)
 have HWS := Aside0.mk (show wb.heap.size = w.heap.size + 1 by rw [← hwb]; simp [go_sem])
 have HX := Aside0.mk (show wb.heap[w.heap.size]? = some (.cells #[.int .i64 tos, .int .i64 id, .bool df, .bool mf, .int .i64 off, .int .i64 ttl, .int .i64 proto, .bool b1, .int .u64 h1, .int .u64 src, .bool b2, .int .u64 h2, .int .u64 dst, .string opts, .string data] 26 (0, 0)) by rw [← hwb]; exact heap_alloc_new _ _)
 have hu26 := Try.underlying26
 have hu24 := Try.underlying24
 have x0 := MStr.block_cell (j := 0) HX.out rfl; have x1 := MStr.block_cell (j := 1) HX.out rfl; have x2 := MStr.block_cell (j := 2) HX.out rfl; have x3 := MStr.block_cell (j := 3) HX.out rfl; have x4 := MStr.block_cell (j := 4) HX.out rfl; have x5 := MStr.block_cell (j := 5) HX.out rfl; have x6 := MStr.block_cell (j := 6) HX.out rfl; have x7 := MStr.block_cell (j := 7) HX.out rfl; have x8 := MStr.block_cell (j := 8) HX.out rfl; have x9 := MStr.block_cell (j := 9) HX.out rfl; have x10 := MStr.block_cell (j := 10) HX.out rfl; have x11 := MStr.block_cell (j := 11) HX.out rfl; have x12 := MStr.block_cell (j := 12) HX.out rfl; have x13 := MStr.block_cell (j := 13) HX.out rfl; have x14 := MStr.block_cell (j := 14) HX.out rfl
 have HM := Aside0.mk hm; have HC := Aside0.mk hc; have HBS := Aside0.mk hb; have HS := Aside0.mk hs
 obtain ⟨s0, s1⟩ := hr; obtain ⟨d0, d1⟩ := hr2
 clear hm hc
 go_enter Try.func9, Try.ntmps9
 go_wp2_with fail
 clear hwb
 refine (ip4_may.calls _ _ _ _ _ _ _ _ _ _ _ _ _ _ _ true _ HM.out).mono ?_
 rintro e w2 ⟨rfl, hbl⟩
 replace HX := Aside0.mk (MStr.block_below HX.out hbl)
 have HB := Aside0.mk (below_step HBW.out hbl)
 have HWS2 := Aside0.mk (show w.heap.size < w2.heap.size by have := HWS.out; have := hbl.size; omega)
 clear hbl x0 x1 x2 x3 x4 x5 x6 x7 x8 x9 x10 x11 x12 x13 x14
 have x0 := MStr.block_cell (j := 0) HX.out rfl; have x1 := MStr.block_cell (j := 1) HX.out rfl; have x2 := MStr.block_cell (j := 2) HX.out rfl; have x3 := MStr.block_cell (j := 3) HX.out rfl; have x4 := MStr.block_cell (j := 4) HX.out rfl; have x5 := MStr.block_cell (j := 5) HX.out rfl; have x6 := MStr.block_cell (j := 6) HX.out rfl; have x7 := MStr.block_cell (j := 7) HX.out rfl; have x8 := MStr.block_cell (j := 8) HX.out rfl; have x9 := MStr.block_cell (j := 9) HX.out rfl; have x10 := MStr.block_cell (j := 10) HX.out rfl; have x11 := MStr.block_cell (j := 11) HX.out rfl; have x12 := MStr.block_cell (j := 12) HX.out rfl; have x13 := MStr.block_cell (j := 13) HX.out rfl; have x14 := MStr.block_cell (j := 14) HX.out rfl
 have t1 : 20 + (opts.size : Int) + (data.size : Int) ≤ 65535 := by omega
 have t2 : (0 : Int) ≤ (opts.size : Int) := by omega
 have t3 : (0 : Int) ≤ (data.size : Int) := by omega
 unfold ip4_Lay.bits at hb
 obtain ⟨fd, hfd⟩ : ∃ fd, (if df = true then (16384 : Int) else 0) = fd := ⟨_, rfl⟩
 obtain ⟨fm, hfm⟩ : ∃ fm, (if mf = true then (8192 : Int) else 0) = fm := ⟨_, rfl⟩
 rw [hfd, hfm] at hb
 have HFD := Aside0.mk (show ip4_bit.f df 16384 = some fd by unfold ip4_bit.f; rw [← hfd]; split <;> rfl)
 have HFM := Aside0.mk (show ip4_bit.f mf 8192 = some fm by unfold ip4_bit.f; rw [← hfm]; split <;> rfl)
 clear hfd hfm
 go_wp2_with fail
 have e1 : IntKind.i64.wrap ((20 + (opts.size : Int)).tdiv 4) = (20 + (opts.size : Int)) / 4 := by simp only [i64_w]; rw [Int.tdiv_eq_ediv_of_nonneg (by omega)]; unfold wrap64; omega
 have e2 : IntKind.i64.wrap (64 + (20 + (opts.size : Int)) / 4) = 64 + (20 + (opts.size : Int)) / 4 := by simp only [i64_w]; unfold wrap64; omega
 have e3 : IntKind.i64.wrap (20 + (opts.size : Int) + (data.size : Int)) = 20 + (opts.size : Int) + (data.size : Int) := by simp only [i64_w]; unfold wrap64; omega
 have e4 : IntKind.i64.wrap src = src := by simp only [i64_w]; unfold wrap64; omega
 have e5 : IntKind.i64.wrap dst = dst := by simp only [i64_w]; unfold wrap64; omega
 go_quiet (first | (go_at_call 22; exact Calls.quiet_of ((ip4_bit.calls _ _ _ _ HFD.out).mono fun _ _ h => ⟨h.1, h.2.out⟩)) | (go_at_call 22; exact Calls.quiet_of ((ip4_bit.calls _ _ _ _ HFM.out).mono fun _ _ h => ⟨h.1, h.2.out⟩)))
 clear x0 x1 x2 x3 x4 x5 x6 x7 x8 x9 x10 x11 x12 x13 x14 e1 e2 e3 e4 e5
 have HFD2 := HFD; clear HFD HFM HFD2
 have i0 : ∀ w, (Instr.index 48 (.agg #[.int .i64 1, .int .i64 (64 + (20 + (opts.size : Int)) / 4), .int .i64 1, .int .i64 (tos), .int .i64 2, .int .i64 (20 + (opts.size : Int) + (data.size : Int)), .int .i64 2, .int .i64 (id), .int .i64 2, .int .i64 (bs), .int .i64 1, .int .i64 (ttl), .int .i64 1, .int .i64 (proto), .int .i64 2, .int .i64 (0), .int .i64 4, .int .i64 (src), .int .i64 4, .int .i64 (dst)]) (.int .i64 0)).run Try.prog w = .ok (.agg #[.int .i64 1, .int .i64 (64 + (20 + (opts.size : Int)) / 4)]) w := fun _ => by kernel_rfl
 have i1 : ∀ w, (Instr.index 48 (.agg #[.int .i64 1, .int .i64 (64 + (20 + (opts.size : Int)) / 4), .int .i64 1, .int .i64 (tos), .int .i64 2, .int .i64 (20 + (opts.size : Int) + (data.size : Int)), .int .i64 2, .int .i64 (id), .int .i64 2, .int .i64 (bs), .int .i64 1, .int .i64 (ttl), .int .i64 1, .int .i64 (proto), .int .i64 2, .int .i64 (0), .int .i64 4, .int .i64 (src), .int .i64 4, .int .i64 (dst)]) (.int .i64 1)).run Try.prog w = .ok (.agg #[.int .i64 1, .int .i64 (tos)]) w := fun _ => by kernel_rfl
 have i2 : ∀ w, (Instr.index 48 (.agg #[.int .i64 1, .int .i64 (64 + (20 + (opts.size : Int)) / 4), .int .i64 1, .int .i64 (tos), .int .i64 2, .int .i64 (20 + (opts.size : Int) + (data.size : Int)), .int .i64 2, .int .i64 (id), .int .i64 2, .int .i64 (bs), .int .i64 1, .int .i64 (ttl), .int .i64 1, .int .i64 (proto), .int .i64 2, .int .i64 (0), .int .i64 4, .int .i64 (src), .int .i64 4, .int .i64 (dst)]) (.int .i64 2)).run Try.prog w = .ok (.agg #[.int .i64 2, .int .i64 (20 + (opts.size : Int) + (data.size : Int))]) w := fun _ => by kernel_rfl
 have i3 : ∀ w, (Instr.index 48 (.agg #[.int .i64 1, .int .i64 (64 + (20 + (opts.size : Int)) / 4), .int .i64 1, .int .i64 (tos), .int .i64 2, .int .i64 (20 + (opts.size : Int) + (data.size : Int)), .int .i64 2, .int .i64 (id), .int .i64 2, .int .i64 (bs), .int .i64 1, .int .i64 (ttl), .int .i64 1, .int .i64 (proto), .int .i64 2, .int .i64 (0), .int .i64 4, .int .i64 (src), .int .i64 4, .int .i64 (dst)]) (.int .i64 3)).run Try.prog w = .ok (.agg #[.int .i64 2, .int .i64 (id)]) w := fun _ => by kernel_rfl
 have i4 : ∀ w, (Instr.index 48 (.agg #[.int .i64 1, .int .i64 (64 + (20 + (opts.size : Int)) / 4), .int .i64 1, .int .i64 (tos), .int .i64 2, .int .i64 (20 + (opts.size : Int) + (data.size : Int)), .int .i64 2, .int .i64 (id), .int .i64 2, .int .i64 (bs), .int .i64 1, .int .i64 (ttl), .int .i64 1, .int .i64 (proto), .int .i64 2, .int .i64 (0), .int .i64 4, .int .i64 (src), .int .i64 4, .int .i64 (dst)]) (.int .i64 4)).run Try.prog w = .ok (.agg #[.int .i64 2, .int .i64 (bs)]) w := fun _ => by kernel_rfl
 have i5 : ∀ w, (Instr.index 48 (.agg #[.int .i64 1, .int .i64 (64 + (20 + (opts.size : Int)) / 4), .int .i64 1, .int .i64 (tos), .int .i64 2, .int .i64 (20 + (opts.size : Int) + (data.size : Int)), .int .i64 2, .int .i64 (id), .int .i64 2, .int .i64 (bs), .int .i64 1, .int .i64 (ttl), .int .i64 1, .int .i64 (proto), .int .i64 2, .int .i64 (0), .int .i64 4, .int .i64 (src), .int .i64 4, .int .i64 (dst)]) (.int .i64 5)).run Try.prog w = .ok (.agg #[.int .i64 1, .int .i64 (ttl)]) w := fun _ => by kernel_rfl
 have i6 : ∀ w, (Instr.index 48 (.agg #[.int .i64 1, .int .i64 (64 + (20 + (opts.size : Int)) / 4), .int .i64 1, .int .i64 (tos), .int .i64 2, .int .i64 (20 + (opts.size : Int) + (data.size : Int)), .int .i64 2, .int .i64 (id), .int .i64 2, .int .i64 (bs), .int .i64 1, .int .i64 (ttl), .int .i64 1, .int .i64 (proto), .int .i64 2, .int .i64 (0), .int .i64 4, .int .i64 (src), .int .i64 4, .int .i64 (dst)]) (.int .i64 6)).run Try.prog w = .ok (.agg #[.int .i64 1, .int .i64 (proto)]) w := fun _ => by kernel_rfl
 have i7 : ∀ w, (Instr.index 48 (.agg #[.int .i64 1, .int .i64 (64 + (20 + (opts.size : Int)) / 4), .int .i64 1, .int .i64 (tos), .int .i64 2, .int .i64 (20 + (opts.size : Int) + (data.size : Int)), .int .i64 2, .int .i64 (id), .int .i64 2, .int .i64 (bs), .int .i64 1, .int .i64 (ttl), .int .i64 1, .int .i64 (proto), .int .i64 2, .int .i64 (0), .int .i64 4, .int .i64 (src), .int .i64 4, .int .i64 (dst)]) (.int .i64 7)).run Try.prog w = .ok (.agg #[.int .i64 2, .int .i64 (0)]) w := fun _ => by kernel_rfl
 have i8 : ∀ w, (Instr.index 48 (.agg #[.int .i64 1, .int .i64 (64 + (20 + (opts.size : Int)) / 4), .int .i64 1, .int .i64 (tos), .int .i64 2, .int .i64 (20 + (opts.size : Int) + (data.size : Int)), .int .i64 2, .int .i64 (id), .int .i64 2, .int .i64 (bs), .int .i64 1, .int .i64 (ttl), .int .i64 1, .int .i64 (proto), .int .i64 2, .int .i64 (0), .int .i64 4, .int .i64 (src), .int .i64 4, .int .i64 (dst)]) (.int .i64 8)).run Try.prog w = .ok (.agg #[.int .i64 4, .int .i64 (src)]) w := fun _ => by kernel_rfl
 have i9 : ∀ w, (Instr.index 48 (.agg #[.int .i64 1, .int .i64 (64 + (20 + (opts.size : Int)) / 4), .int .i64 1, .int .i64 (tos), .int .i64 2, .int .i64 (20 + (opts.size : Int) + (data.size : Int)), .int .i64 2, .int .i64 (id), .int .i64 2, .int .i64 (bs), .int .i64 1, .int .i64 (ttl), .int .i64 1, .int .i64 (proto), .int .i64 2, .int .i64 (0), .int .i64 4, .int .i64 (src), .int .i64 4, .int .i64 (dst)]) (.int .i64 9)).run Try.prog w = .ok (.agg #[.int .i64 4, .int .i64 (dst)]) w := fun _ => by kernel_rfl
 have u0 : IntKind.u64.wrap (64 + (20 + (opts.size : Int)) / 4) = 64 + (20 + (opts.size : Int)) / 4 := ip4_Lay.wu (by omega) (by omega)
 have u1 : IntKind.u64.wrap (tos) = tos := ip4_Lay.wu (by omega) (by omega)
 have u2 : IntKind.u64.wrap (20 + (opts.size : Int) + (data.size : Int)) = 20 + (opts.size : Int) + (data.size : Int) := ip4_Lay.wu (by omega) (by omega)
 have u3 : IntKind.u64.wrap (id) = id := ip4_Lay.wu (by omega) (by omega)
 have u4 : IntKind.u64.wrap (bs) = bs := ip4_Lay.wu (by omega) (by omega)
 have u5 : IntKind.u64.wrap (ttl) = ttl := ip4_Lay.wu (by omega) (by omega)
 have u6 : IntKind.u64.wrap (proto) = proto := ip4_Lay.wu (by omega) (by omega)
 have u8 : IntKind.u64.wrap (src) = src := ip4_Lay.wu (by omega) (by omega)
 have u9 : IntKind.u64.wrap (dst) = dst := ip4_Lay.wu (by omega) (by omega)
 go_wp2_with fail
 go_loopg [5, 67] 10 (fun kq v5 v67 w' => ∃ i : Nat, v67 = .int .i64 (i : Int) ∧ Aside0 (10 = i + kq) ∧ Aside0 (Kd.R (Kd.int .u8) 5 w' w2.heap.size (fun _ => True) v5 (ip4_Lay.cat ((ip4_Lay.ns tos id bs ttl proto src dst opts.size data.size).take i))) ∧ Aside0 (w'.heap[w.heap.size]? = some (.cells #[.int .i64 tos, .int .i64 id, .bool df, .bool mf, .int .i64 off, .int .i64 ttl, .int .i64 proto, .bool b1, .int .u64 h1, .int .u64 src, .bool b2, .int .u64 h2, .int .u64 dst, .string opts, .string data] 26 (0, 0))) ∧ Aside0 (Below w2.heap.size w2 w'))
 case atStart => exact ⟨0, rfl, ⟨rfl⟩, ⟨Kd.R_nil _ _ _ _ _⟩, ⟨MStr.block_below HX.out (by repeat (first | (with_reducible first | exact Below.refl _ _ | apply below_alloc | apply pw_below_drewN | apply below_drew1) | exact Below.refl _ _))⟩, ⟨(by repeat (first | (with_reducible first | exact Below.refl _ _ | apply below_alloc | apply pw_below_drewN | apply below_drew1) | exact Below.refl _ _))⟩⟩
 case round =>
  clear HX
  obtain ⟨i, rfl, HI, HO, HX, HB2⟩ := hrel
  have hi := HI.out
  obtain ⟨Li, hLi⟩ : ∃ Li, ip4_Lay.cat ((ip4_Lay.ns tos id bs ttl proto src dst opts.size data.size).take i) = Li := ⟨_, rfl⟩
  have HE := Aside0.mk (show Li.length ≤ 20 by have h := ip4_Lay.cat_length tos id bs ttl proto src dst opts.size data.size; rw [← List.take_append_drop i (ip4_Lay.ns tos id bs ttl proto src dst opts.size data.size), ip4_Lay.cat_append, List.length_append, hLi] at h; omega)
  rw [hLi] at HO
  have HLi := Aside0.mk hLi
  clear hLi
  obtain ⟨A4, c4, rfl⟩ := Kd.R_slice HO.out
  cases gk with
  | zero =>
   obtain rfl : 10 = i := by omega
   clear hi HI i0 i1 i2 i3 i4 i5 i6 i7 i8 i9 u0 u1 u2 u3 u4 u5 u6 u8 u9
   have x13 := MStr.block_cell (j := 13) HX.out rfl
   have hcat := ip4_Lay.cat_length tos id bs ttl proto src dst opts.size data.size
   have hL20 : Li.length = 20 := by rw [← HLi.out, show (ip4_Lay.ns tos id bs ttl proto src dst opts.size data.size).take 10 = (ip4_Lay.ns tos id bs ttl proto src dst opts.size data.size) from rfl]; exact hcat
   have HL20 := Aside0.mk hL20; clear hcat hL20
   go_wp2_with (first | ((with_reducible refine gate_builtin (b := .append) (xs := #[.tmp 78, .tmp 80]) rfl ?_); at_builtin; refine MStr.R_append_str (w0 := w2) w2.heap.size rfl (.tmp 78) (.tmp 80) 45 9 5 rfl Try.underlying45 Try.underlying9 info5 _ Li opts rfl rfl HO.out HB2.out HB2.out.size (by have := HE.out; omega) ?_; intro v9 w9 ho hb hg; have HO9 := Aside0.mk ho; replace HX := Aside0.mk ((hg.block _ (Array.getElem?_eq_some_iff.1 HX.out).1 (fun e => by have h_ := Kd.R_base HO.out _ e.symm; have := HWS2.out; omega)).trans HX.out); clear HO HB2 ho hg x13; have HB2 := Aside0.mk hb; clear hb; obtain ⟨A9, c9, e9⟩ := Kd.R_slice HO9.out; subst e9))
   obtain ⟨L9, hL9⟩ : ∃ L9, Li ++ bytesOf opts = L9 := ⟨_, rfl⟩
   have HL9 := Aside0.mk hL9
   have HN9 := Aside0.mk (show L9.length = 20 + opts.size by rw [← hL9, List.length_append, HL20.out, bytesOf_length])
   rw [hL9] at HO9
   rw [show Li.length + (bytesOf opts).length = L9.length by rw [← hL9, List.length_append]]
   replace HC := Aside0.mk (show tally_Check.f k [L9] = some c by rw [← hL9, ← HLi.out]; exact HC.out)
   clear hL9
   refine Calls.mono (tally_Check.calls k (some _) 1 [L9] c _ (by exact MStr.C_varN (Kd.R_reads' HO9.out).2.2 (Kd.R_reads' HO9.out).2.1 rfl) (Nat.le_refl _) HC.out) ?_
   rintro e w10 ⟨rfl, ⟨nd, rfl⟩⟩
   have HO10 := Aside0.mk (show Kd.R (Kd.int .u8) 5 ((w9.alloc (Obj.cells #[Value.slice A9 L9.length c9] 45)).drewN nd) w2.heap.size (fun _ => True) (.slice A9 L9.length c9) L9 from Kd.R_drewN (Kd.R_alloc HO9.out _) _)
   replace HX := Aside0.mk (show ((w9.alloc (Obj.cells #[Value.slice A9 L9.length c9] 45)).drewN nd).heap[w.heap.size]? = some (.cells #[.int .i64 tos, .int .i64 id, .bool df, .bool mf, .int .i64 off, .int .i64 ttl, .int .i64 proto, .bool b1, .int .u64 h1, .int .u64 src, .bool b2, .int .u64 h2, .int .u64 dst, .string opts, .string data] 26 (0, 0)) from MStr.block_below HX.out (show Below w9.heap.size w9 _ from (by repeat (first | (with_reducible first | exact Below.refl _ _ | apply below_alloc | apply pw_below_drewN | apply below_drew1) | exact Below.refl _ _))))
   replace HB2 := Aside0.mk (show Below w2.heap.size w2 ((w9.alloc (Obj.cells #[Value.slice A9 L9.length c9] 45)).drewN nd) from (sh_B HB2))
   clear HO9
   generalize hW : ((w9.alloc (Obj.cells #[Value.slice A9 L9.length c9] 45)).drewN nd) = W10 at HO10 HX HB2 ⊢
   clear hW
   have f1 : IntKind.u8.wrap (c / 256) = c / 256 := ip4_Lay.w8 (by omega) (by omega)
   have f2 : IntKind.u8.wrap c = c % 256 := ip4_Lay.w8m c
   have hn9 := HN9.out
   obtain ⟨g9, co, eo, gb, gl, cl, hG⟩ := Kd.R_form HO10.out (by omega)
   injection eo with ea_ en_ ec_
   subst ea_; subst ec_; clear en_
   have GB := Aside0.mk gb
   obtain ⟨hx, hf⟩ : W10.cell? ⟨g9, 10, none⟩ = some (.int .u8 (rdOf 0 L9 10)) ∧ W10.frozen? ⟨g9, 10, none⟩ = false := Kd.R_celln 0 HO10.out 10 (by decide) (by omega)
   obtain ⟨hx2, hf2⟩ : W10.cell? ⟨g9, 11, none⟩ = some (.int .u8 (rdOf 0 L9 11)) ∧ W10.frozen? ⟨g9, 11, none⟩ = false := Kd.R_celln 0 HO10.out 11 (by decide) (by omega)
   have q1 : (10 : Int) < (L9.length : Int) := by omega
   have q2 : (11 : Int) < (L9.length : Int) := by omega
   clear gb gl hG hn9
   have HP := Kd.R_putg HO10.out 10 (c / 256)
   have HP2 := Kd.R_putg (show Kd.R (Kd.int .u8) 5 (W10.setCell ⟨g9, 10, none⟩ (.int .u8 (c / 256))) w2.heap.size (fun _ => True) (.slice (some ⟨g9, 0, none⟩) L9.length c9) (L9.set 10 (c / 256)) from HP.1) 11 (c % 256)
   have HG2 := Aside0.mk (show W10.grownBy ((W10.setCell ⟨g9, 10, none⟩ (.int .u8 (c / 256))).setCell ⟨g9, 11, none⟩ (.int .u8 (c % 256))) (some g9) from MReader.grown_trans HP.2 HP2.2)
   have HO12 := Aside0.mk (show Kd.R (Kd.int .u8) 5 ((W10.setCell ⟨g9, 10, none⟩ (.int .u8 (c / 256))).setCell ⟨g9, 11, none⟩ (.int .u8 (c % 256))) w2.heap.size (fun _ => True) (.slice (some ⟨g9, 0, none⟩) L9.length c9) ((L9.set 10 (c / 256)).set 11 (c % 256)) from HP2.1)
   clear HP HP2 HO10
   go_upto_region 15 with (fail)
   clear hx hf hx2 hf2
   replace HX := Aside0.mk ((HG2.out.block _ (Array.getElem?_eq_some_iff.1 HX.out).1 (fun e => by have h_ := GB.out; have := HWS2.out; injection e with e; omega)).trans HX.out)
   replace HB2 := Aside0.mk (show Below w2.heap.size w2 ((W10.setCell ⟨g9, 10, none⟩ (.int .u8 (c / 256))).setCell ⟨g9, 11, none⟩ (.int .u8 (c % 256))) from below_set (below_set HB2.out GB.out) GB.out)
   clear HG2
   generalize hW : ((W10.setCell ⟨g9, 10, none⟩ (.int .u8 (c / 256))).setCell ⟨g9, 11, none⟩ (.int .u8 (c % 256))) = W12 at HO12 HX HB2 ⊢
   clear hW
   have x14 := MStr.block_cell (j := 14) HX.out rfl
   go_wp2_with (first | ((with_reducible refine gate_builtin (b := .append) (xs := #[.tmp 94, .tmp 96]) rfl ?_); at_builtin; refine MStr.R_append_str (w0 := w2) w2.heap.size rfl (.tmp 94) (.tmp 96) 45 9 5 rfl Try.underlying45 Try.underlying9 info5 _ _ data rfl rfl HO12.out HB2.out HB2.out.size (by rw [List.length_set, List.length_set]; have := HN9.out; omega) ?_; intro v19 w19 ho hb hg; have hcv := own_string (P := Try.prog) Try.underlying45 Try.underlying5 Try.underlying9 (Kd.own_of_R ho); clear HO12 HB2 ho hg x14; have HB2 := Aside0.mk hb; clear hb))
   go_ret2
   refine ⟨?_, below_step HB.out HB2.out⟩
   rw [← HL9.out, ← HLi.out]
   rfl
  | succ d =>
   rcases (show i = 0 ∨ i = 1 ∨ i = 2 ∨ i = 3 ∨ i = 4 ∨ i = 5 ∨ i = 6 ∨ i = 7 ∨ i = 8 ∨ i = 9 by omega) with rfl | rfl | rfl | rfl | rfl | rfl | rfl | rfl | rfl | rfl
   ·
     clear hi
     go_wp2_with fail
     refine Calls.mono (octet_Put.calls A4 c4 Li 1 _ _ _ (by exact Kd.C_below (Kd.R_reads' HO.out).2.2 (by repeat (first | (with_reducible first | exact Below.refl _ _ | apply below_alloc | apply pw_below_drewN | apply below_drew1) | exact Below.refl _ _))) (Kd.R_reads' HO.out).2.1 (ip4_Lay.put (m := 1) (by decide) (by have := HE.out; omega))) ?_
     rintro e w5 ⟨v5, rfl, ho, hb⟩
     rw [← HLi.out] at ho
     have HO5 := Aside0.mk (show Kd.R (Kd.int .u8) 5 w5 w2.heap.size (fun _ => True) v5 (ip4_Lay.cat ((ip4_Lay.ns tos id bs ttl proto src dst opts.size data.size).take 1)) by have h := Kd.R_lower ho (show w2.heap.size ≤ _ from (show Below w2.heap.size w2 _ from (sh_B HB2)).size); exact (show ip4_Lay.cat ((ip4_Lay.ns tos id bs ttl proto src dst opts.size data.size).take 1) = ip4_Lay.cat ((ip4_Lay.ns tos id bs ttl proto src dst opts.size data.size).take 0) ++ MBe.be (64 + (20 + (opts.size : Int)) / 4) 1 by rw [show (ip4_Lay.ns tos id bs ttl proto src dst opts.size data.size).take 1 = (ip4_Lay.ns tos id bs ttl proto src dst opts.size data.size).take 0 ++ [(1, 64 + (20 + (opts.size : Int)) / 4)] from rfl, ip4_Lay.cat_append]; simp [ip4_Lay.cat]) ▸ h)
     replace HX := Aside0.mk (MStr.block_below (MStr.block_below HX.out (show Below wr.heap.size wr _ from (by repeat (first | (with_reducible first | exact Below.refl _ _ | apply below_alloc | apply pw_below_drewN | apply below_drew1) | exact Below.refl _ _)))) hb)
     replace HB2 := sh_S HB2 hb
     clear ho hb HO HE
     go_wp2_with fail
     go_roundg d
     case measure => omega
     case rel => exact ⟨1, rfl, ⟨by have := HI.out; omega⟩, ⟨HO5.out⟩, HX, HB2⟩
   ·
     clear hi
     go_wp2_with fail
     refine Calls.mono (octet_Put.calls A4 c4 Li 1 _ _ _ (by exact Kd.C_below (Kd.R_reads' HO.out).2.2 (by repeat (first | (with_reducible first | exact Below.refl _ _ | apply below_alloc | apply pw_below_drewN | apply below_drew1) | exact Below.refl _ _))) (Kd.R_reads' HO.out).2.1 (ip4_Lay.put (m := 1) (by decide) (by have := HE.out; omega))) ?_
     rintro e w5 ⟨v5, rfl, ho, hb⟩
     rw [← HLi.out] at ho
     have HO5 := Aside0.mk (show Kd.R (Kd.int .u8) 5 w5 w2.heap.size (fun _ => True) v5 (ip4_Lay.cat ((ip4_Lay.ns tos id bs ttl proto src dst opts.size data.size).take 2)) by have h := Kd.R_lower ho (show w2.heap.size ≤ _ from (show Below w2.heap.size w2 _ from (sh_B HB2)).size); exact (show ip4_Lay.cat ((ip4_Lay.ns tos id bs ttl proto src dst opts.size data.size).take 2) = ip4_Lay.cat ((ip4_Lay.ns tos id bs ttl proto src dst opts.size data.size).take 1) ++ MBe.be (tos) 1 by rw [show (ip4_Lay.ns tos id bs ttl proto src dst opts.size data.size).take 2 = (ip4_Lay.ns tos id bs ttl proto src dst opts.size data.size).take 1 ++ [(1, tos)] from rfl, ip4_Lay.cat_append]; simp [ip4_Lay.cat]) ▸ h)
     replace HX := Aside0.mk (MStr.block_below (MStr.block_below HX.out (show Below wr.heap.size wr _ from (by repeat (first | (with_reducible first | exact Below.refl _ _ | apply below_alloc | apply pw_below_drewN | apply below_drew1) | exact Below.refl _ _)))) hb)
     replace HB2 := sh_S HB2 hb
     clear ho hb HO HE
     go_wp2_with fail
     go_roundg d
     case measure => omega
     case rel => exact ⟨2, rfl, ⟨by have := HI.out; omega⟩, ⟨HO5.out⟩, HX, HB2⟩
   ·
     clear hi
     go_wp2_with fail
     refine Calls.mono (octet_Put.calls A4 c4 Li 2 _ _ _ (by exact Kd.C_below (Kd.R_reads' HO.out).2.2 (by repeat (first | (with_reducible first | exact Below.refl _ _ | apply below_alloc | apply pw_below_drewN | apply below_drew1) | exact Below.refl _ _))) (Kd.R_reads' HO.out).2.1 (ip4_Lay.put (m := 2) (by decide) (by have := HE.out; omega))) ?_
     rintro e w5 ⟨v5, rfl, ho, hb⟩
     rw [← HLi.out] at ho
     have HO5 := Aside0.mk (show Kd.R (Kd.int .u8) 5 w5 w2.heap.size (fun _ => True) v5 (ip4_Lay.cat ((ip4_Lay.ns tos id bs ttl proto src dst opts.size data.size).take 3)) by have h := Kd.R_lower ho (show w2.heap.size ≤ _ from (show Below w2.heap.size w2 _ from (sh_B HB2)).size); exact (show ip4_Lay.cat ((ip4_Lay.ns tos id bs ttl proto src dst opts.size data.size).take 3) = ip4_Lay.cat ((ip4_Lay.ns tos id bs ttl proto src dst opts.size data.size).take 2) ++ MBe.be (20 + (opts.size : Int) + (data.size : Int)) 2 by rw [show (ip4_Lay.ns tos id bs ttl proto src dst opts.size data.size).take 3 = (ip4_Lay.ns tos id bs ttl proto src dst opts.size data.size).take 2 ++ [(2, 20 + (opts.size : Int) + (data.size : Int))] from rfl, ip4_Lay.cat_append]; simp [ip4_Lay.cat]) ▸ h)
     replace HX := Aside0.mk (MStr.block_below (MStr.block_below HX.out (show Below wr.heap.size wr _ from (by repeat (first | (with_reducible first | exact Below.refl _ _ | apply below_alloc | apply pw_below_drewN | apply below_drew1) | exact Below.refl _ _)))) hb)
     replace HB2 := sh_S HB2 hb
     clear ho hb HO HE
     go_wp2_with fail
     go_roundg d
     case measure => omega
     case rel => exact ⟨3, rfl, ⟨by have := HI.out; omega⟩, ⟨HO5.out⟩, HX, HB2⟩
   ·
     clear hi
     go_wp2_with fail
     refine Calls.mono (octet_Put.calls A4 c4 Li 2 _ _ _ (by exact Kd.C_below (Kd.R_reads' HO.out).2.2 (by repeat (first | (with_reducible first | exact Below.refl _ _ | apply below_alloc | apply pw_below_drewN | apply below_drew1) | exact Below.refl _ _))) (Kd.R_reads' HO.out).2.1 (ip4_Lay.put (m := 2) (by decide) (by have := HE.out; omega))) ?_
     rintro e w5 ⟨v5, rfl, ho, hb⟩
     rw [← HLi.out] at ho
     have HO5 := Aside0.mk (show Kd.R (Kd.int .u8) 5 w5 w2.heap.size (fun _ => True) v5 (ip4_Lay.cat ((ip4_Lay.ns tos id bs ttl proto src dst opts.size data.size).take 4)) by have h := Kd.R_lower ho (show w2.heap.size ≤ _ from (show Below w2.heap.size w2 _ from (sh_B HB2)).size); exact (show ip4_Lay.cat ((ip4_Lay.ns tos id bs ttl proto src dst opts.size data.size).take 4) = ip4_Lay.cat ((ip4_Lay.ns tos id bs ttl proto src dst opts.size data.size).take 3) ++ MBe.be (id) 2 by rw [show (ip4_Lay.ns tos id bs ttl proto src dst opts.size data.size).take 4 = (ip4_Lay.ns tos id bs ttl proto src dst opts.size data.size).take 3 ++ [(2, id)] from rfl, ip4_Lay.cat_append]; simp [ip4_Lay.cat]) ▸ h)
     replace HX := Aside0.mk (MStr.block_below (MStr.block_below HX.out (show Below wr.heap.size wr _ from (by repeat (first | (with_reducible first | exact Below.refl _ _ | apply below_alloc | apply pw_below_drewN | apply below_drew1) | exact Below.refl _ _)))) hb)
     replace HB2 := sh_S HB2 hb
     clear ho hb HO HE
     go_wp2_with fail
     go_roundg d
     case measure => omega
     case rel => exact ⟨4, rfl, ⟨by have := HI.out; omega⟩, ⟨HO5.out⟩, HX, HB2⟩
   ·
     clear hi
     go_wp2_with fail
     refine Calls.mono (octet_Put.calls A4 c4 Li 2 _ _ _ (by exact Kd.C_below (Kd.R_reads' HO.out).2.2 (by repeat (first | (with_reducible first | exact Below.refl _ _ | apply below_alloc | apply pw_below_drewN | apply below_drew1) | exact Below.refl _ _))) (Kd.R_reads' HO.out).2.1 (ip4_Lay.put (m := 2) (by decide) (by have := HE.out; omega))) ?_
     rintro e w5 ⟨v5, rfl, ho, hb⟩
     rw [← HLi.out] at ho
     have HO5 := Aside0.mk (show Kd.R (Kd.int .u8) 5 w5 w2.heap.size (fun _ => True) v5 (ip4_Lay.cat ((ip4_Lay.ns tos id bs ttl proto src dst opts.size data.size).take 5)) by have h := Kd.R_lower ho (show w2.heap.size ≤ _ from (show Below w2.heap.size w2 _ from (sh_B HB2)).size); exact (show ip4_Lay.cat ((ip4_Lay.ns tos id bs ttl proto src dst opts.size data.size).take 5) = ip4_Lay.cat ((ip4_Lay.ns tos id bs ttl proto src dst opts.size data.size).take 4) ++ MBe.be (bs) 2 by rw [show (ip4_Lay.ns tos id bs ttl proto src dst opts.size data.size).take 5 = (ip4_Lay.ns tos id bs ttl proto src dst opts.size data.size).take 4 ++ [(2, bs)] from rfl, ip4_Lay.cat_append]; simp [ip4_Lay.cat]) ▸ h)
     replace HX := Aside0.mk (MStr.block_below (MStr.block_below HX.out (show Below wr.heap.size wr _ from (by repeat (first | (with_reducible first | exact Below.refl _ _ | apply below_alloc | apply pw_below_drewN | apply below_drew1) | exact Below.refl _ _)))) hb)
     replace HB2 := sh_S HB2 hb
     clear ho hb HO HE
     go_wp2_with fail
     go_roundg d
     case measure => omega
     case rel => exact ⟨5, rfl, ⟨by have := HI.out; omega⟩, ⟨HO5.out⟩, HX, HB2⟩
   ·
     clear hi
     go_wp2_with fail
     refine Calls.mono (octet_Put.calls A4 c4 Li 1 _ _ _ (by exact Kd.C_below (Kd.R_reads' HO.out).2.2 (by repeat (first | (with_reducible first | exact Below.refl _ _ | apply below_alloc | apply pw_below_drewN | apply below_drew1) | exact Below.refl _ _))) (Kd.R_reads' HO.out).2.1 (ip4_Lay.put (m := 1) (by decide) (by have := HE.out; omega))) ?_
     rintro e w5 ⟨v5, rfl, ho, hb⟩
     rw [← HLi.out] at ho
     have HO5 := Aside0.mk (show Kd.R (Kd.int .u8) 5 w5 w2.heap.size (fun _ => True) v5 (ip4_Lay.cat ((ip4_Lay.ns tos id bs ttl proto src dst opts.size data.size).take 6)) by have h := Kd.R_lower ho (show w2.heap.size ≤ _ from (show Below w2.heap.size w2 _ from (sh_B HB2)).size); exact (show ip4_Lay.cat ((ip4_Lay.ns tos id bs ttl proto src dst opts.size data.size).take 6) = ip4_Lay.cat ((ip4_Lay.ns tos id bs ttl proto src dst opts.size data.size).take 5) ++ MBe.be (ttl) 1 by rw [show (ip4_Lay.ns tos id bs ttl proto src dst opts.size data.size).take 6 = (ip4_Lay.ns tos id bs ttl proto src dst opts.size data.size).take 5 ++ [(1, ttl)] from rfl, ip4_Lay.cat_append]; simp [ip4_Lay.cat]) ▸ h)
     replace HX := Aside0.mk (MStr.block_below (MStr.block_below HX.out (show Below wr.heap.size wr _ from (by repeat (first | (with_reducible first | exact Below.refl _ _ | apply below_alloc | apply pw_below_drewN | apply below_drew1) | exact Below.refl _ _)))) hb)
     replace HB2 := sh_S HB2 hb
     clear ho hb HO HE
     go_wp2_with fail
     go_roundg d
     case measure => omega
     case rel => exact ⟨6, rfl, ⟨by have := HI.out; omega⟩, ⟨HO5.out⟩, HX, HB2⟩
   ·
     clear hi
     go_wp2_with fail
     refine Calls.mono (octet_Put.calls A4 c4 Li 1 _ _ _ (by exact Kd.C_below (Kd.R_reads' HO.out).2.2 (by repeat (first | (with_reducible first | exact Below.refl _ _ | apply below_alloc | apply pw_below_drewN | apply below_drew1) | exact Below.refl _ _))) (Kd.R_reads' HO.out).2.1 (ip4_Lay.put (m := 1) (by decide) (by have := HE.out; omega))) ?_
     rintro e w5 ⟨v5, rfl, ho, hb⟩
     rw [← HLi.out] at ho
     have HO5 := Aside0.mk (show Kd.R (Kd.int .u8) 5 w5 w2.heap.size (fun _ => True) v5 (ip4_Lay.cat ((ip4_Lay.ns tos id bs ttl proto src dst opts.size data.size).take 7)) by have h := Kd.R_lower ho (show w2.heap.size ≤ _ from (show Below w2.heap.size w2 _ from (sh_B HB2)).size); exact (show ip4_Lay.cat ((ip4_Lay.ns tos id bs ttl proto src dst opts.size data.size).take 7) = ip4_Lay.cat ((ip4_Lay.ns tos id bs ttl proto src dst opts.size data.size).take 6) ++ MBe.be (proto) 1 by rw [show (ip4_Lay.ns tos id bs ttl proto src dst opts.size data.size).take 7 = (ip4_Lay.ns tos id bs ttl proto src dst opts.size data.size).take 6 ++ [(1, proto)] from rfl, ip4_Lay.cat_append]; simp [ip4_Lay.cat]) ▸ h)
     replace HX := Aside0.mk (MStr.block_below (MStr.block_below HX.out (show Below wr.heap.size wr _ from (by repeat (first | (with_reducible first | exact Below.refl _ _ | apply below_alloc | apply pw_below_drewN | apply below_drew1) | exact Below.refl _ _)))) hb)
     replace HB2 := sh_S HB2 hb
     clear ho hb HO HE
     go_wp2_with fail
     go_roundg d
     case measure => omega
     case rel => exact ⟨7, rfl, ⟨by have := HI.out; omega⟩, ⟨HO5.out⟩, HX, HB2⟩
   ·
     clear hi
     go_wp2_with fail
     refine Calls.mono (octet_Put.calls A4 c4 Li 2 _ _ _ (by exact Kd.C_below (Kd.R_reads' HO.out).2.2 (by repeat (first | (with_reducible first | exact Below.refl _ _ | apply below_alloc | apply pw_below_drewN | apply below_drew1) | exact Below.refl _ _))) (Kd.R_reads' HO.out).2.1 (ip4_Lay.put (m := 2) (by decide) (by have := HE.out; omega))) ?_
     rintro e w5 ⟨v5, rfl, ho, hb⟩
     rw [← HLi.out] at ho
     have HO5 := Aside0.mk (show Kd.R (Kd.int .u8) 5 w5 w2.heap.size (fun _ => True) v5 (ip4_Lay.cat ((ip4_Lay.ns tos id bs ttl proto src dst opts.size data.size).take 8)) by have h := Kd.R_lower ho (show w2.heap.size ≤ _ from (show Below w2.heap.size w2 _ from (sh_B HB2)).size); exact (show ip4_Lay.cat ((ip4_Lay.ns tos id bs ttl proto src dst opts.size data.size).take 8) = ip4_Lay.cat ((ip4_Lay.ns tos id bs ttl proto src dst opts.size data.size).take 7) ++ MBe.be (0) 2 by rw [show (ip4_Lay.ns tos id bs ttl proto src dst opts.size data.size).take 8 = (ip4_Lay.ns tos id bs ttl proto src dst opts.size data.size).take 7 ++ [(2, 0)] from rfl, ip4_Lay.cat_append]; simp [ip4_Lay.cat]) ▸ h)
     replace HX := Aside0.mk (MStr.block_below (MStr.block_below HX.out (show Below wr.heap.size wr _ from (by repeat (first | (with_reducible first | exact Below.refl _ _ | apply below_alloc | apply pw_below_drewN | apply below_drew1) | exact Below.refl _ _)))) hb)
     replace HB2 := sh_S HB2 hb
     clear ho hb HO HE
     go_wp2_with fail
     go_roundg d
     case measure => omega
     case rel => exact ⟨8, rfl, ⟨by have := HI.out; omega⟩, ⟨HO5.out⟩, HX, HB2⟩
   ·
     clear hi
     go_wp2_with fail
     refine Calls.mono (octet_Put.calls A4 c4 Li 4 _ _ _ (by exact Kd.C_below (Kd.R_reads' HO.out).2.2 (by repeat (first | (with_reducible first | exact Below.refl _ _ | apply below_alloc | apply pw_below_drewN | apply below_drew1) | exact Below.refl _ _))) (Kd.R_reads' HO.out).2.1 (ip4_Lay.put (m := 4) (by decide) (by have := HE.out; omega))) ?_
     rintro e w5 ⟨v5, rfl, ho, hb⟩
     rw [← HLi.out] at ho
     have HO5 := Aside0.mk (show Kd.R (Kd.int .u8) 5 w5 w2.heap.size (fun _ => True) v5 (ip4_Lay.cat ((ip4_Lay.ns tos id bs ttl proto src dst opts.size data.size).take 9)) by have h := Kd.R_lower ho (show w2.heap.size ≤ _ from (show Below w2.heap.size w2 _ from (sh_B HB2)).size); exact (show ip4_Lay.cat ((ip4_Lay.ns tos id bs ttl proto src dst opts.size data.size).take 9) = ip4_Lay.cat ((ip4_Lay.ns tos id bs ttl proto src dst opts.size data.size).take 8) ++ MBe.be (src) 4 by rw [show (ip4_Lay.ns tos id bs ttl proto src dst opts.size data.size).take 9 = (ip4_Lay.ns tos id bs ttl proto src dst opts.size data.size).take 8 ++ [(4, src)] from rfl, ip4_Lay.cat_append]; simp [ip4_Lay.cat]) ▸ h)
     replace HX := Aside0.mk (MStr.block_below (MStr.block_below HX.out (show Below wr.heap.size wr _ from (by repeat (first | (with_reducible first | exact Below.refl _ _ | apply below_alloc | apply pw_below_drewN | apply below_drew1) | exact Below.refl _ _)))) hb)
     replace HB2 := sh_S HB2 hb
     clear ho hb HO HE
     go_wp2_with fail
     go_roundg d
     case measure => omega
     case rel => exact ⟨9, rfl, ⟨by have := HI.out; omega⟩, ⟨HO5.out⟩, HX, HB2⟩
   ·
     clear hi
     go_wp2_with fail
     refine Calls.mono (octet_Put.calls A4 c4 Li 4 _ _ _ (by exact Kd.C_below (Kd.R_reads' HO.out).2.2 (by repeat (first | (with_reducible first | exact Below.refl _ _ | apply below_alloc | apply pw_below_drewN | apply below_drew1) | exact Below.refl _ _))) (Kd.R_reads' HO.out).2.1 (ip4_Lay.put (m := 4) (by decide) (by have := HE.out; omega))) ?_
     rintro e w5 ⟨v5, rfl, ho, hb⟩
     rw [← HLi.out] at ho
     have HO5 := Aside0.mk (show Kd.R (Kd.int .u8) 5 w5 w2.heap.size (fun _ => True) v5 (ip4_Lay.cat ((ip4_Lay.ns tos id bs ttl proto src dst opts.size data.size).take 10)) by have h := Kd.R_lower ho (show w2.heap.size ≤ _ from (show Below w2.heap.size w2 _ from (sh_B HB2)).size); exact (show ip4_Lay.cat ((ip4_Lay.ns tos id bs ttl proto src dst opts.size data.size).take 10) = ip4_Lay.cat ((ip4_Lay.ns tos id bs ttl proto src dst opts.size data.size).take 9) ++ MBe.be (dst) 4 by rw [show (ip4_Lay.ns tos id bs ttl proto src dst opts.size data.size).take 10 = (ip4_Lay.ns tos id bs ttl proto src dst opts.size data.size).take 9 ++ [(4, dst)] from rfl, ip4_Lay.cat_append]; simp [ip4_Lay.cat]) ▸ h)
     replace HX := Aside0.mk (MStr.block_below (MStr.block_below HX.out (show Below wr.heap.size wr _ from (by repeat (first | (with_reducible first | exact Below.refl _ _ | apply below_alloc | apply pw_below_drewN | apply below_drew1) | exact Below.refl _ _)))) hb)
     replace HB2 := sh_S HB2 hb
     clear ho hb HO HE
     go_wp2_with fail
     go_roundg d
     case measure => omega
     case rel => exact ⟨10, rfl, ⟨by have := HI.out; omega⟩, ⟨HO5.out⟩, HX, HB2⟩
set_option maxHeartbeats 4000000 in
set_option maxRecDepth 100000 in
theorem ip4_Lay.bad (tos id : Int) (df mf : Bool) (off ttl proto : Int) (b1 : Bool) (h1 src : Int) (b2 : Bool) (h2 dst : Int) (opts data : ByteArray) (w : World)
  (hm : ip4_may.f tos id df mf off ttl proto b1 h1 src b2 h2 dst opts data = some false) :
  Calls Try.prog 9 #[.agg #[.int .i64 tos, .int .i64 id, .bool df, .bool mf, .int .i64 off, .int .i64 ttl, .int .i64 proto, .bool b1, .int .u64 h1, .int .u64 src, .bool b2, .int .u64 h2, .int .u64 dst, .string opts, .string data]] w fun e w' => e = .returned (.tuple #[.string ⟨#[]⟩, .int .i64 50]) ∧ Below w.heap.size w w' := by
 obtain ⟨wb, hwb⟩ : ∃ wb, w.alloc (.cells #[.int .i64 tos, .int .i64 id, .bool df, .bool mf, .int .i64 off, .int .i64 ttl, .int .i64 proto, .bool b1, .int .u64 h1, .int .u64 src, .bool b2, .int .u64 h2, .int .u64 dst, .string opts, .string data] 26) = wb := ⟨_, rfl⟩
 have HBW := Aside0.mk (show Below w.heap.size w wb by rw [← hwb]; exact below_alloc (Below.refl _ _) _)
 have HX := Aside0.mk (show wb.heap[w.heap.size]? = some (.cells #[.int .i64 tos, .int .i64 id, .bool df, .bool mf, .int .i64 off, .int .i64 ttl, .int .i64 proto, .bool b1, .int .u64 h1, .int .u64 src, .bool b2, .int .u64 h2, .int .u64 dst, .string opts, .string data] 26 (0, 0)) by rw [← hwb]; exact heap_alloc_new _ _)
 have hu26 := Try.underlying26
 have hu24 := Try.underlying24
 have x0 := MStr.block_cell (j := 0) HX.out rfl; have x1 := MStr.block_cell (j := 1) HX.out rfl; have x2 := MStr.block_cell (j := 2) HX.out rfl; have x3 := MStr.block_cell (j := 3) HX.out rfl; have x4 := MStr.block_cell (j := 4) HX.out rfl; have x5 := MStr.block_cell (j := 5) HX.out rfl; have x6 := MStr.block_cell (j := 6) HX.out rfl; have x7 := MStr.block_cell (j := 7) HX.out rfl; have x8 := MStr.block_cell (j := 8) HX.out rfl; have x9 := MStr.block_cell (j := 9) HX.out rfl; have x10 := MStr.block_cell (j := 10) HX.out rfl; have x11 := MStr.block_cell (j := 11) HX.out rfl; have x12 := MStr.block_cell (j := 12) HX.out rfl; have x13 := MStr.block_cell (j := 13) HX.out rfl; have x14 := MStr.block_cell (j := 14) HX.out rfl
 have HM := Aside0.mk hm
 clear hm
 go_enter Try.func9, Try.ntmps9
 go_wp2_with fail
 clear hwb
 refine (ip4_may.calls _ _ _ _ _ _ _ _ _ _ _ _ _ _ _ false _ HM.out).mono ?_
 rintro e w2 ⟨rfl, hbl⟩
 replace HX := Aside0.mk (MStr.block_below HX.out hbl)
 have HB := Aside0.mk (below_step HBW.out hbl)
 clear hbl x0 x1 x2 x3 x4 x5 x6 x7 x8 x9 x10 x11 x12 x13 x14
 have x13 := MStr.block_cell (j := 13) HX.out rfl
 have x14 := MStr.block_cell (j := 14) HX.out rfl
 go_wp2_with fail
 go_ret2
 exact ⟨rfl, HB.out⟩
set_option maxHeartbeats 4000000 in
set_option maxRecDepth 100000 in
theorem ip4_Lay.long (tos id : Int) (df mf : Bool) (off ttl proto : Int) (b1 : Bool) (h1 src : Int) (b2 : Bool) (h2 dst : Int) (opts data : ByteArray) (w : World)
  (hm : ip4_may.f tos id df mf off ttl proto b1 h1 src b2 h2 dst opts data = some true) (ho : opts.size ≤ 40) (hd : data.size ≤ 140737488355328) (hs : 65535 < 20 + (opts.size : Int) + (data.size : Int)) :
  Calls Try.prog 9 #[.agg #[.int .i64 tos, .int .i64 id, .bool df, .bool mf, .int .i64 off, .int .i64 ttl, .int .i64 proto, .bool b1, .int .u64 h1, .int .u64 src, .bool b2, .int .u64 h2, .int .u64 dst, .string opts, .string data]] w fun e w' => e = .returned (.tuple #[.string ⟨#[]⟩, .int .i64 53]) ∧ Below w.heap.size w w' := by
 obtain ⟨wb, hwb⟩ : ∃ wb, w.alloc (.cells #[.int .i64 tos, .int .i64 id, .bool df, .bool mf, .int .i64 off, .int .i64 ttl, .int .i64 proto, .bool b1, .int .u64 h1, .int .u64 src, .bool b2, .int .u64 h2, .int .u64 dst, .string opts, .string data] 26) = wb := ⟨_, rfl⟩
 have HBW := Aside0.mk (show Below w.heap.size w wb by rw [← hwb]; exact below_alloc (Below.refl _ _) _)
 have HX := Aside0.mk (show wb.heap[w.heap.size]? = some (.cells #[.int .i64 tos, .int .i64 id, .bool df, .bool mf, .int .i64 off, .int .i64 ttl, .int .i64 proto, .bool b1, .int .u64 h1, .int .u64 src, .bool b2, .int .u64 h2, .int .u64 dst, .string opts, .string data] 26 (0, 0)) by rw [← hwb]; exact heap_alloc_new _ _)
 have hu26 := Try.underlying26
 have hu24 := Try.underlying24
 have x0 := MStr.block_cell (j := 0) HX.out rfl; have x1 := MStr.block_cell (j := 1) HX.out rfl; have x2 := MStr.block_cell (j := 2) HX.out rfl; have x3 := MStr.block_cell (j := 3) HX.out rfl; have x4 := MStr.block_cell (j := 4) HX.out rfl; have x5 := MStr.block_cell (j := 5) HX.out rfl; have x6 := MStr.block_cell (j := 6) HX.out rfl; have x7 := MStr.block_cell (j := 7) HX.out rfl; have x8 := MStr.block_cell (j := 8) HX.out rfl; have x9 := MStr.block_cell (j := 9) HX.out rfl; have x10 := MStr.block_cell (j := 10) HX.out rfl; have x11 := MStr.block_cell (j := 11) HX.out rfl; have x12 := MStr.block_cell (j := 12) HX.out rfl; have x13 := MStr.block_cell (j := 13) HX.out rfl; have x14 := MStr.block_cell (j := 14) HX.out rfl
 have HM := Aside0.mk hm
 clear hm
 go_enter Try.func9, Try.ntmps9
 go_wp2_with fail
 clear hwb
 refine (ip4_may.calls _ _ _ _ _ _ _ _ _ _ _ _ _ _ _ true _ HM.out).mono ?_
 rintro e w2 ⟨rfl, hbl⟩
 replace HX := Aside0.mk (MStr.block_below HX.out hbl)
 have HB := Aside0.mk (below_step HBW.out hbl)
 clear hbl x0 x1 x2 x3 x4 x5 x6 x7 x8 x9 x10 x11 x12 x13 x14
 have x13 := MStr.block_cell (j := 13) HX.out rfl
 have x14 := MStr.block_cell (j := 14) HX.out rfl
 go_wp2_with fail
 go_ret2
 exact ⟨rfl, HB.out⟩
theorem ip4_Lay.mono : ∀ a0 a1 a2 a3 a4 a5 a6 a7 a8 a9 a10 a11 a12 a13 a14 k, LeO (ip4_Lay.f k a0 a1 a2 a3 a4 a5 a6 a7 a8 a9 a10 a11 a12 a13 a14) (ip4_Lay.f (k + 1) a0 a1 a2 a3 a4 a5 a6 a7 a8 a9 a10 a11 a12 a13 a14) := by
 intro a0 a1 a2 a3 a4 a5 a6 a7 a8 a9 a10 a11 a12 a13 a14 k
 unfold ip4_Lay.f
 repeat' first | (with_reducible exact tally_Check.mono _ _) | (with_reducible exact LeO.refl _) | (with_reducible exact LeO.none _) | (with_reducible refine LeO.ite ?_ ?_) | (with_reducible refine LeO.bind ?_ (fun _ => ?_))
theorem ip4_Lay.calls (k : Nat) (a0 a1 : Int) (a2 a3 : Bool) (a4 a5 a6 : Int) (a7 : Bool) (a8 a9 : Int) (a10 : Bool) (a11 a12 : Int) (a13 a14 : ByteArray) (r1 : ByteArray) (r2 : Int) (w : World) (h : ip4_Lay.f k a0 a1 a2 a3 a4 a5 a6 a7 a8 a9 a10 a11 a12 a13 a14 = some (r1, r2)) :
  Calls Try.prog 9 #[.agg #[.int .i64 a0, .int .i64 a1, .bool a2, .bool a3, .int .i64 a4, .int .i64 a5, .int .i64 a6, .bool a7, .int .u64 a8, .int .u64 a9, .bool a10, .int .u64 a11, .int .u64 a12, .string a13, .string a14]] w fun e w' => e = .returned (.tuple #[.string r1, .int .i64 r2]) ∧ Below w.heap.size w w' := by
 unfold ip4_Lay.f at h
 obtain ⟨m, hm, h⟩ := Option.bind_eq_some_iff.1 h
 cases m with
 | false =>
  rw [if_pos rfl] at h; injection h with h; injection h with e1 e2; subst e1 e2
  exact ip4_Lay.bad a0 a1 a2 a3 a4 a5 a6 a7 a8 a9 a10 a11 a12 a13 a14 w hm
 | true =>
  rw [if_neg (by decide)] at h
  by_cases hz : a13.size ≤ 40 ∧ a14.size ≤ 140737488355328
  case neg => rw [if_pos hz] at h; cases h
  rw [if_neg (fun q => q hz)] at h
  by_cases hl : 65535 < 20 + (a13.size : Int) + (a14.size : Int)
  · rw [if_pos hl] at h; injection h with h; injection h with e1 e2; subst e1 e2
    exact ip4_Lay.long a0 a1 a2 a3 a4 a5 a6 a7 a8 a9 a10 a11 a12 a13 a14 w hm hz.1 hz.2 hl
  rw [if_neg hl] at h
  by_cases hq : 0 ≤ a9 ∧ a9 ≤ 4294967295 ∧ 0 ≤ a12 ∧ a12 ≤ 4294967295 ∧ 0 ≤ a0 ∧ a0 ≤ 255 ∧ 0 ≤ a1 ∧ a1 ≤ 65535 ∧ 0 ≤ a5 ∧ a5 ≤ 255 ∧ 0 ≤ a6 ∧ a6 ≤ 255 ∧ 0 ≤ ip4_Lay.bits a2 a3 a4 ∧ ip4_Lay.bits a2 a3 a4 ≤ 65535
  case neg => rw [if_pos hq] at h; cases h
  rw [if_neg (fun q => q hq)] at h
  obtain ⟨c, hc, h⟩ := Option.bind_eq_some_iff.1 h
  by_cases hr : 0 ≤ c ∧ c ≤ 65535
  case neg => rw [if_pos hr] at h; cases h
  rw [if_neg (fun q => q hr)] at h; injection h with h; injection h with e1 e2; subst e1 e2
  obtain ⟨t1, t2, t3, t4, t5, t6, t7, t8, t9, t10, t11, t12, t13, t14⟩ := hq
  exact ip4_Lay.good k a0 a1 a2 a3 a4 a5 a6 a7 a8 a9 a10 a11 a12 a13 a14 c _ w hm (by omega) ⟨t1, t2⟩ ⟨t3, t4⟩ t5 t6 t7 t8 t9 t10 t11 t12 rfl t13 t14 hc hr.1 hr.2

/-! ### ip4_heads: function 28 (by hand) -/
/-- How many bytes a header has, as its first byte says. -/
def ip4_heads.hd (s : ByteArray) : Int := 4 * (bt s 0 - 64)
/-- How many bytes a packet has, as it says. -/
def ip4_heads.wh (s : ByteArray) : Int := Go.bits .or .i64 (bt s 2 * 256) (bt s 3)
def ip4_heads.f (k : Nat) (s : ByteArray) : Option (Int × Int × Int) :=
 if (s.size : Int) < 20 then some (0, 0, 51) else if ip4_heads.hd s < 20 ∨ bt s 0 > 79 then some (0, 0, 50) else if (s.size : Int) < ip4_heads.hd s then some (0, 0, 51) else
 (tally_Sum.f k [bytesOf (s.extract 0 (ip4_heads.hd s).toNat)]).bind fun t => if ¬ t = 65535 then some (0, 0, 52) else
 if ¬ (0 ≤ ip4_heads.wh s ∧ ip4_heads.wh s ≤ 65535) then none else
 if ip4_heads.wh s < ip4_heads.hd s ∨ ¬ Go.bits .and .u8 (bt s 6) 128 = 0 then some (0, 0, 50) else if (s.size : Int) < ip4_heads.wh s then some (0, 0, 51) else some (ip4_heads.hd s, ip4_heads.wh s, 0)
set_option maxHeartbeats 2000000 in
set_option maxRecDepth 100000 in
theorem ip4_heads.short (s : ByteArray) (w : World) (h : (s.size : Int) < 20) :
  Calls Try.prog 28 #[.string s] w fun e w' => e = .returned (.tuple #[.int .i64 0, .int .i64 0, .int .i64 51]) ∧ Below w.heap.size w w' := by
 have HB := Aside0.mk (Below.refl w.heap.size w)
 go_enter Try.func28, Try.ntmps28
 go_wp2_with fail
 go_ret3
 exact ⟨rfl, (sh_B HB)⟩
set_option maxHeartbeats 2000000 in
set_option maxRecDepth 100000 in
theorem ip4_heads.form (s : ByteArray) (w : World) (h : 20 ≤ (s.size : Int)) (h2 : ip4_heads.hd s < 20 ∨ bt s 0 > 79) :
  Calls Try.prog 28 #[.string s] w fun e w' => e = .returned (.tuple #[.int .i64 0, .int .i64 0, .int .i64 50]) ∧ Below w.heap.size w w' := by
 have HB := Aside0.mk (Below.refl w.heap.size w)
 have hx0 : ∀ h : 0 < s.size, ((s[0]'h).toNat : Int) = bt s 0 := bt_at s 0
 have r0 := (bt_range s 0).1; have r1 := (bt_range s 0).2
 have hq0 : 0 < s.size := by omega
 have hi0 : ((0 : Int) < (s.size : Int)) = True := eq_true (by omega)
 unfold ip4_heads.hd at h2
 by_cases c : 4 * (bt s 0 - 64) < 20
 · clear h2
   go_enter Try.func28, Try.ntmps28
   go_wp2_with fail
   go_ret3
   exact ⟨rfl, (sh_B HB)⟩
 · have c2 : 79 < bt s 0 := by omega
   clear h2
   go_enter Try.func28, Try.ntmps28
   go_wp2_with fail
   go_ret3
   exact ⟨rfl, (sh_B HB)⟩
set_option maxHeartbeats 2000000 in
set_option maxRecDepth 100000 in
theorem ip4_heads.short2 (s : ByteArray) (w : World) (h : 20 ≤ (s.size : Int)) (h2 : ¬ (ip4_heads.hd s < 20 ∨ bt s 0 > 79)) (h3 : (s.size : Int) < ip4_heads.hd s) :
  Calls Try.prog 28 #[.string s] w fun e w' => e = .returned (.tuple #[.int .i64 0, .int .i64 0, .int .i64 51]) ∧ Below w.heap.size w w' := by
 have HB := Aside0.mk (Below.refl w.heap.size w)
 have hx0 : ∀ h : 0 < s.size, ((s[0]'h).toNat : Int) = bt s 0 := bt_at s 0
 have r0 := (bt_range s 0).1; have r1 := (bt_range s 0).2
 have hq0 : 0 < s.size := by omega
 have hi0 : ((0 : Int) < (s.size : Int)) = True := eq_true (by omega)
 unfold ip4_heads.hd at h2 h3
 have c : ¬ 4 * (bt s 0 - 64) < 20 := by omega
 have c2 : ¬ 79 < bt s 0 := by omega
 clear h2
 go_enter Try.func28, Try.ntmps28
 go_wp2_with fail
 go_ret3
 exact ⟨rfl, (sh_B HB)⟩
set_option maxHeartbeats 2000000 in
set_option maxRecDepth 100000 in
theorem ip4_heads.bad (k : Nat) (s : ByteArray) (t : Int) (hd : Nat) (w : World) (h1 : ip4_heads.hd s = (hd : Int)) (h2 : 20 ≤ hd) (h3 : bt s 0 ≤ 79) (h4 : hd ≤ s.size) (ht : tally_Sum.f k [bytesOf (s.extract 0 hd)] = some t) (h5 : ¬ t = 65535) :
  Calls Try.prog 28 #[.string s] w fun e w' => e = .returned (.tuple #[.int .i64 0, .int .i64 0, .int .i64 52]) ∧ Below w.heap.size w w' := by
 have HB := Aside0.mk (Below.refl w.heap.size w)
 have hx0 : ∀ h : 0 < s.size, ((s[0]'h).toNat : Int) = bt s 0 := bt_at s 0
 have hx2 : ∀ h : 2 < s.size, ((s[2]'h).toNat : Int) = bt s 2 := bt_at s 2
 have hx3 : ∀ h : 3 < s.size, ((s[3]'h).toNat : Int) = bt s 3 := bt_at s 3
 have hx6 : ∀ h : 6 < s.size, ((s[6]'h).toNat : Int) = bt s 6 := bt_at s 6
 have r0 := (bt_range s 0).1; have r1 := (bt_range s 0).2
 have r2 := (bt_range s 2).1; have r3 := (bt_range s 2).2
 have r4 := (bt_range s 3).1; have r5 := (bt_range s 3).2
 have r6 := (bt_range s 6).1; have r7 := (bt_range s 6).2
 have HT := Aside0.mk ht
 have HSZ := Aside0.mk (show (s.extract 0 hd).size = hd by simp; omega)
 have hm : min hd s.size = hd := by omega
 have hq0 : 0 < s.size := by omega
 have hq2 : 2 < s.size := by omega
 have hq3 : 3 < s.size := by omega
 have hq6 : 6 < s.size := by omega
 have hi0 : ((0 : Int) < (s.size : Int)) = True := eq_true (by omega)
 have hi2 : ((2 : Int) < (s.size : Int)) = True := eq_true (by omega)
 have hi3 : ((3 : Int) < (s.size : Int)) = True := eq_true (by omega)
 have hi6 : ((6 : Int) < (s.size : Int)) = True := eq_true (by omega)
 have hd0 : (0 : Int) ≤ (hd : Int) := by omega
 have hd1 : (hd : Int) ≤ (s.size : Int) := by omega
 have hd2 : ¬ (hd : Int) < 20 := by omega
 have hd3 : ¬ 79 < bt s 0 := by omega
 have hd4 : ¬ (s.size : Int) < (hd : Int) := by omega
 have hd5 : ¬ (s.size : Int) < 20 := by omega
 have hdd : hd ≤ 1000 := by unfold ip4_heads.hd at h1; omega
 have t5 : (t != 65535) = true := by simpa using h5
 unfold ip4_heads.hd at h1
 clear ht h2
 have kb := fun s W => print_bytes (P := Try.prog) 9 45 5 Try.underlying9 Try.underlying45 Try.underlying5 s W
 go_enter Try.func28, Try.ntmps28
 go_wp2_with fail
 have hC := MStr.C_bytes w 5 (s.extract 0 hd) (by rw [HSZ.out]; omega)
 rw [HSZ.out] at hC
 refine (tally_Sum.calls k (some _) 1 [bytesOf (s.extract 0 hd)] t _ (MStr.C_varN hC (grownCap_ge _ _ _ _) rfl) (Nat.le_refl _) HT.out).mono ?_
 rintro e w7 ⟨rfl, ⟨nd, rfl⟩⟩
 clear hC kb
 have HB2 := Aside0.mk (show Below w.heap.size w (Lib.bytesWorld w 5 (s.extract 0 hd)) from bytes_below (Below.refl _ _) (Nat.le_refl _) _ _)
 go_wp2_with fail
 go_ret3
 exact ⟨rfl, (sh_B HB2)⟩
set_option maxHeartbeats 2000000 in
set_option maxRecDepth 100000 in
theorem ip4_heads.form1 (k : Nat) (s : ByteArray) (t : Int) (hd wh : Nat) (w : World) (h1 : ip4_heads.hd s = (hd : Int)) (h2 : 20 ≤ hd) (h3 : bt s 0 ≤ 79) (h4 : hd ≤ s.size) (ht : tally_Sum.f k [bytesOf (s.extract 0 hd)] = some t) (hw : ip4_heads.wh s = (wh : Int)) (hw2 : wh ≤ 65535) (h5 : t = 65535) (h6 : (wh : Int) < (hd : Int)) :
  Calls Try.prog 28 #[.string s] w fun e w' => e = .returned (.tuple #[.int .i64 0, .int .i64 0, .int .i64 50]) ∧ Below w.heap.size w w' := by
 have HB := Aside0.mk (Below.refl w.heap.size w)
 have hx0 : ∀ h : 0 < s.size, ((s[0]'h).toNat : Int) = bt s 0 := bt_at s 0
 have hx2 : ∀ h : 2 < s.size, ((s[2]'h).toNat : Int) = bt s 2 := bt_at s 2
 have hx3 : ∀ h : 3 < s.size, ((s[3]'h).toNat : Int) = bt s 3 := bt_at s 3
 have hx6 : ∀ h : 6 < s.size, ((s[6]'h).toNat : Int) = bt s 6 := bt_at s 6
 have r0 := (bt_range s 0).1; have r1 := (bt_range s 0).2
 have r2 := (bt_range s 2).1; have r3 := (bt_range s 2).2
 have r4 := (bt_range s 3).1; have r5 := (bt_range s 3).2
 have r6 := (bt_range s 6).1; have r7 := (bt_range s 6).2
 have HT := Aside0.mk ht
 have HSZ := Aside0.mk (show (s.extract 0 hd).size = hd by simp; omega)
 have hm : min hd s.size = hd := by omega
 have hq0 : 0 < s.size := by omega
 have hq2 : 2 < s.size := by omega
 have hq3 : 3 < s.size := by omega
 have hq6 : 6 < s.size := by omega
 have hi0 : ((0 : Int) < (s.size : Int)) = True := eq_true (by omega)
 have hi2 : ((2 : Int) < (s.size : Int)) = True := eq_true (by omega)
 have hi3 : ((3 : Int) < (s.size : Int)) = True := eq_true (by omega)
 have hi6 : ((6 : Int) < (s.size : Int)) = True := eq_true (by omega)
 have hd0 : (0 : Int) ≤ (hd : Int) := by omega
 have hd1 : (hd : Int) ≤ (s.size : Int) := by omega
 have hd2 : ¬ (hd : Int) < 20 := by omega
 have hd3 : ¬ 79 < bt s 0 := by omega
 have hd4 : ¬ (s.size : Int) < (hd : Int) := by omega
 have hd5 : ¬ (s.size : Int) < 20 := by omega
 have hdd : hd ≤ 1000 := by unfold ip4_heads.hd at h1; omega
 have t5 : (t != 65535) = false := by simpa using h5
 have w0 : (0 : Int) ≤ (wh : Int) := by omega
 have w1 : (wh : Int) ≤ 65535 := by omega
 unfold ip4_heads.wh at hw
 unfold ip4_heads.hd at h1
 clear ht h2
 have kb := fun s W => print_bytes (P := Try.prog) 9 45 5 Try.underlying9 Try.underlying45 Try.underlying5 s W
 go_enter Try.func28, Try.ntmps28
 go_wp2_with fail
 have hC := MStr.C_bytes w 5 (s.extract 0 hd) (by rw [HSZ.out]; omega)
 rw [HSZ.out] at hC
 refine (tally_Sum.calls k (some _) 1 [bytesOf (s.extract 0 hd)] t _ (MStr.C_varN hC (grownCap_ge _ _ _ _) rfl) (Nat.le_refl _) HT.out).mono ?_
 rintro e w7 ⟨rfl, ⟨nd, rfl⟩⟩
 clear hC kb
 have HB2 := Aside0.mk (show Below w.heap.size w (Lib.bytesWorld w 5 (s.extract 0 hd)) from bytes_below (Below.refl _ _) (Nat.le_refl _) _ _)
 go_wp2_with fail
 go_quiet (fail)
 go_wp2_with fail
 go_ret3
 exact ⟨rfl, (sh_B HB2)⟩
set_option maxHeartbeats 2000000 in
set_option maxRecDepth 100000 in
theorem ip4_heads.form2 (k : Nat) (s : ByteArray) (t : Int) (hd wh : Nat) (w : World) (h1 : ip4_heads.hd s = (hd : Int)) (h2 : 20 ≤ hd) (h3 : bt s 0 ≤ 79) (h4 : hd ≤ s.size) (ht : tally_Sum.f k [bytesOf (s.extract 0 hd)] = some t) (hw : ip4_heads.wh s = (wh : Int)) (hw2 : wh ≤ 65535) (h5 : t = 65535) (h6 : ¬ (wh : Int) < (hd : Int)) (h7 : ¬ Go.bits .and .u8 (bt s 6) 128 = 0) :
  Calls Try.prog 28 #[.string s] w fun e w' => e = .returned (.tuple #[.int .i64 0, .int .i64 0, .int .i64 50]) ∧ Below w.heap.size w w' := by
 have HB := Aside0.mk (Below.refl w.heap.size w)
 have hx0 : ∀ h : 0 < s.size, ((s[0]'h).toNat : Int) = bt s 0 := bt_at s 0
 have hx2 : ∀ h : 2 < s.size, ((s[2]'h).toNat : Int) = bt s 2 := bt_at s 2
 have hx3 : ∀ h : 3 < s.size, ((s[3]'h).toNat : Int) = bt s 3 := bt_at s 3
 have hx6 : ∀ h : 6 < s.size, ((s[6]'h).toNat : Int) = bt s 6 := bt_at s 6
 have r0 := (bt_range s 0).1; have r1 := (bt_range s 0).2
 have r2 := (bt_range s 2).1; have r3 := (bt_range s 2).2
 have r4 := (bt_range s 3).1; have r5 := (bt_range s 3).2
 have r6 := (bt_range s 6).1; have r7 := (bt_range s 6).2
 have HT := Aside0.mk ht
 have HSZ := Aside0.mk (show (s.extract 0 hd).size = hd by simp; omega)
 have hm : min hd s.size = hd := by omega
 have hq0 : 0 < s.size := by omega
 have hq2 : 2 < s.size := by omega
 have hq3 : 3 < s.size := by omega
 have hq6 : 6 < s.size := by omega
 have hi0 : ((0 : Int) < (s.size : Int)) = True := eq_true (by omega)
 have hi2 : ((2 : Int) < (s.size : Int)) = True := eq_true (by omega)
 have hi3 : ((3 : Int) < (s.size : Int)) = True := eq_true (by omega)
 have hi6 : ((6 : Int) < (s.size : Int)) = True := eq_true (by omega)
 have hd0 : (0 : Int) ≤ (hd : Int) := by omega
 have hd1 : (hd : Int) ≤ (s.size : Int) := by omega
 have hd2 : ¬ (hd : Int) < 20 := by omega
 have hd3 : ¬ 79 < bt s 0 := by omega
 have hd4 : ¬ (s.size : Int) < (hd : Int) := by omega
 have hd5 : ¬ (s.size : Int) < 20 := by omega
 have hdd : hd ≤ 1000 := by unfold ip4_heads.hd at h1; omega
 have t5 : (t != 65535) = false := by simpa using h5
 have w0 : (0 : Int) ≤ (wh : Int) := by omega
 have w1 : (wh : Int) ≤ 65535 := by omega
 unfold ip4_heads.wh at hw
 have t7 : (Go.bits .and .u8 (bt s 6) 128 != 0) = true := by simpa using h7
 unfold ip4_heads.hd at h1
 clear ht h2
 have kb := fun s W => print_bytes (P := Try.prog) 9 45 5 Try.underlying9 Try.underlying45 Try.underlying5 s W
 go_enter Try.func28, Try.ntmps28
 go_wp2_with fail
 have hC := MStr.C_bytes w 5 (s.extract 0 hd) (by rw [HSZ.out]; omega)
 rw [HSZ.out] at hC
 refine (tally_Sum.calls k (some _) 1 [bytesOf (s.extract 0 hd)] t _ (MStr.C_varN hC (grownCap_ge _ _ _ _) rfl) (Nat.le_refl _) HT.out).mono ?_
 rintro e w7 ⟨rfl, ⟨nd, rfl⟩⟩
 clear hC kb
 have HB2 := Aside0.mk (show Below w.heap.size w (Lib.bytesWorld w 5 (s.extract 0 hd)) from bytes_below (Below.refl _ _) (Nat.le_refl _) _ _)
 go_wp2_with fail
 go_quiet (fail)
 go_wp2_with fail
 go_ret3
 exact ⟨rfl, (sh_B HB2)⟩
set_option maxHeartbeats 2000000 in
set_option maxRecDepth 100000 in
theorem ip4_heads.shortw (k : Nat) (s : ByteArray) (t : Int) (hd wh : Nat) (w : World) (h1 : ip4_heads.hd s = (hd : Int)) (h2 : 20 ≤ hd) (h3 : bt s 0 ≤ 79) (h4 : hd ≤ s.size) (ht : tally_Sum.f k [bytesOf (s.extract 0 hd)] = some t) (hw : ip4_heads.wh s = (wh : Int)) (hw2 : wh ≤ 65535) (h5 : t = 65535) (h6 : ¬ (wh : Int) < (hd : Int)) (h7 : Go.bits .and .u8 (bt s 6) 128 = 0) (h8 : (s.size : Int) < (wh : Int)) :
  Calls Try.prog 28 #[.string s] w fun e w' => e = .returned (.tuple #[.int .i64 0, .int .i64 0, .int .i64 51]) ∧ Below w.heap.size w w' := by
 have HB := Aside0.mk (Below.refl w.heap.size w)
 have hx0 : ∀ h : 0 < s.size, ((s[0]'h).toNat : Int) = bt s 0 := bt_at s 0
 have hx2 : ∀ h : 2 < s.size, ((s[2]'h).toNat : Int) = bt s 2 := bt_at s 2
 have hx3 : ∀ h : 3 < s.size, ((s[3]'h).toNat : Int) = bt s 3 := bt_at s 3
 have hx6 : ∀ h : 6 < s.size, ((s[6]'h).toNat : Int) = bt s 6 := bt_at s 6
 have r0 := (bt_range s 0).1; have r1 := (bt_range s 0).2
 have r2 := (bt_range s 2).1; have r3 := (bt_range s 2).2
 have r4 := (bt_range s 3).1; have r5 := (bt_range s 3).2
 have r6 := (bt_range s 6).1; have r7 := (bt_range s 6).2
 have HT := Aside0.mk ht
 have HSZ := Aside0.mk (show (s.extract 0 hd).size = hd by simp; omega)
 have hm : min hd s.size = hd := by omega
 have hq0 : 0 < s.size := by omega
 have hq2 : 2 < s.size := by omega
 have hq3 : 3 < s.size := by omega
 have hq6 : 6 < s.size := by omega
 have hi0 : ((0 : Int) < (s.size : Int)) = True := eq_true (by omega)
 have hi2 : ((2 : Int) < (s.size : Int)) = True := eq_true (by omega)
 have hi3 : ((3 : Int) < (s.size : Int)) = True := eq_true (by omega)
 have hi6 : ((6 : Int) < (s.size : Int)) = True := eq_true (by omega)
 have hd0 : (0 : Int) ≤ (hd : Int) := by omega
 have hd1 : (hd : Int) ≤ (s.size : Int) := by omega
 have hd2 : ¬ (hd : Int) < 20 := by omega
 have hd3 : ¬ 79 < bt s 0 := by omega
 have hd4 : ¬ (s.size : Int) < (hd : Int) := by omega
 have hd5 : ¬ (s.size : Int) < 20 := by omega
 have hdd : hd ≤ 1000 := by unfold ip4_heads.hd at h1; omega
 have t5 : (t != 65535) = false := by simpa using h5
 have w0 : (0 : Int) ≤ (wh : Int) := by omega
 have w1 : (wh : Int) ≤ 65535 := by omega
 unfold ip4_heads.wh at hw
 have t7 : (Go.bits .and .u8 (bt s 6) 128 != 0) = false := by simpa using h7
 unfold ip4_heads.hd at h1
 clear ht h2
 have kb := fun s W => print_bytes (P := Try.prog) 9 45 5 Try.underlying9 Try.underlying45 Try.underlying5 s W
 go_enter Try.func28, Try.ntmps28
 go_wp2_with fail
 have hC := MStr.C_bytes w 5 (s.extract 0 hd) (by rw [HSZ.out]; omega)
 rw [HSZ.out] at hC
 refine (tally_Sum.calls k (some _) 1 [bytesOf (s.extract 0 hd)] t _ (MStr.C_varN hC (grownCap_ge _ _ _ _) rfl) (Nat.le_refl _) HT.out).mono ?_
 rintro e w7 ⟨rfl, ⟨nd, rfl⟩⟩
 clear hC kb
 have HB2 := Aside0.mk (show Below w.heap.size w (Lib.bytesWorld w 5 (s.extract 0 hd)) from bytes_below (Below.refl _ _) (Nat.le_refl _) _ _)
 go_wp2_with fail
 go_quiet (fail)
 go_wp2_with fail
 go_ret3
 exact ⟨rfl, (sh_B HB2)⟩
set_option maxHeartbeats 2000000 in
set_option maxRecDepth 100000 in
theorem ip4_heads.good (k : Nat) (s : ByteArray) (t : Int) (hd wh : Nat) (w : World) (h1 : ip4_heads.hd s = (hd : Int)) (h2 : 20 ≤ hd) (h3 : bt s 0 ≤ 79) (h4 : hd ≤ s.size) (ht : tally_Sum.f k [bytesOf (s.extract 0 hd)] = some t) (hw : ip4_heads.wh s = (wh : Int)) (hw2 : wh ≤ 65535) (h5 : t = 65535) (h6 : ¬ (wh : Int) < (hd : Int)) (h7 : Go.bits .and .u8 (bt s 6) 128 = 0) (h8 : ¬ (s.size : Int) < (wh : Int)) :
  Calls Try.prog 28 #[.string s] w fun e w' => e = .returned (.tuple #[.int .i64 (hd : Int), .int .i64 (wh : Int), .int .i64 0]) ∧ Below w.heap.size w w' := by
 have HB := Aside0.mk (Below.refl w.heap.size w)
 have hx0 : ∀ h : 0 < s.size, ((s[0]'h).toNat : Int) = bt s 0 := bt_at s 0
 have hx2 : ∀ h : 2 < s.size, ((s[2]'h).toNat : Int) = bt s 2 := bt_at s 2
 have hx3 : ∀ h : 3 < s.size, ((s[3]'h).toNat : Int) = bt s 3 := bt_at s 3
 have hx6 : ∀ h : 6 < s.size, ((s[6]'h).toNat : Int) = bt s 6 := bt_at s 6
 have r0 := (bt_range s 0).1; have r1 := (bt_range s 0).2
 have r2 := (bt_range s 2).1; have r3 := (bt_range s 2).2
 have r4 := (bt_range s 3).1; have r5 := (bt_range s 3).2
 have r6 := (bt_range s 6).1; have r7 := (bt_range s 6).2
 have HT := Aside0.mk ht
 have HSZ := Aside0.mk (show (s.extract 0 hd).size = hd by simp; omega)
 have hm : min hd s.size = hd := by omega
 have hq0 : 0 < s.size := by omega
 have hq2 : 2 < s.size := by omega
 have hq3 : 3 < s.size := by omega
 have hq6 : 6 < s.size := by omega
 have hi0 : ((0 : Int) < (s.size : Int)) = True := eq_true (by omega)
 have hi2 : ((2 : Int) < (s.size : Int)) = True := eq_true (by omega)
 have hi3 : ((3 : Int) < (s.size : Int)) = True := eq_true (by omega)
 have hi6 : ((6 : Int) < (s.size : Int)) = True := eq_true (by omega)
 have hd0 : (0 : Int) ≤ (hd : Int) := by omega
 have hd1 : (hd : Int) ≤ (s.size : Int) := by omega
 have hd2 : ¬ (hd : Int) < 20 := by omega
 have hd3 : ¬ 79 < bt s 0 := by omega
 have hd4 : ¬ (s.size : Int) < (hd : Int) := by omega
 have hd5 : ¬ (s.size : Int) < 20 := by omega
 have hdd : hd ≤ 1000 := by unfold ip4_heads.hd at h1; omega
 have t5 : (t != 65535) = false := by simpa using h5
 have w0 : (0 : Int) ≤ (wh : Int) := by omega
 have w1 : (wh : Int) ≤ 65535 := by omega
 unfold ip4_heads.wh at hw
 have t7 : (Go.bits .and .u8 (bt s 6) 128 != 0) = false := by simpa using h7
 unfold ip4_heads.hd at h1
 clear ht h2
 have kb := fun s W => print_bytes (P := Try.prog) 9 45 5 Try.underlying9 Try.underlying45 Try.underlying5 s W
 go_enter Try.func28, Try.ntmps28
 go_wp2_with fail
 have hC := MStr.C_bytes w 5 (s.extract 0 hd) (by rw [HSZ.out]; omega)
 rw [HSZ.out] at hC
 refine (tally_Sum.calls k (some _) 1 [bytesOf (s.extract 0 hd)] t _ (MStr.C_varN hC (grownCap_ge _ _ _ _) rfl) (Nat.le_refl _) HT.out).mono ?_
 rintro e w7 ⟨rfl, ⟨nd, rfl⟩⟩
 clear hC kb
 have HB2 := Aside0.mk (show Below w.heap.size w (Lib.bytesWorld w 5 (s.extract 0 hd)) from bytes_below (Below.refl _ _) (Nat.le_refl _) _ _)
 go_wp2_with fail
 go_quiet (fail)
 go_wp2_with fail
 go_ret3
 exact ⟨rfl, (sh_B HB2)⟩
theorem ip4_heads.mono : ∀ a0 k, LeO (ip4_heads.f k a0) (ip4_heads.f (k + 1) a0) := by
 intro a0 k
 unfold ip4_heads.f
 repeat' first | (with_reducible exact tally_Sum.mono _ _) | (with_reducible exact LeO.refl _) | (with_reducible exact LeO.none _) | (with_reducible refine LeO.ite ?_ ?_) | (with_reducible refine LeO.bind ?_ (fun _ => ?_))
theorem ip4_heads.calls (k : Nat) (a0 : ByteArray) (r1 r2 r3 : Int) (w : World) (h : ip4_heads.f k a0 = some (r1, r2, r3)) :
  Calls Try.prog 28 #[.string a0] w fun e w' => e = .returned (.tuple #[.int .i64 r1, .int .i64 r2, .int .i64 r3]) ∧ Below w.heap.size w w' := by
 unfold ip4_heads.f at h
 by_cases h1 : (a0.size : Int) < 20
 · rw [if_pos h1] at h; injection h with h; injection h with e1 h; injection h with e2 e3; subst e1 e2 e3; exact ip4_heads.short a0 w h1
 rw [if_neg h1] at h
 by_cases h2 : ip4_heads.hd a0 < 20 ∨ bt a0 0 > 79
 · rw [if_pos h2] at h; injection h with h; injection h with e1 h; injection h with e2 e3; subst e1 e2 e3; exact ip4_heads.form a0 w (by omega) h2
 rw [if_neg h2] at h
 by_cases h3 : (a0.size : Int) < ip4_heads.hd a0
 · rw [if_pos h3] at h; injection h with h; injection h with e1 h; injection h with e2 e3; subst e1 e2 e3; exact ip4_heads.short2 a0 w (by omega) h2 h3
 rw [if_neg h3] at h
 obtain ⟨t, ht, h⟩ := Option.bind_eq_some_iff.1 h
 obtain ⟨hd, hhd⟩ := Int.eq_ofNat_of_zero_le (show 0 ≤ ip4_heads.hd a0 by omega)
 rw [hhd, Int.toNat_natCast] at ht
 by_cases ct : t = 65535
 case neg => rw [if_pos ct] at h; injection h with h; injection h with e1 h; injection h with e2 e3; subst e1 e2 e3; exact ip4_heads.bad k a0 t hd w hhd (by omega) (by omega) (by omega) ht ct
 rw [if_neg (fun q => q ct)] at h
 by_cases hw : 0 ≤ ip4_heads.wh a0 ∧ ip4_heads.wh a0 ≤ 65535
 case neg => rw [if_pos hw] at h; cases h
 obtain ⟨wh, hwh⟩ := Int.eq_ofNat_of_zero_le hw.1
 rw [if_neg (fun q => q hw), hhd, hwh] at h
 by_cases h6 : (wh : Int) < (hd : Int)
 · rw [if_pos (.inl h6)] at h; injection h with h; injection h with e1 h; injection h with e2 e3; subst e1 e2 e3
   exact ip4_heads.form1 k a0 t hd wh w hhd (by omega) (by omega) (by omega) ht hwh (by omega) ct h6
 by_cases h7 : Go.bits .and .u8 (bt a0 6) 128 = 0
 case neg =>
  rw [if_pos (.inr h7)] at h; injection h with h; injection h with e1 h; injection h with e2 e3; subst e1 e2 e3
  exact ip4_heads.form2 k a0 t hd wh w hhd (by omega) (by omega) (by omega) ht hwh (by omega) ct h6 h7
 rw [if_neg (fun q => q.elim h6 (fun q => q h7))] at h
 by_cases h8 : (a0.size : Int) < (wh : Int)
 · rw [if_pos h8] at h; injection h with h; injection h with e1 h; injection h with e2 e3; subst e1 e2 e3
   exact ip4_heads.shortw k a0 t hd wh w hhd (by omega) (by omega) (by omega) ht hwh (by omega) ct h6 h7 h8
 rw [if_neg h8] at h; injection h with h; injection h with e1 h; injection h with e2 e3; subst e1 e2 e3
 exact ip4_heads.good k a0 t hd wh w hhd (by omega) (by omega) (by omega) ht hwh (by omega) ct h6 h7 h8

/-! ### octet_New: function 29 (by hand) -/
set_option maxHeartbeats 1000000 in
set_option maxRecDepth 100000 in
theorem octet_New.calls (A0 : Option Addr) (c0 : Nat) (l0 : List Int) (w : World) (hr0 : Kd.C (Kd.int .u8) w A0 l0.length l0) (hc0 : l0.length ≤ c0) (hl : l0.length ≤ 140737488355200) :
  Calls Try.prog 29 #[.slice A0 l0.length c0] w fun e w' => ∃ g b : Nat, e = .returned (.pointer (some ⟨g, 0, none⟩)) ∧ MReader.Rdr 67 w' g b l0 false ∧ w.heap.size ≤ g ∧ w.heap.size ≤ b ∧ Below w.heap.size w w' := by
 have HR0 := Aside0.mk hr0
 have HC0 := Aside0.mk hc0
 clear hr0 hc0
 have HB := Aside0.mk (Below.refl w.heap.size w)
 obtain ⟨N, hN⟩ : ∃ N, l0.length = N := ⟨_, rfl⟩
 have HR1 := Aside0.mk (show Kd.C (Kd.int .u8) w A0 N l0 by rw [← hN]; exact HR0.out)
 rw [hN] at hl ⊢
 have HN := Aside0.mk hN
 clear hN HR0 HC0
 go_enter Try.func29, Try.ntmps29
 go_wp2_with (first | ((with_reducible refine gate_dst (N := 6) rfl ?_); refine Kd.R_make (Kd.int .u8) _ 5 rfl (N := 6) rfl 45 _ _ rfl (N : Int) rfl rfl Try.underlying45 (.int .u8 0) 1 info5 rfl (by decide) (by omega) 0 (ok := fun _ => True) (okp := fun _ => True) rfl (fun _ hk => hk) trivial (by omega) (by omega) (Below.refl _ _) (Nat.le_refl _) ?_; intro v1 w1 ho1 hb hg_ hnew_; clear hg_; rw [Int.toNat_natCast] at ho1; have HO1 := Aside0.mk ho1; have HNEW := Aside0.mk hnew_; clear hnew_; obtain ⟨A1, c1, e1⟩ := Kd.R_slice ho1; rw [List.length_replicate] at e1; subst e1; replace HB := Aside0.mk (below_step HB.out hb); clear hb ho1) | ((with_reducible refine gate_builtin (b := .copy) (xs := #[.tmp 7, .tmp 8]) rfl ?_); refine MCopy.R_copy (k := .u8) (w0 := w) (base := w.heap.size) (ok := fun _ => True) rfl (.tmp 7) (.tmp 8) 45 rfl Try.underlying45 (by kernel_rfl) (.slice A1 N c1) (List.replicate N 0) l0 A0 N c0 rfl rfl HO1.out (Kd.C_below HR1.out HB.out) HB.out ?_; intro w2 n2 ho2 hb2; have HO2 := Aside0.mk ho2; clear HO1 HB ho2; have HB := Aside0.mk hb2; clear hb2))
 go_ret
 obtain ⟨b, hb, hbl⟩ := HNEW.out
 obtain ⟨ad, rfl⟩ : ∃ ad, A1 = some ad := by
  cases A1 with
  | none => simp [Value.ownBlock] at hb
  | some ad => exact ⟨ad, rfl⟩
 have hbk : ad.block = b := by simpa [Value.ownBlock] using hb
 have hrd := Kd.R_reads' HO2.out
 have hlen : (l0.take (List.replicate N (0 : Int)).length ++ (List.replicate N (0 : Int)).drop l0.length) = l0 := by
  rw [List.length_replicate, List.take_of_length_le (by rw [HN.out]; exact Nat.le_refl _), HN.out, List.drop_replicate, Nat.sub_self]; simp
 have hlt := Kd.R_lt HO2.out b (by simp [Value.ownBlock, hbk])
 rw [hlen] at hrd
 refine ⟨w2.heap.size, b, rfl, ⟨⟨some ad, c1, ?_, ?_, ?_, (fun h0 => by cases h0), fun a ha => by injection ha with ha; rw [← ha]; exact hbk⟩, ?_, ?_⟩, HB.out.size, hbl, below_alloc HB.out _⟩
 · rw [HN.out]; exact heap_alloc_new _ _
 · rw [HN.out]; exact hrd.2.1
 · exact Kd.C_alloc hrd.2.2 _
 · exact Nat.lt_of_lt_of_le hlt (World.grownBy_alloc w2 _ none).size
 · omega

end Go.Proofs.Ytedampcicmaamaa.PBase
