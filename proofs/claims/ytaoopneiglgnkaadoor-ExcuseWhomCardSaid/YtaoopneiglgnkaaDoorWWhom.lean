/-
  The statement ExcuseWhom: of which packets something is told. Conditions: those of each theorem.
-/
import Derived.Test.YtaoopneiglgnkaaDoorPBasex13
import Derived.Test.YtaoopneiglgnkaaDoorPBasex14
import Derived.Test.YtaoopneiglgnkaaDoorPureWhom
import Derived.Laws.Concat
set_option linter.unusedVariables false
set_option linter.unusedSimpArgs false
namespace Go.Proofs.YtaoopneiglgnkaaDoor.WQ
open Go.RowKit Go.Proofs.YtaoopneiglgnkaaDoor.PBase Go.Proofs.YtaoopneiglgnkaaDoorW.PrintWords Go.Proofs.YtaoopneiglgnkaaDoorW.PrintLast Go.Proofs.YtaoopneiglgnkaaDoorW.PrintMore Go.Proofs.YtaoopneiglgnkaaDoor.Pure
attribute [local go_sem] max2_int min2_int max_two min_two
attribute [local go_sem] undef
theorem awake_some : ∃ k, crosswaylaw20_awake.f k = some true := ⟨100, by decide +kernel⟩
theorem excuse_Glob_below0 {w w' : World} (h : excuse_Glob w) (hb : Below w.heap.size w w') : excuse_Glob w' := excuse_Glob_below h hb
/-- A packet's cells. -/
def cellsF (p : F4) : List Value := [.int .i64 p.tos, .int .i64 p.id, .bool p.df, .bool p.mf, .int .i64 p.off, .int .i64 p.ttl, .int .i64 p.proto, .bool p.b1, .int .u64 p.h1, .int .u64 p.src, .bool p.b2, .int .u64 p.h2, .int .u64 p.dst, .string ⟨#[]⟩, .string p.data]
def flatR (ps : List F4) : List Value := ps.flatMap cellsF
def rowsOf (tos id : Int) (df : Bool) (ttl : Int) (data d3 : ByteArray) (x1 x2 x3 : Int) : List F4 :=
  [fFar tos id df ttl data x1, fAll tos id df ttl data, fNobody tos id df ttl data, fLoop tos id df ttl data x2, fPiece tos id df ttl data x3, fIcmp tos id df ttl d3, fIcmp tos id df ttl ⟨#[]⟩]
theorem flat_get : ∀ (ps : List F4) (i : Nat) (p : F4), ps[i]? = some p → ∀ j, j < 15 → (flatR ps)[i * 15 + j]? = (cellsF p)[j]? := by
  intro ps
  induction ps with
  | nil => intro i p h; simp at h
  | cons q r ih =>
    intro i p h j hj
    have hl : (cellsF q).length = 15 := rfl
    show (cellsF q ++ flatR r)[i * 15 + j]? = _
    cases i with
    | zero =>
      obtain rfl : q = p := by simpa using h
      rw [List.getElem?_append_left (by omega)]
      congr 1
      omega
    | succ i =>
      rw [List.getElem?_append_right (by omega), hl, show (i + 1) * 15 + j - 15 = i * 15 + j by omega]
      exact ih i p (by simpa using h) j hj
theorem flat_cell {w : World} {G : Nat} {ps : List F4} (h : w.heap[G]? = some (.cells (flatR ps).toArray 37 (0, 0))) {i : Nat} {p : F4} (hp : ps[i]? = some p) {j : Nat} {v : Value} (hj : j < 15) (hv : (cellsF p)[j]? = some v) : w.cell? ⟨G, i * 15 + j, none⟩ = some v := by
  refine MStr.block_cell h ?_
  rw [List.getElem?_toArray]
  exact (flat_get ps i p hp j hj).trans hv
theorem and28 (n : Int) : bits .and .i64 n 268435455 = n % 268435456 := by
  have h127 : (BitVec.ofInt 64 268435455).toNat = 2 ^ 28 - 1 := by decide
  have key : (BitVec.ofInt 64 n &&& BitVec.ofInt 64 268435455).toNat = (n % ((2 ^ 64 : Nat) : Int)).toNat % 2 ^ 28 := by
    rw [BitVec.toNat_and, BitVec.toNat_ofInt, h127, Nat.and_two_pow_sub_one_eq_mod]
  show IntKind.i64.wrap ((BitVec.ofInt 64 n &&& BitVec.ofInt 64 268435455).toNat : Nat) = n % 268435456
  rw [key, IntKind.wrap_i64]
  omega
theorem and24 (n : Int) : bits .and .i64 n 16777215 = n % 16777216 := by
  have h127 : (BitVec.ofInt 64 16777215).toNat = 2 ^ 24 - 1 := by decide
  have key : (BitVec.ofInt 64 n &&& BitVec.ofInt 64 16777215).toNat = (n % ((2 ^ 64 : Nat) : Int)).toNat % 2 ^ 24 := by
    rw [BitVec.toNat_and, BitVec.toNat_ofInt, h127, Nat.and_two_pow_sub_one_eq_mod]
  show IntKind.i64.wrap ((BitVec.ofInt 64 n &&& BitVec.ofInt 64 16777215).toNat : Nat) = n % 16777216
  rw [key, IntKind.wrap_i64]
  omega
theorem and12 (n : Int) : bits .and .i64 n 4095 = n % 4096 := by
  have h127 : (BitVec.ofInt 64 4095).toNat = 2 ^ 12 - 1 := by decide
  have key : (BitVec.ofInt 64 n &&& BitVec.ofInt 64 4095).toNat = (n % ((2 ^ 64 : Nat) : Int)).toNat % 2 ^ 12 := by
    rw [BitVec.toNat_and, BitVec.toNat_ofInt, h127, Nat.and_two_pow_sub_one_eq_mod]
  show IntKind.i64.wrap ((BitVec.ofInt 64 n &&& BitVec.ofInt 64 4095).toNat : Nat) = n % 4096
  rw [key, IntKind.wrap_i64]
  omega
set_option maxHeartbeats 400000000 in
set_option maxRecDepth 100000 in
theorem whom_case (tos id : Int) (df mf0 : Bool) (off0 ttl proto0 : Int) (b10 : Bool) (h10 src0 : Int) (b20 : Bool) (h20 dst0 : Int) (opts0 data0 : ByteArray) (tt : Int) (data : ByteArray) (w : World) (hg : excuse_Glob w) {k0 k1 : Nat} (HAW : Aside0 (crosswaylaw20_awake.f k0 = some true))
    {S0 : ByteArray} {e0 : Int} (HL0 : Aside0 (ip4_Lay.f k1 tos id df false 0 ttl 17 false 0 167772161 false 0 167772162 ⟨#[]⟩ data = some (S0, e0))) (HM0 : Aside0 (e0 = 0 → ∃ k, excuse_May.f k S0 = some true))
    {dw de : ByteArray} (hd3 : (⟨#[3]⟩ : ByteArray) ++ data = dw) (hd8 : (⟨#[8]⟩ : ByteArray) ++ data = de) (hn3 : (9223372036854775807 < (⟨#[3]⟩ : ByteArray).size + data.size) = False) (hn8 : (9223372036854775807 < (⟨#[8]⟩ : ByteArray).size + data.size) = False) (hn1 : (9223372036854775807 < 1 + data.size) = False) (hn2 : ((9223372036854775807 : Int) < 1 + (data.size : Int)) = False) {x1 x2 x3 : Int} (hx1 : bits .and .i64 tt 268435455 = x1) (hx2 : bits .and .i64 tt 16777215 = x2) (hx3 : bits .and .i64 tt 4095 = x3) (hu1 : IntKind.u64.wrap x1 = x1) (hu2 : IntKind.u64.wrap x2 = x2) (hs1 : IntKind.u64.wrap (3758096384 + x1) = 3758096384 + x1) (hs2 : IntKind.u64.wrap (2130706432 + x2) = 2130706432 + x2) (hs3 : wrap64 (1 + x3) = 1 + x3)
    (HR : Aside0 (∀ r ∈ rowsOf tos id df ttl data dw x1 x2 x3, ∃ k, ip4_Lay.f k r.tos r.id r.df r.mf r.off r.ttl r.proto r.b1 r.h1 r.src r.b2 r.h2 r.dst ⟨#[]⟩ r.data = some (layF r) ∧ ((layF r).2 = 0 → ∃ k, excuse_May.f k (layF r).1 = some false)))
    {k2 : Nat} {S1 : ByteArray} {e1 : Int} (HL1 : Aside0 (ip4_Lay.f k2 tos id df false 0 ttl 1 false 0 167772161 false 0 167772162 ⟨#[]⟩ de = some (S1, e1))) (HM1 : Aside0 (e1 = 0 → ∃ k, excuse_May.f k S1 = some true)) :
    Calls Tryd.prog 7 #[.agg #[.int .i64 tos, .int .i64 id, .bool df, .bool mf0, .int .i64 off0, .int .i64 ttl, .int .i64 proto0, .bool b10, .int .u64 h10, .int .u64 src0, .bool b20, .int .u64 h20, .int .u64 dst0, .string opts0, .string data0], .int .i64 tt, .string data] w fun e w' => e = .returned (.bool true) ∧ Below w.heap.size w w' := by
  have hu28 := Tryd.underlying28
  have hu37 := Tryd.underlying37
  have hg0 := Aside0.mk hg
  have HG := Aside0.mk hg
  have HB := Aside0.mk (Below.refl w.heap.size w)
  clear hg
  go_enter Tryd.func7, Tryd.ntmps7
  go_wp2_with (first | ((with_reducible refine gate_dst (N := 3) rfl ?_); refine sh_E 3 37 #[.int .i64 tos, .int .i64 id, .bool df, .bool mf0, .int .i64 off0, .int .i64 ttl, .int .i64 proto0, .bool b10, .int .u64 h10, .int .u64 src0, .bool b20, .int .u64 h20, .int .u64 dst0, .string opts0, .string data0] ?_; intro g3 hg V1 hbox hb; have BK3 := Aside0.mk hbox; have GE3 := Aside0.mk (show w.heap.size ≤ g3 by have := HB.out.size; omega); replace HB := sh_S HB hb; replace HG := Aside0.mk (excuse_Glob_below HG.out hb); clear hbox hb hg) | fail)
  refine Calls.mono (crosswaylaw20_awake.calls k0 true _ HAW.out HG.out) ?_
  rintro e w1 ⟨rfl, hb⟩
  replace HB := Aside0.mk (below_step HB.out hb)
  replace HG := Aside0.mk (excuse_Glob_below HG.out hb)
  replace BK3 := Aside0.mk (blk_below BK3.out hb)
  clear hb
  obtain ⟨c3_0, c3_1, c3_2, c3_3, c3_4, c3_5, c3_6, c3_7, c3_8, c3_9, c3_10, c3_11, c3_12, c3_13, c3_14⟩ := MBlk.c15 BK3.out
  obtain ⟨f3_0, f3_1, f3_2, f3_3, f3_4, f3_5, f3_6, f3_7, f3_8, f3_9, f3_10, f3_11, f3_12, f3_13, f3_14⟩ := MBlk.f15 BK3.out
  go_wp2_with fail
  clear c3_0 c3_1 c3_2 c3_3 c3_4 c3_5 c3_6 c3_7 c3_8 c3_9 c3_10 c3_11 c3_12 c3_13 c3_14 f3_0 f3_1 f3_2 f3_3 f3_4 f3_5 f3_6 f3_7 f3_8 f3_9 f3_10 f3_11 f3_12 f3_13 f3_14
  have hbk : (((((w1.setCell ⟨g3, 13, none⟩ (.string ⟨#[]⟩)).setCell ⟨g3, 14, none⟩ (.string data)).setCell ⟨g3, 4, none⟩ (.int .i64 0)).setCell ⟨g3, 3, none⟩ (.bool false)).setCell ⟨g3, 6, none⟩ (.int .i64 17)).heap[g3]? = some (.cells #[.int .i64 tos, .int .i64 id, .bool df, .bool false, .int .i64 0, .int .i64 ttl, .int .i64 17, .bool b10, .int .u64 h10, .int .u64 src0, .bool b20, .int .u64 h20, .int .u64 dst0, .string ⟨#[]⟩, .string data] 37 (0, 0)) := (blk_put (blk_put (blk_put (blk_put (blk_put BK3.out 13 (.string ⟨#[]⟩) rfl) 14 (.string data) rfl) 4 (.int .i64 0) rfl) 3 (.bool false) rfl) 6 (.int .i64 17) rfl)
  have hbb : Below w.heap.size w (((((w1.setCell ⟨g3, 13, none⟩ (.string ⟨#[]⟩)).setCell ⟨g3, 14, none⟩ (.string data)).setCell ⟨g3, 4, none⟩ (.int .i64 0)).setCell ⟨g3, 3, none⟩ (.bool false)).setCell ⟨g3, 6, none⟩ (.int .i64 17)) := below_set (below_set (below_set (below_set (below_set (HB.out) GE3.out) GE3.out) GE3.out) GE3.out) GE3.out
  have hgl := excuse_Glob_below0 hg0.out hbb
  clear BK3
  generalize (((((w1.setCell ⟨g3, 13, none⟩ (.string ⟨#[]⟩)).setCell ⟨g3, 14, none⟩ (.string data)).setCell ⟨g3, 4, none⟩ (.int .i64 0)).setCell ⟨g3, 3, none⟩ (.bool false)).setCell ⟨g3, 6, none⟩ (.int .i64 17)) = w2 at hbk hbb hgl ⊢
  clear HB HG
  have HB := Aside0.mk hbb
  have HG := Aside0.mk hgl
  have BK3 := Aside0.mk hbk
  clear hbk hbb hgl
  refine Calls.mono (crosswaylaw20_ten.calls 1 false 0 167772161 _ rfl) ?_
  rintro e w3 ⟨rfl, hb⟩
  replace HB := Aside0.mk (below_step HB.out hb)
  replace HG := Aside0.mk (excuse_Glob_below HG.out hb)
  replace BK3 := Aside0.mk (blk_below BK3.out hb)
  clear hb
  obtain ⟨c3_0, c3_1, c3_2, c3_3, c3_4, c3_5, c3_6, c3_7, c3_8, c3_9, c3_10, c3_11, c3_12, c3_13, c3_14⟩ := MBlk.c15 BK3.out
  obtain ⟨f3_0, f3_1, f3_2, f3_3, f3_4, f3_5, f3_6, f3_7, f3_8, f3_9, f3_10, f3_11, f3_12, f3_13, f3_14⟩ := MBlk.f15 BK3.out
  go_wp2_with fail
  clear c3_0 c3_1 c3_2 c3_3 c3_4 c3_5 c3_6 c3_7 c3_8 c3_9 c3_10 c3_11 c3_12 c3_13 c3_14 f3_0 f3_1 f3_2 f3_3 f3_4 f3_5 f3_6 f3_7 f3_8 f3_9 f3_10 f3_11 f3_12 f3_13 f3_14
  have hbk : (((w3.setCell ⟨g3, 7, none⟩ (.bool false)).setCell ⟨g3, 8, none⟩ (.int .u64 0)).setCell ⟨g3, 9, none⟩ (.int .u64 167772161)).heap[g3]? = some (.cells #[.int .i64 tos, .int .i64 id, .bool df, .bool false, .int .i64 0, .int .i64 ttl, .int .i64 17, .bool false, .int .u64 0, .int .u64 167772161, .bool b20, .int .u64 h20, .int .u64 dst0, .string ⟨#[]⟩, .string data] 37 (0, 0)) := (blk_put (blk_put (blk_put BK3.out 7 (.bool false) rfl) 8 (.int .u64 0) rfl) 9 (.int .u64 167772161) rfl)
  have hbb : Below w.heap.size w (((w3.setCell ⟨g3, 7, none⟩ (.bool false)).setCell ⟨g3, 8, none⟩ (.int .u64 0)).setCell ⟨g3, 9, none⟩ (.int .u64 167772161)) := below_set (below_set (below_set (HB.out) GE3.out) GE3.out) GE3.out
  have hgl := excuse_Glob_below0 hg0.out hbb
  clear BK3
  generalize (((w3.setCell ⟨g3, 7, none⟩ (.bool false)).setCell ⟨g3, 8, none⟩ (.int .u64 0)).setCell ⟨g3, 9, none⟩ (.int .u64 167772161)) = w4 at hbk hbb hgl ⊢
  clear HB HG
  have HB := Aside0.mk hbb
  have HG := Aside0.mk hgl
  have BK3 := Aside0.mk hbk
  clear hbk hbb hgl
  refine Calls.mono (crosswaylaw20_ten.calls 2 false 0 167772162 _ rfl) ?_
  rintro e w5 ⟨rfl, hb⟩
  replace HB := Aside0.mk (below_step HB.out hb)
  replace HG := Aside0.mk (excuse_Glob_below HG.out hb)
  replace BK3 := Aside0.mk (blk_below BK3.out hb)
  clear hb
  obtain ⟨c3_0, c3_1, c3_2, c3_3, c3_4, c3_5, c3_6, c3_7, c3_8, c3_9, c3_10, c3_11, c3_12, c3_13, c3_14⟩ := MBlk.c15 BK3.out
  obtain ⟨f3_0, f3_1, f3_2, f3_3, f3_4, f3_5, f3_6, f3_7, f3_8, f3_9, f3_10, f3_11, f3_12, f3_13, f3_14⟩ := MBlk.f15 BK3.out
  go_wp2_with fail
  clear c3_0 c3_1 c3_2 c3_3 c3_4 c3_5 c3_6 c3_7 c3_8 c3_9 c3_10 c3_11 c3_12 c3_13 c3_14 f3_0 f3_1 f3_2 f3_3 f3_4 f3_5 f3_6 f3_7 f3_8 f3_9 f3_10 f3_11 f3_12 f3_13 f3_14
  have hbk : (((w5.setCell ⟨g3, 10, none⟩ (.bool false)).setCell ⟨g3, 11, none⟩ (.int .u64 0)).setCell ⟨g3, 12, none⟩ (.int .u64 167772162)).heap[g3]? = some (.cells #[.int .i64 tos, .int .i64 id, .bool df, .bool false, .int .i64 0, .int .i64 ttl, .int .i64 17, .bool false, .int .u64 0, .int .u64 167772161, .bool false, .int .u64 0, .int .u64 167772162, .string ⟨#[]⟩, .string data] 37 (0, 0)) := (blk_put (blk_put (blk_put BK3.out 10 (.bool false) rfl) 11 (.int .u64 0) rfl) 12 (.int .u64 167772162) rfl)
  have hbb : Below w.heap.size w (((w5.setCell ⟨g3, 10, none⟩ (.bool false)).setCell ⟨g3, 11, none⟩ (.int .u64 0)).setCell ⟨g3, 12, none⟩ (.int .u64 167772162)) := below_set (below_set (below_set (HB.out) GE3.out) GE3.out) GE3.out
  have hgl := excuse_Glob_below0 hg0.out hbb
  clear BK3
  generalize (((w5.setCell ⟨g3, 10, none⟩ (.bool false)).setCell ⟨g3, 11, none⟩ (.int .u64 0)).setCell ⟨g3, 12, none⟩ (.int .u64 167772162)) = w6 at hbk hbb hgl ⊢
  clear HB HG
  have HB := Aside0.mk hbb
  have HG := Aside0.mk hgl
  have BK3 := Aside0.mk hbk
  clear hbk hbb hgl
  refine Calls.mono (ip4_Lay.calls k1 tos id df false 0 ttl 17 false 0 167772161 false 0 167772162 ⟨#[]⟩ data S0 e0 _ HL0.out) ?_
  rintro e w7 ⟨rfl, hb⟩
  replace HB := Aside0.mk (below_step HB.out hb)
  replace HG := Aside0.mk (excuse_Glob_below HG.out hb)
  replace BK3 := Aside0.mk (blk_below BK3.out hb)
  clear hb
  by_cases he0 : e0 = 0
  · obtain ⟨k3, hm0⟩ := HM0.out he0
    have HM := Aside0.mk hm0
    subst he0
    clear hm0 HM0
    go_upto_region 14 with (first | ((with_reducible refine gate_dst (N := 43) rfl ?_); refine wpList_load_row rfl 37 (.tmp 3) rfl g3 rfl 37 #[.int .i64 tos, .int .i64 id, .bool df, .bool false, .int .i64 0, .int .i64 ttl, .int .i64 17, .bool false, .int .u64 0, .int .u64 167772161, .bool false, .int .u64 0, .int .u64 167772162, .string ⟨#[]⟩, .string data] (0, 0) _ BK3.out Tryd.underlying37 rfl (by kernel_rfl) ?_) | ((with_reducible refine gate_dst (N := 10) rfl ?_); refine sh_E 10 37 #[.int .i64 0, .int .i64 0, .bool false, .bool false, .int .i64 0, .int .i64 0, .int .i64 0, .bool false, .int .u64 0, .int .u64 0, .bool false, .int .u64 0, .int .u64 0, .string ((⟨#[]⟩ : ByteArray)), .string ((⟨#[]⟩ : ByteArray))] ?_; intro g10 hg V1 hbox hb; have HG8 := Aside0.mk hg; have BK10 := Aside0.mk hbox; have HBB := Aside0.mk hb; obtain ⟨d0, d1, d2, d3, d4, d5, d6, d7, d8, d9, d10, d11, d12, d13, d14⟩ := MBlk.c15 hbox; obtain ⟨f0, f1, f2, f3, f4, f5, f6, f7, f8, f9, f10, f11, f12, f13, f14⟩ := MBlk.f15 hbox; clear hbox hb hg) | fail)
    have GE10 := Aside0.mk (show w.heap.size ≤ g10 by have := HG8.out; have := HB.out.size; omega)
    have hbk := (blk_put (blk_put (blk_put (MBlk.put15 BK10.out (.int .i64 tos) (.int .i64 id) (.bool df) (.bool false) (.int .i64 0) (.int .i64 ttl) (.int .i64 17) (.bool false) (.int .u64 0) (.int .u64 167772161) (.bool false) (.int .u64 0) (.int .u64 167772162) (.string ⟨#[]⟩) (.string data)) 10 (.bool false) rfl) 11 (.int .u64 0) rfl) 12 (.int .u64 (3758096384 + x1)) rfl)
    have h8 : w7.heap.size ≤ g10 := by have := HG8.out; omega
    obtain ⟨w8, hw⟩ : ∃ x, ((((((((((((((((((V1.setCell ⟨g10, 0, none⟩ (.int .i64 tos)).setCell ⟨g10, 1, none⟩ (.int .i64 id)).setCell ⟨g10, 2, none⟩ (.bool df)).setCell ⟨g10, 3, none⟩ (.bool false)).setCell ⟨g10, 4, none⟩ (.int .i64 0)).setCell ⟨g10, 5, none⟩ (.int .i64 ttl)).setCell ⟨g10, 6, none⟩ (.int .i64 17)).setCell ⟨g10, 7, none⟩ (.bool false)).setCell ⟨g10, 8, none⟩ (.int .u64 0)).setCell ⟨g10, 9, none⟩ (.int .u64 167772161)).setCell ⟨g10, 10, none⟩ (.bool false)).setCell ⟨g10, 11, none⟩ (.int .u64 0)).setCell ⟨g10, 12, none⟩ (.int .u64 167772162)).setCell ⟨g10, 13, none⟩ (.string ⟨#[]⟩)).setCell ⟨g10, 14, none⟩ (.string data)).setCell ⟨g10, 10, none⟩ (.bool false)).setCell ⟨g10, 11, none⟩ (.int .u64 0)).setCell ⟨g10, 12, none⟩ (.int .u64 (3758096384 + x1))) = x := ⟨_, rfl⟩
    have hbb : Below w7.heap.size w7 w8 := by rw [← hw]; exact below_set (below_set (below_set (below_set (below_set (below_set (below_set (below_set (below_set (below_set (below_set (below_set (below_set (below_set (below_set (below_set (below_set (below_set (HBB.out) h8) h8) h8) h8) h8) h8) h8) h8) h8) h8) h8) h8) h8) h8) h8) h8) h8) h8
    rw [hw] at hbk ⊢
    clear hw h8 BK10 HBB HG8 d0 d1 d2 d3 d4 d5 d6 d7 d8 d9 d10 d11 d12 d13 d14 f0 f1 f2 f3 f4 f5 f6 f7 f8 f9 f10 f11 f12 f13 f14
    clear V1
    replace HB := Aside0.mk (below_step HB.out hbb)
    replace HG := Aside0.mk (excuse_Glob_below HG.out hbb)
    replace BK3 := Aside0.mk (blk_below BK3.out hbb)
    have BK10 := Aside0.mk (show w8.heap[g10]? = some (.cells #[.int .i64 tos, .int .i64 id, .bool df, .bool false, .int .i64 0, .int .i64 ttl, .int .i64 17, .bool false, .int .u64 0, .int .u64 167772161, .bool false, .int .u64 0, .int .u64 (3758096384 + x1), .string ⟨#[]⟩, .string data] 37 (0, 0)) from hbk)
    clear hbk hbb
    go_upto_region 16 with (first | ((with_reducible refine gate_dst (N := 50) rfl ?_); refine wpList_load_row rfl 37 (.tmp 3) rfl g3 rfl 37 #[.int .i64 tos, .int .i64 id, .bool df, .bool false, .int .i64 0, .int .i64 ttl, .int .i64 17, .bool false, .int .u64 0, .int .u64 167772161, .bool false, .int .u64 0, .int .u64 167772162, .string ⟨#[]⟩, .string data] (0, 0) _ BK3.out Tryd.underlying37 rfl (by kernel_rfl) ?_) | ((with_reducible refine gate_dst (N := 11) rfl ?_); refine sh_E 11 37 #[.int .i64 0, .int .i64 0, .bool false, .bool false, .int .i64 0, .int .i64 0, .int .i64 0, .bool false, .int .u64 0, .int .u64 0, .bool false, .int .u64 0, .int .u64 0, .string ((⟨#[]⟩ : ByteArray)), .string ((⟨#[]⟩ : ByteArray))] ?_; intro g11 hg V1 hbox hb; have HG8 := Aside0.mk hg; have BK11 := Aside0.mk hbox; have HBB := Aside0.mk hb; obtain ⟨d0, d1, d2, d3, d4, d5, d6, d7, d8, d9, d10, d11, d12, d13, d14⟩ := MBlk.c15 hbox; obtain ⟨f0, f1, f2, f3, f4, f5, f6, f7, f8, f9, f10, f11, f12, f13, f14⟩ := MBlk.f15 hbox; clear hbox hb hg) | fail)
    have GE11 := Aside0.mk (show w.heap.size ≤ g11 by have := HG8.out; have := HB.out.size; omega)
    have hbk := (blk_put (blk_put (blk_put (MBlk.put15 BK11.out (.int .i64 tos) (.int .i64 id) (.bool df) (.bool false) (.int .i64 0) (.int .i64 ttl) (.int .i64 17) (.bool false) (.int .u64 0) (.int .u64 167772161) (.bool false) (.int .u64 0) (.int .u64 167772162) (.string ⟨#[]⟩) (.string data)) 10 (.bool false) rfl) 11 (.int .u64 0) rfl) 12 (.int .u64 4294967295) rfl)
    have h8 : w8.heap.size ≤ g11 := by have := HG8.out; omega
    obtain ⟨w9, hw⟩ : ∃ x, ((((((((((((((((((V1.setCell ⟨g11, 0, none⟩ (.int .i64 tos)).setCell ⟨g11, 1, none⟩ (.int .i64 id)).setCell ⟨g11, 2, none⟩ (.bool df)).setCell ⟨g11, 3, none⟩ (.bool false)).setCell ⟨g11, 4, none⟩ (.int .i64 0)).setCell ⟨g11, 5, none⟩ (.int .i64 ttl)).setCell ⟨g11, 6, none⟩ (.int .i64 17)).setCell ⟨g11, 7, none⟩ (.bool false)).setCell ⟨g11, 8, none⟩ (.int .u64 0)).setCell ⟨g11, 9, none⟩ (.int .u64 167772161)).setCell ⟨g11, 10, none⟩ (.bool false)).setCell ⟨g11, 11, none⟩ (.int .u64 0)).setCell ⟨g11, 12, none⟩ (.int .u64 167772162)).setCell ⟨g11, 13, none⟩ (.string ⟨#[]⟩)).setCell ⟨g11, 14, none⟩ (.string data)).setCell ⟨g11, 10, none⟩ (.bool false)).setCell ⟨g11, 11, none⟩ (.int .u64 0)).setCell ⟨g11, 12, none⟩ (.int .u64 4294967295)) = x := ⟨_, rfl⟩
    have hbb : Below w8.heap.size w8 w9 := by rw [← hw]; exact below_set (below_set (below_set (below_set (below_set (below_set (below_set (below_set (below_set (below_set (below_set (below_set (below_set (below_set (below_set (below_set (below_set (below_set (HBB.out) h8) h8) h8) h8) h8) h8) h8) h8) h8) h8) h8) h8) h8) h8) h8) h8) h8) h8
    rw [hw] at hbk ⊢
    clear hw h8 BK11 HBB HG8 d0 d1 d2 d3 d4 d5 d6 d7 d8 d9 d10 d11 d12 d13 d14 f0 f1 f2 f3 f4 f5 f6 f7 f8 f9 f10 f11 f12 f13 f14
    clear V1
    replace HB := Aside0.mk (below_step HB.out hbb)
    replace HG := Aside0.mk (excuse_Glob_below HG.out hbb)
    replace BK3 := Aside0.mk (blk_below BK3.out hbb)
    replace BK10 := Aside0.mk (blk_below BK10.out hbb)
    have BK11 := Aside0.mk (show w9.heap[g11]? = some (.cells #[.int .i64 tos, .int .i64 id, .bool df, .bool false, .int .i64 0, .int .i64 ttl, .int .i64 17, .bool false, .int .u64 0, .int .u64 167772161, .bool false, .int .u64 0, .int .u64 4294967295, .string ⟨#[]⟩, .string data] 37 (0, 0)) from hbk)
    clear hbk hbb
    go_upto_region 18 with (first | ((with_reducible refine gate_dst (N := 53) rfl ?_); refine wpList_load_row rfl 37 (.tmp 3) rfl g3 rfl 37 #[.int .i64 tos, .int .i64 id, .bool df, .bool false, .int .i64 0, .int .i64 ttl, .int .i64 17, .bool false, .int .u64 0, .int .u64 167772161, .bool false, .int .u64 0, .int .u64 167772162, .string ⟨#[]⟩, .string data] (0, 0) _ BK3.out Tryd.underlying37 rfl (by kernel_rfl) ?_) | ((with_reducible refine gate_dst (N := 12) rfl ?_); refine sh_E 12 37 #[.int .i64 0, .int .i64 0, .bool false, .bool false, .int .i64 0, .int .i64 0, .int .i64 0, .bool false, .int .u64 0, .int .u64 0, .bool false, .int .u64 0, .int .u64 0, .string ((⟨#[]⟩ : ByteArray)), .string ((⟨#[]⟩ : ByteArray))] ?_; intro g12 hg V1 hbox hb; have HG8 := Aside0.mk hg; have BK12 := Aside0.mk hbox; have HBB := Aside0.mk hb; obtain ⟨d0, d1, d2, d3, d4, d5, d6, d7, d8, d9, d10, d11, d12, d13, d14⟩ := MBlk.c15 hbox; obtain ⟨f0, f1, f2, f3, f4, f5, f6, f7, f8, f9, f10, f11, f12, f13, f14⟩ := MBlk.f15 hbox; clear hbox hb hg) | fail)
    have GE12 := Aside0.mk (show w.heap.size ≤ g12 by have := HG8.out; have := HB.out.size; omega)
    have hbk := (blk_put (blk_put (blk_put (MBlk.put15 BK12.out (.int .i64 tos) (.int .i64 id) (.bool df) (.bool false) (.int .i64 0) (.int .i64 ttl) (.int .i64 17) (.bool false) (.int .u64 0) (.int .u64 167772161) (.bool false) (.int .u64 0) (.int .u64 167772162) (.string ⟨#[]⟩) (.string data)) 7 (.bool false) rfl) 8 (.int .u64 0) rfl) 9 (.int .u64 0) rfl)
    have h8 : w9.heap.size ≤ g12 := by have := HG8.out; omega
    obtain ⟨w10, hw⟩ : ∃ x, ((((((((((((((((((V1.setCell ⟨g12, 0, none⟩ (.int .i64 tos)).setCell ⟨g12, 1, none⟩ (.int .i64 id)).setCell ⟨g12, 2, none⟩ (.bool df)).setCell ⟨g12, 3, none⟩ (.bool false)).setCell ⟨g12, 4, none⟩ (.int .i64 0)).setCell ⟨g12, 5, none⟩ (.int .i64 ttl)).setCell ⟨g12, 6, none⟩ (.int .i64 17)).setCell ⟨g12, 7, none⟩ (.bool false)).setCell ⟨g12, 8, none⟩ (.int .u64 0)).setCell ⟨g12, 9, none⟩ (.int .u64 167772161)).setCell ⟨g12, 10, none⟩ (.bool false)).setCell ⟨g12, 11, none⟩ (.int .u64 0)).setCell ⟨g12, 12, none⟩ (.int .u64 167772162)).setCell ⟨g12, 13, none⟩ (.string ⟨#[]⟩)).setCell ⟨g12, 14, none⟩ (.string data)).setCell ⟨g12, 7, none⟩ (.bool false)).setCell ⟨g12, 8, none⟩ (.int .u64 0)).setCell ⟨g12, 9, none⟩ (.int .u64 0)) = x := ⟨_, rfl⟩
    have hbb : Below w9.heap.size w9 w10 := by rw [← hw]; exact below_set (below_set (below_set (below_set (below_set (below_set (below_set (below_set (below_set (below_set (below_set (below_set (below_set (below_set (below_set (below_set (below_set (below_set (HBB.out) h8) h8) h8) h8) h8) h8) h8) h8) h8) h8) h8) h8) h8) h8) h8) h8) h8) h8
    rw [hw] at hbk ⊢
    clear hw h8 BK12 HBB HG8 d0 d1 d2 d3 d4 d5 d6 d7 d8 d9 d10 d11 d12 d13 d14 f0 f1 f2 f3 f4 f5 f6 f7 f8 f9 f10 f11 f12 f13 f14
    clear V1
    replace HB := Aside0.mk (below_step HB.out hbb)
    replace HG := Aside0.mk (excuse_Glob_below HG.out hbb)
    replace BK3 := Aside0.mk (blk_below BK3.out hbb)
    replace BK10 := Aside0.mk (blk_below BK10.out hbb)
    replace BK11 := Aside0.mk (blk_below BK11.out hbb)
    have BK12 := Aside0.mk (show w10.heap[g12]? = some (.cells #[.int .i64 tos, .int .i64 id, .bool df, .bool false, .int .i64 0, .int .i64 ttl, .int .i64 17, .bool false, .int .u64 0, .int .u64 0, .bool false, .int .u64 0, .int .u64 167772162, .string ⟨#[]⟩, .string data] 37 (0, 0)) from hbk)
    clear hbk hbb
    go_upto_region 20 with (first | ((with_reducible refine gate_dst (N := 56) rfl ?_); refine wpList_load_row rfl 37 (.tmp 3) rfl g3 rfl 37 #[.int .i64 tos, .int .i64 id, .bool df, .bool false, .int .i64 0, .int .i64 ttl, .int .i64 17, .bool false, .int .u64 0, .int .u64 167772161, .bool false, .int .u64 0, .int .u64 167772162, .string ⟨#[]⟩, .string data] (0, 0) _ BK3.out Tryd.underlying37 rfl (by kernel_rfl) ?_) | ((with_reducible refine gate_dst (N := 13) rfl ?_); refine sh_E 13 37 #[.int .i64 0, .int .i64 0, .bool false, .bool false, .int .i64 0, .int .i64 0, .int .i64 0, .bool false, .int .u64 0, .int .u64 0, .bool false, .int .u64 0, .int .u64 0, .string ((⟨#[]⟩ : ByteArray)), .string ((⟨#[]⟩ : ByteArray))] ?_; intro g13 hg V1 hbox hb; have HG8 := Aside0.mk hg; have BK13 := Aside0.mk hbox; have HBB := Aside0.mk hb; obtain ⟨d0, d1, d2, d3, d4, d5, d6, d7, d8, d9, d10, d11, d12, d13, d14⟩ := MBlk.c15 hbox; obtain ⟨f0, f1, f2, f3, f4, f5, f6, f7, f8, f9, f10, f11, f12, f13, f14⟩ := MBlk.f15 hbox; clear hbox hb hg) | fail)
    have GE13 := Aside0.mk (show w.heap.size ≤ g13 by have := HG8.out; have := HB.out.size; omega)
    have hbk := (blk_put (blk_put (blk_put (MBlk.put15 BK13.out (.int .i64 tos) (.int .i64 id) (.bool df) (.bool false) (.int .i64 0) (.int .i64 ttl) (.int .i64 17) (.bool false) (.int .u64 0) (.int .u64 167772161) (.bool false) (.int .u64 0) (.int .u64 167772162) (.string ⟨#[]⟩) (.string data)) 7 (.bool false) rfl) 8 (.int .u64 0) rfl) 9 (.int .u64 (2130706432 + x2)) rfl)
    have h8 : w10.heap.size ≤ g13 := by have := HG8.out; omega
    obtain ⟨w11, hw⟩ : ∃ x, ((((((((((((((((((V1.setCell ⟨g13, 0, none⟩ (.int .i64 tos)).setCell ⟨g13, 1, none⟩ (.int .i64 id)).setCell ⟨g13, 2, none⟩ (.bool df)).setCell ⟨g13, 3, none⟩ (.bool false)).setCell ⟨g13, 4, none⟩ (.int .i64 0)).setCell ⟨g13, 5, none⟩ (.int .i64 ttl)).setCell ⟨g13, 6, none⟩ (.int .i64 17)).setCell ⟨g13, 7, none⟩ (.bool false)).setCell ⟨g13, 8, none⟩ (.int .u64 0)).setCell ⟨g13, 9, none⟩ (.int .u64 167772161)).setCell ⟨g13, 10, none⟩ (.bool false)).setCell ⟨g13, 11, none⟩ (.int .u64 0)).setCell ⟨g13, 12, none⟩ (.int .u64 167772162)).setCell ⟨g13, 13, none⟩ (.string ⟨#[]⟩)).setCell ⟨g13, 14, none⟩ (.string data)).setCell ⟨g13, 7, none⟩ (.bool false)).setCell ⟨g13, 8, none⟩ (.int .u64 0)).setCell ⟨g13, 9, none⟩ (.int .u64 (2130706432 + x2))) = x := ⟨_, rfl⟩
    have hbb : Below w10.heap.size w10 w11 := by rw [← hw]; exact below_set (below_set (below_set (below_set (below_set (below_set (below_set (below_set (below_set (below_set (below_set (below_set (below_set (below_set (below_set (below_set (below_set (below_set (HBB.out) h8) h8) h8) h8) h8) h8) h8) h8) h8) h8) h8) h8) h8) h8) h8) h8) h8) h8
    rw [hw] at hbk ⊢
    clear hw h8 BK13 HBB HG8 d0 d1 d2 d3 d4 d5 d6 d7 d8 d9 d10 d11 d12 d13 d14 f0 f1 f2 f3 f4 f5 f6 f7 f8 f9 f10 f11 f12 f13 f14
    clear V1
    replace HB := Aside0.mk (below_step HB.out hbb)
    replace HG := Aside0.mk (excuse_Glob_below HG.out hbb)
    replace BK3 := Aside0.mk (blk_below BK3.out hbb)
    replace BK10 := Aside0.mk (blk_below BK10.out hbb)
    replace BK11 := Aside0.mk (blk_below BK11.out hbb)
    replace BK12 := Aside0.mk (blk_below BK12.out hbb)
    have BK13 := Aside0.mk (show w11.heap[g13]? = some (.cells #[.int .i64 tos, .int .i64 id, .bool df, .bool false, .int .i64 0, .int .i64 ttl, .int .i64 17, .bool false, .int .u64 0, .int .u64 (2130706432 + x2), .bool false, .int .u64 0, .int .u64 167772162, .string ⟨#[]⟩, .string data] 37 (0, 0)) from hbk)
    clear hbk hbb
    go_upto_region 22 with (first | ((with_reducible refine gate_dst (N := 63) rfl ?_); refine wpList_load_row rfl 37 (.tmp 3) rfl g3 rfl 37 #[.int .i64 tos, .int .i64 id, .bool df, .bool false, .int .i64 0, .int .i64 ttl, .int .i64 17, .bool false, .int .u64 0, .int .u64 167772161, .bool false, .int .u64 0, .int .u64 167772162, .string ⟨#[]⟩, .string data] (0, 0) _ BK3.out Tryd.underlying37 rfl (by kernel_rfl) ?_) | ((with_reducible refine gate_dst (N := 14) rfl ?_); refine sh_E 14 37 #[.int .i64 0, .int .i64 0, .bool false, .bool false, .int .i64 0, .int .i64 0, .int .i64 0, .bool false, .int .u64 0, .int .u64 0, .bool false, .int .u64 0, .int .u64 0, .string ((⟨#[]⟩ : ByteArray)), .string ((⟨#[]⟩ : ByteArray))] ?_; intro g14 hg V1 hbox hb; have HG8 := Aside0.mk hg; have BK14 := Aside0.mk hbox; have HBB := Aside0.mk hb; obtain ⟨d0, d1, d2, d3, d4, d5, d6, d7, d8, d9, d10, d11, d12, d13, d14⟩ := MBlk.c15 hbox; obtain ⟨f0, f1, f2, f3, f4, f5, f6, f7, f8, f9, f10, f11, f12, f13, f14⟩ := MBlk.f15 hbox; clear hbox hb hg) | fail)
    have GE14 := Aside0.mk (show w.heap.size ≤ g14 by have := HG8.out; have := HB.out.size; omega)
    have hbk := (blk_put (MBlk.put15 BK14.out (.int .i64 tos) (.int .i64 id) (.bool df) (.bool false) (.int .i64 0) (.int .i64 ttl) (.int .i64 17) (.bool false) (.int .u64 0) (.int .u64 167772161) (.bool false) (.int .u64 0) (.int .u64 167772162) (.string ⟨#[]⟩) (.string data)) 4 (.int .i64 (1 + x3)) rfl)
    have h8 : w11.heap.size ≤ g14 := by have := HG8.out; omega
    obtain ⟨w12, hw⟩ : ∃ x, ((((((((((((((((V1.setCell ⟨g14, 0, none⟩ (.int .i64 tos)).setCell ⟨g14, 1, none⟩ (.int .i64 id)).setCell ⟨g14, 2, none⟩ (.bool df)).setCell ⟨g14, 3, none⟩ (.bool false)).setCell ⟨g14, 4, none⟩ (.int .i64 0)).setCell ⟨g14, 5, none⟩ (.int .i64 ttl)).setCell ⟨g14, 6, none⟩ (.int .i64 17)).setCell ⟨g14, 7, none⟩ (.bool false)).setCell ⟨g14, 8, none⟩ (.int .u64 0)).setCell ⟨g14, 9, none⟩ (.int .u64 167772161)).setCell ⟨g14, 10, none⟩ (.bool false)).setCell ⟨g14, 11, none⟩ (.int .u64 0)).setCell ⟨g14, 12, none⟩ (.int .u64 167772162)).setCell ⟨g14, 13, none⟩ (.string ⟨#[]⟩)).setCell ⟨g14, 14, none⟩ (.string data)).setCell ⟨g14, 4, none⟩ (.int .i64 (1 + x3))) = x := ⟨_, rfl⟩
    have hbb : Below w11.heap.size w11 w12 := by rw [← hw]; exact below_set (below_set (below_set (below_set (below_set (below_set (below_set (below_set (below_set (below_set (below_set (below_set (below_set (below_set (below_set (below_set (HBB.out) h8) h8) h8) h8) h8) h8) h8) h8) h8) h8) h8) h8) h8) h8) h8) h8
    rw [hw] at hbk ⊢
    clear hw h8 BK14 HBB HG8 d0 d1 d2 d3 d4 d5 d6 d7 d8 d9 d10 d11 d12 d13 d14 f0 f1 f2 f3 f4 f5 f6 f7 f8 f9 f10 f11 f12 f13 f14
    clear V1
    replace HB := Aside0.mk (below_step HB.out hbb)
    replace HG := Aside0.mk (excuse_Glob_below HG.out hbb)
    replace BK3 := Aside0.mk (blk_below BK3.out hbb)
    replace BK10 := Aside0.mk (blk_below BK10.out hbb)
    replace BK11 := Aside0.mk (blk_below BK11.out hbb)
    replace BK12 := Aside0.mk (blk_below BK12.out hbb)
    replace BK13 := Aside0.mk (blk_below BK13.out hbb)
    have BK14 := Aside0.mk (show w12.heap[g14]? = some (.cells #[.int .i64 tos, .int .i64 id, .bool df, .bool false, .int .i64 (1 + x3), .int .i64 ttl, .int .i64 17, .bool false, .int .u64 0, .int .u64 167772161, .bool false, .int .u64 0, .int .u64 167772162, .string ⟨#[]⟩, .string data] 37 (0, 0)) from hbk)
    clear hbk hbb
    go_upto_region 25 with (first | ((with_reducible refine gate_dst (N := 68) rfl ?_); refine wpList_load_row rfl 37 (.tmp 3) rfl g3 rfl 37 #[.int .i64 tos, .int .i64 id, .bool df, .bool false, .int .i64 0, .int .i64 ttl, .int .i64 17, .bool false, .int .u64 0, .int .u64 167772161, .bool false, .int .u64 0, .int .u64 167772162, .string ⟨#[]⟩, .string data] (0, 0) _ BK3.out Tryd.underlying37 rfl (by kernel_rfl) ?_) | ((with_reducible refine gate_dst (N := 15) rfl ?_); refine sh_E 15 37 #[.int .i64 0, .int .i64 0, .bool false, .bool false, .int .i64 0, .int .i64 0, .int .i64 0, .bool false, .int .u64 0, .int .u64 0, .bool false, .int .u64 0, .int .u64 0, .string ((⟨#[]⟩ : ByteArray)), .string ((⟨#[]⟩ : ByteArray))] ?_; intro g15 hg V1 hbox hb; have HG8 := Aside0.mk hg; have BK15 := Aside0.mk hbox; have HBB := Aside0.mk hb; obtain ⟨d0, d1, d2, d3, d4, d5, d6, d7, d8, d9, d10, d11, d12, d13, d14⟩ := MBlk.c15 hbox; obtain ⟨f0, f1, f2, f3, f4, f5, f6, f7, f8, f9, f10, f11, f12, f13, f14⟩ := MBlk.f15 hbox; clear hbox hb hg) | fail)
    have GE15 := Aside0.mk (show w.heap.size ≤ g15 by have := HG8.out; have := HB.out.size; omega)
    have hbk := (blk_put (blk_put (MBlk.put15 BK15.out (.int .i64 tos) (.int .i64 id) (.bool df) (.bool false) (.int .i64 0) (.int .i64 ttl) (.int .i64 17) (.bool false) (.int .u64 0) (.int .u64 167772161) (.bool false) (.int .u64 0) (.int .u64 167772162) (.string ⟨#[]⟩) (.string data)) 6 (.int .i64 1) rfl) 14 (.string dw) rfl)
    have h8 : w12.heap.size ≤ g15 := by have := HG8.out; omega
    obtain ⟨w13, hw⟩ : ∃ x, (((((((((((((((((V1.setCell ⟨g15, 0, none⟩ (.int .i64 tos)).setCell ⟨g15, 1, none⟩ (.int .i64 id)).setCell ⟨g15, 2, none⟩ (.bool df)).setCell ⟨g15, 3, none⟩ (.bool false)).setCell ⟨g15, 4, none⟩ (.int .i64 0)).setCell ⟨g15, 5, none⟩ (.int .i64 ttl)).setCell ⟨g15, 6, none⟩ (.int .i64 17)).setCell ⟨g15, 7, none⟩ (.bool false)).setCell ⟨g15, 8, none⟩ (.int .u64 0)).setCell ⟨g15, 9, none⟩ (.int .u64 167772161)).setCell ⟨g15, 10, none⟩ (.bool false)).setCell ⟨g15, 11, none⟩ (.int .u64 0)).setCell ⟨g15, 12, none⟩ (.int .u64 167772162)).setCell ⟨g15, 13, none⟩ (.string ⟨#[]⟩)).setCell ⟨g15, 14, none⟩ (.string data)).setCell ⟨g15, 6, none⟩ (.int .i64 1)).setCell ⟨g15, 14, none⟩ (.string dw)) = x := ⟨_, rfl⟩
    have hbb : Below w12.heap.size w12 w13 := by rw [← hw]; exact below_set (below_set (below_set (below_set (below_set (below_set (below_set (below_set (below_set (below_set (below_set (below_set (below_set (below_set (below_set (below_set (below_set (HBB.out) h8) h8) h8) h8) h8) h8) h8) h8) h8) h8) h8) h8) h8) h8) h8) h8) h8
    rw [hw] at hbk ⊢
    clear hw h8 BK15 HBB HG8 d0 d1 d2 d3 d4 d5 d6 d7 d8 d9 d10 d11 d12 d13 d14 f0 f1 f2 f3 f4 f5 f6 f7 f8 f9 f10 f11 f12 f13 f14
    clear V1
    replace HB := Aside0.mk (below_step HB.out hbb)
    replace HG := Aside0.mk (excuse_Glob_below HG.out hbb)
    replace BK3 := Aside0.mk (blk_below BK3.out hbb)
    replace BK10 := Aside0.mk (blk_below BK10.out hbb)
    replace BK11 := Aside0.mk (blk_below BK11.out hbb)
    replace BK12 := Aside0.mk (blk_below BK12.out hbb)
    replace BK13 := Aside0.mk (blk_below BK13.out hbb)
    replace BK14 := Aside0.mk (blk_below BK14.out hbb)
    have BK15 := Aside0.mk (show w13.heap[g15]? = some (.cells #[.int .i64 tos, .int .i64 id, .bool df, .bool false, .int .i64 0, .int .i64 ttl, .int .i64 1, .bool false, .int .u64 0, .int .u64 167772161, .bool false, .int .u64 0, .int .u64 167772162, .string ⟨#[]⟩, .string dw] 37 (0, 0)) from hbk)
    clear hbk hbb
    go_upto_region 27 with (first | ((with_reducible refine gate_dst (N := 73) rfl ?_); refine wpList_load_row rfl 37 (.tmp 15) rfl g15 rfl 37 #[.int .i64 tos, .int .i64 id, .bool df, .bool false, .int .i64 0, .int .i64 ttl, .int .i64 1, .bool false, .int .u64 0, .int .u64 167772161, .bool false, .int .u64 0, .int .u64 167772162, .string ⟨#[]⟩, .string dw] (0, 0) _ BK15.out Tryd.underlying37 rfl (by kernel_rfl) ?_) | ((with_reducible refine gate_dst (N := 16) rfl ?_); refine sh_E 16 37 #[.int .i64 0, .int .i64 0, .bool false, .bool false, .int .i64 0, .int .i64 0, .int .i64 0, .bool false, .int .u64 0, .int .u64 0, .bool false, .int .u64 0, .int .u64 0, .string ((⟨#[]⟩ : ByteArray)), .string ((⟨#[]⟩ : ByteArray))] ?_; intro g16 hg V1 hbox hb; have HG8 := Aside0.mk hg; have BK16 := Aside0.mk hbox; have HBB := Aside0.mk hb; obtain ⟨d0, d1, d2, d3, d4, d5, d6, d7, d8, d9, d10, d11, d12, d13, d14⟩ := MBlk.c15 hbox; obtain ⟨f0, f1, f2, f3, f4, f5, f6, f7, f8, f9, f10, f11, f12, f13, f14⟩ := MBlk.f15 hbox; clear hbox hb hg) | fail)
    have GE16 := Aside0.mk (show w.heap.size ≤ g16 by have := HG8.out; have := HB.out.size; omega)
    have hbk := (blk_put (MBlk.put15 BK16.out (.int .i64 tos) (.int .i64 id) (.bool df) (.bool false) (.int .i64 0) (.int .i64 ttl) (.int .i64 1) (.bool false) (.int .u64 0) (.int .u64 167772161) (.bool false) (.int .u64 0) (.int .u64 167772162) (.string ⟨#[]⟩) (.string dw)) 14 (.string de) rfl)
    have h8 : w13.heap.size ≤ g16 := by have := HG8.out; omega
    obtain ⟨w14, hw⟩ : ∃ x, ((((((((((((((((V1.setCell ⟨g16, 0, none⟩ (.int .i64 tos)).setCell ⟨g16, 1, none⟩ (.int .i64 id)).setCell ⟨g16, 2, none⟩ (.bool df)).setCell ⟨g16, 3, none⟩ (.bool false)).setCell ⟨g16, 4, none⟩ (.int .i64 0)).setCell ⟨g16, 5, none⟩ (.int .i64 ttl)).setCell ⟨g16, 6, none⟩ (.int .i64 1)).setCell ⟨g16, 7, none⟩ (.bool false)).setCell ⟨g16, 8, none⟩ (.int .u64 0)).setCell ⟨g16, 9, none⟩ (.int .u64 167772161)).setCell ⟨g16, 10, none⟩ (.bool false)).setCell ⟨g16, 11, none⟩ (.int .u64 0)).setCell ⟨g16, 12, none⟩ (.int .u64 167772162)).setCell ⟨g16, 13, none⟩ (.string ⟨#[]⟩)).setCell ⟨g16, 14, none⟩ (.string dw)).setCell ⟨g16, 14, none⟩ (.string de)) = x := ⟨_, rfl⟩
    have hbb : Below w13.heap.size w13 w14 := by rw [← hw]; exact below_set (below_set (below_set (below_set (below_set (below_set (below_set (below_set (below_set (below_set (below_set (below_set (below_set (below_set (below_set (below_set (HBB.out) h8) h8) h8) h8) h8) h8) h8) h8) h8) h8) h8) h8) h8) h8) h8) h8
    rw [hw] at hbk ⊢
    clear hw h8 BK16 HBB HG8 d0 d1 d2 d3 d4 d5 d6 d7 d8 d9 d10 d11 d12 d13 d14 f0 f1 f2 f3 f4 f5 f6 f7 f8 f9 f10 f11 f12 f13 f14
    clear V1
    replace HB := Aside0.mk (below_step HB.out hbb)
    replace HG := Aside0.mk (excuse_Glob_below HG.out hbb)
    replace BK3 := Aside0.mk (blk_below BK3.out hbb)
    replace BK10 := Aside0.mk (blk_below BK10.out hbb)
    replace BK11 := Aside0.mk (blk_below BK11.out hbb)
    replace BK12 := Aside0.mk (blk_below BK12.out hbb)
    replace BK13 := Aside0.mk (blk_below BK13.out hbb)
    replace BK14 := Aside0.mk (blk_below BK14.out hbb)
    replace BK15 := Aside0.mk (blk_below BK15.out hbb)
    have BK16 := Aside0.mk (show w14.heap[g16]? = some (.cells #[.int .i64 tos, .int .i64 id, .bool df, .bool false, .int .i64 0, .int .i64 ttl, .int .i64 1, .bool false, .int .u64 0, .int .u64 167772161, .bool false, .int .u64 0, .int .u64 167772162, .string ⟨#[]⟩, .string de] 37 (0, 0)) from hbk)
    clear hbk hbb
    go_upto_region 29 with (first | ((with_reducible refine gate_dst (N := 77) rfl ?_); refine wpList_load_row rfl 37 (.tmp 15) rfl g15 rfl 37 #[.int .i64 tos, .int .i64 id, .bool df, .bool false, .int .i64 0, .int .i64 ttl, .int .i64 1, .bool false, .int .u64 0, .int .u64 167772161, .bool false, .int .u64 0, .int .u64 167772162, .string ⟨#[]⟩, .string dw] (0, 0) _ BK15.out Tryd.underlying37 rfl (by kernel_rfl) ?_) | ((with_reducible refine gate_dst (N := 17) rfl ?_); refine sh_E 17 37 #[.int .i64 0, .int .i64 0, .bool false, .bool false, .int .i64 0, .int .i64 0, .int .i64 0, .bool false, .int .u64 0, .int .u64 0, .bool false, .int .u64 0, .int .u64 0, .string ((⟨#[]⟩ : ByteArray)), .string ((⟨#[]⟩ : ByteArray))] ?_; intro g17 hg V1 hbox hb; have HG8 := Aside0.mk hg; have BK17 := Aside0.mk hbox; have HBB := Aside0.mk hb; obtain ⟨d0, d1, d2, d3, d4, d5, d6, d7, d8, d9, d10, d11, d12, d13, d14⟩ := MBlk.c15 hbox; obtain ⟨f0, f1, f2, f3, f4, f5, f6, f7, f8, f9, f10, f11, f12, f13, f14⟩ := MBlk.f15 hbox; clear hbox hb hg) | fail)
    have GE17 := Aside0.mk (show w.heap.size ≤ g17 by have := HG8.out; have := HB.out.size; omega)
    have hbk := (blk_put (MBlk.put15 BK17.out (.int .i64 tos) (.int .i64 id) (.bool df) (.bool false) (.int .i64 0) (.int .i64 ttl) (.int .i64 1) (.bool false) (.int .u64 0) (.int .u64 167772161) (.bool false) (.int .u64 0) (.int .u64 167772162) (.string ⟨#[]⟩) (.string dw)) 14 (.string ⟨#[]⟩) rfl)
    have h8 : w14.heap.size ≤ g17 := by have := HG8.out; omega
    obtain ⟨w15, hw⟩ : ∃ x, ((((((((((((((((V1.setCell ⟨g17, 0, none⟩ (.int .i64 tos)).setCell ⟨g17, 1, none⟩ (.int .i64 id)).setCell ⟨g17, 2, none⟩ (.bool df)).setCell ⟨g17, 3, none⟩ (.bool false)).setCell ⟨g17, 4, none⟩ (.int .i64 0)).setCell ⟨g17, 5, none⟩ (.int .i64 ttl)).setCell ⟨g17, 6, none⟩ (.int .i64 1)).setCell ⟨g17, 7, none⟩ (.bool false)).setCell ⟨g17, 8, none⟩ (.int .u64 0)).setCell ⟨g17, 9, none⟩ (.int .u64 167772161)).setCell ⟨g17, 10, none⟩ (.bool false)).setCell ⟨g17, 11, none⟩ (.int .u64 0)).setCell ⟨g17, 12, none⟩ (.int .u64 167772162)).setCell ⟨g17, 13, none⟩ (.string ⟨#[]⟩)).setCell ⟨g17, 14, none⟩ (.string dw)).setCell ⟨g17, 14, none⟩ (.string ⟨#[]⟩)) = x := ⟨_, rfl⟩
    have hbb : Below w14.heap.size w14 w15 := by rw [← hw]; exact below_set (below_set (below_set (below_set (below_set (below_set (below_set (below_set (below_set (below_set (below_set (below_set (below_set (below_set (below_set (below_set (HBB.out) h8) h8) h8) h8) h8) h8) h8) h8) h8) h8) h8) h8) h8) h8) h8) h8
    rw [hw] at hbk ⊢
    clear hw h8 BK17 HBB HG8 d0 d1 d2 d3 d4 d5 d6 d7 d8 d9 d10 d11 d12 d13 d14 f0 f1 f2 f3 f4 f5 f6 f7 f8 f9 f10 f11 f12 f13 f14
    clear V1
    replace HB := Aside0.mk (below_step HB.out hbb)
    replace HG := Aside0.mk (excuse_Glob_below HG.out hbb)
    replace BK3 := Aside0.mk (blk_below BK3.out hbb)
    replace BK10 := Aside0.mk (blk_below BK10.out hbb)
    replace BK11 := Aside0.mk (blk_below BK11.out hbb)
    replace BK12 := Aside0.mk (blk_below BK12.out hbb)
    replace BK13 := Aside0.mk (blk_below BK13.out hbb)
    replace BK14 := Aside0.mk (blk_below BK14.out hbb)
    replace BK15 := Aside0.mk (blk_below BK15.out hbb)
    replace BK16 := Aside0.mk (blk_below BK16.out hbb)
    have BK17 := Aside0.mk (show w15.heap[g17]? = some (.cells #[.int .i64 tos, .int .i64 id, .bool df, .bool false, .int .i64 0, .int .i64 ttl, .int .i64 1, .bool false, .int .u64 0, .int .u64 167772161, .bool false, .int .u64 0, .int .u64 167772162, .string ⟨#[]⟩, .string ⟨#[]⟩] 37 (0, 0)) from hbk)
    clear hbk hbb
    go_upto_region 30 with (first | ((with_reducible refine gate_dst (N := 79) rfl ?_); refine wpList_load_row rfl 37 (.tmp 10) rfl g10 rfl 37 #[.int .i64 tos, .int .i64 id, .bool df, .bool false, .int .i64 0, .int .i64 ttl, .int .i64 17, .bool false, .int .u64 0, .int .u64 167772161, .bool false, .int .u64 0, .int .u64 (3758096384 + x1), .string ⟨#[]⟩, .string data] (0, 0) _ BK10.out Tryd.underlying37 rfl (by kernel_rfl) ?_) | ((with_reducible refine gate_dst (N := 80) rfl ?_); refine wpList_load_row rfl 37 (.tmp 11) rfl g11 rfl 37 #[.int .i64 tos, .int .i64 id, .bool df, .bool false, .int .i64 0, .int .i64 ttl, .int .i64 17, .bool false, .int .u64 0, .int .u64 167772161, .bool false, .int .u64 0, .int .u64 4294967295, .string ⟨#[]⟩, .string data] (0, 0) _ BK11.out Tryd.underlying37 rfl (by kernel_rfl) ?_) | ((with_reducible refine gate_dst (N := 81) rfl ?_); refine wpList_load_row rfl 37 (.tmp 12) rfl g12 rfl 37 #[.int .i64 tos, .int .i64 id, .bool df, .bool false, .int .i64 0, .int .i64 ttl, .int .i64 17, .bool false, .int .u64 0, .int .u64 0, .bool false, .int .u64 0, .int .u64 167772162, .string ⟨#[]⟩, .string data] (0, 0) _ BK12.out Tryd.underlying37 rfl (by kernel_rfl) ?_) | ((with_reducible refine gate_dst (N := 82) rfl ?_); refine wpList_load_row rfl 37 (.tmp 13) rfl g13 rfl 37 #[.int .i64 tos, .int .i64 id, .bool df, .bool false, .int .i64 0, .int .i64 ttl, .int .i64 17, .bool false, .int .u64 0, .int .u64 (2130706432 + x2), .bool false, .int .u64 0, .int .u64 167772162, .string ⟨#[]⟩, .string data] (0, 0) _ BK13.out Tryd.underlying37 rfl (by kernel_rfl) ?_) | ((with_reducible refine gate_dst (N := 83) rfl ?_); refine wpList_load_row rfl 37 (.tmp 14) rfl g14 rfl 37 #[.int .i64 tos, .int .i64 id, .bool df, .bool false, .int .i64 (1 + x3), .int .i64 ttl, .int .i64 17, .bool false, .int .u64 0, .int .u64 167772161, .bool false, .int .u64 0, .int .u64 167772162, .string ⟨#[]⟩, .string data] (0, 0) _ BK14.out Tryd.underlying37 rfl (by kernel_rfl) ?_) | ((with_reducible refine gate_dst (N := 84) rfl ?_); refine wpList_load_row rfl 37 (.tmp 15) rfl g15 rfl 37 #[.int .i64 tos, .int .i64 id, .bool df, .bool false, .int .i64 0, .int .i64 ttl, .int .i64 1, .bool false, .int .u64 0, .int .u64 167772161, .bool false, .int .u64 0, .int .u64 167772162, .string ⟨#[]⟩, .string dw] (0, 0) _ BK15.out Tryd.underlying37 rfl (by kernel_rfl) ?_) | ((with_reducible refine gate_dst (N := 85) rfl ?_); refine wpList_load_row rfl 37 (.tmp 17) rfl g17 rfl 37 #[.int .i64 tos, .int .i64 id, .bool df, .bool false, .int .i64 0, .int .i64 ttl, .int .i64 1, .bool false, .int .u64 0, .int .u64 167772161, .bool false, .int .u64 0, .int .u64 167772162, .string ⟨#[]⟩, .string ⟨#[]⟩] (0, 0) _ BK17.out Tryd.underlying37 rfl (by kernel_rfl) ?_) | ((with_reducible refine gate_dst (N := 86) rfl ?_); refine Kd.event_run rfl (v := .slice (some ⟨w15.heap.size, 0, none⟩) 7 7) (w1 := w15.alloc (.cells (flatR (rowsOf tos id df ttl data dw x1 x2 x3)).toArray 37)) (by go_simp; rfl) ?_) | fail)
    have hbx : (w15.alloc (.cells (flatR (rowsOf tos id df ttl data dw x1 x2 x3)).toArray 37)).heap[w15.heap.size]? = some (.cells (flatR (rowsOf tos id df ttl data dw x1 x2 x3)).toArray 37 (0, 0)) := blk_new w15 _
    have hbb : Below w15.heap.size w15 (w15.alloc (.cells (flatR (rowsOf tos id df ttl data dw x1 x2 x3)).toArray 37)) := below_alloc (Below.refl _ _) _
    obtain ⟨G, hGG⟩ : ∃ x, w15.heap.size = x := ⟨_, rfl⟩
    rw [hGG] at hbx ⊢
    generalize w15.alloc (.cells (flatR (rowsOf tos id df ttl data dw x1 x2 x3)).toArray 37) = w16 at hbx hbb ⊢
    replace HB := Aside0.mk (below_step HB.out hbb)
    replace HG := Aside0.mk (excuse_Glob_below HG.out hbb)
    replace BK3 := Aside0.mk (blk_below BK3.out hbb)
    replace BK10 := Aside0.mk (blk_below BK10.out hbb)
    replace BK11 := Aside0.mk (blk_below BK11.out hbb)
    replace BK12 := Aside0.mk (blk_below BK12.out hbb)
    replace BK13 := Aside0.mk (blk_below BK13.out hbb)
    replace BK14 := Aside0.mk (blk_below BK14.out hbb)
    replace BK15 := Aside0.mk (blk_below BK15.out hbb)
    replace BK16 := Aside0.mk (blk_below BK16.out hbb)
    replace BK17 := Aside0.mk (blk_below BK17.out hbb)
    have HBX := Aside0.mk hbx
    clear hbx hbb hGG BK3 BK10 BK11 BK12 BK13 BK14 BK15 BK17
    obtain ⟨rows, hrows⟩ : ∃ x, rowsOf tos id df ttl data dw x1 x2 x3 = x := ⟨_, rfl⟩
    have HLEN := Aside0.mk (show rows.length = 7 by rw [← hrows]; rfl)
    rw [hrows] at HR HBX
    clear hrows hn1 hn2 hn3 hn8 hd3 hd8 hx1 hx2 hx3 hu1 hu2 hs1 hs2 hs3
    go_wp2_with fail
    go_loopg [19] 7 (fun kq v19 w' => ∃ (i : Nat), v19 = .int .i64 (i : Int) ∧ Aside0 (i + kq = 7) ∧ Aside0 (w'.heap[G]? = some (.cells (flatR rows).toArray 37 (0, 0))) ∧ Aside0 (w'.heap[g16]? = some (.cells #[.int .i64 tos, .int .i64 id, .bool df, .bool false, .int .i64 0, .int .i64 ttl, .int .i64 1, .bool false, .int .u64 0, .int .u64 167772161, .bool false, .int .u64 0, .int .u64 167772162, .string ⟨#[]⟩, .string de] 37 (0, 0))) ∧ Aside0 (Below w.heap.size w w'))
    case atStart => exact ⟨0, rfl, ⟨by omega⟩, HBX, BK16, HB⟩
    case round =>
      clear HBX BK16 HB
      obtain ⟨i, rfl, HK, HBX, BK16, HB⟩ := hrel
      obtain ⟨y, hy⟩ : ∃ y : Int, (i : Int) = y := ⟨_, rfl⟩
      by_cases hi : i < 7
      · obtain ⟨r, hr⟩ : ∃ r, rows[i]? = some r := ⟨_, List.getElem?_eq_getElem (by have := HLEN.out; omega)⟩
        obtain ⟨kl, hl, hm⟩ := HR.out r (List.mem_of_getElem? hr)
        have c0 : wr.cell? ⟨G, i * 15, none⟩ = some (.int .i64 r.tos) := flat_cell (j := 0) HBX.out hr (by decide) rfl
        have c1 : wr.cell? ⟨G, i * 15 + 1, none⟩ = some (.int .i64 r.id) := flat_cell (j := 1) HBX.out hr (by decide) rfl
        have c2 : wr.cell? ⟨G, i * 15 + 2, none⟩ = some (.bool r.df) := flat_cell (j := 2) HBX.out hr (by decide) rfl
        have c3 : wr.cell? ⟨G, i * 15 + 3, none⟩ = some (.bool r.mf) := flat_cell (j := 3) HBX.out hr (by decide) rfl
        have c4 : wr.cell? ⟨G, i * 15 + 4, none⟩ = some (.int .i64 r.off) := flat_cell (j := 4) HBX.out hr (by decide) rfl
        have c5 : wr.cell? ⟨G, i * 15 + 5, none⟩ = some (.int .i64 r.ttl) := flat_cell (j := 5) HBX.out hr (by decide) rfl
        have c6 : wr.cell? ⟨G, i * 15 + 6, none⟩ = some (.int .i64 r.proto) := flat_cell (j := 6) HBX.out hr (by decide) rfl
        have c7 : wr.cell? ⟨G, i * 15 + 7, none⟩ = some (.bool r.b1) := flat_cell (j := 7) HBX.out hr (by decide) rfl
        have c8 : wr.cell? ⟨G, i * 15 + 8, none⟩ = some (.int .u64 r.h1) := flat_cell (j := 8) HBX.out hr (by decide) rfl
        have c9 : wr.cell? ⟨G, i * 15 + 9, none⟩ = some (.int .u64 r.src) := flat_cell (j := 9) HBX.out hr (by decide) rfl
        have c10 : wr.cell? ⟨G, i * 15 + 10, none⟩ = some (.bool r.b2) := flat_cell (j := 10) HBX.out hr (by decide) rfl
        have c11 : wr.cell? ⟨G, i * 15 + 11, none⟩ = some (.int .u64 r.h2) := flat_cell (j := 11) HBX.out hr (by decide) rfl
        have c12 : wr.cell? ⟨G, i * 15 + 12, none⟩ = some (.int .u64 r.dst) := flat_cell (j := 12) HBX.out hr (by decide) rfl
        have c13 : wr.cell? ⟨G, i * 15 + 13, none⟩ = some (.string ⟨#[]⟩) := flat_cell (j := 13) HBX.out hr (by decide) rfl
        have c14 : wr.cell? ⟨G, i * 15 + 14, none⟩ = some (.string r.data) := flat_cell (j := 14) HBX.out hr (by decide) rfl
        obtain ⟨⟨S2, e2⟩, hlr⟩ : ∃ x, layF r = x := ⟨_, rfl⟩
        rw [hlr] at hl hm
        have HLF := Aside0.mk hl
        have HMF := Aside0.mk hm
        have hyi : y.toNat = i := by omega
        have p1 : (0 ≤ y) = True := eq_true (by omega)
        have q1 : (y < 7) = True := eq_true (by omega)
        have b1 : decide (y < 7) = true := decide_eq_true (by omega)
        have hyw : wrap64 (y + 1) = ((i + 1 : Nat) : Int) := by unfold wrap64; omega
        have HYW := Aside0.mk hyw
        have HY := Aside0.mk hy
        obtain ⟨gk, rfl⟩ : ∃ q, gk = q + 1 := ⟨gk - 1, by have := HK.out; omega⟩
        rw [hy]
        clear hy hyw hr hi hlr hl hm
        go_wp2_with fail
        refine Calls.mono (ip4_Lay.calls kl r.tos r.id r.df r.mf r.off r.ttl r.proto r.b1 r.h1 r.src r.b2 r.h2 r.dst ⟨#[]⟩ r.data S2 e2 _ HLF.out) ?_
        rintro e w2 ⟨rfl, hb⟩
        have HBX2 := Aside0.mk (blk_below HBX.out hb)
        have BK2 := Aside0.mk (blk_below BK16.out hb)
        have HB2 := Aside0.mk (below_step HB.out hb)
        clear hb c0 c1 c2 c3 c4 c5 c6 c7 c8 c9 c10 c11 c12 c13 c14
        by_cases he2 : e2 = 0
        · obtain ⟨km, hm0⟩ := HMF.out he2
          have HMM := Aside0.mk hm0
          subst he2
          clear hm0
          go_wp2_with fail
          refine Calls.mono (excuse_May.calls km S2 false _ HMM.out) ?_
          rintro e w3 ⟨rfl, hb⟩
          have HBX3 := Aside0.mk (blk_below HBX2.out hb)
          have BK3 := Aside0.mk (blk_below BK2.out hb)
          have HB3 := Aside0.mk (below_step HB2.out hb)
          clear hb
          go_wp2
          go_roundg gk
          case measure => omega
          case rel => exact ⟨i + 1, by first | rw [HYW.out] | exact congrArg _ (by have := HY.out; omega), ⟨by have := HK.out; omega⟩, HBX3, BK3, HB3⟩
        · have b2 : (e2 == 0) = false := by simpa using he2
          clear he2
          go_wp2
          go_roundg gk
          case measure => omega
          case rel => exact ⟨i + 1, by first | rw [HYW.out] | exact congrArg _ (by have := HY.out; omega), ⟨by have := HK.out; omega⟩, HBX2, BK2, HB2⟩
      · have b1 : decide (y < 7) = false := decide_eq_false (by omega)
        obtain ⟨c0, c1, c2, c3, c4, c5, c6, c7, c8, c9, c10, c11, c12, c13, c14⟩ := MBlk.c15 BK16.out
        rw [hy]
        clear hy hi
        go_wp2_with fail
        refine Calls.mono (ip4_Lay.calls k2 tos id df false 0 ttl 1 false 0 167772161 false 0 167772162 ⟨#[]⟩ de S1 e1 _ HL1.out) ?_
        rintro e w2 ⟨rfl, hb⟩
        have HB2 := Aside0.mk (below_step HB.out hb)
        clear hb c0 c1 c2 c3 c4 c5 c6 c7 c8 c9 c10 c11 c12 c13 c14
        go_wp2_with fail
        refine Calls.mono (excuse_May.calls k3 S0 true _ HM.out) ?_
        rintro e w3 ⟨rfl, hb⟩
        replace HB2 := Aside0.mk (below_step HB2.out hb)
        clear hb
        by_cases he1 : e1 = 0
        · obtain ⟨km, hm0⟩ := HM1.out he1
          have HMM := Aside0.mk hm0
          subst he1
          clear hm0
          go_wp2_with fail
          refine Calls.mono (excuse_May.calls km S1 true _ HMM.out) ?_
          rintro e w4 ⟨rfl, hb⟩
          replace HB2 := Aside0.mk (below_step HB2.out hb)
          clear hb
          go_wp2
          go_ret
          exact ⟨rfl, HB2.out⟩
        · have b2 : (e1 == 0) = false := by simpa using he1
          have b3 : (e1 != 0) = true := by simpa using he1
          have b4 : (e1 = 0) = False := eq_false he1
          have b5 : decide (e1 = 0) = false := decide_eq_false he1
          clear he1
          go_wp2
          go_ret
          exact ⟨rfl, HB2.out⟩
  · have b0 : (e0 == 0) = false := by simpa using he0
    clear he0
    go_wp2
    go_ret
    exact ⟨rfl, HB.out⟩
theorem row_ok {p : F4} (hd : p.data.size ≤ 140737488355328) (u1 : 0 ≤ p.src) (u2 : 0 ≤ p.dst) (hm : mayF p = false) :
    ∃ k, ip4_Lay.f k p.tos p.id p.df p.mf p.off p.ttl p.proto p.b1 p.h1 p.src p.b2 p.h2 p.dst ⟨#[]⟩ p.data = some (layF p) ∧ ((layF p).2 = 0 → ∃ k, excuse_May.f k (layF p).1 = some false) := by
  obtain ⟨k, hk⟩ := lay_f hd u1 u2
  exact ⟨k, hk, fun e => hm ▸ may_f u1 u2 e⟩
theorem whomCalls (tos id : Int) (df mf : Bool) (off ttl proto : Int) (b1 : Bool) (h1 l1 : Int) (b2 : Bool) (h2 l2 : Int) (opts data0 : ByteArray) (tt : Int) (data : ByteArray) (_ : (Lit.int .i64 tos).wf = true) (_ : (Lit.int .i64 id).wf = true) (_ : (Lit.int .i64 off).wf = true) (_ : (Lit.int .i64 ttl).wf = true) (_ : (Lit.int .i64 proto).wf = true)
    (_ : (Lit.int .u64 h1).wf = true) (_ : (Lit.int .u64 l1).wf = true) (_ : (Lit.int .u64 h2).wf = true) (_ : (Lit.int .u64 l2).wf = true) (_ : opts.size ≤ 140737488351232) (_ : data0.size ≤ 140737488351232) (_ : (Lit.int .i64 tt).wf = true) (hd : data.size ≤ 140737488351232) (w : World) (hg : excuse_Glob w) :
    Calls Tryd.prog 7 #[.agg #[.int .i64 tos, .int .i64 id, .bool df, .bool mf, .int .i64 off, .int .i64 ttl, .int .i64 proto, .bool b1, .int .u64 h1, .int .u64 l1, .bool b2, .int .u64 h2, .int .u64 l2, .string opts, .string data0], .int .i64 tt, .string data] w fun e w' => e = .returned (.bool true) ∧ Below w.heap.size w w' := by
  obtain ⟨k0, ha⟩ := awake_some
  have z3 : ((⟨#[3]⟩ : ByteArray) ++ data).size = 1 + data.size := by rw [ByteArray.size_append]; rfl
  have z8 : ((⟨#[8]⟩ : ByteArray) ++ data).size = 1 + data.size := by rw [ByteArray.size_append]; rfl
  have z0 : (⟨#[]⟩ : ByteArray).size = 0 := rfl
  obtain ⟨k1, hl0⟩ := lay_f (p := fPlain tos id df ttl data) (by show data.size ≤ _; omega) (by show (0 : Int) ≤ 167772161; decide) (by show (0 : Int) ≤ 167772162; decide)
  have hm0 := fun e => may_f (p := fPlain tos id df ttl data) (by show (0 : Int) ≤ 167772161; decide) (by show (0 : Int) ≤ 167772162; decide) e
  rw [may_plain] at hm0
  obtain ⟨k2, hl1⟩ := lay_f (p := fIcmp tos id df ttl (⟨#[8]⟩ ++ data)) (by show (⟨#[8]⟩ ++ data : ByteArray).size ≤ _; omega) (by show (0 : Int) ≤ 167772161; decide) (by show (0 : Int) ≤ 167772162; decide)
  have hm1 := fun e => may_f (p := fIcmp tos id df ttl (⟨#[8]⟩ ++ data)) (by show (0 : Int) ≤ 167772161; decide) (by show (0 : Int) ≤ 167772162; decide) e
  rw [may_echo _ _ _ _ _ (by rw [err_first]; decide)] at hm1
  obtain ⟨x0, hx0⟩ : ∃ x, layF (fPlain tos id df ttl data) = x := ⟨_, rfl⟩
  obtain ⟨x1, hx1⟩ : ∃ x, layF (fIcmp tos id df ttl (⟨#[8]⟩ ++ data)) = x := ⟨_, rfl⟩
  rw [hx0] at hl0 hm0
  rw [hx1] at hl1 hm1
  have r1 : 0 ≤ tt % 268435456 ∧ tt % 268435456 ≤ 268435455 := by omega
  have r2 : 0 ≤ tt % 16777216 ∧ tt % 16777216 ≤ 16777215 := by omega
  have r3 : 0 ≤ tt % 4096 ∧ tt % 4096 ≤ 4095 := by omega
  refine whom_case tos id df mf off ttl proto b1 h1 l1 b2 h2 l2 opts data0 tt data w hg ⟨ha⟩ (S0 := x0.1) (e0 := x0.2) ⟨hl0⟩ ⟨hm0⟩ rfl rfl (eq_false (by rw [show (⟨#[3]⟩ : ByteArray).size = 1 from rfl]; omega)) (eq_false (by rw [show (⟨#[8]⟩ : ByteArray).size = 1 from rfl]; omega)) (eq_false (by omega)) (eq_false (by omega)) (and28 tt) (and24 tt) (and12 tt) (wu64 r1.1 (by omega)) (wu64 r2.1 (by omega)) (wu64 (by omega) (by omega)) (wu64 (by omega) (by omega)) (w64 (by omega) (by omega)) ⟨?_⟩ (S1 := x1.1) (e1 := x1.2) ⟨hl1⟩ ⟨hm1⟩
  intro r hr
  simp only [rowsOf, List.mem_cons, List.not_mem_nil, or_false] at hr
  rcases hr with rfl | rfl | rfl | rfl | rfl | rfl | rfl
  · exact row_ok (by show data.size ≤ _; omega) (by show (0 : Int) ≤ 167772161; decide) (by show (0 : Int) ≤ 3758096384 + _; omega) (may_far _ _ _ _ _ _ r1.1 r1.2)
  · exact row_ok (by show data.size ≤ _; omega) (by show (0 : Int) ≤ 167772161; decide) (by show (0 : Int) ≤ 4294967295; decide) (may_all _ _ _ _ _)
  · exact row_ok (by show data.size ≤ _; omega) (by show (0 : Int) ≤ 0; decide) (by show (0 : Int) ≤ 167772162; decide) (may_nobody _ _ _ _ _)
  · exact row_ok (by show data.size ≤ _; omega) (by show (0 : Int) ≤ 2130706432 + _; omega) (by show (0 : Int) ≤ 167772162; decide) (may_loop _ _ _ _ _ _ r2.1 r2.2)
  · exact row_ok (by show data.size ≤ _; omega) (by show (0 : Int) ≤ 167772161; decide) (by show (0 : Int) ≤ 167772162; decide) (may_piece _ _ _ _ _ _ r3.1)
  · exact row_ok (by show (⟨#[3]⟩ ++ data : ByteArray).size ≤ _; omega) (by show (0 : Int) ≤ 167772161; decide) (by show (0 : Int) ≤ 167772162; decide) (may_wrong _ _ _ _ _ (by rw [err_first]; decide))
  · exact row_ok (by show (⟨#[]⟩ : ByteArray).size ≤ _; omega) (by show (0 : Int) ≤ 167772161; decide) (by show (0 : Int) ≤ 167772162; decide) (may_wrong _ _ _ _ _ rfl)
end Go.Proofs.YtaoopneiglgnkaaDoor.WQ
