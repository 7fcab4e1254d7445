/-
  The statement ExcuseQuotes: what is told goes to whom the packet came from, and quotes its beginning. Conditions: those of each theorem.
-/
import Derived.Test.YtaoopneiglgnkaaDoorPBasex14
import Derived.Test.YtaoopneiglgnkaaDoorPureQuotes
set_option linter.unusedVariables false
set_option linter.unusedSimpArgs false
namespace Go.Proofs.YtaoopneiglgnkaaDoor.WQ
open Go.RowKit Go.Proofs.YtaoopneiglgnkaaDoor.PBase Go.Proofs.YtaoopneiglgnkaaDoorW.PrintWords Go.Proofs.YtaoopneiglgnkaaDoorW.PrintLast Go.Proofs.YtaoopneiglgnkaaDoorW.PrintMore Go.Proofs.YtaoopneiglgnkaaDoor.Pure
attribute [local go_sem] max2_int min2_int max_two min_two
attribute [local go_sem] undef
theorem put3 {w : World} {g T : Nat} {v0 v1 v2 : Value} (h : w.heap[g]? = some (.cells #[v0, v1, v2] T (0, 0))) (b0 b1 b2 : Value) :
    (((w.setCell ⟨g, 0, none⟩ b0).setCell ⟨g, 1, none⟩ b1).setCell ⟨g, 2, none⟩ b2).heap[g]? = some (.cells #[b0, b1, b2] T (0, 0)) := by
  replace h := MReader.setCell_heap (j := 0) (u := b0) h
  rw [show (#[v0, v1, v2] : Array Value).setIfInBounds 0 b0 = #[b0, v1, v2] from rfl] at h
  replace h := MReader.setCell_heap (j := 1) (u := b1) h
  rw [show (#[b0, v1, v2] : Array Value).setIfInBounds 1 b1 = #[b0, b1, v2] from rfl] at h
  replace h := MReader.setCell_heap (j := 2) (u := b2) h
  rw [show (#[b0, b1, v2] : Array Value).setIfInBounds 2 b2 = #[b0, b1, b2] from rfl] at h
  exact h
theorem put5 {w : World} {g T : Nat} {v0 v1 v2 v3 v4 : Value} (h : w.heap[g]? = some (.cells #[v0, v1, v2, v3, v4] T (0, 0))) (b0 b1 b2 b3 b4 : Value) :
    (((((w.setCell ⟨g, 0, none⟩ b0).setCell ⟨g, 1, none⟩ b1).setCell ⟨g, 2, none⟩ b2).setCell ⟨g, 3, none⟩ b3).setCell ⟨g, 4, none⟩ b4).heap[g]? = some (.cells #[b0, b1, b2, b3, b4] T (0, 0)) := by
  replace h := MReader.setCell_heap (j := 0) (u := b0) h
  rw [show (#[v0, v1, v2, v3, v4] : Array Value).setIfInBounds 0 b0 = #[b0, v1, v2, v3, v4] from rfl] at h
  replace h := MReader.setCell_heap (j := 1) (u := b1) h
  rw [show (#[b0, v1, v2, v3, v4] : Array Value).setIfInBounds 1 b1 = #[b0, b1, v2, v3, v4] from rfl] at h
  replace h := MReader.setCell_heap (j := 2) (u := b2) h
  rw [show (#[b0, b1, v2, v3, v4] : Array Value).setIfInBounds 2 b2 = #[b0, b1, b2, v3, v4] from rfl] at h
  replace h := MReader.setCell_heap (j := 3) (u := b3) h
  rw [show (#[b0, b1, b2, v3, v4] : Array Value).setIfInBounds 3 b3 = #[b0, b1, b2, b3, v4] from rfl] at h
  replace h := MReader.setCell_heap (j := 4) (u := b4) h
  rw [show (#[b0, b1, b2, b3, v4] : Array Value).setIfInBounds 4 b4 = #[b0, b1, b2, b3, b4] from rfl] at h
  exact h
theorem put11 {w : World} {g T : Nat} {v0 v1 v2 v3 v4 v5 v6 v7 v8 v9 v10 : Value} (h : w.heap[g]? = some (.cells #[v0, v1, v2, v3, v4, v5, v6, v7, v8, v9, v10] T (0, 0))) (b0 b1 b2 b3 b4 b5 b6 b7 b8 b9 b10 : Value) :
    (((((((((((w.setCell ⟨g, 0, none⟩ b0).setCell ⟨g, 1, none⟩ b1).setCell ⟨g, 2, none⟩ b2).setCell ⟨g, 3, none⟩ b3).setCell ⟨g, 4, none⟩ b4).setCell ⟨g, 5, none⟩ b5).setCell ⟨g, 6, none⟩ b6).setCell ⟨g, 7, none⟩ b7).setCell ⟨g, 8, none⟩ b8).setCell ⟨g, 9, none⟩ b9).setCell ⟨g, 10, none⟩ b10).heap[g]? = some (.cells #[b0, b1, b2, b3, b4, b5, b6, b7, b8, b9, b10] T (0, 0)) := by
  replace h := MReader.setCell_heap (j := 0) (u := b0) h
  rw [show (#[v0, v1, v2, v3, v4, v5, v6, v7, v8, v9, v10] : Array Value).setIfInBounds 0 b0 = #[b0, v1, v2, v3, v4, v5, v6, v7, v8, v9, v10] from rfl] at h
  replace h := MReader.setCell_heap (j := 1) (u := b1) h
  rw [show (#[b0, v1, v2, v3, v4, v5, v6, v7, v8, v9, v10] : Array Value).setIfInBounds 1 b1 = #[b0, b1, v2, v3, v4, v5, v6, v7, v8, v9, v10] from rfl] at h
  replace h := MReader.setCell_heap (j := 2) (u := b2) h
  rw [show (#[b0, b1, v2, v3, v4, v5, v6, v7, v8, v9, v10] : Array Value).setIfInBounds 2 b2 = #[b0, b1, b2, v3, v4, v5, v6, v7, v8, v9, v10] from rfl] at h
  replace h := MReader.setCell_heap (j := 3) (u := b3) h
  rw [show (#[b0, b1, b2, v3, v4, v5, v6, v7, v8, v9, v10] : Array Value).setIfInBounds 3 b3 = #[b0, b1, b2, b3, v4, v5, v6, v7, v8, v9, v10] from rfl] at h
  replace h := MReader.setCell_heap (j := 4) (u := b4) h
  rw [show (#[b0, b1, b2, b3, v4, v5, v6, v7, v8, v9, v10] : Array Value).setIfInBounds 4 b4 = #[b0, b1, b2, b3, b4, v5, v6, v7, v8, v9, v10] from rfl] at h
  replace h := MReader.setCell_heap (j := 5) (u := b5) h
  rw [show (#[b0, b1, b2, b3, b4, v5, v6, v7, v8, v9, v10] : Array Value).setIfInBounds 5 b5 = #[b0, b1, b2, b3, b4, b5, v6, v7, v8, v9, v10] from rfl] at h
  replace h := MReader.setCell_heap (j := 6) (u := b6) h
  rw [show (#[b0, b1, b2, b3, b4, b5, v6, v7, v8, v9, v10] : Array Value).setIfInBounds 6 b6 = #[b0, b1, b2, b3, b4, b5, b6, v7, v8, v9, v10] from rfl] at h
  replace h := MReader.setCell_heap (j := 7) (u := b7) h
  rw [show (#[b0, b1, b2, b3, b4, b5, b6, v7, v8, v9, v10] : Array Value).setIfInBounds 7 b7 = #[b0, b1, b2, b3, b4, b5, b6, b7, v8, v9, v10] from rfl] at h
  replace h := MReader.setCell_heap (j := 8) (u := b8) h
  rw [show (#[b0, b1, b2, b3, b4, b5, b6, b7, v8, v9, v10] : Array Value).setIfInBounds 8 b8 = #[b0, b1, b2, b3, b4, b5, b6, b7, b8, v9, v10] from rfl] at h
  replace h := MReader.setCell_heap (j := 9) (u := b9) h
  rw [show (#[b0, b1, b2, b3, b4, b5, b6, b7, b8, v9, v10] : Array Value).setIfInBounds 9 b9 = #[b0, b1, b2, b3, b4, b5, b6, b7, b8, b9, v10] from rfl] at h
  replace h := MReader.setCell_heap (j := 10) (u := b10) h
  rw [show (#[b0, b1, b2, b3, b4, b5, b6, b7, b8, b9, v10] : Array Value).setIfInBounds 10 b10 = #[b0, b1, b2, b3, b4, b5, b6, b7, b8, b9, b10] from rfl] at h
  exact h
theorem awake_some : ∃ k, crosswaylaw20_awake.f k = some true := ⟨100, by decide +kernel⟩
theorem neA (w : World) (x0 : Bool) (x1 x2 : Int) : (binOp .neq 28 (.agg #[.bool x0, .int .u64 x1, .int .u64 x2]) (.agg #[.bool x0, .int .u64 x1, .int .u64 x2])).run Tryd.prog w = .ok (.bool false) w := by
  rw [run_neq_struct, show (10000 : Nat) = 9998 + 2 from rfl, eqA28]
  simp
attribute [local go_sem high] neA
set_option maxHeartbeats 8000000 in
set_option maxRecDepth 100000 in
theorem six_case (why : Int) (s : ByteArray) (h l rest : Int) (w : World) (hg : excuse_Glob w) {S D data d : ByteArray} {kind code rst cl fl nx hp ph pl qh ql : Int} {k0 k1 k2 k3 k4 : Nat} (HAW : Aside0 (crosswaylaw20_awake.f k0 = some true)) (HOF : Aside0 (excuse_Of.f k1 why s true h l rest = some (S, 0))) (HKI : Aside0 (excuse_Kind.f why true = some (kind, code, true)))
    (HTP : Aside0 (ip6_Take.f k2 s = some (cl, fl, nx, hp, true, ph, pl, true, qh, ql, d, 0))) (HTQ : Aside0 (ip6_Take.f k3 S = some (0, 0, 58, 64, true, h, l, true, ph, pl, D, 0))) (HTM : Aside0 (icmp_Take.f k4 D true true h l true ph pl = some (true, kind, code, rst, data, 0)))
    (HIE : Aside0 (icmp_IsError.f true kind code rst data = some true)) (hS : decide ((S.size : Int) > 1280) = false) (hy : wrap64 (40 + (d.size : Int)) = 40 + (d.size : Int)) (hmin : (if (1232 : Int) < 40 + (d.size : Int) then 1232 else 40 + (d.size : Int)) = (data.size : Int)) (hle : data.size ≤ s.size) (hle2 : (data.size : Int) ≤ (s.size : Int)) (heq : (data.toList == (s.extract 0 data.size).toList) = true) :
    Calls Tryd.prog 8 #[.int .i64 why, .string s, .agg #[.bool true, .int .u64 h, .int .u64 l], .int .i64 rest] w fun e w' => e = .returned (.bool true) ∧ Below w.heap.size w w' := by
  have hu28 := Tryd.underlying28
  have HG0 := Aside0.mk hg
  have HG := Aside0.mk hg
  have HB := Aside0.mk (Below.refl w.heap.size w)
  clear hg
  go_enter Tryd.func8, Tryd.ntmps8
  go_wp2_with (first | ((with_reducible refine gate_dst (N := 6) rfl ?_); refine sh_E 6 28 #[.bool true, .int .u64 h, .int .u64 l] ?_; intro g6 hg V1 hbox hb; have BK6 := Aside0.mk hbox; replace HB := sh_S HB hb; replace HG := Aside0.mk (excuse_Glob_below HG.out hb); clear hbox hb hg) | fail)
  refine Calls.mono (crosswaylaw20_awake.calls k0 true _ HAW.out HG.out) ?_
  rintro e W2 ⟨rfl, hb⟩
  replace HB := Aside0.mk (below_step HB.out hb)
  replace HG := Aside0.mk (excuse_Glob_below HG.out hb)
  replace BK6 := Aside0.mk (blk_below BK6.out hb)
  clear hb
  obtain ⟨c6_0, c6_1, c6_2⟩ := MBlk.c3 BK6.out
  go_wp2_with fail
  refine Calls.mono (excuse_Of.calls k1 why s true h l rest S 0 _ HOF.out HG.out) ?_
  rintro e W3 ⟨rfl, hb⟩
  replace HB := Aside0.mk (below_step HB.out hb)
  replace HG := Aside0.mk (excuse_Glob_below HG.out hb)
  replace BK6 := Aside0.mk (blk_below BK6.out hb)
  clear hb
  clear c6_0 c6_1 c6_2
  obtain ⟨c6_0, c6_1, c6_2⟩ := MBlk.c3 BK6.out
  go_wp2_with fail
  refine Calls.mono (excuse_Kind.calls why true kind code true _ HKI.out HG.out) ?_
  rintro e W4 ⟨rfl, hb⟩
  replace HB := Aside0.mk (below_step HB.out hb)
  replace HG := Aside0.mk (excuse_Glob_below HG.out hb)
  replace BK6 := Aside0.mk (blk_below BK6.out hb)
  clear hb
  clear c6_0 c6_1 c6_2
  obtain ⟨c6_0, c6_1, c6_2⟩ := MBlk.c3 BK6.out
  go_wp2_with (first | ((with_reducible refine gate_dst (N := 15) rfl ?_); refine sh_E 15 43 #[.bool false, .int .i64 0, .int .i64 0, .int .i64 0, .string (⟨#[]⟩ : ByteArray)] ?_; intro g15 hg V15 hbox hb; have NE6_15 := Aside0.mk (show g6 ≠ g15 by have := blk_lt BK6.out; omega); have GE15 := sh_G HB hg; replace HB := sh_S HB hb; replace HG := Aside0.mk (excuse_Glob_below HG.out hb); replace BK6 := Aside0.mk (blk_below BK6.out hb); have BK15 := Aside0.mk hbox; replace c6_0 := pw_cell_below hb c6_0; replace c6_1 := pw_cell_below hb c6_1; replace c6_2 := pw_cell_below hb c6_2; clear hbox hb hg) | ((with_reducible refine gate_dst (N := 16) rfl ?_); refine sh_E 16 28 #[.bool false, .int .u64 0, .int .u64 0] ?_; intro g16 hg V16 hbox hb; have NE6_16 := Aside0.mk (show g6 ≠ g16 by have := blk_lt BK6.out; omega); have NE15_16 := Aside0.mk (show g15 ≠ g16 by have := blk_lt BK15.out; omega); have GE16 := sh_G HB hg; replace HB := sh_S HB hb; replace HG := Aside0.mk (excuse_Glob_below HG.out hb); replace BK6 := Aside0.mk (blk_below BK6.out hb); replace BK15 := Aside0.mk (blk_below BK15.out hb); have BK16 := Aside0.mk hbox; replace c6_0 := pw_cell_below hb c6_0; replace c6_1 := pw_cell_below hb c6_1; replace c6_2 := pw_cell_below hb c6_2; clear hbox hb hg) | fail)
  refine Calls.mono (ip6_Take.calls k2 s cl fl nx hp true ph pl true qh ql d 0 _ HTP.out) ?_
  rintro e W5 ⟨rfl, hb⟩
  replace HB := Aside0.mk (below_step HB.out hb)
  replace HG := Aside0.mk (excuse_Glob_below HG.out hb)
  replace BK6 := Aside0.mk (blk_below BK6.out hb)
  replace BK15 := Aside0.mk (blk_below BK15.out hb)
  replace BK16 := Aside0.mk (blk_below BK16.out hb)
  clear hb
  clear c6_0 c6_1 c6_2
  go_upto_region 11 with (first | ((with_reducible refine gate_dst (N := 18) rfl ?_); refine sh_E 18 45 #[.int .i64 0, .int .i64 0, .int .i64 0, .int .i64 0, .bool false, .int .u64 0, .int .u64 0, .bool false, .int .u64 0, .int .u64 0, .string (⟨#[]⟩ : ByteArray)] ?_; intro g18 hg V1 hbox hb; have HG8 := Aside0.mk hg; have BK18 := Aside0.mk hbox; have HBB := Aside0.mk hb; obtain ⟨d0, d1, d2, d3, d4, d5, d6, d7, d8, d9, d10⟩ := MBlk.c11 hbox; obtain ⟨f0, f1, f2, f3, f4, f5, f6, f7, f8, f9, f10⟩ := MBlk.f11 hbox; clear hbox hb hg) | fail)
  have NE6_18 := Aside0.mk (show g6 ≠ g18 by have := blk_lt BK6.out; have := HG8.out; omega)
  have NE15_18 := Aside0.mk (show g15 ≠ g18 by have := blk_lt BK15.out; have := HG8.out; omega)
  have NE16_18 := Aside0.mk (show g16 ≠ g18 by have := blk_lt BK16.out; have := HG8.out; omega)
  have GE18 := Aside0.mk (show w.heap.size ≤ g18 by have := HG8.out; have := HB.out.size; omega)
  have hbk := put11 BK18.out (.int .i64 cl) (.int .i64 fl) (.int .i64 nx) (.int .i64 hp) (.bool true) (.int .u64 ph) (.int .u64 pl) (.bool true) (.int .u64 qh) (.int .u64 ql) (.string d)
  have h8 : W5.heap.size ≤ g18 := by have := HG8.out; omega
  obtain ⟨W6, hw⟩ : ∃ x, (((((((((((V1.setCell ⟨g18, 0, none⟩ (.int .i64 cl)).setCell ⟨g18, 1, none⟩ (.int .i64 fl)).setCell ⟨g18, 2, none⟩ (.int .i64 nx)).setCell ⟨g18, 3, none⟩ (.int .i64 hp)).setCell ⟨g18, 4, none⟩ (.bool true)).setCell ⟨g18, 5, none⟩ (.int .u64 ph)).setCell ⟨g18, 6, none⟩ (.int .u64 pl)).setCell ⟨g18, 7, none⟩ (.bool true)).setCell ⟨g18, 8, none⟩ (.int .u64 qh)).setCell ⟨g18, 9, none⟩ (.int .u64 ql)).setCell ⟨g18, 10, none⟩ (.string d)) = x := ⟨_, rfl⟩
  have hbb : Below W5.heap.size W5 W6 := by rw [← hw]; exact below_set (below_set (below_set (below_set (below_set (below_set (below_set (below_set (below_set (below_set (below_set (HBB.out) h8) h8) h8) h8) h8) h8) h8) h8) h8) h8) h8
  rw [hw] at hbk ⊢
  clear hw h8 BK18 HBB HG8 d0 d1 d2 d3 d4 d5 d6 d7 d8 d9 d10 f0 f1 f2 f3 f4 f5 f6 f7 f8 f9 f10 
  clear V1
  replace HB := Aside0.mk (below_step HB.out hbb)
  replace HG := Aside0.mk (excuse_Glob_below HG.out hbb)
  replace BK6 := Aside0.mk (blk_below BK6.out hbb)
  replace BK15 := Aside0.mk (blk_below BK15.out hbb)
  replace BK16 := Aside0.mk (blk_below BK16.out hbb)
  have BK18 := Aside0.mk hbk
  clear hbk hbb
  go_wp2_with fail
  refine Calls.mono (ip6_Take.calls k3 S 0 0 58 64 true h l true ph pl D 0 _ HTQ.out) ?_
  rintro e W7 ⟨rfl, hb⟩
  replace HB := Aside0.mk (below_step HB.out hb)
  replace HG := Aside0.mk (excuse_Glob_below HG.out hb)
  replace BK6 := Aside0.mk (blk_below BK6.out hb)
  replace BK15 := Aside0.mk (blk_below BK15.out hb)
  replace BK16 := Aside0.mk (blk_below BK16.out hb)
  replace BK18 := Aside0.mk (blk_below BK18.out hb)
  clear hb
  go_upto_region 12 with (first | ((with_reducible refine gate_dst (N := 20) rfl ?_); refine sh_E 20 45 #[.int .i64 0, .int .i64 0, .int .i64 0, .int .i64 0, .bool false, .int .u64 0, .int .u64 0, .bool false, .int .u64 0, .int .u64 0, .string (⟨#[]⟩ : ByteArray)] ?_; intro g20 hg V1 hbox hb; have HG8 := Aside0.mk hg; have BK20 := Aside0.mk hbox; have HBB := Aside0.mk hb; obtain ⟨d0, d1, d2, d3, d4, d5, d6, d7, d8, d9, d10⟩ := MBlk.c11 hbox; obtain ⟨f0, f1, f2, f3, f4, f5, f6, f7, f8, f9, f10⟩ := MBlk.f11 hbox; clear hbox hb hg) | fail)
  have NE6_20 := Aside0.mk (show g6 ≠ g20 by have := blk_lt BK6.out; have := HG8.out; omega)
  have NE15_20 := Aside0.mk (show g15 ≠ g20 by have := blk_lt BK15.out; have := HG8.out; omega)
  have NE16_20 := Aside0.mk (show g16 ≠ g20 by have := blk_lt BK16.out; have := HG8.out; omega)
  have NE18_20 := Aside0.mk (show g18 ≠ g20 by have := blk_lt BK18.out; have := HG8.out; omega)
  have GE20 := Aside0.mk (show w.heap.size ≤ g20 by have := HG8.out; have := HB.out.size; omega)
  have hbk := put11 BK20.out (.int .i64 0) (.int .i64 0) (.int .i64 58) (.int .i64 64) (.bool true) (.int .u64 h) (.int .u64 l) (.bool true) (.int .u64 ph) (.int .u64 pl) (.string D)
  have h8 : W7.heap.size ≤ g20 := by have := HG8.out; omega
  obtain ⟨W8, hw⟩ : ∃ x, (((((((((((V1.setCell ⟨g20, 0, none⟩ (.int .i64 0)).setCell ⟨g20, 1, none⟩ (.int .i64 0)).setCell ⟨g20, 2, none⟩ (.int .i64 58)).setCell ⟨g20, 3, none⟩ (.int .i64 64)).setCell ⟨g20, 4, none⟩ (.bool true)).setCell ⟨g20, 5, none⟩ (.int .u64 h)).setCell ⟨g20, 6, none⟩ (.int .u64 l)).setCell ⟨g20, 7, none⟩ (.bool true)).setCell ⟨g20, 8, none⟩ (.int .u64 ph)).setCell ⟨g20, 9, none⟩ (.int .u64 pl)).setCell ⟨g20, 10, none⟩ (.string D)) = x := ⟨_, rfl⟩
  have hbb : Below W7.heap.size W7 W8 := by rw [← hw]; exact below_set (below_set (below_set (below_set (below_set (below_set (below_set (below_set (below_set (below_set (below_set (HBB.out) h8) h8) h8) h8) h8) h8) h8) h8) h8) h8) h8
  rw [hw] at hbk ⊢
  clear hw h8 BK20 HBB HG8 d0 d1 d2 d3 d4 d5 d6 d7 d8 d9 d10 f0 f1 f2 f3 f4 f5 f6 f7 f8 f9 f10 
  clear V1
  replace HB := Aside0.mk (below_step HB.out hbb)
  replace HG := Aside0.mk (excuse_Glob_below HG.out hbb)
  replace BK6 := Aside0.mk (blk_below BK6.out hbb)
  replace BK15 := Aside0.mk (blk_below BK15.out hbb)
  replace BK16 := Aside0.mk (blk_below BK16.out hbb)
  replace BK18 := Aside0.mk (blk_below BK18.out hbb)
  have BK20 := Aside0.mk hbk
  clear hbk hbb
  obtain ⟨c20_0, c20_1, c20_2, c20_3, c20_4, c20_5, c20_6, c20_7, c20_8, c20_9, c20_10⟩ := MBlk.c11 BK20.out
  go_wp2_with fail
  refine Calls.mono (icmp_Take.calls k4 D true true h l true ph pl true kind code rst data 0 _ HTM.out) ?_
  rintro e W9 ⟨rfl, hb⟩
  replace HB := Aside0.mk (below_step HB.out hb)
  replace HG := Aside0.mk (excuse_Glob_below HG.out hb)
  replace BK6 := Aside0.mk (blk_below BK6.out hb)
  replace BK15 := Aside0.mk (blk_below BK15.out hb)
  replace BK16 := Aside0.mk (blk_below BK16.out hb)
  replace BK18 := Aside0.mk (blk_below BK18.out hb)
  replace BK20 := Aside0.mk (blk_below BK20.out hb)
  clear hb
  clear c20_0 c20_1 c20_2 c20_3 c20_4 c20_5 c20_6 c20_7 c20_8 c20_9 c20_10
  go_upto_region 13 with (first | ((with_reducible refine gate_dst (N := 22) rfl ?_); refine sh_E 22 43 #[.bool false, .int .i64 0, .int .i64 0, .int .i64 0, .string (⟨#[]⟩ : ByteArray)] ?_; intro g22 hg V1 hbox hb; have HG8 := Aside0.mk hg; have BK22 := Aside0.mk hbox; have HBB := Aside0.mk hb; obtain ⟨d0, d1, d2, d3, d4⟩ := MBlk.c5 hbox; obtain ⟨f0, f1, f2, f3, f4⟩ := MBlk.f5 hbox; clear hbox hb hg) | fail)
  have NE6_22 := Aside0.mk (show g6 ≠ g22 by have := blk_lt BK6.out; have := HG8.out; omega)
  have NE15_22 := Aside0.mk (show g15 ≠ g22 by have := blk_lt BK15.out; have := HG8.out; omega)
  have NE16_22 := Aside0.mk (show g16 ≠ g22 by have := blk_lt BK16.out; have := HG8.out; omega)
  have NE18_22 := Aside0.mk (show g18 ≠ g22 by have := blk_lt BK18.out; have := HG8.out; omega)
  have NE20_22 := Aside0.mk (show g20 ≠ g22 by have := blk_lt BK20.out; have := HG8.out; omega)
  have GE22 := Aside0.mk (show w.heap.size ≤ g22 by have := HG8.out; have := HB.out.size; omega)
  have hbk := put5 BK22.out (.bool true) (.int .i64 kind) (.int .i64 code) (.int .i64 rst) (.string data)
  have h8 : W9.heap.size ≤ g22 := by have := HG8.out; omega
  obtain ⟨W10, hw⟩ : ∃ x, (((((V1.setCell ⟨g22, 0, none⟩ (.bool true)).setCell ⟨g22, 1, none⟩ (.int .i64 kind)).setCell ⟨g22, 2, none⟩ (.int .i64 code)).setCell ⟨g22, 3, none⟩ (.int .i64 rst)).setCell ⟨g22, 4, none⟩ (.string data)) = x := ⟨_, rfl⟩
  have hbb : Below W9.heap.size W9 W10 := by rw [← hw]; exact below_set (below_set (below_set (below_set (below_set (HBB.out) h8) h8) h8) h8) h8
  rw [hw] at hbk ⊢
  clear hw h8 BK22 HBB HG8 d0 d1 d2 d3 d4 f0 f1 f2 f3 f4 
  clear V1
  replace HB := Aside0.mk (below_step HB.out hbb)
  replace HG := Aside0.mk (excuse_Glob_below HG.out hbb)
  replace BK6 := Aside0.mk (blk_below BK6.out hbb)
  replace BK15 := Aside0.mk (blk_below BK15.out hbb)
  replace BK16 := Aside0.mk (blk_below BK16.out hbb)
  replace BK18 := Aside0.mk (blk_below BK18.out hbb)
  replace BK20 := Aside0.mk (blk_below BK20.out hbb)
  have BK22 := Aside0.mk hbk
  clear hbk hbb
  obtain ⟨c6_0, c6_1, c6_2⟩ := MBlk.c3 BK6.out
  obtain ⟨c20_0, c20_1, c20_2, c20_3, c20_4, c20_5, c20_6, c20_7, c20_8, c20_9, c20_10⟩ := MBlk.c11 BK20.out
  obtain ⟨c22_0, c22_1, c22_2, c22_3, c22_4⟩ := MBlk.c5 BK22.out
  go_upto_region 15 with (fail)
  clear c6_0 c6_1 c6_2 c20_0 c20_1 c20_2 c20_3 c20_4 c20_5 c20_6 c20_7 c20_8 c20_9 c20_10 c22_0 c22_1 c22_2 c22_3 c22_4
  obtain ⟨c22_0, c22_1, c22_2, c22_3, c22_4⟩ := MBlk.c5 BK22.out
  obtain ⟨f0, f1, f2, f3, f4⟩ := MBlk.f5 BK15.out
  obtain ⟨d0, d1, d2, d3, d4⟩ := MBlk.c5 BK15.out
  go_upto_region 16 with (fail)
  clear c22_0 c22_1 c22_2 c22_3 c22_4 f0 f1 f2 f3 f4 d0 d1 d2 d3 d4
  obtain ⟨W11, hw⟩ : ∃ x, (((((W10.setCell ⟨g15, 0, none⟩ (.bool true)).setCell ⟨g15, 1, none⟩ (.int .i64 kind)).setCell ⟨g15, 2, none⟩ (.int .i64 code)).setCell ⟨g15, 3, none⟩ (.int .i64 rst)).setCell ⟨g15, 4, none⟩ (.string data)) = x := ⟨_, rfl⟩
  have hbb : Below w.heap.size w W11 := by rw [← hw]; exact below_set (below_set (below_set (below_set (below_set (HB.out) GE15.out) GE15.out) GE15.out) GE15.out) GE15.out
  have hgl := excuse_Glob_below HG0.out hbb
  have hbk := put5 BK15.out (.bool true) (.int .i64 kind) (.int .i64 code) (.int .i64 rst) (.string data)
  have hk6 := blk_far (blk_far (blk_far (blk_far (blk_far (BK6.out) (p := ⟨g15, 0, none⟩) NE6_15.out (.bool true)) (p := ⟨g15, 1, none⟩) NE6_15.out (.int .i64 kind)) (p := ⟨g15, 2, none⟩) NE6_15.out (.int .i64 code)) (p := ⟨g15, 3, none⟩) NE6_15.out (.int .i64 rst)) (p := ⟨g15, 4, none⟩) NE6_15.out (.string data)
  have hk16 := blk_far (blk_far (blk_far (blk_far (blk_far (BK16.out) (p := ⟨g15, 0, none⟩) NE15_16.out.symm (.bool true)) (p := ⟨g15, 1, none⟩) NE15_16.out.symm (.int .i64 kind)) (p := ⟨g15, 2, none⟩) NE15_16.out.symm (.int .i64 code)) (p := ⟨g15, 3, none⟩) NE15_16.out.symm (.int .i64 rst)) (p := ⟨g15, 4, none⟩) NE15_16.out.symm (.string data)
  have hk18 := blk_far (blk_far (blk_far (blk_far (blk_far (BK18.out) (p := ⟨g15, 0, none⟩) NE15_18.out.symm (.bool true)) (p := ⟨g15, 1, none⟩) NE15_18.out.symm (.int .i64 kind)) (p := ⟨g15, 2, none⟩) NE15_18.out.symm (.int .i64 code)) (p := ⟨g15, 3, none⟩) NE15_18.out.symm (.int .i64 rst)) (p := ⟨g15, 4, none⟩) NE15_18.out.symm (.string data)
  have hk20 := blk_far (blk_far (blk_far (blk_far (blk_far (BK20.out) (p := ⟨g15, 0, none⟩) NE15_20.out.symm (.bool true)) (p := ⟨g15, 1, none⟩) NE15_20.out.symm (.int .i64 kind)) (p := ⟨g15, 2, none⟩) NE15_20.out.symm (.int .i64 code)) (p := ⟨g15, 3, none⟩) NE15_20.out.symm (.int .i64 rst)) (p := ⟨g15, 4, none⟩) NE15_20.out.symm (.string data)
  have hk22 := blk_far (blk_far (blk_far (blk_far (blk_far (BK22.out) (p := ⟨g15, 0, none⟩) NE15_22.out.symm (.bool true)) (p := ⟨g15, 1, none⟩) NE15_22.out.symm (.int .i64 kind)) (p := ⟨g15, 2, none⟩) NE15_22.out.symm (.int .i64 code)) (p := ⟨g15, 3, none⟩) NE15_22.out.symm (.int .i64 rst)) (p := ⟨g15, 4, none⟩) NE15_22.out.symm (.string data)
  rw [hw] at hbk hk6 hk16 hk18 hk20 hk22 ⊢
  clear hw HB HG BK6 BK15 BK16 BK18 BK20 BK22
  have HB := Aside0.mk hbb
  have HG := Aside0.mk hgl
  have BK15 := Aside0.mk hbk
  have BK6 := Aside0.mk hk6
  have BK16 := Aside0.mk hk16
  have BK18 := Aside0.mk hk18
  have BK20 := Aside0.mk hk20
  have BK22 := Aside0.mk hk22
  clear hbb hgl hbk hk6 hk16 hk18 hk20 hk22
  obtain ⟨c20_0, c20_1, c20_2, c20_3, c20_4, c20_5, c20_6, c20_7, c20_8, c20_9, c20_10⟩ := MBlk.c11 BK20.out
  obtain ⟨f0, f1, f2⟩ := MBlk.f3 BK16.out
  obtain ⟨d0, d1, d2⟩ := MBlk.c3 BK16.out
  go_upto_region 17 with (fail)
  clear c20_0 c20_1 c20_2 c20_3 c20_4 c20_5 c20_6 c20_7 c20_8 c20_9 c20_10 f0 f1 f2 d0 d1 d2
  obtain ⟨W12, hw⟩ : ∃ x, (((W11.setCell ⟨g16, 0, none⟩ (.bool true)).setCell ⟨g16, 1, none⟩ (.int .u64 ph)).setCell ⟨g16, 2, none⟩ (.int .u64 pl)) = x := ⟨_, rfl⟩
  have hbb : Below w.heap.size w W12 := by rw [← hw]; exact below_set (below_set (below_set (HB.out) GE16.out) GE16.out) GE16.out
  have hgl := excuse_Glob_below HG0.out hbb
  have hbk := put3 BK16.out (.bool true) (.int .u64 ph) (.int .u64 pl)
  have hk6 := blk_far (blk_far (blk_far (BK6.out) (p := ⟨g16, 0, none⟩) NE6_16.out (.bool true)) (p := ⟨g16, 1, none⟩) NE6_16.out (.int .u64 ph)) (p := ⟨g16, 2, none⟩) NE6_16.out (.int .u64 pl)
  have hk15 := blk_far (blk_far (blk_far (BK15.out) (p := ⟨g16, 0, none⟩) NE15_16.out (.bool true)) (p := ⟨g16, 1, none⟩) NE15_16.out (.int .u64 ph)) (p := ⟨g16, 2, none⟩) NE15_16.out (.int .u64 pl)
  have hk18 := blk_far (blk_far (blk_far (BK18.out) (p := ⟨g16, 0, none⟩) NE16_18.out.symm (.bool true)) (p := ⟨g16, 1, none⟩) NE16_18.out.symm (.int .u64 ph)) (p := ⟨g16, 2, none⟩) NE16_18.out.symm (.int .u64 pl)
  have hk20 := blk_far (blk_far (blk_far (BK20.out) (p := ⟨g16, 0, none⟩) NE16_20.out.symm (.bool true)) (p := ⟨g16, 1, none⟩) NE16_20.out.symm (.int .u64 ph)) (p := ⟨g16, 2, none⟩) NE16_20.out.symm (.int .u64 pl)
  have hk22 := blk_far (blk_far (blk_far (BK22.out) (p := ⟨g16, 0, none⟩) NE16_22.out.symm (.bool true)) (p := ⟨g16, 1, none⟩) NE16_22.out.symm (.int .u64 ph)) (p := ⟨g16, 2, none⟩) NE16_22.out.symm (.int .u64 pl)
  rw [hw] at hbk hk6 hk15 hk18 hk20 hk22 ⊢
  clear hw HB HG BK6 BK15 BK16 BK18 BK20 BK22
  have HB := Aside0.mk hbb
  have HG := Aside0.mk hgl
  have BK16 := Aside0.mk hbk
  have BK6 := Aside0.mk hk6
  have BK15 := Aside0.mk hk15
  have BK18 := Aside0.mk hk18
  have BK20 := Aside0.mk hk20
  have BK22 := Aside0.mk hk22
  clear hbb hgl hbk hk6 hk15 hk18 hk20 hk22
  obtain ⟨c15_0, c15_1, c15_2, c15_3, c15_4⟩ := MBlk.c5 BK15.out
  obtain ⟨c16_0, c16_1, c16_2⟩ := MBlk.c3 BK16.out
  obtain ⟨c18_0, c18_1, c18_2, c18_3, c18_4, c18_5, c18_6, c18_7, c18_8, c18_9, c18_10⟩ := MBlk.c11 BK18.out
  go_upto_region 29 with (fail)
  clear c16_0 c16_1 c16_2 c18_0 c18_1 c18_2 c18_3 c18_4 c18_5 c18_6 c18_7 c18_8 c18_9 c18_10
  refine start_ (n := 31) (S := fun W => W.cell? ⟨g15, 0, none⟩ = some (.bool true) ∧ W.cell? ⟨g15, 1, none⟩ = some (.int .i64 kind) ∧ W.cell? ⟨g15, 2, none⟩ = some (.int .i64 code) ∧ W.cell? ⟨g15, 3, none⟩ = some (.int .i64 rst) ∧ W.cell? ⟨g15, 4, none⟩ = some (.string data)) (ds := []) #[false, false, false, false, false, false, false, false, false, false, false, false, false, false, false, false, false, false, false, false, false, false, false, false, false, false, false, false, false, false, false] (by kernel_rfl) rfl rfl ⟨c15_0, c15_1, c15_2, c15_3, c15_4⟩ (fun hHeld => ?_)
  refine pure_ (i := 0) (N := some 203) (v := ?_) (a' := ?_) #[true, false, false, false, false, false, false, false, false, false, false, false, false, false, false, false, false, false, false, false, false, false, false, false, false, false, false, false, false, false, false] rfl rfl (by kernel_rfl) (fun _ _ _ h => h) (Or.inl ⟨by rfl, ?_⟩) ?_ ?_
  rotate_left
  ·
   intro w'
   go_simp
   with_reducible rfl
  rotate_left
  ·
   simp only [Act.put, List.setIfInBounds_toArray, List.set_cons_zero, List.set_cons_succ, i64_w, i32_w]
   rfl
  refine pure_ (i := 1) (N := some 204) (v := ?_) (a' := ?_) #[true, true, false, false, false, false, false, false, false, false, false, false, false, false, false, false, false, false, false, false, false, false, false, false, false, false, false, false, false, false, false] rfl rfl (by kernel_rfl) (fun _ _ _ h => h) (Or.inl ⟨by rfl, ?_⟩) ?_ ?_
  rotate_left
  ·
   intro w'
   go_simp
   with_reducible rfl
  rotate_left
  ·
   simp only [Act.put, List.setIfInBounds_toArray, List.set_cons_zero, List.set_cons_succ, i64_w, i32_w]
   rfl
  refine pure_ (i := 2) (N := some 205) (v := ?_) (a' := ?_) #[true, true, true, false, false, false, false, false, false, false, false, false, false, false, false, false, false, false, false, false, false, false, false, false, false, false, false, false, false, false, false] rfl rfl (by kernel_rfl) (fun _ _ _ h => h) (Or.inl ⟨by rfl, ?_⟩) ?_ ?_
  rotate_left
  ·
   intro w'
   go_simp
   with_reducible rfl
  rotate_left
  ·
   simp only [Act.put, List.setIfInBounds_toArray, List.set_cons_zero, List.set_cons_succ, i64_w, i32_w]
   rfl
  refine pure_ (i := 3) (N := some 206) (v := ?_) (a' := ?_) #[true, true, true, true, false, false, false, false, false, false, false, false, false, false, false, false, false, false, false, false, false, false, false, false, false, false, false, false, false, false, false] rfl rfl (by kernel_rfl) (fun _ _ _ h => h) (Or.inl ⟨by rfl, ?_⟩) ?_ ?_
  rotate_left
  ·
   intro w'
   go_simp
   with_reducible rfl
  rotate_left
  ·
   simp only [Act.put, List.setIfInBounds_toArray, List.set_cons_zero, List.set_cons_succ, i64_w, i32_w]
   rfl
  refine pure_ (i := 4) (N := some 207) (v := ?_) (a' := ?_) #[true, true, true, true, true, false, false, false, false, false, false, false, false, false, false, false, false, false, false, false, false, false, false, false, false, false, false, false, false, false, false] rfl rfl (by kernel_rfl) (fun _ _ _ h => h) (Or.inl ⟨by rfl, ?_⟩) ?_ ?_
  rotate_left
  ·
   intro w'
   go_simp
   with_reducible rfl
  rotate_left
  ·
   simp only [Act.put, List.setIfInBounds_toArray, List.set_cons_zero, List.set_cons_succ, i64_w, i32_w]
   rfl
  refine pure_ (i := 5) (N := some 208) (v := ?_) (a' := ?_) #[true, true, true, true, true, true, false, false, false, false, false, false, false, false, false, false, false, false, false, false, false, false, false, false, false, false, false, false, false, false, false] rfl rfl (by kernel_rfl) (fun _ _ _ h => h) (Or.inl ⟨by rfl, ?_⟩) ?_ ?_
  rotate_left
  ·
   intro w'
   go_simp
   with_reducible rfl
  rotate_left
  ·
   simp only [Act.put, List.setIfInBounds_toArray, List.set_cons_zero, List.set_cons_succ, i64_w, i32_w]
   rfl
  refine take_ (i := 6) (N := some 209) (v := ?_) (a' := ?_) #[true, true, true, true, true, true, true, false, false, false, false, false, false, false, false, false, false, false, false, false, false, false, false, false, false, false, false, false, false, false, false] rfl rfl (by kernel_rfl) (fun _ _ _ h => h) (Or.inl ⟨by rfl, ?_⟩) hHeld ?_ ?_
  rotate_left
  ·
   rintro w' ⟨s0, s1, s2, s3, s4⟩
   go_simp
   with_reducible rfl
  rotate_left
  ·
   simp only [Act.put, List.setIfInBounds_toArray, List.set_cons_zero, List.set_cons_succ, i64_w, i32_w]
   rfl
  refine pure_ (i := 7) (N := some 210) (v := ?_) (a' := ?_) #[true, true, true, true, true, true, true, true, false, false, false, false, false, false, false, false, false, false, false, false, false, false, false, false, false, false, false, false, false, false, false] rfl rfl (by kernel_rfl) (fun _ _ _ h => h) (Or.inl ⟨by rfl, ?_⟩) ?_ ?_
  rotate_left
  ·
   intro w'
   go_simp
   with_reducible rfl
  rotate_left
  ·
   simp only [Act.put, List.setIfInBounds_toArray, List.set_cons_zero, List.set_cons_succ, i64_w, i32_w]
   rfl
  refine pure_ (i := 8) (N := some 211) (v := ?_) (a' := ?_) #[true, true, true, true, true, true, true, true, true, false, false, false, false, false, false, false, false, false, false, false, false, false, false, false, false, false, false, false, false, false, false] rfl rfl (by kernel_rfl) (fun _ _ _ h => h) (Or.inl ⟨by rfl, ?_⟩) ?_ ?_
  rotate_left
  ·
   intro w'
   go_simp
   with_reducible rfl
  rotate_left
  ·
   simp only [Act.put, List.setIfInBounds_toArray, List.set_cons_zero, List.set_cons_succ, i64_w, i32_w]
   rfl
  refine pure_ (i := 9) (N := some 212) (v := ?_) (a' := ?_) #[true, true, true, true, true, true, true, true, true, true, false, false, false, false, false, false, false, false, false, false, false, false, false, false, false, false, false, false, false, false, false] rfl rfl (by kernel_rfl) (fun _ _ _ h => h) (Or.inl ⟨by rfl, ?_⟩) ?_ ?_
  rotate_left
  ·
   intro w'
   go_simp
   with_reducible rfl
  rotate_left
  ·
   simp only [Act.put, List.setIfInBounds_toArray, List.set_cons_zero, List.set_cons_succ, i64_w, i32_w]
   rfl
  refine pure_ (i := 10) (N := some 213) (v := ?_) (a' := ?_) #[true, true, true, true, true, true, true, true, true, true, true, false, false, false, false, false, false, false, false, false, false, false, false, false, false, false, false, false, false, false, false] rfl rfl (by kernel_rfl) (fun _ _ _ h => h) (Or.inl ⟨by rfl, ?_⟩) ?_ ?_
  rotate_left
  ·
   intro w'
   go_simp
   with_reducible rfl
  rotate_left
  ·
   simp only [Act.put, List.setIfInBounds_toArray, List.set_cons_zero, List.set_cons_succ, i64_w, i32_w]
   rfl
  refine pure_ (i := 11) (N := some 214) (v := ?_) (a' := ?_) #[true, true, true, true, true, true, true, true, true, true, true, true, false, false, false, false, false, false, false, false, false, false, false, false, false, false, false, false, false, false, false] rfl rfl (by kernel_rfl) (fun _ _ _ h => h) (Or.inl ⟨by rfl, ?_⟩) ?_ ?_
  rotate_left
  ·
   intro w'
   go_simp
   with_reducible rfl
  rotate_left
  ·
   simp only [Act.put, List.setIfInBounds_toArray, List.set_cons_zero, List.set_cons_succ, i64_w, i32_w]
   rfl
  refine take_ (i := 12) (N := some 215) (v := ?_) (a' := ?_) #[true, true, true, true, true, true, true, true, true, true, true, true, true, false, false, false, false, false, false, false, false, false, false, false, false, false, false, false, false, false, false] rfl rfl (by kernel_rfl) (fun _ _ _ h => h) (Or.inl ⟨by rfl, ?_⟩) hHeld ?_ ?_
  rotate_left
  ·
   rintro w' ⟨s0, s1, s2, s3, s4⟩
   go_simp
   with_reducible rfl
  rotate_left
  ·
   simp only [Act.put, List.setIfInBounds_toArray, List.set_cons_zero, List.set_cons_succ, i64_w, i32_w]
   rfl
  refine pure_ (i := 13) (N := some 216) (v := ?_) (a' := ?_) #[true, true, true, true, true, true, true, true, true, true, true, true, true, true, false, false, false, false, false, false, false, false, false, false, false, false, false, false, false, false, false] rfl rfl (by kernel_rfl) (fun _ _ _ h => h) (Or.inl ⟨by rfl, ?_⟩) ?_ ?_
  rotate_left
  ·
   intro w'
   go_simp
   with_reducible rfl
  rotate_left
  ·
   simp only [Act.put, List.setIfInBounds_toArray, List.set_cons_zero, List.set_cons_succ, i64_w, i32_w]
   rfl
  refine pure_ (i := 14) (N := some 217) (v := ?_) (a' := ?_) #[true, true, true, true, true, true, true, true, true, true, true, true, true, true, true, false, false, false, false, false, false, false, false, false, false, false, false, false, false, false, false] rfl rfl (by kernel_rfl) (fun _ _ _ h => h) (Or.inl ⟨by rfl, ?_⟩) ?_ ?_
  rotate_left
  ·
   intro w'
   go_simp
   with_reducible rfl
  rotate_left
  ·
   simp only [Act.put, List.setIfInBounds_toArray, List.set_cons_zero, List.set_cons_succ, i64_w, i32_w]
   rfl
  refine pure_ (i := 15) (N := some 218) (v := ?_) (a' := ?_) #[true, true, true, true, true, true, true, true, true, true, true, true, true, true, true, true, false, false, false, false, false, false, false, false, false, false, false, false, false, false, false] rfl rfl (by kernel_rfl) (fun _ _ _ h => h) (Or.inl ⟨by rfl, ?_⟩) ?_ ?_
  rotate_left
  ·
   intro w'
   go_simp
   with_reducible rfl
  rotate_left
  ·
   simp only [Act.put, List.setIfInBounds_toArray, List.set_cons_zero, List.set_cons_succ, i64_w, i32_w]
   rfl
  refine pure_ (i := 16) (N := some 219) (v := ?_) (a' := ?_) #[true, true, true, true, true, true, true, true, true, true, true, true, true, true, true, true, true, false, false, false, false, false, false, false, false, false, false, false, false, false, false] rfl rfl (by kernel_rfl) (fun _ _ _ h => h) (Or.inl ⟨by rfl, ?_⟩) ?_ ?_
  rotate_left
  ·
   intro w'
   go_simp
   with_reducible rfl
  rotate_left
  ·
   simp only [Act.put, List.setIfInBounds_toArray, List.set_cons_zero, List.set_cons_succ, i64_w, i32_w]
   rfl
  refine take_ (i := 17) (N := some 220) (v := ?_) (a' := ?_) #[true, true, true, true, true, true, true, true, true, true, true, true, true, true, true, true, true, true, false, false, false, false, false, false, false, false, false, false, false, false, false] rfl rfl (by kernel_rfl) (fun _ _ _ h => h) (Or.inl ⟨by rfl, ?_⟩) hHeld ?_ ?_
  rotate_left
  ·
   rintro w' ⟨s0, s1, s2, s3, s4⟩
   go_simp
   with_reducible rfl
  rotate_left
  ·
   simp only [Act.put, List.setIfInBounds_toArray, List.set_cons_zero, List.set_cons_succ, i64_w, i32_w]
   rfl
  refine one_ (i := 18) (N := some 221) #[true, true, true, true, true, true, true, true, true, true, true, true, true, true, true, true, true, true, true, false, false, false, false, false, false, false, false, false, false, false, false] rfl rfl (by kernel_rfl) (by decide) (fun K hK => ?_)
  refine goes_ Tryd.func21 (by kernel_rfl) rfl #[.agg #[.bool true, .int .i64 kind, .int .i64 code, .int .i64 rst, .string data]] (by rfl) rfl rfl (by (try simp only [List.map_toArray, List.map_cons, List.map_nil]); first | done | rfl) ?_
  with_reducible refine (icmp_IsError.calls true kind code rst data true _ HIE.out).mono ?_
  rintro e V9 ⟨rfl, hb⟩
  refine ⟨_, rfl, ?_⟩
  have HB9 := Aside0.mk (below_step (below_drew1 HB.out) hb)
  refine hK.out _ _ ⟨pw_cell_below hb hHeld.1, pw_cell_below hb hHeld.2.1, pw_cell_below hb hHeld.2.2.1, pw_cell_below hb hHeld.2.2.2.1, pw_cell_below hb hHeld.2.2.2.2⟩ (fun hHeld => ?_)
  clear hb hK K
  refine norm_ (a' := ?_) ?_ ?_
  rotate_left
  ·
    show Act.put _ (some 221) _ = _
    simp only [Act.put, List.setIfInBounds_toArray, List.set_cons_zero, List.set_cons_succ, i64_w, i32_w]
    rfl
  refine pure_ (i := 19) (N := some 222) (v := ?_) (a' := ?_) #[true, true, true, true, true, true, true, true, true, true, true, true, true, true, true, true, true, true, true, true, false, false, false, false, false, false, false, false, false, false, false] rfl rfl (by kernel_rfl) (fun _ _ _ h => h) (Or.inl ⟨by rfl, ?_⟩) ?_ ?_
  rotate_left
  ·
   intro w'
   go_simp
   with_reducible rfl
  rotate_left
  ·
   simp only [Act.put, List.setIfInBounds_toArray, List.set_cons_zero, List.set_cons_succ, i64_w, i32_w]
   rfl
  refine pure_ (i := 20) (N := some 223) (v := ?_) (a' := ?_) #[true, true, true, true, true, true, true, true, true, true, true, true, true, true, true, true, true, true, true, true, true, false, false, false, false, false, false, false, false, false, false] rfl rfl (by kernel_rfl) (fun _ _ _ h => h) (Or.inl ⟨by rfl, ?_⟩) ?_ ?_
  rotate_left
  ·
   intro w'
   go_simp
   with_reducible rfl
  rotate_left
  ·
   simp only [Act.put, List.setIfInBounds_toArray, List.set_cons_zero, List.set_cons_succ, i64_w, i32_w]
   rfl
  refine pure_ (i := 21) (N := some 224) (v := ?_) (a' := ?_) #[true, true, true, true, true, true, true, true, true, true, true, true, true, true, true, true, true, true, true, true, true, true, false, false, false, false, false, false, false, false, false] rfl rfl (by kernel_rfl) (fun _ _ _ h => h) (Or.inl ⟨by rfl, ?_⟩) ?_ ?_
  rotate_left
  ·
   intro w'
   go_simp
   with_reducible rfl
  rotate_left
  ·
   simp only [Act.put, List.setIfInBounds_toArray, List.set_cons_zero, List.set_cons_succ, i64_w, i32_w]
   rfl
  refine take_ (i := 22) (N := some 225) (v := ?_) (a' := ?_) #[true, true, true, true, true, true, true, true, true, true, true, true, true, true, true, true, true, true, true, true, true, true, true, false, false, false, false, false, false, false, false] rfl rfl (by kernel_rfl) (fun _ _ _ h => h) (Or.inl ⟨by rfl, ?_⟩) hHeld ?_ ?_
  rotate_left
  ·
   rintro w' ⟨s0, s1, s2, s3, s4⟩
   go_simp
   with_reducible rfl
  rotate_left
  ·
   simp only [Act.put, List.setIfInBounds_toArray, List.set_cons_zero, List.set_cons_succ, i64_w, i32_w]
   rfl
  refine pure_ (i := 23) (N := some 226) (v := ?_) (a' := ?_) #[true, true, true, true, true, true, true, true, true, true, true, true, true, true, true, true, true, true, true, true, true, true, true, true, false, false, false, false, false, false, false] rfl rfl (by kernel_rfl) (fun _ _ _ h => h) (Or.inl ⟨by rfl, ?_⟩) ?_ ?_
  rotate_left
  ·
   intro w'
   go_simp
   with_reducible rfl
  rotate_left
  ·
   simp only [Act.put, List.setIfInBounds_toArray, List.set_cons_zero, List.set_cons_succ, i64_w, i32_w]
   rfl
  refine pure_ (i := 24) (N := some 227) (v := ?_) (a' := ?_) #[true, true, true, true, true, true, true, true, true, true, true, true, true, true, true, true, true, true, true, true, true, true, true, true, true, false, false, false, false, false, false] rfl rfl (by kernel_rfl) (fun _ _ _ h => h) (Or.inl ⟨by rfl, ?_⟩) ?_ ?_
  rotate_left
  ·
   intro w'
   go_simp
   with_reducible rfl
  rotate_left
  ·
   simp only [Act.put, List.setIfInBounds_toArray, List.set_cons_zero, List.set_cons_succ, i64_w, i32_w]
   rfl
  refine take_ (i := 25) (N := some 228) (v := ?_) (a' := ?_) #[true, true, true, true, true, true, true, true, true, true, true, true, true, true, true, true, true, true, true, true, true, true, true, true, true, true, false, false, false, false, false] rfl rfl (by kernel_rfl) (fun _ _ _ h => h) (Or.inl ⟨by rfl, ?_⟩) hHeld ?_ ?_
  rotate_left
  ·
   rintro w' ⟨s0, s1, s2, s3, s4⟩
   go_simp
   with_reducible rfl
  rotate_left
  ·
   simp only [Act.put, List.setIfInBounds_toArray, List.set_cons_zero, List.set_cons_succ, i64_w, i32_w]
   rfl
  refine pure_ (i := 26) (N := some 229) (v := ?_) (a' := ?_) #[true, true, true, true, true, true, true, true, true, true, true, true, true, true, true, true, true, true, true, true, true, true, true, true, true, true, true, false, false, false, false] rfl rfl (by kernel_rfl) (fun _ _ _ h => h) (Or.inl ⟨by rfl, ?_⟩) ?_ ?_
  rotate_left
  ·
   intro w'
   go_simp
   with_reducible rfl
  rotate_left
  ·
   simp only [Act.put, List.setIfInBounds_toArray, List.set_cons_zero, List.set_cons_succ, i64_w, i32_w]
   rfl
  refine pure_ (i := 27) (N := some 230) (v := ?_) (a' := ?_) #[true, true, true, true, true, true, true, true, true, true, true, true, true, true, true, true, true, true, true, true, true, true, true, true, true, true, true, true, false, false, false] rfl rfl (by kernel_rfl) (fun _ _ _ h => h) (Or.inl ⟨by rfl, ?_⟩) ?_ ?_
  rotate_left
  ·
   intro w'
   go_simp
   with_reducible rfl
  rotate_left
  ·
   simp only [Act.put, List.setIfInBounds_toArray, List.set_cons_zero, List.set_cons_succ, i64_w, i32_w]
   rfl
  refine pure_ (i := 28) (N := some 231) (v := ?_) (a' := ?_) #[true, true, true, true, true, true, true, true, true, true, true, true, true, true, true, true, true, true, true, true, true, true, true, true, true, true, true, true, true, false, false] rfl rfl (by kernel_rfl) (fun _ _ _ h => h) (Or.inl ⟨by rfl, ?_⟩) ?_ ?_
  rotate_left
  ·
   intro w'
   go_simp
   with_reducible rfl
  rotate_left
  ·
   simp only [Act.put, List.setIfInBounds_toArray, List.set_cons_zero, List.set_cons_succ, i64_w, i32_w]
   rfl
  refine pure_ (i := 29) (N := some 232) (v := ?_) (a' := ?_) #[true, true, true, true, true, true, true, true, true, true, true, true, true, true, true, true, true, true, true, true, true, true, true, true, true, true, true, true, true, true, false] rfl rfl (by kernel_rfl) (fun _ _ _ h => h) (Or.inl ⟨by rfl, ?_⟩) ?_ ?_
  rotate_left
  ·
   intro w'
   go_simp
   with_reducible rfl
  rotate_left
  ·
   simp only [Act.put, List.setIfInBounds_toArray, List.set_cons_zero, List.set_cons_succ, i64_w, i32_w]
   rfl
  refine pure_ (i := 30) (N := some 8) (v := ?_) (a' := ?_) #[true, true, true, true, true, true, true, true, true, true, true, true, true, true, true, true, true, true, true, true, true, true, true, true, true, true, true, true, true, true, true] rfl rfl (by kernel_rfl) (fun _ _ _ h => h) (Or.inl ⟨by rfl, ?_⟩) ?_ ?_
  rotate_left
  ·
   intro w'
   go_simp
   with_reducible rfl
  rotate_left
  ·
   simp only [Act.put, List.setIfInBounds_toArray, List.set_cons_zero, List.set_cons_succ, i64_w, i32_w]
   rfl
  refine done_ (by kernel_rfl) ?_
  go_wp2
  go_ret
  exact ⟨rfl, HB9.out⟩
set_option maxHeartbeats 8000000 in
set_option maxRecDepth 100000 in
theorem four_case (why : Int) (s : ByteArray) (l rest : Int) (w : World) (hg : excuse_Glob w) {S D data opts d : ByteArray} {kind code rst tos id off ttl proto pl ql z : Int} {df mf : Bool} {k0 k1 k2 k3 k4 : Nat} (HAW : Aside0 (crosswaylaw20_awake.f k0 = some true)) (HOF : Aside0 (excuse_Of.f k1 why s false 0 l rest = some (S, 0))) (HKI : Aside0 (excuse_Kind.f why false = some (kind, code, true)))
    (HTP : Aside0 (ip4_Take.f k2 s = some (tos, id, df, mf, off, ttl, proto, false, 0, pl, false, 0, ql, opts, d, 0))) (HTQ : Aside0 (ip4_Take.f k3 S = some (0, 0, false, false, 0, 64, 1, false, 0, l, false, 0, pl, ⟨#[]⟩, D, 0))) (HTM : Aside0 (icmp_Take.f k4 D false false 0 l false 0 pl = some (false, kind, code, rst, data, 0)))
    (HIE : Aside0 (icmp_IsError.f false kind code rst data = some true)) (ho : wrap64 (20 + (opts.size : Int)) = 20 + (opts.size : Int)) (hmin : (if (8 : Int) < (d.size : Int) then 8 else (d.size : Int)) = z) (hw : wrap64 (20 + (opts.size : Int) + z) = (data.size : Int)) (hle : data.size ≤ s.size) (hle2 : (data.size : Int) ≤ (s.size : Int)) (heq : (data.toList == (s.extract 0 data.size).toList) = true) :
    Calls Tryd.prog 8 #[.int .i64 why, .string s, .agg #[.bool false, .int .u64 0, .int .u64 l], .int .i64 rest] w fun e w' => e = .returned (.bool true) ∧ Below w.heap.size w w' := by
  have hu28 := Tryd.underlying28
  have HG0 := Aside0.mk hg
  have HG := Aside0.mk hg
  have HB := Aside0.mk (Below.refl w.heap.size w)
  clear hg
  go_enter Tryd.func8, Tryd.ntmps8
  go_wp2_with (first | ((with_reducible refine gate_dst (N := 6) rfl ?_); refine sh_E 6 28 #[.bool false, .int .u64 0, .int .u64 l] ?_; intro g6 hg V1 hbox hb; have BK6 := Aside0.mk hbox; replace HB := sh_S HB hb; replace HG := Aside0.mk (excuse_Glob_below HG.out hb); clear hbox hb hg) | fail)
  refine Calls.mono (crosswaylaw20_awake.calls k0 true _ HAW.out HG.out) ?_
  rintro e W2 ⟨rfl, hb⟩
  replace HB := Aside0.mk (below_step HB.out hb)
  replace HG := Aside0.mk (excuse_Glob_below HG.out hb)
  replace BK6 := Aside0.mk (blk_below BK6.out hb)
  clear hb
  obtain ⟨c6_0, c6_1, c6_2⟩ := MBlk.c3 BK6.out
  go_wp2_with fail
  refine Calls.mono (excuse_Of.calls k1 why s false 0 l rest S 0 _ HOF.out HG.out) ?_
  rintro e W3 ⟨rfl, hb⟩
  replace HB := Aside0.mk (below_step HB.out hb)
  replace HG := Aside0.mk (excuse_Glob_below HG.out hb)
  replace BK6 := Aside0.mk (blk_below BK6.out hb)
  clear hb
  clear c6_0 c6_1 c6_2
  obtain ⟨c6_0, c6_1, c6_2⟩ := MBlk.c3 BK6.out
  go_wp2_with fail
  refine Calls.mono (excuse_Kind.calls why false kind code true _ HKI.out HG.out) ?_
  rintro e W4 ⟨rfl, hb⟩
  replace HB := Aside0.mk (below_step HB.out hb)
  replace HG := Aside0.mk (excuse_Glob_below HG.out hb)
  replace BK6 := Aside0.mk (blk_below BK6.out hb)
  clear hb
  clear c6_0 c6_1 c6_2
  obtain ⟨c6_0, c6_1, c6_2⟩ := MBlk.c3 BK6.out
  go_wp2_with (first | ((with_reducible refine gate_dst (N := 15) rfl ?_); refine sh_E 15 43 #[.bool false, .int .i64 0, .int .i64 0, .int .i64 0, .string (⟨#[]⟩ : ByteArray)] ?_; intro g15 hg V15 hbox hb; have NE6_15 := Aside0.mk (show g6 ≠ g15 by have := blk_lt BK6.out; omega); have GE15 := sh_G HB hg; replace HB := sh_S HB hb; replace HG := Aside0.mk (excuse_Glob_below HG.out hb); replace BK6 := Aside0.mk (blk_below BK6.out hb); have BK15 := Aside0.mk hbox; replace c6_0 := pw_cell_below hb c6_0; replace c6_1 := pw_cell_below hb c6_1; replace c6_2 := pw_cell_below hb c6_2; clear hbox hb hg) | ((with_reducible refine gate_dst (N := 16) rfl ?_); refine sh_E 16 28 #[.bool false, .int .u64 0, .int .u64 0] ?_; intro g16 hg V16 hbox hb; have NE6_16 := Aside0.mk (show g6 ≠ g16 by have := blk_lt BK6.out; omega); have NE15_16 := Aside0.mk (show g15 ≠ g16 by have := blk_lt BK15.out; omega); have GE16 := sh_G HB hg; replace HB := sh_S HB hb; replace HG := Aside0.mk (excuse_Glob_below HG.out hb); replace BK6 := Aside0.mk (blk_below BK6.out hb); replace BK15 := Aside0.mk (blk_below BK15.out hb); have BK16 := Aside0.mk hbox; replace c6_0 := pw_cell_below hb c6_0; replace c6_1 := pw_cell_below hb c6_1; replace c6_2 := pw_cell_below hb c6_2; clear hbox hb hg) | fail)
  refine Calls.mono (ip4_Take.calls k2 s tos id df mf off ttl proto false 0 pl false 0 ql opts d 0 _ HTP.out) ?_
  rintro e W5 ⟨rfl, hb⟩
  replace HB := Aside0.mk (below_step HB.out hb)
  replace HG := Aside0.mk (excuse_Glob_below HG.out hb)
  replace BK6 := Aside0.mk (blk_below BK6.out hb)
  replace BK15 := Aside0.mk (blk_below BK15.out hb)
  replace BK16 := Aside0.mk (blk_below BK16.out hb)
  clear hb
  clear c6_0 c6_1 c6_2
  go_upto_region 21 with (first | ((with_reducible refine gate_dst (N := 24) rfl ?_); refine sh_E 24 37 #[.int .i64 0, .int .i64 0, .bool false, .bool false, .int .i64 0, .int .i64 0, .int .i64 0, .bool false, .int .u64 0, .int .u64 0, .bool false, .int .u64 0, .int .u64 0, .string (⟨#[]⟩ : ByteArray), .string (⟨#[]⟩ : ByteArray)] ?_; intro g24 hg V1 hbox hb; have HG8 := Aside0.mk hg; have BK24 := Aside0.mk hbox; have HBB := Aside0.mk hb; obtain ⟨d0, d1, d2, d3, d4, d5, d6, d7, d8, d9, d10, d11, d12, d13, d14⟩ := MBlk.c15 hbox; obtain ⟨f0, f1, f2, f3, f4, f5, f6, f7, f8, f9, f10, f11, f12, f13, f14⟩ := MBlk.f15 hbox; clear hbox hb hg) | fail)
  have NE6_24 := Aside0.mk (show g6 ≠ g24 by have := blk_lt BK6.out; have := HG8.out; omega)
  have NE15_24 := Aside0.mk (show g15 ≠ g24 by have := blk_lt BK15.out; have := HG8.out; omega)
  have NE16_24 := Aside0.mk (show g16 ≠ g24 by have := blk_lt BK16.out; have := HG8.out; omega)
  have GE24 := Aside0.mk (show w.heap.size ≤ g24 by have := HG8.out; have := HB.out.size; omega)
  have hbk := MBlk.put15 BK24.out (.int .i64 tos) (.int .i64 id) (.bool df) (.bool mf) (.int .i64 off) (.int .i64 ttl) (.int .i64 proto) (.bool false) (.int .u64 0) (.int .u64 pl) (.bool false) (.int .u64 0) (.int .u64 ql) (.string opts) (.string d)
  have h8 : W5.heap.size ≤ g24 := by have := HG8.out; omega
  obtain ⟨W6, hw⟩ : ∃ x, (((((((((((((((V1.setCell ⟨g24, 0, none⟩ (.int .i64 tos)).setCell ⟨g24, 1, none⟩ (.int .i64 id)).setCell ⟨g24, 2, none⟩ (.bool df)).setCell ⟨g24, 3, none⟩ (.bool mf)).setCell ⟨g24, 4, none⟩ (.int .i64 off)).setCell ⟨g24, 5, none⟩ (.int .i64 ttl)).setCell ⟨g24, 6, none⟩ (.int .i64 proto)).setCell ⟨g24, 7, none⟩ (.bool false)).setCell ⟨g24, 8, none⟩ (.int .u64 0)).setCell ⟨g24, 9, none⟩ (.int .u64 pl)).setCell ⟨g24, 10, none⟩ (.bool false)).setCell ⟨g24, 11, none⟩ (.int .u64 0)).setCell ⟨g24, 12, none⟩ (.int .u64 ql)).setCell ⟨g24, 13, none⟩ (.string opts)).setCell ⟨g24, 14, none⟩ (.string d)) = x := ⟨_, rfl⟩
  have hbb : Below W5.heap.size W5 W6 := by rw [← hw]; exact below_set (below_set (below_set (below_set (below_set (below_set (below_set (below_set (below_set (below_set (below_set (below_set (below_set (below_set (below_set (HBB.out) h8) h8) h8) h8) h8) h8) h8) h8) h8) h8) h8) h8) h8) h8) h8
  rw [hw] at hbk ⊢
  clear hw h8 BK24 HBB HG8 d0 d1 d2 d3 d4 d5 d6 d7 d8 d9 d10 d11 d12 d13 d14 f0 f1 f2 f3 f4 f5 f6 f7 f8 f9 f10 f11 f12 f13 f14 
  clear V1
  replace HB := Aside0.mk (below_step HB.out hbb)
  replace HG := Aside0.mk (excuse_Glob_below HG.out hbb)
  replace BK6 := Aside0.mk (blk_below BK6.out hbb)
  replace BK15 := Aside0.mk (blk_below BK15.out hbb)
  replace BK16 := Aside0.mk (blk_below BK16.out hbb)
  have BK24 := Aside0.mk hbk
  clear hbk hbb
  go_wp2_with fail
  refine Calls.mono (ip4_Take.calls k3 S 0 0 false false 0 64 1 false 0 l false 0 pl ⟨#[]⟩ D 0 _ HTQ.out) ?_
  rintro e W7 ⟨rfl, hb⟩
  replace HB := Aside0.mk (below_step HB.out hb)
  replace HG := Aside0.mk (excuse_Glob_below HG.out hb)
  replace BK6 := Aside0.mk (blk_below BK6.out hb)
  replace BK15 := Aside0.mk (blk_below BK15.out hb)
  replace BK16 := Aside0.mk (blk_below BK16.out hb)
  replace BK24 := Aside0.mk (blk_below BK24.out hb)
  clear hb
  go_upto_region 22 with (first | ((with_reducible refine gate_dst (N := 26) rfl ?_); refine sh_E 26 37 #[.int .i64 0, .int .i64 0, .bool false, .bool false, .int .i64 0, .int .i64 0, .int .i64 0, .bool false, .int .u64 0, .int .u64 0, .bool false, .int .u64 0, .int .u64 0, .string (⟨#[]⟩ : ByteArray), .string (⟨#[]⟩ : ByteArray)] ?_; intro g26 hg V1 hbox hb; have HG8 := Aside0.mk hg; have BK26 := Aside0.mk hbox; have HBB := Aside0.mk hb; obtain ⟨d0, d1, d2, d3, d4, d5, d6, d7, d8, d9, d10, d11, d12, d13, d14⟩ := MBlk.c15 hbox; obtain ⟨f0, f1, f2, f3, f4, f5, f6, f7, f8, f9, f10, f11, f12, f13, f14⟩ := MBlk.f15 hbox; clear hbox hb hg) | fail)
  have NE6_26 := Aside0.mk (show g6 ≠ g26 by have := blk_lt BK6.out; have := HG8.out; omega)
  have NE15_26 := Aside0.mk (show g15 ≠ g26 by have := blk_lt BK15.out; have := HG8.out; omega)
  have NE16_26 := Aside0.mk (show g16 ≠ g26 by have := blk_lt BK16.out; have := HG8.out; omega)
  have NE24_26 := Aside0.mk (show g24 ≠ g26 by have := blk_lt BK24.out; have := HG8.out; omega)
  have GE26 := Aside0.mk (show w.heap.size ≤ g26 by have := HG8.out; have := HB.out.size; omega)
  have hbk := MBlk.put15 BK26.out (.int .i64 0) (.int .i64 0) (.bool false) (.bool false) (.int .i64 0) (.int .i64 64) (.int .i64 1) (.bool false) (.int .u64 0) (.int .u64 l) (.bool false) (.int .u64 0) (.int .u64 pl) (.string ⟨#[]⟩) (.string D)
  have h8 : W7.heap.size ≤ g26 := by have := HG8.out; omega
  obtain ⟨W8, hw⟩ : ∃ x, (((((((((((((((V1.setCell ⟨g26, 0, none⟩ (.int .i64 0)).setCell ⟨g26, 1, none⟩ (.int .i64 0)).setCell ⟨g26, 2, none⟩ (.bool false)).setCell ⟨g26, 3, none⟩ (.bool false)).setCell ⟨g26, 4, none⟩ (.int .i64 0)).setCell ⟨g26, 5, none⟩ (.int .i64 64)).setCell ⟨g26, 6, none⟩ (.int .i64 1)).setCell ⟨g26, 7, none⟩ (.bool false)).setCell ⟨g26, 8, none⟩ (.int .u64 0)).setCell ⟨g26, 9, none⟩ (.int .u64 l)).setCell ⟨g26, 10, none⟩ (.bool false)).setCell ⟨g26, 11, none⟩ (.int .u64 0)).setCell ⟨g26, 12, none⟩ (.int .u64 pl)).setCell ⟨g26, 13, none⟩ (.string ⟨#[]⟩)).setCell ⟨g26, 14, none⟩ (.string D)) = x := ⟨_, rfl⟩
  have hbb : Below W7.heap.size W7 W8 := by rw [← hw]; exact below_set (below_set (below_set (below_set (below_set (below_set (below_set (below_set (below_set (below_set (below_set (below_set (below_set (below_set (below_set (HBB.out) h8) h8) h8) h8) h8) h8) h8) h8) h8) h8) h8) h8) h8) h8) h8
  rw [hw] at hbk ⊢
  clear hw h8 BK26 HBB HG8 d0 d1 d2 d3 d4 d5 d6 d7 d8 d9 d10 d11 d12 d13 d14 f0 f1 f2 f3 f4 f5 f6 f7 f8 f9 f10 f11 f12 f13 f14 
  clear V1
  replace HB := Aside0.mk (below_step HB.out hbb)
  replace HG := Aside0.mk (excuse_Glob_below HG.out hbb)
  replace BK6 := Aside0.mk (blk_below BK6.out hbb)
  replace BK15 := Aside0.mk (blk_below BK15.out hbb)
  replace BK16 := Aside0.mk (blk_below BK16.out hbb)
  replace BK24 := Aside0.mk (blk_below BK24.out hbb)
  have BK26 := Aside0.mk hbk
  clear hbk hbb
  obtain ⟨c26_0, c26_1, c26_2, c26_3, c26_4, c26_5, c26_6, c26_7, c26_8, c26_9, c26_10, c26_11, c26_12, c26_13, c26_14⟩ := MBlk.c15 BK26.out
  go_wp2_with fail
  refine Calls.mono (icmp_Take.calls k4 D false false 0 l false 0 pl false kind code rst data 0 _ HTM.out) ?_
  rintro e W9 ⟨rfl, hb⟩
  replace HB := Aside0.mk (below_step HB.out hb)
  replace HG := Aside0.mk (excuse_Glob_below HG.out hb)
  replace BK6 := Aside0.mk (blk_below BK6.out hb)
  replace BK15 := Aside0.mk (blk_below BK15.out hb)
  replace BK16 := Aside0.mk (blk_below BK16.out hb)
  replace BK24 := Aside0.mk (blk_below BK24.out hb)
  replace BK26 := Aside0.mk (blk_below BK26.out hb)
  clear hb
  clear c26_0 c26_1 c26_2 c26_3 c26_4 c26_5 c26_6 c26_7 c26_8 c26_9 c26_10 c26_11 c26_12 c26_13 c26_14
  go_upto_region 23 with (first | ((with_reducible refine gate_dst (N := 28) rfl ?_); refine sh_E 28 43 #[.bool false, .int .i64 0, .int .i64 0, .int .i64 0, .string (⟨#[]⟩ : ByteArray)] ?_; intro g28 hg V1 hbox hb; have HG8 := Aside0.mk hg; have BK28 := Aside0.mk hbox; have HBB := Aside0.mk hb; obtain ⟨d0, d1, d2, d3, d4⟩ := MBlk.c5 hbox; obtain ⟨f0, f1, f2, f3, f4⟩ := MBlk.f5 hbox; clear hbox hb hg) | fail)
  have NE6_28 := Aside0.mk (show g6 ≠ g28 by have := blk_lt BK6.out; have := HG8.out; omega)
  have NE15_28 := Aside0.mk (show g15 ≠ g28 by have := blk_lt BK15.out; have := HG8.out; omega)
  have NE16_28 := Aside0.mk (show g16 ≠ g28 by have := blk_lt BK16.out; have := HG8.out; omega)
  have NE24_28 := Aside0.mk (show g24 ≠ g28 by have := blk_lt BK24.out; have := HG8.out; omega)
  have NE26_28 := Aside0.mk (show g26 ≠ g28 by have := blk_lt BK26.out; have := HG8.out; omega)
  have GE28 := Aside0.mk (show w.heap.size ≤ g28 by have := HG8.out; have := HB.out.size; omega)
  have hbk := put5 BK28.out (.bool false) (.int .i64 kind) (.int .i64 code) (.int .i64 rst) (.string data)
  have h8 : W9.heap.size ≤ g28 := by have := HG8.out; omega
  obtain ⟨W10, hw⟩ : ∃ x, (((((V1.setCell ⟨g28, 0, none⟩ (.bool false)).setCell ⟨g28, 1, none⟩ (.int .i64 kind)).setCell ⟨g28, 2, none⟩ (.int .i64 code)).setCell ⟨g28, 3, none⟩ (.int .i64 rst)).setCell ⟨g28, 4, none⟩ (.string data)) = x := ⟨_, rfl⟩
  have hbb : Below W9.heap.size W9 W10 := by rw [← hw]; exact below_set (below_set (below_set (below_set (below_set (HBB.out) h8) h8) h8) h8) h8
  rw [hw] at hbk ⊢
  clear hw h8 BK28 HBB HG8 d0 d1 d2 d3 d4 f0 f1 f2 f3 f4 
  clear V1
  replace HB := Aside0.mk (below_step HB.out hbb)
  replace HG := Aside0.mk (excuse_Glob_below HG.out hbb)
  replace BK6 := Aside0.mk (blk_below BK6.out hbb)
  replace BK15 := Aside0.mk (blk_below BK15.out hbb)
  replace BK16 := Aside0.mk (blk_below BK16.out hbb)
  replace BK24 := Aside0.mk (blk_below BK24.out hbb)
  replace BK26 := Aside0.mk (blk_below BK26.out hbb)
  have BK28 := Aside0.mk hbk
  clear hbk hbb
  obtain ⟨c6_0, c6_1, c6_2⟩ := MBlk.c3 BK6.out
  obtain ⟨c26_0, c26_1, c26_2, c26_3, c26_4, c26_5, c26_6, c26_7, c26_8, c26_9, c26_10, c26_11, c26_12, c26_13, c26_14⟩ := MBlk.c15 BK26.out
  obtain ⟨c28_0, c28_1, c28_2, c28_3, c28_4⟩ := MBlk.c5 BK28.out
  go_upto_region 25 with (fail)
  clear c6_0 c6_1 c6_2 c26_0 c26_1 c26_2 c26_3 c26_4 c26_5 c26_6 c26_7 c26_8 c26_9 c26_10 c26_11 c26_12 c26_13 c26_14 c28_0 c28_1 c28_2 c28_3 c28_4
  obtain ⟨c28_0, c28_1, c28_2, c28_3, c28_4⟩ := MBlk.c5 BK28.out
  obtain ⟨f0, f1, f2, f3, f4⟩ := MBlk.f5 BK15.out
  obtain ⟨d0, d1, d2, d3, d4⟩ := MBlk.c5 BK15.out
  go_upto_region 26 with (fail)
  clear c28_0 c28_1 c28_2 c28_3 c28_4 f0 f1 f2 f3 f4 d0 d1 d2 d3 d4
  obtain ⟨W11, hw⟩ : ∃ x, (((((W10.setCell ⟨g15, 0, none⟩ (.bool false)).setCell ⟨g15, 1, none⟩ (.int .i64 kind)).setCell ⟨g15, 2, none⟩ (.int .i64 code)).setCell ⟨g15, 3, none⟩ (.int .i64 rst)).setCell ⟨g15, 4, none⟩ (.string data)) = x := ⟨_, rfl⟩
  have hbb : Below w.heap.size w W11 := by rw [← hw]; exact below_set (below_set (below_set (below_set (below_set (HB.out) GE15.out) GE15.out) GE15.out) GE15.out) GE15.out
  have hgl := excuse_Glob_below HG0.out hbb
  have hbk := put5 BK15.out (.bool false) (.int .i64 kind) (.int .i64 code) (.int .i64 rst) (.string data)
  have hk6 := blk_far (blk_far (blk_far (blk_far (blk_far (BK6.out) (p := ⟨g15, 0, none⟩) NE6_15.out (.bool false)) (p := ⟨g15, 1, none⟩) NE6_15.out (.int .i64 kind)) (p := ⟨g15, 2, none⟩) NE6_15.out (.int .i64 code)) (p := ⟨g15, 3, none⟩) NE6_15.out (.int .i64 rst)) (p := ⟨g15, 4, none⟩) NE6_15.out (.string data)
  have hk16 := blk_far (blk_far (blk_far (blk_far (blk_far (BK16.out) (p := ⟨g15, 0, none⟩) NE15_16.out.symm (.bool false)) (p := ⟨g15, 1, none⟩) NE15_16.out.symm (.int .i64 kind)) (p := ⟨g15, 2, none⟩) NE15_16.out.symm (.int .i64 code)) (p := ⟨g15, 3, none⟩) NE15_16.out.symm (.int .i64 rst)) (p := ⟨g15, 4, none⟩) NE15_16.out.symm (.string data)
  have hk24 := blk_far (blk_far (blk_far (blk_far (blk_far (BK24.out) (p := ⟨g15, 0, none⟩) NE15_24.out.symm (.bool false)) (p := ⟨g15, 1, none⟩) NE15_24.out.symm (.int .i64 kind)) (p := ⟨g15, 2, none⟩) NE15_24.out.symm (.int .i64 code)) (p := ⟨g15, 3, none⟩) NE15_24.out.symm (.int .i64 rst)) (p := ⟨g15, 4, none⟩) NE15_24.out.symm (.string data)
  have hk26 := blk_far (blk_far (blk_far (blk_far (blk_far (BK26.out) (p := ⟨g15, 0, none⟩) NE15_26.out.symm (.bool false)) (p := ⟨g15, 1, none⟩) NE15_26.out.symm (.int .i64 kind)) (p := ⟨g15, 2, none⟩) NE15_26.out.symm (.int .i64 code)) (p := ⟨g15, 3, none⟩) NE15_26.out.symm (.int .i64 rst)) (p := ⟨g15, 4, none⟩) NE15_26.out.symm (.string data)
  have hk28 := blk_far (blk_far (blk_far (blk_far (blk_far (BK28.out) (p := ⟨g15, 0, none⟩) NE15_28.out.symm (.bool false)) (p := ⟨g15, 1, none⟩) NE15_28.out.symm (.int .i64 kind)) (p := ⟨g15, 2, none⟩) NE15_28.out.symm (.int .i64 code)) (p := ⟨g15, 3, none⟩) NE15_28.out.symm (.int .i64 rst)) (p := ⟨g15, 4, none⟩) NE15_28.out.symm (.string data)
  rw [hw] at hbk hk6 hk16 hk24 hk26 hk28 ⊢
  clear hw HB HG BK6 BK15 BK16 BK24 BK26 BK28
  have HB := Aside0.mk hbb
  have HG := Aside0.mk hgl
  have BK15 := Aside0.mk hbk
  have BK6 := Aside0.mk hk6
  have BK16 := Aside0.mk hk16
  have BK24 := Aside0.mk hk24
  have BK26 := Aside0.mk hk26
  have BK28 := Aside0.mk hk28
  clear hbb hgl hbk hk6 hk16 hk24 hk26 hk28
  obtain ⟨c26_0, c26_1, c26_2, c26_3, c26_4, c26_5, c26_6, c26_7, c26_8, c26_9, c26_10, c26_11, c26_12, c26_13, c26_14⟩ := MBlk.c15 BK26.out
  obtain ⟨f0, f1, f2⟩ := MBlk.f3 BK16.out
  obtain ⟨d0, d1, d2⟩ := MBlk.c3 BK16.out
  go_upto_region 27 with (fail)
  clear c26_0 c26_1 c26_2 c26_3 c26_4 c26_5 c26_6 c26_7 c26_8 c26_9 c26_10 c26_11 c26_12 c26_13 c26_14 f0 f1 f2 d0 d1 d2
  obtain ⟨W12, hw⟩ : ∃ x, (((W11.setCell ⟨g16, 0, none⟩ (.bool false)).setCell ⟨g16, 1, none⟩ (.int .u64 0)).setCell ⟨g16, 2, none⟩ (.int .u64 pl)) = x := ⟨_, rfl⟩
  have hbb : Below w.heap.size w W12 := by rw [← hw]; exact below_set (below_set (below_set (HB.out) GE16.out) GE16.out) GE16.out
  have hgl := excuse_Glob_below HG0.out hbb
  have hbk := put3 BK16.out (.bool false) (.int .u64 0) (.int .u64 pl)
  have hk6 := blk_far (blk_far (blk_far (BK6.out) (p := ⟨g16, 0, none⟩) NE6_16.out (.bool false)) (p := ⟨g16, 1, none⟩) NE6_16.out (.int .u64 0)) (p := ⟨g16, 2, none⟩) NE6_16.out (.int .u64 pl)
  have hk15 := blk_far (blk_far (blk_far (BK15.out) (p := ⟨g16, 0, none⟩) NE15_16.out (.bool false)) (p := ⟨g16, 1, none⟩) NE15_16.out (.int .u64 0)) (p := ⟨g16, 2, none⟩) NE15_16.out (.int .u64 pl)
  have hk24 := blk_far (blk_far (blk_far (BK24.out) (p := ⟨g16, 0, none⟩) NE16_24.out.symm (.bool false)) (p := ⟨g16, 1, none⟩) NE16_24.out.symm (.int .u64 0)) (p := ⟨g16, 2, none⟩) NE16_24.out.symm (.int .u64 pl)
  have hk26 := blk_far (blk_far (blk_far (BK26.out) (p := ⟨g16, 0, none⟩) NE16_26.out.symm (.bool false)) (p := ⟨g16, 1, none⟩) NE16_26.out.symm (.int .u64 0)) (p := ⟨g16, 2, none⟩) NE16_26.out.symm (.int .u64 pl)
  have hk28 := blk_far (blk_far (blk_far (BK28.out) (p := ⟨g16, 0, none⟩) NE16_28.out.symm (.bool false)) (p := ⟨g16, 1, none⟩) NE16_28.out.symm (.int .u64 0)) (p := ⟨g16, 2, none⟩) NE16_28.out.symm (.int .u64 pl)
  rw [hw] at hbk hk6 hk15 hk24 hk26 hk28 ⊢
  clear hw HB HG BK6 BK15 BK16 BK24 BK26 BK28
  have HB := Aside0.mk hbb
  have HG := Aside0.mk hgl
  have BK16 := Aside0.mk hbk
  have BK6 := Aside0.mk hk6
  have BK15 := Aside0.mk hk15
  have BK24 := Aside0.mk hk24
  have BK26 := Aside0.mk hk26
  have BK28 := Aside0.mk hk28
  clear hbb hgl hbk hk6 hk15 hk24 hk26 hk28
  obtain ⟨c15_0, c15_1, c15_2, c15_3, c15_4⟩ := MBlk.c5 BK15.out
  obtain ⟨c16_0, c16_1, c16_2⟩ := MBlk.c3 BK16.out
  obtain ⟨c24_0, c24_1, c24_2, c24_3, c24_4, c24_5, c24_6, c24_7, c24_8, c24_9, c24_10, c24_11, c24_12, c24_13, c24_14⟩ := MBlk.c15 BK24.out
  go_upto_region 29 with (fail)
  clear c16_0 c16_1 c16_2 c24_0 c24_1 c24_2 c24_3 c24_4 c24_5 c24_6 c24_7 c24_8 c24_9 c24_10 c24_11 c24_12 c24_13 c24_14
  refine start_ (n := 31) (S := fun W => W.cell? ⟨g15, 0, none⟩ = some (.bool false) ∧ W.cell? ⟨g15, 1, none⟩ = some (.int .i64 kind) ∧ W.cell? ⟨g15, 2, none⟩ = some (.int .i64 code) ∧ W.cell? ⟨g15, 3, none⟩ = some (.int .i64 rst) ∧ W.cell? ⟨g15, 4, none⟩ = some (.string data)) (ds := []) #[false, false, false, false, false, false, false, false, false, false, false, false, false, false, false, false, false, false, false, false, false, false, false, false, false, false, false, false, false, false, false] (by kernel_rfl) rfl rfl ⟨c15_0, c15_1, c15_2, c15_3, c15_4⟩ (fun hHeld => ?_)
  refine pure_ (i := 0) (N := some 203) (v := ?_) (a' := ?_) #[true, false, false, false, false, false, false, false, false, false, false, false, false, false, false, false, false, false, false, false, false, false, false, false, false, false, false, false, false, false, false] rfl rfl (by kernel_rfl) (fun _ _ _ h => h) (Or.inl ⟨by rfl, ?_⟩) ?_ ?_
  rotate_left
  ·
   intro w'
   go_simp
   with_reducible rfl
  rotate_left
  ·
   simp only [Act.put, List.setIfInBounds_toArray, List.set_cons_zero, List.set_cons_succ, i64_w, i32_w]
   rfl
  refine pure_ (i := 1) (N := some 204) (v := ?_) (a' := ?_) #[true, true, false, false, false, false, false, false, false, false, false, false, false, false, false, false, false, false, false, false, false, false, false, false, false, false, false, false, false, false, false] rfl rfl (by kernel_rfl) (fun _ _ _ h => h) (Or.inl ⟨by rfl, ?_⟩) ?_ ?_
  rotate_left
  ·
   intro w'
   go_simp
   with_reducible rfl
  rotate_left
  ·
   simp only [Act.put, List.setIfInBounds_toArray, List.set_cons_zero, List.set_cons_succ, i64_w, i32_w]
   rfl
  refine pure_ (i := 2) (N := some 205) (v := ?_) (a' := ?_) #[true, true, true, false, false, false, false, false, false, false, false, false, false, false, false, false, false, false, false, false, false, false, false, false, false, false, false, false, false, false, false] rfl rfl (by kernel_rfl) (fun _ _ _ h => h) (Or.inl ⟨by rfl, ?_⟩) ?_ ?_
  rotate_left
  ·
   intro w'
   go_simp
   with_reducible rfl
  rotate_left
  ·
   simp only [Act.put, List.setIfInBounds_toArray, List.set_cons_zero, List.set_cons_succ, i64_w, i32_w]
   rfl
  refine pure_ (i := 3) (N := some 206) (v := ?_) (a' := ?_) #[true, true, true, true, false, false, false, false, false, false, false, false, false, false, false, false, false, false, false, false, false, false, false, false, false, false, false, false, false, false, false] rfl rfl (by kernel_rfl) (fun _ _ _ h => h) (Or.inl ⟨by rfl, ?_⟩) ?_ ?_
  rotate_left
  ·
   intro w'
   go_simp
   with_reducible rfl
  rotate_left
  ·
   simp only [Act.put, List.setIfInBounds_toArray, List.set_cons_zero, List.set_cons_succ, i64_w, i32_w]
   rfl
  refine pure_ (i := 4) (N := some 207) (v := ?_) (a' := ?_) #[true, true, true, true, true, false, false, false, false, false, false, false, false, false, false, false, false, false, false, false, false, false, false, false, false, false, false, false, false, false, false] rfl rfl (by kernel_rfl) (fun _ _ _ h => h) (Or.inl ⟨by rfl, ?_⟩) ?_ ?_
  rotate_left
  ·
   intro w'
   go_simp
   with_reducible rfl
  rotate_left
  ·
   simp only [Act.put, List.setIfInBounds_toArray, List.set_cons_zero, List.set_cons_succ, i64_w, i32_w]
   rfl
  refine pure_ (i := 5) (N := some 208) (v := ?_) (a' := ?_) #[true, true, true, true, true, true, false, false, false, false, false, false, false, false, false, false, false, false, false, false, false, false, false, false, false, false, false, false, false, false, false] rfl rfl (by kernel_rfl) (fun _ _ _ h => h) (Or.inl ⟨by rfl, ?_⟩) ?_ ?_
  rotate_left
  ·
   intro w'
   go_simp
   with_reducible rfl
  rotate_left
  ·
   simp only [Act.put, List.setIfInBounds_toArray, List.set_cons_zero, List.set_cons_succ, i64_w, i32_w]
   rfl
  refine take_ (i := 6) (N := some 209) (v := ?_) (a' := ?_) #[true, true, true, true, true, true, true, false, false, false, false, false, false, false, false, false, false, false, false, false, false, false, false, false, false, false, false, false, false, false, false] rfl rfl (by kernel_rfl) (fun _ _ _ h => h) (Or.inl ⟨by rfl, ?_⟩) hHeld ?_ ?_
  rotate_left
  ·
   rintro w' ⟨s0, s1, s2, s3, s4⟩
   go_simp
   with_reducible rfl
  rotate_left
  ·
   simp only [Act.put, List.setIfInBounds_toArray, List.set_cons_zero, List.set_cons_succ, i64_w, i32_w]
   rfl
  refine pure_ (i := 7) (N := some 210) (v := ?_) (a' := ?_) #[true, true, true, true, true, true, true, true, false, false, false, false, false, false, false, false, false, false, false, false, false, false, false, false, false, false, false, false, false, false, false] rfl rfl (by kernel_rfl) (fun _ _ _ h => h) (Or.inl ⟨by rfl, ?_⟩) ?_ ?_
  rotate_left
  ·
   intro w'
   go_simp
   with_reducible rfl
  rotate_left
  ·
   simp only [Act.put, List.setIfInBounds_toArray, List.set_cons_zero, List.set_cons_succ, i64_w, i32_w]
   rfl
  refine pure_ (i := 8) (N := some 211) (v := ?_) (a' := ?_) #[true, true, true, true, true, true, true, true, true, false, false, false, false, false, false, false, false, false, false, false, false, false, false, false, false, false, false, false, false, false, false] rfl rfl (by kernel_rfl) (fun _ _ _ h => h) (Or.inl ⟨by rfl, ?_⟩) ?_ ?_
  rotate_left
  ·
   intro w'
   go_simp
   with_reducible rfl
  rotate_left
  ·
   simp only [Act.put, List.setIfInBounds_toArray, List.set_cons_zero, List.set_cons_succ, i64_w, i32_w]
   rfl
  refine pure_ (i := 9) (N := some 212) (v := ?_) (a' := ?_) #[true, true, true, true, true, true, true, true, true, true, false, false, false, false, false, false, false, false, false, false, false, false, false, false, false, false, false, false, false, false, false] rfl rfl (by kernel_rfl) (fun _ _ _ h => h) (Or.inl ⟨by rfl, ?_⟩) ?_ ?_
  rotate_left
  ·
   intro w'
   go_simp
   with_reducible rfl
  rotate_left
  ·
   simp only [Act.put, List.setIfInBounds_toArray, List.set_cons_zero, List.set_cons_succ, i64_w, i32_w]
   rfl
  refine pure_ (i := 10) (N := some 213) (v := ?_) (a' := ?_) #[true, true, true, true, true, true, true, true, true, true, true, false, false, false, false, false, false, false, false, false, false, false, false, false, false, false, false, false, false, false, false] rfl rfl (by kernel_rfl) (fun _ _ _ h => h) (Or.inl ⟨by rfl, ?_⟩) ?_ ?_
  rotate_left
  ·
   intro w'
   go_simp
   with_reducible rfl
  rotate_left
  ·
   simp only [Act.put, List.setIfInBounds_toArray, List.set_cons_zero, List.set_cons_succ, i64_w, i32_w]
   rfl
  refine pure_ (i := 11) (N := some 214) (v := ?_) (a' := ?_) #[true, true, true, true, true, true, true, true, true, true, true, true, false, false, false, false, false, false, false, false, false, false, false, false, false, false, false, false, false, false, false] rfl rfl (by kernel_rfl) (fun _ _ _ h => h) (Or.inl ⟨by rfl, ?_⟩) ?_ ?_
  rotate_left
  ·
   intro w'
   go_simp
   with_reducible rfl
  rotate_left
  ·
   simp only [Act.put, List.setIfInBounds_toArray, List.set_cons_zero, List.set_cons_succ, i64_w, i32_w]
   rfl
  refine take_ (i := 12) (N := some 215) (v := ?_) (a' := ?_) #[true, true, true, true, true, true, true, true, true, true, true, true, true, false, false, false, false, false, false, false, false, false, false, false, false, false, false, false, false, false, false] rfl rfl (by kernel_rfl) (fun _ _ _ h => h) (Or.inl ⟨by rfl, ?_⟩) hHeld ?_ ?_
  rotate_left
  ·
   rintro w' ⟨s0, s1, s2, s3, s4⟩
   go_simp
   with_reducible rfl
  rotate_left
  ·
   simp only [Act.put, List.setIfInBounds_toArray, List.set_cons_zero, List.set_cons_succ, i64_w, i32_w]
   rfl
  refine pure_ (i := 13) (N := some 216) (v := ?_) (a' := ?_) #[true, true, true, true, true, true, true, true, true, true, true, true, true, true, false, false, false, false, false, false, false, false, false, false, false, false, false, false, false, false, false] rfl rfl (by kernel_rfl) (fun _ _ _ h => h) (Or.inl ⟨by rfl, ?_⟩) ?_ ?_
  rotate_left
  ·
   intro w'
   go_simp
   with_reducible rfl
  rotate_left
  ·
   simp only [Act.put, List.setIfInBounds_toArray, List.set_cons_zero, List.set_cons_succ, i64_w, i32_w]
   rfl
  refine pure_ (i := 14) (N := some 217) (v := ?_) (a' := ?_) #[true, true, true, true, true, true, true, true, true, true, true, true, true, true, true, false, false, false, false, false, false, false, false, false, false, false, false, false, false, false, false] rfl rfl (by kernel_rfl) (fun _ _ _ h => h) (Or.inl ⟨by rfl, ?_⟩) ?_ ?_
  rotate_left
  ·
   intro w'
   go_simp
   with_reducible rfl
  rotate_left
  ·
   simp only [Act.put, List.setIfInBounds_toArray, List.set_cons_zero, List.set_cons_succ, i64_w, i32_w]
   rfl
  refine pure_ (i := 15) (N := some 218) (v := ?_) (a' := ?_) #[true, true, true, true, true, true, true, true, true, true, true, true, true, true, true, true, false, false, false, false, false, false, false, false, false, false, false, false, false, false, false] rfl rfl (by kernel_rfl) (fun _ _ _ h => h) (Or.inl ⟨by rfl, ?_⟩) ?_ ?_
  rotate_left
  ·
   intro w'
   go_simp
   with_reducible rfl
  rotate_left
  ·
   simp only [Act.put, List.setIfInBounds_toArray, List.set_cons_zero, List.set_cons_succ, i64_w, i32_w]
   rfl
  refine pure_ (i := 16) (N := some 219) (v := ?_) (a' := ?_) #[true, true, true, true, true, true, true, true, true, true, true, true, true, true, true, true, true, false, false, false, false, false, false, false, false, false, false, false, false, false, false] rfl rfl (by kernel_rfl) (fun _ _ _ h => h) (Or.inl ⟨by rfl, ?_⟩) ?_ ?_
  rotate_left
  ·
   intro w'
   go_simp
   with_reducible rfl
  rotate_left
  ·
   simp only [Act.put, List.setIfInBounds_toArray, List.set_cons_zero, List.set_cons_succ, i64_w, i32_w]
   rfl
  refine take_ (i := 17) (N := some 220) (v := ?_) (a' := ?_) #[true, true, true, true, true, true, true, true, true, true, true, true, true, true, true, true, true, true, false, false, false, false, false, false, false, false, false, false, false, false, false] rfl rfl (by kernel_rfl) (fun _ _ _ h => h) (Or.inl ⟨by rfl, ?_⟩) hHeld ?_ ?_
  rotate_left
  ·
   rintro w' ⟨s0, s1, s2, s3, s4⟩
   go_simp
   with_reducible rfl
  rotate_left
  ·
   simp only [Act.put, List.setIfInBounds_toArray, List.set_cons_zero, List.set_cons_succ, i64_w, i32_w]
   rfl
  refine one_ (i := 18) (N := some 221) #[true, true, true, true, true, true, true, true, true, true, true, true, true, true, true, true, true, true, true, false, false, false, false, false, false, false, false, false, false, false, false] rfl rfl (by kernel_rfl) (by decide) (fun K hK => ?_)
  refine goes_ Tryd.func21 (by kernel_rfl) rfl #[.agg #[.bool false, .int .i64 kind, .int .i64 code, .int .i64 rst, .string data]] (by rfl) rfl rfl (by (try simp only [List.map_toArray, List.map_cons, List.map_nil]); first | done | rfl) ?_
  with_reducible refine (icmp_IsError.calls false kind code rst data true _ HIE.out).mono ?_
  rintro e V9 ⟨rfl, hb⟩
  refine ⟨_, rfl, ?_⟩
  have HB9 := Aside0.mk (below_step (below_drew1 HB.out) hb)
  refine hK.out _ _ ⟨pw_cell_below hb hHeld.1, pw_cell_below hb hHeld.2.1, pw_cell_below hb hHeld.2.2.1, pw_cell_below hb hHeld.2.2.2.1, pw_cell_below hb hHeld.2.2.2.2⟩ (fun hHeld => ?_)
  clear hb hK K
  refine norm_ (a' := ?_) ?_ ?_
  rotate_left
  ·
    show Act.put _ (some 221) _ = _
    simp only [Act.put, List.setIfInBounds_toArray, List.set_cons_zero, List.set_cons_succ, i64_w, i32_w]
    rfl
  refine pure_ (i := 19) (N := some 222) (v := ?_) (a' := ?_) #[true, true, true, true, true, true, true, true, true, true, true, true, true, true, true, true, true, true, true, true, false, false, false, false, false, false, false, false, false, false, false] rfl rfl (by kernel_rfl) (fun _ _ _ h => h) (Or.inl ⟨by rfl, ?_⟩) ?_ ?_
  rotate_left
  ·
   intro w'
   go_simp
   with_reducible rfl
  rotate_left
  ·
   simp only [Act.put, List.setIfInBounds_toArray, List.set_cons_zero, List.set_cons_succ, i64_w, i32_w]
   rfl
  refine pure_ (i := 20) (N := some 223) (v := ?_) (a' := ?_) #[true, true, true, true, true, true, true, true, true, true, true, true, true, true, true, true, true, true, true, true, true, false, false, false, false, false, false, false, false, false, false] rfl rfl (by kernel_rfl) (fun _ _ _ h => h) (Or.inl ⟨by rfl, ?_⟩) ?_ ?_
  rotate_left
  ·
   intro w'
   go_simp
   with_reducible rfl
  rotate_left
  ·
   simp only [Act.put, List.setIfInBounds_toArray, List.set_cons_zero, List.set_cons_succ, i64_w, i32_w]
   rfl
  refine pure_ (i := 21) (N := some 224) (v := ?_) (a' := ?_) #[true, true, true, true, true, true, true, true, true, true, true, true, true, true, true, true, true, true, true, true, true, true, false, false, false, false, false, false, false, false, false] rfl rfl (by kernel_rfl) (fun _ _ _ h => h) (Or.inl ⟨by rfl, ?_⟩) ?_ ?_
  rotate_left
  ·
   intro w'
   go_simp
   with_reducible rfl
  rotate_left
  ·
   simp only [Act.put, List.setIfInBounds_toArray, List.set_cons_zero, List.set_cons_succ, i64_w, i32_w]
   rfl
  refine take_ (i := 22) (N := some 225) (v := ?_) (a' := ?_) #[true, true, true, true, true, true, true, true, true, true, true, true, true, true, true, true, true, true, true, true, true, true, true, false, false, false, false, false, false, false, false] rfl rfl (by kernel_rfl) (fun _ _ _ h => h) (Or.inl ⟨by rfl, ?_⟩) hHeld ?_ ?_
  rotate_left
  ·
   rintro w' ⟨s0, s1, s2, s3, s4⟩
   go_simp
   with_reducible rfl
  rotate_left
  ·
   simp only [Act.put, List.setIfInBounds_toArray, List.set_cons_zero, List.set_cons_succ, i64_w, i32_w]
   rfl
  refine pure_ (i := 23) (N := some 226) (v := ?_) (a' := ?_) #[true, true, true, true, true, true, true, true, true, true, true, true, true, true, true, true, true, true, true, true, true, true, true, true, false, false, false, false, false, false, false] rfl rfl (by kernel_rfl) (fun _ _ _ h => h) (Or.inl ⟨by rfl, ?_⟩) ?_ ?_
  rotate_left
  ·
   intro w'
   go_simp
   with_reducible rfl
  rotate_left
  ·
   simp only [Act.put, List.setIfInBounds_toArray, List.set_cons_zero, List.set_cons_succ, i64_w, i32_w]
   rfl
  refine pure_ (i := 24) (N := some 227) (v := ?_) (a' := ?_) #[true, true, true, true, true, true, true, true, true, true, true, true, true, true, true, true, true, true, true, true, true, true, true, true, true, false, false, false, false, false, false] rfl rfl (by kernel_rfl) (fun _ _ _ h => h) (Or.inl ⟨by rfl, ?_⟩) ?_ ?_
  rotate_left
  ·
   intro w'
   go_simp
   with_reducible rfl
  rotate_left
  ·
   simp only [Act.put, List.setIfInBounds_toArray, List.set_cons_zero, List.set_cons_succ, i64_w, i32_w]
   rfl
  refine take_ (i := 25) (N := some 228) (v := ?_) (a' := ?_) #[true, true, true, true, true, true, true, true, true, true, true, true, true, true, true, true, true, true, true, true, true, true, true, true, true, true, false, false, false, false, false] rfl rfl (by kernel_rfl) (fun _ _ _ h => h) (Or.inl ⟨by rfl, ?_⟩) hHeld ?_ ?_
  rotate_left
  ·
   rintro w' ⟨s0, s1, s2, s3, s4⟩
   go_simp
   with_reducible rfl
  rotate_left
  ·
   simp only [Act.put, List.setIfInBounds_toArray, List.set_cons_zero, List.set_cons_succ, i64_w, i32_w]
   rfl
  refine pure_ (i := 26) (N := some 229) (v := ?_) (a' := ?_) #[true, true, true, true, true, true, true, true, true, true, true, true, true, true, true, true, true, true, true, true, true, true, true, true, true, true, true, false, false, false, false] rfl rfl (by kernel_rfl) (fun _ _ _ h => h) (Or.inl ⟨by rfl, ?_⟩) ?_ ?_
  rotate_left
  ·
   intro w'
   go_simp
   with_reducible rfl
  rotate_left
  ·
   simp only [Act.put, List.setIfInBounds_toArray, List.set_cons_zero, List.set_cons_succ, i64_w, i32_w]
   rfl
  refine pure_ (i := 27) (N := some 230) (v := ?_) (a' := ?_) #[true, true, true, true, true, true, true, true, true, true, true, true, true, true, true, true, true, true, true, true, true, true, true, true, true, true, true, true, false, false, false] rfl rfl (by kernel_rfl) (fun _ _ _ h => h) (Or.inl ⟨by rfl, ?_⟩) ?_ ?_
  rotate_left
  ·
   intro w'
   go_simp
   with_reducible rfl
  rotate_left
  ·
   simp only [Act.put, List.setIfInBounds_toArray, List.set_cons_zero, List.set_cons_succ, i64_w, i32_w]
   rfl
  refine pure_ (i := 28) (N := some 231) (v := ?_) (a' := ?_) #[true, true, true, true, true, true, true, true, true, true, true, true, true, true, true, true, true, true, true, true, true, true, true, true, true, true, true, true, true, false, false] rfl rfl (by kernel_rfl) (fun _ _ _ h => h) (Or.inl ⟨by rfl, ?_⟩) ?_ ?_
  rotate_left
  ·
   intro w'
   go_simp
   with_reducible rfl
  rotate_left
  ·
   simp only [Act.put, List.setIfInBounds_toArray, List.set_cons_zero, List.set_cons_succ, i64_w, i32_w]
   rfl
  refine pure_ (i := 29) (N := some 232) (v := ?_) (a' := ?_) #[true, true, true, true, true, true, true, true, true, true, true, true, true, true, true, true, true, true, true, true, true, true, true, true, true, true, true, true, true, true, false] rfl rfl (by kernel_rfl) (fun _ _ _ h => h) (Or.inl ⟨by rfl, ?_⟩) ?_ ?_
  rotate_left
  ·
   intro w'
   go_simp
   with_reducible rfl
  rotate_left
  ·
   simp only [Act.put, List.setIfInBounds_toArray, List.set_cons_zero, List.set_cons_succ, i64_w, i32_w]
   rfl
  refine pure_ (i := 30) (N := some 8) (v := ?_) (a' := ?_) #[true, true, true, true, true, true, true, true, true, true, true, true, true, true, true, true, true, true, true, true, true, true, true, true, true, true, true, true, true, true, true] rfl rfl (by kernel_rfl) (fun _ _ _ h => h) (Or.inl ⟨by rfl, ?_⟩) ?_ ?_
  rotate_left
  ·
   intro w'
   go_simp
   with_reducible rfl
  rotate_left
  ·
   simp only [Act.put, List.setIfInBounds_toArray, List.set_cons_zero, List.set_cons_succ, i64_w, i32_w]
   rfl
  refine done_ (by kernel_rfl) ?_
  go_wp2
  go_ret
  exact ⟨rfl, HB9.out⟩
set_option maxHeartbeats 2000000 in
set_option maxRecDepth 100000 in
theorem no_case (why : Int) (s : ByteArray) (b : Bool) (h l rest : Int) (w : World) (hg : excuse_Glob w) {S : ByteArray} {e : Int} {k0 k1 : Nat} (HAW : Aside0 (crosswaylaw20_awake.f k0 = some true)) (HOF : Aside0 (excuse_Of.f k1 why s b h l rest = some (S, e))) (he : (e == 0) = false) :
    Calls Tryd.prog 8 #[.int .i64 why, .string s, .agg #[.bool b, .int .u64 h, .int .u64 l], .int .i64 rest] w fun e w' => e = .returned (.bool true) ∧ Below w.heap.size w w' := by
  have hu28 := Tryd.underlying28
  have HG := Aside0.mk hg
  have HB := Aside0.mk (Below.refl w.heap.size w)
  clear hg
  go_enter Tryd.func8, Tryd.ntmps8
  go_wp2_with (first | ((with_reducible refine gate_dst (N := 6) rfl ?_); refine sh_E 6 28 #[.bool b, .int .u64 h, .int .u64 l] ?_; intro g6 hg V1 hbox hb; have BK6 := Aside0.mk hbox; replace HB := sh_S HB hb; replace HG := Aside0.mk (excuse_Glob_below HG.out hb); clear hbox hb hg) | fail)
  refine Calls.mono (crosswaylaw20_awake.calls k0 true _ HAW.out HG.out) ?_
  rintro e W2 ⟨rfl, hb⟩
  replace HB := Aside0.mk (below_step HB.out hb)
  replace HG := Aside0.mk (excuse_Glob_below HG.out hb)
  replace BK6 := Aside0.mk (blk_below BK6.out hb)
  clear hb
  obtain ⟨c6_0, c6_1, c6_2⟩ := MBlk.c3 BK6.out
  go_wp2_with fail
  refine Calls.mono (excuse_Of.calls k1 why s b h l rest S e _ HOF.out HG.out) ?_
  rintro e W3 ⟨rfl, hb⟩
  replace HB := Aside0.mk (below_step HB.out hb)
  replace HG := Aside0.mk (excuse_Glob_below HG.out hb)
  replace BK6 := Aside0.mk (blk_below BK6.out hb)
  clear hb
  go_wp2
  go_ret
  exact ⟨rfl, HB.out⟩
theorem quotesCalls (why : Int) (s : ByteArray) (b : Bool) (h l rest : Int) (w1 : (Lit.int .i64 why).wf = true) (hs : s.size ≤ 140737488351232) (w2 : (Lit.int .u64 h).wf = true) (w3 : (Lit.int .u64 l).wf = true) (w4 : (Lit.int .i64 rest).wf = true) (w : World) (hg : excuse_Glob w) :
    Calls Tryd.prog 8 #[.int .i64 why, .string s, .agg #[.bool b, .int .u64 h, .int .u64 l], .int .i64 rest] w fun e w' => e = .returned (.bool true) ∧ Below w.heap.size w w' := by
  have uh := u64_of_wf w2
  have ul := u64_of_wf w3
  obtain ⟨k0, ha⟩ := awake_some
  obtain ⟨k1, ho⟩ := (of_ev (why := why) (s := s) (by omega) (b := b) (h := h) (l := l) (rest := rest) uh ul).rounds
  by_cases e : (ofR why s b h l rest).2 = 0
  · cases b with
    | true =>
      obtain ⟨S, D, data, d, kind, code, rst, cl, fl, nx, hp, ph, pl, qh, ql, e1, e2, e3, e4, e5, e6, e7, e8, e9, e10, e11, e12, e13, e14, e15⟩ := quotes_six uh ul e
      rw [e1] at ho
      obtain ⟨k2, t2⟩ := (Pure6.take_ev s (by omega)).rounds
      obtain ⟨k3, t3⟩ := (Pure6.take_ev S (by omega)).rounds
      obtain ⟨k4, t4⟩ := (Pure8.take_ev uh ul e14 e15 D (by omega) true true true).rounds
      rw [e3] at t2
      rw [e4] at t3
      rw [e5] at t4
      refine six_case why s h l rest w hg ⟨ha⟩ ⟨ho⟩ ⟨e2⟩ ⟨t2⟩ ⟨t3⟩ ⟨t4⟩ ⟨by rw [isErr_eq e7, e6]⟩ (decide_eq_false (by omega)) (w64 (by omega) (by omega)) ?_ e9 (by omega) (by rw [← e8]; simp)
      rw [e10]; unfold mn; rfl
    | false =>
      obtain ⟨S, D, data, opts, d, kind, code, rst, tos, id, off, ttl, proto, pl, ql, df, mf, e0, e1, e2, e3, e4, e5, e6, e7, e8, e9, e10, e11, e12, e13, e14, e15⟩ := quotes_four uh ul e
      subst e0
      rw [e1] at ho
      obtain ⟨k2, t2⟩ := (Pure4.take_ev s).rounds
      obtain ⟨k3, t3⟩ := (Pure4.take_ev S).rounds
      obtain ⟨k4, t4⟩ := (Pure8.take_ev uh ul uh e15 D (by omega) false false false).rounds
      rw [e3] at t2
      rw [e4] at t3
      rw [e5] at t4
      refine four_case why s l rest w hg (z := mn (d.size : Int) 8) ⟨ha⟩ ⟨ho⟩ ⟨e2⟩ ⟨t2⟩ ⟨t3⟩ ⟨t4⟩ ⟨by rw [isErr_eq e7, e6]⟩ (w64 (by omega) (by omega)) ?_ ?_ e9 (by omega) (by rw [← e8]; simp)
      · unfold mn; rfl
      · rw [← e10]; exact w64 (by omega) (by omega)
  · obtain ⟨x, hx⟩ : ∃ x, ofR why s b h l rest = x := ⟨_, rfl⟩
    rw [hx] at ho e
    exact no_case why s b h l rest w hg ⟨ha⟩ ⟨ho⟩ (by simpa using e)
end Go.Proofs.YtaoopneiglgnkaaDoor.WQ
