/- Functions of the program as Lean functions, each with a proof that a call comes to what it says. Conditions: those of each theorem. Laid by a program of this session. -/
import Derived.Test.YthajbaheejdoaaaDoorPBasex0
import Derived.Test.YthajbaheejdoaaaDoorPBasex4
namespace Go.Proofs.YthajbaheejdoaaaDoor.PBase
open Go.RowKit Go.Proofs.YthajbaheejdoaaaDoor Go.Proofs.YthajbaheejdoaaaDoorW.PrintWords Go.Proofs.YthajbaheejdoaaaDoorW.PrintLast Go.Proofs.YthajbaheejdoaaaDoorW.PrintMore
attribute [local go_sem] max2_int min2_int max_two min_two max_three min_three max_four min_four   -- for this text's walks alone
set_option linter.unusedVariables false
set_option linter.unusedSimpArgs false

/-! ### octet_New: function 32 (by hand) -/
set_option maxHeartbeats 1000000 in
set_option maxRecDepth 100000 in
theorem octet_New.calls (A0 : Option Addr) (c0 : Nat) (l0 : List Int) (w : World) (hr0 : Kd.C (Kd.int .u8) w A0 l0.length l0) (hc0 : l0.length ≤ c0) (hl : l0.length ≤ 140737488355200) :
  Calls Tryd.prog 32 #[.slice A0 l0.length c0] w fun e w' => ∃ g b : Nat, e = .returned (.pointer (some ⟨g, 0, none⟩)) ∧ MReader.Rdr 67 w' g b l0 false ∧ w.heap.size ≤ g ∧ w.heap.size ≤ b ∧ Below w.heap.size w w' := by
 have HR0 := Aside0.mk hr0
 have HC0 := Aside0.mk hc0
 clear hr0 hc0
 have HB := Aside0.mk (Below.refl w.heap.size w)
 obtain ⟨N, hN⟩ : ∃ N, l0.length = N := ⟨_, rfl⟩
 have HR1 := Aside0.mk (show Kd.C (Kd.int .u8) w A0 N l0 by rw [← hN]; exact HR0.out)
 rw [hN] at hl ⊢
 have HN := Aside0.mk hN
 clear hN HR0 HC0
 go_enter Tryd.func32, Tryd.ntmps32
 go_wp2_with (first | ((with_reducible refine gate_dst (N := 6) rfl ?_); refine Kd.R_make (Kd.int .u8) _ 5 rfl (N := 6) rfl 50 _ _ rfl (N : Int) rfl rfl Tryd.underlying50 (.int .u8 0) 1 info5 rfl (by decide) (by omega) 0 (ok := fun _ => True) (okp := fun _ => True) rfl (fun _ hk => hk) trivial (by omega) (by omega) (Below.refl _ _) (Nat.le_refl _) ?_; intro v1 w1 ho1 hb hg_ hnew_; clear hg_; rw [Int.toNat_natCast] at ho1; have HO1 := Aside0.mk ho1; have HNEW := Aside0.mk hnew_; clear hnew_; obtain ⟨A1, c1, e1⟩ := Kd.R_slice ho1; rw [List.length_replicate] at e1; subst e1; replace HB := Aside0.mk (below_step HB.out hb); clear hb ho1) | ((with_reducible refine gate_builtin (b := .copy) (xs := #[.tmp 7, .tmp 8]) rfl ?_); refine MCopy.R_copy (k := .u8) (w0 := w) (base := w.heap.size) (ok := fun _ => True) rfl (.tmp 7) (.tmp 8) 50 rfl Tryd.underlying50 (by kernel_rfl) (.slice A1 N c1) (List.replicate N 0) l0 A0 N c0 rfl rfl HO1.out (Kd.C_below HR1.out HB.out) HB.out ?_; intro w2 n2 ho2 hb2; have HO2 := Aside0.mk ho2; clear HO1 HB ho2; have HB := Aside0.mk hb2; clear hb2))
 go_ret
 obtain ⟨b, hb, hbl⟩ := HNEW.out
 obtain ⟨ad, rfl⟩ : ∃ ad, A1 = some ad := by
  cases A1 with
  | none => simp [Value.ownBlock] at hb
  | some ad => exact ⟨ad, rfl⟩
 have hbk : ad.block = b := by simpa [Value.ownBlock] using hb
 have hrd := Kd.R_reads' HO2.out
 have hlen : (l0.take (List.replicate N (0 : Int)).length ++ (List.replicate N (0 : Int)).drop l0.length) = l0 := by
  rw [List.length_replicate, List.take_of_length_le (by rw [HN.out]; exact Nat.le_refl _), HN.out, List.drop_replicate, Nat.sub_self]; simp
 have hlt := Kd.R_lt HO2.out b (by simp [Value.ownBlock, hbk])
 rw [hlen] at hrd
 refine ⟨w2.heap.size, b, rfl, ⟨⟨some ad, c1, ?_, ?_, ?_, (fun h0 => by cases h0), fun a ha => by injection ha with ha; rw [← ha]; exact hbk⟩, ?_, ?_⟩, HB.out.size, hbl, below_alloc HB.out _⟩
 · rw [HN.out]; exact heap_alloc_new _ _
 · rw [HN.out]; exact hrd.2.1
 · exact Kd.C_alloc hrd.2.2 _
 · exact Nat.lt_of_lt_of_le hlt (World.grownBy_alloc w2 _ none).size
 · omega

/-! ### octet_Get: function 42 -/
mutual
def octet_Get.j0 : Nat → List Int → Int → Int → Bool → Option (Int × Bool)
 | 0, _, _, _, _ => none
 | k + 1, x0, x1, x2, x33 => if x33 = true then (some (0, false)) else (octet_Get.l0 k x0 x1 0 x2 0)
def octet_Get.l0 : Nat → List Int → Int → Int → Int → Int → Option (Int × Bool)
 | 0, _, _, _, _, _ => none
 | k + 1, x0, x1, x8, x34, x35 => if x35 < x34 then (if 0 ≤ (wrap64 (x1 + x35)) then (if (wrap64 (x1 + x35)) < (x0.length : Int) then (octet_Get.l0 k x0 x1 (Go.bits .or .u64 (IntKind.u64.wrap (x8 * 256)) (IntKind.u64.wrap (rd x0 (wrap64 (x1 + x35))))) x34 (wrap64 (x35 + 1))) else (none)) else (none)) else (some (x8, true))
end
def octet_Get.f (k : Nat) (l0 : List Int) (a1 : Int) (a2 : Int) : Option (Int × Bool) := if a2 < 0 then (octet_Get.j0 k l0 a1 a2 true) else (if a2 > 8 then (octet_Get.j0 k l0 a1 a2 true) else (if a1 < 0 then (octet_Get.j0 k l0 a1 a2 true) else (if a1 > (l0.length : Int) then (octet_Get.j0 k l0 a1 a2 true) else (octet_Get.j0 k l0 a1 a2 (decide (a2 > (wrap64 ((l0.length : Int) - a1))))))))
theorem octet_Get.mono_l : ∀ k, (∀ y0 y1 y2 y3, LeO (octet_Get.j0 k y0 y1 y2 y3) (octet_Get.j0 (k + 1) y0 y1 y2 y3)) ∧ (∀ y0 y1 y2 y3 y4, LeO (octet_Get.l0 k y0 y1 y2 y3 y4) (octet_Get.l0 (k + 1) y0 y1 y2 y3 y4))
 | 0 => ⟨fun _ _ _ _ r h => by simp [octet_Get.j0] at h, fun _ _ _ _ _ r h => by simp [octet_Get.l0] at h⟩
 | k + 1 => by
  obtain ⟨ih0, ih1⟩ := octet_Get.mono_l k
  refine ⟨?_, ?_⟩
  ·
   intro y0 y1 y2 y3
   unfold octet_Get.j0
   repeat' first
   | (with_reducible exact ih0 _ _ _ _)
   | (with_reducible exact ih1 _ _ _ _ _)
   | (with_reducible exact LeO.refl _)
   | (with_reducible exact LeO.none _)
   | (with_reducible refine LeO.ite ?_ ?_)
   | (with_reducible refine LeO.bind ?_ (fun _ => ?_))
   | exact ih0 _ _ _ _
   | exact ih1 _ _ _ _ _
   | exact LeO.none _
   | refine LeO.ite ?_ ?_
   | refine LeO.bind ?_ (fun _ => ?_)
  ·
   intro y0 y1 y2 y3 y4
   unfold octet_Get.l0
   repeat' first
   | (with_reducible exact ih0 _ _ _ _)
   | (with_reducible exact ih1 _ _ _ _ _)
   | (with_reducible exact LeO.refl _)
   | (with_reducible exact LeO.none _)
   | (with_reducible refine LeO.ite ?_ ?_)
   | (with_reducible refine LeO.bind ?_ (fun _ => ?_))
   | exact ih0 _ _ _ _
   | exact ih1 _ _ _ _ _
   | exact LeO.none _
   | refine LeO.ite ?_ ?_
   | refine LeO.bind ?_ (fun _ => ?_)
theorem octet_Get.mono : ∀ a0 a1 a2 k, LeO (octet_Get.f k a0 a1 a2) (octet_Get.f (k + 1) a0 a1 a2) := by
 intro a0 a1 a2 k
 obtain ⟨ih0, ih1⟩ := octet_Get.mono_l k
 unfold octet_Get.f
 repeat' first
   | (with_reducible exact ih0 _ _ _ _)
   | (with_reducible exact ih1 _ _ _ _ _)
   | (with_reducible exact LeO.refl _)
   | (with_reducible exact LeO.none _)
   | (with_reducible refine LeO.ite ?_ ?_)
   | (with_reducible refine LeO.bind ?_ (fun _ => ?_))
   | exact ih0 _ _ _ _
   | exact ih1 _ _ _ _ _
   | exact LeO.none _
   | refine LeO.ite ?_ ?_
   | refine LeO.bind ?_ (fun _ => ?_)
set_option maxHeartbeats 8000000 in
set_option maxRecDepth 100000 in
theorem octet_Get.calls (k : Nat) (A0 : Option Addr) (c0 : Nat) (l0 : List Int) (a1 : Int) (a2 : Int) (r1 : Int) (r2 : Bool) (w : World) (hr0 : Kd.C (Kd.int .u8) w A0 l0.length l0) (hc0 : l0.length ≤ c0) (h : octet_Get.f k l0 a1 a2 = some (r1, r2)) :
  Calls Tryd.prog 42 #[.slice A0 l0.length c0, .int .i64 a1, .int .i64 a2] w fun e w' => e = .returned (.tuple #[.int .u64 r1, .bool r2]) ∧ Drawn0 w w' := by
 have HR0 := Aside0.mk hr0
 have HC0 := Aside0.mk hc0
 clear hr0 hc0
 have H : (if a2 < 0 then (octet_Get.j0 k l0 a1 a2 true) else (if a2 > 8 then (octet_Get.j0 k l0 a1 a2 true) else (if a1 < 0 then (octet_Get.j0 k l0 a1 a2 true) else (if a1 > (l0.length : Int) then (octet_Get.j0 k l0 a1 a2 true) else (octet_Get.j0 k l0 a1 a2 (decide (a2 > (wrap64 ((l0.length : Int) - a1))))))))) = some (r1, r2) := h
 clear h
 have HC4 := Aside0.mk H
 clear H
 go_enter Tryd.func42, Tryd.ntmps42
 go_upto_region 1 with (fail)
 go_cut [33] (fun v33 wc => ∃ (kq : Nat) (x33_3 : Bool), v33 = .bool x33_3 ∧ Aside0 (octet_Get.j0 kq l0 a1 a2 x33_3 = some (r1, r2)) ∧ Aside0 (kq ≤ k) ∧ Drawn0 w wc)
 case first =>
  have H := HC4.out
  clear HC4
  by_cases c5 : a2 < 0
  ·
   rw [if_pos c5] at H
   have c5b0 : decide (a2 < 0) = true := decide_eq_true c5
   clear c5
   (first | rw [c5b0] | (simp only [i64_w, i32_w]; rw [c5b0]) | skip)
   have H' := Aside0.mk H
   clear H
   go_wp2
   go_meet
   case rel => exact ⟨_, (true), (by first | rfl | (simp; done) | (simp [*]; done)), H', ⟨by first | omega | exact Nat.le_refl _⟩, by repeat (first | exact Drawn0.refl _ | apply Drawn0.step)⟩
  ·
   rw [if_neg c5] at H
   have c5b0 : decide (a2 < 0) = false := decide_eq_false c5
   clear c5
   (first | rw [c5b0] | (simp only [i64_w, i32_w]; rw [c5b0]) | skip)
   by_cases c6 : a2 > 8
   ·
    rw [if_pos c6] at H
    have c6b0 : decide (8 < a2) = true := decide_eq_true c6
    clear c6
    have H' := Aside0.mk H
    clear H
    go_wp2
    go_meet
    case rel => exact ⟨_, (true), (by first | rfl | (simp; done) | (simp [*]; done)), H', ⟨by first | omega | exact Nat.le_refl _⟩, by repeat (first | exact Drawn0.refl _ | apply Drawn0.step)⟩
   ·
    rw [if_neg c6] at H
    have c6b0 : decide (8 < a2) = false := decide_eq_false c6
    clear c6
    by_cases c7 : a1 < 0
    ·
     rw [if_pos c7] at H
     have c7b0 : decide (a1 < 0) = true := decide_eq_true c7
     clear c7
     have H' := Aside0.mk H
     clear H
     go_wp2
     go_meet
     case rel => exact ⟨_, (true), (by first | rfl | (simp; done) | (simp [*]; done)), H', ⟨by first | omega | exact Nat.le_refl _⟩, by repeat (first | exact Drawn0.refl _ | apply Drawn0.step)⟩
    ·
     rw [if_neg c7] at H
     have c7b0 : decide (a1 < 0) = false := decide_eq_false c7
     clear c7
     by_cases c8 : a1 > (l0.length : Int)
     ·
      rw [if_pos c8] at H
      have c8b0 : decide ((l0.length : Int) < a1) = true := decide_eq_true c8
      clear c8
      have H' := Aside0.mk H
      clear H
      go_wp2
      go_meet
      case rel => exact ⟨_, (true), (by first | rfl | (simp; done) | (simp [*]; done)), H', ⟨by first | omega | exact Nat.le_refl _⟩, by repeat (first | exact Drawn0.refl _ | apply Drawn0.step)⟩
     ·
      rw [if_neg c8] at H
      have c8b0 : decide ((l0.length : Int) < a1) = false := decide_eq_false c8
      clear c8
      have H' := Aside0.mk H
      clear H
      go_wp2
      go_meet
      case rel => exact ⟨_, (decide (a2 > (wrap64 ((l0.length : Int) - a1)))), (by first | rfl | (simp; done) | (simp [*]; done)), H', ⟨by first | omega | exact Nat.le_refl _⟩, by repeat (first | exact Drawn0.refl _ | apply Drawn0.step)⟩
 case rest =>
  clear HC4
  try clear p2
  try clear c4
  try clear c5
  try clear c5b0
  try clear c6
  try clear c6b0
  try clear p6
  try clear c7
  try clear c7b0
  try clear c8
  try clear c8b0
  obtain ⟨kq, x33_3, rfl, HA, HJ3, ⟨mc3, rfl⟩⟩ := hcut
  cases kq with
  | zero => exact absurd HA.out (by simp [octet_Get.j0])
  | succ kj3 =>
   have H := HA.out
   clear HA
   simp only [octet_Get.j0] at H
   by_cases c9 : x33_3 = true
   ·
    subst c9
    rw [if_pos rfl] at H
    simp only [Option.some.injEq, Prod.mk.injEq] at H
    obtain ⟨rfl, rfl⟩ := H
    go_wp2
    go_ret2
    exact ⟨by first | rfl | (simp; done) | (simp [*]; done), by repeat (first | exact Drawn0.refl _ | apply Drawn0.step)⟩
   ·
    replace c9 := Bool.eq_false_iff.mpr c9
    subst c9
    rw [if_neg (show ¬ (false = true) by decide)] at H
    have H' := Aside0.mk H
    clear H
    go_wp2
    go_loopg [8, 35] kj3 (fun kq v8 v35 w' => ∃ (x8_2 : Int) (x35_2 : Int), v8 = .int .u64 x8_2 ∧ v35 = .int .i64 x35_2 ∧ Aside0 (octet_Get.l0 kq l0 a1 x8_2 a2 x35_2 = some (r1, r2)) ∧ Aside0 (kq ≤ kj3) ∧ Drawn0 w w')
    case atStart => exact ⟨(0), (0), (by first | rfl | (simp; done) | (simp [*]; done)), (by first | rfl | (simp; done) | (simp [*]; done)), H', ⟨Nat.le_refl _⟩, by repeat (first | exact Drawn0.refl _ | apply Drawn0.step)⟩
    case round =>
     clear H'
     try clear p2
     try clear c3
     try clear c4
     try clear c5
     try clear c5b0
     try clear c6
     try clear c6b0
     try clear p6
     try clear c7
     try clear c7b0
     try clear c8
     try clear c8b0
     try clear c9
     try clear p2
     try clear p6
     obtain ⟨x8_2, x35_2, rfl, rfl, HA, HK2, ⟨m2, rfl⟩⟩ := hrel
     cases gk with
     | zero => exact absurd HA.out (by simp [octet_Get.l0])
     | succ k2 =>
      have H := HA.out
      clear HA
      simp only [octet_Get.l0] at H
      by_cases c10 : x35_2 < a2
      ·
       rw [if_pos c10] at H
       have c10b0 : decide (x35_2 < a2) = true := decide_eq_true c10
       clear c10
       obtain ⟨ji11, hji11⟩ : ∃ j_ : Int, (wrap64 (a1 + x35_2)) = j_ := ⟨_, rfl⟩
       replace H : (if 0 ≤ (ji11) then (if (ji11) < (l0.length : Int) then (octet_Get.l0 k2 l0 a1 (Go.bits .or .u64 (IntKind.u64.wrap (x8_2 * 256)) (IntKind.u64.wrap (rd l0 (ji11)))) a2 (wrap64 (x35_2 + 1))) else (none)) else (none)) = some (r1, r2) := by first | (rw [hji11] at H; exact H) | (simp only [hji11] at H ⊢; exact H)
       have hji11w : (IntKind.i64.wrap (a1 + x35_2)) = ji11 := (i64_w _).trans hji11
       by_cases c12 : 0 ≤ (ji11)
       ·
        rw [if_pos c12] at H
        have c12b0 : decide (0 ≤ (ji11)) = true := decide_eq_true c12
        clear c12
        by_cases c13 : (ji11) < (l0.length : Int)
        ·
         rw [if_pos c13] at H
         have c13b0 : decide ((ji11) < (l0.length : Int)) = true := decide_eq_true c13
         clear c13
         have H' := Aside0.mk H
         clear H
         have p127 : 0 ≤ ((ji11) : Int) := of_decide_eq_true (by first | (with_reducible assumption) | assumption)
         have q127 : (ji11) < (l0.length : Int) := of_decide_eq_true (by first | (with_reducible assumption) | assumption)
         obtain ⟨ad127, e127, hx127_0⟩ := Kd.at_int HR0.out (ji11) p127 q127
         cases e127
         replace p127 := eq_true p127
         replace q127 := eq_true q127
         go_wp2
         go_roundg k2
         case measure => have := HJ3.out; have := HK2.out; omega
         case rel => exact ⟨(Go.bits .or .u64 (IntKind.u64.wrap (x8_2 * 256)) (IntKind.u64.wrap (rd l0 (ji11)))), (wrap64 (x35_2 + 1)), (by first | rfl | (simp; done) | (simp only [← hji11] <;> (first | rfl | simp)) | (simp [*]; done)), (by first | rfl | (simp; done) | (simp [*]; done)), H', ⟨by have := HJ3.out; have := HK2.out; omega⟩, by repeat (first | exact Drawn0.refl _ | apply Drawn0.step)⟩
        ·
         rw [if_neg c13] at H
         exact absurd H (by simp)
       ·
        rw [if_neg c12] at H
        exact absurd H (by simp)
      ·
       rw [if_neg c10] at H
       have c10b0 : decide (x35_2 < a2) = false := decide_eq_false c10
       clear c10
       simp only [Option.some.injEq, Prod.mk.injEq] at H
       obtain ⟨rfl, rfl⟩ := H
       go_wp2
       go_ret2
       exact ⟨by first | rfl | (simp; done) | (simp [*]; done), by repeat (first | exact Drawn0.refl _ | apply Drawn0.step)⟩

/-! ### octet_Reader_ends: function 43 (by hand) -/
set_option maxHeartbeats 400000 in
theorem octet_Reader_ends.calls (g b : Nat) (l : List Int) (s : Bool) (w : World) (h : MReader.Rdr 67 w g b l s) :
  Calls Tryd.prog 43 #[.pointer (some ⟨g, 0, none⟩)] w fun e w' => e = .returned (.tuple #[]) ∧ MReader.Rdr 67 w' g b [] true ∧ w.grownBy w' (some g) := by
 obtain ⟨A, c, x0, x1, f0, f1, hl, hC, hA⟩ := h.cells
 obtain ⟨⟨A', c', h1, _⟩, hlt, hne⟩ := h
 have H1 := Aside0.mk h1
 clear h1 hl hC hA
 go_enter Tryd.func43, Tryd.ntmps43
 go_wp2
 go_end0
 have e1 := MReader.setCell_heap (j := 1) (u := .bool true) (MReader.setCell_heap (j := 0) (u := .slice none 0 0) H1.out)
 refine ⟨rfl, ⟨⟨none, 0, by simpa using e1, Nat.le_refl _, Kd.C_nil _ _, fun _ => rfl, fun _ h0 => by cases h0⟩, by simpa [World.setCell] using hlt, hne⟩, ?_⟩
 exact MReader.grown_trans (MReader.setCell_grown _ _ _ _) (MReader.setCell_grown _ _ _ _)

/-! ### octet_Reader_Num: function 33 (by hand) -/
set_option maxHeartbeats 1000000 in
set_option maxRecDepth 100000 in
theorem octet_Reader_Num.bad (k : Nat) (g b : Nat) (l : List Int) (s : Bool) (width n : Int) (ok : Bool) (w : World) (h : MReader.Rdr 67 w g b l s) (hg : octet_Get.f k l 0 width = some (n, ok)) (hbad : s = true ∨ ok = false) :
  Calls Tryd.prog 33 #[.pointer (some ⟨g, 0, none⟩), .int .i64 width] w fun e w' => e = .returned (.int .u64 0) ∧ MReader.Rdr 67 w' g b [] true ∧ w.grownBy w' (some g) := by
 obtain ⟨A, c, x0, x1, f0, f1, hl, hC, hN, hA⟩ := h.cells
 have HR := Aside0.mk h
 have HG := Aside0.mk hg
 have HC := Aside0.mk hC
 have HL := Aside0.mk hl
 clear h hg hl hC hN hA
 cases s with
 | true =>
  clear hbad
  go_enter Tryd.func33, Tryd.ntmps33
  go_wp2_with fail
  refine (octet_Get.calls k _ _ l 0 width n ok _ HC.out HL.out HG.out).mono ?_
  rintro e w2 ⟨rfl, ⟨nd, rfl⟩⟩
  go_wp2_with fail
  refine (octet_Reader_ends.calls g b l true _ (HR.out.drewN nd)).mono ?_
  rintro e w3 ⟨rfl, hr, hgr⟩
  have HR3 := Aside0.mk hr
  have HG3 := Aside0.mk hgr
  clear hr hgr
  go_wp2_with fail
  go_ret
  exact ⟨rfl, HR3.out, MReader.drewN_grown HG3.out⟩
 | false =>
  obtain rfl : ok = false := by rcases hbad with h | h; cases h; exact h
  clear hbad
  go_enter Tryd.func33, Tryd.ntmps33
  go_wp2_with fail
  refine (octet_Get.calls k _ _ l 0 width n false _ HC.out HL.out HG.out).mono ?_
  rintro e w2 ⟨rfl, ⟨nd, rfl⟩⟩
  go_wp2_with fail
  refine (octet_Reader_ends.calls g b l false _ (HR.out.drewN nd)).mono ?_
  rintro e w3 ⟨rfl, hr, hgr⟩
  have HR3 := Aside0.mk hr
  have HG3 := Aside0.mk hgr
  clear hr hgr
  go_wp2_with fail
  go_ret
  exact ⟨rfl, HR3.out, MReader.drewN_grown HG3.out⟩
set_option maxHeartbeats 1000000 in
set_option maxRecDepth 100000 in
theorem octet_Reader_Num.ok (k : Nat) (g b : Nat) (l : List Int) (width n : Int) (w : World) (h : MReader.Rdr 67 w g b l false) (hg : octet_Get.f k l 0 width = some (n, true)) (h0 : 0 ≤ width) (h1 : width ≤ (l.length : Int)) :
  Calls Tryd.prog 33 #[.pointer (some ⟨g, 0, none⟩), .int .i64 width] w fun e w' => e = .returned (.int .u64 n) ∧ MReader.Rdr 67 w' g b (l.drop width.toNat) false ∧ w.grownBy w' (some g) := by
 obtain ⟨A, c, x0, x1, f0, f1, hl, hC, hN, hA⟩ := h.cells
 have HR := Aside0.mk h
 have HG := Aside0.mk hg
 have HC := Aside0.mk hC
 have HL := Aside0.mk hl
 obtain ⟨m, rfl⟩ := Int.eq_ofNat_of_zero_le h0
 have hml : m ≤ l.length := by omega
 have hmc : m ≤ c := by omega
 clear h hg hC h0
 by_cases hcm : c = m
 ·
  subst hcm
  go_enter Tryd.func33, Tryd.ntmps33
  go_wp2_with fail
  refine (octet_Get.calls k _ _ l 0 c n true _ HC.out HL.out HG.out).mono ?_
  rintro e w2 ⟨rfl, ⟨nd, rfl⟩⟩
  go_wp2_with fail
  go_ret
  obtain ⟨⟨A', c', e0, _⟩, hlt, hne⟩ := HR.out
  have e1 := MReader.setCell_heap (w := w.drewN nd) (j := 0) (u := .slice A 0 0) e0
  have hd : l.drop ((c : Int)).toNat = [] := List.drop_eq_nil_of_le (by omega)
  rw [hd]
  refine ⟨rfl, ⟨⟨A, 0, by simpa using e1, Nat.le_refl _, ⟨rfl, Nat.zero_le _, fun h0 => by cases h0⟩, fun _ => rfl, hA⟩, by simpa [World.setCell] using hlt, hne⟩, ?_⟩
  exact MReader.drewN_grown (MReader.setCell_grown _ _ _ _)
 ·
  cases A with
  | none => have := hN rfl; omega
  | some ad =>
   obtain ⟨q, hq⟩ : ∃ q, c - m = q := ⟨_, rfl⟩
   obtain ⟨r, hr⟩ : ∃ r, l.length - m = r := ⟨_, rfl⟩
   have HQ := Aside0.mk hq
   have HRr := Aside0.mk hr
   clear hq hr
   go_enter Tryd.func33, Tryd.ntmps33
   go_wp2_with fail
   refine (octet_Get.calls k _ _ l 0 m n true _ HC.out HL.out HG.out).mono ?_
   rintro e w2 ⟨rfl, ⟨nd, rfl⟩⟩
   go_wp2_with fail
   go_ret
   obtain ⟨⟨A', c', e0, _⟩, hlt, hne⟩ := HR.out
   have e1 := MReader.setCell_heap (w := w.drewN nd) (j := 0) (u := .slice (some (ad.add m)) (l.length - m) (c - m)) e0
   have hC2 := Kd.C_drop (c := c) HC.out hml HL.out
   rw [if_neg hcm] at hC2
   have hld : (l.drop m).length = l.length - m := List.length_drop
   rw [Int.toNat_natCast]
   refine ⟨rfl, ⟨⟨some (ad.add m), c - m, by rw [hld]; simpa using e1, by omega, ?_, (fun h0 => by cases h0), fun a ha => ?_⟩, by simpa [World.setCell] using hlt, hne⟩, MReader.drewN_grown (MReader.setCell_grown _ _ _ _)⟩
   · refine MReader.C_block (w := w) (b := b) ?_ (fun a ha => ?_) ?_
     · have e2 : (Kd.int .u8).sz = 1 := rfl
       rw [e2, Nat.mul_one] at hC2
       exact hC2
     · injection ha with ha
       rw [← ha, add_block]; exact hA _ rfl
     · exact Below.heap_setCell (w.drewN nd) ⟨g, 0, none⟩ _ b hne
   · injection ha with ha
     rw [← ha, add_block]; exact hA _ rfl

/-! ### ether_Take: function 15 (by hand) -/
/-- A number that is there. -/
def ether_Take.num (k : Nat) (l : List Int) (w : Int) : Option Int := (octet_Get.f k l 0 w).bind fun n => if n.2 = true then some n.1 else none
theorem ether_Take.num_get {k : Nat} {l : List Int} {w n : Int} (h : ether_Take.num k l w = some n) : octet_Get.f k l 0 w = some (n, true) := by
 unfold ether_Take.num at h
 obtain ⟨⟨a, b⟩, h1, h2⟩ := Option.bind_eq_some_iff.1 h
 split at h2
 · rename_i hb
   injection h2 with h2
   simp only at hb h2
   rw [h1, hb, h2]
 · cases h2
theorem ether_Take.num_mono (l : List Int) (w : Int) (k : Nat) : LeO (ether_Take.num k l w) (ether_Take.num (k + 1) l w) := by
 unfold ether_Take.num
 exact LeO.bind (octet_Get.mono _ _ _ _) (fun _ => LeO.refl _)
/-- Nothing, and why. -/
def ether_Take.no (e : Int) : Int × Int × Int × ByteArray × Int := (0, 0, 0, ⟨#[]⟩, e)
def ether_Take.f (k : Nat) (s : ByteArray) : Option (Int × Int × Int × ByteArray × Int) :=
 if (s.size : Int) < 14 then some (ether_Take.no 41) else if (s.size : Int) > 1514 then some (ether_Take.no 42) else
 (ether_Take.num k (bytesOf (s.extract 0 14)) 6).bind fun a => (ether_Take.num k ((bytesOf (s.extract 0 14)).drop 6) 6).bind fun b => (ether_Take.num k ((bytesOf (s.extract 0 14)).drop 12) 2).bind fun c =>
 if ¬ (0 ≤ c ∧ c ≤ 65535) then none else (ether_isFrame.f a b c (s.extract 14 s.size)).bind fun y => some (if y = true then (a, b, c, s.extract 14 s.size, 0) else ether_Take.no 40)
def ether_Take.v (r : Int × Int × Int × ByteArray × Int) : Value := .tuple #[.agg #[.int .u64 r.1, .int .u64 r.2.1, .int .i64 r.2.2.1, .string r.2.2.2.1], .int .i64 r.2.2.2.2]
/-- A reader at work, and blocks beside it that its calls do not touch; nothing below wb has changed. -/
structure RS (T : Nat) (wb : World) (bs : List (Nat × Obj)) (g b : Nat) (l : List Int) (W : World) : Prop where mk ::
 (rd : MReader.Rdr T W g b l false)
 (keep : ∀ x ∈ bs, W.heap[x.1]? = some x.2 ∧ x.1 ≠ g ∧ x.1 ≠ b)
 (below : Below wb.heap.size wb W)
 (ge : wb.heap.size ≤ g)
section
variable {T g b : Nat} {wb W W2 : World} {bs : List (Nat × Obj)} {l l2 : List Int}
theorem RS.num (h : RS T wb bs g b l W) (hgr : W.grownBy W2 (some g)) (hr : MReader.Rdr T W2 g b l2 false) : RS T wb bs g b l2 W2 :=
 ⟨hr, fun x hx => by
  obtain ⟨h1, h2, h3⟩ := h.keep x hx
  exact ⟨(hgr.block _ (Array.getElem?_eq_some_iff.1 h1).1 (fun e => h2 (by injection e))).trans h1, h2, h3⟩, MReader.below_grown h.below hgr h.ge h.below.size, h.ge⟩
theorem RS.more (h : RS T wb bs g b l W) (hb : Below W.heap.size W W2) : RS T wb bs g b l W2 :=
 ⟨h.rd.below hb, fun x hx => by
  obtain ⟨h1, h2, h3⟩ := h.keep x hx
  exact ⟨MStr.block_below h1 hb, h2, h3⟩, below_then h.below h.below.size hb, h.ge⟩
theorem RS.alloc (h : RS T wb bs g b l W) (o : Obj) : RS T wb ((W.heap.size, o) :: bs) g b l (W.alloc o) := by
 have h2 := h.more (W2 := W.alloc o) (below_alloc (Below.refl _ _) o)
 refine ⟨h2.rd, fun x hx => ?_, h2.below, h2.ge⟩
 rcases List.mem_cons.1 hx with rfl | hx
 · exact ⟨heap_alloc_new W o, by have := h.rd.glt; simp only; omega, by have := h.rd.lt; simp only; omega⟩
 · exact h2.keep x hx
theorem RS.set {gp t : Nat} {cs : Array Value} (h : RS T wb ((gp, .cells cs t (0, 0)) :: bs) g b l W) (hge : wb.heap.size ≤ gp) (hne : ∀ x ∈ bs, x.1 ≠ gp) (j : Nat) (v : Value) :
  RS T wb ((gp, .cells (cs.setIfInBounds j v) t (0, 0)) :: bs) g b l (W.setCell ⟨gp, j, none⟩ v) := by
 obtain ⟨h1, h2, h3⟩ := h.keep _ (List.mem_cons_self ..)
 have hot : ∀ q, q ≠ gp → (W.setCell ⟨gp, j, none⟩ v).heap[q]? = W.heap[q]? := fun q hq => Below.heap_setCell W ⟨gp, j, none⟩ v q hq
 refine ⟨h.rd.keep (hot g (fun e => h2 e.symm)) (hot b (fun e => h3 e.symm)) (by simp [World.setCell]), fun x hx => ?_, below_set h.below hge, h.ge⟩
 rcases List.mem_cons.1 hx with rfl | hx
 · exact ⟨MReader.setCell_heap h1, h2, h3⟩
 · obtain ⟨k1, k2, k3⟩ := h.keep x (List.mem_cons_of_mem _ hx)
   exact ⟨(hot _ (hne x hx)).trans k1, k2, k3⟩
theorem RS.cell (h : RS T wb bs g b l W) {gp t j : Nat} {cs : Array Value} {v : Value} (hm : (gp, Obj.cells cs t (0, 0)) ∈ bs) (hj : cs[j]? = some v) : W.cell? ⟨gp, j, none⟩ = some v := MStr.block_cell (h.keep _ hm).1 hj
theorem RS.free (h : RS T wb bs g b l W) {gp t : Nat} (j : Nat) {cs : Array Value} (hm : (gp, Obj.cells cs t (0, 0)) ∈ bs) : W.frozen? ⟨gp, j, none⟩ = false := MStr.block_frozen (h.keep _ hm).1
end

theorem put4 {w : World} {g T : Nat} {v0 v1 v2 v3 : Value} (h : w.heap[g]? = some (.cells #[v0, v1, v2, v3] T (0, 0))) (b0 b1 b2 b3 : Value) :
    ((((w.setCell ⟨g, 0, none⟩ b0).setCell ⟨g, 1, none⟩ b1).setCell ⟨g, 2, none⟩ b2).setCell ⟨g, 3, none⟩ b3).heap[g]? = some (.cells #[b0, b1, b2, b3] T (0, 0)) := by
  replace h := MReader.setCell_heap (j := 0) (u := b0) h
  rw [show (#[v0, v1, v2, v3] : Array Value).setIfInBounds 0 b0 = #[b0, v1, v2, v3] from rfl] at h
  replace h := MReader.setCell_heap (j := 1) (u := b1) h
  rw [show (#[b0, v1, v2, v3] : Array Value).setIfInBounds 1 b1 = #[b0, b1, v2, v3] from rfl] at h
  replace h := MReader.setCell_heap (j := 2) (u := b2) h
  rw [show (#[b0, b1, v2, v3] : Array Value).setIfInBounds 2 b2 = #[b0, b1, b2, v3] from rfl] at h
  replace h := MReader.setCell_heap (j := 3) (u := b3) h
  rw [show (#[b0, b1, b2, v3] : Array Value).setIfInBounds 3 b3 = #[b0, b1, b2, b3] from rfl] at h
  exact h
theorem put4_below {w0 w : World} {g : Nat} (h : Below w0.heap.size w0 w) (hg : w0.heap.size ≤ g) (a b c d : Value) :
    Below w0.heap.size w0 ((((w.setCell ⟨g, 0, none⟩ a).setCell ⟨g, 1, none⟩ b).setCell ⟨g, 2, none⟩ c).setCell ⟨g, 3, none⟩ d) := below_set (below_set (below_set (below_set h hg) hg) hg) hg
theorem RS.all4 {T g b gp t : Nat} {wb W : World} {bs : List (Nat × Obj)} {l : List Int} {v0 v1 v2 v3 : Value} (h : RS T wb ((gp, .cells #[v0, v1, v2, v3] t (0, 0)) :: bs) g b l W) (hge : wb.heap.size ≤ gp) (hne : ∀ x ∈ bs, x.1 ≠ gp) (b0 b1 b2 b3 : Value) : RS T wb ((gp, .cells #[b0, b1, b2, b3] t (0, 0)) :: bs) g b l ((((W.setCell ⟨gp, 0, none⟩ b0).setCell ⟨gp, 1, none⟩ b1).setCell ⟨gp, 2, none⟩ b2).setCell ⟨gp, 3, none⟩ b3) := by
 replace h := h.set hge hne 0 b0
 rw [show (#[v0, v1, v2, v3] : Array Value).setIfInBounds 0 b0 = #[b0, v1, v2, v3] from rfl] at h
 replace h := h.set hge hne 1 b1
 rw [show (#[b0, v1, v2, v3] : Array Value).setIfInBounds 1 b1 = #[b0, b1, v2, v3] from rfl] at h
 replace h := h.set hge hne 2 b2
 rw [show (#[b0, b1, v2, v3] : Array Value).setIfInBounds 2 b2 = #[b0, b1, b2, v3] from rfl] at h
 replace h := h.set hge hne 3 b3
 rw [show (#[b0, b1, b2, v3] : Array Value).setIfInBounds 3 b3 = #[b0, b1, b2, b3] from rfl] at h
 exact h
theorem ether_Take.rs {bs : List (Nat × Obj)} {wb W : World} {g b : Nat} {l : List Int} (h : RS 67 wb bs g b l W) {k : Nat} {width n : Int} (hg : octet_Get.f k l 0 width = some (n, true)) (h0 : 0 ≤ width) (h1 : width ≤ (l.length : Int)) :
  Calls Tryd.prog 33 #[.pointer (some ⟨g, 0, none⟩), .int .i64 width] W fun e w' => e = .returned (.int .u64 n) ∧ RS 67 wb bs g b (l.drop width.toNat) w' :=
 (octet_Reader_Num.ok k g b l width n W h.rd hg h0 h1).mono fun _ _ ⟨he, hr, hgr⟩ => ⟨he, h.num hgr hr⟩
set_option maxHeartbeats 2000000 in
set_option maxRecDepth 100000 in
theorem ether_Take.main (k : Nat) (s : ByteArray) (a b c : Int) (y : Bool) (w : World) (h14 : ¬ (s.size : Int) < 14) (hbig : ¬ (s.size : Int) > 1514)
  (ha : ether_Take.num k (bytesOf (s.extract 0 14)) 6 = some a) (hb : ether_Take.num k ((bytesOf (s.extract 0 14)).drop 6) 6 = some b) (hc : ether_Take.num k ((bytesOf (s.extract 0 14)).drop 12) 2 = some c) (rc : 0 ≤ c ∧ c ≤ 65535) (hy : ether_isFrame.f a b c (s.extract 14 s.size) = some y) :
  Calls Tryd.prog 15 #[.string s] w fun e w' => e = .returned (ether_Take.v (if y = true then (a, b, c, s.extract 14 s.size, 0) else ether_Take.no 40)) ∧ Below w.heap.size w w' := by
 obtain ⟨L, hL⟩ : ∃ L, bytesOf (s.extract 0 14) = L := ⟨_, rfl⟩
 have hlen : L.length = 14 := by rw [← hL, bytesOf_length]; simp; omega
 rw [hL] at ha hb hc
 have HLE := Aside0.mk hL; have HN := Aside0.mk hlen
 have HA := Aside0.mk (ether_Take.num_get ha); have HBn := Aside0.mk (ether_Take.num_get hb); have HCn := Aside0.mk (ether_Take.num_get hc)
 have HY := Aside0.mk hy
 clear ha hb hc hL hlen hy
 obtain ⟨c0, c1⟩ := rc
 obtain ⟨wb, hwb⟩ : ∃ wb, w.alloc (.cells #[.int .u64 0, .int .u64 0, .int .i64 0, .string ⟨#[]⟩] 25) = wb := ⟨_, rfl⟩
 have HBW := Aside0.mk (show Below w.heap.size w wb by rw [← hwb]; exact below_alloc (Below.refl _ _) _)
 have HWS := Aside0.mk (show wb.heap.size = w.heap.size + 1 by rw [← hwb]; simp [go_sem])
 have HX := Aside0.mk (show wb.heap[w.heap.size]? = some (.cells #[.int .u64 0, .int .u64 0, .int .i64 0, .string ⟨#[]⟩] 25 (0, 0)) by rw [← hwb]; exact heap_alloc_new _ _)
 have hu25 := Tryd.underlying25
 have kb := fun s W => print_bytes (P := Tryd.prog) 9 50 5 Tryd.underlying9 Tryd.underlying50 Tryd.underlying5 s W
 have hi14 : ((14 : Int) ≤ (s.size : Int)) = True := eq_true (by omega)
 have e14 : (s.extract 0 14).size = 14 := by simp; omega
 have m14 : min 14 s.size = 14 := by omega
 have ewc : IntKind.i64.wrap c = c := by simp only [i64_w]; unfold wrap64; omega
 have ewc2 : wrap64 c = c := by unfold wrap64; omega
 go_enter Tryd.func15, Tryd.ntmps15
 go_wp2_with fail
 clear hwb
 have hC := MStr.C_bytes wb 5 (s.extract 0 14) (by rw [e14]; decide)
 rw [HLE.out, e14] at hC
 have hcall := octet_New.calls (some ⟨wb.heap.size, 0, none⟩) (grownCap wb 14 0 5) L (Lib.bytesWorld wb 5 (s.extract 0 14)) (by rw [HN.out]; exact hC) (by rw [HN.out]; exact grownCap_ge _ _ _ _) (by rw [HN.out]; decide)
 rw [HN.out] at hcall
 clear hC kb
 refine hcall.mono ?_
 rintro e w2 ⟨g, bb, rfl, hrd, hg, hbb, hb⟩
 have hbw : Below wb.heap.size wb (Lib.bytesWorld wb 5 (s.extract 0 14)) := bytes_below (Below.refl _ _) (Nat.le_refl _) _ _
 have hsz : (Lib.bytesWorld wb 5 (s.extract 0 14)).heap.size = wb.heap.size + 1 := Lib.bytesWorld_size _ _ _
 have HRS := Aside0.mk (show RS 67 wb [(w.heap.size, .cells #[.int .u64 0, .int .u64 0, .int .i64 0, .string ⟨#[]⟩] 25 (0, 0))] g bb L w2 from ⟨hrd, fun x hx => by
  obtain rfl := List.mem_singleton.1 hx
  exact ⟨MStr.block_below HX.out (below_step hbw hb), by have := HWS.out; simp only; omega, by have := HWS.out; simp only; omega⟩, below_step hbw hb, by omega⟩)
 clear hcall hrd hg hbb hb hbw hsz HX e14 m14
 have HW2 := Aside0.mk (show wb.heap.size ≤ w2.heap.size from HRS.out.below.size)
 go_upto_region 6 with (fail)
 go_cut [5] (fun v5 wc => ∃ gp : Nat, v5 = .pointer (some ⟨gp, 0, none⟩) ∧ Aside0 (RS 67 wb [(gp, .cells #[.int .u64 a, .int .u64 b, .int .i64 c, .string (s.extract 14 s.size)] 25 (0, 0)), (w.heap.size, .cells #[.int .u64 0, .int .u64 0, .int .i64 0, .string ⟨#[]⟩] 25 (0, 0))] g bb (L.drop 14) wc) ∧ Aside0 (wb.heap.size ≤ gp))
 case first =>
   go_region_held3 (fun w' => True) (trivial) (first | (go_at_call 33; refine (ether_Take.rs (HRS.out.more (below_drew1 (Below.refl _ _))) HA.out (by decide) (by rw [HN.out]; decide)).mono ?_; rintro e w3 ⟨rfl, hrs⟩; have HW3 := Aside0.mk hrs.below.size; have HRT := Aside0.mk (show RS 67 wb _ g bb (L.drop 6) w3 from hrs); clear hrs HRS) | (go_at_call 33; refine (ether_Take.rs ((HRS.out.alloc (.cells #[.int .u64 0, .int .u64 0, .int .i64 0, .string ⟨#[]⟩] 25)).more (below_drew1 (Below.refl _ _))) HA.out (by decide) (by rw [HN.out]; decide)).mono ?_; rintro e w3 ⟨rfl, hrs⟩; have HW3 := Aside0.mk hrs.below.size; have HRT := Aside0.mk (show RS 67 wb _ g bb (L.drop 6) w3 from hrs); clear hrs HRS) | (go_at_call 33; refine (ether_Take.rs HRT.out HBn.out (by decide) (by rw [List.length_drop, HN.out]; decide)).mono ?_; rintro e w4 ⟨rfl, hrs⟩; have HW4 := Aside0.mk hrs.below.size; have HRU := Aside0.mk (show RS 67 wb _ g bb (L.drop 12) w4 by have := hrs; rw [show (6 : Int).toNat = 6 from rfl, List.drop_drop] at this; exact this); clear hrs HRT) | (go_at_call 33; refine (ether_Take.rs (HRT.out.alloc (.cells #[.int .u64 0, .int .u64 0, .int .i64 0, .string ⟨#[]⟩] 25)) HBn.out (by decide) (by rw [List.length_drop, HN.out]; decide)).mono ?_; rintro e w4 ⟨rfl, hrs⟩; have HW4 := Aside0.mk hrs.below.size; have HRU := Aside0.mk (show RS 67 wb _ g bb (L.drop 12) w4 by have := hrs; rw [show (6 : Int).toNat = 6 from rfl, List.drop_drop] at this; exact this); clear hrs HRT) | (go_at_call 33; refine (ether_Take.rs HRU.out HCn.out (by decide) (by rw [List.length_drop, HN.out]; decide)).mono ?_; rintro e w5 ⟨rfl, hrs⟩; have HRV := Aside0.mk (show RS 67 wb _ g bb (L.drop 14) w5 by have := hrs; rw [show (2 : Int).toNat = 2 from rfl, List.drop_drop] at this; exact this); clear hrs HRU; obtain ⟨y0, y1, y2, y3⟩ := MBlk.c4 (HRV.out.keep _ (List.mem_cons_self ..)).1; obtain ⟨z0, z1, z2, z3⟩ := MBlk.f4 (HRV.out.keep _ (List.mem_cons_self ..)).1) | (go_at_call 33; refine (ether_Take.rs (HRU.out.alloc (.cells #[.int .u64 0, .int .u64 0, .int .i64 0, .string ⟨#[]⟩] 25)) HCn.out (by decide) (by rw [List.length_drop, HN.out]; decide)).mono ?_; rintro e w5 ⟨rfl, hrs⟩; have HRV := Aside0.mk (show RS 67 wb _ g bb (L.drop 14) w5 by have := hrs; rw [show (2 : Int).toNat = 2 from rfl, List.drop_drop] at this; exact this); clear hrs HRU; obtain ⟨y0, y1, y2, y3⟩ := MBlk.c4 (HRV.out.keep _ (List.mem_cons_self ..)).1; obtain ⟨z0, z1, z2, z3⟩ := MBlk.f4 (HRV.out.keep _ (List.mem_cons_self ..)).1))
   all_goals go_wp2
   all_goals go_meet
   case rel => exact ⟨_, rfl, ⟨HRV.out.alloc _⟩, ⟨HRV.out.below.size⟩⟩
   case rel => exact ⟨_, rfl, ⟨RS.all4 HRV.out HW4.out (by intro x hx; obtain rfl := List.mem_singleton.1 hx; have := HWS.out; have := HW4.out; simp only; omega) _ _ _ _⟩, HW4⟩
   case rel => exact ⟨_, rfl, ⟨RS.all4 HRV.out HW3.out (by intro x hx; obtain rfl := List.mem_singleton.1 hx; have := HWS.out; have := HW3.out; simp only; omega) _ _ _ _⟩, HW3⟩
   case rel => exact ⟨_, rfl, ⟨RS.all4 HRV.out HW2.out (by intro x hx; obtain rfl := List.mem_singleton.1 hx; have := HWS.out; have := HW2.out; simp only; omega) _ _ _ _⟩, HW2⟩
 case rest =>
  clear HRS
  obtain ⟨gp, rfl, HRS, HGP⟩ := hcut
  obtain ⟨x0, x1, x2, x3⟩ := MBlk.c4 (HRS.out.keep _ (List.mem_cons_self ..)).1
  go_wp2_with fail
  refine (ether_isFrame.calls _ _ _ _ _ _ HY.out).mono ?_
  rintro e w7 ⟨rfl, hb⟩
  have HR7 := Aside0.mk (HRS.out.more hb)
  clear HRS hb x0 x1 x2 x3
  obtain ⟨x0, x1, x2, x3⟩ := MBlk.c4 (HR7.out.keep _ (List.mem_cons_self ..)).1
  have HK := Aside0.mk (HR7.out.keep _ (List.mem_cons_of_mem _ (List.mem_cons_self ..))).1
  obtain ⟨y0, y1, y2, y3⟩ := MBlk.c4 HK.out
  obtain ⟨z0, z1, z2, z3⟩ := MBlk.f4 HK.out
  cases y with
  | false =>
   go_wp2_with fail
   refine bodyPost_ret (results_ct rfl _ _ _ 25 #[.int .u64 0, .int .u64 0, .int .i64 0, .string ⟨#[]⟩] (0, 0) _ rfl (put4 HK.out _ _ _ _) Tryd.underlying25 rfl (by kernel_rfl)) rfl ?_
   exact ⟨rfl, put4_below (below_step HBW.out HR7.out.below) (by omega) _ _ _ _⟩
  | true =>
   go_wp2_with fail
   refine bodyPost_ret (results_ct rfl _ _ _ 25 #[.int .u64 a, .int .u64 b, .int .i64 c, .string (s.extract 14 s.size)] (0, 0) _ rfl (put4 HK.out _ _ _ _) Tryd.underlying25 rfl (by kernel_rfl)) rfl ?_
   exact ⟨rfl, put4_below (below_step HBW.out HR7.out.below) (by omega) _ _ _ _⟩
set_option maxHeartbeats 2000000 in
set_option maxRecDepth 100000 in
theorem ether_Take.early (s : ByteArray) (e : Int) (w : World) (h : (e = 41 ∧ (s.size : Int) < 14) ∨ (e = 42 ∧ (s.size : Int) > 1514)) :
  Calls Tryd.prog 15 #[.string s] w fun x w' => x = .returned (ether_Take.v (ether_Take.no e)) ∧ Below w.heap.size w w' := by
 have hu25 := Tryd.underlying25
 rcases h with ⟨rfl, h⟩ | ⟨rfl, h⟩
 · go_enter Tryd.func15, Tryd.ntmps15
   go_wp2_with fail
   refine bodyPost_ret (results_ct rfl _ _ _ 25 #[.int .u64 0, .int .u64 0, .int .i64 0, .string ⟨#[]⟩] (0, 0) _ rfl (heap_alloc_new w _) Tryd.underlying25 rfl (by kernel_rfl)) rfl ?_
   exact ⟨rfl, below_alloc (Below.refl _ _) _⟩
 · have h2 : ¬ (s.size : Int) < 14 := by omega
   go_enter Tryd.func15, Tryd.ntmps15
   go_wp2_with fail
   refine bodyPost_ret (results_ct rfl _ _ _ 25 #[.int .u64 0, .int .u64 0, .int .i64 0, .string ⟨#[]⟩] (0, 0) _ rfl (heap_alloc_new w _) Tryd.underlying25 rfl (by kernel_rfl)) rfl ?_
   exact ⟨rfl, below_alloc (Below.refl _ _) _⟩
theorem ether_Take.calls (k : Nat) (a0 : ByteArray) (r1 r2 r3 : Int) (r4 : ByteArray) (r5 : Int) (w : World) (h : ether_Take.f k a0 = some (r1, r2, r3, r4, r5)) :
  Calls Tryd.prog 15 #[.string a0] w fun e w' => e = .returned (.tuple #[.agg #[.int .u64 r1, .int .u64 r2, .int .i64 r3, .string r4], .int .i64 r5]) ∧ Below w.heap.size w w' := by
 have key : ∀ r, ether_Take.f k a0 = some r → Calls Tryd.prog 15 #[.string a0] w fun e w' => e = .returned (ether_Take.v r) ∧ Below w.heap.size w w' := by
  intro r h
  unfold ether_Take.f at h
  by_cases h1 : (a0.size : Int) < 14
  · rw [if_pos h1] at h
    obtain rfl := Option.some.inj h
    exact ether_Take.early a0 41 w (.inl ⟨rfl, h1⟩)
  rw [if_neg h1] at h
  by_cases h2 : (a0.size : Int) > 1514
  · rw [if_pos h2] at h
    obtain rfl := Option.some.inj h
    exact ether_Take.early a0 42 w (.inr ⟨rfl, h2⟩)
  rw [if_neg h2] at h
  obtain ⟨a, ha, h⟩ := Option.bind_eq_some_iff.1 h
  obtain ⟨b, hb, h⟩ := Option.bind_eq_some_iff.1 h
  obtain ⟨c, hc, h⟩ := Option.bind_eq_some_iff.1 h
  by_cases h3 : ¬ (0 ≤ c ∧ c ≤ 65535)
  · rw [if_pos h3] at h; cases h
  rw [if_neg h3] at h
  obtain ⟨y, hy, h⟩ := Option.bind_eq_some_iff.1 h
  obtain rfl := Option.some.inj h
  exact ether_Take.main k a0 a b c y w h1 h2 ha hb hc (by omega) hy
 exact key _ h
theorem ether_Take.mono : ∀ a0 k, LeO (ether_Take.f k a0) (ether_Take.f (k + 1) a0) := by
 intro a0 k
 unfold ether_Take.f
 repeat' first | (with_reducible exact ether_Take.num_mono _ _ _) | (with_reducible exact LeO.refl _) | (with_reducible exact LeO.none _) | (with_reducible refine LeO.ite ?_ ?_) | (with_reducible refine LeO.bind ?_ (fun _ => ?_))

/-! ### octet_Reader_Short: function 35 (by hand) -/
theorem octet_Reader_Short.calls (g b : Nat) (l : List Int) (s : Bool) (w : World) (h : MReader.Rdr 67 w g b l s) :
  Calls Tryd.prog 35 #[.pointer (some ⟨g, 0, none⟩)] w fun e w' => e = .returned (.bool s) ∧ w = w' := by
 obtain ⟨A, c, x0, x1, f0, f1, hl, hC, hA⟩ := h.cells
 clear hl hC hA
 go_enter Tryd.func35, Tryd.ntmps35
 go_wp2
 go_ret
 exact ⟨rfl, rfl⟩

end Go.Proofs.YthajbaheejdoaaaDoor.PBase
