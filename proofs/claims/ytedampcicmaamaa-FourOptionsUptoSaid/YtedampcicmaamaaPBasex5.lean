/- Functions of the program as Lean functions, each with a proof that a call comes to what it says. Conditions: those of each theorem. Laid by a program of this session. -/
import Derived.Test.YtedampcicmaamaaPBasex0
namespace Go.Proofs.Ytedampcicmaamaa.PBase
open Go.RowKit Go.Proofs.Ytedampcicmaamaa Go.Proofs.YtedampcicmaamaaW.PrintWords Go.Proofs.YtedampcicmaamaaW.PrintLast Go.Proofs.YtedampcicmaamaaW.PrintMore
attribute [local go_sem] max2_int min2_int max_two min_two max_three min_three max_four min_four   -- for this text's walks alone
set_option linter.unusedVariables false
set_option linter.unusedSimpArgs false

/-! ### octet_Get: function 41 -/
mutual
def octet_Get.j0 : Nat → List Int → Int → Int → Bool → Option (Int × Bool)
 | 0, _, _, _, _ => none
 | k + 1, x0, x1, x2, x33 => if x33 = true then (some (0, false)) else (octet_Get.l0 k x0 x1 0 x2 0)
def octet_Get.l0 : Nat → List Int → Int → Int → Int → Int → Option (Int × Bool)
 | 0, _, _, _, _, _ => none
 | k + 1, x0, x1, x8, x34, x35 => if x35 < x34 then (if 0 ≤ (wrap64 (x1 + x35)) then (if (wrap64 (x1 + x35)) < (x0.length : Int) then (octet_Get.l0 k x0 x1 (Go.bits .or .u64 (IntKind.u64.wrap (x8 * 256)) (IntKind.u64.wrap (rd x0 (wrap64 (x1 + x35))))) x34 (wrap64 (x35 + 1))) else (none)) else (none)) else (some (x8, true))
end
def octet_Get.f (k : Nat) (l0 : List Int) (a1 : Int) (a2 : Int) : Option (Int × Bool) := if a2 < 0 then (octet_Get.j0 k l0 a1 a2 true) else (if a2 > 8 then (octet_Get.j0 k l0 a1 a2 true) else (if a1 < 0 then (octet_Get.j0 k l0 a1 a2 true) else (if a1 > (l0.length : Int) then (octet_Get.j0 k l0 a1 a2 true) else (octet_Get.j0 k l0 a1 a2 (decide (a2 > (wrap64 ((l0.length : Int) - a1))))))))
theorem octet_Get.mono_l : ∀ k, (∀ y0 y1 y2 y3, LeO (octet_Get.j0 k y0 y1 y2 y3) (octet_Get.j0 (k + 1) y0 y1 y2 y3)) ∧ (∀ y0 y1 y2 y3 y4, LeO (octet_Get.l0 k y0 y1 y2 y3 y4) (octet_Get.l0 (k + 1) y0 y1 y2 y3 y4))
 | 0 => ⟨fun _ _ _ _ r h => by simp [octet_Get.j0] at h, fun _ _ _ _ _ r h => by simp [octet_Get.l0] at h⟩
 | k + 1 => by
  obtain ⟨ih0, ih1⟩ := octet_Get.mono_l k
  refine ⟨?_, ?_⟩
  ·
   intro y0 y1 y2 y3
   unfold octet_Get.j0
   repeat' first
   | (with_reducible exact ih0 _ _ _ _)
   | (with_reducible exact ih1 _ _ _ _ _)
   | (with_reducible exact LeO.refl _)
   | (with_reducible exact LeO.none _)
   | (with_reducible refine LeO.ite ?_ ?_)
   | (with_reducible refine LeO.bind ?_ (fun _ => ?_))
   | exact ih0 _ _ _ _
   | exact ih1 _ _ _ _ _
   | exact LeO.none _
   | refine LeO.ite ?_ ?_
   | refine LeO.bind ?_ (fun _ => ?_)
  ·
   intro y0 y1 y2 y3 y4
   unfold octet_Get.l0
   repeat' first
   | (with_reducible exact ih0 _ _ _ _)
   | (with_reducible exact ih1 _ _ _ _ _)
   | (with_reducible exact LeO.refl _)
   | (with_reducible exact LeO.none _)
   | (with_reducible refine LeO.ite ?_ ?_)
   | (with_reducible refine LeO.bind ?_ (fun _ => ?_))
   | exact ih0 _ _ _ _
   | exact ih1 _ _ _ _ _
   | exact LeO.none _
   | refine LeO.ite ?_ ?_
   | refine LeO.bind ?_ (fun _ => ?_)
theorem octet_Get.mono : ∀ a0 a1 a2 k, LeO (octet_Get.f k a0 a1 a2) (octet_Get.f (k + 1) a0 a1 a2) := by
 intro a0 a1 a2 k
 obtain ⟨ih0, ih1⟩ := octet_Get.mono_l k
 unfold octet_Get.f
 repeat' first
   | (with_reducible exact ih0 _ _ _ _)
   | (with_reducible exact ih1 _ _ _ _ _)
   | (with_reducible exact LeO.refl _)
   | (with_reducible exact LeO.none _)
   | (with_reducible refine LeO.ite ?_ ?_)
   | (with_reducible refine LeO.bind ?_ (fun _ => ?_))
   | exact ih0 _ _ _ _
   | exact ih1 _ _ _ _ _
   | exact LeO.none _
   | refine LeO.ite ?_ ?_
   | refine LeO.bind ?_ (fun _ => ?_)
set_option maxHeartbeats 8000000 in
set_option maxRecDepth 100000 in
theorem octet_Get.calls (k : Nat) (A0 : Option Addr) (c0 : Nat) (l0 : List Int) (a1 : Int) (a2 : Int) (r1 : Int) (r2 : Bool) (w : World) (hr0 : Kd.C (Kd.int .u8) w A0 l0.length l0) (hc0 : l0.length ≤ c0) (h : octet_Get.f k l0 a1 a2 = some (r1, r2)) :
  Calls Try.prog 41 #[.slice A0 l0.length c0, .int .i64 a1, .int .i64 a2] w fun e w' => e = .returned (.tuple #[.int .u64 r1, .bool r2]) ∧ Drawn0 w w' := by
 have HR0 := Aside0.mk hr0
 have HC0 := Aside0.mk hc0
 clear hr0 hc0
 have H : (if a2 < 0 then (octet_Get.j0 k l0 a1 a2 true) else (if a2 > 8 then (octet_Get.j0 k l0 a1 a2 true) else (if a1 < 0 then (octet_Get.j0 k l0 a1 a2 true) else (if a1 > (l0.length : Int) then (octet_Get.j0 k l0 a1 a2 true) else (octet_Get.j0 k l0 a1 a2 (decide (a2 > (wrap64 ((l0.length : Int) - a1))))))))) = some (r1, r2) := h
 clear h
 have HC4 := Aside0.mk H
 clear H
 go_enter Try.func41, Try.ntmps41
 go_upto_region 1 with (fail)
 go_cut [33] (fun v33 wc => ∃ (kq : Nat) (x33_3 : Bool), v33 = .bool x33_3 ∧ Aside0 (octet_Get.j0 kq l0 a1 a2 x33_3 = some (r1, r2)) ∧ Aside0 (kq ≤ k) ∧ Drawn0 w wc)
 case first =>
  have H := HC4.out
  clear HC4
  by_cases c5 : a2 < 0
  ·
   rw [if_pos c5] at H
   have c5b0 : decide (a2 < 0) = true := decide_eq_true c5
   clear c5
   (first | rw [c5b0] | (simp only [i64_w, i32_w]; rw [c5b0]) | skip)
   have H' := Aside0.mk H
   clear H
   go_wp2
   go_meet
   case rel => exact ⟨_, (true), (by first | rfl | (simp; done) | (simp [*]; done)), H', ⟨by first | omega | exact Nat.le_refl _⟩, by repeat (first | exact Drawn0.refl _ | apply Drawn0.step)⟩
  ·
   rw [if_neg c5] at H
   have c5b0 : decide (a2 < 0) = false := decide_eq_false c5
   clear c5
   (first | rw [c5b0] | (simp only [i64_w, i32_w]; rw [c5b0]) | skip)
   by_cases c6 : a2 > 8
   ·
    rw [if_pos c6] at H
    have c6b0 : decide (8 < a2) = true := decide_eq_true c6
    clear c6
    have H' := Aside0.mk H
    clear H
    go_wp2
    go_meet
    case rel => exact ⟨_, (true), (by first | rfl | (simp; done) | (simp [*]; done)), H', ⟨by first | omega | exact Nat.le_refl _⟩, by repeat (first | exact Drawn0.refl _ | apply Drawn0.step)⟩
   ·
    rw [if_neg c6] at H
    have c6b0 : decide (8 < a2) = false := decide_eq_false c6
    clear c6
    by_cases c7 : a1 < 0
    ·
     rw [if_pos c7] at H
     have c7b0 : decide (a1 < 0) = true := decide_eq_true c7
     clear c7
     have H' := Aside0.mk H
     clear H
     go_wp2
     go_meet
     case rel => exact ⟨_, (true), (by first | rfl | (simp; done) | (simp [*]; done)), H', ⟨by first | omega | exact Nat.le_refl _⟩, by repeat (first | exact Drawn0.refl _ | apply Drawn0.step)⟩
    ·
     rw [if_neg c7] at H
     have c7b0 : decide (a1 < 0) = false := decide_eq_false c7
     clear c7
     by_cases c8 : a1 > (l0.length : Int)
     ·
      rw [if_pos c8] at H
      have c8b0 : decide ((l0.length : Int) < a1) = true := decide_eq_true c8
      clear c8
      have H' := Aside0.mk H
      clear H
      go_wp2
      go_meet
      case rel => exact ⟨_, (true), (by first | rfl | (simp; done) | (simp [*]; done)), H', ⟨by first | omega | exact Nat.le_refl _⟩, by repeat (first | exact Drawn0.refl _ | apply Drawn0.step)⟩
     ·
      rw [if_neg c8] at H
      have c8b0 : decide ((l0.length : Int) < a1) = false := decide_eq_false c8
      clear c8
      have H' := Aside0.mk H
      clear H
      go_wp2
      go_meet
      case rel => exact ⟨_, (decide (a2 > (wrap64 ((l0.length : Int) - a1)))), (by first | rfl | (simp; done) | (simp [*]; done)), H', ⟨by first | omega | exact Nat.le_refl _⟩, by repeat (first | exact Drawn0.refl _ | apply Drawn0.step)⟩
 case rest =>
  clear HC4
  try clear p2
  try clear c4
  try clear c5
  try clear c5b0
  try clear c6
  try clear c6b0
  try clear p6
  try clear c7
  try clear c7b0
  try clear c8
  try clear c8b0
  obtain ⟨kq, x33_3, rfl, HA, HJ3, ⟨mc3, rfl⟩⟩ := hcut
  cases kq with
  | zero => exact absurd HA.out (by simp [octet_Get.j0])
  | succ kj3 =>
   have H := HA.out
   clear HA
   simp only [octet_Get.j0] at H
   by_cases c9 : x33_3 = true
   ·
    subst c9
    rw [if_pos rfl] at H
    simp only [Option.some.injEq, Prod.mk.injEq] at H
    obtain ⟨rfl, rfl⟩ := H
    go_wp2
    go_ret2
    exact ⟨by first | rfl | (simp; done) | (simp [*]; done), by repeat (first | exact Drawn0.refl _ | apply Drawn0.step)⟩
   ·
    replace c9 := Bool.eq_false_iff.mpr c9
    subst c9
    rw [if_neg (show ¬ (false = true) by decide)] at H
    have H' := Aside0.mk H
    clear H
    go_wp2
    go_loopg [8, 35] kj3 (fun kq v8 v35 w' => ∃ (x8_2 : Int) (x35_2 : Int), v8 = .int .u64 x8_2 ∧ v35 = .int .i64 x35_2 ∧ Aside0 (octet_Get.l0 kq l0 a1 x8_2 a2 x35_2 = some (r1, r2)) ∧ Aside0 (kq ≤ kj3) ∧ Drawn0 w w')
    case atStart => exact ⟨(0), (0), (by first | rfl | (simp; done) | (simp [*]; done)), (by first | rfl | (simp; done) | (simp [*]; done)), H', ⟨Nat.le_refl _⟩, by repeat (first | exact Drawn0.refl _ | apply Drawn0.step)⟩
    case round =>
     clear H'
     try clear p2
     try clear c3
     try clear c4
     try clear c5
     try clear c5b0
     try clear c6
     try clear c6b0
     try clear p6
     try clear c7
     try clear c7b0
     try clear c8
     try clear c8b0
     try clear c9
     try clear p2
     try clear p6
     obtain ⟨x8_2, x35_2, rfl, rfl, HA, HK2, ⟨m2, rfl⟩⟩ := hrel
     cases gk with
     | zero => exact absurd HA.out (by simp [octet_Get.l0])
     | succ k2 =>
      have H := HA.out
      clear HA
      simp only [octet_Get.l0] at H
      by_cases c10 : x35_2 < a2
      ·
       rw [if_pos c10] at H
       have c10b0 : decide (x35_2 < a2) = true := decide_eq_true c10
       clear c10
       obtain ⟨ji11, hji11⟩ : ∃ j_ : Int, (wrap64 (a1 + x35_2)) = j_ := ⟨_, rfl⟩
       replace H : (if 0 ≤ (ji11) then (if (ji11) < (l0.length : Int) then (octet_Get.l0 k2 l0 a1 (Go.bits .or .u64 (IntKind.u64.wrap (x8_2 * 256)) (IntKind.u64.wrap (rd l0 (ji11)))) a2 (wrap64 (x35_2 + 1))) else (none)) else (none)) = some (r1, r2) := by first | (rw [hji11] at H; exact H) | (simp only [hji11] at H ⊢; exact H)
       have hji11w : (IntKind.i64.wrap (a1 + x35_2)) = ji11 := (i64_w _).trans hji11
       by_cases c12 : 0 ≤ (ji11)
       ·
        rw [if_pos c12] at H
        have c12b0 : decide (0 ≤ (ji11)) = true := decide_eq_true c12
        clear c12
        by_cases c13 : (ji11) < (l0.length : Int)
        ·
         rw [if_pos c13] at H
         have c13b0 : decide ((ji11) < (l0.length : Int)) = true := decide_eq_true c13
         clear c13
         have H' := Aside0.mk H
         clear H
         have p121 : 0 ≤ ((ji11) : Int) := of_decide_eq_true (by first | (with_reducible assumption) | assumption)
         have q121 : (ji11) < (l0.length : Int) := of_decide_eq_true (by first | (with_reducible assumption) | assumption)
         obtain ⟨ad121, e121, hx121_0⟩ := Kd.at_int HR0.out (ji11) p121 q121
         cases e121
         replace p121 := eq_true p121
         replace q121 := eq_true q121
         go_wp2
         go_roundg k2
         case measure => have := HJ3.out; have := HK2.out; omega
         case rel => exact ⟨(Go.bits .or .u64 (IntKind.u64.wrap (x8_2 * 256)) (IntKind.u64.wrap (rd l0 (ji11)))), (wrap64 (x35_2 + 1)), (by first | rfl | (simp; done) | (simp only [← hji11] <;> (first | rfl | simp)) | (simp [*]; done)), (by first | rfl | (simp; done) | (simp [*]; done)), H', ⟨by have := HJ3.out; have := HK2.out; omega⟩, by repeat (first | exact Drawn0.refl _ | apply Drawn0.step)⟩
        ·
         rw [if_neg c13] at H
         exact absurd H (by simp)
       ·
        rw [if_neg c12] at H
        exact absurd H (by simp)
      ·
       rw [if_neg c10] at H
       have c10b0 : decide (x35_2 < a2) = false := decide_eq_false c10
       clear c10
       simp only [Option.some.injEq, Prod.mk.injEq] at H
       obtain ⟨rfl, rfl⟩ := H
       go_wp2
       go_ret2
       exact ⟨by first | rfl | (simp; done) | (simp [*]; done), by repeat (first | exact Drawn0.refl _ | apply Drawn0.step)⟩

/-! ### octet_Reader_ends: function 42 (by hand) -/
set_option maxHeartbeats 400000 in
theorem octet_Reader_ends.calls (g b : Nat) (l : List Int) (s : Bool) (w : World) (h : MReader.Rdr 67 w g b l s) :
  Calls Try.prog 42 #[.pointer (some ⟨g, 0, none⟩)] w fun e w' => e = .returned (.tuple #[]) ∧ MReader.Rdr 67 w' g b [] true ∧ w.grownBy w' (some g) := by
 obtain ⟨A, c, x0, x1, f0, f1, hl, hC, hA⟩ := h.cells
 obtain ⟨⟨A', c', h1, _⟩, hlt, hne⟩ := h
 have H1 := Aside0.mk h1
 clear h1 hl hC hA
 go_enter Try.func42, Try.ntmps42
 go_wp2
 go_end0
 have e1 := MReader.setCell_heap (j := 1) (u := .bool true) (MReader.setCell_heap (j := 0) (u := .slice none 0 0) H1.out)
 refine ⟨rfl, ⟨⟨none, 0, by simpa using e1, Nat.le_refl _, Kd.C_nil _ _, fun _ => rfl, fun _ h0 => by cases h0⟩, by simpa [World.setCell] using hlt, hne⟩, ?_⟩
 exact MReader.grown_trans (MReader.setCell_grown _ _ _ _) (MReader.setCell_grown _ _ _ _)

/-! ### octet_Reader_Num: function 30 (by hand) -/
set_option maxHeartbeats 1000000 in
set_option maxRecDepth 100000 in
theorem octet_Reader_Num.bad (k : Nat) (g b : Nat) (l : List Int) (s : Bool) (width n : Int) (ok : Bool) (w : World) (h : MReader.Rdr 67 w g b l s) (hg : octet_Get.f k l 0 width = some (n, ok)) (hbad : s = true ∨ ok = false) :
  Calls Try.prog 30 #[.pointer (some ⟨g, 0, none⟩), .int .i64 width] w fun e w' => e = .returned (.int .u64 0) ∧ MReader.Rdr 67 w' g b [] true ∧ w.grownBy w' (some g) := by
 obtain ⟨A, c, x0, x1, f0, f1, hl, hC, hN, hA⟩ := h.cells
 have HR := Aside0.mk h
 have HG := Aside0.mk hg
 have HC := Aside0.mk hC
 have HL := Aside0.mk hl
 clear h hg hl hC hN hA
 cases s with
 | true =>
  clear hbad
  go_enter Try.func30, Try.ntmps30
  go_wp2_with fail
  refine (octet_Get.calls k _ _ l 0 width n ok _ HC.out HL.out HG.out).mono ?_
  rintro e w2 ⟨rfl, ⟨nd, rfl⟩⟩
  go_wp2_with fail
  refine (octet_Reader_ends.calls g b l true _ (HR.out.drewN nd)).mono ?_
  rintro e w3 ⟨rfl, hr, hgr⟩
  have HR3 := Aside0.mk hr
  have HG3 := Aside0.mk hgr
  clear hr hgr
  go_wp2_with fail
  go_ret
  exact ⟨rfl, HR3.out, MReader.drewN_grown HG3.out⟩
 | false =>
  obtain rfl : ok = false := by rcases hbad with h | h; cases h; exact h
  clear hbad
  go_enter Try.func30, Try.ntmps30
  go_wp2_with fail
  refine (octet_Get.calls k _ _ l 0 width n false _ HC.out HL.out HG.out).mono ?_
  rintro e w2 ⟨rfl, ⟨nd, rfl⟩⟩
  go_wp2_with fail
  refine (octet_Reader_ends.calls g b l false _ (HR.out.drewN nd)).mono ?_
  rintro e w3 ⟨rfl, hr, hgr⟩
  have HR3 := Aside0.mk hr
  have HG3 := Aside0.mk hgr
  clear hr hgr
  go_wp2_with fail
  go_ret
  exact ⟨rfl, HR3.out, MReader.drewN_grown HG3.out⟩
set_option maxHeartbeats 1000000 in
set_option maxRecDepth 100000 in
theorem octet_Reader_Num.ok (k : Nat) (g b : Nat) (l : List Int) (width n : Int) (w : World) (h : MReader.Rdr 67 w g b l false) (hg : octet_Get.f k l 0 width = some (n, true)) (h0 : 0 ≤ width) (h1 : width ≤ (l.length : Int)) :
  Calls Try.prog 30 #[.pointer (some ⟨g, 0, none⟩), .int .i64 width] w fun e w' => e = .returned (.int .u64 n) ∧ MReader.Rdr 67 w' g b (l.drop width.toNat) false ∧ w.grownBy w' (some g) := by
 obtain ⟨A, c, x0, x1, f0, f1, hl, hC, hN, hA⟩ := h.cells
 have HR := Aside0.mk h
 have HG := Aside0.mk hg
 have HC := Aside0.mk hC
 have HL := Aside0.mk hl
 obtain ⟨m, rfl⟩ := Int.eq_ofNat_of_zero_le h0
 have hml : m ≤ l.length := by omega
 have hmc : m ≤ c := by omega
 clear h hg hC h0
 by_cases hcm : c = m
 ·
  subst hcm
  go_enter Try.func30, Try.ntmps30
  go_wp2_with fail
  refine (octet_Get.calls k _ _ l 0 c n true _ HC.out HL.out HG.out).mono ?_
  rintro e w2 ⟨rfl, ⟨nd, rfl⟩⟩
  go_wp2_with fail
  go_ret
  obtain ⟨⟨A', c', e0, _⟩, hlt, hne⟩ := HR.out
  have e1 := MReader.setCell_heap (w := w.drewN nd) (j := 0) (u := .slice A 0 0) e0
  have hd : l.drop ((c : Int)).toNat = [] := List.drop_eq_nil_of_le (by omega)
  rw [hd]
  refine ⟨rfl, ⟨⟨A, 0, by simpa using e1, Nat.le_refl _, ⟨rfl, Nat.zero_le _, fun h0 => by cases h0⟩, fun _ => rfl, hA⟩, by simpa [World.setCell] using hlt, hne⟩, ?_⟩
  exact MReader.drewN_grown (MReader.setCell_grown _ _ _ _)
 ·
  cases A with
  | none => have := hN rfl; omega
  | some ad =>
   obtain ⟨q, hq⟩ : ∃ q, c - m = q := ⟨_, rfl⟩
   obtain ⟨r, hr⟩ : ∃ r, l.length - m = r := ⟨_, rfl⟩
   have HQ := Aside0.mk hq
   have HRr := Aside0.mk hr
   clear hq hr
   go_enter Try.func30, Try.ntmps30
   go_wp2_with fail
   refine (octet_Get.calls k _ _ l 0 m n true _ HC.out HL.out HG.out).mono ?_
   rintro e w2 ⟨rfl, ⟨nd, rfl⟩⟩
   go_wp2_with fail
   go_ret
   obtain ⟨⟨A', c', e0, _⟩, hlt, hne⟩ := HR.out
   have e1 := MReader.setCell_heap (w := w.drewN nd) (j := 0) (u := .slice (some (ad.add m)) (l.length - m) (c - m)) e0
   have hC2 := Kd.C_drop (c := c) HC.out hml HL.out
   rw [if_neg hcm] at hC2
   have hld : (l.drop m).length = l.length - m := List.length_drop
   rw [Int.toNat_natCast]
   refine ⟨rfl, ⟨⟨some (ad.add m), c - m, by rw [hld]; simpa using e1, by omega, ?_, (fun h0 => by cases h0), fun a ha => ?_⟩, by simpa [World.setCell] using hlt, hne⟩, MReader.drewN_grown (MReader.setCell_grown _ _ _ _)⟩
   · refine MReader.C_block (w := w) (b := b) ?_ (fun a ha => ?_) ?_
     · have e2 : (Kd.int .u8).sz = 1 := rfl
       rw [e2, Nat.mul_one] at hC2
       exact hC2
     · injection ha with ha
       rw [← ha, add_block]; exact hA _ rfl
     · exact Below.heap_setCell (w.drewN nd) ⟨g, 0, none⟩ _ b hne
   · injection ha with ha
     rw [← ha, add_block]; exact hA _ rfl

end Go.Proofs.Ytedampcicmaamaa.PBase
