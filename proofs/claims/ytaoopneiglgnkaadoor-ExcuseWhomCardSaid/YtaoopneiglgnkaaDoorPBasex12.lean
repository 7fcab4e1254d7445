/- Functions of the program as Lean functions, each with a proof that a call comes to what it says. Conditions: those of each theorem. Laid by a program of this session. -/
import Derived.Test.YtaoopneiglgnkaaDoorPBasex0
import Derived.Test.YtaoopneiglgnkaaDoorPBasex4
import Derived.Test.YtaoopneiglgnkaaDoorPBasex5
import Derived.Test.YtaoopneiglgnkaaDoorPBasex7
import Derived.Test.YtaoopneiglgnkaaDoorPBasex9
import Derived.Test.YtaoopneiglgnkaaDoorPBasex10
import Derived.Test.YtaoopneiglgnkaaDoorPBasex11
namespace Go.Proofs.YtaoopneiglgnkaaDoor.PBase
open Go.RowKit Go.Proofs.YtaoopneiglgnkaaDoor Go.Proofs.YtaoopneiglgnkaaDoorW.PrintWords Go.Proofs.YtaoopneiglgnkaaDoorW.PrintLast Go.Proofs.YtaoopneiglgnkaaDoorW.PrintMore
attribute [local go_sem] max2_int min2_int max_two min_two max_three min_three max_four min_four   -- for this text's walks alone
set_option linter.unusedVariables false
set_option linter.unusedSimpArgs false

/-! ### excuse_Of: function 12 -/
mutual
def excuse_Of.j0 : Nat → Int → ByteArray → Int → Bool → Int → Int → Bool → Int → Int → Bool → Bool → Int → Int → Option (ByteArray × Int)
 | 0, _, _, _, _, _, _, _, _, _, _, _, _, _ => none
 | k + 1, x0, x1, x3, x10, x11, x12, x13, x14, x15, x37, x256000, x256001, x256002 => if x37 = true then (excuse_Of.j1 k x0 x1 x3 x10 x11 x12 x13 x14 255 x256000 x256001 x256002) else (excuse_Of.j1 k x0 x1 x3 x10 x11 x12 x13 x14 x15 x256000 x256001 x256002)
def excuse_Of.j1 : Nat → Int → ByteArray → Int → Bool → Int → Int → Bool → Int → Int → Bool → Int → Int → Option (ByteArray × Int)
 | 0, _, _, _, _, _, _, _, _, _, _, _, _ => none
 | k + 1, x0, x1, x3, x10, x11, x12, x13, x14, x15, x256000, x256001, x256002 => if x13 = true then (if (x256000 != x10) = true then (excuse_Of.j2 k x0 x1 x3 x10 x11 x12 true x256000 x256001 x256002) else (if x14 = 5 then (if x3 < 0 then (excuse_Of.j2 k x0 x1 x3 x10 x11 x12 true x256000 x256001 x256002) else (excuse_Of.j2 k x0 x1 x3 x10 x11 x12 (decide (x3 > x15)) x256000 x256001 x256002)) else (if x14 = 2 then (if x3 < 0 then (excuse_Of.j2 k x0 x1 x3 x10 x11 x12 true x256000 x256001 x256002) else (excuse_Of.j2 k x0 x1 x3 x10 x11 x12 (decide (x3 > x15)) x256000 x256001 x256002)) else (excuse_Of.j2 k x0 x1 x3 x10 x11 x12 true x256000 x256001 x256002)))) else (excuse_Of.j2 k x0 x1 x3 x10 x11 x12 true x256000 x256001 x256002)
def excuse_Of.j2 : Nat → Int → ByteArray → Int → Bool → Int → Int → Bool → Bool → Int → Int → Option (ByteArray × Int)
 | 0, _, _, _, _, _, _, _, _, _, _ => none
 | k + 1, x0, x1, x3, x10, x11, x12, x38, x256000, x256001, x256002 => if x38 = true then (some ((⟨#[]⟩ : ByteArray), 1)) else ((excuse_May.f k x1).bind fun t261 => (if t261 = true then ((excuse_quote.f k x1).bind fun bt262 => (if x0 = 6 then (excuse_Of.j3 k x0 x3 x10 (!x10) x256000 x256001 x256002 bt262.2.1 bt262.2.2.1 bt262.2.2.2 x10 x11 x12 0 bt262.1) else (excuse_Of.j3 k x0 x3 x10 false x256000 x256001 x256002 bt262.2.1 bt262.2.2.1 bt262.2.2.2 x10 x11 x12 0 bt262.1))) else (some ((⟨#[]⟩ : ByteArray), 170))))
def excuse_Of.j4 : Nat → Bool → Bool → Int → Int → Bool → Int → Int → Bool → Int → Int → Int → ByteArray → Option (ByteArray × Int)
 | 0, _, _, _, _, _, _, _, _, _, _, _, _ => none
 | k + 1, x10, x256000, x256001, x256002, x267000, x267001, x267002, x268000, x268001, x268002, x268003, x268004 => (icmp_Lay.f k x268000 x268001 x268002 x268003 x268004 x256000 x256001 x256002 x267000 x267001 x267002).bind fun bt268 => (if x10 = true then ((ip6_Lay.f 0 0 58 64 x256000 x256001 x256002 x267000 x267001 x267002 bt268.1).bind fun bt270 => (some (bt270.1, bt270.2))) else ((ip4_Lay.f k 0 0 false false 0 64 1 x256000 x256001 x256002 x267000 x267001 x267002 (⟨#[]⟩ : ByteArray) bt268.1).bind fun bt272 => (some (bt272.1, bt272.2))))
def excuse_Of.j3 : Nat → Int → Int → Bool → Bool → Bool → Int → Int → Bool → Int → Int → Bool → Int → Int → Int → ByteArray → Option (ByteArray × Int)
 | 0, _, _, _, _, _, _, _, _, _, _, _, _, _, _, _ => none
 | k + 1, x0, x3, x10, x78, x256000, x256001, x256002, x267000, x267001, x267002, x268000, x268001, x268002, x268003, x268004 => if x78 = true then (excuse_Of.j4 k x10 x256000 x256001 x256002 x267000 x267001 x267002 x268000 x268001 x268002 (wrap64 (x3 * 16777216)) x268004) else (if x0 = 6 then (excuse_Of.j4 k x10 x256000 x256001 x256002 x267000 x267001 x267002 x268000 x268001 x268002 x3 x268004) else (if x0 = 4 then (excuse_Of.j4 k x10 x256000 x256001 x256002 x267000 x267001 x267002 x268000 x268001 x268002 x3 x268004) else (excuse_Of.j4 k x10 x256000 x256001 x256002 x267000 x267001 x267002 x268000 x268001 x268002 x268003 x268004)))
end
def excuse_Of.f (k : Nat) (a0 : Int) (a1 : ByteArray) (a2_0 : Bool) (a2_1 : Int) (a2_2 : Int) (a3 : Int) : Option (ByteArray × Int) := (excuse_isSix.f a1).bind fun t256 => ((excuse_Kind.f a0 t256).bind fun bt257 => ((addr_Class.f a2_0 a2_1 a2_2).bind fun t260 => (if a0 = 6 then (excuse_Of.j0 k a0 a1 a3 t256 bt257.1 bt257.2.1 bt257.2.2 t260 65535 (!t256) a2_0 a2_1 a2_2) else (excuse_Of.j0 k a0 a1 a3 t256 bt257.1 bt257.2.1 bt257.2.2 t260 65535 false a2_0 a2_1 a2_2))))
theorem excuse_Of.mono_l : ∀ k, (∀ y0 y1 y2 y3 y4 y5 y6 y7 y8 y9 y10 y11 y12, LeO (excuse_Of.j0 k y0 y1 y2 y3 y4 y5 y6 y7 y8 y9 y10 y11 y12) (excuse_Of.j0 (k + 1) y0 y1 y2 y3 y4 y5 y6 y7 y8 y9 y10 y11 y12)) ∧ (∀ y0 y1 y2 y3 y4 y5 y6 y7 y8 y9 y10 y11, LeO (excuse_Of.j1 k y0 y1 y2 y3 y4 y5 y6 y7 y8 y9 y10 y11) (excuse_Of.j1 (k + 1) y0 y1 y2 y3 y4 y5 y6 y7 y8 y9 y10 y11)) ∧ (∀ y0 y1 y2 y3 y4 y5 y6 y7 y8 y9, LeO (excuse_Of.j2 k y0 y1 y2 y3 y4 y5 y6 y7 y8 y9) (excuse_Of.j2 (k + 1) y0 y1 y2 y3 y4 y5 y6 y7 y8 y9)) ∧ (∀ y0 y1 y2 y3 y4 y5 y6 y7 y8 y9 y10 y11, LeO (excuse_Of.j4 k y0 y1 y2 y3 y4 y5 y6 y7 y8 y9 y10 y11) (excuse_Of.j4 (k + 1) y0 y1 y2 y3 y4 y5 y6 y7 y8 y9 y10 y11)) ∧ (∀ y0 y1 y2 y3 y4 y5 y6 y7 y8 y9 y10 y11 y12 y13 y14, LeO (excuse_Of.j3 k y0 y1 y2 y3 y4 y5 y6 y7 y8 y9 y10 y11 y12 y13 y14) (excuse_Of.j3 (k + 1) y0 y1 y2 y3 y4 y5 y6 y7 y8 y9 y10 y11 y12 y13 y14))
 | 0 => ⟨fun _ _ _ _ _ _ _ _ _ _ _ _ _ r h => by simp [excuse_Of.j0] at h, fun _ _ _ _ _ _ _ _ _ _ _ _ r h => by simp [excuse_Of.j1] at h, fun _ _ _ _ _ _ _ _ _ _ r h => by simp [excuse_Of.j2] at h, fun _ _ _ _ _ _ _ _ _ _ _ _ r h => by simp [excuse_Of.j4] at h, fun _ _ _ _ _ _ _ _ _ _ _ _ _ _ _ r h => by simp [excuse_Of.j3] at h⟩
 | k + 1 => by
  obtain ⟨ih0, ih1, ih2, ih3, ih4⟩ := excuse_Of.mono_l k
  refine ⟨?_, ?_, ?_, ?_, ?_⟩
  ·
   intro y0 y1 y2 y3 y4 y5 y6 y7 y8 y9 y10 y11 y12
   unfold excuse_Of.j0
   repeat' first
   | (with_reducible exact ih0 _ _ _ _ _ _ _ _ _ _ _ _ _)
   | (with_reducible exact ih1 _ _ _ _ _ _ _ _ _ _ _ _)
   | (with_reducible exact ih2 _ _ _ _ _ _ _ _ _ _)
   | (with_reducible exact ih3 _ _ _ _ _ _ _ _ _ _ _ _)
   | (with_reducible exact ih4 _ _ _ _ _ _ _ _ _ _ _ _ _ _ _)
   | (with_reducible exact excuse_May.mono _ _)
   | (with_reducible exact excuse_quote.mono _ _)
   | (with_reducible exact icmp_Lay.mono _ _ _ _ _ _ _ _ _ _ _ _)
   | (with_reducible exact ip4_Lay.mono _ _ _ _ _ _ _ _ _ _ _ _ _ _ _ _)
   | (with_reducible exact LeO.refl _)
   | (with_reducible exact LeO.none _)
   | (with_reducible refine LeO.ite ?_ ?_)
   | (with_reducible refine LeO.bind ?_ (fun _ => ?_))
   | exact ih0 _ _ _ _ _ _ _ _ _ _ _ _ _
   | exact ih1 _ _ _ _ _ _ _ _ _ _ _ _
   | exact ih2 _ _ _ _ _ _ _ _ _ _
   | exact ih3 _ _ _ _ _ _ _ _ _ _ _ _
   | exact ih4 _ _ _ _ _ _ _ _ _ _ _ _ _ _ _
   | exact excuse_May.mono _ _
   | exact excuse_quote.mono _ _
   | exact icmp_Lay.mono _ _ _ _ _ _ _ _ _ _ _ _
   | exact ip4_Lay.mono _ _ _ _ _ _ _ _ _ _ _ _ _ _ _ _
   | exact LeO.none _
   | refine LeO.ite ?_ ?_
   | refine LeO.bind ?_ (fun _ => ?_)
  ·
   intro y0 y1 y2 y3 y4 y5 y6 y7 y8 y9 y10 y11
   unfold excuse_Of.j1
   repeat' first
   | (with_reducible exact ih0 _ _ _ _ _ _ _ _ _ _ _ _ _)
   | (with_reducible exact ih1 _ _ _ _ _ _ _ _ _ _ _ _)
   | (with_reducible exact ih2 _ _ _ _ _ _ _ _ _ _)
   | (with_reducible exact ih3 _ _ _ _ _ _ _ _ _ _ _ _)
   | (with_reducible exact ih4 _ _ _ _ _ _ _ _ _ _ _ _ _ _ _)
   | (with_reducible exact excuse_May.mono _ _)
   | (with_reducible exact excuse_quote.mono _ _)
   | (with_reducible exact icmp_Lay.mono _ _ _ _ _ _ _ _ _ _ _ _)
   | (with_reducible exact ip4_Lay.mono _ _ _ _ _ _ _ _ _ _ _ _ _ _ _ _)
   | (with_reducible exact LeO.refl _)
   | (with_reducible exact LeO.none _)
   | (with_reducible refine LeO.ite ?_ ?_)
   | (with_reducible refine LeO.bind ?_ (fun _ => ?_))
   | exact ih0 _ _ _ _ _ _ _ _ _ _ _ _ _
   | exact ih1 _ _ _ _ _ _ _ _ _ _ _ _
   | exact ih2 _ _ _ _ _ _ _ _ _ _
   | exact ih3 _ _ _ _ _ _ _ _ _ _ _ _
   | exact ih4 _ _ _ _ _ _ _ _ _ _ _ _ _ _ _
   | exact excuse_May.mono _ _
   | exact excuse_quote.mono _ _
   | exact icmp_Lay.mono _ _ _ _ _ _ _ _ _ _ _ _
   | exact ip4_Lay.mono _ _ _ _ _ _ _ _ _ _ _ _ _ _ _ _
   | exact LeO.none _
   | refine LeO.ite ?_ ?_
   | refine LeO.bind ?_ (fun _ => ?_)
  ·
   intro y0 y1 y2 y3 y4 y5 y6 y7 y8 y9
   unfold excuse_Of.j2
   repeat' first
   | (with_reducible exact ih0 _ _ _ _ _ _ _ _ _ _ _ _ _)
   | (with_reducible exact ih1 _ _ _ _ _ _ _ _ _ _ _ _)
   | (with_reducible exact ih2 _ _ _ _ _ _ _ _ _ _)
   | (with_reducible exact ih3 _ _ _ _ _ _ _ _ _ _ _ _)
   | (with_reducible exact ih4 _ _ _ _ _ _ _ _ _ _ _ _ _ _ _)
   | (with_reducible exact excuse_May.mono _ _)
   | (with_reducible exact excuse_quote.mono _ _)
   | (with_reducible exact icmp_Lay.mono _ _ _ _ _ _ _ _ _ _ _ _)
   | (with_reducible exact ip4_Lay.mono _ _ _ _ _ _ _ _ _ _ _ _ _ _ _ _)
   | (with_reducible exact LeO.refl _)
   | (with_reducible exact LeO.none _)
   | (with_reducible refine LeO.ite ?_ ?_)
   | (with_reducible refine LeO.bind ?_ (fun _ => ?_))
   | exact ih0 _ _ _ _ _ _ _ _ _ _ _ _ _
   | exact ih1 _ _ _ _ _ _ _ _ _ _ _ _
   | exact ih2 _ _ _ _ _ _ _ _ _ _
   | exact ih3 _ _ _ _ _ _ _ _ _ _ _ _
   | exact ih4 _ _ _ _ _ _ _ _ _ _ _ _ _ _ _
   | exact excuse_May.mono _ _
   | exact excuse_quote.mono _ _
   | exact icmp_Lay.mono _ _ _ _ _ _ _ _ _ _ _ _
   | exact ip4_Lay.mono _ _ _ _ _ _ _ _ _ _ _ _ _ _ _ _
   | exact LeO.none _
   | refine LeO.ite ?_ ?_
   | refine LeO.bind ?_ (fun _ => ?_)
  ·
   intro y0 y1 y2 y3 y4 y5 y6 y7 y8 y9 y10 y11
   unfold excuse_Of.j4
   repeat' first
   | (with_reducible exact ih0 _ _ _ _ _ _ _ _ _ _ _ _ _)
   | (with_reducible exact ih1 _ _ _ _ _ _ _ _ _ _ _ _)
   | (with_reducible exact ih2 _ _ _ _ _ _ _ _ _ _)
   | (with_reducible exact ih3 _ _ _ _ _ _ _ _ _ _ _ _)
   | (with_reducible exact ih4 _ _ _ _ _ _ _ _ _ _ _ _ _ _ _)
   | (with_reducible exact excuse_May.mono _ _)
   | (with_reducible exact excuse_quote.mono _ _)
   | (with_reducible exact icmp_Lay.mono _ _ _ _ _ _ _ _ _ _ _ _)
   | (with_reducible exact ip4_Lay.mono _ _ _ _ _ _ _ _ _ _ _ _ _ _ _ _)
   | (with_reducible exact LeO.refl _)
   | (with_reducible exact LeO.none _)
   | (with_reducible refine LeO.ite ?_ ?_)
   | (with_reducible refine LeO.bind ?_ (fun _ => ?_))
   | exact ih0 _ _ _ _ _ _ _ _ _ _ _ _ _
   | exact ih1 _ _ _ _ _ _ _ _ _ _ _ _
   | exact ih2 _ _ _ _ _ _ _ _ _ _
   | exact ih3 _ _ _ _ _ _ _ _ _ _ _ _
   | exact ih4 _ _ _ _ _ _ _ _ _ _ _ _ _ _ _
   | exact excuse_May.mono _ _
   | exact excuse_quote.mono _ _
   | exact icmp_Lay.mono _ _ _ _ _ _ _ _ _ _ _ _
   | exact ip4_Lay.mono _ _ _ _ _ _ _ _ _ _ _ _ _ _ _ _
   | exact LeO.none _
   | refine LeO.ite ?_ ?_
   | refine LeO.bind ?_ (fun _ => ?_)
  ·
   intro y0 y1 y2 y3 y4 y5 y6 y7 y8 y9 y10 y11 y12 y13 y14
   unfold excuse_Of.j3
   repeat' first
   | (with_reducible exact ih0 _ _ _ _ _ _ _ _ _ _ _ _ _)
   | (with_reducible exact ih1 _ _ _ _ _ _ _ _ _ _ _ _)
   | (with_reducible exact ih2 _ _ _ _ _ _ _ _ _ _)
   | (with_reducible exact ih3 _ _ _ _ _ _ _ _ _ _ _ _)
   | (with_reducible exact ih4 _ _ _ _ _ _ _ _ _ _ _ _ _ _ _)
   | (with_reducible exact excuse_May.mono _ _)
   | (with_reducible exact excuse_quote.mono _ _)
   | (with_reducible exact icmp_Lay.mono _ _ _ _ _ _ _ _ _ _ _ _)
   | (with_reducible exact ip4_Lay.mono _ _ _ _ _ _ _ _ _ _ _ _ _ _ _ _)
   | (with_reducible exact LeO.refl _)
   | (with_reducible exact LeO.none _)
   | (with_reducible refine LeO.ite ?_ ?_)
   | (with_reducible refine LeO.bind ?_ (fun _ => ?_))
   | exact ih0 _ _ _ _ _ _ _ _ _ _ _ _ _
   | exact ih1 _ _ _ _ _ _ _ _ _ _ _ _
   | exact ih2 _ _ _ _ _ _ _ _ _ _
   | exact ih3 _ _ _ _ _ _ _ _ _ _ _ _
   | exact ih4 _ _ _ _ _ _ _ _ _ _ _ _ _ _ _
   | exact excuse_May.mono _ _
   | exact excuse_quote.mono _ _
   | exact icmp_Lay.mono _ _ _ _ _ _ _ _ _ _ _ _
   | exact ip4_Lay.mono _ _ _ _ _ _ _ _ _ _ _ _ _ _ _ _
   | exact LeO.none _
   | refine LeO.ite ?_ ?_
   | refine LeO.bind ?_ (fun _ => ?_)
theorem excuse_Of.mono : ∀ a0 a1 a2 a3 a4 a5 k, LeO (excuse_Of.f k a0 a1 a2 a3 a4 a5) (excuse_Of.f (k + 1) a0 a1 a2 a3 a4 a5) := by
 intro a0 a1 a2 a3 a4 a5 k
 obtain ⟨ih0, ih1, ih2, ih3, ih4⟩ := excuse_Of.mono_l k
 unfold excuse_Of.f
 repeat' first
   | (with_reducible exact ih0 _ _ _ _ _ _ _ _ _ _ _ _ _)
   | (with_reducible exact ih1 _ _ _ _ _ _ _ _ _ _ _ _)
   | (with_reducible exact ih2 _ _ _ _ _ _ _ _ _ _)
   | (with_reducible exact ih3 _ _ _ _ _ _ _ _ _ _ _ _)
   | (with_reducible exact ih4 _ _ _ _ _ _ _ _ _ _ _ _ _ _ _)
   | (with_reducible exact excuse_May.mono _ _)
   | (with_reducible exact excuse_quote.mono _ _)
   | (with_reducible exact icmp_Lay.mono _ _ _ _ _ _ _ _ _ _ _ _)
   | (with_reducible exact ip4_Lay.mono _ _ _ _ _ _ _ _ _ _ _ _ _ _ _ _)
   | (with_reducible exact LeO.refl _)
   | (with_reducible exact LeO.none _)
   | (with_reducible refine LeO.ite ?_ ?_)
   | (with_reducible refine LeO.bind ?_ (fun _ => ?_))
   | exact ih0 _ _ _ _ _ _ _ _ _ _ _ _ _
   | exact ih1 _ _ _ _ _ _ _ _ _ _ _ _
   | exact ih2 _ _ _ _ _ _ _ _ _ _
   | exact ih3 _ _ _ _ _ _ _ _ _ _ _ _
   | exact ih4 _ _ _ _ _ _ _ _ _ _ _ _ _ _ _
   | exact excuse_May.mono _ _
   | exact excuse_quote.mono _ _
   | exact icmp_Lay.mono _ _ _ _ _ _ _ _ _ _ _ _
   | exact ip4_Lay.mono _ _ _ _ _ _ _ _ _ _ _ _ _ _ _ _
   | exact LeO.none _
   | refine LeO.ite ?_ ?_
   | refine LeO.bind ?_ (fun _ => ?_)
set_option maxHeartbeats 8000000 in
set_option maxRecDepth 100000 in
theorem excuse_Of.calls (k : Nat) (a0 : Int) (a1 : ByteArray) (a2_0 : Bool) (a2_1 : Int) (a2_2 : Int) (a3 : Int) (r1 : ByteArray) (r2 : Int) (w : World) (h : excuse_Of.f k a0 a1 a2_0 a2_1 a2_2 a3 = some (r1, r2)) (hg : excuse_Glob w) :
  Calls Tryd.prog 12 #[.int .i64 a0, .string a1, .agg #[.bool a2_0, .int .u64 a2_1, .int .u64 a2_2], .int .i64 a3] w fun e w' => e = .returned (.tuple #[.string r1, .int .i64 r2]) ∧ Below w.heap.size w w' := by
 have HGL := Aside0.mk hg
 clear hg
 have hu28 := Tryd.underlying28
 have hu43 := Tryd.underlying43
 have hu45 := Tryd.underlying45
 have hu37 := Tryd.underlying37
 have HB := Aside0.mk (Below.refl w.heap.size w)
 have H : ((excuse_isSix.f a1).bind fun t256 => ((excuse_Kind.f a0 t256).bind fun bt257 => ((addr_Class.f a2_0 a2_1 a2_2).bind fun t260 => (if a0 = 6 then (excuse_Of.j0 k a0 a1 a3 t256 bt257.1 bt257.2.1 bt257.2.2 t260 65535 (!t256) a2_0 a2_1 a2_2) else (excuse_Of.j0 k a0 a1 a3 t256 bt257.1 bt257.2.1 bt257.2.2 t260 65535 false a2_0 a2_1 a2_2))))) = some (r1, r2) := h
 clear h
 replace H := Option.bind_eq_some_iff.mp H
 obtain ⟨t256, A50, H⟩ := H
 have A5 := Aside0.mk A50
 clear A50
 replace H := Option.bind_eq_some_iff.mp H
 obtain ⟨⟨t257, t258, t259⟩, A60, H⟩ := H
 replace H : ((addr_Class.f a2_0 a2_1 a2_2).bind fun t260 => (if a0 = 6 then (excuse_Of.j0 k a0 a1 a3 t256 t257 t258 t259 t260 65535 (!t256) a2_0 a2_1 a2_2) else (excuse_Of.j0 k a0 a1 a3 t256 t257 t258 t259 t260 65535 false a2_0 a2_1 a2_2))) = some (r1, r2) := H
 have A6 := Aside0.mk A60
 clear A60
 replace H := Option.bind_eq_some_iff.mp H
 obtain ⟨t260, A70, H⟩ := H
 have A7 := Aside0.mk A70
 clear A70
 have HC8 := Aside0.mk H
 clear H
 go_enter Tryd.func12, Tryd.ntmps12
 go_upto_region 5 with (first | ((with_reducible refine gate_dst (N := 6) rfl ?_); refine sh_E 6 28 #[.bool a2_0, .int .u64 a2_1, .int .u64 a2_2] ?_; intro gb255 hg w9 hbox hb; have BK255 := Aside0.mk hbox; have GW255 := sh_G HB hg; have GE255 := GW255; replace HB := sh_S HB hb; clear hb hbox hg) | ((with_reducible refine gate_callee (f := 22) rfl ?_); refine sh_C 22 Tryd.func22 #[.string a1] ?_; (with_reducible refine (excuse_isSix.calls a1 t256 _ A5.out).mono ?_); rintro e w' ⟨rfl, ⟨nd, rfl⟩⟩; refine ⟨_, rfl, ?_⟩) | ((with_reducible refine gate_callee (f := 10) rfl ?_); refine sh_C 26 Tryd.func10 #[.int .i64 a0, .bool t256] ?_; (with_reducible refine Calls.mono (excuse_Kind.calls a0 t256 t257 t258 t259 _ A6.out ?hgl_) ?_); (case hgl_ => exact excuse_Glob_below HGL.out (sh_B HB)); rintro e w10 ⟨rfl, hb⟩; refine ⟨_, rfl, ?_⟩; replace BK255 := sh_L BK255 hb; replace HB := sh_S HB hb; (try clear hb); (try clear hb2); (try clear hk); (try clear hi); obtain ⟨hcz11_0, hcz11_1, hcz11_2⟩ := MBlk.c3 BK255.out; obtain ⟨hfz11_0, hfz11_1, hfz11_2⟩ := MBlk.f3 BK255.out) | ((with_reducible refine gate_callee (f := 23) rfl ?_); refine sh_C 31 Tryd.func23 #[.agg #[.bool a2_0, .int .u64 a2_1, .int .u64 a2_2]] ?_; (with_reducible refine (addr_Class.calls a2_0 a2_1 a2_2 t260 _ A7.out).mono ?_); rintro e w12 ⟨rfl, hb⟩; refine ⟨_, rfl, ?_⟩; replace BK255 := sh_L BK255 hb; replace HB := sh_S HB hb; (try clear hb); (try clear hb2); (try clear hk); (try clear hi)))
 (try simp only [Act.put, List.setIfInBounds_toArray, List.set_cons_zero, List.set_cons_succ])
 go_cut [37] (fun v37 wc => ∃ (kq : Nat) (x37_7 : Bool), v37 = .bool x37_7 ∧ Aside0 (excuse_Of.j0 kq a0 a1 a3 t256 t257 t258 t259 t260 65535 x37_7 a2_0 a2_1 a2_2 = some (r1, r2)) ∧ Aside0 (kq ≤ k) ∧ Aside0 (wc.heap[gb255]? = some (.cells #[.bool a2_0, .int .u64 a2_1, .int .u64 a2_2] 28 (0, 0))) ∧ Aside0 (Below w.heap.size w wc))
 case first =>
  have H := HC8.out
  clear HC8
  by_cases c13 : a0 = 6
  ·
   rw [if_pos c13] at H
   have c13b0 : (a0 == 6) = true := beq_iff_eq.mpr c13
   have c13b1 : (a0 != 6) = false := bne_eq_false_iff_eq.mpr c13
   clear c13
   (first | rw [c13b0] | (simp only [i64_w, i32_w]; rw [c13b0]) | skip)
   have H' := Aside0.mk H
   clear H
   go_wp2
   go_meet
   case rel => exact ⟨_, (!t256), (by first | rfl | (simp; done) | (simp [*]; done)), H', ⟨by first | omega | exact Nat.le_refl _⟩, ⟨by (with_reducible repeat (first | refine blk_drewN ?_ _ | refine blk_drew ?_ | refine blk_alloc ?_ _)); exact BK255.out⟩, ⟨by repeat (first | (with_reducible first | exact HB.out | apply below_alloc | apply pw_below_drewN | apply below_drew1 | refine below_set ?_ GE255.out) | exact HB.out)⟩⟩
  ·
   rw [if_neg c13] at H
   have c13b0 : (a0 == 6) = false := beq_eq_false_iff_ne.mpr c13
   have c13b1 : (a0 != 6) = true := bne_iff_ne.mpr c13
   (first | rw [c13b0] | (simp only [i64_w, i32_w]; rw [c13b0]) | skip)
   have H' := Aside0.mk H
   clear H
   go_wp2
   go_meet
   case rel => exact ⟨_, (false), (by first | rfl | (simp; done) | (simp [*]; done)), H', ⟨by first | omega | exact Nat.le_refl _⟩, ⟨by (with_reducible repeat (first | refine blk_drewN ?_ _ | refine blk_drew ?_ | refine blk_alloc ?_ _)); exact BK255.out⟩, ⟨by repeat (first | (with_reducible first | exact HB.out | apply below_alloc | apply pw_below_drewN | apply below_drew1 | refine below_set ?_ GE255.out) | exact HB.out)⟩⟩
 case rest =>
  clear HC8
  try clear c1
  try clear c2
  try clear p2
  try clear c10
  try clear c12
  try clear c13
  try clear c13b0
  try clear c13b1
  try clear hcz11_0
  try clear hcz11_1
  try clear hcz11_2
  try clear hfz11_0
  try clear hfz11_1
  try clear hfz11_2
  obtain ⟨kq, x37_7, rfl, HA, HJ7, BK255, HB⟩ := hcut
  cases kq with
  | zero => exact absurd HA.out (by simp [excuse_Of.j0])
  | succ kj7 =>
   have H := HA.out
   clear HA
   simp only [excuse_Of.j0] at H
   have HC14 := Aside0.mk H
   clear H
   go_upto_if 37 with (fail)
   go_cut [15] (fun v15 wc => ∃ (kq : Nat) (x15_13 : Int), v15 = .int .i64 x15_13 ∧ Aside0 (excuse_Of.j1 kq a0 a1 a3 t256 t257 t258 t259 t260 x15_13 a2_0 a2_1 a2_2 = some (r1, r2)) ∧ Aside0 (kq ≤ kj7) ∧ Aside0 (wc.heap[gb255]? = some (.cells #[.bool a2_0, .int .u64 a2_1, .int .u64 a2_2] 28 (0, 0))) ∧ Aside0 (Below w.heap.size w wc))
   case first =>
    have H := HC14.out
    clear HC14
    by_cases c15 : x37_7 = true
    ·
     subst c15
     rw [if_pos rfl] at H
     have H' := Aside0.mk H
     clear H
     go_wp2
     go_meet
     case rel => exact ⟨_, (255), (by first | rfl | (simp; done) | (simp [*]; done)), H', ⟨by have := HJ7.out; first | omega | exact Nat.le_refl _⟩, ⟨by (with_reducible repeat (first | refine blk_drewN ?_ _ | refine blk_drew ?_ | refine blk_alloc ?_ _)); exact BK255.out⟩, ⟨by repeat (first | (with_reducible first | exact HB.out | apply below_alloc | apply pw_below_drewN | apply below_drew1 | refine below_set ?_ GE255.out) | exact HB.out)⟩⟩
    ·
     replace c15 := Bool.eq_false_iff.mpr c15
     subst c15
     rw [if_neg (show ¬ (false = true) by decide)] at H
     have H' := Aside0.mk H
     clear H
     go_wp2
     go_meet
     case rel => exact ⟨_, (65535), (by first | rfl | (simp; done) | (simp [*]; done)), H', ⟨by have := HJ7.out; first | omega | exact Nat.le_refl _⟩, ⟨by (with_reducible repeat (first | refine blk_drewN ?_ _ | refine blk_drew ?_ | refine blk_alloc ?_ _)); exact BK255.out⟩, ⟨by repeat (first | (with_reducible first | exact HB.out | apply below_alloc | apply pw_below_drewN | apply below_drew1 | refine below_set ?_ GE255.out) | exact HB.out)⟩⟩
   case rest =>
    clear HC14
    try clear c1
    try clear c2
    try clear p2
    try clear c10
    try clear c12
    try clear c13
    try clear c13b0
    try clear c13b1
    try clear c15
    try clear hcz11_0
    try clear hcz11_1
    try clear hcz11_2
    try clear hfz11_0
    try clear hfz11_1
    try clear hfz11_2
    try clear p2
    obtain ⟨kq, x15_13, rfl, HA, HJ13, BK255, HB⟩ := hcut
    cases kq with
    | zero => exact absurd HA.out (by simp [excuse_Of.j1])
    | succ kj13 =>
     have H := HA.out
     clear HA
     simp only [excuse_Of.j1] at H
     have HC16 := Aside0.mk H
     clear H
     go_upto_region 7 with (fail)
     go_cut [38] (fun v38 wc => ∃ (kq : Nat) (x38_15 : Bool), v38 = .bool x38_15 ∧ Aside0 (excuse_Of.j2 kq a0 a1 a3 t256 t257 t258 x38_15 a2_0 a2_1 a2_2 = some (r1, r2)) ∧ Aside0 (kq ≤ kj13) ∧ Aside0 (wc.heap[gb255]? = some (.cells #[.bool a2_0, .int .u64 a2_1, .int .u64 a2_2] 28 (0, 0))) ∧ Aside0 (Below w.heap.size w wc))
     case first =>
      have H := HC16.out
      clear HC16
      by_cases c17 : t259 = true
      ·
       subst c17
       rw [if_pos rfl] at H
       by_cases c18 : (a2_0 != t256) = true
       ·
        rw [if_pos c18] at H
        have c18b0 : (a2_0 != t256) = true := c18
        (try (have c18b1 : decide (a2_0 = t256) = false := by simpa using c18))
        (try (have c18b2 : (a2_0 == t256) = false := by simpa using c18))
        (try (have c18b3 : ¬ (a2_0 = t256) := by simpa using c18))
        clear c18
        (first | rw [c18b0] | (simp only [i64_w, i32_w]; rw [c18b0]) | skip)
        have H' := Aside0.mk H
        clear H
        have hcz19_0 : wc.cell? ⟨gb255, 0, none⟩ = some (.bool a2_0) := (blk_cell BK255.out 0).trans rfl
        have hcz19_1 : wc.cell? ⟨gb255, 1, none⟩ = some (.int .u64 a2_1) := (blk_cell BK255.out 1).trans rfl
        have hcz19_2 : wc.cell? ⟨gb255, 2, none⟩ = some (.int .u64 a2_2) := (blk_cell BK255.out 2).trans rfl
        have hfz19_0 := blk_frozen BK255.out 0
        have hfz19_1 := blk_frozen BK255.out 1
        have hfz19_2 := blk_frozen BK255.out 2
        go_wp2
        go_meet
        case rel => exact ⟨_, (true), (by first | rfl | (simp; done) | (simp [*]; done)), H', ⟨by have := HJ7.out; have := HJ13.out; first | omega | exact Nat.le_refl _⟩, ⟨by (with_reducible repeat (first | refine blk_drewN ?_ _ | refine blk_drew ?_ | refine blk_alloc ?_ _)); exact BK255.out⟩, ⟨by repeat (first | (with_reducible first | exact HB.out | apply below_alloc | apply pw_below_drewN | apply below_drew1 | refine below_set ?_ GE255.out) | exact HB.out)⟩⟩
       ·
        rw [if_neg c18] at H
        have c18b0 : (a2_0 != t256) = false := by simpa using c18
        (try (have c18b1 : decide (a2_0 = t256) = true := by simpa using c18))
        (try (have c18b2 : (a2_0 == t256) = true := by simpa using c18))
        clear c18
        (first | rw [c18b0] | (simp only [i64_w, i32_w]; rw [c18b0]) | skip)
        by_cases c20 : t260 = 5
        ·
         rw [if_pos c20] at H
         have c20b0 : (t260 == 5) = true := beq_iff_eq.mpr c20
         have c20b1 : (t260 != 5) = false := bne_eq_false_iff_eq.mpr c20
         clear c20
         by_cases c21 : a3 < 0
         ·
          rw [if_pos c21] at H
          have c21b0 : decide (a3 < 0) = true := decide_eq_true c21
          clear c21
          have H' := Aside0.mk H
          clear H
          have hcz22_0 : wc.cell? ⟨gb255, 0, none⟩ = some (.bool a2_0) := (blk_cell BK255.out 0).trans rfl
          have hcz22_1 : wc.cell? ⟨gb255, 1, none⟩ = some (.int .u64 a2_1) := (blk_cell BK255.out 1).trans rfl
          have hcz22_2 : wc.cell? ⟨gb255, 2, none⟩ = some (.int .u64 a2_2) := (blk_cell BK255.out 2).trans rfl
          have hfz22_0 := blk_frozen BK255.out 0
          have hfz22_1 := blk_frozen BK255.out 1
          have hfz22_2 := blk_frozen BK255.out 2
          go_wp2
          go_meet
          case rel => exact ⟨_, (true), (by first | rfl | (simp; done) | (simp [*]; done)), H', ⟨by have := HJ7.out; have := HJ13.out; first | omega | exact Nat.le_refl _⟩, ⟨by (with_reducible repeat (first | refine blk_drewN ?_ _ | refine blk_drew ?_ | refine blk_alloc ?_ _)); exact BK255.out⟩, ⟨by repeat (first | (with_reducible first | exact HB.out | apply below_alloc | apply pw_below_drewN | apply below_drew1 | refine below_set ?_ GE255.out) | exact HB.out)⟩⟩
         ·
          rw [if_neg c21] at H
          have c21b0 : decide (a3 < 0) = false := decide_eq_false c21
          clear c21
          have H' := Aside0.mk H
          clear H
          have hcz23_0 : wc.cell? ⟨gb255, 0, none⟩ = some (.bool a2_0) := (blk_cell BK255.out 0).trans rfl
          have hcz23_1 : wc.cell? ⟨gb255, 1, none⟩ = some (.int .u64 a2_1) := (blk_cell BK255.out 1).trans rfl
          have hcz23_2 : wc.cell? ⟨gb255, 2, none⟩ = some (.int .u64 a2_2) := (blk_cell BK255.out 2).trans rfl
          have hfz23_0 := blk_frozen BK255.out 0
          have hfz23_1 := blk_frozen BK255.out 1
          have hfz23_2 := blk_frozen BK255.out 2
          go_wp2
          go_meet
          case rel => exact ⟨_, (decide (a3 > x15_13)), (by first | rfl | (simp; done) | (simp [*]; done)), H', ⟨by have := HJ7.out; have := HJ13.out; first | omega | exact Nat.le_refl _⟩, ⟨by (with_reducible repeat (first | refine blk_drewN ?_ _ | refine blk_drew ?_ | refine blk_alloc ?_ _)); exact BK255.out⟩, ⟨by repeat (first | (with_reducible first | exact HB.out | apply below_alloc | apply pw_below_drewN | apply below_drew1 | refine below_set ?_ GE255.out) | exact HB.out)⟩⟩
        ·
         rw [if_neg c20] at H
         have c20b0 : (t260 == 5) = false := beq_eq_false_iff_ne.mpr c20
         have c20b1 : (t260 != 5) = true := bne_iff_ne.mpr c20
         by_cases c24 : t260 = 2
         ·
          rw [if_pos c24] at H
          have c24b0 : (t260 == 2) = true := beq_iff_eq.mpr c24
          have c24b1 : (t260 != 2) = false := bne_eq_false_iff_eq.mpr c24
          clear c24
          by_cases c25 : a3 < 0
          ·
           rw [if_pos c25] at H
           have c25b0 : decide (a3 < 0) = true := decide_eq_true c25
           clear c25
           have H' := Aside0.mk H
           clear H
           have hcz26_0 : wc.cell? ⟨gb255, 0, none⟩ = some (.bool a2_0) := (blk_cell BK255.out 0).trans rfl
           have hcz26_1 : wc.cell? ⟨gb255, 1, none⟩ = some (.int .u64 a2_1) := (blk_cell BK255.out 1).trans rfl
           have hcz26_2 : wc.cell? ⟨gb255, 2, none⟩ = some (.int .u64 a2_2) := (blk_cell BK255.out 2).trans rfl
           have hfz26_0 := blk_frozen BK255.out 0
           have hfz26_1 := blk_frozen BK255.out 1
           have hfz26_2 := blk_frozen BK255.out 2
           go_wp2
           go_meet
           case rel => exact ⟨_, (true), (by first | rfl | (simp; done) | (simp [*]; done)), H', ⟨by have := HJ7.out; have := HJ13.out; first | omega | exact Nat.le_refl _⟩, ⟨by (with_reducible repeat (first | refine blk_drewN ?_ _ | refine blk_drew ?_ | refine blk_alloc ?_ _)); exact BK255.out⟩, ⟨by repeat (first | (with_reducible first | exact HB.out | apply below_alloc | apply pw_below_drewN | apply below_drew1 | refine below_set ?_ GE255.out) | exact HB.out)⟩⟩
          ·
           rw [if_neg c25] at H
           have c25b0 : decide (a3 < 0) = false := decide_eq_false c25
           clear c25
           have H' := Aside0.mk H
           clear H
           have hcz27_0 : wc.cell? ⟨gb255, 0, none⟩ = some (.bool a2_0) := (blk_cell BK255.out 0).trans rfl
           have hcz27_1 : wc.cell? ⟨gb255, 1, none⟩ = some (.int .u64 a2_1) := (blk_cell BK255.out 1).trans rfl
           have hcz27_2 : wc.cell? ⟨gb255, 2, none⟩ = some (.int .u64 a2_2) := (blk_cell BK255.out 2).trans rfl
           have hfz27_0 := blk_frozen BK255.out 0
           have hfz27_1 := blk_frozen BK255.out 1
           have hfz27_2 := blk_frozen BK255.out 2
           go_wp2
           go_meet
           case rel => exact ⟨_, (decide (a3 > x15_13)), (by first | rfl | (simp; done) | (simp [*]; done)), H', ⟨by have := HJ7.out; have := HJ13.out; first | omega | exact Nat.le_refl _⟩, ⟨by (with_reducible repeat (first | refine blk_drewN ?_ _ | refine blk_drew ?_ | refine blk_alloc ?_ _)); exact BK255.out⟩, ⟨by repeat (first | (with_reducible first | exact HB.out | apply below_alloc | apply pw_below_drewN | apply below_drew1 | refine below_set ?_ GE255.out) | exact HB.out)⟩⟩
         ·
          rw [if_neg c24] at H
          have c24b0 : (t260 == 2) = false := beq_eq_false_iff_ne.mpr c24
          have c24b1 : (t260 != 2) = true := bne_iff_ne.mpr c24
          have H' := Aside0.mk H
          clear H
          have hcz28_0 : wc.cell? ⟨gb255, 0, none⟩ = some (.bool a2_0) := (blk_cell BK255.out 0).trans rfl
          have hcz28_1 : wc.cell? ⟨gb255, 1, none⟩ = some (.int .u64 a2_1) := (blk_cell BK255.out 1).trans rfl
          have hcz28_2 : wc.cell? ⟨gb255, 2, none⟩ = some (.int .u64 a2_2) := (blk_cell BK255.out 2).trans rfl
          have hfz28_0 := blk_frozen BK255.out 0
          have hfz28_1 := blk_frozen BK255.out 1
          have hfz28_2 := blk_frozen BK255.out 2
          go_wp2
          go_meet
          case rel => exact ⟨_, (true), (by first | rfl | (simp; done) | (simp [*]; done)), H', ⟨by have := HJ7.out; have := HJ13.out; first | omega | exact Nat.le_refl _⟩, ⟨by (with_reducible repeat (first | refine blk_drewN ?_ _ | refine blk_drew ?_ | refine blk_alloc ?_ _)); exact BK255.out⟩, ⟨by repeat (first | (with_reducible first | exact HB.out | apply below_alloc | apply pw_below_drewN | apply below_drew1 | refine below_set ?_ GE255.out) | exact HB.out)⟩⟩
      ·
       replace c17 := Bool.eq_false_iff.mpr c17
       subst c17
       rw [if_neg (show ¬ (false = true) by decide)] at H
       have H' := Aside0.mk H
       clear H
       go_wp2
       go_meet
       case rel => exact ⟨_, (true), (by first | rfl | (simp; done) | (simp [*]; done)), H', ⟨by have := HJ7.out; have := HJ13.out; first | omega | exact Nat.le_refl _⟩, ⟨by (with_reducible repeat (first | refine blk_drewN ?_ _ | refine blk_drew ?_ | refine blk_alloc ?_ _)); exact BK255.out⟩, ⟨by repeat (first | (with_reducible first | exact HB.out | apply below_alloc | apply pw_below_drewN | apply below_drew1 | refine below_set ?_ GE255.out) | exact HB.out)⟩⟩
     case rest =>
      clear HC16
      try clear c1
      try clear c2
      try clear p2
      try clear c10
      try clear c12
      try clear c13
      try clear c13b0
      try clear c13b1
      try clear c15
      try clear c17
      try clear c18
      try clear c18b0
      try clear c18b1
      try clear c18b2
      try clear c20
      try clear c20b0
      try clear c20b1
      try clear c21
      try clear c21b0
      try clear c22
      try clear c23
      try clear c24
      try clear c24b0
      try clear c24b1
      try clear c25
      try clear c25b0
      try clear hcz11_0
      try clear hcz11_1
      try clear hcz11_2
      try clear hcz19_0
      try clear hcz19_1
      try clear hcz19_2
      try clear hcz22_0
      try clear hcz22_1
      try clear hcz22_2
      try clear hcz23_0
      try clear hcz23_1
      try clear hcz23_2
      try clear hcz26_0
      try clear hcz26_1
      try clear hcz26_2
      try clear hcz27_0
      try clear hcz27_1
      try clear hcz27_2
      try clear hcz28_0
      try clear hcz28_1
      try clear hcz28_2
      try clear hfz11_0
      try clear hfz11_1
      try clear hfz11_2
      try clear hfz19_0
      try clear hfz19_1
      try clear hfz19_2
      try clear hfz22_0
      try clear hfz22_1
      try clear hfz22_2
      try clear hfz23_0
      try clear hfz23_1
      try clear hfz23_2
      try clear hfz26_0
      try clear hfz26_1
      try clear hfz26_2
      try clear hfz27_0
      try clear hfz27_1
      try clear hfz27_2
      try clear hfz28_0
      try clear hfz28_1
      try clear hfz28_2
      try clear p2
      obtain ⟨kq, x38_15, rfl, HA, HJ15, BK255, HB⟩ := hcut
      cases kq with
      | zero => exact absurd HA.out (by simp [excuse_Of.j2])
      | succ kj15 =>
       have H := HA.out
       clear HA
       simp only [excuse_Of.j2] at H
       by_cases c29 : x38_15 = true
       ·
        subst c29
        rw [if_pos rfl] at H
        simp only [Option.some.injEq, Prod.mk.injEq] at H
        obtain ⟨rfl, rfl⟩ := H
        go_wp2
        go_ret2
        exact ⟨by first | rfl | (simp [errW_none, errW_some] <;> rfl) | (simp [*, errW_none, errW_some] <;> rfl), by repeat (first | (with_reducible first | exact HB.out | apply below_alloc | apply pw_below_drewN | apply below_drew1 | refine below_set ?_ GE255.out) | exact HB.out)⟩
       ·
        replace c29 := Bool.eq_false_iff.mpr c29
        subst c29
        rw [if_neg (show ¬ (false = true) by decide)] at H
        replace H := Option.bind_eq_some_iff.mp H
        obtain ⟨t261, A300, H⟩ := H
        have A30 := Aside0.mk A300
        clear A300
        by_cases c31 : t261 = true
        ·
         subst c31
         rw [if_pos rfl] at H
         replace H := Option.bind_eq_some_iff.mp H
         obtain ⟨⟨t262, t263, t264, t265⟩, A320, H⟩ := H
         replace H : (if a0 = 6 then (excuse_Of.j3 kj15 a0 a3 t256 (!t256) a2_0 a2_1 a2_2 t263 t264 t265 t256 t257 t258 0 t262) else (excuse_Of.j3 kj15 a0 a3 t256 false a2_0 a2_1 a2_2 t263 t264 t265 t256 t257 t258 0 t262)) = some (r1, r2) := H
         have A32 := Aside0.mk A320
         clear A320
         have HC33 := Aside0.mk H
         clear H
         go_upto_block 1 with (first | ((with_reducible refine gate_callee (f := 14) rfl ?_); refine sh_C 66 Tryd.func14 #[.string a1] ?_; (with_reducible refine (excuse_May.calls kj15 a1 true _ A30.out).mono ?_); rintro e w34 ⟨rfl, hb⟩; refine ⟨_, rfl, ?_⟩; replace BK255 := sh_L BK255 hb; replace HB := sh_S HB hb; (try clear hb); (try clear hb2); (try clear hk); (try clear hi)) | ((with_reducible refine gate_callee (f := 24) rfl ?_); refine sh_C 70 Tryd.func24 #[.string a1] ?_; (with_reducible refine (excuse_quote.calls kj15 a1 t262 t263 t264 t265 _ A32.out).mono ?_); rintro e w35 ⟨rfl, hb⟩; refine ⟨_, rfl, ?_⟩; replace BK255 := sh_L BK255 hb; replace HB := sh_S HB hb; (try clear hb); (try clear hb2); (try clear hk); (try clear hi)) | ((with_reducible refine gate_dst (N := 17) rfl ?_); refine sh_E 17 28 #[.bool false, .int .u64 0, .int .u64 0] ?_; intro gb266 hg w36 hbox hb; have BK266 := Aside0.mk hbox; have GW266 := sh_G HB hg; have GE266 := GW266; replace HB := sh_S HB hb; have NB255_266 := sh_N BK255 hg; have NB266_255 := sh_M BK255 hg; replace BK255 := sh_L BK255 hb; clear hb hbox hg; have hnb37 := NB266_255.out; have hnc37 := NB255_266.out; obtain ⟨hcz38_0, hcz38_1, hcz38_2⟩ := MBlk.c3 BK266.out; obtain ⟨hfz38_0, hfz38_1, hfz38_2⟩ := MBlk.f3 BK266.out) | ((with_reducible refine gate_dst (N := 18) rfl ?_); refine sh_E 18 43 #[.bool false, .int .i64 0, .int .i64 0, .int .i64 0, .string (⟨#[]⟩ : ByteArray)] ?_; intro gb267 hg w39 hbox hb; have n0_ := Aside0.mk (blk_below (g := gb255) (o := .cells #[.bool a2_0, .int .u64 a2_1, .int .u64 a2_2] 28 (0, 0)) (by (with_reducible repeat (first | refine blk_drewN ?_ _ | refine blk_drew ?_ | refine blk_alloc ?_ _)); refine blk_far ?_ NB255_266.out _; (with_reducible repeat (first | refine blk_drewN ?_ _ | refine blk_drew ?_ | refine blk_alloc ?_ _)); refine blk_far ?_ NB255_266.out _; (with_reducible repeat (first | refine blk_drewN ?_ _ | refine blk_drew ?_ | refine blk_alloc ?_ _)); refine blk_far ?_ NB255_266.out _; (with_reducible repeat (first | refine blk_drewN ?_ _ | refine blk_drew ?_ | refine blk_alloc ?_ _)); exact BK255.out) hb); have n1_ := Aside0.mk (blk_below (g := gb266) (o := .cells #[.bool t263, .int .u64 t264, .int .u64 t265] 28 (0, 0)) (by (with_reducible repeat (first | refine blk_drewN ?_ _ | refine blk_drew ?_ | refine blk_alloc ?_ _)); refine blk_put (cs := #[.bool t263, .int .u64 t264, .int .u64 0]) ?_ 2 _ rfl; (with_reducible repeat (first | refine blk_drewN ?_ _ | refine blk_drew ?_ | refine blk_alloc ?_ _)); refine blk_put (cs := #[.bool t263, .int .u64 0, .int .u64 0]) ?_ 1 _ rfl; (with_reducible repeat (first | refine blk_drewN ?_ _ | refine blk_drew ?_ | refine blk_alloc ?_ _)); refine blk_put (cs := #[.bool false, .int .u64 0, .int .u64 0]) ?_ 0 _ rfl; (with_reducible repeat (first | refine blk_drewN ?_ _ | refine blk_drew ?_ | refine blk_alloc ?_ _)); exact BK266.out) hb); have n2_ := sh_S HB hb; have n3_ := Aside0.mk hbox; have n4_ := sh_G HB hg; have n5_ := sh_G HB hg; have n6_ := Aside0.mk ((by rw [hg]; exact Nat.ne_of_lt (blk_lt (g := gb255) (o := .cells #[.bool a2_0, .int .u64 a2_1, .int .u64 a2_2] 28 (0, 0)) (by (with_reducible repeat (first | refine blk_drewN ?_ _ | refine blk_drew ?_ | refine blk_alloc ?_ _)); refine blk_far ?_ NB255_266.out _; (with_reducible repeat (first | refine blk_drewN ?_ _ | refine blk_drew ?_ | refine blk_alloc ?_ _)); refine blk_far ?_ NB255_266.out _; (with_reducible repeat (first | refine blk_drewN ?_ _ | refine blk_drew ?_ | refine blk_alloc ?_ _)); refine blk_far ?_ NB255_266.out _; (with_reducible repeat (first | refine blk_drewN ?_ _ | refine blk_drew ?_ | refine blk_alloc ?_ _)); exact BK255.out)) : gb255 ≠ gb267)); have n7_ := Aside0.mk ((by rw [hg]; exact Nat.ne_of_gt (blk_lt (g := gb255) (o := .cells #[.bool a2_0, .int .u64 a2_1, .int .u64 a2_2] 28 (0, 0)) (by (with_reducible repeat (first | refine blk_drewN ?_ _ | refine blk_drew ?_ | refine blk_alloc ?_ _)); refine blk_far ?_ NB255_266.out _; (with_reducible repeat (first | refine blk_drewN ?_ _ | refine blk_drew ?_ | refine blk_alloc ?_ _)); refine blk_far ?_ NB255_266.out _; (with_reducible repeat (first | refine blk_drewN ?_ _ | refine blk_drew ?_ | refine blk_alloc ?_ _)); refine blk_far ?_ NB255_266.out _; (with_reducible repeat (first | refine blk_drewN ?_ _ | refine blk_drew ?_ | refine blk_alloc ?_ _)); exact BK255.out)) : gb267 ≠ gb255)); have n8_ := Aside0.mk ((by rw [hg]; exact Nat.ne_of_lt (blk_lt (g := gb266) (o := .cells #[.bool t263, .int .u64 t264, .int .u64 t265] 28 (0, 0)) (by (with_reducible repeat (first | refine blk_drewN ?_ _ | refine blk_drew ?_ | refine blk_alloc ?_ _)); refine blk_put (cs := #[.bool t263, .int .u64 t264, .int .u64 0]) ?_ 2 _ rfl; (with_reducible repeat (first | refine blk_drewN ?_ _ | refine blk_drew ?_ | refine blk_alloc ?_ _)); refine blk_put (cs := #[.bool t263, .int .u64 0, .int .u64 0]) ?_ 1 _ rfl; (with_reducible repeat (first | refine blk_drewN ?_ _ | refine blk_drew ?_ | refine blk_alloc ?_ _)); refine blk_put (cs := #[.bool false, .int .u64 0, .int .u64 0]) ?_ 0 _ rfl; (with_reducible repeat (first | refine blk_drewN ?_ _ | refine blk_drew ?_ | refine blk_alloc ?_ _)); exact BK266.out)) : gb266 ≠ gb267)); have n9_ := Aside0.mk ((by rw [hg]; exact Nat.ne_of_gt (blk_lt (g := gb266) (o := .cells #[.bool t263, .int .u64 t264, .int .u64 t265] 28 (0, 0)) (by (with_reducible repeat (first | refine blk_drewN ?_ _ | refine blk_drew ?_ | refine blk_alloc ?_ _)); refine blk_put (cs := #[.bool t263, .int .u64 t264, .int .u64 0]) ?_ 2 _ rfl; (with_reducible repeat (first | refine blk_drewN ?_ _ | refine blk_drew ?_ | refine blk_alloc ?_ _)); refine blk_put (cs := #[.bool t263, .int .u64 0, .int .u64 0]) ?_ 1 _ rfl; (with_reducible repeat (first | refine blk_drewN ?_ _ | refine blk_drew ?_ | refine blk_alloc ?_ _)); refine blk_put (cs := #[.bool false, .int .u64 0, .int .u64 0]) ?_ 0 _ rfl; (with_reducible repeat (first | refine blk_drewN ?_ _ | refine blk_drew ?_ | refine blk_alloc ?_ _)); exact BK266.out)) : gb267 ≠ gb266)); clear BK255; clear BK266; clear HB; have BK255 := n0_; have BK266 := n1_; have HB := n2_; have BK267 := n3_; have GW267 := n4_; have GE267 := n5_; have NB255_267 := n6_; have NB267_255 := n7_; have NB266_267 := n8_; have NB267_266 := n9_; clear n0_ n1_ n2_ n3_ n4_ n5_ n6_ n7_ n8_ n9_; clear hb hbox hg; have hnb40 := NB267_255.out; have hnc40 := NB255_267.out; have hnb41 := NB267_266.out; have hnc41 := NB266_267.out; obtain ⟨hcz42_0, hcz42_1, hcz42_2, hcz42_3, hcz42_4⟩ := MBlk.c5 BK267.out; obtain ⟨hfz42_0, hfz42_1, hfz42_2, hfz42_3, hfz42_4⟩ := MBlk.f5 BK267.out))
         (try simp only [Act.put, List.setIfInBounds_toArray, List.set_cons_zero, List.set_cons_succ])
         go_cut [] (fun wc => ∃ (kq : Nat) (x268003_32 : Int), Aside0 (excuse_Of.j4 kq t256 a2_0 a2_1 a2_2 t263 t264 t265 t256 t257 t258 x268003_32 t262 = some (r1, r2)) ∧ Aside0 (kq ≤ kj15) ∧ Aside0 (wc.heap[gb255]? = some (.cells #[.bool a2_0, .int .u64 a2_1, .int .u64 a2_2] 28 (0, 0))) ∧ Aside0 (wc.heap[gb266]? = some (.cells #[.bool t263, .int .u64 t264, .int .u64 t265] 28 (0, 0))) ∧ Aside0 (wc.heap[gb267]? = some (.cells #[.bool t256, .int .i64 t257, .int .i64 t258, .int .i64 x268003_32, .string t262] 43 (0, 0))) ∧ Aside0 (Below w.heap.size w wc))
         case first =>
          have H := HC33.out
          clear HC33
          have HC43 := Aside0.mk H
          clear H
          go_upto_region 13 with (fail)
          go_cut [78] (fun v78 wc => ∃ (kq : Nat) (x78_42 : Bool), v78 = .bool x78_42 ∧ Aside0 (excuse_Of.j3 kq a0 a3 t256 x78_42 a2_0 a2_1 a2_2 t263 t264 t265 t256 t257 t258 0 t262 = some (r1, r2)) ∧ Aside0 (kq ≤ kj15) ∧ Aside0 (wc.heap[gb255]? = some (.cells #[.bool a2_0, .int .u64 a2_1, .int .u64 a2_2] 28 (0, 0))) ∧ Aside0 (wc.heap[gb266]? = some (.cells #[.bool t263, .int .u64 t264, .int .u64 t265] 28 (0, 0))) ∧ Aside0 (wc.heap[gb267]? = some (.cells #[.bool t256, .int .i64 t257, .int .i64 t258, .int .i64 0, .string t262] 43 (0, 0))) ∧ Aside0 (Below w.heap.size w wc))
          case first =>
           have H := HC43.out
           clear HC43
           by_cases c44 : a0 = 6
           ·
            rw [if_pos c44] at H
            have c44b0 : (a0 == 6) = true := beq_iff_eq.mpr c44
            have c44b1 : (a0 != 6) = false := bne_eq_false_iff_eq.mpr c44
            clear c44
            (first | rw [c44b0] | (simp only [i64_w, i32_w]; rw [c44b0]) | skip)
            have H' := Aside0.mk H
            clear H
            go_wp2
            go_meet
            case rel => exact ⟨_, (!t256), (by first | rfl | (simp; done) | (simp [*]; done)), H', ⟨by have := HJ7.out; have := HJ13.out; have := HJ15.out; first | omega | exact Nat.le_refl _⟩, ⟨by (with_reducible repeat (first | refine blk_drewN ?_ _ | refine blk_drew ?_ | refine blk_alloc ?_ _)); refine blk_far ?_ NB255_267.out _; (with_reducible repeat (first | refine blk_drewN ?_ _ | refine blk_drew ?_ | refine blk_alloc ?_ _)); refine blk_far ?_ NB255_267.out _; (with_reducible repeat (first | refine blk_drewN ?_ _ | refine blk_drew ?_ | refine blk_alloc ?_ _)); refine blk_far ?_ NB255_267.out _; (with_reducible repeat (first | refine blk_drewN ?_ _ | refine blk_drew ?_ | refine blk_alloc ?_ _)); refine blk_far ?_ NB255_267.out _; (with_reducible repeat (first | refine blk_drewN ?_ _ | refine blk_drew ?_ | refine blk_alloc ?_ _)); refine blk_far ?_ NB255_267.out _; (with_reducible repeat (first | refine blk_drewN ?_ _ | refine blk_drew ?_ | refine blk_alloc ?_ _)); exact BK255.out⟩, ⟨by (with_reducible repeat (first | refine blk_drewN ?_ _ | refine blk_drew ?_ | refine blk_alloc ?_ _)); refine blk_far ?_ NB266_267.out _; (with_reducible repeat (first | refine blk_drewN ?_ _ | refine blk_drew ?_ | refine blk_alloc ?_ _)); refine blk_far ?_ NB266_267.out _; (with_reducible repeat (first | refine blk_drewN ?_ _ | refine blk_drew ?_ | refine blk_alloc ?_ _)); refine blk_far ?_ NB266_267.out _; (with_reducible repeat (first | refine blk_drewN ?_ _ | refine blk_drew ?_ | refine blk_alloc ?_ _)); refine blk_far ?_ NB266_267.out _; (with_reducible repeat (first | refine blk_drewN ?_ _ | refine blk_drew ?_ | refine blk_alloc ?_ _)); refine blk_far ?_ NB266_267.out _; (with_reducible repeat (first | refine blk_drewN ?_ _ | refine blk_drew ?_ | refine blk_alloc ?_ _)); exact BK266.out⟩, ⟨by (with_reducible repeat (first | refine blk_drewN ?_ _ | refine blk_drew ?_ | refine blk_alloc ?_ _)); refine blk_put (cs := #[.bool t256, .int .i64 t257, .int .i64 t258, .int .i64 0, .string (⟨#[]⟩ : ByteArray)]) ?_ 4 _ rfl; (with_reducible repeat (first | refine blk_drewN ?_ _ | refine blk_drew ?_ | refine blk_alloc ?_ _)); refine blk_put (cs := #[.bool t256, .int .i64 t257, .int .i64 t258, .int .i64 0, .string (⟨#[]⟩ : ByteArray)]) ?_ 3 _ rfl; (with_reducible repeat (first | refine blk_drewN ?_ _ | refine blk_drew ?_ | refine blk_alloc ?_ _)); refine blk_put (cs := #[.bool t256, .int .i64 t257, .int .i64 0, .int .i64 0, .string (⟨#[]⟩ : ByteArray)]) ?_ 2 _ rfl; (with_reducible repeat (first | refine blk_drewN ?_ _ | refine blk_drew ?_ | refine blk_alloc ?_ _)); refine blk_put (cs := #[.bool t256, .int .i64 0, .int .i64 0, .int .i64 0, .string (⟨#[]⟩ : ByteArray)]) ?_ 1 _ rfl; (with_reducible repeat (first | refine blk_drewN ?_ _ | refine blk_drew ?_ | refine blk_alloc ?_ _)); refine blk_put (cs := #[.bool false, .int .i64 0, .int .i64 0, .int .i64 0, .string (⟨#[]⟩ : ByteArray)]) ?_ 0 _ rfl; (with_reducible repeat (first | refine blk_drewN ?_ _ | refine blk_drew ?_ | refine blk_alloc ?_ _)); exact BK267.out⟩, ⟨by repeat (first | (with_reducible first | exact HB.out | apply below_alloc | apply pw_below_drewN | apply below_drew1 | refine below_set ?_ GE255.out | refine below_set ?_ GE266.out | refine below_set ?_ GE267.out) | exact HB.out)⟩⟩
           ·
            rw [if_neg c44] at H
            have c44b0 : (a0 == 6) = false := beq_eq_false_iff_ne.mpr c44
            have c44b1 : (a0 != 6) = true := bne_iff_ne.mpr c44
            (first | rw [c44b0] | (simp only [i64_w, i32_w]; rw [c44b0]) | skip)
            have H' := Aside0.mk H
            clear H
            go_wp2
            go_meet
            case rel => exact ⟨_, (false), (by first | rfl | (simp; done) | (simp [*]; done)), H', ⟨by have := HJ7.out; have := HJ13.out; have := HJ15.out; first | omega | exact Nat.le_refl _⟩, ⟨by (with_reducible repeat (first | refine blk_drewN ?_ _ | refine blk_drew ?_ | refine blk_alloc ?_ _)); refine blk_far ?_ NB255_267.out _; (with_reducible repeat (first | refine blk_drewN ?_ _ | refine blk_drew ?_ | refine blk_alloc ?_ _)); refine blk_far ?_ NB255_267.out _; (with_reducible repeat (first | refine blk_drewN ?_ _ | refine blk_drew ?_ | refine blk_alloc ?_ _)); refine blk_far ?_ NB255_267.out _; (with_reducible repeat (first | refine blk_drewN ?_ _ | refine blk_drew ?_ | refine blk_alloc ?_ _)); refine blk_far ?_ NB255_267.out _; (with_reducible repeat (first | refine blk_drewN ?_ _ | refine blk_drew ?_ | refine blk_alloc ?_ _)); refine blk_far ?_ NB255_267.out _; (with_reducible repeat (first | refine blk_drewN ?_ _ | refine blk_drew ?_ | refine blk_alloc ?_ _)); exact BK255.out⟩, ⟨by (with_reducible repeat (first | refine blk_drewN ?_ _ | refine blk_drew ?_ | refine blk_alloc ?_ _)); refine blk_far ?_ NB266_267.out _; (with_reducible repeat (first | refine blk_drewN ?_ _ | refine blk_drew ?_ | refine blk_alloc ?_ _)); refine blk_far ?_ NB266_267.out _; (with_reducible repeat (first | refine blk_drewN ?_ _ | refine blk_drew ?_ | refine blk_alloc ?_ _)); refine blk_far ?_ NB266_267.out _; (with_reducible repeat (first | refine blk_drewN ?_ _ | refine blk_drew ?_ | refine blk_alloc ?_ _)); refine blk_far ?_ NB266_267.out _; (with_reducible repeat (first | refine blk_drewN ?_ _ | refine blk_drew ?_ | refine blk_alloc ?_ _)); refine blk_far ?_ NB266_267.out _; (with_reducible repeat (first | refine blk_drewN ?_ _ | refine blk_drew ?_ | refine blk_alloc ?_ _)); exact BK266.out⟩, ⟨by (with_reducible repeat (first | refine blk_drewN ?_ _ | refine blk_drew ?_ | refine blk_alloc ?_ _)); refine blk_put (cs := #[.bool t256, .int .i64 t257, .int .i64 t258, .int .i64 0, .string (⟨#[]⟩ : ByteArray)]) ?_ 4 _ rfl; (with_reducible repeat (first | refine blk_drewN ?_ _ | refine blk_drew ?_ | refine blk_alloc ?_ _)); refine blk_put (cs := #[.bool t256, .int .i64 t257, .int .i64 t258, .int .i64 0, .string (⟨#[]⟩ : ByteArray)]) ?_ 3 _ rfl; (with_reducible repeat (first | refine blk_drewN ?_ _ | refine blk_drew ?_ | refine blk_alloc ?_ _)); refine blk_put (cs := #[.bool t256, .int .i64 t257, .int .i64 0, .int .i64 0, .string (⟨#[]⟩ : ByteArray)]) ?_ 2 _ rfl; (with_reducible repeat (first | refine blk_drewN ?_ _ | refine blk_drew ?_ | refine blk_alloc ?_ _)); refine blk_put (cs := #[.bool t256, .int .i64 0, .int .i64 0, .int .i64 0, .string (⟨#[]⟩ : ByteArray)]) ?_ 1 _ rfl; (with_reducible repeat (first | refine blk_drewN ?_ _ | refine blk_drew ?_ | refine blk_alloc ?_ _)); refine blk_put (cs := #[.bool false, .int .i64 0, .int .i64 0, .int .i64 0, .string (⟨#[]⟩ : ByteArray)]) ?_ 0 _ rfl; (with_reducible repeat (first | refine blk_drewN ?_ _ | refine blk_drew ?_ | refine blk_alloc ?_ _)); exact BK267.out⟩, ⟨by repeat (first | (with_reducible first | exact HB.out | apply below_alloc | apply pw_below_drewN | apply below_drew1 | refine below_set ?_ GE255.out | refine below_set ?_ GE266.out | refine below_set ?_ GE267.out) | exact HB.out)⟩⟩
          case rest =>
           clear HC43
           try clear c1
           try clear c2
           try clear p2
           try clear c3
           try clear c4
           try clear c10
           try clear c12
           try clear c13
           try clear c13b0
           try clear c13b1
           try clear c14
           try clear c15
           try clear c17
           try clear c18
           try clear c18b0
           try clear c18b1
           try clear c18b2
           try clear c20
           try clear c20b0
           try clear c20b1
           try clear c21
           try clear c21b0
           try clear c22
           try clear c23
           try clear c24
           try clear c24b0
           try clear c24b1
           try clear c25
           try clear c25b0
           try clear c29
           try clear c31
           try clear c37
           try clear c40
           try clear c41
           try clear c44
           try clear c44b0
           try clear c44b1
           try clear hcz11_0
           try clear hcz11_1
           try clear hcz11_2
           try clear hcz19_0
           try clear hcz19_1
           try clear hcz19_2
           try clear hcz22_0
           try clear hcz22_1
           try clear hcz22_2
           try clear hcz23_0
           try clear hcz23_1
           try clear hcz23_2
           try clear hcz26_0
           try clear hcz26_1
           try clear hcz26_2
           try clear hcz27_0
           try clear hcz27_1
           try clear hcz27_2
           try clear hcz28_0
           try clear hcz28_1
           try clear hcz28_2
           try clear hcz38_0
           try clear hcz38_1
           try clear hcz38_2
           try clear hcz42_0
           try clear hcz42_1
           try clear hcz42_2
           try clear hcz42_3
           try clear hcz42_4
           try clear hfz11_0
           try clear hfz11_1
           try clear hfz11_2
           try clear hfz19_0
           try clear hfz19_1
           try clear hfz19_2
           try clear hfz22_0
           try clear hfz22_1
           try clear hfz22_2
           try clear hfz23_0
           try clear hfz23_1
           try clear hfz23_2
           try clear hfz26_0
           try clear hfz26_1
           try clear hfz26_2
           try clear hfz27_0
           try clear hfz27_1
           try clear hfz27_2
           try clear hfz28_0
           try clear hfz28_1
           try clear hfz28_2
           try clear hfz38_0
           try clear hfz38_1
           try clear hfz38_2
           try clear hfz42_0
           try clear hfz42_1
           try clear hfz42_2
           try clear hfz42_3
           try clear hfz42_4
           try clear p2
           obtain ⟨kq, x78_42, rfl, HA, HJ42, BK255, BK266, BK267, HB⟩ := hcut
           cases kq with
           | zero => exact absurd HA.out (by simp [excuse_Of.j3])
           | succ kj42 =>
            have H := HA.out
            clear HA
            simp only [excuse_Of.j3] at H
            by_cases c45 : x78_42 = true
            ·
             subst c45
             rw [if_pos rfl] at H
             have H' := Aside0.mk H
             clear H
             have hnb46 := NB267_255.out
             have hnc46 := NB255_267.out
             have hnb47 := NB267_266.out
             have hnc47 := NB266_267.out
             have hcz48_0 : wc.cell? ⟨gb267, 0, none⟩ = some (.bool t256) := (blk_cell BK267.out 0).trans rfl
             have hcz48_1 : wc.cell? ⟨gb267, 1, none⟩ = some (.int .i64 t257) := (blk_cell BK267.out 1).trans rfl
             have hcz48_2 : wc.cell? ⟨gb267, 2, none⟩ = some (.int .i64 t258) := (blk_cell BK267.out 2).trans rfl
             have hcz48_3 : wc.cell? ⟨gb267, 3, none⟩ = some (.int .i64 0) := (blk_cell BK267.out 3).trans rfl
             have hcz48_4 : wc.cell? ⟨gb267, 4, none⟩ = some (.string t262) := (blk_cell BK267.out 4).trans rfl
             have hfz48_0 := blk_frozen BK267.out 0
             have hfz48_1 := blk_frozen BK267.out 1
             have hfz48_2 := blk_frozen BK267.out 2
             have hfz48_3 := blk_frozen BK267.out 3
             have hfz48_4 := blk_frozen BK267.out 4
             go_wp2
             go_meet
             case rel => exact ⟨_, (wrap64 (a3 * 16777216)), H', ⟨by have := HJ7.out; have := HJ13.out; have := HJ15.out; have := HJ42.out; first | omega | exact Nat.le_refl _⟩, ⟨by (with_reducible repeat (first | refine blk_drewN ?_ _ | refine blk_drew ?_ | refine blk_alloc ?_ _)); refine blk_far ?_ NB255_267.out _; (with_reducible repeat (first | refine blk_drewN ?_ _ | refine blk_drew ?_ | refine blk_alloc ?_ _)); exact BK255.out⟩, ⟨by (with_reducible repeat (first | refine blk_drewN ?_ _ | refine blk_drew ?_ | refine blk_alloc ?_ _)); refine blk_far ?_ NB266_267.out _; (with_reducible repeat (first | refine blk_drewN ?_ _ | refine blk_drew ?_ | refine blk_alloc ?_ _)); exact BK266.out⟩, ⟨by (with_reducible repeat (first | refine blk_drewN ?_ _ | refine blk_drew ?_ | refine blk_alloc ?_ _)); refine blk_put (cs := #[.bool t256, .int .i64 t257, .int .i64 t258, .int .i64 0, .string t262]) ?_ 3 _ rfl; (with_reducible repeat (first | refine blk_drewN ?_ _ | refine blk_drew ?_ | refine blk_alloc ?_ _)); exact BK267.out⟩, ⟨by repeat (first | (with_reducible first | exact HB.out | apply below_alloc | apply pw_below_drewN | apply below_drew1 | refine below_set ?_ GE255.out | refine below_set ?_ GE266.out | refine below_set ?_ GE267.out) | exact HB.out)⟩⟩
            ·
             replace c45 := Bool.eq_false_iff.mpr c45
             subst c45
             rw [if_neg (show ¬ (false = true) by decide)] at H
             by_cases c49 : a0 = 6
             ·
              rw [if_pos c49] at H
              have c49b0 : (a0 == 6) = true := beq_iff_eq.mpr c49
              have c49b1 : (a0 != 6) = false := bne_eq_false_iff_eq.mpr c49
              clear c49
              have H' := Aside0.mk H
              clear H
              have hnb50 := NB267_255.out
              have hnc50 := NB255_267.out
              have hnb51 := NB267_266.out
              have hnc51 := NB266_267.out
              have hcz52_0 : wc.cell? ⟨gb267, 0, none⟩ = some (.bool t256) := (blk_cell BK267.out 0).trans rfl
              have hcz52_1 : wc.cell? ⟨gb267, 1, none⟩ = some (.int .i64 t257) := (blk_cell BK267.out 1).trans rfl
              have hcz52_2 : wc.cell? ⟨gb267, 2, none⟩ = some (.int .i64 t258) := (blk_cell BK267.out 2).trans rfl
              have hcz52_3 : wc.cell? ⟨gb267, 3, none⟩ = some (.int .i64 0) := (blk_cell BK267.out 3).trans rfl
              have hcz52_4 : wc.cell? ⟨gb267, 4, none⟩ = some (.string t262) := (blk_cell BK267.out 4).trans rfl
              have hfz52_0 := blk_frozen BK267.out 0
              have hfz52_1 := blk_frozen BK267.out 1
              have hfz52_2 := blk_frozen BK267.out 2
              have hfz52_3 := blk_frozen BK267.out 3
              have hfz52_4 := blk_frozen BK267.out 4
              go_wp2
              go_meet
              case rel => exact ⟨_, (a3), H', ⟨by have := HJ7.out; have := HJ13.out; have := HJ15.out; have := HJ42.out; first | omega | exact Nat.le_refl _⟩, ⟨by (with_reducible repeat (first | refine blk_drewN ?_ _ | refine blk_drew ?_ | refine blk_alloc ?_ _)); refine blk_far ?_ NB255_267.out _; (with_reducible repeat (first | refine blk_drewN ?_ _ | refine blk_drew ?_ | refine blk_alloc ?_ _)); exact BK255.out⟩, ⟨by (with_reducible repeat (first | refine blk_drewN ?_ _ | refine blk_drew ?_ | refine blk_alloc ?_ _)); refine blk_far ?_ NB266_267.out _; (with_reducible repeat (first | refine blk_drewN ?_ _ | refine blk_drew ?_ | refine blk_alloc ?_ _)); exact BK266.out⟩, ⟨by (with_reducible repeat (first | refine blk_drewN ?_ _ | refine blk_drew ?_ | refine blk_alloc ?_ _)); refine blk_put (cs := #[.bool t256, .int .i64 t257, .int .i64 t258, .int .i64 0, .string t262]) ?_ 3 _ rfl; (with_reducible repeat (first | refine blk_drewN ?_ _ | refine blk_drew ?_ | refine blk_alloc ?_ _)); exact BK267.out⟩, ⟨by repeat (first | (with_reducible first | exact HB.out | apply below_alloc | apply pw_below_drewN | apply below_drew1 | refine below_set ?_ GE255.out | refine below_set ?_ GE266.out | refine below_set ?_ GE267.out) | exact HB.out)⟩⟩
             ·
              rw [if_neg c49] at H
              have c49b0 : (a0 == 6) = false := beq_eq_false_iff_ne.mpr c49
              have c49b1 : (a0 != 6) = true := bne_iff_ne.mpr c49
              by_cases c53 : a0 = 4
              ·
               rw [if_pos c53] at H
               have c53b0 : (a0 == 4) = true := beq_iff_eq.mpr c53
               have c53b1 : (a0 != 4) = false := bne_eq_false_iff_eq.mpr c53
               clear c53
               have H' := Aside0.mk H
               clear H
               have hnb54 := NB267_255.out
               have hnc54 := NB255_267.out
               have hnb55 := NB267_266.out
               have hnc55 := NB266_267.out
               have hcz56_0 : wc.cell? ⟨gb267, 0, none⟩ = some (.bool t256) := (blk_cell BK267.out 0).trans rfl
               have hcz56_1 : wc.cell? ⟨gb267, 1, none⟩ = some (.int .i64 t257) := (blk_cell BK267.out 1).trans rfl
               have hcz56_2 : wc.cell? ⟨gb267, 2, none⟩ = some (.int .i64 t258) := (blk_cell BK267.out 2).trans rfl
               have hcz56_3 : wc.cell? ⟨gb267, 3, none⟩ = some (.int .i64 0) := (blk_cell BK267.out 3).trans rfl
               have hcz56_4 : wc.cell? ⟨gb267, 4, none⟩ = some (.string t262) := (blk_cell BK267.out 4).trans rfl
               have hfz56_0 := blk_frozen BK267.out 0
               have hfz56_1 := blk_frozen BK267.out 1
               have hfz56_2 := blk_frozen BK267.out 2
               have hfz56_3 := blk_frozen BK267.out 3
               have hfz56_4 := blk_frozen BK267.out 4
               go_wp2
               go_meet
               case rel => exact ⟨_, (a3), H', ⟨by have := HJ7.out; have := HJ13.out; have := HJ15.out; have := HJ42.out; first | omega | exact Nat.le_refl _⟩, ⟨by (with_reducible repeat (first | refine blk_drewN ?_ _ | refine blk_drew ?_ | refine blk_alloc ?_ _)); refine blk_far ?_ NB255_267.out _; (with_reducible repeat (first | refine blk_drewN ?_ _ | refine blk_drew ?_ | refine blk_alloc ?_ _)); exact BK255.out⟩, ⟨by (with_reducible repeat (first | refine blk_drewN ?_ _ | refine blk_drew ?_ | refine blk_alloc ?_ _)); refine blk_far ?_ NB266_267.out _; (with_reducible repeat (first | refine blk_drewN ?_ _ | refine blk_drew ?_ | refine blk_alloc ?_ _)); exact BK266.out⟩, ⟨by (with_reducible repeat (first | refine blk_drewN ?_ _ | refine blk_drew ?_ | refine blk_alloc ?_ _)); refine blk_put (cs := #[.bool t256, .int .i64 t257, .int .i64 t258, .int .i64 0, .string t262]) ?_ 3 _ rfl; (with_reducible repeat (first | refine blk_drewN ?_ _ | refine blk_drew ?_ | refine blk_alloc ?_ _)); exact BK267.out⟩, ⟨by repeat (first | (with_reducible first | exact HB.out | apply below_alloc | apply pw_below_drewN | apply below_drew1 | refine below_set ?_ GE255.out | refine below_set ?_ GE266.out | refine below_set ?_ GE267.out) | exact HB.out)⟩⟩
              ·
               rw [if_neg c53] at H
               have c53b0 : (a0 == 4) = false := beq_eq_false_iff_ne.mpr c53
               have c53b1 : (a0 != 4) = true := bne_iff_ne.mpr c53
               have H' := Aside0.mk H
               clear H
               go_wp2
               go_meet
               case rel => exact ⟨_, (0), H', ⟨by have := HJ7.out; have := HJ13.out; have := HJ15.out; have := HJ42.out; first | omega | exact Nat.le_refl _⟩, ⟨by (with_reducible repeat (first | refine blk_drewN ?_ _ | refine blk_drew ?_ | refine blk_alloc ?_ _)); exact BK255.out⟩, ⟨by (with_reducible repeat (first | refine blk_drewN ?_ _ | refine blk_drew ?_ | refine blk_alloc ?_ _)); exact BK266.out⟩, ⟨by (with_reducible repeat (first | refine blk_drewN ?_ _ | refine blk_drew ?_ | refine blk_alloc ?_ _)); exact BK267.out⟩, ⟨by repeat (first | (with_reducible first | exact HB.out | apply below_alloc | apply pw_below_drewN | apply below_drew1 | refine below_set ?_ GE255.out | refine below_set ?_ GE266.out | refine below_set ?_ GE267.out) | exact HB.out)⟩⟩
         case rest =>
          clear HC33
          try clear c1
          try clear c2
          try clear p2
          try clear c3
          try clear c4
          try clear c5
          try clear p6
          try clear c10
          try clear c12
          try clear c13
          try clear c13b0
          try clear c13b1
          try clear c14
          try clear c15
          try clear c17
          try clear c18
          try clear c18b0
          try clear c18b1
          try clear c18b2
          try clear c20
          try clear c20b0
          try clear c20b1
          try clear c21
          try clear c21b0
          try clear c22
          try clear c23
          try clear c24
          try clear c24b0
          try clear c24b1
          try clear c25
          try clear c25b0
          try clear c29
          try clear c31
          try clear c37
          try clear c40
          try clear c41
          try clear c44
          try clear c44b0
          try clear c44b1
          try clear c45
          try clear c46
          try clear c47
          try clear c49
          try clear c49b0
          try clear c49b1
          try clear c50
          try clear c51
          try clear c53
          try clear c53b0
          try clear c53b1
          try clear c54
          try clear c55
          try clear hcz11_0
          try clear hcz11_1
          try clear hcz11_2
          try clear hcz19_0
          try clear hcz19_1
          try clear hcz19_2
          try clear hcz22_0
          try clear hcz22_1
          try clear hcz22_2
          try clear hcz23_0
          try clear hcz23_1
          try clear hcz23_2
          try clear hcz26_0
          try clear hcz26_1
          try clear hcz26_2
          try clear hcz27_0
          try clear hcz27_1
          try clear hcz27_2
          try clear hcz28_0
          try clear hcz28_1
          try clear hcz28_2
          try clear hcz38_0
          try clear hcz38_1
          try clear hcz38_2
          try clear hcz42_0
          try clear hcz42_1
          try clear hcz42_2
          try clear hcz42_3
          try clear hcz42_4
          try clear hcz48_0
          try clear hcz48_1
          try clear hcz48_2
          try clear hcz48_3
          try clear hcz48_4
          try clear hcz52_0
          try clear hcz52_1
          try clear hcz52_2
          try clear hcz52_3
          try clear hcz52_4
          try clear hcz56_0
          try clear hcz56_1
          try clear hcz56_2
          try clear hcz56_3
          try clear hcz56_4
          try clear hfz11_0
          try clear hfz11_1
          try clear hfz11_2
          try clear hfz19_0
          try clear hfz19_1
          try clear hfz19_2
          try clear hfz22_0
          try clear hfz22_1
          try clear hfz22_2
          try clear hfz23_0
          try clear hfz23_1
          try clear hfz23_2
          try clear hfz26_0
          try clear hfz26_1
          try clear hfz26_2
          try clear hfz27_0
          try clear hfz27_1
          try clear hfz27_2
          try clear hfz28_0
          try clear hfz28_1
          try clear hfz28_2
          try clear hfz38_0
          try clear hfz38_1
          try clear hfz38_2
          try clear hfz42_0
          try clear hfz42_1
          try clear hfz42_2
          try clear hfz42_3
          try clear hfz42_4
          try clear hfz48_0
          try clear hfz48_1
          try clear hfz48_2
          try clear hfz48_3
          try clear hfz48_4
          try clear hfz52_0
          try clear hfz52_1
          try clear hfz52_2
          try clear hfz52_3
          try clear hfz52_4
          try clear hfz56_0
          try clear hfz56_1
          try clear hfz56_2
          try clear hfz56_3
          try clear hfz56_4
          try clear p2
          obtain ⟨kq, x268003_32, HA, HJ32, BK255, BK266, BK267, HB⟩ := hcut
          cases kq with
          | zero => exact absurd HA.out (by simp [excuse_Of.j4])
          | succ kj32 =>
           have H := HA.out
           clear HA
           simp only [excuse_Of.j4] at H
           replace H := Option.bind_eq_some_iff.mp H
           obtain ⟨⟨t268, t269⟩, A570, H⟩ := H
           replace H : (if t256 = true then ((ip6_Lay.f 0 0 58 64 a2_0 a2_1 a2_2 t263 t264 t265 t268).bind fun bt270 => (some (bt270.1, bt270.2))) else ((ip4_Lay.f kj32 0 0 false false 0 64 1 a2_0 a2_1 a2_2 t263 t264 t265 (⟨#[]⟩ : ByteArray) t268).bind fun bt272 => (some (bt272.1, bt272.2)))) = some (r1, r2) := H
           have A57 := Aside0.mk A570
           clear A570
           by_cases c58 : t256 = true
           ·
            subst c58
            rw [if_pos rfl] at H
            replace H := Option.bind_eq_some_iff.mp H
            obtain ⟨⟨t270, t271⟩, A590, H⟩ := H
            replace H : (some (t270, t271)) = some (r1, r2) := H
            have A59 := Aside0.mk A590
            clear A590
            simp only [Option.some.injEq, Prod.mk.injEq] at H
            obtain ⟨rfl, rfl⟩ := H
            have hnb60 := NB267_255.out
            have hnc60 := NB255_267.out
            have hnb61 := NB267_266.out
            have hnc61 := NB266_267.out
            have hcz62_0 : wc.cell? ⟨gb267, 0, none⟩ = some (.bool true) := (blk_cell BK267.out 0).trans rfl
            have hcz62_1 : wc.cell? ⟨gb267, 1, none⟩ = some (.int .i64 t257) := (blk_cell BK267.out 1).trans rfl
            have hcz62_2 : wc.cell? ⟨gb267, 2, none⟩ = some (.int .i64 t258) := (blk_cell BK267.out 2).trans rfl
            have hcz62_3 : wc.cell? ⟨gb267, 3, none⟩ = some (.int .i64 x268003_32) := (blk_cell BK267.out 3).trans rfl
            have hcz62_4 : wc.cell? ⟨gb267, 4, none⟩ = some (.string t262) := (blk_cell BK267.out 4).trans rfl
            have hfz62_0 := blk_frozen BK267.out 0
            have hfz62_1 := blk_frozen BK267.out 1
            have hfz62_2 := blk_frozen BK267.out 2
            have hfz62_3 := blk_frozen BK267.out 3
            have hfz62_4 := blk_frozen BK267.out 4
            have hnb63 := NB255_266.out
            have hnc63 := NB266_255.out
            have hcz64_0 : wc.cell? ⟨gb255, 0, none⟩ = some (.bool a2_0) := (blk_cell BK255.out 0).trans rfl
            have hcz64_1 : wc.cell? ⟨gb255, 1, none⟩ = some (.int .u64 a2_1) := (blk_cell BK255.out 1).trans rfl
            have hcz64_2 : wc.cell? ⟨gb255, 2, none⟩ = some (.int .u64 a2_2) := (blk_cell BK255.out 2).trans rfl
            have hfz64_0 := blk_frozen BK255.out 0
            have hfz64_1 := blk_frozen BK255.out 1
            have hfz64_2 := blk_frozen BK255.out 2
            have hcz65_0 : wc.cell? ⟨gb266, 0, none⟩ = some (.bool t263) := (blk_cell BK266.out 0).trans rfl
            have hcz65_1 : wc.cell? ⟨gb266, 1, none⟩ = some (.int .u64 t264) := (blk_cell BK266.out 1).trans rfl
            have hcz65_2 : wc.cell? ⟨gb266, 2, none⟩ = some (.int .u64 t265) := (blk_cell BK266.out 2).trans rfl
            have hfz65_0 := blk_frozen BK266.out 0
            have hfz65_1 := blk_frozen BK266.out 1
            have hfz65_2 := blk_frozen BK266.out 2
            go_wp2_with (first | ((with_reducible refine gate_callee (f := 25) rfl ?_); refine sh_C 101 Tryd.func25 #[.agg #[.bool true, .int .i64 t257, .int .i64 t258, .int .i64 x268003_32, .string t262], .agg #[.bool a2_0, .int .u64 a2_1, .int .u64 a2_2], .agg #[.bool t263, .int .u64 t264, .int .u64 t265]] ?_; (with_reducible refine (icmp_Lay.calls kj32 true t257 t258 x268003_32 t262 a2_0 a2_1 a2_2 t263 t264 t265 t268 t269 _ A57.out).mono ?_); rintro e w66 ⟨rfl, hb⟩; refine ⟨_, rfl, ?_⟩; replace BK255 := sh_L BK255 hb; replace BK266 := sh_L BK266 hb; replace BK267 := sh_L BK267 hb; replace HB := sh_S HB hb; (try clear hb); (try clear hb2); (try clear hk); (try clear hi); obtain ⟨hcz67_0, hcz67_1, hcz67_2⟩ := MBlk.c3 BK255.out; obtain ⟨hfz67_0, hfz67_1, hfz67_2⟩ := MBlk.f3 BK255.out; obtain ⟨hcz68_0, hcz68_1, hcz68_2⟩ := MBlk.c3 BK266.out; obtain ⟨hfz68_0, hfz68_1, hfz68_2⟩ := MBlk.f3 BK266.out) | ((with_reducible refine gate_callee (f := 26) rfl ?_); refine sh_C 109 Tryd.func26 #[.agg #[.int .i64 0, .int .i64 0, .int .i64 58, .int .i64 64, .bool a2_0, .int .u64 a2_1, .int .u64 a2_2, .bool t263, .int .u64 t264, .int .u64 t265, .string t268]] ?_; (with_reducible refine (ip6_Lay.calls 0 0 58 64 a2_0 a2_1 a2_2 t263 t264 t265 t268 t270 t271 _ A59.out).mono ?_); rintro e w69 ⟨rfl, hb⟩; refine ⟨_, rfl, ?_⟩; replace BK255 := sh_L BK255 hb; replace BK266 := sh_L BK266 hb; replace BK267 := sh_L BK267 hb; replace HB := sh_S HB hb; (try clear hb); (try clear hb2); (try clear hk); (try clear hi)))
            go_ret2
            exact ⟨by first | rfl | (simp [errW_none, errW_some] <;> rfl) | (simp [*, errW_none, errW_some] <;> rfl), by repeat (first | (with_reducible first | exact HB.out | apply below_alloc | apply pw_below_drewN | apply below_drew1 | refine below_set ?_ GE255.out | refine below_set ?_ GE266.out | refine below_set ?_ GE267.out) | exact HB.out)⟩
           ·
            replace c58 := Bool.eq_false_iff.mpr c58
            subst c58
            rw [if_neg (show ¬ (false = true) by decide)] at H
            replace H := Option.bind_eq_some_iff.mp H
            obtain ⟨⟨t272, t273⟩, A700, H⟩ := H
            replace H : (some (t272, t273)) = some (r1, r2) := H
            have A70 := Aside0.mk A700
            clear A700
            simp only [Option.some.injEq, Prod.mk.injEq] at H
            obtain ⟨rfl, rfl⟩ := H
            have hnb71 := NB267_255.out
            have hnc71 := NB255_267.out
            have hnb72 := NB267_266.out
            have hnc72 := NB266_267.out
            have hcz73_0 : wc.cell? ⟨gb267, 0, none⟩ = some (.bool false) := (blk_cell BK267.out 0).trans rfl
            have hcz73_1 : wc.cell? ⟨gb267, 1, none⟩ = some (.int .i64 t257) := (blk_cell BK267.out 1).trans rfl
            have hcz73_2 : wc.cell? ⟨gb267, 2, none⟩ = some (.int .i64 t258) := (blk_cell BK267.out 2).trans rfl
            have hcz73_3 : wc.cell? ⟨gb267, 3, none⟩ = some (.int .i64 x268003_32) := (blk_cell BK267.out 3).trans rfl
            have hcz73_4 : wc.cell? ⟨gb267, 4, none⟩ = some (.string t262) := (blk_cell BK267.out 4).trans rfl
            have hfz73_0 := blk_frozen BK267.out 0
            have hfz73_1 := blk_frozen BK267.out 1
            have hfz73_2 := blk_frozen BK267.out 2
            have hfz73_3 := blk_frozen BK267.out 3
            have hfz73_4 := blk_frozen BK267.out 4
            have hnb74 := NB255_266.out
            have hnc74 := NB266_255.out
            have hcz75_0 : wc.cell? ⟨gb255, 0, none⟩ = some (.bool a2_0) := (blk_cell BK255.out 0).trans rfl
            have hcz75_1 : wc.cell? ⟨gb255, 1, none⟩ = some (.int .u64 a2_1) := (blk_cell BK255.out 1).trans rfl
            have hcz75_2 : wc.cell? ⟨gb255, 2, none⟩ = some (.int .u64 a2_2) := (blk_cell BK255.out 2).trans rfl
            have hfz75_0 := blk_frozen BK255.out 0
            have hfz75_1 := blk_frozen BK255.out 1
            have hfz75_2 := blk_frozen BK255.out 2
            have hcz76_0 : wc.cell? ⟨gb266, 0, none⟩ = some (.bool t263) := (blk_cell BK266.out 0).trans rfl
            have hcz76_1 : wc.cell? ⟨gb266, 1, none⟩ = some (.int .u64 t264) := (blk_cell BK266.out 1).trans rfl
            have hcz76_2 : wc.cell? ⟨gb266, 2, none⟩ = some (.int .u64 t265) := (blk_cell BK266.out 2).trans rfl
            have hfz76_0 := blk_frozen BK266.out 0
            have hfz76_1 := blk_frozen BK266.out 1
            have hfz76_2 := blk_frozen BK266.out 2
            go_wp2_with (first | ((with_reducible refine gate_callee (f := 25) rfl ?_); refine sh_C 101 Tryd.func25 #[.agg #[.bool false, .int .i64 t257, .int .i64 t258, .int .i64 x268003_32, .string t262], .agg #[.bool a2_0, .int .u64 a2_1, .int .u64 a2_2], .agg #[.bool t263, .int .u64 t264, .int .u64 t265]] ?_; (with_reducible refine (icmp_Lay.calls kj32 false t257 t258 x268003_32 t262 a2_0 a2_1 a2_2 t263 t264 t265 t268 t269 _ A57.out).mono ?_); rintro e w77 ⟨rfl, hb⟩; refine ⟨_, rfl, ?_⟩; replace BK255 := sh_L BK255 hb; replace BK266 := sh_L BK266 hb; replace BK267 := sh_L BK267 hb; replace HB := sh_S HB hb; (try clear hb); (try clear hb2); (try clear hk); (try clear hi); obtain ⟨hcz78_0, hcz78_1, hcz78_2⟩ := MBlk.c3 BK255.out; obtain ⟨hfz78_0, hfz78_1, hfz78_2⟩ := MBlk.f3 BK255.out; obtain ⟨hcz79_0, hcz79_1, hcz79_2⟩ := MBlk.c3 BK266.out; obtain ⟨hfz79_0, hfz79_1, hfz79_2⟩ := MBlk.f3 BK266.out) | ((with_reducible refine gate_callee (f := 17) rfl ?_); refine sh_C 116 Tryd.func17 #[.agg #[.int .i64 0, .int .i64 0, .bool false, .bool false, .int .i64 0, .int .i64 64, .int .i64 1, .bool a2_0, .int .u64 a2_1, .int .u64 a2_2, .bool t263, .int .u64 t264, .int .u64 t265, .string (⟨#[]⟩ : ByteArray), .string t268]] ?_; (with_reducible refine (ip4_Lay.calls kj32 0 0 false false 0 64 1 a2_0 a2_1 a2_2 t263 t264 t265 (⟨#[]⟩ : ByteArray) t268 t272 t273 _ A70.out).mono ?_); rintro e w80 ⟨rfl, hb⟩; refine ⟨_, rfl, ?_⟩; replace BK255 := sh_L BK255 hb; replace BK266 := sh_L BK266 hb; replace BK267 := sh_L BK267 hb; replace HB := sh_S HB hb; (try clear hb); (try clear hb2); (try clear hk); (try clear hi)))
            go_ret2
            exact ⟨by first | rfl | (simp [errW_none, errW_some] <;> rfl) | (simp [*, errW_none, errW_some] <;> rfl), by repeat (first | (with_reducible first | exact HB.out | apply below_alloc | apply pw_below_drewN | apply below_drew1 | refine below_set ?_ GE255.out | refine below_set ?_ GE266.out | refine below_set ?_ GE267.out) | exact HB.out)⟩
        ·
         replace c31 := Bool.eq_false_iff.mpr c31
         subst c31
         rw [if_neg (show ¬ (false = true) by decide)] at H
         simp only [Option.some.injEq, Prod.mk.injEq] at H
         obtain ⟨rfl, rfl⟩ := H
         go_wp2_with (first | ((with_reducible refine gate_callee (f := 14) rfl ?_); refine sh_C 66 Tryd.func14 #[.string a1] ?_; (with_reducible refine (excuse_May.calls kj15 a1 false _ A30.out).mono ?_); rintro e w81 ⟨rfl, hb⟩; refine ⟨_, rfl, ?_⟩; replace BK255 := sh_L BK255 hb; replace HB := sh_S HB hb; (try clear hb); (try clear hb2); (try clear hk); (try clear hi)))
         go_ret2
         exact ⟨by first | rfl | (simp [errW_none, errW_some] <;> rfl) | (simp [*, errW_none, errW_some] <;> rfl), by repeat (first | (with_reducible first | exact HB.out | apply below_alloc | apply pw_below_drewN | apply below_drew1 | refine below_set ?_ GE255.out) | exact HB.out)⟩

end Go.Proofs.YtaoopneiglgnkaaDoor.PBase
