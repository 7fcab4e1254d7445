/- Functions of the program as Lean functions, each with a proof that a call comes to what it says. Conditions: those of each theorem. Laid by a program of this session. -/
import Derived.Test.YthajbaheejdoaaaDoorPBasex0
import Derived.Test.YthajbaheejdoaaaDoorPBasex2
import Derived.Test.YthajbaheejdoaaaDoorPBasex4
namespace Go.Proofs.YthajbaheejdoaaaDoor.PBase
open Go.RowKit Go.Proofs.YthajbaheejdoaaaDoor Go.Proofs.YthajbaheejdoaaaDoorW.PrintWords Go.Proofs.YthajbaheejdoaaaDoorW.PrintLast Go.Proofs.YthajbaheejdoaaaDoorW.PrintMore
attribute [local go_sem] max2_int min2_int max_two min_two max_three min_three max_four min_four   -- for this text's walks alone
set_option linter.unusedVariables false
set_option linter.unusedSimpArgs false

attribute [local go_sem high] eqA27
/-! ### ether_digit: function 36 -/
mutual
def ether_digit.j0 : Nat → Int → Bool → Option (Int)
 | 0, _, _ => none
 | k + 1, x0, x3 => if x3 = true then (some (wrap64 (wrap32 (x0 - 48)))) else (if x0 ≥ 97 then (ether_digit.j1 k x0 (decide (x0 ≤ 102))) else (ether_digit.j1 k x0 false))
def ether_digit.j1 : Nat → Int → Bool → Option (Int)
 | 0, _, _ => none
 | k + 1, x0, x13 => if x13 = true then (some (wrap64 ((wrap64 (wrap32 (x0 - 97))) + 10))) else (if x0 ≥ 65 then (if x0 ≤ 70 then (some (wrap64 ((wrap64 (wrap32 (x0 - 65))) + 10))) else (some (-1))) else (some (-1)))
end
def ether_digit.f (k : Nat) (a0 : Int) : Option (Int) := if a0 ≥ 48 then (ether_digit.j0 k a0 (decide (a0 ≤ 57))) else (ether_digit.j0 k a0 false)
theorem ether_digit.mono_l : ∀ k, (∀ y0 y1, LeO (ether_digit.j0 k y0 y1) (ether_digit.j0 (k + 1) y0 y1)) ∧ (∀ y0 y1, LeO (ether_digit.j1 k y0 y1) (ether_digit.j1 (k + 1) y0 y1))
 | 0 => ⟨fun _ _ r h => by simp [ether_digit.j0] at h, fun _ _ r h => by simp [ether_digit.j1] at h⟩
 | k + 1 => by
  obtain ⟨ih0, ih1⟩ := ether_digit.mono_l k
  refine ⟨?_, ?_⟩
  ·
   intro y0 y1
   unfold ether_digit.j0
   repeat' first
   | (with_reducible exact ih0 _ _)
   | (with_reducible exact ih1 _ _)
   | (with_reducible exact LeO.refl _)
   | (with_reducible exact LeO.none _)
   | (with_reducible refine LeO.ite ?_ ?_)
   | (with_reducible refine LeO.bind ?_ (fun _ => ?_))
   | exact ih0 _ _
   | exact ih1 _ _
   | exact LeO.none _
   | refine LeO.ite ?_ ?_
   | refine LeO.bind ?_ (fun _ => ?_)
  ·
   intro y0 y1
   unfold ether_digit.j1
   repeat' first
   | (with_reducible exact ih0 _ _)
   | (with_reducible exact ih1 _ _)
   | (with_reducible exact LeO.refl _)
   | (with_reducible exact LeO.none _)
   | (with_reducible refine LeO.ite ?_ ?_)
   | (with_reducible refine LeO.bind ?_ (fun _ => ?_))
   | exact ih0 _ _
   | exact ih1 _ _
   | exact LeO.none _
   | refine LeO.ite ?_ ?_
   | refine LeO.bind ?_ (fun _ => ?_)
theorem ether_digit.mono : ∀ a0 k, LeO (ether_digit.f k a0) (ether_digit.f (k + 1) a0) := by
 intro a0 k
 obtain ⟨ih0, ih1⟩ := ether_digit.mono_l k
 unfold ether_digit.f
 repeat' first
   | (with_reducible exact ih0 _ _)
   | (with_reducible exact ih1 _ _)
   | (with_reducible exact LeO.refl _)
   | (with_reducible exact LeO.none _)
   | (with_reducible refine LeO.ite ?_ ?_)
   | (with_reducible refine LeO.bind ?_ (fun _ => ?_))
   | exact ih0 _ _
   | exact ih1 _ _
   | exact LeO.none _
   | refine LeO.ite ?_ ?_
   | refine LeO.bind ?_ (fun _ => ?_)
set_option maxHeartbeats 8000000 in
set_option maxRecDepth 100000 in
theorem ether_digit.calls (k : Nat) (a0 : Int) (r : Int) (w : World) (h : ether_digit.f k a0 = some r) :
  Calls Tryd.prog 36 #[.int .i32 a0] w fun e w' => e = .returned (.int .i64 r) ∧ Drawn0 w w' := by
 have H : (if a0 ≥ 48 then (ether_digit.j0 k a0 (decide (a0 ≤ 57))) else (ether_digit.j0 k a0 false)) = some r := h
 clear h
 have HC2 := Aside0.mk H
 clear H
 go_enter Tryd.func36, Tryd.ntmps36
 go_upto_region 1 with (fail)
 go_cut [3] (fun v3 wc => ∃ (kq : Nat) (x3_1 : Bool), v3 = .bool x3_1 ∧ Aside0 (ether_digit.j0 kq a0 x3_1 = some r) ∧ Aside0 (kq ≤ k) ∧ Drawn0 w wc)
 case first =>
  have H := HC2.out
  clear HC2
  by_cases c3 : a0 ≥ 48
  ·
   rw [if_pos c3] at H
   have c3b0 : decide (48 ≤ a0) = true := decide_eq_true c3
   clear c3
   (first | rw [c3b0] | (simp only [i64_w, i32_w]; rw [c3b0]) | skip)
   have H' := Aside0.mk H
   clear H
   go_wp2
   go_meet
   case rel => exact ⟨_, (decide (a0 ≤ 57)), (by first | rfl | (simp; done) | (simp [*]; done)), H', ⟨by first | omega | exact Nat.le_refl _⟩, by repeat (first | exact Drawn0.refl _ | apply Drawn0.step)⟩
  ·
   rw [if_neg c3] at H
   have c3b0 : decide (48 ≤ a0) = false := decide_eq_false c3
   clear c3
   (first | rw [c3b0] | (simp only [i64_w, i32_w]; rw [c3b0]) | skip)
   have H' := Aside0.mk H
   clear H
   go_wp2
   go_meet
   case rel => exact ⟨_, (false), (by first | rfl | (simp; done) | (simp [*]; done)), H', ⟨by first | omega | exact Nat.le_refl _⟩, by repeat (first | exact Drawn0.refl _ | apply Drawn0.step)⟩
 case rest =>
  clear HC2
  try clear p2
  try clear c3
  try clear c3b0
  obtain ⟨kq, x3_1, rfl, HA, HJ1, ⟨mc1, rfl⟩⟩ := hcut
  cases kq with
  | zero => exact absurd HA.out (by simp [ether_digit.j0])
  | succ kj1 =>
   have H := HA.out
   clear HA
   simp only [ether_digit.j0] at H
   by_cases c4 : x3_1 = true
   ·
    subst c4
    rw [if_pos rfl] at H
    obtain rfl := Option.some.inj H
    go_wp2
    go_ret
    exact ⟨by first | rfl | (simp; done) | (simp [*]; done), by repeat (first | exact Drawn0.refl _ | apply Drawn0.step)⟩
   ·
    replace c4 := Bool.eq_false_iff.mpr c4
    subst c4
    rw [if_neg (show ¬ (false = true) by decide)] at H
    have HC5 := Aside0.mk H
    clear H
    go_upto_region 3 with (fail)
    go_cut [13] (fun v13 wc => ∃ (kq : Nat) (x13_4 : Bool), v13 = .bool x13_4 ∧ Aside0 (ether_digit.j1 kq a0 x13_4 = some r) ∧ Aside0 (kq ≤ kj1) ∧ Drawn0 w wc)
    case first =>
     have H := HC5.out
     clear HC5
     by_cases c6 : a0 ≥ 97
     ·
      rw [if_pos c6] at H
      have c6b0 : decide (97 ≤ a0) = true := decide_eq_true c6
      clear c6
      (first | rw [c6b0] | (simp only [i64_w, i32_w]; rw [c6b0]) | skip)
      have H' := Aside0.mk H
      clear H
      go_wp2
      go_meet
      case rel => exact ⟨_, (decide (a0 ≤ 102)), (by first | rfl | (simp; done) | (simp [*]; done)), H', ⟨by have := HJ1.out; first | omega | exact Nat.le_refl _⟩, by repeat (first | exact Drawn0.refl _ | apply Drawn0.step)⟩
     ·
      rw [if_neg c6] at H
      have c6b0 : decide (97 ≤ a0) = false := decide_eq_false c6
      clear c6
      (first | rw [c6b0] | (simp only [i64_w, i32_w]; rw [c6b0]) | skip)
      have H' := Aside0.mk H
      clear H
      go_wp2
      go_meet
      case rel => exact ⟨_, (false), (by first | rfl | (simp; done) | (simp [*]; done)), H', ⟨by have := HJ1.out; first | omega | exact Nat.le_refl _⟩, by repeat (first | exact Drawn0.refl _ | apply Drawn0.step)⟩
    case rest =>
     clear HC5
     try clear c1
     try clear p2
     try clear c3
     try clear c3b0
     try clear c4
     try clear c6
     try clear c6b0
     try clear p2
     obtain ⟨kq, x13_4, rfl, HA, HJ4, ⟨mc4, rfl⟩⟩ := hcut
     cases kq with
     | zero => exact absurd HA.out (by simp [ether_digit.j1])
     | succ kj4 =>
      have H := HA.out
      clear HA
      simp only [ether_digit.j1] at H
      by_cases c7 : x13_4 = true
      ·
       subst c7
       rw [if_pos rfl] at H
       obtain rfl := Option.some.inj H
       go_wp2
       go_ret
       exact ⟨by first | rfl | (simp; done) | (simp [*]; done), by repeat (first | exact Drawn0.refl _ | apply Drawn0.step)⟩
      ·
       replace c7 := Bool.eq_false_iff.mpr c7
       subst c7
       rw [if_neg (show ¬ (false = true) by decide)] at H
       by_cases c8 : a0 ≥ 65
       ·
        rw [if_pos c8] at H
        have c8b0 : decide (65 ≤ a0) = true := decide_eq_true c8
        clear c8
        by_cases c9 : a0 ≤ 70
        ·
         rw [if_pos c9] at H
         have c9b0 : decide (a0 ≤ 70) = true := decide_eq_true c9
         clear c9
         obtain rfl := Option.some.inj H
         go_wp2
         go_ret
         exact ⟨by first | rfl | (simp; done) | (simp [*]; done), by repeat (first | exact Drawn0.refl _ | apply Drawn0.step)⟩
        ·
         rw [if_neg c9] at H
         have c9b0 : decide (a0 ≤ 70) = false := decide_eq_false c9
         clear c9
         obtain rfl := Option.some.inj H
         go_wp2
         go_ret
         exact ⟨by first | rfl | (simp; done) | (simp [*]; done), by repeat (first | exact Drawn0.refl _ | apply Drawn0.step)⟩
       ·
        rw [if_neg c8] at H
        have c8b0 : decide (65 ≤ a0) = false := decide_eq_false c8
        clear c8
        obtain rfl := Option.some.inj H
        go_wp2
        go_ret
        exact ⟨by first | rfl | (simp; done) | (simp [*]; done), by repeat (first | exact Drawn0.refl _ | apply Drawn0.step)⟩

/-! ### ether_ParseMac: function 19 (by hand) -/
/-- The number behind one more digit. -/
def ether_ParseMac.nx (n d : Int) (at_ : Nat) : Int := if d ≥ 0 then (if (at_ : Int) < 17 then Go.bits .or .i64 (wrap64 (n * 16)) d else n) else n
/-- The rounds over a text's runes. -/
def ether_ParseMac.l (k : Nat) (s : ByteArray) : Nat → Nat → Int → Nat → Option (Int × Int)
 | 0, _, _, _ => none
 | g + 1, pos, n, at_ => if pos < s.size then (ether_digit.f k ((Utf8.decode s pos).1 : Nat)).bind fun d =>
   if (at_ : Int) % 3 = 2 then (if (((Utf8.decode s pos).1 : Nat) : Int) = 58 then ether_ParseMac.l k s g (pos + (Utf8.decode s pos).2) (ether_ParseMac.nx n d at_) (at_ + 1) else some (0, 40))
   else (if (((Utf8.decode s pos).1 : Nat) : Int) = 58 then some (0, 40) else if d < 0 then some (0, 40) else ether_ParseMac.l k s g (pos + (Utf8.decode s pos).2) (ether_ParseMac.nx n d at_) (at_ + 1))
   else if (at_ : Int) = 17 then some (IntKind.u64.wrap n, 0) else some (0, 40)
def ether_ParseMac.f (k : Nat) (s : ByteArray) : Option (Int × Int) := if s.size ≤ 140737488355328 then ether_ParseMac.l k s (s.size + 1) 0 0 0 else none
theorem ether_ParseMac.mono_l (s : ByteArray) (k : Nat) : ∀ (g pos : Nat) (n : Int) (at_ : Nat), LeO (ether_ParseMac.l k s g pos n at_) (ether_ParseMac.l (k + 1) s g pos n at_)
 | 0, _, _, _ => LeO.refl _
 | g + 1, pos, n, at_ => by
  rw [ether_ParseMac.l, ether_ParseMac.l]
  exact LeO.ite (LeO.bind (ether_digit.mono _ _) (fun d => LeO.ite (LeO.ite (ether_ParseMac.mono_l s k g _ _ _) (LeO.refl _)) (LeO.ite (LeO.refl _) (LeO.ite (LeO.refl _) (ether_ParseMac.mono_l s k g _ _ _))))) (LeO.refl _)
theorem ether_ParseMac.mono : ∀ a0 k, LeO (ether_ParseMac.f k a0) (ether_ParseMac.f (k + 1) a0) := by
 intro a0 k
 unfold ether_ParseMac.f
 exact LeO.ite (ether_ParseMac.mono_l _ _ _ _ _ _) (LeO.refl _)
set_option maxHeartbeats 2000000 in
set_option maxRecDepth 100000 in
theorem ether_ParseMac.calls (k : Nat) (a0 : ByteArray) (r1 r2 : Int) (w : World) (h : ether_ParseMac.f k a0 = some (r1, r2)) :
  Calls Tryd.prog 19 #[.string a0] w fun e w' => e = .returned (.tuple #[.int .u64 r1, .int .i64 r2]) ∧ Below w.heap.size w w' := by
 unfold ether_ParseMac.f at h
 split at h
 case isFalse => cases h
 rename_i hbig
 have H := Aside0.mk h
 clear h
 go_enter Tryd.func19, Tryd.ntmps19
 go_wp2_with fail
 have HIT := Aside0.mk (World.iter_heap w a0 0)
 have HB := Aside0.mk (show Below w.heap.size w (w.iter a0 0) from below_alloc (Below.refl _ _) _)
 go_loopg [4, 5] (a0.size + 1) (fun kq v4 v5 w' => ∃ (pos : Nat) (n : Int) (at_ : Nat), v4 = .int .i64 n ∧ v5 = .int .i64 (at_ : Int) ∧ Aside0 (ether_ParseMac.l k a0 kq pos n at_ = some (r1, r2)) ∧ Aside0 (at_ + kq = a0.size + 1) ∧ Aside0 (w'.heap[w.heap.size]? = some (.stringIter a0 pos)) ∧ Aside0 (Below w.heap.size w w'))
 case atStart => exact ⟨0, 0, 0, rfl, rfl, H, ⟨by omega⟩, HIT, HB⟩
 case round =>
  clear H HIT HB
  obtain ⟨pos, n, at_, rfl, rfl, H, HP, HIT, HB⟩ := hrel
  cases gk with
  | zero => exact absurd H.out (by simp [ether_ParseMac.l])
  | succ g =>
   by_cases hp : pos < a0.size
   · have hnx : ∀ ty, (Instr.next (.pointer (some ⟨w.heap.size, 0, none⟩)) true ty).run Tryd.prog wr = _ := fun ty => Lib.run_next_any_at wr w.heap.size a0 pos ty HIT.out hp
     obtain ⟨p2, hp2⟩ : ∃ p2, pos + (Utf8.decode a0 pos).2 = p2 := ⟨_, rfl⟩
     obtain ⟨c, hc⟩ : ∃ c : Nat, (Utf8.decode a0 pos).1 = c := ⟨_, rfl⟩
     have hl := H.out
     rw [ether_ParseMac.l, if_pos hp] at hl
     rw [hp2] at hl hnx
     rw [hc] at hl hnx
     obtain ⟨d, hd, hl⟩ := Option.bind_eq_some_iff.1 hl
     have HD := Aside0.mk hd
     clear H hd hc hp2
     have hq : at_ ≤ a0.size := by have := HP.out; omega
     have ew : wrap64 ((at_ : Int) + 1) = ((at_ + 1 : Nat) : Int) := by unfold wrap64; omega
     have ew2 : IntKind.i64.wrap ((at_ : Int) + 1) = ((at_ + 1 : Nat) : Int) := by simp only [i64_w]; exact ew
     go_wp2_with fail
     refine (ether_digit.calls k c d _ HD.out).mono ?_
     rintro e w5 ⟨rfl, hdr⟩
     have HIT5 := Aside0.mk (show w5.heap[w.heap.size]? = some (.stringIter a0 p2) by
      obtain ⟨nd, rfl⟩ := hdr.out
      exact Lib.iterAt_heap wr w.heap.size a0 pos p2 HIT.out)
     have HB5 := Aside0.mk (show Below w.heap.size w w5 from below_step (Lib.below_iterAt HB.out (Nat.le_refl _) a0 p2) hdr.below)
     clear HIT HB hdr hnx
     by_cases hm : (at_ : Int) % 3 = 2
     · rw [if_pos hm] at hl
       by_cases h58 : (c : Int) = 58
       · rw [if_pos h58] at hl
         have HL := Aside0.mk hl
         clear hl
         by_cases hd0 : d ≥ 0
         · by_cases h17 : (at_ : Int) < 17
           · go_wp2_with fail
             go_roundg g
             case measure => omega
             case rel => exact ⟨p2, _, at_ + 1, rfl, by first | rfl | (simp; done), by unfold ether_ParseMac.nx at HL; rw [if_pos hd0, if_pos h17] at HL; exact HL, ⟨by have := HP.out; omega⟩, HIT5, HB5⟩
           · go_wp2_with fail
             go_roundg g
             case measure => omega
             case rel => exact ⟨p2, _, at_ + 1, rfl, by first | rfl | (simp; done), by unfold ether_ParseMac.nx at HL; rw [if_pos hd0, if_neg (by omega)] at HL; exact HL, ⟨by have := HP.out; omega⟩, HIT5, HB5⟩
         · have hdn : d < 0 := by omega
           go_wp2_with fail
           go_roundg g
           case measure => omega
           case rel => exact ⟨p2, _, at_ + 1, rfl, by first | rfl | (simp; done), by unfold ether_ParseMac.nx at HL; rw [if_neg (by omega)] at HL; exact HL, ⟨by have := HP.out; omega⟩, HIT5, HB5⟩
       · rw [if_neg h58] at hl
         have h58b : ((c : Int) == 58) = false := by simpa using h58
         obtain rfl := (Prod.mk.inj (Option.some.inj hl)).1; obtain rfl := (Prod.mk.inj (Option.some.inj hl)).2
         clear hl
         go_wp2_with fail
         go_ret2
         exact ⟨rfl, HB5.out⟩
     · rw [if_neg hm] at hl
       have hmb : ((at_ : Int) % 3 == 2) = false := by simpa using hm
       by_cases h58 : (c : Int) = 58
       · rw [if_pos h58] at hl
         obtain rfl := (Prod.mk.inj (Option.some.inj hl)).1; obtain rfl := (Prod.mk.inj (Option.some.inj hl)).2
         clear hl
         go_wp2_with fail
         go_ret2
         exact ⟨rfl, HB5.out⟩
       · rw [if_neg h58] at hl
         have h58b : ((c : Int) == 58) = false := by simpa using h58
         by_cases hdneg : d < 0
         · rw [if_pos hdneg] at hl
           obtain rfl := (Prod.mk.inj (Option.some.inj hl)).1; obtain rfl := (Prod.mk.inj (Option.some.inj hl)).2
           clear hl
           go_wp2_with fail
           go_ret2
           exact ⟨rfl, HB5.out⟩
         · rw [if_neg hdneg] at hl
           have HL := Aside0.mk hl
           clear hl
           by_cases hd0 : d ≥ 0
           · by_cases h17 : (at_ : Int) < 17
             · go_wp2_with fail
               go_roundg g
               case measure => omega
               case rel => exact ⟨p2, _, at_ + 1, rfl, by first | rfl | (simp; done), by unfold ether_ParseMac.nx at HL; rw [if_pos hd0, if_pos h17] at HL; exact HL, ⟨by have := HP.out; omega⟩, HIT5, HB5⟩
             · go_wp2_with fail
               go_roundg g
               case measure => omega
               case rel => exact ⟨p2, _, at_ + 1, rfl, by first | rfl | (simp; done), by unfold ether_ParseMac.nx at HL; rw [if_pos hd0, if_neg (by omega)] at HL; exact HL, ⟨by have := HP.out; omega⟩, HIT5, HB5⟩
           · omega
   · have hnx : ∀ ty, (Instr.next (.pointer (some ⟨w.heap.size, 0, none⟩)) true ty).run Tryd.prog wr = _ := fun ty => Lib.run_next_end_at wr w.heap.size a0 pos ty HIT.out hp
     have hl := H.out
     rw [ether_ParseMac.l, if_neg hp] at hl
     clear H
     by_cases h17 : (at_ : Int) = 17
     · rw [if_pos h17] at hl
       obtain rfl := (Prod.mk.inj (Option.some.inj hl)).1; obtain rfl := (Prod.mk.inj (Option.some.inj hl)).2
       clear hl
       go_wp2_with fail
       go_ret2
       exact ⟨rfl, HB.out⟩
     · rw [if_neg h17] at hl
       obtain rfl := (Prod.mk.inj (Option.some.inj hl)).1; obtain rfl := (Prod.mk.inj (Option.some.inj hl)).2
       clear hl
       go_wp2_with fail
       go_ret2
       exact ⟨rfl, HB.out⟩

/-! ### ether_PrintMac: function 21 -/
def ether_PrintMac.l0 : Nat → Int → List Int → Int → Option (ByteArray)
 | 0, _, _, _ => none
 | k + 1, x0, x3, x7 => if x7 < 12 then (if x7 > 0 then (if (Int.tmod x7 2) = 0 then (if x3.length < 140737488355328 then ((some (x3 ++ [58] : List Int)).bind fun y128 => (if 0 ≤ (wrap64 (44 - (wrap64 (4 * x7)))) then (if 0 ≤ (Go.bits .and .u64 (shr .u64 x0 (wrap64 (44 - (wrap64 (4 * x7))))) 15) then (if (Go.bits .and .u64 (shr .u64 x0 (wrap64 (44 - (wrap64 (4 * x7))))) 15) < 16 then (if y128.length < 140737488355328 then (ether_PrintMac.l0 k x0 (y128 ++ [bt (⟨#[48, 49, 50, 51, 52, 53, 54, 55, 56, 57, 97, 98, 99, 100, 101, 102]⟩ : ByteArray) (Go.bits .and .u64 (shr .u64 x0 (wrap64 (44 - (wrap64 (4 * x7))))) 15)]) (wrap64 (x7 + 1))) else (none)) else (none)) else (none)) else (none))) else (none)) else (if 0 ≤ (wrap64 (44 - (wrap64 (4 * x7)))) then (if 0 ≤ (Go.bits .and .u64 (shr .u64 x0 (wrap64 (44 - (wrap64 (4 * x7))))) 15) then (if (Go.bits .and .u64 (shr .u64 x0 (wrap64 (44 - (wrap64 (4 * x7))))) 15) < 16 then (if x3.length < 140737488355328 then (ether_PrintMac.l0 k x0 (x3 ++ [bt (⟨#[48, 49, 50, 51, 52, 53, 54, 55, 56, 57, 97, 98, 99, 100, 101, 102]⟩ : ByteArray) (Go.bits .and .u64 (shr .u64 x0 (wrap64 (44 - (wrap64 (4 * x7))))) 15)]) (wrap64 (x7 + 1))) else (none)) else (none)) else (none)) else (none))) else (if 0 ≤ (wrap64 (44 - (wrap64 (4 * x7)))) then (if 0 ≤ (Go.bits .and .u64 (shr .u64 x0 (wrap64 (44 - (wrap64 (4 * x7))))) 15) then (if (Go.bits .and .u64 (shr .u64 x0 (wrap64 (44 - (wrap64 (4 * x7))))) 15) < 16 then (if x3.length < 140737488355328 then (ether_PrintMac.l0 k x0 (x3 ++ [bt (⟨#[48, 49, 50, 51, 52, 53, 54, 55, 56, 57, 97, 98, 99, 100, 101, 102]⟩ : ByteArray) (Go.bits .and .u64 (shr .u64 x0 (wrap64 (44 - (wrap64 (4 * x7))))) 15)]) (wrap64 (x7 + 1))) else (none)) else (none)) else (none)) else (none))) else (some (strOfNums x3))
def ether_PrintMac.f (k : Nat) (a0 : Int) : Option (ByteArray) := if a0 ≥ 281474976710656 then (some (⟨#[]⟩ : ByteArray)) else (ether_PrintMac.l0 k a0 ([] : List Int) 0)
theorem ether_PrintMac.mono_l : ∀ k, (∀ y0 y1 y2, LeO (ether_PrintMac.l0 k y0 y1 y2) (ether_PrintMac.l0 (k + 1) y0 y1 y2))
 | 0 => fun _ _ _ r h => by simp [ether_PrintMac.l0] at h
 | k + 1 => by
  have ih0 := ether_PrintMac.mono_l k
  ·
   intro y0 y1 y2
   unfold ether_PrintMac.l0
   repeat' first
   | (with_reducible exact ih0 _ _ _)
   | (with_reducible exact LeO.refl _)
   | (with_reducible exact LeO.none _)
   | (with_reducible refine LeO.ite ?_ ?_)
   | (with_reducible refine LeO.bind ?_ (fun _ => ?_))
   | exact ih0 _ _ _
   | exact LeO.none _
   | refine LeO.ite ?_ ?_
   | refine LeO.bind ?_ (fun _ => ?_)
theorem ether_PrintMac.mono : ∀ a0 k, LeO (ether_PrintMac.f k a0) (ether_PrintMac.f (k + 1) a0) := by
 intro a0 k
 have ih0 := ether_PrintMac.mono_l k
 unfold ether_PrintMac.f
 repeat' first
   | (with_reducible exact ih0 _ _ _)
   | (with_reducible exact LeO.refl _)
   | (with_reducible exact LeO.none _)
   | (with_reducible refine LeO.ite ?_ ?_)
   | (with_reducible refine LeO.bind ?_ (fun _ => ?_))
   | exact ih0 _ _ _
   | exact LeO.none _
   | refine LeO.ite ?_ ?_
   | refine LeO.bind ?_ (fun _ => ?_)
set_option maxHeartbeats 8000000 in
set_option maxRecDepth 100000 in
theorem ether_PrintMac.calls (k : Nat) (a0 : Int) (r : ByteArray) (w : World) (h : ether_PrintMac.f k a0 = some r) :
  Calls Tryd.prog 21 #[.int .u64 a0] w fun e w' => e = .returned (.string r) ∧ Below w.heap.size w w' := by
 have HB := Aside0.mk (Below.refl w.heap.size w)
 have H : (if a0 ≥ 281474976710656 then (some (⟨#[]⟩ : ByteArray)) else (ether_PrintMac.l0 k a0 ([] : List Int) 0)) = some r := h
 clear h
 by_cases c2 : a0 ≥ 281474976710656
 ·
  rw [if_pos c2] at H
  have c2b0 : decide (281474976710656 ≤ a0) = true := decide_eq_true c2
  clear c2
  obtain rfl := Option.some.inj H
  go_enter Tryd.func21, Tryd.ntmps21
  go_wp2
  go_ret
  exact ⟨by first | rfl | (simp [errW_none, errW_some] <;> rfl) | (simp [*, errW_none, errW_some] <;> rfl), by repeat (first | (with_reducible first | exact HB.out | apply below_alloc | apply pw_below_drewN | apply below_drew1) | exact HB.out)⟩
 ·
  rw [if_neg c2] at H
  have c2b0 : decide (281474976710656 ≤ a0) = false := decide_eq_false c2
  clear c2
  have H' := Aside0.mk H
  clear H
  go_enter Tryd.func21, Tryd.ntmps21
  go_wp2
  go_loopg [3, 7] k (fun kq v3 v7 w' => ∃ (x3_1 : List Int) (x7_1 : Int), v7 = .int .i64 x7_1 ∧ Aside0 (ether_PrintMac.l0 kq a0 x3_1 x7_1 = some r) ∧ Aside0 (kq ≤ k) ∧ Aside0 (Kd.R (Kd.int .u8) 5 w' w.heap.size (fun _ => True) v3 x3_1) ∧ Aside0 (Below w.heap.size w w'))
  case atStart => exact ⟨(([] : List Int)), (0), (by first | rfl | (simp; done) | (simp [*]; done)), H', ⟨Nat.le_refl _⟩, ⟨by first | exact Kd.R_nil _ _ _ _ _ | exact Kd.N_nil _ _ _ _ _ | exact Kd.V_nil _ _ _ _ _ | exact Kd.Q_nil _ _ _ _ _ | exact Kd.S_nil _ _ _ _ _⟩, ⟨by repeat (first | (with_reducible first | exact HB.out | apply below_alloc | apply pw_below_drewN | apply below_drew1) | exact HB.out)⟩⟩
  case round =>
   clear H'
   try clear c2
   try clear c2b0
   try clear p2
   obtain ⟨x3_1, x7_1, rfl, HA, HK1, HO_3, HB⟩ := hrel
   cases gk with
   | zero => exact absurd HA.out (by simp [ether_PrintMac.l0])
   | succ k1 =>
    have H := HA.out
    clear HA
    simp only [ether_PrintMac.l0] at H
    by_cases c3 : x7_1 < 12
    ·
     rw [if_pos c3] at H
     have c3b0 : decide (x7_1 < 12) = true := decide_eq_true c3
     clear c3
     by_cases c4 : x7_1 > 0
     ·
      rw [if_pos c4] at H
      have c4b0 : decide (0 < x7_1) = true := decide_eq_true c4
      clear c4
      by_cases c5 : (Int.tmod x7_1 2) = 0
      ·
       rw [if_pos c5] at H
       have c5b0 : ((Int.tmod x7_1 2) == 0) = true := beq_iff_eq.mpr c5
       have c5b1 : ((Int.tmod x7_1 2) != 0) = false := bne_eq_false_iff_eq.mpr c5
       clear c5
       by_cases c6 : x3_1.length < 140737488355328
       ·
        rw [if_pos c6] at H
        have LMc6 := Aside0.mk c6
        clear c6
        obtain ⟨y128, hy128⟩ : ∃ y_ : List Int, y_ = (x3_1 ++ [58]) := ⟨_, rfl⟩
        replace H : (if 0 ≤ (wrap64 (44 - (wrap64 (4 * x7_1)))) then (if 0 ≤ (Go.bits .and .u64 (shr .u64 a0 (wrap64 (44 - (wrap64 (4 * x7_1))))) 15) then (if (Go.bits .and .u64 (shr .u64 a0 (wrap64 (44 - (wrap64 (4 * x7_1))))) 15) < 16 then (if y128.length < 140737488355328 then (ether_PrintMac.l0 k1 a0 (y128 ++ [bt (⟨#[48, 49, 50, 51, 52, 53, 54, 55, 56, 57, 97, 98, 99, 100, 101, 102]⟩ : ByteArray) (Go.bits .and .u64 (shr .u64 a0 (wrap64 (44 - (wrap64 (4 * x7_1))))) 15)]) (wrap64 (x7_1 + 1))) else (none)) else (none)) else (none)) else (none)) = some r := by first | (rw [hy128]; with_reducible exact H) | (have H2_ := (Option.bind_some _ _).symm.trans H; rw [hy128]; with_reducible exact H2_) | (have H2_ := (Option.bind_some _ _).symm.trans H; with_reducible exact H2_) | with_reducible exact H | (rw [hy128]; exact H) | exact H
        have Ny128 := Aside0.mk hy128
        clear hy128
        obtain ⟨ji7, hji7⟩ : ∃ j_ : Int, (wrap64 (44 - (wrap64 (4 * x7_1)))) = j_ := ⟨_, rfl⟩
        replace H : (if 0 ≤ (ji7) then (if 0 ≤ (Go.bits .and .u64 (shr .u64 a0 (ji7)) 15) then (if (Go.bits .and .u64 (shr .u64 a0 (ji7)) 15) < 16 then (if y128.length < 140737488355328 then (ether_PrintMac.l0 k1 a0 (y128 ++ [bt (⟨#[48, 49, 50, 51, 52, 53, 54, 55, 56, 57, 97, 98, 99, 100, 101, 102]⟩ : ByteArray) (Go.bits .and .u64 (shr .u64 a0 (ji7)) 15)]) (wrap64 (x7_1 + 1))) else (none)) else (none)) else (none)) else (none)) = some r := by first | (rw [hji7] at H; exact H) | (simp only [hji7] at H ⊢; exact H)
        have hji7w : (IntKind.i64.wrap (44 - (wrap64 (4 * x7_1)))) = ji7 := (i64_w _).trans hji7
        by_cases c8 : 0 ≤ (ji7)
        ·
         rw [if_pos c8] at H
         have c8b0 := eq_true c8
         have c8b1 : decide (0 ≤ (ji7)) = true := decide_eq_true c8
         clear c8
         obtain ⟨ji9, hji9⟩ : ∃ j_ : Int, (shr .u64 a0 (ji7)) = j_ := ⟨_, rfl⟩
         replace H : (if 0 ≤ (Go.bits .and .u64 (ji9) 15) then (if (Go.bits .and .u64 (ji9) 15) < 16 then (if y128.length < 140737488355328 then (ether_PrintMac.l0 k1 a0 (y128 ++ [bt (⟨#[48, 49, 50, 51, 52, 53, 54, 55, 56, 57, 97, 98, 99, 100, 101, 102]⟩ : ByteArray) (Go.bits .and .u64 (ji9) 15)]) (wrap64 (x7_1 + 1))) else (none)) else (none)) else (none)) = some r := by first | (rw [hji9] at H; exact H) | (simp only [hji9] at H ⊢; exact H)
         have hji9_ : (a0 / 2 ^ min (ji7).toNat 64) = ji9 := hji9
         have hji9z : (ji7) ≤ 64 → (a0 / 2 ^ (ji7).toNat) = ji9 := shr_small hji9
         by_cases c10 : 0 ≤ (Go.bits .and .u64 (ji9) 15)
         ·
          rw [if_pos c10] at H
          have c10b0 : decide (0 ≤ (Go.bits .and .u64 (ji9) 15)) = true := decide_eq_true c10
          clear c10
          by_cases c11 : (Go.bits .and .u64 (ji9) 15) < 16
          ·
           rw [if_pos c11] at H
           have c11b0 : decide ((Go.bits .and .u64 (ji9) 15) < 16) = true := decide_eq_true c11
           clear c11
           by_cases c13 : y128.length < 140737488355328
           ·
            rw [if_pos c13] at H
            have LMc13 := Aside0.mk c13
            clear c13
            obtain ⟨y131, hy131⟩ : ∃ y_ : List Int, y_ = (y128 ++ [bt (⟨#[48, 49, 50, 51, 52, 53, 54, 55, 56, 57, 97, 98, 99, 100, 101, 102]⟩ : ByteArray) (Go.bits .and .u64 (ji9) 15)]) := ⟨_, rfl⟩
            replace H : (ether_PrintMac.l0 k1 a0 y131 (wrap64 (x7_1 + 1))) = some r := by first | (rw [hy131]; with_reducible exact H) | (have H2_ := (Option.bind_some _ _).symm.trans H; rw [hy131]; with_reducible exact H2_) | (have H2_ := (Option.bind_some _ _).symm.trans H; with_reducible exact H2_) | with_reducible exact H | (rw [hy131]; exact H) | exact H
            have Ny131 := Aside0.mk hy131
            clear hy131
            have H' := Aside0.mk H
            clear H
            go_wp2_with (first | ((with_reducible refine gate_builtin (b := .append) (xs := #[.tmp 17, .tmp 18]) rfl ?_); at_builtin; refine Kd.R_append (Kd.int .u8) (w0 := w) w.heap.size rfl (.tmp 17) (.tmp 18) 50 5 (.int .u8 0) 1 rfl Tryd.underlying50 info5 rfl (by decide) (by omega) u3 x3_1 58 [.int .u8 58] (fun _ => True) (fun _ => False) rfl rfl ?aP (fun _ hk => hk.elim) ?aF ?aO ?aB ?aS ?aL ?_; (case aP => exact rfl); (case aB => exact (by repeat (first | (with_reducible first | exact HB.out | apply below_alloc | apply pw_below_drewN | apply below_drew1) | exact HB.out))); (case aF => exact (fun _ _ => trivial)); (case aO => exact (by (with_reducible repeat (first | apply Kd.R_alloc | apply Kd.R_drewN | apply Kd.R_drew)); exact HO_3.out)); (case aS => exact (below_size (by repeat (first | (with_reducible first | exact HB.out | apply below_alloc | apply pw_below_drewN | apply below_drew1) | exact HB.out)))); (case aL => have := LMc6.out; omega); intro v129 w14 ho hb hg hat; rw [← Ny128.out] at ho; have n0_ := Aside0.mk (hb); have n1_ := Aside0.mk (ho); clear HB; clear HO_3; have HB := n0_; have HO130 := n1_; clear n0_ n1_; clear ho hb hg hat; have p12 : 0 ≤ ((Go.bits .and .u64 (ji9) 15) : Int) := of_decide_eq_true (by first | (with_reducible assumption) | assumption); have q12 : (Go.bits .and .u64 (ji9) 15) < (16 : Int) := of_decide_eq_true (by first | (with_reducible assumption) | assumption); have hx12 := bt_at (⟨#[48, 49, 50, 51, 52, 53, 54, 55, 56, 57, 97, 98, 99, 100, 101, 102]⟩ : ByteArray) (Go.bits .and .u64 (ji9) 15); replace p12 := eq_true p12; replace q12 := eq_true q12) | ((with_reducible refine gate_builtin (b := .append) (xs := #[.tmp 20, .tmp 28]) rfl ?_); at_builtin; refine Kd.R_append (Kd.int .u8) (w0 := w) w.heap.size rfl (.tmp 20) (.tmp 28) 50 5 (.int .u8 0) 1 rfl Tryd.underlying50 info5 rfl (by decide) (by omega) v129 y128 (bt (⟨#[48, 49, 50, 51, 52, 53, 54, 55, 56, 57, 97, 98, 99, 100, 101, 102]⟩ : ByteArray) (Go.bits .and .u64 (ji9) 15)) [.int .u8 (bt (⟨#[48, 49, 50, 51, 52, 53, 54, 55, 56, 57, 97, 98, 99, 100, 101, 102]⟩ : ByteArray) (Go.bits .and .u64 (ji9) 15))] (fun _ => True) (fun _ => False) rfl rfl ?aP (fun _ hk => hk.elim) ?aF ?aO ?aB ?aS ?aL ?_; (case aP => exact rfl); (case aB => exact (by repeat (first | (with_reducible first | exact HB.out | apply below_alloc | apply pw_below_drewN | apply below_drew1) | exact HB.out))); (case aF => exact (fun _ _ => trivial)); (case aO => exact (by (with_reducible repeat (first | apply Kd.R_alloc | apply Kd.R_drewN | apply Kd.R_drew)); exact HO130.out)); (case aS => exact (below_size (by repeat (first | (with_reducible first | exact HB.out | apply below_alloc | apply pw_below_drewN | apply below_drew1) | exact HB.out)))); (case aL => have := LMc13.out; omega); intro v132 w15 ho hb hg hat; rw [← Ny131.out] at ho; have n0_ := Aside0.mk (hb); have n1_ := Aside0.mk (ho); clear HB; clear HO130; have HB := n0_; have HO133 := n1_; clear n0_ n1_; clear ho hb hg hat))
            go_roundg k1
            case measure => have := HK1.out; omega
            case rel => exact ⟨(y131), (wrap64 (x7_1 + 1)), (by first | rfl | (simp; done) | (simp [*]; done)), H', ⟨by have := HK1.out; omega⟩, ⟨by (with_reducible repeat (first | apply Kd.R_alloc | apply Kd.R_drewN | apply Kd.R_drew)); exact HO133.out⟩, ⟨by repeat (first | (with_reducible first | exact HB.out | apply below_alloc | apply pw_below_drewN | apply below_drew1) | exact HB.out)⟩⟩
           ·
            rw [if_neg c13] at H
            exact absurd H (by simp)
          ·
           rw [if_neg c11] at H
           exact absurd H (by simp)
         ·
          rw [if_neg c10] at H
          exact absurd H (by simp)
        ·
         rw [if_neg c8] at H
         exact absurd H (by simp)
       ·
        rw [if_neg c6] at H
        exact absurd H (by simp)
      ·
       rw [if_neg c5] at H
       have c5b0 : ((Int.tmod x7_1 2) == 0) = false := beq_eq_false_iff_ne.mpr c5
       have c5b1 : ((Int.tmod x7_1 2) != 0) = true := bne_iff_ne.mpr c5
       obtain ⟨ji16, hji16⟩ : ∃ j_ : Int, (wrap64 (44 - (wrap64 (4 * x7_1)))) = j_ := ⟨_, rfl⟩
       replace H : (if 0 ≤ (ji16) then (if 0 ≤ (Go.bits .and .u64 (shr .u64 a0 (ji16)) 15) then (if (Go.bits .and .u64 (shr .u64 a0 (ji16)) 15) < 16 then (if x3_1.length < 140737488355328 then (ether_PrintMac.l0 k1 a0 (x3_1 ++ [bt (⟨#[48, 49, 50, 51, 52, 53, 54, 55, 56, 57, 97, 98, 99, 100, 101, 102]⟩ : ByteArray) (Go.bits .and .u64 (shr .u64 a0 (ji16)) 15)]) (wrap64 (x7_1 + 1))) else (none)) else (none)) else (none)) else (none)) = some r := by first | (rw [hji16] at H; exact H) | (simp only [hji16] at H ⊢; exact H)
       have hji16w : (IntKind.i64.wrap (44 - (wrap64 (4 * x7_1)))) = ji16 := (i64_w _).trans hji16
       by_cases c17 : 0 ≤ (ji16)
       ·
        rw [if_pos c17] at H
        have c17b0 := eq_true c17
        have c17b1 : decide (0 ≤ (ji16)) = true := decide_eq_true c17
        clear c17
        obtain ⟨ji18, hji18⟩ : ∃ j_ : Int, (shr .u64 a0 (ji16)) = j_ := ⟨_, rfl⟩
        replace H : (if 0 ≤ (Go.bits .and .u64 (ji18) 15) then (if (Go.bits .and .u64 (ji18) 15) < 16 then (if x3_1.length < 140737488355328 then (ether_PrintMac.l0 k1 a0 (x3_1 ++ [bt (⟨#[48, 49, 50, 51, 52, 53, 54, 55, 56, 57, 97, 98, 99, 100, 101, 102]⟩ : ByteArray) (Go.bits .and .u64 (ji18) 15)]) (wrap64 (x7_1 + 1))) else (none)) else (none)) else (none)) = some r := by first | (rw [hji18] at H; exact H) | (simp only [hji18] at H ⊢; exact H)
        have hji18_ : (a0 / 2 ^ min (ji16).toNat 64) = ji18 := hji18
        have hji18z : (ji16) ≤ 64 → (a0 / 2 ^ (ji16).toNat) = ji18 := shr_small hji18
        by_cases c19 : 0 ≤ (Go.bits .and .u64 (ji18) 15)
        ·
         rw [if_pos c19] at H
         have c19b0 : decide (0 ≤ (Go.bits .and .u64 (ji18) 15)) = true := decide_eq_true c19
         clear c19
         by_cases c20 : (Go.bits .and .u64 (ji18) 15) < 16
         ·
          rw [if_pos c20] at H
          have c20b0 : decide ((Go.bits .and .u64 (ji18) 15) < 16) = true := decide_eq_true c20
          clear c20
          by_cases c22 : x3_1.length < 140737488355328
          ·
           rw [if_pos c22] at H
           have LMc22 := Aside0.mk c22
           clear c22
           obtain ⟨y134, hy134⟩ : ∃ y_ : List Int, y_ = (x3_1 ++ [bt (⟨#[48, 49, 50, 51, 52, 53, 54, 55, 56, 57, 97, 98, 99, 100, 101, 102]⟩ : ByteArray) (Go.bits .and .u64 (ji18) 15)]) := ⟨_, rfl⟩
           replace H : (ether_PrintMac.l0 k1 a0 y134 (wrap64 (x7_1 + 1))) = some r := by first | (rw [hy134]; with_reducible exact H) | (have H2_ := (Option.bind_some _ _).symm.trans H; rw [hy134]; with_reducible exact H2_) | (have H2_ := (Option.bind_some _ _).symm.trans H; with_reducible exact H2_) | with_reducible exact H | (rw [hy134]; exact H) | exact H
           have Ny134 := Aside0.mk hy134
           clear hy134
           have H' := Aside0.mk H
           clear H
           have p21 : 0 ≤ ((Go.bits .and .u64 (ji18) 15) : Int) := of_decide_eq_true (by first | (with_reducible assumption) | assumption)
           have q21 : (Go.bits .and .u64 (ji18) 15) < (16 : Int) := of_decide_eq_true (by first | (with_reducible assumption) | assumption)
           have hx21 := bt_at (⟨#[48, 49, 50, 51, 52, 53, 54, 55, 56, 57, 97, 98, 99, 100, 101, 102]⟩ : ByteArray) (Go.bits .and .u64 (ji18) 15)
           replace p21 := eq_true p21
           replace q21 := eq_true q21
           go_wp2_with (first | ((with_reducible refine gate_builtin (b := .append) (xs := #[.tmp 20, .tmp 28]) rfl ?_); at_builtin; refine Kd.R_append (Kd.int .u8) (w0 := w) w.heap.size rfl (.tmp 20) (.tmp 28) 50 5 (.int .u8 0) 1 rfl Tryd.underlying50 info5 rfl (by decide) (by omega) u3 x3_1 (bt (⟨#[48, 49, 50, 51, 52, 53, 54, 55, 56, 57, 97, 98, 99, 100, 101, 102]⟩ : ByteArray) (Go.bits .and .u64 (ji18) 15)) [.int .u8 (bt (⟨#[48, 49, 50, 51, 52, 53, 54, 55, 56, 57, 97, 98, 99, 100, 101, 102]⟩ : ByteArray) (Go.bits .and .u64 (ji18) 15))] (fun _ => True) (fun _ => False) rfl rfl ?aP (fun _ hk => hk.elim) ?aF ?aO ?aB ?aS ?aL ?_; (case aP => exact rfl); (case aB => exact (by repeat (first | (with_reducible first | exact HB.out | apply below_alloc | apply pw_below_drewN | apply below_drew1) | exact HB.out))); (case aF => exact (fun _ _ => trivial)); (case aO => exact (by (with_reducible repeat (first | apply Kd.R_alloc | apply Kd.R_drewN | apply Kd.R_drew)); exact HO_3.out)); (case aS => exact (below_size (by repeat (first | (with_reducible first | exact HB.out | apply below_alloc | apply pw_below_drewN | apply below_drew1) | exact HB.out)))); (case aL => have := LMc22.out; omega); intro v135 w23 ho hb hg hat; rw [← Ny134.out] at ho; have n0_ := Aside0.mk (hb); have n1_ := Aside0.mk (ho); clear HB; clear HO_3; have HB := n0_; have HO136 := n1_; clear n0_ n1_; clear ho hb hg hat))
           go_roundg k1
           case measure => have := HK1.out; omega
           case rel => exact ⟨(y134), (wrap64 (x7_1 + 1)), (by first | rfl | (simp; done) | (simp [*]; done)), H', ⟨by have := HK1.out; omega⟩, ⟨by (with_reducible repeat (first | apply Kd.R_alloc | apply Kd.R_drewN | apply Kd.R_drew)); exact HO136.out⟩, ⟨by repeat (first | (with_reducible first | exact HB.out | apply below_alloc | apply pw_below_drewN | apply below_drew1) | exact HB.out)⟩⟩
          ·
           rw [if_neg c22] at H
           exact absurd H (by simp)
         ·
          rw [if_neg c20] at H
          exact absurd H (by simp)
        ·
         rw [if_neg c19] at H
         exact absurd H (by simp)
       ·
        rw [if_neg c17] at H
        exact absurd H (by simp)
     ·
      rw [if_neg c4] at H
      have c4b0 : decide (0 < x7_1) = false := decide_eq_false c4
      clear c4
      obtain ⟨ji24, hji24⟩ : ∃ j_ : Int, (wrap64 (44 - (wrap64 (4 * x7_1)))) = j_ := ⟨_, rfl⟩
      replace H : (if 0 ≤ (ji24) then (if 0 ≤ (Go.bits .and .u64 (shr .u64 a0 (ji24)) 15) then (if (Go.bits .and .u64 (shr .u64 a0 (ji24)) 15) < 16 then (if x3_1.length < 140737488355328 then (ether_PrintMac.l0 k1 a0 (x3_1 ++ [bt (⟨#[48, 49, 50, 51, 52, 53, 54, 55, 56, 57, 97, 98, 99, 100, 101, 102]⟩ : ByteArray) (Go.bits .and .u64 (shr .u64 a0 (ji24)) 15)]) (wrap64 (x7_1 + 1))) else (none)) else (none)) else (none)) else (none)) = some r := by first | (rw [hji24] at H; exact H) | (simp only [hji24] at H ⊢; exact H)
      have hji24w : (IntKind.i64.wrap (44 - (wrap64 (4 * x7_1)))) = ji24 := (i64_w _).trans hji24
      by_cases c25 : 0 ≤ (ji24)
      ·
       rw [if_pos c25] at H
       have c25b0 := eq_true c25
       have c25b1 : decide (0 ≤ (ji24)) = true := decide_eq_true c25
       clear c25
       obtain ⟨ji26, hji26⟩ : ∃ j_ : Int, (shr .u64 a0 (ji24)) = j_ := ⟨_, rfl⟩
       replace H : (if 0 ≤ (Go.bits .and .u64 (ji26) 15) then (if (Go.bits .and .u64 (ji26) 15) < 16 then (if x3_1.length < 140737488355328 then (ether_PrintMac.l0 k1 a0 (x3_1 ++ [bt (⟨#[48, 49, 50, 51, 52, 53, 54, 55, 56, 57, 97, 98, 99, 100, 101, 102]⟩ : ByteArray) (Go.bits .and .u64 (ji26) 15)]) (wrap64 (x7_1 + 1))) else (none)) else (none)) else (none)) = some r := by first | (rw [hji26] at H; exact H) | (simp only [hji26] at H ⊢; exact H)
       have hji26_ : (a0 / 2 ^ min (ji24).toNat 64) = ji26 := hji26
       have hji26z : (ji24) ≤ 64 → (a0 / 2 ^ (ji24).toNat) = ji26 := shr_small hji26
       by_cases c27 : 0 ≤ (Go.bits .and .u64 (ji26) 15)
       ·
        rw [if_pos c27] at H
        have c27b0 : decide (0 ≤ (Go.bits .and .u64 (ji26) 15)) = true := decide_eq_true c27
        clear c27
        by_cases c28 : (Go.bits .and .u64 (ji26) 15) < 16
        ·
         rw [if_pos c28] at H
         have c28b0 : decide ((Go.bits .and .u64 (ji26) 15) < 16) = true := decide_eq_true c28
         clear c28
         by_cases c30 : x3_1.length < 140737488355328
         ·
          rw [if_pos c30] at H
          have LMc30 := Aside0.mk c30
          clear c30
          obtain ⟨y137, hy137⟩ : ∃ y_ : List Int, y_ = (x3_1 ++ [bt (⟨#[48, 49, 50, 51, 52, 53, 54, 55, 56, 57, 97, 98, 99, 100, 101, 102]⟩ : ByteArray) (Go.bits .and .u64 (ji26) 15)]) := ⟨_, rfl⟩
          replace H : (ether_PrintMac.l0 k1 a0 y137 (wrap64 (x7_1 + 1))) = some r := by first | (rw [hy137]; with_reducible exact H) | (have H2_ := (Option.bind_some _ _).symm.trans H; rw [hy137]; with_reducible exact H2_) | (have H2_ := (Option.bind_some _ _).symm.trans H; with_reducible exact H2_) | with_reducible exact H | (rw [hy137]; exact H) | exact H
          have Ny137 := Aside0.mk hy137
          clear hy137
          have H' := Aside0.mk H
          clear H
          have p29 : 0 ≤ ((Go.bits .and .u64 (ji26) 15) : Int) := of_decide_eq_true (by first | (with_reducible assumption) | assumption)
          have q29 : (Go.bits .and .u64 (ji26) 15) < (16 : Int) := of_decide_eq_true (by first | (with_reducible assumption) | assumption)
          have hx29 := bt_at (⟨#[48, 49, 50, 51, 52, 53, 54, 55, 56, 57, 97, 98, 99, 100, 101, 102]⟩ : ByteArray) (Go.bits .and .u64 (ji26) 15)
          replace p29 := eq_true p29
          replace q29 := eq_true q29
          go_wp2_with (first | ((with_reducible refine gate_builtin (b := .append) (xs := #[.tmp 20, .tmp 28]) rfl ?_); at_builtin; refine Kd.R_append (Kd.int .u8) (w0 := w) w.heap.size rfl (.tmp 20) (.tmp 28) 50 5 (.int .u8 0) 1 rfl Tryd.underlying50 info5 rfl (by decide) (by omega) u3 x3_1 (bt (⟨#[48, 49, 50, 51, 52, 53, 54, 55, 56, 57, 97, 98, 99, 100, 101, 102]⟩ : ByteArray) (Go.bits .and .u64 (ji26) 15)) [.int .u8 (bt (⟨#[48, 49, 50, 51, 52, 53, 54, 55, 56, 57, 97, 98, 99, 100, 101, 102]⟩ : ByteArray) (Go.bits .and .u64 (ji26) 15))] (fun _ => True) (fun _ => False) rfl rfl ?aP (fun _ hk => hk.elim) ?aF ?aO ?aB ?aS ?aL ?_; (case aP => exact rfl); (case aB => exact (by repeat (first | (with_reducible first | exact HB.out | apply below_alloc | apply pw_below_drewN | apply below_drew1) | exact HB.out))); (case aF => exact (fun _ _ => trivial)); (case aO => exact (by (with_reducible repeat (first | apply Kd.R_alloc | apply Kd.R_drewN | apply Kd.R_drew)); exact HO_3.out)); (case aS => exact (below_size (by repeat (first | (with_reducible first | exact HB.out | apply below_alloc | apply pw_below_drewN | apply below_drew1) | exact HB.out)))); (case aL => have := LMc30.out; omega); intro v138 w31 ho hb hg hat; rw [← Ny137.out] at ho; have n0_ := Aside0.mk (hb); have n1_ := Aside0.mk (ho); clear HB; clear HO_3; have HB := n0_; have HO139 := n1_; clear n0_ n1_; clear ho hb hg hat))
          go_roundg k1
          case measure => have := HK1.out; omega
          case rel => exact ⟨(y137), (wrap64 (x7_1 + 1)), (by first | rfl | (simp; done) | (simp [*]; done)), H', ⟨by have := HK1.out; omega⟩, ⟨by (with_reducible repeat (first | apply Kd.R_alloc | apply Kd.R_drewN | apply Kd.R_drew)); exact HO139.out⟩, ⟨by repeat (first | (with_reducible first | exact HB.out | apply below_alloc | apply pw_below_drewN | apply below_drew1) | exact HB.out)⟩⟩
         ·
          rw [if_neg c30] at H
          exact absurd H (by simp)
        ·
         rw [if_neg c28] at H
         exact absurd H (by simp)
       ·
        rw [if_neg c27] at H
        exact absurd H (by simp)
      ·
       rw [if_neg c25] at H
       exact absurd H (by simp)
    ·
     rw [if_neg c3] at H
     have c3b0 : decide (x7_1 < 12) = false := decide_eq_false c3
     clear c3
     obtain rfl := Option.some.inj H
     have hcv32 := own_string (P := Tryd.prog) Tryd.underlying50 Tryd.underlying5 Tryd.underlying9 (Kd.own_of_R HO_3.out)
     go_wp2
     go_ret
     exact ⟨by first | rfl | (simp [errW_none, errW_some] <;> rfl) | (simp [*, errW_none, errW_some] <;> rfl), by repeat (first | (with_reducible first | exact HB.out | apply below_alloc | apply pw_below_drewN | apply below_drew1) | exact HB.out)⟩

/-! ### addr_classSix: function 46 -/
def addr_classSix.f (a0_0 : Bool) (a0_1 : Int) (a0_2 : Int) : Option (Int) := if (a0_0 && (a0_1 == 0 && (a0_2 == 0))) = true then (some 0) else (if (a0_0 && (a0_1 == 0 && (a0_2 == 1))) = true then (some 1) else (if (a0_1 / 18014398509481984) = 1018 then (some 2) else (if (a0_1 / 72057594037927936) = 255 then (some 3) else (some 5))))
set_option maxHeartbeats 8000000 in
set_option maxRecDepth 100000 in
theorem addr_classSix.calls (a0_0 : Bool) (a0_1 : Int) (a0_2 : Int) (r : Int) (w : World) (h : addr_classSix.f a0_0 a0_1 a0_2 = some r) :
  Calls Tryd.prog 46 #[.agg #[.bool a0_0, .int .u64 a0_1, .int .u64 a0_2]] w fun e w' => e = .returned (.int .i64 r) ∧ Below w.heap.size w w' := by
 have hu27 := Tryd.underlying27
 have HB := Aside0.mk (Below.refl w.heap.size w)
 have H : (if (a0_0 && (a0_1 == 0 && (a0_2 == 0))) = true then (some 0) else (if (a0_0 && (a0_1 == 0 && (a0_2 == 1))) = true then (some 1) else (if (a0_1 / 18014398509481984) = 1018 then (some 2) else (if (a0_1 / 72057594037927936) = 255 then (some 3) else (some 5))))) = some r := h
 clear h
 by_cases c2 : (a0_0 && (a0_1 == 0 && (a0_2 == 0))) = true
 ·
  rw [if_pos c2] at H
  have c2b0 : (a0_0 && (a0_1 == 0 && (a0_2 == 0))) = true := c2
  clear c2
  obtain rfl := Option.some.inj H
  go_enter Tryd.func46, Tryd.ntmps46
  go_wp2_with (first | ((with_reducible refine gate_dst (N := 1) rfl ?_); refine box_event ?hg (N := 1) ?hd (cs := #[.bool a0_0, .int .u64 a0_1, .int .u64 a0_2]) (t := 27) ?hr ?_; (case hd => rfl); (case hg => rfl); (case hr => first | (go_simp; done) | (go_simp; rfl)); intro gb140 hg w3 hbox hb; have n0_ := Aside0.mk (below_step (by repeat (first | (with_reducible first | exact HB.out | apply below_alloc | apply pw_below_drewN | apply below_drew1) | exact HB.out)) hb); have n1_ := Aside0.mk (hbox); have n2_ := Aside0.mk ((by rw [hg]; exact (below_size (by repeat (first | (with_reducible first | exact HB.out | apply below_alloc | apply pw_below_drewN | apply below_drew1) | exact HB.out))) : w.heap.size ≤ gb140)); have n3_ := Aside0.mk ((by rw [hg]; exact (below_size (by repeat (first | (with_reducible first | exact HB.out | apply below_alloc | apply pw_below_drewN | apply below_drew1) | exact HB.out))) : w.heap.size ≤ gb140)); clear HB; have HB := n0_; have BK140 := n1_; have GW140 := n2_; have GE140 := n3_; clear n0_ n1_ n2_ n3_; clear hb hbox hg; obtain ⟨hcz4_0, hcz4_1, hcz4_2⟩ := MBlk.c3 BK140.out; obtain ⟨hfz4_0, hfz4_1, hfz4_2⟩ := MBlk.f3 BK140.out))
  go_ret
  exact ⟨by first | rfl | (simp [errW_none, errW_some] <;> rfl) | (simp [*, errW_none, errW_some] <;> rfl), by repeat (first | (with_reducible first | exact HB.out | apply below_alloc | apply pw_below_drewN | apply below_drew1 | refine below_set ?_ GE140.out) | exact HB.out)⟩
 ·
  rw [if_neg c2] at H
  have c2b0 : (a0_0 && (a0_1 == 0 && (a0_2 == 0))) = false := by simpa using c2
  clear c2
  by_cases c5 : (a0_0 && (a0_1 == 0 && (a0_2 == 1))) = true
  ·
   rw [if_pos c5] at H
   have c5b0 : (a0_0 && (a0_1 == 0 && (a0_2 == 1))) = true := c5
   clear c5
   obtain rfl := Option.some.inj H
   go_enter Tryd.func46, Tryd.ntmps46
   go_wp2_with (first | ((with_reducible refine gate_dst (N := 1) rfl ?_); refine box_event ?hg (N := 1) ?hd (cs := #[.bool a0_0, .int .u64 a0_1, .int .u64 a0_2]) (t := 27) ?hr ?_; (case hd => rfl); (case hg => rfl); (case hr => first | (go_simp; done) | (go_simp; rfl)); intro gb140 hg w6 hbox hb; have n0_ := Aside0.mk (below_step (by repeat (first | (with_reducible first | exact HB.out | apply below_alloc | apply pw_below_drewN | apply below_drew1) | exact HB.out)) hb); have n1_ := Aside0.mk (hbox); have n2_ := Aside0.mk ((by rw [hg]; exact (below_size (by repeat (first | (with_reducible first | exact HB.out | apply below_alloc | apply pw_below_drewN | apply below_drew1) | exact HB.out))) : w.heap.size ≤ gb140)); have n3_ := Aside0.mk ((by rw [hg]; exact (below_size (by repeat (first | (with_reducible first | exact HB.out | apply below_alloc | apply pw_below_drewN | apply below_drew1) | exact HB.out))) : w.heap.size ≤ gb140)); clear HB; have HB := n0_; have BK140 := n1_; have GW140 := n2_; have GE140 := n3_; clear n0_ n1_ n2_ n3_; clear hb hbox hg; obtain ⟨hcz7_0, hcz7_1, hcz7_2⟩ := MBlk.c3 BK140.out; obtain ⟨hfz7_0, hfz7_1, hfz7_2⟩ := MBlk.f3 BK140.out))
   go_ret
   exact ⟨by first | rfl | (simp [errW_none, errW_some] <;> rfl) | (simp [*, errW_none, errW_some] <;> rfl), by repeat (first | (with_reducible first | exact HB.out | apply below_alloc | apply pw_below_drewN | apply below_drew1 | refine below_set ?_ GE140.out) | exact HB.out)⟩
  ·
   rw [if_neg c5] at H
   have c5b0 : (a0_0 && (a0_1 == 0 && (a0_2 == 1))) = false := by simpa using c5
   clear c5
   by_cases c8 : (a0_1 / 18014398509481984) = 1018
   ·
    rw [if_pos c8] at H
    have c8b0 : ((a0_1 / 18014398509481984) == 1018) = true := beq_iff_eq.mpr c8
    have c8b1 : ((a0_1 / 18014398509481984) != 1018) = false := bne_eq_false_iff_eq.mpr c8
    clear c8
    obtain rfl := Option.some.inj H
    go_enter Tryd.func46, Tryd.ntmps46
    go_wp2_with (first | ((with_reducible refine gate_dst (N := 1) rfl ?_); refine box_event ?hg (N := 1) ?hd (cs := #[.bool a0_0, .int .u64 a0_1, .int .u64 a0_2]) (t := 27) ?hr ?_; (case hd => rfl); (case hg => rfl); (case hr => first | (go_simp; done) | (go_simp; rfl)); intro gb140 hg w9 hbox hb; have n0_ := Aside0.mk (below_step (by repeat (first | (with_reducible first | exact HB.out | apply below_alloc | apply pw_below_drewN | apply below_drew1) | exact HB.out)) hb); have n1_ := Aside0.mk (hbox); have n2_ := Aside0.mk ((by rw [hg]; exact (below_size (by repeat (first | (with_reducible first | exact HB.out | apply below_alloc | apply pw_below_drewN | apply below_drew1) | exact HB.out))) : w.heap.size ≤ gb140)); have n3_ := Aside0.mk ((by rw [hg]; exact (below_size (by repeat (first | (with_reducible first | exact HB.out | apply below_alloc | apply pw_below_drewN | apply below_drew1) | exact HB.out))) : w.heap.size ≤ gb140)); clear HB; have HB := n0_; have BK140 := n1_; have GW140 := n2_; have GE140 := n3_; clear n0_ n1_ n2_ n3_; clear hb hbox hg; obtain ⟨hcz10_0, hcz10_1, hcz10_2⟩ := MBlk.c3 BK140.out; obtain ⟨hfz10_0, hfz10_1, hfz10_2⟩ := MBlk.f3 BK140.out))
    go_ret
    exact ⟨by first | rfl | (simp [errW_none, errW_some] <;> rfl) | (simp [*, errW_none, errW_some] <;> rfl), by repeat (first | (with_reducible first | exact HB.out | apply below_alloc | apply pw_below_drewN | apply below_drew1 | refine below_set ?_ GE140.out) | exact HB.out)⟩
   ·
    rw [if_neg c8] at H
    have c8b0 : ((a0_1 / 18014398509481984) == 1018) = false := beq_eq_false_iff_ne.mpr c8
    have c8b1 : ((a0_1 / 18014398509481984) != 1018) = true := bne_iff_ne.mpr c8
    by_cases c11 : (a0_1 / 72057594037927936) = 255
    ·
     rw [if_pos c11] at H
     have c11b0 : ((a0_1 / 72057594037927936) == 255) = true := beq_iff_eq.mpr c11
     have c11b1 : ((a0_1 / 72057594037927936) != 255) = false := bne_eq_false_iff_eq.mpr c11
     clear c11
     obtain rfl := Option.some.inj H
     go_enter Tryd.func46, Tryd.ntmps46
     go_wp2_with (first | ((with_reducible refine gate_dst (N := 1) rfl ?_); refine box_event ?hg (N := 1) ?hd (cs := #[.bool a0_0, .int .u64 a0_1, .int .u64 a0_2]) (t := 27) ?hr ?_; (case hd => rfl); (case hg => rfl); (case hr => first | (go_simp; done) | (go_simp; rfl)); intro gb140 hg w12 hbox hb; have n0_ := Aside0.mk (below_step (by repeat (first | (with_reducible first | exact HB.out | apply below_alloc | apply pw_below_drewN | apply below_drew1) | exact HB.out)) hb); have n1_ := Aside0.mk (hbox); have n2_ := Aside0.mk ((by rw [hg]; exact (below_size (by repeat (first | (with_reducible first | exact HB.out | apply below_alloc | apply pw_below_drewN | apply below_drew1) | exact HB.out))) : w.heap.size ≤ gb140)); have n3_ := Aside0.mk ((by rw [hg]; exact (below_size (by repeat (first | (with_reducible first | exact HB.out | apply below_alloc | apply pw_below_drewN | apply below_drew1) | exact HB.out))) : w.heap.size ≤ gb140)); clear HB; have HB := n0_; have BK140 := n1_; have GW140 := n2_; have GE140 := n3_; clear n0_ n1_ n2_ n3_; clear hb hbox hg; obtain ⟨hcz13_0, hcz13_1, hcz13_2⟩ := MBlk.c3 BK140.out; obtain ⟨hfz13_0, hfz13_1, hfz13_2⟩ := MBlk.f3 BK140.out))
     go_ret
     exact ⟨by first | rfl | (simp [errW_none, errW_some] <;> rfl) | (simp [*, errW_none, errW_some] <;> rfl), by repeat (first | (with_reducible first | exact HB.out | apply below_alloc | apply pw_below_drewN | apply below_drew1 | refine below_set ?_ GE140.out) | exact HB.out)⟩
    ·
     rw [if_neg c11] at H
     have c11b0 : ((a0_1 / 72057594037927936) == 255) = false := beq_eq_false_iff_ne.mpr c11
     have c11b1 : ((a0_1 / 72057594037927936) != 255) = true := bne_iff_ne.mpr c11
     obtain rfl := Option.some.inj H
     go_enter Tryd.func46, Tryd.ntmps46
     go_wp2_with (first | ((with_reducible refine gate_dst (N := 1) rfl ?_); refine box_event ?hg (N := 1) ?hd (cs := #[.bool a0_0, .int .u64 a0_1, .int .u64 a0_2]) (t := 27) ?hr ?_; (case hd => rfl); (case hg => rfl); (case hr => first | (go_simp; done) | (go_simp; rfl)); intro gb140 hg w14 hbox hb; have n0_ := Aside0.mk (below_step (by repeat (first | (with_reducible first | exact HB.out | apply below_alloc | apply pw_below_drewN | apply below_drew1) | exact HB.out)) hb); have n1_ := Aside0.mk (hbox); have n2_ := Aside0.mk ((by rw [hg]; exact (below_size (by repeat (first | (with_reducible first | exact HB.out | apply below_alloc | apply pw_below_drewN | apply below_drew1) | exact HB.out))) : w.heap.size ≤ gb140)); have n3_ := Aside0.mk ((by rw [hg]; exact (below_size (by repeat (first | (with_reducible first | exact HB.out | apply below_alloc | apply pw_below_drewN | apply below_drew1) | exact HB.out))) : w.heap.size ≤ gb140)); clear HB; have HB := n0_; have BK140 := n1_; have GW140 := n2_; have GE140 := n3_; clear n0_ n1_ n2_ n3_; clear hb hbox hg; obtain ⟨hcz15_0, hcz15_1, hcz15_2⟩ := MBlk.c3 BK140.out; obtain ⟨hfz15_0, hfz15_1, hfz15_2⟩ := MBlk.f3 BK140.out))
     go_ret
     exact ⟨by first | rfl | (simp [errW_none, errW_some] <;> rfl) | (simp [*, errW_none, errW_some] <;> rfl), by repeat (first | (with_reducible first | exact HB.out | apply below_alloc | apply pw_below_drewN | apply below_drew1 | refine below_set ?_ GE140.out) | exact HB.out)⟩

/-! ### addr_Class: function 38 -/
def addr_Class.f (a0_0 : Bool) (a0_1 : Int) (a0_2 : Int) : Option (Int) := (addr_Valid.f a0_0 a0_1 a0_2).bind fun t142 => (if t142 = true then (if a0_0 = true then ((addr_classSix.f a0_0 a0_1 a0_2).bind fun t143 => (some t143)) else (if a0_2 = 0 then (some 0) else (if (a0_2 / 16777216) = 127 then (some 1) else (if (a0_2 / 65536) = 43518 then (some 2) else (if a0_2 = 4294967295 then (some 4) else (if (a0_2 / 268435456) = 14 then (some 3) else (some 5))))))) else (some (-1)))
set_option maxHeartbeats 8000000 in
set_option maxRecDepth 100000 in
theorem addr_Class.calls (a0_0 : Bool) (a0_1 : Int) (a0_2 : Int) (r : Int) (w : World) (h : addr_Class.f a0_0 a0_1 a0_2 = some r) :
  Calls Tryd.prog 38 #[.agg #[.bool a0_0, .int .u64 a0_1, .int .u64 a0_2]] w fun e w' => e = .returned (.int .i64 r) ∧ Below w.heap.size w w' := by
 have hu27 := Tryd.underlying27
 have HB := Aside0.mk (Below.refl w.heap.size w)
 have H : ((addr_Valid.f a0_0 a0_1 a0_2).bind fun t142 => (if t142 = true then (if a0_0 = true then ((addr_classSix.f a0_0 a0_1 a0_2).bind fun t143 => (some t143)) else (if a0_2 = 0 then (some 0) else (if (a0_2 / 16777216) = 127 then (some 1) else (if (a0_2 / 65536) = 43518 then (some 2) else (if a0_2 = 4294967295 then (some 4) else (if (a0_2 / 268435456) = 14 then (some 3) else (some 5))))))) else (some (-1)))) = some r := h
 clear h
 replace H := Option.bind_eq_some_iff.mp H
 obtain ⟨t142, A20, H⟩ := H
 have A2 := Aside0.mk A20
 clear A20
 by_cases c3 : t142 = true
 ·
  subst c3
  rw [if_pos rfl] at H
  by_cases c4 : a0_0 = true
  ·
   subst c4
   rw [if_pos rfl] at H
   replace H := Option.bind_eq_some_iff.mp H
   obtain ⟨t143, A50, H⟩ := H
   have A5 := Aside0.mk A50
   clear A50
   obtain rfl := Option.some.inj H
   go_enter Tryd.func38, Tryd.ntmps38
   go_wp2_with (first | ((with_reducible refine gate_dst (N := 1) rfl ?_); refine box_event ?hg (N := 1) ?hd (cs := #[.bool true, .int .u64 a0_1, .int .u64 a0_2]) (t := 27) ?hr ?_; (case hd => rfl); (case hg => rfl); (case hr => first | (go_simp; done) | (go_simp; rfl)); intro gb141 hg w6 hbox hb; have n0_ := Aside0.mk (below_step (by repeat (first | (with_reducible first | exact HB.out | apply below_alloc | apply pw_below_drewN | apply below_drew1) | exact HB.out)) hb); have n1_ := Aside0.mk (hbox); have n2_ := Aside0.mk ((by rw [hg]; exact (below_size (by repeat (first | (with_reducible first | exact HB.out | apply below_alloc | apply pw_below_drewN | apply below_drew1) | exact HB.out))) : w.heap.size ≤ gb141)); have n3_ := Aside0.mk ((by rw [hg]; exact (below_size (by repeat (first | (with_reducible first | exact HB.out | apply below_alloc | apply pw_below_drewN | apply below_drew1) | exact HB.out))) : w.heap.size ≤ gb141)); clear HB; have HB := n0_; have BK141 := n1_; have GW141 := n2_; have GE141 := n3_; clear n0_ n1_ n2_ n3_; clear hb hbox hg; obtain ⟨hcz7_0, hcz7_1, hcz7_2⟩ := MBlk.c3 BK141.out; obtain ⟨hfz7_0, hfz7_1, hfz7_2⟩ := MBlk.f3 BK141.out) | ((with_reducible refine gate_callee (f := 45) rfl ?_); refine goesL_ (some 5) rfl rfl Tryd.func45 (by kernel_rfl) rfl #[.agg #[.bool true, .int .u64 a0_1, .int .u64 a0_2]] rfl (by (try simp only [List.map_toArray, List.map_cons, List.map_nil]); first | done | rfl | (simp only [List.length_drop, List.length_take]; rfl)) ?_; (with_reducible refine (addr_Valid.calls true a0_1 a0_2 true _ A2.out).mono ?_); rintro e w8 ⟨rfl, hb⟩; refine ⟨_, rfl, ?_⟩; have n0_ := Aside0.mk (blk_below (g := gb141) (o := .cells #[.bool true, .int .u64 a0_1, .int .u64 a0_2] 27 (0, 0)) (by (with_reducible repeat (first | refine blk_drewN ?_ _ | refine blk_drew ?_ | refine blk_alloc ?_ _)); exact BK141.out) hb); have n1_ := Aside0.mk (below_step (by repeat (first | (with_reducible first | exact HB.out | apply below_alloc | apply pw_below_drewN | apply below_drew1 | refine below_set ?_ GE141.out) | exact HB.out)) hb); clear BK141; clear HB; have BK141 := n0_; have HB := n1_; clear n0_ n1_; (try clear hb); (try clear hb2); (try clear hk); (try clear hi); obtain ⟨hcz9_0, hcz9_1, hcz9_2⟩ := MBlk.c3 BK141.out; obtain ⟨hfz9_0, hfz9_1, hfz9_2⟩ := MBlk.f3 BK141.out) | ((with_reducible refine gate_callee (f := 46) rfl ?_); refine goesL_ (some 11) rfl rfl Tryd.func46 (by kernel_rfl) rfl #[.agg #[.bool true, .int .u64 a0_1, .int .u64 a0_2]] rfl (by (try simp only [List.map_toArray, List.map_cons, List.map_nil]); first | done | rfl | (simp only [List.length_drop, List.length_take]; rfl)) ?_; (with_reducible refine (addr_classSix.calls true a0_1 a0_2 t143 _ A5.out).mono ?_); rintro e w10 ⟨rfl, hb⟩; refine ⟨_, rfl, ?_⟩; have n0_ := Aside0.mk (blk_below (g := gb141) (o := .cells #[.bool true, .int .u64 a0_1, .int .u64 a0_2] 27 (0, 0)) (by (with_reducible repeat (first | refine blk_drewN ?_ _ | refine blk_drew ?_ | refine blk_alloc ?_ _)); exact BK141.out) hb); have n1_ := Aside0.mk (below_step (by repeat (first | (with_reducible first | exact HB.out | apply below_alloc | apply pw_below_drewN | apply below_drew1 | refine below_set ?_ GE141.out) | exact HB.out)) hb); clear BK141; clear HB; have BK141 := n0_; have HB := n1_; clear n0_ n1_; (try clear hb); (try clear hb2); (try clear hk); (try clear hi)))
   go_ret
   exact ⟨by first | rfl | (simp [errW_none, errW_some] <;> rfl) | (simp [*, errW_none, errW_some] <;> rfl), by repeat (first | (with_reducible first | exact HB.out | apply below_alloc | apply pw_below_drewN | apply below_drew1 | refine below_set ?_ GE141.out) | exact HB.out)⟩
  ·
   replace c4 := Bool.eq_false_iff.mpr c4
   subst c4
   rw [if_neg (show ¬ (false = true) by decide)] at H
   by_cases c11 : a0_2 = 0
   ·
    rw [if_pos c11] at H
    have c11b0 : (a0_2 == 0) = true := beq_iff_eq.mpr c11
    have c11b1 : (a0_2 != 0) = false := bne_eq_false_iff_eq.mpr c11
    clear c11
    obtain rfl := Option.some.inj H
    go_enter Tryd.func38, Tryd.ntmps38
    go_wp2_with (first | ((with_reducible refine gate_dst (N := 1) rfl ?_); refine box_event ?hg (N := 1) ?hd (cs := #[.bool false, .int .u64 a0_1, .int .u64 a0_2]) (t := 27) ?hr ?_; (case hd => rfl); (case hg => rfl); (case hr => first | (go_simp; done) | (go_simp; rfl)); intro gb141 hg w12 hbox hb; have n0_ := Aside0.mk (below_step (by repeat (first | (with_reducible first | exact HB.out | apply below_alloc | apply pw_below_drewN | apply below_drew1) | exact HB.out)) hb); have n1_ := Aside0.mk (hbox); have n2_ := Aside0.mk ((by rw [hg]; exact (below_size (by repeat (first | (with_reducible first | exact HB.out | apply below_alloc | apply pw_below_drewN | apply below_drew1) | exact HB.out))) : w.heap.size ≤ gb141)); have n3_ := Aside0.mk ((by rw [hg]; exact (below_size (by repeat (first | (with_reducible first | exact HB.out | apply below_alloc | apply pw_below_drewN | apply below_drew1) | exact HB.out))) : w.heap.size ≤ gb141)); clear HB; have HB := n0_; have BK141 := n1_; have GW141 := n2_; have GE141 := n3_; clear n0_ n1_ n2_ n3_; clear hb hbox hg; obtain ⟨hcz13_0, hcz13_1, hcz13_2⟩ := MBlk.c3 BK141.out; obtain ⟨hfz13_0, hfz13_1, hfz13_2⟩ := MBlk.f3 BK141.out) | ((with_reducible refine gate_callee (f := 45) rfl ?_); refine goesL_ (some 5) rfl rfl Tryd.func45 (by kernel_rfl) rfl #[.agg #[.bool false, .int .u64 a0_1, .int .u64 a0_2]] rfl (by (try simp only [List.map_toArray, List.map_cons, List.map_nil]); first | done | rfl | (simp only [List.length_drop, List.length_take]; rfl)) ?_; (with_reducible refine (addr_Valid.calls false a0_1 a0_2 true _ A2.out).mono ?_); rintro e w14 ⟨rfl, hb⟩; refine ⟨_, rfl, ?_⟩; have n0_ := Aside0.mk (blk_below (g := gb141) (o := .cells #[.bool false, .int .u64 a0_1, .int .u64 a0_2] 27 (0, 0)) (by (with_reducible repeat (first | refine blk_drewN ?_ _ | refine blk_drew ?_ | refine blk_alloc ?_ _)); exact BK141.out) hb); have n1_ := Aside0.mk (below_step (by repeat (first | (with_reducible first | exact HB.out | apply below_alloc | apply pw_below_drewN | apply below_drew1 | refine below_set ?_ GE141.out) | exact HB.out)) hb); clear BK141; clear HB; have BK141 := n0_; have HB := n1_; clear n0_ n1_; (try clear hb); (try clear hb2); (try clear hk); (try clear hi); obtain ⟨hcz15_0, hcz15_1, hcz15_2⟩ := MBlk.c3 BK141.out; obtain ⟨hfz15_0, hfz15_1, hfz15_2⟩ := MBlk.f3 BK141.out))
    go_ret
    exact ⟨by first | rfl | (simp [errW_none, errW_some] <;> rfl) | (simp [*, errW_none, errW_some] <;> rfl), by repeat (first | (with_reducible first | exact HB.out | apply below_alloc | apply pw_below_drewN | apply below_drew1 | refine below_set ?_ GE141.out) | exact HB.out)⟩
   ·
    rw [if_neg c11] at H
    have c11b0 : (a0_2 == 0) = false := beq_eq_false_iff_ne.mpr c11
    have c11b1 : (a0_2 != 0) = true := bne_iff_ne.mpr c11
    by_cases c16 : (a0_2 / 16777216) = 127
    ·
     rw [if_pos c16] at H
     have c16b0 : ((a0_2 / 16777216) == 127) = true := beq_iff_eq.mpr c16
     have c16b1 : ((a0_2 / 16777216) != 127) = false := bne_eq_false_iff_eq.mpr c16
     clear c16
     obtain rfl := Option.some.inj H
     go_enter Tryd.func38, Tryd.ntmps38
     go_wp2_with (first | ((with_reducible refine gate_dst (N := 1) rfl ?_); refine box_event ?hg (N := 1) ?hd (cs := #[.bool false, .int .u64 a0_1, .int .u64 a0_2]) (t := 27) ?hr ?_; (case hd => rfl); (case hg => rfl); (case hr => first | (go_simp; done) | (go_simp; rfl)); intro gb141 hg w17 hbox hb; have n0_ := Aside0.mk (below_step (by repeat (first | (with_reducible first | exact HB.out | apply below_alloc | apply pw_below_drewN | apply below_drew1) | exact HB.out)) hb); have n1_ := Aside0.mk (hbox); have n2_ := Aside0.mk ((by rw [hg]; exact (below_size (by repeat (first | (with_reducible first | exact HB.out | apply below_alloc | apply pw_below_drewN | apply below_drew1) | exact HB.out))) : w.heap.size ≤ gb141)); have n3_ := Aside0.mk ((by rw [hg]; exact (below_size (by repeat (first | (with_reducible first | exact HB.out | apply below_alloc | apply pw_below_drewN | apply below_drew1) | exact HB.out))) : w.heap.size ≤ gb141)); clear HB; have HB := n0_; have BK141 := n1_; have GW141 := n2_; have GE141 := n3_; clear n0_ n1_ n2_ n3_; clear hb hbox hg; obtain ⟨hcz18_0, hcz18_1, hcz18_2⟩ := MBlk.c3 BK141.out; obtain ⟨hfz18_0, hfz18_1, hfz18_2⟩ := MBlk.f3 BK141.out) | ((with_reducible refine gate_callee (f := 45) rfl ?_); refine goesL_ (some 5) rfl rfl Tryd.func45 (by kernel_rfl) rfl #[.agg #[.bool false, .int .u64 a0_1, .int .u64 a0_2]] rfl (by (try simp only [List.map_toArray, List.map_cons, List.map_nil]); first | done | rfl | (simp only [List.length_drop, List.length_take]; rfl)) ?_; (with_reducible refine (addr_Valid.calls false a0_1 a0_2 true _ A2.out).mono ?_); rintro e w19 ⟨rfl, hb⟩; refine ⟨_, rfl, ?_⟩; have n0_ := Aside0.mk (blk_below (g := gb141) (o := .cells #[.bool false, .int .u64 a0_1, .int .u64 a0_2] 27 (0, 0)) (by (with_reducible repeat (first | refine blk_drewN ?_ _ | refine blk_drew ?_ | refine blk_alloc ?_ _)); exact BK141.out) hb); have n1_ := Aside0.mk (below_step (by repeat (first | (with_reducible first | exact HB.out | apply below_alloc | apply pw_below_drewN | apply below_drew1 | refine below_set ?_ GE141.out) | exact HB.out)) hb); clear BK141; clear HB; have BK141 := n0_; have HB := n1_; clear n0_ n1_; (try clear hb); (try clear hb2); (try clear hk); (try clear hi); obtain ⟨hcz20_0, hcz20_1, hcz20_2⟩ := MBlk.c3 BK141.out; obtain ⟨hfz20_0, hfz20_1, hfz20_2⟩ := MBlk.f3 BK141.out))
     go_ret
     exact ⟨by first | rfl | (simp [errW_none, errW_some] <;> rfl) | (simp [*, errW_none, errW_some] <;> rfl), by repeat (first | (with_reducible first | exact HB.out | apply below_alloc | apply pw_below_drewN | apply below_drew1 | refine below_set ?_ GE141.out) | exact HB.out)⟩
    ·
     rw [if_neg c16] at H
     have c16b0 : ((a0_2 / 16777216) == 127) = false := beq_eq_false_iff_ne.mpr c16
     have c16b1 : ((a0_2 / 16777216) != 127) = true := bne_iff_ne.mpr c16
     by_cases c21 : (a0_2 / 65536) = 43518
     ·
      rw [if_pos c21] at H
      have c21b0 : ((a0_2 / 65536) == 43518) = true := beq_iff_eq.mpr c21
      have c21b1 : ((a0_2 / 65536) != 43518) = false := bne_eq_false_iff_eq.mpr c21
      clear c21
      obtain rfl := Option.some.inj H
      go_enter Tryd.func38, Tryd.ntmps38
      go_wp2_with (first | ((with_reducible refine gate_dst (N := 1) rfl ?_); refine box_event ?hg (N := 1) ?hd (cs := #[.bool false, .int .u64 a0_1, .int .u64 a0_2]) (t := 27) ?hr ?_; (case hd => rfl); (case hg => rfl); (case hr => first | (go_simp; done) | (go_simp; rfl)); intro gb141 hg w22 hbox hb; have n0_ := Aside0.mk (below_step (by repeat (first | (with_reducible first | exact HB.out | apply below_alloc | apply pw_below_drewN | apply below_drew1) | exact HB.out)) hb); have n1_ := Aside0.mk (hbox); have n2_ := Aside0.mk ((by rw [hg]; exact (below_size (by repeat (first | (with_reducible first | exact HB.out | apply below_alloc | apply pw_below_drewN | apply below_drew1) | exact HB.out))) : w.heap.size ≤ gb141)); have n3_ := Aside0.mk ((by rw [hg]; exact (below_size (by repeat (first | (with_reducible first | exact HB.out | apply below_alloc | apply pw_below_drewN | apply below_drew1) | exact HB.out))) : w.heap.size ≤ gb141)); clear HB; have HB := n0_; have BK141 := n1_; have GW141 := n2_; have GE141 := n3_; clear n0_ n1_ n2_ n3_; clear hb hbox hg; obtain ⟨hcz23_0, hcz23_1, hcz23_2⟩ := MBlk.c3 BK141.out; obtain ⟨hfz23_0, hfz23_1, hfz23_2⟩ := MBlk.f3 BK141.out) | ((with_reducible refine gate_callee (f := 45) rfl ?_); refine goesL_ (some 5) rfl rfl Tryd.func45 (by kernel_rfl) rfl #[.agg #[.bool false, .int .u64 a0_1, .int .u64 a0_2]] rfl (by (try simp only [List.map_toArray, List.map_cons, List.map_nil]); first | done | rfl | (simp only [List.length_drop, List.length_take]; rfl)) ?_; (with_reducible refine (addr_Valid.calls false a0_1 a0_2 true _ A2.out).mono ?_); rintro e w24 ⟨rfl, hb⟩; refine ⟨_, rfl, ?_⟩; have n0_ := Aside0.mk (blk_below (g := gb141) (o := .cells #[.bool false, .int .u64 a0_1, .int .u64 a0_2] 27 (0, 0)) (by (with_reducible repeat (first | refine blk_drewN ?_ _ | refine blk_drew ?_ | refine blk_alloc ?_ _)); exact BK141.out) hb); have n1_ := Aside0.mk (below_step (by repeat (first | (with_reducible first | exact HB.out | apply below_alloc | apply pw_below_drewN | apply below_drew1 | refine below_set ?_ GE141.out) | exact HB.out)) hb); clear BK141; clear HB; have BK141 := n0_; have HB := n1_; clear n0_ n1_; (try clear hb); (try clear hb2); (try clear hk); (try clear hi); obtain ⟨hcz25_0, hcz25_1, hcz25_2⟩ := MBlk.c3 BK141.out; obtain ⟨hfz25_0, hfz25_1, hfz25_2⟩ := MBlk.f3 BK141.out))
      go_ret
      exact ⟨by first | rfl | (simp [errW_none, errW_some] <;> rfl) | (simp [*, errW_none, errW_some] <;> rfl), by repeat (first | (with_reducible first | exact HB.out | apply below_alloc | apply pw_below_drewN | apply below_drew1 | refine below_set ?_ GE141.out) | exact HB.out)⟩
     ·
      rw [if_neg c21] at H
      have c21b0 : ((a0_2 / 65536) == 43518) = false := beq_eq_false_iff_ne.mpr c21
      have c21b1 : ((a0_2 / 65536) != 43518) = true := bne_iff_ne.mpr c21
      by_cases c26 : a0_2 = 4294967295
      ·
       rw [if_pos c26] at H
       have c26b0 : (a0_2 == 4294967295) = true := beq_iff_eq.mpr c26
       have c26b1 : (a0_2 != 4294967295) = false := bne_eq_false_iff_eq.mpr c26
       clear c26
       obtain rfl := Option.some.inj H
       go_enter Tryd.func38, Tryd.ntmps38
       go_wp2_with (first | ((with_reducible refine gate_dst (N := 1) rfl ?_); refine box_event ?hg (N := 1) ?hd (cs := #[.bool false, .int .u64 a0_1, .int .u64 a0_2]) (t := 27) ?hr ?_; (case hd => rfl); (case hg => rfl); (case hr => first | (go_simp; done) | (go_simp; rfl)); intro gb141 hg w27 hbox hb; have n0_ := Aside0.mk (below_step (by repeat (first | (with_reducible first | exact HB.out | apply below_alloc | apply pw_below_drewN | apply below_drew1) | exact HB.out)) hb); have n1_ := Aside0.mk (hbox); have n2_ := Aside0.mk ((by rw [hg]; exact (below_size (by repeat (first | (with_reducible first | exact HB.out | apply below_alloc | apply pw_below_drewN | apply below_drew1) | exact HB.out))) : w.heap.size ≤ gb141)); have n3_ := Aside0.mk ((by rw [hg]; exact (below_size (by repeat (first | (with_reducible first | exact HB.out | apply below_alloc | apply pw_below_drewN | apply below_drew1) | exact HB.out))) : w.heap.size ≤ gb141)); clear HB; have HB := n0_; have BK141 := n1_; have GW141 := n2_; have GE141 := n3_; clear n0_ n1_ n2_ n3_; clear hb hbox hg; obtain ⟨hcz28_0, hcz28_1, hcz28_2⟩ := MBlk.c3 BK141.out; obtain ⟨hfz28_0, hfz28_1, hfz28_2⟩ := MBlk.f3 BK141.out) | ((with_reducible refine gate_callee (f := 45) rfl ?_); refine goesL_ (some 5) rfl rfl Tryd.func45 (by kernel_rfl) rfl #[.agg #[.bool false, .int .u64 a0_1, .int .u64 a0_2]] rfl (by (try simp only [List.map_toArray, List.map_cons, List.map_nil]); first | done | rfl | (simp only [List.length_drop, List.length_take]; rfl)) ?_; (with_reducible refine (addr_Valid.calls false a0_1 a0_2 true _ A2.out).mono ?_); rintro e w29 ⟨rfl, hb⟩; refine ⟨_, rfl, ?_⟩; have n0_ := Aside0.mk (blk_below (g := gb141) (o := .cells #[.bool false, .int .u64 a0_1, .int .u64 a0_2] 27 (0, 0)) (by (with_reducible repeat (first | refine blk_drewN ?_ _ | refine blk_drew ?_ | refine blk_alloc ?_ _)); exact BK141.out) hb); have n1_ := Aside0.mk (below_step (by repeat (first | (with_reducible first | exact HB.out | apply below_alloc | apply pw_below_drewN | apply below_drew1 | refine below_set ?_ GE141.out) | exact HB.out)) hb); clear BK141; clear HB; have BK141 := n0_; have HB := n1_; clear n0_ n1_; (try clear hb); (try clear hb2); (try clear hk); (try clear hi); obtain ⟨hcz30_0, hcz30_1, hcz30_2⟩ := MBlk.c3 BK141.out; obtain ⟨hfz30_0, hfz30_1, hfz30_2⟩ := MBlk.f3 BK141.out))
       go_ret
       exact ⟨by first | rfl | (simp [errW_none, errW_some] <;> rfl) | (simp [*, errW_none, errW_some] <;> rfl), by repeat (first | (with_reducible first | exact HB.out | apply below_alloc | apply pw_below_drewN | apply below_drew1 | refine below_set ?_ GE141.out) | exact HB.out)⟩
      ·
       rw [if_neg c26] at H
       have c26b0 : (a0_2 == 4294967295) = false := beq_eq_false_iff_ne.mpr c26
       have c26b1 : (a0_2 != 4294967295) = true := bne_iff_ne.mpr c26
       by_cases c31 : (a0_2 / 268435456) = 14
       ·
        rw [if_pos c31] at H
        have c31b0 : ((a0_2 / 268435456) == 14) = true := beq_iff_eq.mpr c31
        have c31b1 : ((a0_2 / 268435456) != 14) = false := bne_eq_false_iff_eq.mpr c31
        clear c31
        obtain rfl := Option.some.inj H
        go_enter Tryd.func38, Tryd.ntmps38
        go_wp2_with (first | ((with_reducible refine gate_dst (N := 1) rfl ?_); refine box_event ?hg (N := 1) ?hd (cs := #[.bool false, .int .u64 a0_1, .int .u64 a0_2]) (t := 27) ?hr ?_; (case hd => rfl); (case hg => rfl); (case hr => first | (go_simp; done) | (go_simp; rfl)); intro gb141 hg w32 hbox hb; have n0_ := Aside0.mk (below_step (by repeat (first | (with_reducible first | exact HB.out | apply below_alloc | apply pw_below_drewN | apply below_drew1) | exact HB.out)) hb); have n1_ := Aside0.mk (hbox); have n2_ := Aside0.mk ((by rw [hg]; exact (below_size (by repeat (first | (with_reducible first | exact HB.out | apply below_alloc | apply pw_below_drewN | apply below_drew1) | exact HB.out))) : w.heap.size ≤ gb141)); have n3_ := Aside0.mk ((by rw [hg]; exact (below_size (by repeat (first | (with_reducible first | exact HB.out | apply below_alloc | apply pw_below_drewN | apply below_drew1) | exact HB.out))) : w.heap.size ≤ gb141)); clear HB; have HB := n0_; have BK141 := n1_; have GW141 := n2_; have GE141 := n3_; clear n0_ n1_ n2_ n3_; clear hb hbox hg; obtain ⟨hcz33_0, hcz33_1, hcz33_2⟩ := MBlk.c3 BK141.out; obtain ⟨hfz33_0, hfz33_1, hfz33_2⟩ := MBlk.f3 BK141.out) | ((with_reducible refine gate_callee (f := 45) rfl ?_); refine goesL_ (some 5) rfl rfl Tryd.func45 (by kernel_rfl) rfl #[.agg #[.bool false, .int .u64 a0_1, .int .u64 a0_2]] rfl (by (try simp only [List.map_toArray, List.map_cons, List.map_nil]); first | done | rfl | (simp only [List.length_drop, List.length_take]; rfl)) ?_; (with_reducible refine (addr_Valid.calls false a0_1 a0_2 true _ A2.out).mono ?_); rintro e w34 ⟨rfl, hb⟩; refine ⟨_, rfl, ?_⟩; have n0_ := Aside0.mk (blk_below (g := gb141) (o := .cells #[.bool false, .int .u64 a0_1, .int .u64 a0_2] 27 (0, 0)) (by (with_reducible repeat (first | refine blk_drewN ?_ _ | refine blk_drew ?_ | refine blk_alloc ?_ _)); exact BK141.out) hb); have n1_ := Aside0.mk (below_step (by repeat (first | (with_reducible first | exact HB.out | apply below_alloc | apply pw_below_drewN | apply below_drew1 | refine below_set ?_ GE141.out) | exact HB.out)) hb); clear BK141; clear HB; have BK141 := n0_; have HB := n1_; clear n0_ n1_; (try clear hb); (try clear hb2); (try clear hk); (try clear hi); obtain ⟨hcz35_0, hcz35_1, hcz35_2⟩ := MBlk.c3 BK141.out; obtain ⟨hfz35_0, hfz35_1, hfz35_2⟩ := MBlk.f3 BK141.out))
        go_ret
        exact ⟨by first | rfl | (simp [errW_none, errW_some] <;> rfl) | (simp [*, errW_none, errW_some] <;> rfl), by repeat (first | (with_reducible first | exact HB.out | apply below_alloc | apply pw_below_drewN | apply below_drew1 | refine below_set ?_ GE141.out) | exact HB.out)⟩
       ·
        rw [if_neg c31] at H
        have c31b0 : ((a0_2 / 268435456) == 14) = false := beq_eq_false_iff_ne.mpr c31
        have c31b1 : ((a0_2 / 268435456) != 14) = true := bne_iff_ne.mpr c31
        obtain rfl := Option.some.inj H
        go_enter Tryd.func38, Tryd.ntmps38
        go_wp2_with (first | ((with_reducible refine gate_dst (N := 1) rfl ?_); refine box_event ?hg (N := 1) ?hd (cs := #[.bool false, .int .u64 a0_1, .int .u64 a0_2]) (t := 27) ?hr ?_; (case hd => rfl); (case hg => rfl); (case hr => first | (go_simp; done) | (go_simp; rfl)); intro gb141 hg w36 hbox hb; have n0_ := Aside0.mk (below_step (by repeat (first | (with_reducible first | exact HB.out | apply below_alloc | apply pw_below_drewN | apply below_drew1) | exact HB.out)) hb); have n1_ := Aside0.mk (hbox); have n2_ := Aside0.mk ((by rw [hg]; exact (below_size (by repeat (first | (with_reducible first | exact HB.out | apply below_alloc | apply pw_below_drewN | apply below_drew1) | exact HB.out))) : w.heap.size ≤ gb141)); have n3_ := Aside0.mk ((by rw [hg]; exact (below_size (by repeat (first | (with_reducible first | exact HB.out | apply below_alloc | apply pw_below_drewN | apply below_drew1) | exact HB.out))) : w.heap.size ≤ gb141)); clear HB; have HB := n0_; have BK141 := n1_; have GW141 := n2_; have GE141 := n3_; clear n0_ n1_ n2_ n3_; clear hb hbox hg; obtain ⟨hcz37_0, hcz37_1, hcz37_2⟩ := MBlk.c3 BK141.out; obtain ⟨hfz37_0, hfz37_1, hfz37_2⟩ := MBlk.f3 BK141.out) | ((with_reducible refine gate_callee (f := 45) rfl ?_); refine goesL_ (some 5) rfl rfl Tryd.func45 (by kernel_rfl) rfl #[.agg #[.bool false, .int .u64 a0_1, .int .u64 a0_2]] rfl (by (try simp only [List.map_toArray, List.map_cons, List.map_nil]); first | done | rfl | (simp only [List.length_drop, List.length_take]; rfl)) ?_; (with_reducible refine (addr_Valid.calls false a0_1 a0_2 true _ A2.out).mono ?_); rintro e w38 ⟨rfl, hb⟩; refine ⟨_, rfl, ?_⟩; have n0_ := Aside0.mk (blk_below (g := gb141) (o := .cells #[.bool false, .int .u64 a0_1, .int .u64 a0_2] 27 (0, 0)) (by (with_reducible repeat (first | refine blk_drewN ?_ _ | refine blk_drew ?_ | refine blk_alloc ?_ _)); exact BK141.out) hb); have n1_ := Aside0.mk (below_step (by repeat (first | (with_reducible first | exact HB.out | apply below_alloc | apply pw_below_drewN | apply below_drew1 | refine below_set ?_ GE141.out) | exact HB.out)) hb); clear BK141; clear HB; have BK141 := n0_; have HB := n1_; clear n0_ n1_; (try clear hb); (try clear hb2); (try clear hk); (try clear hi); obtain ⟨hcz39_0, hcz39_1, hcz39_2⟩ := MBlk.c3 BK141.out; obtain ⟨hfz39_0, hfz39_1, hfz39_2⟩ := MBlk.f3 BK141.out))
        go_ret
        exact ⟨by first | rfl | (simp [errW_none, errW_some] <;> rfl) | (simp [*, errW_none, errW_some] <;> rfl), by repeat (first | (with_reducible first | exact HB.out | apply below_alloc | apply pw_below_drewN | apply below_drew1 | refine below_set ?_ GE141.out) | exact HB.out)⟩
 ·
  replace c3 := Bool.eq_false_iff.mpr c3
  subst c3
  rw [if_neg (show ¬ (false = true) by decide)] at H
  obtain rfl := Option.some.inj H
  go_enter Tryd.func38, Tryd.ntmps38
  go_wp2_with (first | ((with_reducible refine gate_dst (N := 1) rfl ?_); refine box_event ?hg (N := 1) ?hd (cs := #[.bool a0_0, .int .u64 a0_1, .int .u64 a0_2]) (t := 27) ?hr ?_; (case hd => rfl); (case hg => rfl); (case hr => first | (go_simp; done) | (go_simp; rfl)); intro gb141 hg w40 hbox hb; have n0_ := Aside0.mk (below_step (by repeat (first | (with_reducible first | exact HB.out | apply below_alloc | apply pw_below_drewN | apply below_drew1) | exact HB.out)) hb); have n1_ := Aside0.mk (hbox); have n2_ := Aside0.mk ((by rw [hg]; exact (below_size (by repeat (first | (with_reducible first | exact HB.out | apply below_alloc | apply pw_below_drewN | apply below_drew1) | exact HB.out))) : w.heap.size ≤ gb141)); have n3_ := Aside0.mk ((by rw [hg]; exact (below_size (by repeat (first | (with_reducible first | exact HB.out | apply below_alloc | apply pw_below_drewN | apply below_drew1) | exact HB.out))) : w.heap.size ≤ gb141)); clear HB; have HB := n0_; have BK141 := n1_; have GW141 := n2_; have GE141 := n3_; clear n0_ n1_ n2_ n3_; clear hb hbox hg; obtain ⟨hcz41_0, hcz41_1, hcz41_2⟩ := MBlk.c3 BK141.out; obtain ⟨hfz41_0, hfz41_1, hfz41_2⟩ := MBlk.f3 BK141.out) | ((with_reducible refine gate_callee (f := 45) rfl ?_); refine goesL_ (some 5) rfl rfl Tryd.func45 (by kernel_rfl) rfl #[.agg #[.bool a0_0, .int .u64 a0_1, .int .u64 a0_2]] rfl (by (try simp only [List.map_toArray, List.map_cons, List.map_nil]); first | done | rfl | (simp only [List.length_drop, List.length_take]; rfl)) ?_; (with_reducible refine (addr_Valid.calls a0_0 a0_1 a0_2 false _ A2.out).mono ?_); rintro e w42 ⟨rfl, hb⟩; refine ⟨_, rfl, ?_⟩; have n0_ := Aside0.mk (blk_below (g := gb141) (o := .cells #[.bool a0_0, .int .u64 a0_1, .int .u64 a0_2] 27 (0, 0)) (by (with_reducible repeat (first | refine blk_drewN ?_ _ | refine blk_drew ?_ | refine blk_alloc ?_ _)); exact BK141.out) hb); have n1_ := Aside0.mk (below_step (by repeat (first | (with_reducible first | exact HB.out | apply below_alloc | apply pw_below_drewN | apply below_drew1 | refine below_set ?_ GE141.out) | exact HB.out)) hb); clear BK141; clear HB; have BK141 := n0_; have HB := n1_; clear n0_ n1_; (try clear hb); (try clear hb2); (try clear hk); (try clear hi)))
  go_ret
  exact ⟨by first | rfl | (simp [errW_none, errW_some] <;> rfl) | (simp [*, errW_none, errW_some] <;> rfl), by repeat (first | (with_reducible first | exact HB.out | apply below_alloc | apply pw_below_drewN | apply below_drew1 | refine below_set ?_ GE141.out) | exact HB.out)⟩

end Go.Proofs.YthajbaheejdoaaaDoor.PBase
