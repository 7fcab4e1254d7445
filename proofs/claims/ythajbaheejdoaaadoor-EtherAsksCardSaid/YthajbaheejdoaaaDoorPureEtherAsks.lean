/-
  The pure law EtherAsks: what an ARP message is laid as is taken up as that message, whatever stands behind; one that is cut is none. No program in sight but its Lean functions. Conditions: those of each theorem.
-/
import Derived.Test.YthajbaheejdoaaaDoorPBasex16
import Derived.Test.YthajbaheejdoaaaDoorPureEther
set_option linter.unusedVariables false
set_option linter.unusedSimpArgs false
namespace Go.Proofs.YthajbaheejdoaaaDoor.Pure
open Go.RowKit Go.Proofs.YthajbaheejdoaaaDoor.PBase Go.Proofs.YthajbaheejdoaaaDoorW.PrintWords Go.Proofs.YthajbaheejdoaaaDoorW.PrintLast Go.Proofs.YthajbaheejdoaaaDoor.MTally Go.Proofs.YthajbaheejdoaaaDoor.MBe
/-! ARP messages: may one be, its bytes. -/
def fourB (b : Bool) (h l : Int) : Bool := !b && decide (h = 0 ∧ l < 4294967296)
theorem rvalid_eq (b : Bool) (h l : Int) : crosswayref03_Valid.f b h l = some (b || decide (h = 0 ∧ l < 4294967296)) := by
  unfold crosswayref03_Valid.f
  cases b
  · by_cases e : h = 0
    · rw [if_neg (by decide), if_pos e, Bool.false_or]; congr 1; apply decide_eq_decide.2; omega
    · rw [if_neg (by decide), if_neg e, Bool.false_or]; congr 1; symm; apply decide_eq_false; omega
  · rfl
theorem valid_eq (b : Bool) (h l : Int) : addr_Valid.f b h l = some (b || decide (h = 0 ∧ l < 4294967296)) := by
  unfold addr_Valid.f
  cases b
  · by_cases e : h = 0
    · rw [if_neg (by decide), if_pos e, Bool.false_or]; congr 1; apply decide_eq_decide.2; omega
    · rw [if_neg (by decide), if_neg e, Bool.false_or]; congr 1; symm; apply decide_eq_false; omega
  · rfl
theorem isFour_eq (b : Bool) (h l : Int) : ether_isFour.f b h l = some (fourB b h l) := by
  unfold ether_isFour.f fourB
  rw [valid_eq]
  cases b <;> simp
def arpB (op fm : Int) (b1 : Bool) (h1 lo1 tm : Int) (b2 : Bool) (h2 lo2 : Int) : Bool :=
  decide (op = 1 ∨ op = 2) && (decide (fm < 281474976710656) && (decide (tm < 281474976710656) && (fourB b1 h1 lo1 && fourB b2 h2 lo2)))
theorem isArp_eq (op fm : Int) (b1 : Bool) (h1 lo1 tm : Int) (b2 : Bool) (h2 lo2 : Int) : ether_isArp.f op fm b1 h1 lo1 tm b2 h2 lo2 = some (arpB op fm b1 h1 lo1 tm b2 h2 lo2) := by
  unfold ether_isArp.f arpB
  rw [isFour_eq, isFour_eq]
  simp only [Option.bind_some]
  by_cases o1 : op = 1
  · subst o1
    by_cases f1 : fm < 281474976710656
    · by_cases t1 : tm < 281474976710656
      · cases fourB b1 h1 lo1 <;> simp [f1, t1]
      · simp [f1, t1]
    · simp [f1]
  · by_cases o2 : op = 2
    · subst o2
      by_cases f1 : fm < 281474976710656
      · by_cases t1 : tm < 281474976710656
        · cases fourB b1 h1 lo1 <;> simp [f1, t1]
        · simp [f1, t1]
      · simp [f1]
    · simp [o1, o2]
theorem arp_eq (op fm : Int) (b1 : Bool) (h1 lo1 tm : Int) (b2 : Bool) (h2 lo2 : Int) : crosswayref05_arp.f op fm b1 h1 lo1 tm b2 h2 lo2 = some (arpB op fm b1 h1 lo1 tm b2 h2 lo2) := by
  unfold crosswayref05_arp.f crosswayref05_mac.f arpB fourB
  rw [rvalid_eq, rvalid_eq]
  simp only [Option.bind_some]
  obtain ⟨v1, hv1⟩ : ∃ v, decide (h1 = 0 ∧ lo1 < 4294967296) = v := ⟨_, rfl⟩
  obtain ⟨v2, hv2⟩ : ∃ v, decide (h2 = 0 ∧ lo2 < 4294967296) = v := ⟨_, rfl⟩
  obtain ⟨v3, hv3⟩ : ∃ v, decide (fm < 281474976710656) = v := ⟨_, rfl⟩
  obtain ⟨v4, hv4⟩ : ∃ v, decide (tm < 281474976710656) = v := ⟨_, rfl⟩
  rw [hv1, hv2, hv3, hv4]
  by_cases o1 : op = 1
  · subst o1; cases v1 <;> cases v2 <;> cases v3 <;> cases v4 <;> cases b1 <;> cases b2 <;> rfl
  · by_cases o2 : op = 2
    · subst o2; cases v1 <;> cases v2 <;> cases v3 <;> cases v4 <;> cases b1 <;> cases b2 <;> rfl
    · simp [o1, o2]
theorem arpB_of {op fm : Int} {b1 : Bool} {h1 lo1 tm : Int} {b2 : Bool} {h2 lo2 : Int} (h : arpB op fm b1 h1 lo1 tm b2 h2 lo2 = true) : (op = 1 ∨ op = 2) ∧ fm < 281474976710656 ∧ tm < 281474976710656 ∧ (b1 = false ∧ h1 = 0 ∧ lo1 < 4294967296) ∧ (b2 = false ∧ h2 = 0 ∧ lo2 < 4294967296) := by
  unfold arpB fourB at h
  simpa using h
def arpL (op fm lo1 tm lo2 : Int) : List Int := ether_LayArp.cat (ether_LayArp.ns op fm lo1 tm lo2)
def layArpR (op fm : Int) (b1 : Bool) (h1 lo1 tm : Int) (b2 : Bool) (h2 lo2 : Int) : ByteArray × Int := if arpB op fm b1 h1 lo1 tm b2 h2 lo2 = true then (strOfNums (arpL op fm lo1 tm lo2), 0) else (⟨#[]⟩, 40)
theorem layarp_eq {op fm : Int} (b1 : Bool) (h1 : Int) {lo1 tm : Int} (b2 : Bool) (h2 : Int) {lo2 : Int} (a1 : 0 ≤ fm) (a2 : 0 ≤ lo1) (a3 : 0 ≤ tm) (a4 : 0 ≤ lo2) : ether_LayArp.f op fm b1 h1 lo1 tm b2 h2 lo2 = some (layArpR op fm b1 h1 lo1 tm b2 h2 lo2) := by
  unfold ether_LayArp.f layArpR
  rw [isArp_eq, Option.bind_some]
  cases hb : arpB op fm b1 h1 lo1 tm b2 h2 lo2
  · rfl
  · obtain ⟨q1, q2, q3, ⟨_, _, q4⟩, ⟨_, _, q5⟩⟩ := arpB_of hb
    rw [if_neg (by decide), if_neg (fun q => q ⟨by omega, by omega, by omega, by omega, by omega⟩), if_pos rfl]; rfl
theorem arpL_eq {op : Int} (h : op = 1 ∨ op = 2) (fm lo1 tm lo2 : Int) : arpL op fm lo1 tm lo2 = [0, 1, 8, 0, 6, 4, 0, op % 256] ++ be fm 6 ++ be lo1 4 ++ be tm 6 ++ be lo2 4 := by
  unfold arpL ether_LayArp.ns
  simp only [ether_LayArp.cat, List.append_nil, List.append_assoc]
  rcases h with rfl | rfl
  · rw [show be 1 2 = [0, 1] by decide, show be 2048 2 = [8, 0] by decide, show be 6 1 = [6] by decide, show be 4 1 = [4] by decide]; rfl
  · rw [show be 1 2 = [0, 1] by decide, show be 2048 2 = [8, 0] by decide, show be 6 1 = [6] by decide, show be 4 1 = [4] by decide, show be 2 2 = [0, 2] by decide]; rfl
theorem rlayarp_ev {op fm : Int} (b1 : Bool) (h1 : Int) {lo1 tm : Int} (b2 : Bool) (h2 : Int) {lo2 : Int} (a1 : 0 ≤ fm ∧ fm ≤ 18446744073709551615) (a2 : 0 ≤ lo1 ∧ lo1 ≤ 18446744073709551615) (a3 : 0 ≤ tm ∧ tm ≤ 18446744073709551615) (a4 : 0 ≤ lo2 ∧ lo2 ≤ 18446744073709551615) :
    Ev (fun k => crosswayref05_LayArp.f k op fm b1 h1 lo1 tm b2 h2 lo2) (layArpR op fm b1 h1 lo1 tm b2 h2 lo2) := by
  unfold crosswayref05_LayArp.f layArpR
  refine ev_bind (arp_eq ..) ?_
  cases hb : arpB op fm b1 h1 lo1 tm b2 h2 lo2
  · exact ev_neg (by decide) (ev_eq fun _ => rfl)
  · obtain ⟨q1, _⟩ := arpB_of hb
    rw [if_pos rfl, arpL_eq q1]
    have p1 := rput_ev (l := [0, 1, 8, 0, 6, 4, 0, op % 256]) (w := 6) (n := fm) (by simp) a1
    rw [show octet_Put.wid 6 = 6 from rfl] at p1
    have p2 := rput_ev (l := [0, 1, 8, 0, 6, 4, 0, op % 256] ++ be fm 6) (w := 4) (n := lo1) (by simp [be_length]) a2
    rw [show octet_Put.wid 4 = 4 from rfl] at p2
    have p3 := rput_ev (l := [0, 1, 8, 0, 6, 4, 0, op % 256] ++ be fm 6 ++ be lo1 4) (w := 6) (n := tm) (by simp [be_length]) a3
    rw [show octet_Put.wid 6 = 6 from rfl] at p3
    have p4 := rput_ev (l := [0, 1, 8, 0, 6, 4, 0, op % 256] ++ be fm 6 ++ be lo1 4 ++ be tm 6) (w := 4) (n := lo2) (by simp [be_length]) a4
    rw [show octet_Put.wid 4 = 4 from rfl] at p4
    exact ev_pos rfl (Ev.bind p1 (Ev.bind p2 (Ev.bind p3 (Ev.bind p4 (ev_eq fun _ => rfl)))))
/-! ARP messages taken up. -/
theorem go_ok {k0 : Int} {w : Nat} {m : Int} {t : List (Int × Int)} {acc l : List Int} {fit : Bool} {r : List Int × Bool × Bool} (hk : k0 = (w : Int)) (hb : Bytes l) (hw : w ≤ 8) (hl : w ≤ l.length) (hl2 : l.length ≤ 140737488355200)
    (h : Ev (fun k => ether_TakeArp.go k t (acc ++ [num (l.take w)]) (l.drop w) false (fit && (m == 0 || num (l.take w) == m))) r) : Ev (fun k => ether_TakeArp.go k ((k0, m) :: t) acc l false fit) r := by
  subst hk
  have hg := get_ev (l := l) (a := 0) (w := (w : Int)) hb hl2 (by omega) (by omega)
  have e : get l 0 (w : Int) = (num (l.take w), true) := by
    unfold get
    rw [if_pos (by unfold fits; omega)]
    unfold slice_
    simp
  rw [e] at hg
  have h2 : Ev (fun k => (octet_Get.f k l 0 (w : Int)).bind fun n => if (false = false ∧ n.2 = true) then (if (w : Int) ≤ (l.length : Int) then ether_TakeArp.go k t (acc ++ [n.1]) (l.drop (w : Int).toNat) false (fit && (m == 0 || n.1 == m)) else none)
      else ether_TakeArp.go k t (acc ++ [0]) [] true (fit && (m == 0 || (0 : Int) == m))) r :=
    Ev.bind hg (ev_pos ⟨rfl, rfl⟩ (ev_pos (by omega) (by rw [Int.toNat_natCast]; exact h)))
  exact h2
theorem go_bad {k0 m : Int} {t : List (Int × Int)} {acc l : List Int} {s fit : Bool} {r : List Int × Bool × Bool} (hb : Bytes l) (hl2 : l.length ≤ 140737488355200) (h0 : 0 ≤ k0 ∧ k0 ≤ 8) (hs : s = true ∨ (l.length : Int) < k0)
    (h : Ev (fun k => ether_TakeArp.go k t (acc ++ [0]) [] true (fit && (m == 0 || (0 : Int) == m))) r) : Ev (fun k => ether_TakeArp.go k ((k0, m) :: t) acc l s fit) r := by
  have hg := get_ev (l := l) (a := 0) (w := k0) hb hl2 (by omega) (by omega)
  have hn : ¬ (s = false ∧ (get l 0 k0).2 = true) := by
    rintro ⟨rfl, h2⟩
    rcases hs with h3 | h3
    · cases h3
    · unfold get at h2
      rw [if_neg (by unfold fits; omega)] at h2
      cases h2
  have h2 : Ev (fun k => (octet_Get.f k l 0 k0).bind fun n => if (s = false ∧ n.2 = true) then (if k0 ≤ (l.length : Int) then ether_TakeArp.go k t (acc ++ [n.1]) (l.drop k0.toNat) false (fit && (m == 0 || n.1 == m)) else none)
      else ether_TakeArp.go k t (acc ++ [0]) [] true (fit && (m == 0 || (0 : Int) == m))) r :=
    Ev.bind hg (ev_neg hn h)
  exact h2
def width : List (Int × Int) → Int
  | [] => 0
  | x :: t => x.1 + width t
/-- Too few bytes. -/
theorem go_short : ∀ (t : List (Int × Int)), (∀ x ∈ t, 0 ≤ x.1 ∧ x.1 ≤ 8) → ∀ (acc l : List Int) (s fit : Bool), Bytes l → l.length ≤ 140737488355200 → s = true ∨ (l.length : Int) < width t → ∃ a f, Ev (fun k => ether_TakeArp.go k t acc l s fit) (a, true, f)
  | [], _, acc, l, s, fit, _, _, h => by
    rcases h with rfl | h
    · exact ⟨acc, fit, ev_eq fun _ => rfl⟩
    · exact absurd h (by simp [width])
  | x :: t, ht, acc, l, s, fit, hb, hl, h => by
    have hx := ht x (List.mem_cons_self ..)
    have ht' := fun y hy => ht y (List.mem_cons_of_mem _ hy)
    obtain ⟨w, m⟩ := x
    by_cases hs : s = true ∨ (l.length : Int) < w
    · obtain ⟨a, f, h1⟩ := go_short t ht' (acc ++ [0]) [] true (fit && (m == 0 || (0 : Int) == m)) Bytes.nil (by simp) (.inl rfl)
      exact ⟨a, f, go_bad hb hl hx hs h1⟩
    · have hsf : s = false := by cases s <;> simp at hs ⊢
      subst hsf
      have hw : width ((w, m) :: t) = w + width t := rfl
      obtain ⟨n, rfl⟩ := Int.eq_ofNat_of_zero_le hx.1
      have hxx : (n : Int) ≤ 8 := hx.2
      have hnl : ¬ (l.length : Int) < (n : Int) := fun q => hs (.inr q)
      have h' : (l.length : Int) < (n : Int) + width t := by rcases h with h | h; cases h; rw [hw] at h; exact h
      obtain ⟨a, f, h1⟩ := go_short t ht' (acc ++ [num (l.take n)]) (l.drop n) false (fit && (m == 0 || num (l.take n) == m)) (hb.drop _) (by rw [List.length_drop]; omega) (.inr (by rw [List.length_drop]; omega))
      exact ⟨a, f, go_ok rfl hb (by omega) (by omega) hl h1⟩
/-- Are the four that must be what they must be? -/
def fitB (s : ByteArray) : Bool := (((at_ (bytesOf s) 0 2 == 1) && (at_ (bytesOf s) 2 2 == 2048)) && (at_ (bytesOf s) 4 1 == 6)) && (at_ (bytesOf s) 5 1 == 4)
theorem go_full {s : ByteArray} (h : 28 ≤ s.size) (hbig : s.size ≤ 140737488355200) :
    Ev (fun k => ether_TakeArp.go k ether_TakeArp.tab [] (bytesOf s) false true) ([at_ (bytesOf s) 0 2, at_ (bytesOf s) 2 2, at_ (bytesOf s) 4 1, at_ (bytesOf s) 5 1, at_ (bytesOf s) 6 2, at_ (bytesOf s) 8 6, at_ (bytesOf s) 14 4, at_ (bytesOf s) 18 6, at_ (bytesOf s) 24 4], false, fitB s) := by
  have hb : Bytes (bytesOf s) := MBytes.range s
  have hl := bytesOf_length s
  have D : ∀ i, Bytes ((bytesOf s).drop i) := fun i => hb.drop i
  have hz : ∀ i : Nat, ((bytesOf s).drop i).length = s.size - i := fun i => by rw [List.length_drop, hl]
  unfold ether_TakeArp.tab
  refine go_ok (w := 2) rfl hb (by decide) (by omega) (by omega) ?_
  refine go_ok (w := 2) rfl (D 2) (by decide) (by rw [hz]; omega) (by rw [hz]; omega) ?_
  rw [List.drop_drop]
  refine go_ok (w := 1) rfl (D 4) (by decide) (by rw [hz]; omega) (by rw [hz]; omega) ?_
  rw [List.drop_drop]
  refine go_ok (w := 1) rfl (D 5) (by decide) (by rw [hz]; omega) (by rw [hz]; omega) ?_
  rw [List.drop_drop]
  refine go_ok (w := 2) rfl (D 6) (by decide) (by rw [hz]; omega) (by rw [hz]; omega) ?_
  rw [List.drop_drop]
  refine go_ok (w := 6) rfl (D 8) (by decide) (by rw [hz]; omega) (by rw [hz]; omega) ?_
  rw [List.drop_drop]
  refine go_ok (w := 4) rfl (D 14) (by decide) (by rw [hz]; omega) (by rw [hz]; omega) ?_
  rw [List.drop_drop]
  refine go_ok (w := 6) rfl (D 18) (by decide) (by rw [hz]; omega) (by rw [hz]; omega) ?_
  rw [List.drop_drop]
  refine go_ok (w := 4) rfl (D 24) (by decide) (by rw [hz]; omega) (by rw [hz]; omega) ?_
  refine ev_eq fun _ => ?_
  have e0 : at_ (bytesOf s) 0 2 = num ((bytesOf s).take 2) := by unfold at_; rw [List.drop_zero]
  unfold fitB
  rw [e0]
  simp only [ether_TakeArp.go, List.nil_append, List.cons_append]
  unfold at_
  congr 3
  simp
def takeArpR (s : ByteArray) : Int × Int × Bool × Int × Int × Int × Bool × Int × Int × Int :=
  if (s.size : Int) < 28 then ether_TakeArp.no 41 else if fitB s = false then ether_TakeArp.no 40 else
  if arpB (at_ (bytesOf s) 6 2) (at_ (bytesOf s) 8 6) false 0 (at_ (bytesOf s) 14 4) (at_ (bytesOf s) 18 6) false 0 (at_ (bytesOf s) 24 4) = true then (at_ (bytesOf s) 6 2, at_ (bytesOf s) 8 6, false, 0, at_ (bytesOf s) 14 4, at_ (bytesOf s) 18 6, false, 0, at_ (bytesOf s) 24 4, 0) else ether_TakeArp.no 40
theorem takearp_ev {s : ByteArray} (hs : s.size ≤ 140737488355200) : Ev (fun k => ether_TakeArp.f k s) (takeArpR s) := by
  unfold ether_TakeArp.f
  refine ev_neg (by omega) ?_
  by_cases h1 : (s.size : Int) < 28
  · have e : takeArpR s = ether_TakeArp.no 41 := by unfold takeArpR; rw [if_pos h1]
    rw [e]
    obtain ⟨a, f, h⟩ := go_short ether_TakeArp.tab (by decide) [] (bytesOf s) false true (MBytes.range s) (by rw [bytesOf_length]; exact hs) (.inr (by rw [bytesOf_length, show width ether_TakeArp.tab = 28 by decide]; exact h1))
    exact Ev.bind h (ev_eq fun _ => rfl)
  refine Ev.bind (go_full (s := s) (by omega) hs) (ev_eq fun _ => ?_)
  have r6 := at_range (MBytes.range s) 6 2
  rw [show (256 : Int) ^ 2 = 65536 by decide] at r6
  unfold ether_TakeArp.fin takeArpR
  rw [if_neg h1]
  cases hf : fitB s
  · rfl
  · rw [if_neg (by simp), if_neg (by simp), if_neg (by simp)]
    simp only [List.getD_cons_succ, List.getD_cons_zero]
    rw [w64 (n := at_ (bytesOf s) 6 2) (by omega) (by omega), isArp_eq, Option.bind_some]
    split <;> rfl
theorem fit_iff {s : ByteArray} (h : 28 ≤ s.size) : fitB s = true ↔ bytesOf (s.extract 0 6) = [0, 1, 8, 0, 6, 4] := by
  have hb : Bytes (bytesOf s) := MBytes.range s
  have hl := bytesOf_length s
  have hx : bytesOf (s.extract 0 6) = (bytesOf s).take 6 := by rw [MBytes.extract]; simp
  rw [hx]
  have q0 := be_at hb (i := 0) (w := 2) (by omega)
  have q1 := be_at hb (i := 2) (w := 2) (by omega)
  have q2 := be_at hb (i := 4) (w := 1) (by omega)
  have q3 := be_at hb (i := 5) (w := 1) (by omega)
  rw [List.drop_zero] at q0
  constructor
  · intro hf
    unfold fitB at hf
    simp only [Bool.and_eq_true, beq_iff_eq] at hf
    obtain ⟨⟨⟨f0, f1⟩, f2⟩, f3⟩ := hf
    rw [f0] at q0; rw [f1] at q1; rw [f2] at q2; rw [f3] at q3
    rw [show (6 : Nat) = 5 + 1 from rfl, take_add _ 5 1, show (5 : Nat) = 4 + 1 from rfl, take_add _ 4 1, show (4 : Nat) = 2 + 2 from rfl, take_add _ 2 2, ← q0, ← q1]
    rw [show 2 + 2 = 4 from rfl, show 4 + 1 = 5 from rfl, ← q2, ← q3]
    decide
  · intro h6
    have A : ∀ (i w : Nat), i + w ≤ 6 → at_ (bytesOf s) i w = num ((([0, 1, 8, 0, 6, 4] : List Int).drop i).take w) := by
      intro i w hi
      rw [← h6]
      unfold at_
      rw [List.drop_take, List.take_take, Nat.min_eq_left (by omega)]
    unfold fitB
    rw [A 0 2 (by decide), A 2 2 (by decide), A 4 1 (by decide), A 5 1 (by decide)]
    decide
theorem rtakearp_ev {s : ByteArray} (hs : s.size ≤ 140737488355200) : Ev (fun k => crosswayref05_TakeArp.f k s) (takeArpR s) := by
  unfold crosswayref05_TakeArp.f
  by_cases h1 : (s.size : Int) < 28
  · have e : takeArpR s = ether_TakeArp.no 41 := by unfold takeArpR; rw [if_pos h1]
    rw [e]
    exact ev_pos h1 (ev_eq fun _ => rfl)
  refine ev_neg h1 ?_
  have N := fun i w a b => rnum_ev (s := s) hs i w a b
  have r6 := at_range (MBytes.range s) 6 2
  rw [show (256 : Int) ^ 2 = 65536 by decide] at r6
  have ew : wrap64 (at_ (bytesOf s) 6 2) = at_ (bytesOf s) 6 2 := w64 (by omega) (by omega)
  refine Ev.bind (N 6 2 (by decide) (by omega)) (Ev.bind (N 8 6 (by decide) (by omega)) (Ev.bind (N 14 4 (by decide) (by omega)) (Ev.bind (N 18 6 (by decide) (by omega)) (Ev.bind (N 24 4 (by decide) (by omega)) ?_))))
  rw [ew]
  refine ev_bind (arp_eq ..) ?_
  have hfi := fit_iff (s := s) (by omega)
  have hli : ((s.extract 0 6).toList = ([0, 1, 8, 0, 6, 4] : List UInt8)) ↔ fitB s = true := by
    rw [hfi]
    constructor
    · intro h
      unfold bytesOf
      rw [← ByteArray.toList_eq, h]; rfl
    · intro h
      have h2 : s.extract 0 6 = strOfNums [0, 1, 8, 0, 6, 4] := by rw [← h, MBytes.nums]
      rw [h2]; decide +kernel
  cases hb : arpB (at_ (bytesOf s) 6 2) (at_ (bytesOf s) 8 6) false 0 (at_ (bytesOf s) 14 4) (at_ (bytesOf s) 18 6) false 0 (at_ (bytesOf s) 24 4)
  · have e : takeArpR s = ether_TakeArp.no 40 := by
      unfold takeArpR
      rw [if_neg h1, hb]
      cases fitB s <;> rfl
    rw [e]
    exact ev_neg (by decide) (ev_eq fun _ => rfl)
  · refine ev_pos rfl (ev_pos (by decide) (ev_pos (by omega) ?_))
    cases hf : fitB s
    · have e : takeArpR s = ether_TakeArp.no 40 := by unfold takeArpR; rw [if_neg h1, hf, if_pos rfl]
      rw [e]
      exact ev_neg (fun q => by rw [hli.1 q] at hf; cases hf) (ev_eq fun _ => rfl)
    · have e : takeArpR s = (at_ (bytesOf s) 6 2, at_ (bytesOf s) 8 6, false, 0, at_ (bytesOf s) 14 4, at_ (bytesOf s) 18 6, false, 0, at_ (bytesOf s) 24 4, 0) := by unfold takeArpR; rw [if_neg h1, hf, if_neg (by decide), if_pos hb]
      rw [e]
      exact ev_pos (hli.2 hf) (ev_eq fun _ => rfl)
theorem asks_j1 (S : ByteArray) (hS : S.size = 28) (cut : Int) (hcut : -9223372036854775808 ≤ cut ∧ cut ≤ 9223372036854775807) : Ev (fun k => crosswaylaw05_EtherAsks.j1 k cut true S false) true := by
  have key : ∀ n : Int, 0 ≤ n → n < 28 → Ev (fun k => ether_TakeArp.f k (S.extract 0 n.toNat)) (ether_TakeArp.no 41) := by
    intro n h0 h1
    have hz : (S.extract 0 n.toNat).size = n.toNat := by rw [← bytesOf_length, MBytes.extract, List.length_take, List.length_drop, bytesOf_length]; omega
    have h := takearp_ev (s := S.extract 0 n.toNat) (by omega)
    have e : takeArpR (S.extract 0 n.toNat) = ether_TakeArp.no 41 := by unfold takeArpR; rw [if_pos (by omega)]
    rw [e] at h; exact h
  refine Ev.step (fun k => by simp only [crosswaylaw05_EtherAsks.j1]; rfl) ?_
  refine ev_neg (by decide) ?_
  by_cases hneg : cut < 0
  · have e : wrap64 (-(wrap64 (cut + 1))) = -(cut + 1) := by rw [w64 (n := cut + 1) (by omega) (by omega)]; exact w64 (by omega) (by omega)
    refine ev_pos hneg ?_
    rw [e, Int.tmod_eq_emod_of_nonneg (by omega)]
    refine ev_pos (by omega) (ev_pos (by omega) (Ev.bind (key _ (by omega) (by omega)) (ev_pos (by first | exact True.intro | exact rfl) (ev_pos (by decide) (ev_eq fun _ => rfl)))))
  · refine ev_neg hneg ?_
    rw [Int.tmod_eq_emod_of_nonneg (by omega)]
    refine ev_pos (by omega) (ev_pos (by omega) (Ev.bind (key _ (by omega) (by omega)) (ev_pos (by first | exact True.intro | exact rfl) (ev_pos (by decide) (ev_eq fun _ => rfl)))))
theorem asks_j0 (B : ByteArray) (hB : B.size ≤ 5000) (cut : Int) (hcut : -9223372036854775808 ≤ cut ∧ cut ≤ 9223372036854775807) (op : Int) {fm : Int} (b1 : Bool) (h1 : Int) {lo1 tm : Int} (b2 : Bool) (h2 : Int) {lo2 : Int}
    (a1 : 0 ≤ fm) (a2 : 0 ≤ lo1) (a3 : 0 ≤ tm) (a4 : 0 ≤ lo2) : Ev (fun k => crosswaylaw05_EtherAsks.j0 k B cut true op fm b1 h1 lo1 tm b2 h2 lo2) true := by
  refine Ev.step (fun k => by simp only [crosswaylaw05_EtherAsks.j0]; rfl) ?_
  refine ev_bind (layarp_eq b1 h1 b2 h2 a1 a2 a3 a4) ?_
  cases hb : arpB op fm b1 h1 lo1 tm b2 h2 lo2
  · have e : layArpR op fm b1 h1 lo1 tm b2 h2 lo2 = (⟨#[]⟩, 40) := by unfold layArpR; rw [hb]; rfl
    rw [e]
    exact ev_neg (by decide) (ev_pos (by first | exact True.intro | exact rfl) (ev_pos (by decide +kernel) (ev_eq fun _ => rfl)))
  have e : layArpR op fm b1 h1 lo1 tm b2 h2 lo2 = (strOfNums (arpL op fm lo1 tm lo2), 0) := by unfold layArpR; rw [hb]; rfl
  rw [e]
  obtain ⟨q1, q2, q3, ⟨rfl, rfl, q4⟩, ⟨rfl, rfl, q5⟩⟩ := arpB_of hb
  obtain ⟨S, hS⟩ : ∃ S, strOfNums (arpL op fm lo1 tm lo2) = S := ⟨_, rfl⟩
  have hL := arpL_eq q1 fm lo1 tm lo2
  have hbL : Bytes (arpL op fm lo1 tm lo2) := by
    rw [hL]
    refine Bytes.append (Bytes.append (Bytes.append (Bytes.append ?_ (be_bytes _ _)) (be_bytes _ _)) (be_bytes _ _)) (be_bytes _ _)
    intro x hx
    simp only [List.mem_cons, List.not_mem_nil, or_false] at hx
    omega
  have hbS : bytesOf S = [0, 1, 8, 0, 6, 4, 0, op % 256] ++ be fm 6 ++ be lo1 4 ++ be tm 6 ++ be lo2 4 := by rw [← hS, MBytes.ofNums hbL, hL]
  have hzS : S.size = 28 := by rw [← bytesOf_length, hbS]; simp [be_length]
  obtain ⟨U, hU⟩ : ∃ U, S ++ B = U := ⟨_, rfl⟩
  have hbU : bytesOf U = [0, 1, 8, 0, 6, 4, 0, op % 256] ++ be fm 6 ++ be lo1 4 ++ be tm 6 ++ be lo2 4 ++ bytesOf B := by rw [← hU, MBytes.append, hbS]
  have hzU : U.size = 28 + B.size := by rw [← bytesOf_length, hbU, List.length_append, bytesOf_length]; simp [be_length]
  have p6 : at_ (bytesOf U) 6 2 = op := by
    rw [hbU]
    simp only [List.append_assoc, List.cons_append, List.nil_append]
    unfold at_
    simp only [List.drop_succ_cons, List.drop_zero, List.take_succ_cons, List.take_zero, num, List.foldl]
    omega
  have p8 : at_ (bytesOf U) 8 6 = fm := by
    have h := at_app (p := [0, 1, 8, 0, 6, 4, 0, op % 256]) (q := be lo1 4 ++ (be tm 6 ++ (be lo2 4 ++ bytesOf B))) (i := 8) fm 6 rfl
    rw [hbU]
    simp only [List.append_assoc] at h ⊢
    rw [h]; omega
  have p14 : at_ (bytesOf U) 14 4 = lo1 := by
    have h := at_app (p := [0, 1, 8, 0, 6, 4, 0, op % 256] ++ be fm 6) (q := be tm 6 ++ (be lo2 4 ++ bytesOf B)) (i := 14) lo1 4 (by simp [be_length])
    rw [hbU]
    simp only [List.append_assoc] at h ⊢
    rw [h]; omega
  have p18 : at_ (bytesOf U) 18 6 = tm := by
    have h := at_app (p := [0, 1, 8, 0, 6, 4, 0, op % 256] ++ be fm 6 ++ be lo1 4) (q := be lo2 4 ++ bytesOf B) (i := 18) tm 6 (by simp [be_length])
    rw [hbU]
    simp only [List.append_assoc] at h ⊢
    rw [h]; omega
  have p24 : at_ (bytesOf U) 24 4 = lo2 := by
    have h := at_app (p := [0, 1, 8, 0, 6, 4, 0, op % 256] ++ be fm 6 ++ be lo1 4 ++ be tm 6) (q := bytesOf B) (i := 24) lo2 4 (by simp [be_length])
    rw [hbU]
    simp only [List.append_assoc] at h ⊢
    rw [h]; omega
  have hfit : fitB U = true := by
    rw [fit_iff (by omega), MBytes.extract, hbU]
    rfl
  have ht : takeArpR U = (op, fm, false, 0, lo1, tm, false, 0, lo2, 0) := by
    unfold takeArpR
    rw [if_neg (by omega), hfit, if_neg (by decide), p6, p8, p14, p18, p24, if_pos hb]
  have htk := takearp_ev (s := U) (by omega)
  rw [ht] at htk
  simp only [hS]
  refine ev_pos (by first | exact True.intro | exact rfl) (ev_pos (by omega) ?_)
  rw [hU]
  refine Ev.bind htk (ev_pos rfl (ev_neg (by simp) ?_))
  rw [hzS]
  exact asks_j1 S hzS cut hcut
theorem EtherAsks (op fm : Int) (b1 : Bool) (h1 lo1 tm : Int) (b2 : Bool) (h2 lo2 : Int) (B : ByteArray) (cut : Int) (w4 : (Lit.int .i64 op).wf = true) (w5 : (Lit.int .u64 fm).wf = true) (w6 : (Lit.int .u64 h1).wf = true) (w7 : (Lit.int .u64 lo1).wf = true) (w8 : (Lit.int .u64 tm).wf = true) (w9 : (Lit.int .u64 h2).wf = true) (w10 : (Lit.int .u64 lo2).wf = true) (hB : B.size ≤ 140737488351232) (wc : (Lit.int .i64 cut).wf = true) :
    ∃ k, crosswaylaw05_EtherAsks.f k op fm b1 h1 lo1 tm b2 h2 lo2 B cut = some true := by
  have hc := i64_of_wf wc
  refine Ev.rounds (r := true) ?_
  unfold crosswaylaw05_EtherAsks.f
  refine Ev.bind awake_ev ?_
  by_cases hb : (B.size : Int) > 5000
  · refine ev_pos hb (ev_pos (by omega) (ev_pos (by omega) ?_))
    exact asks_j0 _ (by rw [← bytesOf_length, MBytes.extract]; simp; omega) cut hc op b1 h1 b2 h2 (u64_of_wf w5).1 (u64_of_wf w7).1 (u64_of_wf w8).1 (u64_of_wf w10).1
  · exact ev_neg hb (asks_j0 _ (by omega) cut hc op b1 h1 b2 h2 (u64_of_wf w5).1 (u64_of_wf w7).1 (u64_of_wf w8).1 (u64_of_wf w10).1)
end Go.Proofs.YthajbaheejdoaaaDoor.Pure
