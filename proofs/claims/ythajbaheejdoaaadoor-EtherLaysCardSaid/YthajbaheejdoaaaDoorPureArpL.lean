/-
  What the functions that lay ARP messages come to; the pure law EtherLays. No program in sight but their Lean functions. Conditions: those of each theorem.
-/
import Derived.Test.YthajbaheejdoaaaDoorPBasex11
import Derived.Test.YthajbaheejdoaaaDoorPureEther
set_option linter.unusedVariables false
set_option linter.unusedSimpArgs false
namespace Go.Proofs.YthajbaheejdoaaaDoor.Pure
open Go.RowKit Go.Proofs.YthajbaheejdoaaaDoor.PBase Go.Proofs.YthajbaheejdoaaaDoorW.PrintWords Go.Proofs.YthajbaheejdoaaaDoorW.PrintLast Go.Proofs.YthajbaheejdoaaaDoor.MTally Go.Proofs.YthajbaheejdoaaaDoor.MBe
/-! ARP messages: may one be, its bytes. -/
def fourB (b : Bool) (h l : Int) : Bool := !b && decide (h = 0 ∧ l < 4294967296)
theorem rvalid_eq (b : Bool) (h l : Int) : crosswayref03_Valid.f b h l = some (b || decide (h = 0 ∧ l < 4294967296)) := by
  unfold crosswayref03_Valid.f
  cases b
  · by_cases e : h = 0
    · rw [if_neg (by decide), if_pos e, Bool.false_or]; congr 1; apply decide_eq_decide.2; omega
    · rw [if_neg (by decide), if_neg e, Bool.false_or]; congr 1; symm; apply decide_eq_false; omega
  · rfl
theorem valid_eq (b : Bool) (h l : Int) : addr_Valid.f b h l = some (b || decide (h = 0 ∧ l < 4294967296)) := by
  unfold addr_Valid.f
  cases b
  · by_cases e : h = 0
    · rw [if_neg (by decide), if_pos e, Bool.false_or]; congr 1; apply decide_eq_decide.2; omega
    · rw [if_neg (by decide), if_neg e, Bool.false_or]; congr 1; symm; apply decide_eq_false; omega
  · rfl
theorem isFour_eq (b : Bool) (h l : Int) : ether_isFour.f b h l = some (fourB b h l) := by
  unfold ether_isFour.f fourB
  rw [valid_eq]
  cases b <;> simp
def arpB (op fm : Int) (b1 : Bool) (h1 lo1 tm : Int) (b2 : Bool) (h2 lo2 : Int) : Bool :=
  decide (op = 1 ∨ op = 2) && (decide (fm < 281474976710656) && (decide (tm < 281474976710656) && (fourB b1 h1 lo1 && fourB b2 h2 lo2)))
theorem isArp_eq (op fm : Int) (b1 : Bool) (h1 lo1 tm : Int) (b2 : Bool) (h2 lo2 : Int) : ether_isArp.f op fm b1 h1 lo1 tm b2 h2 lo2 = some (arpB op fm b1 h1 lo1 tm b2 h2 lo2) := by
  unfold ether_isArp.f arpB
  rw [isFour_eq, isFour_eq]
  simp only [Option.bind_some]
  by_cases o1 : op = 1
  · subst o1
    by_cases f1 : fm < 281474976710656
    · by_cases t1 : tm < 281474976710656
      · cases fourB b1 h1 lo1 <;> simp [f1, t1]
      · simp [f1, t1]
    · simp [f1]
  · by_cases o2 : op = 2
    · subst o2
      by_cases f1 : fm < 281474976710656
      · by_cases t1 : tm < 281474976710656
        · cases fourB b1 h1 lo1 <;> simp [f1, t1]
        · simp [f1, t1]
      · simp [f1]
    · simp [o1, o2]
theorem arp_eq (op fm : Int) (b1 : Bool) (h1 lo1 tm : Int) (b2 : Bool) (h2 lo2 : Int) : crosswayref05_arp.f op fm b1 h1 lo1 tm b2 h2 lo2 = some (arpB op fm b1 h1 lo1 tm b2 h2 lo2) := by
  unfold crosswayref05_arp.f crosswayref05_mac.f arpB fourB
  rw [rvalid_eq, rvalid_eq]
  simp only [Option.bind_some]
  obtain ⟨v1, hv1⟩ : ∃ v, decide (h1 = 0 ∧ lo1 < 4294967296) = v := ⟨_, rfl⟩
  obtain ⟨v2, hv2⟩ : ∃ v, decide (h2 = 0 ∧ lo2 < 4294967296) = v := ⟨_, rfl⟩
  obtain ⟨v3, hv3⟩ : ∃ v, decide (fm < 281474976710656) = v := ⟨_, rfl⟩
  obtain ⟨v4, hv4⟩ : ∃ v, decide (tm < 281474976710656) = v := ⟨_, rfl⟩
  rw [hv1, hv2, hv3, hv4]
  by_cases o1 : op = 1
  · subst o1; cases v1 <;> cases v2 <;> cases v3 <;> cases v4 <;> cases b1 <;> cases b2 <;> rfl
  · by_cases o2 : op = 2
    · subst o2; cases v1 <;> cases v2 <;> cases v3 <;> cases v4 <;> cases b1 <;> cases b2 <;> rfl
    · simp [o1, o2]
theorem arpB_of {op fm : Int} {b1 : Bool} {h1 lo1 tm : Int} {b2 : Bool} {h2 lo2 : Int} (h : arpB op fm b1 h1 lo1 tm b2 h2 lo2 = true) : (op = 1 ∨ op = 2) ∧ fm < 281474976710656 ∧ tm < 281474976710656 ∧ (b1 = false ∧ h1 = 0 ∧ lo1 < 4294967296) ∧ (b2 = false ∧ h2 = 0 ∧ lo2 < 4294967296) := by
  unfold arpB fourB at h
  simpa using h
def arpL (op fm lo1 tm lo2 : Int) : List Int := ether_LayArp.cat (ether_LayArp.ns op fm lo1 tm lo2)
def layArpR (op fm : Int) (b1 : Bool) (h1 lo1 tm : Int) (b2 : Bool) (h2 lo2 : Int) : ByteArray × Int := if arpB op fm b1 h1 lo1 tm b2 h2 lo2 = true then (strOfNums (arpL op fm lo1 tm lo2), 0) else (⟨#[]⟩, 40)
theorem layarp_eq {op fm : Int} (b1 : Bool) (h1 : Int) {lo1 tm : Int} (b2 : Bool) (h2 : Int) {lo2 : Int} (a1 : 0 ≤ fm) (a2 : 0 ≤ lo1) (a3 : 0 ≤ tm) (a4 : 0 ≤ lo2) : ether_LayArp.f op fm b1 h1 lo1 tm b2 h2 lo2 = some (layArpR op fm b1 h1 lo1 tm b2 h2 lo2) := by
  unfold ether_LayArp.f layArpR
  rw [isArp_eq, Option.bind_some]
  cases hb : arpB op fm b1 h1 lo1 tm b2 h2 lo2
  · rfl
  · obtain ⟨q1, q2, q3, ⟨_, _, q4⟩, ⟨_, _, q5⟩⟩ := arpB_of hb
    rw [if_neg (by decide), if_neg (fun q => q ⟨by omega, by omega, by omega, by omega, by omega⟩), if_pos rfl]; rfl
theorem arpL_eq {op : Int} (h : op = 1 ∨ op = 2) (fm lo1 tm lo2 : Int) : arpL op fm lo1 tm lo2 = [0, 1, 8, 0, 6, 4, 0, op % 256] ++ be fm 6 ++ be lo1 4 ++ be tm 6 ++ be lo2 4 := by
  unfold arpL ether_LayArp.ns
  simp only [ether_LayArp.cat, List.append_nil, List.append_assoc]
  rcases h with rfl | rfl
  · rw [show be 1 2 = [0, 1] by decide, show be 2048 2 = [8, 0] by decide, show be 6 1 = [6] by decide, show be 4 1 = [4] by decide]; rfl
  · rw [show be 1 2 = [0, 1] by decide, show be 2048 2 = [8, 0] by decide, show be 6 1 = [6] by decide, show be 4 1 = [4] by decide, show be 2 2 = [0, 2] by decide]; rfl
theorem rlayarp_ev {op fm : Int} (b1 : Bool) (h1 : Int) {lo1 tm : Int} (b2 : Bool) (h2 : Int) {lo2 : Int} (a1 : 0 ≤ fm ∧ fm ≤ 18446744073709551615) (a2 : 0 ≤ lo1 ∧ lo1 ≤ 18446744073709551615) (a3 : 0 ≤ tm ∧ tm ≤ 18446744073709551615) (a4 : 0 ≤ lo2 ∧ lo2 ≤ 18446744073709551615) :
    Ev (fun k => crosswayref05_LayArp.f k op fm b1 h1 lo1 tm b2 h2 lo2) (layArpR op fm b1 h1 lo1 tm b2 h2 lo2) := by
  unfold crosswayref05_LayArp.f layArpR
  refine ev_bind (arp_eq ..) ?_
  cases hb : arpB op fm b1 h1 lo1 tm b2 h2 lo2
  · exact ev_neg (by decide) (ev_eq fun _ => rfl)
  · obtain ⟨q1, _⟩ := arpB_of hb
    rw [if_pos rfl, arpL_eq q1]
    have p1 := rput_ev (l := [0, 1, 8, 0, 6, 4, 0, op % 256]) (w := 6) (n := fm) (by simp) a1
    rw [show octet_Put.wid 6 = 6 from rfl] at p1
    have p2 := rput_ev (l := [0, 1, 8, 0, 6, 4, 0, op % 256] ++ be fm 6) (w := 4) (n := lo1) (by simp [be_length]) a2
    rw [show octet_Put.wid 4 = 4 from rfl] at p2
    have p3 := rput_ev (l := [0, 1, 8, 0, 6, 4, 0, op % 256] ++ be fm 6 ++ be lo1 4) (w := 6) (n := tm) (by simp [be_length]) a3
    rw [show octet_Put.wid 6 = 6 from rfl] at p3
    have p4 := rput_ev (l := [0, 1, 8, 0, 6, 4, 0, op % 256] ++ be fm 6 ++ be lo1 4 ++ be tm 6) (w := 4) (n := lo2) (by simp [be_length]) a4
    rw [show octet_Put.wid 4 = 4 from rfl] at p4
    exact ev_pos rfl (Ev.bind p1 (Ev.bind p2 (Ev.bind p3 (Ev.bind p4 (ev_eq fun _ => rfl)))))
theorem EtherLays (a b c : Int) (s : ByteArray) (op fm : Int) (b1 : Bool) (h1 lo1 tm : Int) (b2 : Bool) (h2 lo2 : Int) (w1 : (Lit.int .u64 a).wf = true) (w2 : (Lit.int .u64 b).wf = true) (w3 : (Lit.int .i64 c).wf = true) (hs : s.size ≤ 140737488351232)
    (w4 : (Lit.int .i64 op).wf = true) (w5 : (Lit.int .u64 fm).wf = true) (w6 : (Lit.int .u64 h1).wf = true) (w7 : (Lit.int .u64 lo1).wf = true) (w8 : (Lit.int .u64 tm).wf = true) (w9 : (Lit.int .u64 h2).wf = true) (w10 : (Lit.int .u64 lo2).wf = true) :
    ∃ k, crosswaylaw05_EtherLays.f k a b c s op fm b1 h1 lo1 tm b2 h2 lo2 = some true := by
  refine Ev.rounds (r := true) ?_
  unfold crosswaylaw05_EtherLays.f
  refine Ev.bind awake_ev (Ev.bind (lay_ev a b c s) (Ev.bind (rlay_ev a b c s (u64_of_wf w1) (u64_of_wf w2)) (ev_bind (layarp_eq b1 h1 b2 h2 (u64_of_wf w5).1 (u64_of_wf w7).1 (u64_of_wf w8).1 (u64_of_wf w10).1) (Ev.bind (rlayarp_ev b1 h1 b2 h2 (u64_of_wf w5) (u64_of_wf w7) (u64_of_wf w8) (u64_of_wf w10)) ?_))))
  exact ev_pos rfl (ev_pos rfl (ev_pos rfl (ev_pos rfl (ev_eq fun _ => by simp))))
end Go.Proofs.YthajbaheejdoaaaDoor.Pure
