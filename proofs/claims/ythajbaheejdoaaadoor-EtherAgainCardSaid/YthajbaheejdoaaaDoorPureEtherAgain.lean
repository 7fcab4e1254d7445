/-
  The pure law EtherAgain: whatever frame is taken up is laid as the same bytes. No program in sight but its Lean functions. Conditions: those of each theorem.
-/
import Derived.Test.YthajbaheejdoaaaDoorPBasex15
import Derived.Test.YthajbaheejdoaaaDoorPureEther
set_option linter.unusedVariables false
set_option linter.unusedSimpArgs false
namespace Go.Proofs.YthajbaheejdoaaaDoor.Pure
open Go.RowKit Go.Proofs.YthajbaheejdoaaaDoor.PBase Go.Proofs.YthajbaheejdoaaaDoorW.PrintWords Go.Proofs.YthajbaheejdoaaaDoorW.PrintLast Go.Proofs.YthajbaheejdoaaaDoor.MTally Go.Proofs.YthajbaheejdoaaaDoor.MBe
theorem EtherAgain (s : ByteArray) (hs : s.size ≤ 140737488351232) : ∃ k, crosswaylaw05_EtherAgain.f k s = some true := by
  refine Ev.rounds (r := true) ?_
  unfold crosswaylaw05_EtherAgain.f
  refine Ev.bind awake_ev (Ev.bind (take_ev s) ?_)
  by_cases h1 : (s.size : Int) < 14
  · have e : takeR s = ether_Take.no 41 := by unfold takeR; rw [if_pos h1]
    rw [e]
    exact ev_neg (by decide) (ev_pos rfl (ev_pos (by decide +kernel) (ev_pos rfl (ev_eq fun _ => rfl))))
  by_cases h2 : (s.size : Int) > 1514
  · have e : takeR s = ether_Take.no 42 := by unfold takeR; rw [if_neg h1, if_pos h2]
    rw [e]
    exact ev_neg (by decide) (ev_pos rfl (ev_pos (by decide +kernel) (ev_neg (by decide) (ev_pos rfl (ev_eq fun _ => rfl)))))
  by_cases h3 : at_ (bytesOf s) 12 2 < 1536
  · have e : takeR s = ether_Take.no 40 := by unfold takeR; rw [if_neg h1, if_neg h2, if_pos h3]
    rw [e]
    exact ev_neg (by decide) (ev_pos rfl (ev_pos (by decide +kernel) (ev_neg (by decide) (ev_neg (by decide) (ev_eq fun _ => rfl)))))
  have e : takeR s = (at_ (bytesOf s) 0 6, at_ (bytesOf s) 6 6, at_ (bytesOf s) 12 2, s.extract 14 s.size, 0) := by unfold takeR; rw [if_neg h1, if_neg h2, if_neg h3]
  rw [e]
  obtain ⟨r1, r2, r3⟩ := at_ranges s
  have hb : Bytes (bytesOf s) := MBytes.range s
  have hl := bytesOf_length s
  have hzd : (s.extract 14 s.size).size = s.size - 14 := by rw [← bytesOf_length, MBytes.extract, List.length_take, List.length_drop]; omega
  have hx14 : bytesOf (s.extract 14 s.size) = (bytesOf s).drop 14 := by rw [MBytes.extract]; exact List.take_of_length_le (by rw [List.length_drop]; omega)
  have hf : frB (at_ (bytesOf s) 0 6) (at_ (bytesOf s) 6 6) (at_ (bytesOf s) 12 2) = true := decide_eq_true (by omega)
  have hfr : fr (at_ (bytesOf s) 0 6) (at_ (bytesOf s) 6 6) (at_ (bytesOf s) 12 2) (s.extract 14 s.size) = bytesOf s := by
    unfold fr
    have q0 := be_at hb (i := 0) (w := 6) (by omega)
    rw [List.drop_zero] at q0
    rw [q0, be_at hb (i := 6) (w := 6) (by omega), be_at hb (i := 12) (w := 2) (by omega), ← take_add _ 6 6, ← take_add _ 12 2, hx14, List.take_append_drop]
  have hlay : layR (at_ (bytesOf s) 0 6) (at_ (bytesOf s) 6 6) (at_ (bytesOf s) 12 2) (s.extract 14 s.size) = (strOfNums (pad (bytesOf s)), 0) := by
    unfold layR
    rw [hf, if_pos rfl, if_neg (by omega), hfr]
  have hev := lay_ev (at_ (bytesOf s) 0 6) (at_ (bytesOf s) 6 6) (at_ (bytesOf s) 12 2) (s.extract 14 s.size)
  rw [hlay] at hev
  refine ev_pos rfl (Ev.bind hev ?_)
  obtain ⟨T, hT⟩ : ∃ T, strOfNums (pad (bytesOf s)) = T := ⟨_, rfl⟩
  have hbT : bytesOf T = pad (bytesOf s) := by rw [← hT, MBytes.ofNums (pad_bytes hb)]
  have hzT : T.size = max s.size 60 := by rw [← bytesOf_length, hbT, pad_length, hl]
  have hpre : T.extract 0 s.size = s := by
    apply MBytes.inj
    rw [MBytes.extract, hbT, List.drop_zero, Nat.sub_zero]
    exact List.take_left' hl
  simp only [hT]
  refine ev_pos (by first | exact True.intro | exact rfl) (ev_neg (by omega) (ev_pos (by omega) (ev_pos (by omega) ?_)))
  refine ev_pos (by rw [Int.toNat_natCast, hpre]) (ev_pos (by first | exact True.intro | exact rfl) ?_)
  by_cases h60 : (s.size : Int) < 60
  · exact ev_pos h60 (ev_eq fun _ => rfl)
  · refine ev_neg h60 (ev_eq fun _ => ?_)
    have : T = s := by apply MBytes.inj; rw [hbT, pad_long (by omega)]
    rw [this]; simp
end Go.Proofs.YthajbaheejdoaaaDoor.Pure
