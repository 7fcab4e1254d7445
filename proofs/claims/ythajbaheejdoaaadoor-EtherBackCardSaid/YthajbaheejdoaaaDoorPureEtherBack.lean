/-
  The pure law EtherBack: what a frame is laid as is taken up as that frame. No program in sight but its Lean functions. Conditions: those of each theorem.
-/
import Derived.Test.YthajbaheejdoaaaDoorPBasex14
import Derived.Test.YthajbaheejdoaaaDoorPureEther
set_option linter.unusedVariables false
set_option linter.unusedSimpArgs false
namespace Go.Proofs.YthajbaheejdoaaaDoor.Pure
open Go.RowKit Go.Proofs.YthajbaheejdoaaaDoor.PBase Go.Proofs.YthajbaheejdoaaaDoorW.PrintWords Go.Proofs.YthajbaheejdoaaaDoorW.PrintLast Go.Proofs.YthajbaheejdoaaaDoor.MTally Go.Proofs.YthajbaheejdoaaaDoor.MBe
theorem back_l0 (s d : ByteArray) (m : Nat) (hd : bytesOf d = bytesOf s ++ List.replicate m 0) (hz : d.size ≤ 100000) (a b c : Int) : ∀ (n i : Nat), d.size = i + n → s.size ≤ i → Ev (fun k => crosswaylaw05_EtherBack.l0 k true (i : Int) a b c d) true := by
  intro n
  induction n with
  | zero =>
    intro i h1 h2
    refine Ev.step (fun k => by simp only [crosswaylaw05_EtherBack.l0]; rfl) ?_
    exact ev_neg (by omega) (ev_eq fun _ => rfl)
  | succ n ih =>
    intro i h1 h2
    refine Ev.step (fun k => by simp only [crosswaylaw05_EtherBack.l0]; rfl) ?_
    have hl := bytesOf_length d
    have hl2 := bytesOf_length s
    have hb : bt d (i : Int) = 0 := by
      rw [← rd_bytesOf, rd_at (by omega)]
      have hi : i < (bytesOf s ++ List.replicate m (0 : Int)).length := by rw [← hd]; omega
      have e : (bytesOf d)[i]'(by omega) = (bytesOf s ++ List.replicate m (0 : Int))[i]'hi := by simp only [hd]
      rw [e, List.getElem_append_right (by omega), List.getElem_replicate]
    have h3 := ih (i + 1) (by omega) (by omega)
    have ew : wrap64 ((i : Int) + 1) = ((i + 1 : Nat) : Int) := by rw [w64 (by omega) (by omega)]; omega
    refine ev_pos (by omega) (ev_pos (by omega) (ev_pos hb ?_))
    rw [ew]; exact h3
theorem EtherBack (a b c : Int) (s : ByteArray) (w1 : (Lit.int .u64 a).wf = true) (w2 : (Lit.int .u64 b).wf = true) (w3 : (Lit.int .i64 c).wf = true) (hs : s.size ≤ 140737488351232) : ∃ k, crosswaylaw05_EtherBack.f k a b c s = some true := by
  have ha := u64_of_wf w1
  have hb := u64_of_wf w2
  refine Ev.rounds (r := true) ?_
  unfold crosswaylaw05_EtherBack.f
  refine Ev.bind awake_ev (Ev.bind (lay_ev a b c s) ?_)
  cases hf : frB a b c
  · have e : layR a b c s = (⟨#[]⟩, 40) := by unfold layR; rw [hf]; rfl
    rw [e]
    exact ev_neg (by decide) (ev_pos rfl (ev_eq fun _ => by decide +kernel))
  by_cases hl : (s.size : Int) > 1500
  · have e : layR a b c s = (⟨#[]⟩, 42) := by unfold layR; rw [hf, if_pos rfl, if_pos hl]
    rw [e]
    exact ev_neg (by decide) (ev_pos rfl (ev_eq fun _ => by decide +kernel))
  have hc := of_decide_eq_true (show decide (a < 281474976710656 ∧ b < 281474976710656 ∧ 1536 ≤ c ∧ c < 65536) = true from hf)
  have e : layR a b c s = (strOfNums (pad (fr a b c s)), 0) := by unfold layR; rw [hf, if_pos rfl, if_neg hl]
  rw [e]
  obtain ⟨S, hS⟩ : ∃ S, strOfNums (pad (fr a b c s)) = S := ⟨_, rfl⟩
  have hlen := fr_length a b c s
  have hpl := pad_length (fr a b c s)
  have hbS : bytesOf S = be a 6 ++ be b 6 ++ be c 2 ++ (bytesOf s ++ List.replicate (60 - (14 + s.size)) 0) := by
    rw [← hS, MBytes.ofNums (pad_bytes (fr_bytes a b c s))]
    unfold pad
    rw [hlen]
    unfold fr
    simp only [List.append_assoc]
  have hzS : S.size = max (14 + s.size) 60 := by rw [← hS, MBytes.size_ofNums, hpl, hlen]
  have q0 : at_ (bytesOf S) 0 6 = a := by
    have h := at_app (p := []) (q := be b 6 ++ be c 2 ++ (bytesOf s ++ List.replicate (60 - (14 + s.size)) 0)) (i := 0) a 6 rfl
    rw [List.nil_append] at h
    rw [hbS, List.append_assoc, List.append_assoc]
    rw [List.append_assoc] at h
    rw [h]; omega
  have q1 : at_ (bytesOf S) 6 6 = b := by
    have h := at_app (p := be a 6) (q := be c 2 ++ (bytesOf s ++ List.replicate (60 - (14 + s.size)) 0)) (i := 6) b 6 (be_length _ _)
    rw [hbS, List.append_assoc, List.append_assoc]
    rw [h]; omega
  have q2 : at_ (bytesOf S) 12 2 = c := by
    have h := at_app (p := be a 6 ++ be b 6) (q := bytesOf s ++ List.replicate (60 - (14 + s.size)) 0) (i := 12) c 2 (by simp [be_length])
    rw [hbS, List.append_assoc (be a 6 ++ be b 6)]
    rw [h]; omega
  have ht : takeR S = (a, b, c, S.extract 14 S.size, 0) := by
    unfold takeR
    rw [if_neg (by omega), if_neg (by omega), q0, q1, q2, if_neg (by omega)]
  obtain ⟨d, hd⟩ : ∃ d, S.extract 14 S.size = d := ⟨_, rfl⟩
  have hbd : bytesOf d = bytesOf s ++ List.replicate (60 - (14 + s.size)) 0 := by
    rw [← hd, MBytes.extract, List.take_of_length_le (by rw [List.length_drop, bytesOf_length]; omega), hbS]
    exact List.drop_left' (by simp only [List.length_append, be_length])
  have hzd : d.size = max s.size 46 := by rw [← bytesOf_length, hbd, List.length_append, List.length_replicate, bytesOf_length]; omega
  have hpre : d.extract 0 s.size = s := by
    apply MBytes.inj
    rw [MBytes.extract, hbd, List.drop_zero, Nat.sub_zero]
    exact List.take_left' (bytesOf_length s)
  simp only [hS]
  refine ev_pos (by first | exact True.intro | exact rfl) (Ev.bind (take_ev S) ?_)
  rw [ht, hd]
  refine ev_pos rfl (ev_pos rfl (ev_pos rfl (ev_pos rfl (ev_neg (by omega) (ev_pos ?_ (ev_pos (by omega) (ev_pos (by simp only; omega) ?_)))))))
  · simp only
    unfold mx
    split <;> omega
  · simp only [Int.toNat_natCast]
    rw [hpre, show (s.toList != s.toList) = false by simp]
    refine Ev.step (fun k => by simp only [crosswaylaw05_EtherBack.j0]; rfl) ?_
    exact ev_neg (by decide) (back_l0 s d _ hbd (by omega) a b c (d.size - s.size) s.size (by omega) (Nat.le_refl _))
end Go.Proofs.YthajbaheejdoaaaDoor.Pure
