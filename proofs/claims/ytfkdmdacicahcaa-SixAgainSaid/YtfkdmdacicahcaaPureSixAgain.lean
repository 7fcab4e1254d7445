/-
  The pure law SixAgain: whatever packet is taken up is laid as the same bytes; hop by hop nothing but the hops that are left changes. For all strings.
-/
import Derived.Test.YtfkdmdacicahcaaPBasex13
import Derived.Test.YtfkdmdacicahcaaPureSix
set_option linter.unusedVariables false
set_option linter.unusedSectionVars false
set_option linter.unusedSimpArgs false
namespace Go.Proofs.Ytfkdmdacicahcaa.Pure
open Go.RowKit Go.Proofs.Ytfkdmdacicahcaa.PBase Go.Proofs.YtfkdmdacicahcaaW.PrintWords Go.Proofs.YtfkdmdacicahcaaW.PrintLast Go.Proofs.YtfkdmdacicahcaaW.PrintMore Go.Proofs.Ytfkdmdacicahcaa.MTally Go.Proofs.Ytfkdmdacicahcaa.MBe
theorem at_app {p q : List Int} {i : Nat} (v : Int) (w : Nat) (hp : p.length = i) : at_ (p ++ (be v w ++ q)) i w = v % 256 ^ w := by
  unfold at_
  rw [List.drop_left' hp, List.take_left' (be_length _ _), num_be]
theorem be_one {n : Int} (h : 0 ≤ n ∧ n ≤ 255) : be n 1 = [n] := by
  simp only [be, Int.pow_zero, Int.ediv_one]; rw [show n % 256 = n by omega]
/-- Bytes that begin with a packet's are that packet. -/
theorem take_of {s : ByteArray} {cl fl nx hp fh flo th tlo : Int} {data : ByteArray} {B : List Int} (h : bytesOf s = ip6_Lay.of cl fl nx hp fh flo th tlo data ++ B) (hm : may cl fl nx hp true true) (hd : (data.size : Int) ≤ 65535)
    (u1 : 0 ≤ fh ∧ fh ≤ 18446744073709551615) (u2 : 0 ≤ flo ∧ flo ≤ 18446744073709551615) (u3 : 0 ≤ th ∧ th ≤ 18446744073709551615) (u4 : 0 ≤ tlo ∧ tlo ≤ 18446744073709551615) :
    takeR s = (cl, fl, nx, hp, true, fh, flo, true, th, tlo, data, 0) ∧ bt s 0 / 16 = 6 ∧ at_ (bytesOf s) 4 2 = (data.size : Int) ∧ s.size = 40 + data.size + B.length := by
  obtain ⟨h1, h2, h3, h4, _, _⟩ := hm
  have hsz : s.size = 40 + data.size + B.length := by rw [← bytesOf_length, h, List.length_append, of_length]
  have hft := first_top s (by omega)
  have ef := first_eq h1 h4
  have hL : bytesOf s = be (ip6_Lay.first cl fl) 4 ++ (be (data.size : Int) 2 ++ (be nx 1 ++ (be hp 1 ++ (be fh 8 ++ (be flo 8 ++ (be th 8 ++ (be tlo 8 ++ (bytesOf data ++ B)))))))) := by
    rw [h, be_one h2, be_one h3]
    unfold ip6_Lay.of ip6_Lay.head ip6_Lay.ends
    simp
  have a0 : at_ (bytesOf s) 0 4 = ip6_Lay.first cl fl := by
    rw [hL]
    have := at_app (p := []) (q := be (data.size : Int) 2 ++ (be nx 1 ++ (be hp 1 ++ (be fh 8 ++ (be flo 8 ++ (be th 8 ++ (be tlo 8 ++ (bytesOf data ++ B)))))))) (i := 0) (ip6_Lay.first cl fl) 4 rfl
    rw [List.nil_append] at this
    rw [this, ef]; omega
  have a4 : at_ (bytesOf s) 4 2 = (data.size : Int) := by
    rw [hL, at_app (data.size : Int) 2 (be_length _ _)]; omega
  have a6 : at_ (bytesOf s) 6 1 = nx := by
    rw [hL, ← List.append_assoc, at_app nx 1 (by simp [be_length])]; omega
  have a7 : at_ (bytesOf s) 7 1 = hp := by
    rw [hL, ← List.append_assoc, ← List.append_assoc, at_app hp 1 (by simp [be_length])]; omega
  have a8 : at_ (bytesOf s) 8 8 = fh := by
    rw [hL, ← List.append_assoc, ← List.append_assoc, ← List.append_assoc, at_app fh 8 (by simp [be_length])]; omega
  have a16 : at_ (bytesOf s) 16 8 = flo := by
    rw [hL, ← List.append_assoc, ← List.append_assoc, ← List.append_assoc, ← List.append_assoc, at_app flo 8 (by simp [be_length])]; omega
  have a24 : at_ (bytesOf s) 24 8 = th := by
    rw [hL, ← List.append_assoc, ← List.append_assoc, ← List.append_assoc, ← List.append_assoc, ← List.append_assoc, at_app th 8 (by simp [be_length])]; omega
  have a32 : at_ (bytesOf s) 32 8 = tlo := by
    rw [hL, ← List.append_assoc, ← List.append_assoc, ← List.append_assoc, ← List.append_assoc, ← List.append_assoc, ← List.append_assoc, at_app tlo 8 (by simp [be_length])]; omega
  have a40 : s.extract 40 (40 + (data.size : Int)).toNat = data := by
    apply MBytes.inj
    rw [MBytes.extract, h, List.drop_append_of_le_length (by rw [of_length]; omega)]
    have e : (ip6_Lay.of cl fl nx hp fh flo th tlo data).drop 40 = bytesOf data := by
      unfold ip6_Lay.of
      exact List.drop_left' (by unfold ip6_Lay.head ip6_Lay.ends; simp [be_length])
    rw [e]
    exact List.take_left' (by rw [bytesOf_length]; omega)
  have h6 : bt s 0 / 16 = 6 := by rw [← hft, a0, ef]; omega
  refine ⟨?_, h6, a4, hsz⟩
  unfold takeR
  rw [if_neg (by omega), if_neg (by omega), a4, if_neg (by omega), a0, a6, a7, a8, a16, a24, a32, a40, ef]
  rw [show (1610612736 + cl * 1048576 + fl) / 1048576 % 256 = cl by omega, show (1610612736 + cl * 1048576 + fl) % 1048576 = fl by omega]
/-- What is cut short is none. -/
theorem take_cut {s : ByteArray} {n : Int} (h6 : bt s 0 / 16 = 6) (hn : at_ (bytesOf s) 4 2 = n) (hs : (s.size : Int) = 40 + n) {c : Nat} (hc : c < s.size) : (takeR (s.extract 0 c)).2.2.2.2.2.2.2.2.2.2.2 = 61 := by
  have hx : bytesOf (s.extract 0 c) = (bytesOf s).take c := by rw [MBytes.extract]; simp
  have hz : (s.extract 0 c).size = c := by rw [← bytesOf_length, hx, List.length_take, bytesOf_length]; omega
  unfold takeR
  by_cases h40 : ((s.extract 0 c).size : Int) < 40
  · rw [if_pos h40]; rfl
  have hb0 : bt (s.extract 0 c) 0 = bt s 0 := by
    rw [← rd_bytesOf, ← rd_bytesOf, hx]
    simp only [rd]
    rw [List.getD_eq_getElem?_getD, List.getD_eq_getElem?_getD, List.getElem?_take, if_pos (by simp; omega)]
  have h4 : at_ (bytesOf (s.extract 0 c)) 4 2 = n := by
    rw [hx, ← hn]
    unfold at_
    rw [List.drop_take, List.take_take, Nat.min_eq_left (by omega)]
  rw [if_neg h40, hb0, if_neg (by omega), h4, if_pos (by omega)]
  rfl
theorem again_good {s t u : ByteArray} {cl fl nx hp fh flo th tlo : Int} {data : ByteArray} (hs : s.size ≤ 140737488351232) (ht : takeR s = (cl, fl, nx, hp, true, fh, flo, true, th, tlo, data, 0)) (hl : layR cl fl nx hp true fh flo true th tlo data = (t, 0)) (hsz : t.size ≤ s.size) (hst : s.extract 0 t.size = t)
    (hp0 : 0 ≤ hp ∧ hp ≤ 255) (hu : hopR s = if hp < 2 then (⟨#[]⟩, 63) else (u, 0)) (hu2 : 2 ≤ hp → takeR u = (cl, fl, nx, hp - 1, true, fh, flo, true, th, tlo, data, 0) ∧ u.size = t.size) : Ev (fun k => crosswaylaw07_SixAgain.f k s) true := by
  unfold crosswaylaw07_SixAgain.f
  refine Ev.bind awake_ev (Ev.bind (take_ev s hs) ?_)
  simp only [ht]
  refine ev_pos (by first | trivial | rfl | simp) (ev_bind (lay_eq ..) ?_)
  simp only [hl]
  refine Ev.bind (hop_ev s hs) (ev_pos (by first | trivial | rfl | simp) (ev_neg (by omega) (ev_pos (by omega) (ev_pos (by omega) ?_))))
  have e : ((s.extract 0 ((t.size : Int)).toNat).toList != t.toList) = false := by
    rw [Int.toNat_natCast, hst]; simp
  rw [e, hu]
  refine Ev.step (fun k => by simp only [crosswaylaw07_SixAgain.j0]; rw [if_neg (by decide)]) ?_
  by_cases h2 : hp < 2
  · rw [if_pos h2]
    exact ev_pos h2 (ev_pos (by first | trivial | rfl | simp) (ev_pos (by simp) (ev_eq fun _ => rfl)))
  rw [if_neg h2]
  obtain ⟨hk, hz⟩ := hu2 (by omega)
  refine ev_neg h2 (Ev.bind (take_ev u (by omega)) (ev_pos (by first | trivial | rfl | simp) (ev_pos (by first | trivial | rfl | simp) ?_)))
  simp only [hk]
  have ew : wrap64 (hp - 1) = hp - 1 := w64 (by omega) (by omega)
  rw [ew, hz]
  exact ev_pos (by first | trivial | rfl | simp) (ev_pos (by simp) (ev_eq fun _ => by simp))
theorem again_ev (s : ByteArray) (hs : s.size ≤ 140737488351232) : Ev (fun k => crosswaylaw07_SixAgain.f k s) true := by
  by_cases h0 : (takeR s).2.2.2.2.2.2.2.2.2.2.2 = 0
  case neg =>
    unfold crosswaylaw07_SixAgain.f
    refine Ev.bind awake_ev (Ev.bind (take_ev s hs) (ev_neg h0 (ev_pos (by first | trivial | rfl | simp) (ev_eq fun _ => ?_))))
    rw [take_bad h0]
    unfold ip6_Take.no
    simp
    try rfl
  obtain ⟨h40, h6, hn, ht⟩ := take_ok h0
  have hb := MBytes.range s
  have r0 := at_range hb 0 4; have r4 := at_range hb 4 2; have r6 := at_range hb 6 1; have r7 := at_range hb 7 1
  have x1 := at_range hb 8 8; have x2 := at_range hb 16 8; have x3 := at_range hb 24 8; have x4 := at_range hb 32 8
  have hd := data_size h40 hn
  have hr := relaid h40 h6 hn
  have hh := hop_of h40 h6 hn
  have hhop : hopR s = if at_ (bytesOf s) 7 1 < 2 then (⟨#[]⟩, 63) else (ip6_Hop.of s (40 + (s.extract 40 (40 + at_ (bytesOf s) 4 2).toNat).size), 0) := by
    unfold hopR; rw [if_neg (by rw [h0]; decide), ht]
  have hmay : ∀ hp : Int, 0 ≤ hp ∧ hp ≤ 255 → may (at_ (bytesOf s) 0 4 / 1048576 % 256) (at_ (bytesOf s) 0 4 % 1048576) (at_ (bytesOf s) 6 1) hp true true := fun hp h => ⟨by omega, by omega, h, by omega, rfl, rfl⟩
  have hlay : layR (at_ (bytesOf s) 0 4 / 1048576 % 256) (at_ (bytesOf s) 0 4 % 1048576) (at_ (bytesOf s) 6 1) (at_ (bytesOf s) 7 1) true (at_ (bytesOf s) 8 8) (at_ (bytesOf s) 16 8) true (at_ (bytesOf s) 24 8) (at_ (bytesOf s) 32 8) (s.extract 40 (40 + at_ (bytesOf s) 4 2).toNat) = (s.extract 0 (40 + at_ (bytesOf s) 4 2).toNat, 0) := by
    unfold layR
    rw [if_pos (hmay _ (by omega)), if_neg (by omega), hr]
    congr 1
    apply MBytes.inj
    rw [MBytes.ofNums (Bytes.take hb _), MBytes.extract]; simp
  have hN : (s.extract 0 (40 + at_ (bytesOf s) 4 2).toNat).size = (40 + at_ (bytesOf s) 4 2).toNat := by
    rw [← bytesOf_length, MBytes.extract, List.length_take, List.length_drop, bytesOf_length]; omega
  refine again_good hs ht hlay (by omega) (by rw [hN]) (by omega) hhop fun h2 => ?_
  have hz := hh (by omega)
  rw [hz]
  have hbs := MBytes.ofNums (of_bytes (at_ (bytesOf s) 0 4 / 1048576 % 256) (at_ (bytesOf s) 0 4 % 1048576) (at_ (bytesOf s) 6 1) (at_ (bytesOf s) 7 1 - 1) (at_ (bytesOf s) 8 8) (at_ (bytesOf s) 16 8) (at_ (bytesOf s) 24 8) (at_ (bytesOf s) 32 8) (s.extract 40 (40 + at_ (bytesOf s) 4 2).toNat) (by omega) (by omega))
  obtain ⟨k1, -, -, k4⟩ := take_of (B := []) (by rw [List.append_nil]; exact hbs) (hmay _ (by omega)) (by omega) (by omega) (by omega) (by omega) (by omega)
  rw [List.length_nil] at k4
  exact ⟨k1, by omega⟩
theorem SixAgain (s : ByteArray) (hs : s.size ≤ 140737488351232) : ∃ k, crosswaylaw07_SixAgain.f k s = some true := Ev.rounds (again_ev s hs)
end Go.Proofs.Ytfkdmdacicahcaa.Pure
