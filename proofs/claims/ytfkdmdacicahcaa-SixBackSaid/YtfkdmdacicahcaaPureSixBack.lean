/-
  The pure law SixBack: what a packet is laid as is taken up as that packet, whatever stands behind, and nothing that is cut short is. For all packets.
-/
import Derived.Test.YtfkdmdacicahcaaPBasex15
import Derived.Test.YtfkdmdacicahcaaPureSix
set_option linter.unusedVariables false
set_option linter.unusedSectionVars false
set_option linter.unusedSimpArgs false
namespace Go.Proofs.Ytfkdmdacicahcaa.Pure
open Go.RowKit Go.Proofs.Ytfkdmdacicahcaa.PBase Go.Proofs.YtfkdmdacicahcaaW.PrintWords Go.Proofs.YtfkdmdacicahcaaW.PrintLast Go.Proofs.YtfkdmdacicahcaaW.PrintMore Go.Proofs.Ytfkdmdacicahcaa.MTally Go.Proofs.Ytfkdmdacicahcaa.MBe
theorem at_app {p q : List Int} {i : Nat} (v : Int) (w : Nat) (hp : p.length = i) : at_ (p ++ (be v w ++ q)) i w = v % 256 ^ w := by
  unfold at_
  rw [List.drop_left' hp, List.take_left' (be_length _ _), num_be]
theorem be_one {n : Int} (h : 0 ≤ n ∧ n ≤ 255) : be n 1 = [n] := by
  simp only [be, Int.pow_zero, Int.ediv_one]; rw [show n % 256 = n by omega]
/-- Bytes that begin with a packet's are that packet. -/
theorem take_of {s : ByteArray} {cl fl nx hp fh flo th tlo : Int} {data : ByteArray} {B : List Int} (h : bytesOf s = ip6_Lay.of cl fl nx hp fh flo th tlo data ++ B) (hm : may cl fl nx hp true true) (hd : (data.size : Int) ≤ 65535)
    (u1 : 0 ≤ fh ∧ fh ≤ 18446744073709551615) (u2 : 0 ≤ flo ∧ flo ≤ 18446744073709551615) (u3 : 0 ≤ th ∧ th ≤ 18446744073709551615) (u4 : 0 ≤ tlo ∧ tlo ≤ 18446744073709551615) :
    takeR s = (cl, fl, nx, hp, true, fh, flo, true, th, tlo, data, 0) ∧ bt s 0 / 16 = 6 ∧ at_ (bytesOf s) 4 2 = (data.size : Int) ∧ s.size = 40 + data.size + B.length := by
  obtain ⟨h1, h2, h3, h4, _, _⟩ := hm
  have hsz : s.size = 40 + data.size + B.length := by rw [← bytesOf_length, h, List.length_append, of_length]
  have hft := first_top s (by omega)
  have ef := first_eq h1 h4
  have hL : bytesOf s = be (ip6_Lay.first cl fl) 4 ++ (be (data.size : Int) 2 ++ (be nx 1 ++ (be hp 1 ++ (be fh 8 ++ (be flo 8 ++ (be th 8 ++ (be tlo 8 ++ (bytesOf data ++ B)))))))) := by
    rw [h, be_one h2, be_one h3]
    unfold ip6_Lay.of ip6_Lay.head ip6_Lay.ends
    simp
  have a0 : at_ (bytesOf s) 0 4 = ip6_Lay.first cl fl := by
    rw [hL]
    have := at_app (p := []) (q := be (data.size : Int) 2 ++ (be nx 1 ++ (be hp 1 ++ (be fh 8 ++ (be flo 8 ++ (be th 8 ++ (be tlo 8 ++ (bytesOf data ++ B)))))))) (i := 0) (ip6_Lay.first cl fl) 4 rfl
    rw [List.nil_append] at this
    rw [this, ef]; omega
  have a4 : at_ (bytesOf s) 4 2 = (data.size : Int) := by
    rw [hL, at_app (data.size : Int) 2 (be_length _ _)]; omega
  have a6 : at_ (bytesOf s) 6 1 = nx := by
    rw [hL, ← List.append_assoc, at_app nx 1 (by simp [be_length])]; omega
  have a7 : at_ (bytesOf s) 7 1 = hp := by
    rw [hL, ← List.append_assoc, ← List.append_assoc, at_app hp 1 (by simp [be_length])]; omega
  have a8 : at_ (bytesOf s) 8 8 = fh := by
    rw [hL, ← List.append_assoc, ← List.append_assoc, ← List.append_assoc, at_app fh 8 (by simp [be_length])]; omega
  have a16 : at_ (bytesOf s) 16 8 = flo := by
    rw [hL, ← List.append_assoc, ← List.append_assoc, ← List.append_assoc, ← List.append_assoc, at_app flo 8 (by simp [be_length])]; omega
  have a24 : at_ (bytesOf s) 24 8 = th := by
    rw [hL, ← List.append_assoc, ← List.append_assoc, ← List.append_assoc, ← List.append_assoc, ← List.append_assoc, at_app th 8 (by simp [be_length])]; omega
  have a32 : at_ (bytesOf s) 32 8 = tlo := by
    rw [hL, ← List.append_assoc, ← List.append_assoc, ← List.append_assoc, ← List.append_assoc, ← List.append_assoc, ← List.append_assoc, at_app tlo 8 (by simp [be_length])]; omega
  have a40 : s.extract 40 (40 + (data.size : Int)).toNat = data := by
    apply MBytes.inj
    rw [MBytes.extract, h, List.drop_append_of_le_length (by rw [of_length]; omega)]
    have e : (ip6_Lay.of cl fl nx hp fh flo th tlo data).drop 40 = bytesOf data := by
      unfold ip6_Lay.of
      exact List.drop_left' (by unfold ip6_Lay.head ip6_Lay.ends; simp [be_length])
    rw [e]
    exact List.take_left' (by rw [bytesOf_length]; omega)
  have h6 : bt s 0 / 16 = 6 := by rw [← hft, a0, ef]; omega
  refine ⟨?_, h6, a4, hsz⟩
  unfold takeR
  rw [if_neg (by omega), if_neg (by omega), a4, if_neg (by omega), a0, a6, a7, a8, a16, a24, a32, a40, ef]
  rw [show (1610612736 + cl * 1048576 + fl) / 1048576 % 256 = cl by omega, show (1610612736 + cl * 1048576 + fl) % 1048576 = fl by omega]
/-- What is cut short is none. -/
theorem take_cut {s : ByteArray} {n : Int} (h6 : bt s 0 / 16 = 6) (hn : at_ (bytesOf s) 4 2 = n) (hs : (s.size : Int) = 40 + n) {c : Nat} (hc : c < s.size) : (takeR (s.extract 0 c)).2.2.2.2.2.2.2.2.2.2.2 = 61 := by
  have hx : bytesOf (s.extract 0 c) = (bytesOf s).take c := by rw [MBytes.extract]; simp
  have hz : (s.extract 0 c).size = c := by rw [← bytesOf_length, hx, List.length_take, bytesOf_length]; omega
  unfold takeR
  by_cases h40 : ((s.extract 0 c).size : Int) < 40
  · rw [if_pos h40]; rfl
  have hb0 : bt (s.extract 0 c) 0 = bt s 0 := by
    rw [← rd_bytesOf, ← rd_bytesOf, hx]
    simp only [rd]
    rw [List.getD_eq_getElem?_getD, List.getD_eq_getElem?_getD, List.getElem?_take, if_pos (by simp; omega)]
  have h4 : at_ (bytesOf (s.extract 0 c)) 4 2 = n := by
    rw [hx, ← hn]
    unfold at_
    rw [List.drop_take, List.take_take, Nat.min_eq_left (by omega)]
  rw [if_neg h40, hb0, if_neg (by omega), h4, if_pos (by omega)]
  rfl
theorem back_j0 (B : ByteArray) (hB : B.size ≤ 5000) (cut : Int) (hcut : -9223372036854775808 ≤ cut ∧ cut ≤ 9223372036854775807) (cl fl nx hp : Int) (s1 : Bool) {fh flo : Int} (s2 : Bool) {th tlo : Int} (data : ByteArray)
    (u1 : 0 ≤ fh ∧ fh ≤ 18446744073709551615) (u2 : 0 ≤ flo ∧ flo ≤ 18446744073709551615) (u3 : 0 ≤ th ∧ th ≤ 18446744073709551615) (u4 : 0 ≤ tlo ∧ tlo ≤ 18446744073709551615) :
    Ev (fun k => crosswaylaw07_SixBack.j0 k B cut true cl fl nx hp s1 fh flo s2 th tlo data) true := by
  refine Ev.step (fun k => by simp only [crosswaylaw07_SixBack.j0]; rfl) ?_
  refine ev_bind (lay_eq ..) ?_
  by_cases hm : may cl fl nx hp s1 s2
  case neg =>
    have el : layR cl fl nx hp s1 fh flo s2 th tlo data = (⟨#[]⟩, 60) := by unfold layR; rw [if_neg hm]
    rw [el]
    exact ev_neg (by decide) (ev_pos (by first | trivial | rfl | simp) (ev_eq fun _ => by simp))
  by_cases hl : 65535 < (data.size : Int)
  · have el : layR cl fl nx hp s1 fh flo s2 th tlo data = (⟨#[]⟩, 62) := by unfold layR; rw [if_pos hm, if_pos hl]
    rw [el]
    exact ev_neg (by decide) (ev_pos (by first | trivial | rfl | simp) (ev_eq fun _ => by simp))
  have el : layR cl fl nx hp s1 fh flo s2 th tlo data = (strOfNums (ip6_Lay.of cl fl nx hp fh flo th tlo data), 0) := by unfold layR; rw [if_pos hm, if_neg hl]
  rw [el]
  obtain ⟨h1, h2, h3, h4, rfl, rfl⟩ := hm
  have hm : may cl fl nx hp true true := ⟨h1, h2, h3, h4, rfl, rfl⟩
  obtain ⟨s, hs⟩ : ∃ s, strOfNums (ip6_Lay.of cl fl nx hp fh flo th tlo data) = s := ⟨_, rfl⟩
  have hbs : bytesOf s = ip6_Lay.of cl fl nx hp fh flo th tlo data := by rw [← hs]; exact MBytes.ofNums (of_bytes _ _ _ _ _ _ _ _ _ h2 h3)
  simp only [hs]
  obtain ⟨t1, t2, t3, t4⟩ := take_of (s := s) (B := []) (by rw [List.append_nil]; exact hbs) hm (by omega) u1 u2 u3 u4
  obtain ⟨t5, -, -, t6⟩ := take_of (s := s ++ B) (B := bytesOf B) (by rw [MBytes.append, hbs]) hm (by omega) u1 u2 u3 u4
  rw [List.length_nil] at t4
  rw [bytesOf_length] at t6
  refine ev_pos (by first | trivial | rfl | simp) (ev_pos (by omega) (Ev.bind (take_ev (s ++ B) (by omega)) ?_))
  rw [t5]
  have fin : ∀ c : Int, 0 ≤ c → c < (s.size : Int) → Ev (fun k => if 0 ≤ c then (if c ≤ (s.size : Int) then ((ip6_Take.f k (s.extract 0 c.toNat)).bind fun bt316 => (if true = true then (if (0 : Int) = 0 then (if (cl == cl && (fl == fl && (nx == nx && (hp == hp && ((true == true && (fh == fh && (flo == flo))) && ((true == true && (th == th && (tlo == tlo))) && (data.toList == data.toList))))))) = true then (some (bt316.2.2.2.2.2.2.2.2.2.2.2 == 61)) else (some false)) else (some false)) else (some false))) else (none)) else (none)) true := by
    intro c c0 c1
    have hk := take_cut (s := s) t2 t3 (by omega) (c := c.toNat) (by omega)
    refine ev_pos c0 (ev_pos (by omega) (Ev.bind (take_ev _ ?_) (ev_pos (by first | trivial | rfl | simp) (ev_pos (by first | trivial | rfl | simp) (ev_pos (by simp) (ev_eq fun _ => ?_))))))
    · have : (s.extract 0 c.toNat).size ≤ s.size := by rw [← bytesOf_length, MBytes.extract]; simp [bytesOf_length]; omega
      omega
    · rw [hk]; rfl
  by_cases hneg : cut < 0
  · have e : wrap64 (-(wrap64 (cut + 1))) = -(cut + 1) := by rw [w64 (n := cut + 1) (by omega) (by omega)]; exact w64 (by omega) (by omega)
    refine ev_pos hneg (ev_neg (by omega) ?_)
    rw [e, Int.tmod_eq_emod_of_nonneg (by omega)]
    exact fin _ (Int.emod_nonneg _ (by omega)) (Int.emod_lt_of_pos _ (by omega))
  · refine ev_neg hneg (ev_neg (by omega) ?_)
    rw [Int.tmod_eq_emod_of_nonneg (by omega)]
    exact fin _ (Int.emod_nonneg _ (by omega)) (Int.emod_lt_of_pos _ (by omega))
theorem SixBack (cl fl nx hp : Int) (s1 : Bool) (fh flo : Int) (s2 : Bool) (th tlo : Int) (data : ByteArray) (B : ByteArray) (cut : Int) (_ : (Lit.int .i64 cl).wf = true) (_ : (Lit.int .i64 fl).wf = true) (_ : (Lit.int .i64 nx).wf = true) (_ : (Lit.int .i64 hp).wf = true)
    (w1 : (Lit.int .u64 fh).wf = true) (w2 : (Lit.int .u64 flo).wf = true) (w3 : (Lit.int .u64 th).wf = true) (w4 : (Lit.int .u64 tlo).wf = true) (hs : data.size ≤ 140737488351232) (hB : B.size ≤ 140737488351232) (wc : (Lit.int .i64 cut).wf = true) :
    ∃ k, crosswaylaw07_SixBack.f k cl fl nx hp s1 fh flo s2 th tlo data B cut = some true := by
  have hc := i64_of_wf wc
  refine Ev.rounds (r := true) ?_
  unfold crosswaylaw07_SixBack.f
  refine Ev.bind awake_ev (ev_pos (by first | trivial | rfl | simp) ?_)
  by_cases hb : (B.size : Int) > 5000
  · refine ev_pos hb (ev_pos (by omega) (ev_pos (by omega) ?_))
    exact back_j0 _ (by rw [← bytesOf_length, MBytes.extract]; simp; omega) cut hc cl fl nx hp s1 s2 data (u64_of_wf w1) (u64_of_wf w2) (u64_of_wf w3) (u64_of_wf w4)
  · exact ev_neg hb (back_j0 _ (by omega) cut hc cl fl nx hp s1 s2 data (u64_of_wf w1) (u64_of_wf w2) (u64_of_wf w3) (u64_of_wf w4))
end Go.Proofs.Ytfkdmdacicahcaa.Pure
