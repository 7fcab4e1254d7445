/-
  The law ExcuseBehind: what stands behind a packet changes nothing of what is told of it. No program in sight but its Lean functions. Conditions: those of each theorem.
-/
import Derived.Test.YtaoopneiglgnkaaDoorPBasex32
import Derived.Test.YtaoopneiglgnkaaDoorPureExcuse
set_option linter.unusedVariables false
set_option linter.unusedSectionVars false
set_option linter.unusedSimpArgs false
namespace Go.Proofs.YtaoopneiglgnkaaDoor.Pure
open Go.RowKit Go.Proofs.YtaoopneiglgnkaaDoor.PBase Go.Proofs.YtaoopneiglgnkaaDoorW.PrintWords Go.Proofs.YtaoopneiglgnkaaDoorW.PrintLast Go.Proofs.YtaoopneiglgnkaaDoorW.PrintMore Go.Proofs.YtaoopneiglgnkaaDoor.MTally Go.Proofs.YtaoopneiglgnkaaDoor.MBe
theorem app_bt {s B : ByteArray} {i : Nat} (h : i < s.size) : bt (s ++ B) (i : Int) = bt s (i : Int) := by
  have hl : i < (bytesOf s).length := by rw [bytesOf_length]; exact h
  rw [← rd_bytesOf, ← rd_bytesOf, MBytes.append, rd_at (by rw [List.length_append]; omega), rd_at hl, List.getElem_append_left hl]
theorem app_take {s B : ByteArray} {n : Nat} (h : n ≤ s.size) : (bytesOf (s ++ B)).take n = (bytesOf s).take n := by
  rw [MBytes.append, List.take_append_of_le_length (by rw [bytesOf_length]; exact h)]
theorem app_drop {s B : ByteArray} {i w : Nat} (h : i + w ≤ s.size) : ((bytesOf (s ++ B)).drop i).take w = ((bytesOf s).drop i).take w := by
  rw [MBytes.append, List.drop_append_of_le_length (by rw [bytesOf_length]; omega), List.take_append_of_le_length (by rw [List.length_drop, bytesOf_length]; omega)]
theorem app_at6 {s B : ByteArray} {i w : Nat} (h : i + w ≤ s.size) : Pure6.at_ (bytesOf (s ++ B)) i w = Pure6.at_ (bytesOf s) i w := by
  unfold Pure6.at_; rw [app_drop h]
theorem app_at4 {s B : ByteArray} {i w : Nat} (h : i + w ≤ s.size) : Pure4.at_ (bytesOf (s ++ B)) i w = Pure4.at_ (bytesOf s) i w := by
  unfold Pure4.at_; rw [app_drop h]
theorem app_extract {s B : ByteArray} {i j : Nat} (h : j ≤ s.size) : (s ++ B).extract i j = s.extract i j := by
  apply MBytes.inj
  rw [MBytes.extract, MBytes.extract]
  by_cases hi : i ≤ j
  · exact app_drop (by omega)
  · rw [show j - i = 0 by omega, List.take_zero, List.take_zero]
theorem app_six {s B : ByteArray} (h : 0 < s.size) : sixB (s ++ B) = sixB s := by
  unfold sixB
  have e : bt (s ++ B) 0 = bt s 0 := app_bt (i := 0) h
  rw [if_neg (by rw [ByteArray.size_append]; omega), if_neg (by omega), e]
theorem app_take6 {s B : ByteArray} (h : (Pure6.takeR s).2.2.2.2.2.2.2.2.2.2.2 = 0) : Pure6.takeR (s ++ B) = Pure6.takeR s := by
  obtain ⟨h1, h2, h3, e⟩ := Pure6.take_ok h
  have r := Pure6.at_range (MBytes.range s) 4 2
  rw [show (256 : Int) ^ 2 = 65536 by decide] at r
  have b0 : bt (s ++ B) 0 = bt s 0 := app_bt (i := 0) (by omega)
  have a4 : Pure6.at_ (bytesOf (s ++ B)) 4 2 = Pure6.at_ (bytesOf s) 4 2 := app_at6 (by omega)
  have hz : (s ++ B).size = s.size + B.size := ByteArray.size_append
  rw [e]
  unfold Pure6.takeR
  rw [if_neg (by omega), b0, if_neg (by omega), a4, if_neg (by omega), app_at6 (i := 0) (w := 4) (by omega), app_at6 (i := 6) (w := 1) (by omega), app_at6 (i := 7) (w := 1) (by omega), app_at6 (i := 8) (w := 8) (by omega), app_at6 (i := 16) (w := 8) (by omega), app_at6 (i := 24) (w := 8) (by omega), app_at6 (i := 32) (w := 8) (by omega), app_extract (by omega)]
theorem app_take4 {s B : ByteArray} (h : (Pure4.takeR s).2.2.2.2.2.2.2.2.2.2.2.2.2.2.2 = 0) : Pure4.takeR (s ++ B) = Pure4.takeR s := by
  rcases Pure4.take_cases s with q | ⟨e, hh, ho⟩
  · exact absurd h q
  obtain ⟨h1, h2, h3, h4, h5, h6, h7, h8, eh⟩ := Pure4.heads_ok hh
  have b0 : bt (s ++ B) 0 = bt s 0 := app_bt (i := 0) (by omega)
  have b6 : bt (s ++ B) 6 = bt s 6 := app_bt (i := 6) (by omega)
  have ehd : ip4_heads.hd (s ++ B) = ip4_heads.hd s := by unfold ip4_heads.hd; rw [b0]
  have a2 : Pure4.at_ (bytesOf (s ++ B)) 2 2 = Pure4.at_ (bytesOf s) 2 2 := app_at4 (by omega)
  have hz : (s ++ B).size = s.size + B.size := ByteArray.size_append
  have hr : Pure4.headsR (s ++ B) = Pure4.headsR s := by
    rw [eh]
    unfold Pure4.headsR Pure4.headsT
    rw [if_neg (by omega), ehd, b0, if_neg (by omega), if_neg (by omega), app_take (by omega), a2, b6, if_neg (by omega), if_neg (by omega), if_neg (by omega)]
  have hx : (s ++ B).extract 20 (ip4_heads.hd s).toNat = s.extract 20 (ip4_heads.hd s).toNat := app_extract (by omega)
  rw [e]
  unfold Pure4.takeR
  rw [hr, if_neg (by simpa using hh), ehd, hx, if_neg (by simpa using ho)]
  unfold Pure4.pkt
  rw [ehd, hx, a2, app_at4 (i := 1) (w := 1) (by omega), app_at4 (i := 4) (w := 2) (by omega), app_at4 (i := 6) (w := 2) (by omega), app_at4 (i := 8) (w := 1) (by omega), app_at4 (i := 9) (w := 1) (by omega), app_at4 (i := 12) (w := 4) (by omega), app_at4 (i := 16) (w := 4) (by omega), app_extract (j := (Pure4.at_ (bytesOf s) 2 2).toNat) (by omega)]
theorem app_all {s B : ByteArray} (hm : mayR s = true) : mayR (s ++ B) = true ∧ sixB (s ++ B) = sixB s ∧ quoteR (s ++ B) = quoteR s := by
  unfold mayR at hm ⊢
  unfold quoteR
  cases h6 : sixB s with
  | true =>
    rw [h6, if_pos rfl] at hm
    have h0 : (Pure6.takeR s).2.2.2.2.2.2.2.2.2.2.2 = 0 := by
      refine Decidable.byContradiction fun q => ?_
      unfold maySixT at hm
      simp [q] at hm
    obtain ⟨g1, g2, g3, e⟩ := Pure6.take_ok h0
    have hz := Pure6.data_size g1 g3
    have es : sixB (s ++ B) = true := by rw [app_six (by omega), h6]
    have et := app_take6 (B := B) h0
    have hd : (Pure6.takeR s).2.2.2.2.2.2.2.2.2.2.1.size + 40 ≤ s.size := by rw [e]; simp only; omega
    rw [es, et, if_pos rfl, if_pos rfl, if_pos rfl, app_extract (by omega)]
    exact ⟨hm, rfl, rfl⟩
  | false =>
    rw [h6, if_neg (by decide)] at hm
    have h0 : (Pure4.takeR s).2.2.2.2.2.2.2.2.2.2.2.2.2.2.2 = 0 := by
      refine Decidable.byContradiction fun q => ?_
      unfold mayFourT at hm
      simp [q] at hm
    have hz := (Pure4.take_sizes h0).1
    have es : sixB (s ++ B) = false := by rw [app_six (by omega), h6]
    have et := app_take4 (B := B) h0
    rw [es, et, if_neg (by decide), if_neg (by decide), if_neg (by decide), app_extract (by omega)]
    exact ⟨hm, rfl, rfl⟩
theorem of_app {why : Int} {s B : ByteArray} {b : Bool} {h l rest : Int} (e : (ofR why s b h l rest).2 = 0) : ofR why (s ++ B) b h l rest = ofR why s b h l rest := by
  cases hm : mayR s with
  | false =>
    unfold ofR at e
    rw [hm] at e
    split at e
    · cases e
    · rw [if_pos rfl] at e; cases e
  | true =>
    obtain ⟨h1, h2, h3⟩ := app_all (B := B) hm
    unfold ofR
    rw [h1, h2, h3, hm]
theorem awake_ev : Ev (fun k => crosswaylaw20_awake.f k) true := Ev.of (fun k => crosswaylaw20_awake.mono k) (k := 100) (by decide +kernel)
theorem behind_j (why : Int) (s : ByteArray) (b : Bool) (h l rest : Int) (B : ByteArray) (hs : s.size ≤ 140737488351232) (hB : B.size ≤ 5000) (uh : U h) (ul : U l) : Ev (fun k => crosswaylaw20_ExcuseBehind.j0 k why s rest B true b h l) true := by
  refine Ev.step (fun k => by simp only [crosswaylaw20_ExcuseBehind.j0]; rfl) ?_
  refine Ev.bind (of_ev (by omega) uh ul) ?_
  by_cases e : (ofR why s b h l rest).2 = 0
  · refine ev_pos e (ev_pos (by omega) (Ev.bind (of_ev (s := s ++ B) (by rw [ByteArray.size_append]; omega) uh ul) ?_))
    rw [of_app e]
    exact ev_pos (by first | exact True.intro | exact rfl) (ev_pos e (ev_eq fun _ => by simp))
  · exact ev_neg e (ev_eq fun _ => rfl)
theorem ExcuseBehind (why : Int) (s : ByteArray) (b : Bool) (h l rest : Int) (B : ByteArray) (_ : (Lit.int .i64 why).wf = true) (hs : s.size ≤ 140737488351232) (w2 : (Lit.int .u64 h).wf = true) (w3 : (Lit.int .u64 l).wf = true) (_ : (Lit.int .i64 rest).wf = true) (hB : B.size ≤ 140737488351232) :
    ∃ k, crosswaylaw20_ExcuseBehind.f k why s b h l rest B = some true := by
  refine Ev.rounds (r := true) ?_
  unfold crosswaylaw20_ExcuseBehind.f
  refine Ev.bind awake_ev ?_
  by_cases c : (B.size : Int) > 5000
  · exact ev_pos c (ev_pos (by decide) (ev_pos (by omega) (behind_j why s b h l rest _ (by omega) (by rw [ByteArray.size_extract]; omega) (u64_of_wf w2) (u64_of_wf w3))))
  · exact ev_neg c (behind_j why s b h l rest B (by omega) (by omega) (u64_of_wf w2) (u64_of_wf w3))
end Go.Proofs.YtaoopneiglgnkaaDoor.Pure
