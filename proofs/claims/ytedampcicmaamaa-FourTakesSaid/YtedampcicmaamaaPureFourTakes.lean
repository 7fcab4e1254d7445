/-
  The pure law FourTakes: whatever the bytes are, the program takes up and passes on what the document's functions do. No program in sight but its Lean functions. Conditions: those of each theorem.
-/
import Derived.Test.YtedampcicmaamaaPBasex15
import Derived.Test.YtedampcicmaamaaPureFourHop
import Derived.Test.YtedampcicmaamaaPureFourLay
set_option linter.unusedVariables false
set_option linter.unusedSectionVars false
set_option linter.unusedSimpArgs false
namespace Go.Proofs.Ytedampcicmaamaa.Pure
open Go.RowKit Go.Proofs.Ytedampcicmaamaa.PBase Go.Proofs.YtedampcicmaamaaW.PrintWords Go.Proofs.YtedampcicmaamaaW.PrintLast Go.Proofs.YtedampcicmaamaaW.PrintMore Go.Proofs.Ytedampcicmaamaa.MTally Go.Proofs.Ytedampcicmaamaa.MBe
/-! The reference's Get. -/
theorem rget_l0 {l : List Int} (hb : Bytes l) (hl : l.length ≤ 140737488355200) {a w : Nat} (hw : w ≤ 8) (hf : a + w ≤ l.length) : ∀ d i : Nat, w = i + d →
    Ev (fun k => crosswayref01_Get.l0 k l (a : Int) (w : Int) (num ((l.drop a).take i)) (((a + i : Nat) : Int))) (num ((l.drop a).take w), true) := by
  intro d
  induction d with
  | zero =>
    intro i he
    have e : i = w := by omega
    subst e
    refine Ev.step (f := fun _ => _) (fun k => ?_) (Ev.now _)
    simp only [crosswayref01_Get.l0]; rw [w64 (n := (a : Int) + (i : Int)) (by omega) (by omega), if_neg (by omega)]
  | succ d ih =>
    intro i he
    have hlt : a + i < l.length := by omega
    have hbt := byte_at hb hlt
    have hn := num_lt (l := (l.drop a).take i) ((hb.drop _).take _) (by rw [List.length_take]; omega)
    refine Ev.step (f := fun k => crosswayref01_Get.l0 k l (a : Int) (w : Int) (num ((l.drop a).take (i + 1))) ((a + (i + 1) : Nat) : Int)) (fun k => ?_) (ih (i + 1) (by omega))
    simp only [crosswayref01_Get.l0]
    rw [w64 (n := (a : Int) + (w : Int)) (by omega) (by omega), if_pos (by omega), if_pos (by omega), if_pos (by omega), w64 (n := ((a + i : Nat) : Int) + 1) (by omega) (by omega)]
    rw [rd_at hlt, wu64 (n := _ * 256) (by omega) (by omega), wu64 (n := l[a + i]) (by omega) (by omega), wu64 (by omega) (by omega), take_snoc hlt, num_snoc]; rfl
theorem rget_ev {l : List Int} (hb : Bytes l) (hl : l.length ≤ 140737488355200) {a w : Int} (ha : -9223372036854775808 ≤ a ∧ a ≤ 9223372036854775807) (hw : -9223372036854775808 ≤ w ∧ w ≤ 9223372036854775807) :
    Ev (fun k => crosswayref01_Get.f k l a w) (get l a w) := by
  have none_ : ∀ k x0 x1 x2, crosswayref01_Get.j0 (k + 1) x0 x1 x2 true = some (0, false) := fun k x0 x1 x2 => by simp only [crosswayref01_Get.j0]; rw [if_pos trivial]
  have bad : ∀ {a' w' : Int}, Ev (fun k => crosswayref01_Get.j0 k l a' w' true) (0, false) := Ev.step (f := fun _ => _) (fun k => none_ k _ _ _) (Ev.now _)
  unfold crosswayref01_Get.f get
  by_cases h1 : w < 0
  · rw [if_neg (by unfold fits; omega)]; exact ev_pos h1 bad
  refine ev_neg h1 ?_
  by_cases h2 : w > 8
  · rw [if_neg (by unfold fits; omega)]; exact ev_pos h2 bad
  refine ev_neg h2 ?_
  by_cases h3 : a < 0
  · rw [if_neg (by unfold fits; omega)]; exact ev_pos h3 bad
  refine ev_neg h3 ?_
  by_cases h4 : a > (l.length : Int)
  · rw [if_neg (by unfold fits; omega)]; exact ev_pos h4 bad
  refine ev_neg h4 ?_
  rw [w64 (n := (l.length : Int) - a) (by omega) (by omega)]
  by_cases h5 : w > (l.length : Int) - a
  · rw [if_neg (by unfold fits; omega), decide_eq_true h5]; exact bad
  rw [if_pos (by unfold fits; omega), decide_eq_false h5]
  obtain ⟨an, rfl⟩ := Int.eq_ofNat_of_zero_le (show 0 ≤ a by omega)
  obtain ⟨wn, rfl⟩ := Int.eq_ofNat_of_zero_le (show 0 ≤ w by omega)
  have h := rget_l0 hb hl (a := an) (w := wn) (by omega) (by omega) wn 0 (by omega)
  refine Ev.step (f := fun k => crosswayref01_Get.l0 k l (an : Int) (wn : Int) 0 (an : Int)) (fun k => ?_) ?_
  · simp only [crosswayref01_Get.j0]; rw [if_neg (by decide)]
  · exact h
theorem rnum_ev {s : ByteArray} (hs : s.size ≤ 140737488355200) (i w : Nat) (hw : w ≤ 4) (h : i + w ≤ s.size) : Ev (fun k => crosswayref06_num.f k s (i : Int) (w : Int)) (at_ (bytesOf s) i w) := by
  unfold crosswayref06_num.f
  have hl := bytesOf_length s
  have h1 := rget_ev (l := bytesOf s) (a := (i : Int)) (w := (w : Int)) (MBytes.range s) (by omega) (by omega) (by omega)
  have e : get (bytesOf s) (i : Int) (w : Int) = (at_ (bytesOf s) i w, true) := by
    unfold get
    rw [if_pos (by unfold fits; omega)]
    rfl
  rw [e] at h1
  have r := at_range (MBytes.range s) i w
  have p : (256 : Int) ^ w ≤ 256 ^ 4 := by
    obtain ⟨d, hd⟩ : ∃ d, 4 = w + d := ⟨4 - w, by omega⟩
    rw [hd, Int.pow_add]
    have h1 := pow_pos w
    have h2 := pow_pos d
    have : (256 : Int) ^ w * 1 ≤ 256 ^ w * 256 ^ d := Int.mul_le_mul_of_nonneg_left (by omega) (by omega)
    omega
  refine ev_pos (by omega) (Ev.bind h1 (ev_eq fun _ => ?_))
  rw [show (256 : Int) ^ 4 = 4294967296 by decide] at p
  simp only
  rw [w64 (by omega) (by omega)]
theorem no_eq (e : Int) : crosswayref06_Take.no e = ip4_Take.no e := rfl
theorem rtake_rest {s : ByteArray} (hs : s.size ≤ 140737488351232) (h : (headsR s).2.2 = 0) :
    Ev (fun k => crosswayref06_Take.rest k s (ip4_heads.hd s) (at_ (bytesOf s) 2 2) (at_ (bytesOf s) 6 2)) (takeR s) := by
  obtain ⟨h1, h2, h3, h4, h5, h6, h7, h8, e⟩ := heads_ok h
  have N := fun i w a b => rnum_ev (s := s) (by omega) i w a b
  have hz := opt_size (s := s)
  have ho := off_lt h1 h7
  have hb := MBytes.range s
  have r12 := at_range hb 12 4; have r16 := at_range hb 16 4
  rw [show (256 : Int) ^ 4 = 4294967296 by decide] at r12 r16
  unfold crosswayref06_Take.rest takeR
  rw [if_neg (by rw [h]; simp)]
  generalize hO : optsR (s.extract 20 (ip4_heads.hd s).toNat) = o
  have hR := ropts_ev (s.extract 20 (ip4_heads.hd s).toNat) (by omega)
  rw [hO] at hR
  refine Ev.bind (N 1 1 (by decide) (by omega)) (Ev.bind (N 4 2 (by decide) (by omega)) (Ev.bind (N 8 1 (by decide) (by omega)) (Ev.bind (N 9 1 (by decide) (by omega)) (Ev.bind (N 12 4 (by decide) (by omega)) (Ev.bind (N 16 4 (by decide) (by omega)) (Ev.bind hR ?_))))))
  refine ev_neg (fun q => q ⟨by omega, by omega, by omega, by omega, by omega, by omega⟩) ?_
  by_cases c1 : ¬ o.2 = 0
  · rw [if_pos c1, if_pos c1]; exact ev_eq fun _ => by rw [no_eq]
  · rw [if_neg c1, if_neg c1]; exact ev_eq fun _ => rfl
theorem rtake_ev (s : ByteArray) (hs : s.size ≤ 140737488351232) : Ev (fun k => crosswayref06_Take.f k s) (takeR s) := by
  have N := fun i w a b => rnum_ev (s := s) (by omega) i w a b
  unfold crosswayref06_Take.f
  by_cases c1 : (s.size : Int) < 20
  · have e : headsR s = (0, 0, 51) := by unfold headsR; rw [if_pos c1]
    unfold takeR
    rw [e, if_pos (by simp)]
    exact ev_pos c1 (ev_eq fun _ => rfl)
  refine ev_neg c1 ?_
  have n0 := N 0 1 (by decide) (by omega)
  rw [one_bt (s := s) (i := 0) (by omega), show bt s ((0 : Nat) : Int) = bt s 0 from rfl] at n0
  refine Ev.bind n0 ?_
  have hd : 4 * (bt s 0 - 64) = ip4_heads.hd s := rfl
  by_cases c2 : ip4_heads.hd s < 20 ∨ bt s 0 > 79
  · have e : headsR s = (0, 0, 50) := by unfold headsR; rw [if_neg c1, if_pos c2]
    unfold takeR
    rw [e, if_pos (by simp)]
    exact ev_pos (by omega) (ev_eq fun _ => rfl)
  refine ev_neg (by omega) ?_
  rw [hd]
  by_cases c3 : (s.size : Int) < ip4_heads.hd s
  · have e : headsR s = (0, 0, 51) := by unfold headsR; rw [if_neg c1, if_neg c2, if_pos c3]
    unfold takeR
    rw [e, if_pos (by simp)]
    exact ev_pos c3 (ev_eq fun _ => rfl)
  refine ev_neg c3 ?_
  have hx : bytesOf (s.extract 0 (ip4_heads.hd s).toNat) = (bytesOf s).take (ip4_heads.hd s).toNat := by rw [MBytes.extract]; simp
  have hb : Bytes ((bytesOf s).take (ip4_heads.hd s).toNat) := Bytes.take (MBytes.range s) _
  have hl : ((bytesOf s).take (ip4_heads.hd s).toNat).length ≤ 1000 := by
    rw [List.length_take]; omega
  rw [hx]
  refine Ev.bind (PureT.rsum_ev _ hb (by omega)) ?_
  by_cases c4 : ¬ S ((bytesOf s).take (ip4_heads.hd s).toNat) = 65535
  · have e : headsR s = (0, 0, 52) := by unfold headsR headsT; rw [if_neg c1, if_neg c2, if_neg c3, if_pos c4]
    unfold takeR
    rw [e, if_pos (by simp)]
    exact ev_pos c4 (ev_eq fun _ => rfl)
  refine ev_neg c4 (Ev.bind (N 2 2 (by decide) (by omega)) (Ev.bind (N 6 2 (by decide) (by omega)) ?_))
  have r2 := at_range (MBytes.range s) 2 2
  have r6 := at_range (MBytes.range s) 6 2
  have t6 := two_bt (s := s) (i := 6) (by omega)
  have b6 := bt_range s 6; have b7 := bt_range s 7
  have e6 : bt s ((6 : Nat) : Int) = bt s 6 := rfl
  have e7 : bt s ((6 + 1 : Nat) : Int) = bt s 7 := rfl
  rw [e6, e7] at t6
  refine ev_neg (fun q => q ⟨r2.1, r6.1⟩) ?_
  by_cases c5 : at_ (bytesOf s) 2 2 < ip4_heads.hd s ∨ 128 ≤ bt s 6
  · have e : headsR s = (0, 0, 50) := by unfold headsR headsT; rw [if_neg c1, if_neg c2, if_neg c3, if_neg c4, if_pos c5]
    unfold takeR
    rw [e, if_pos (by simp)]
    exact ev_pos (by omega) (ev_eq fun _ => rfl)
  refine ev_neg (by omega) ?_
  by_cases c6 : (s.size : Int) < at_ (bytesOf s) 2 2
  · have e : headsR s = (0, 0, 51) := by unfold headsR headsT; rw [if_neg c1, if_neg c2, if_neg c3, if_neg c4, if_neg c5, if_pos c6]
    unfold takeR
    rw [e, if_pos (by simp)]
    exact ev_pos c6 (ev_eq fun _ => rfl)
  refine ev_neg c6 ?_
  have e : headsR s = (ip4_heads.hd s, at_ (bytesOf s) 2 2, 0) := by unfold headsR headsT; rw [if_neg c1, if_neg c2, if_neg c3, if_neg c4, if_neg c5, if_neg c6]
  exact rtake_rest hs (by rw [e])
/-- What is taken up is what was laid, and something behind it. -/
theorem take_back {s : ByteArray} (h : (headsR s).2.2 = 0) (ho : (optsR (s.extract 20 (ip4_heads.hd s).toNat)).2 = 0) :
    bytesOf s = pkC (at_ (bytesOf s) 1 1) (at_ (bytesOf s) 4 2) (at_ (bytesOf s) 6 2 / 16384 == 1) (at_ (bytesOf s) 6 2 / 8192 % 2 == 1) (at_ (bytesOf s) 6 2 % 8192) (at_ (bytesOf s) 8 1) (at_ (bytesOf s) 9 1) (at_ (bytesOf s) 12 4) (at_ (bytesOf s) 16 4) (s.extract 20 (ip4_heads.hd s).toNat) (s.extract (ip4_heads.hd s).toNat (at_ (bytesOf s) 2 2).toNat) (at_ (bytesOf s) 10 2) ++ (bytesOf s).drop (at_ (bytesOf s) 2 2).toNat ∧
    mayB (at_ (bytesOf s) 1 1) (at_ (bytesOf s) 4 2) (at_ (bytesOf s) 6 2 % 8192) (at_ (bytesOf s) 8 1) (at_ (bytesOf s) 9 1) false 0 (at_ (bytesOf s) 12 4) false 0 (at_ (bytesOf s) 16 4) (s.extract 20 (ip4_heads.hd s).toNat) = true ∧
    20 + ((s.extract 20 (ip4_heads.hd s).toNat).size : Int) + ((s.extract (ip4_heads.hd s).toNat (at_ (bytesOf s) 2 2).toNat).size : Int) ≤ 65535 ∧
    S (hdC (at_ (bytesOf s) 1 1) (at_ (bytesOf s) 4 2) (at_ (bytesOf s) 6 2 / 16384 == 1) (at_ (bytesOf s) 6 2 / 8192 % 2 == 1) (at_ (bytesOf s) 6 2 % 8192) (at_ (bytesOf s) 8 1) (at_ (bytesOf s) 9 1) (at_ (bytesOf s) 12 4) (at_ (bytesOf s) 16 4) ((s.extract 20 (ip4_heads.hd s).toNat).size : Int) ((s.extract (ip4_heads.hd s).toNat (at_ (bytesOf s) 2 2).toNat).size : Int) (at_ (bytesOf s) 10 2) ++ bytesOf (s.extract 20 (ip4_heads.hd s).toNat)) = 65535 := by
  obtain ⟨h1, h2, h3, h4, h5, h6, h7, h8, _⟩ := heads_ok h
  have hb := MBytes.range s
  have hl := bytesOf_length s
  have hof := off_lt h1 h7
  have b0 := bt_range s 0
  have r1 := at_range hb 1 1; have r2 := at_range hb 2 2; have r4 := at_range hb 4 2; have r8 := at_range hb 8 1; have r9 := at_range hb 9 1; have r12 := at_range hb 12 4; have r16 := at_range hb 16 4
  rw [show (256 : Int) ^ 1 = 256 by decide] at r1 r8 r9
  rw [show (256 : Int) ^ 2 = 65536 by decide] at r2 r4
  rw [show (256 : Int) ^ 4 = 4294967296 by decide] at r12 r16
  have hd : ip4_heads.hd s = 4 * (bt s 0 - 64) := rfl
  obtain ⟨m, hm⟩ : ∃ m : Nat, (ip4_heads.hd s).toNat = m := ⟨_, rfl⟩
  obtain ⟨n, hn⟩ : ∃ n : Nat, (at_ (bytesOf s) 2 2).toNat = n := ⟨_, rfl⟩
  rw [hm] at h5 ho ⊢
  rw [hn]
  have zo : (s.extract 20 m).size = m - 20 := by rw [← bytesOf_length, MBytes.extract, List.length_take, List.length_drop]; omega
  have zd : (s.extract m n).size = n - m := by rw [← bytesOf_length, MBytes.extract, List.length_take, List.length_drop]; omega
  have q0 : be (64 + (20 + ((s.extract 20 m).size : Int)) / 4) 1 = (bytesOf s).take 1 := by
    have e := be_at hb (i := 0) (w := 1) (by omega)
    rw [List.drop_zero] at e
    rw [← e, one_bt (s := s) (i := 0) (by omega), show bt s ((0 : Nat) : Int) = bt s 0 from rfl]
    exact congrArg (fun v => be v 1) (by omega)
  have q2 : be (20 + ((s.extract 20 m).size : Int) + ((s.extract m n).size : Int)) 2 = ((bytesOf s).drop 2).take 2 := by
    rw [← be_at hb (i := 2) (w := 2) (by omega)]
    exact congrArg (fun v => be v 2) (by omega)
  have q6 : be (bitsN (at_ (bytesOf s) 6 2 / 16384 == 1) (at_ (bytesOf s) 6 2 / 8192 % 2 == 1) (at_ (bytesOf s) 6 2 % 8192)) 2 = ((bytesOf s).drop 6).take 2 := by
    rw [← be_at hb (i := 6) (w := 2) (by omega)]
    refine congrArg (fun v => be v 2) ?_
    generalize at_ (bytesOf s) 6 2 = x at hof
    unfold bitsN
    simp only [beq_iff_eq]
    split <;> split <;> omega
  have hh : hdC (at_ (bytesOf s) 1 1) (at_ (bytesOf s) 4 2) (at_ (bytesOf s) 6 2 / 16384 == 1) (at_ (bytesOf s) 6 2 / 8192 % 2 == 1) (at_ (bytesOf s) 6 2 % 8192) (at_ (bytesOf s) 8 1) (at_ (bytesOf s) 9 1) (at_ (bytesOf s) 12 4) (at_ (bytesOf s) 16 4) ((s.extract 20 m).size : Int) ((s.extract m n).size : Int) (at_ (bytesOf s) 10 2) = (bytesOf s).take 20 := by
    unfold hdC
    rw [q0, q2, q6, be_at hb (i := 1) (w := 1) (by omega), be_at hb (i := 4) (w := 2) (by omega), be_at hb (i := 8) (w := 1) (by omega), be_at hb (i := 9) (w := 1) (by omega), be_at hb (i := 10) (w := 2) (by omega), be_at hb (i := 12) (w := 4) (by omega), be_at hb (i := 16) (w := 4) (by omega)]
    rw [← take_add _ 1 1, ← take_add _ 2 2, ← take_add _ 4 2, ← take_add _ 6 2, ← take_add _ 8 1, ← take_add _ 9 1, ← take_add _ 10 2, ← take_add _ 12 4, ← take_add _ 16 4]
  have hho : (bytesOf s).take 20 ++ bytesOf (s.extract 20 m) = (bytesOf s).take m := by
    rw [MBytes.extract, ← take_add, show 20 + (m - 20) = m by omega]
  refine ⟨?_, ?_, by omega, ?_⟩
  · unfold pkC
    rw [hh, hho, MBytes.extract, ← take_add, show m + (n - m) = n by omega, List.take_append_drop]
  · refine mayB_mk ⟨by omega, by omega, by omega, by omega, by omega, ⟨rfl, rfl, r12.2⟩, ⟨rfl, rfl, r16.2⟩, by omega, by omega, ho⟩
  · rw [hh, hho]; exact h5
theorem next_ck {tos id : Int} {df mf : Bool} {off ttl proto src dst : Int} {opts data : ByteArray} {c : Int} (ht : 2 ≤ ttl ∧ ttl ≤ 255) (hp : 0 ≤ proto ∧ proto ≤ 255) (hi : 0 ≤ opts.size ∧ opts.size ≤ 40) (hc : 0 ≤ c ∧ c ≤ 65535) (n0 : 0 ≤ nextC ttl proto c) (n1 : nextC ttl proto c ≤ 65535)
    (h : S (hdC tos id df mf off (ttl - 1) proto src dst opts.size data.size (nextC ttl proto c) ++ bytesOf opts) = 65535) : nextC ttl proto c = ck tos id df mf off (ttl - 1) proto src dst opts data := by
  have c' := ck_range tos id df mf off (ttl - 1) proto src dst opts data
  rw [S_check _ _ _ _ _ _ _ _ _ _ _ _ n0 n1] at h
  have r := oadd_R (S_R (hdA_bytes tos id df mf off (ttl - 1) proto opts.size data.size)) (S_R (hdZ_bytes src dst opts))
  have e : ck tos id df mf off (ttl - 1) proto src dst opts data = 65535 - oadd (S (hdA tos id df mf off (ttl - 1) proto opts.size data.size)) (S (hdZ src dst opts)) := by
    unfold ck
    rw [S_check _ _ _ _ _ _ _ _ _ _ _ _ (by omega) (by omega), oadd_zero r]
  have hne : nextC ttl proto c ≠ 65535 := by
    unfold nextC oadd
    split <;> split <;> omega
  have hA : oadd (S (hdA tos id df mf off (ttl - 1) proto opts.size data.size)) (S (hdZ src dst opts)) ≠ 0 := by
    rw [hdA_S (by omega) hp]
    have y1 := S_R (hdB_bytes tos id df mf off opts.size data.size)
    have y2 := S_R (hdZ_bytes src dst opts)
    have y3 := hdB_S tos id df mf off opts.size data.size (by omega) (by omega)
    unfold R at y1 y2
    unfold oadd
    split <;> split <;> omega
  rw [e]
  generalize oadd (S (hdA tos id df mf off (ttl - 1) proto opts.size data.size)) (S (hdZ src dst opts)) = y at *
  unfold R at r
  unfold oadd at h
  split at h <;> omega
def hopR (s : ByteArray) : ByteArray × Int :=
  if ¬ (takeR s).2.2.2.2.2.2.2.2.2.2.2.2.2.2.2 = 0 then (⟨#[]⟩, (takeR s).2.2.2.2.2.2.2.2.2.2.2.2.2.2.2) else if at_ (bytesOf s) 8 1 < 2 then (⟨#[]⟩, 54) else
  (strOfNums (ofR (at_ (bytesOf s) 1 1) (at_ (bytesOf s) 4 2) (at_ (bytesOf s) 6 2 / 16384 == 1) (at_ (bytesOf s) 6 2 / 8192 % 2 == 1) (at_ (bytesOf s) 6 2 % 8192) (at_ (bytesOf s) 8 1 - 1) (at_ (bytesOf s) 9 1) (at_ (bytesOf s) 12 4) (at_ (bytesOf s) 16 4) (s.extract 20 (ip4_heads.hd s).toNat) (s.extract (ip4_heads.hd s).toNat (at_ (bytesOf s) 2 2).toNat)), 0)
theorem take_cases (s : ByteArray) : (¬ (takeR s).2.2.2.2.2.2.2.2.2.2.2.2.2.2.2 = 0) ∨ (takeR s = pkt s ∧ (headsR s).2.2 = 0 ∧ (optsR (s.extract 20 (ip4_heads.hd s).toNat)).2 = 0) := by
  unfold takeR
  by_cases c0 : ¬ (headsR s).2.2 = 0
  · rw [if_pos c0]; exact .inl c0
  rw [if_neg c0]
  have c0' : (headsR s).2.2 = 0 := by simpa using c0
  rw [(heads_ok c0').2.2.2.2.2.2.2.2]
  dsimp only
  by_cases c1 : ¬ (optsR (s.extract 20 (ip4_heads.hd s).toNat)).2 = 0
  · rw [if_pos c1]; exact .inl c1
  · rw [if_neg c1]; exact .inr ⟨rfl, rfl, by simpa using c1⟩
theorem hop_ev (s : ByteArray) : Ev (fun k => ip4_Hop.f k s) (hopR s) := by
  unfold hopR
  rcases take_cases s with h | ⟨ht, h, ho⟩
  · rw [if_pos h]
    unfold ip4_Hop.f
    exact Ev.bind (take_ev s) (ev_pos h (ev_eq fun _ => rfl))
  have he : (takeR s).2.2.2.2.2.2.2.2.2.2.2.2.2.2.2 = 0 := by rw [ht]; rfl
  rw [if_neg (by rw [he]; simp)]
  by_cases c2 : at_ (bytesOf s) 8 1 < 2
  · rw [if_pos c2]; exact hop_low (s := s) ht c2
  rw [if_neg c2]
  obtain ⟨g1, g2, g3, g4⟩ := take_back h ho
  have hb := MBytes.range s
  have r10 := at_range hb 10 2; have r12 := at_range hb 12 4; have r16 := at_range hb 16 4
  rw [show (256 : Int) ^ 2 = 65536 by decide] at r10
  obtain ⟨a1, a2, a3, a4, a5, a6, a7, a8, a9, a10⟩ := mayB_of g2
  obtain ⟨k1, k2, k3, k4⟩ := hop_stepB g1 g2 g3 r12.1 r16.1 r10.1 (by omega) g4 c2
  have e := next_ck (ttl := at_ (bytesOf s) 8 1) ⟨by omega, a2.2⟩ a3 ⟨by omega, by omega⟩ ⟨r10.1, by omega⟩ k2 k3 k4
  rw [e] at k1
  exact k1
theorem rhop_ev (s : ByteArray) (hs : s.size ≤ 140737488351232) : Ev (fun k => crosswayref06_Hop.f k s) (hopR s) := by
  unfold hopR crosswayref06_Hop.f
  refine Ev.bind (rtake_ev s hs) ?_
  rcases take_cases s with h | ⟨ht, h, ho⟩
  · rw [if_pos h]
    exact ev_pos h (ev_eq fun _ => rfl)
  have he : (takeR s).2.2.2.2.2.2.2.2.2.2.2.2.2.2.2 = 0 := by rw [ht]; rfl
  rw [if_neg (by rw [he]; simp)]
  refine ev_neg (by rw [he]; simp) ?_
  rw [ht]
  unfold pkt
  dsimp only
  by_cases c2 : at_ (bytesOf s) 8 1 < 2
  · rw [if_pos c2]; exact ev_pos c2 (ev_eq fun _ => rfl)
  rw [if_neg c2]
  obtain ⟨g1, g2, g3, g4⟩ := take_back h ho
  have hb := MBytes.range s
  have r12 := at_range hb 12 4; have r16 := at_range hb 16 4
  obtain ⟨a1, a2, a3, a4, a5, a6, a7, a8, a9, a10⟩ := mayB_of g2
  refine ev_neg c2 (ev_neg (by omega) ?_)
  have hl := rlay_ev (at_ (bytesOf s) 1 1) (at_ (bytesOf s) 4 2) (at_ (bytesOf s) 6 2 / 16384 == 1) (at_ (bytesOf s) 6 2 / 8192 % 2 == 1) (at_ (bytesOf s) 6 2 % 8192) (at_ (bytesOf s) 8 1 - 1) (at_ (bytesOf s) 9 1) false 0 (src := at_ (bytesOf s) 12 4) false 0 (dst := at_ (bytesOf s) 16 4) (s.extract 20 (ip4_heads.hd s).toNat) (s.extract (ip4_heads.hd s).toNat (at_ (bytesOf s) 2 2).toNat) (by omega) (by omega) r12.1 r16.1
  unfold layR at hl
  rw [mayB_mk ⟨a1, by omega, a3, a4, a5, a6, a7, a8, a9, a10⟩, if_pos rfl, if_neg (by omega)] at hl
  exact hl
theorem FourTakes (s : ByteArray) (hs : s.size ≤ 140737488351232) : ∃ k, crosswaylaw06_FourTakes.f k s = some true := by
  refine Ev.rounds (r := true) ?_
  unfold crosswaylaw06_FourTakes.f
  refine Ev.bind awake_ev (Ev.bind (take_ev s) (Ev.bind (rtake_ev s hs) (Ev.bind (hop_ev s) (Ev.bind (rhop_ev s hs) ?_))))
  refine ev_pos rfl (ev_pos (by simp) (ev_pos rfl (ev_pos rfl (ev_eq fun _ => by simp))))
end Go.Proofs.Ytedampcicmaamaa.Pure
