/-
  What the reference's Lay of layer 6 comes to. No program in sight but their Lean functions. Conditions: those of each theorem.
-/
import Derived.Test.YtedampcicmaamaaPBasex11
import Derived.Test.YtedampcicmaamaaPureFourL
set_option linter.unusedVariables false
set_option linter.unusedSectionVars false
set_option linter.unusedSimpArgs false
namespace Go.Proofs.Ytedampcicmaamaa.PureT
open Go.RowKit Go.Proofs.Ytedampcicmaamaa.PBase Go.Proofs.YtedampcicmaamaaW.PrintWords Go.Proofs.YtedampcicmaamaaW.PrintLast Go.Proofs.YtedampcicmaamaaW.PrintMore Go.Proofs.Ytedampcicmaamaa.MTally Go.Proofs.Ytedampcicmaamaa.MBe
theorem radd_eq {a b : Int} (ha : R a) (hb : R b) : crosswayref02_Add.f a b = some (oadd a b) := by
  unfold R at ha hb
  unfold crosswayref02_Add.f oadd
  rw [w64 (n := a) (by omega) (by omega), w64 (n := b) (by omega) (by omega), w64 (n := a + b) (by omega) (by omega)]
  by_cases h : a + b > 65535
  · rw [if_pos h, if_pos h, w64 (by omega) (by omega), w16 (by omega) (by omega)]
  · rw [if_neg h, if_neg h, w16 (by omega) (by omega)]
/-! What the reference's Words, Sum and Check come to. -/
theorem words_l0 (b : List Int) (hb : Bytes b) (hl : b.length ≤ 140737488351232) : ∀ (d i : Nat) (acc : List Int), b.length ≤ i + d → i % 2 = 0 → i ≤ b.length + 1 → acc.length = i / 2 → 
    Ev (fun k => crosswayref02_Words.l0 k b acc (i : Int)) (acc ++ words (b.drop i)) := by
  intro d
  induction d using Nat.strongRecOn with
  | _ d ih =>
    intro i acc h hi hb2 ha
    by_cases hlt : i < b.length
    · have hc := byte_at hb hlt
      by_cases h2 : i + 1 < b.length
      · have hc2 := byte_at hb h2
        have ed : b.drop i = b[i] :: b[i + 1] :: b.drop (i + 2) := by
          rw [List.drop_eq_getElem_cons hlt, List.drop_eq_getElem_cons h2]
        rw [ed]
        refine Ev.step (f := fun k => crosswayref02_Words.l0 k b (acc ++ [b[i] * 256 + b[i + 1]]) ((i + 2 : Nat) : Int)) (fun k => ?_) ?_
        · simp only [crosswayref02_Words.l0]
          have e1 : wrap64 ((i : Int) + 1) = ((i + 1 : Nat) : Int) := by rw [w64 (by omega) (by omega)]; omega
          have e2 : wrap64 ((i : Int) + 2) = ((i + 2 : Nat) : Int) := by rw [w64 (by omega) (by omega)]; omega
          rw [if_pos (by omega), if_pos (by omega), e1, e2, if_pos (by omega), if_pos (by omega), if_pos (by omega), rd_at hlt, rd_at h2, w16 (n := b[i]) (by omega) (by omega), w16 (n := b[i + 1]) (by omega) (by omega), w16 (n := b[i] * 256) (by omega) (by omega), w16 (by omega) (by omega)]
        · have := ih (d - 2) (by omega) (i + 2) (acc ++ [b[i] * 256 + b[i + 1]]) (by omega) (by omega) (by omega) (by simp; omega)
          simpa [words] using this
      · have ed : b.drop i = [b[i]] := by
          rw [List.drop_eq_getElem_cons hlt, List.drop_eq_nil_of_le (by omega)]
        rw [ed]
        refine Ev.step (f := fun k => crosswayref02_Words.l0 k b (acc ++ [b[i] * 256]) ((i + 2 : Nat) : Int)) (fun k => ?_) ?_
        · simp only [crosswayref02_Words.l0]
          have e1 : wrap64 ((i : Int) + 1) = ((i + 1 : Nat) : Int) := by rw [w64 (by omega) (by omega)]; omega
          have e2 : wrap64 ((i : Int) + 2) = ((i + 2 : Nat) : Int) := by rw [w64 (by omega) (by omega)]; omega
          rw [if_pos (by omega), if_pos (by omega), e1, e2, if_neg (by omega), if_pos (by omega), rd_at hlt, w16 (n := b[i]) (by omega) (by omega), w16 (by omega) (by omega)]
        · have := ih (d - 1) (by omega) (i + 2) (acc ++ [b[i] * 256]) (by omega) (by omega) (by omega) (by simp; omega)
          rw [List.drop_eq_nil_of_le (by omega)] at this
          simpa [words] using this
    · rw [List.drop_eq_nil_of_le (by omega)]
      refine Ev.step (f := fun _ => some acc) (fun k => ?_) (by simp only [words, List.append_nil]; exact Ev.now _)
      simp only [crosswayref02_Words.l0]; rw [if_neg (by omega)]
theorem words_ev (b : List Int) (hb : Bytes b) (hl : b.length ≤ 140737488351232) : Ev (fun k => crosswayref02_Words.f k b) (words b) := by
  have h := words_l0 b hb hl b.length 0 [] (by omega) (by omega) (by omega) rfl
  rw [List.nil_append, List.drop_zero] at h
  exact h
theorem rsum_l0 (l : List Int) (hb : ∀ x ∈ l, R x) (hl : l.length ≤ 140737488351232) : ∀ (d i : Nat) (n : Int), l.length = i + d → R n →
    Ev (fun k => crosswayref02_Sum.l0 k l n (i : Int)) ((l.drop i).foldl oadd n) := by
  intro d
  induction d with
  | zero =>
    intro i n h hn
    rw [List.drop_eq_nil_of_le (by omega)]
    refine Ev.step (f := fun _ => some n) (fun k => ?_) (Ev.now _)
    simp only [crosswayref02_Sum.l0]; rw [if_neg (by omega)]
  | succ d ih =>
    intro i n h hn
    have hlt : i < l.length := by omega
    have hc := hb _ (List.getElem_mem hlt)
    rw [List.drop_eq_getElem_cons hlt, List.foldl_cons]
    refine Ev.step (f := fun k => crosswayref02_Sum.l0 k l (oadd n l[i]) ((i + 1 : Nat) : Int)) (fun k => ?_) (ih (i + 1) _ (by omega) (oadd_R hn hc))
    simp only [crosswayref02_Sum.l0]
    have e1 : wrap64 ((i : Int) + 1) = ((i + 1 : Nat) : Int) := by rw [w64 (by omega) (by omega)]; omega
    rw [if_pos (by omega), if_pos (by omega), rd_at hlt, radd_eq hn hc, e1]; rfl
theorem rsum_ev (b : List Int) (hb : Bytes b) (hl : b.length ≤ 140737488351232) : Ev (fun k => crosswayref02_Sum.f k b) (S b) := by
  unfold crosswayref02_Sum.f
  refine Ev.bind (words_ev b hb hl) ?_
  have h := rsum_l0 (words b) (words_R hb) (by rw [words_length]; omega) (words b).length 0 0 (by omega) R_zero
  rw [List.drop_zero, fold_words_S hb] at h
  exact h
theorem rcheck_ev {b : List Int} (hb : Bytes b) (hl : b.length ≤ 140737488351232) : Ev (fun k => crosswayref02_Check.f k b) (65535 - S b) := by
  unfold crosswayref02_Check.f
  refine Ev.bind (rsum_ev b hb hl) (ev_eq fun k => ?_)
  have h := S_R hb
  unfold R at h
  rw [w16 (by omega) (by omega)]
end Go.Proofs.Ytedampcicmaamaa.PureT
namespace Go.Proofs.Ytedampcicmaamaa.Pure
open Go.RowKit Go.Proofs.Ytedampcicmaamaa.PBase Go.Proofs.YtedampcicmaamaaW.PrintWords Go.Proofs.YtedampcicmaamaaW.PrintLast Go.Proofs.YtedampcicmaamaaW.PrintMore Go.Proofs.Ytedampcicmaamaa.MTally Go.Proofs.Ytedampcicmaamaa.MBe
/-! The reference's Put. -/
theorem rput_l1 (n0 n : Int) (xs : List Int) (r : List Int) (hn0 : 0 ≤ n0) (hn1 : n0 < 18446744073709551616) (hlen : xs.length < 140737488355328) (w : Nat) (hw : w < 8) : ∀ (d i : Nat), w = i + d →
    Ev (fun k => crosswayref01_Put.l0 k n0 (xs ++ [n0 / 256 ^ w % 256]) ((w : Int) - 1)) r → Ev (fun k => crosswayref01_Put.l1 k n0 xs (w : Int) (n0 / 256 ^ i) (i : Int)) r := by
  intro d
  induction d with
  | zero =>
    intro i he h
    have e : i = w := by omega
    subst e
    refine Ev.step (f := fun k => _) (fun k => ?_) h
    have hq : 0 ≤ n0 / 256 ^ i := Int.ediv_nonneg hn0 (Int.le_of_lt (pow_pos i))
    simp only [crosswayref01_Put.l1]
    rw [if_neg (by omega), if_pos hlen, w64 (n := (i : Int) - 1) (by omega) (by omega), Int.tmod_eq_emod_of_nonneg hq]
    generalize n0 / 256 ^ i = q
    rw [show q % 256 % 256 = q % 256 by omega]
  | succ d ih =>
    intro i he h
    have hq : 0 ≤ n0 / 256 ^ i := Int.ediv_nonneg hn0 (Int.le_of_lt (pow_pos i))
    have hq2 : n0 / 256 ^ i ≤ n0 := Int.ediv_le_self _ hn0
    refine Ev.step (f := fun k => crosswayref01_Put.l1 k n0 xs (w : Int) (n0 / 256 ^ (i + 1)) ((i + 1 : Nat) : Int)) (fun k => ?_) (ih (i + 1) (by omega) h)
    simp only [crosswayref01_Put.l1]
    rw [if_pos (by omega), w64 (n := (i : Int) + 1) (by omega) (by omega), Int.tdiv_eq_ediv_of_nonneg hq, wu64 (n := n0 / 256 ^ i / 256) (by omega) (by omega), div_div]; rfl
theorem rput_l0 (n0 : Int) (hn0 : 0 ≤ n0) (hn1 : n0 < 18446744073709551616) : ∀ (w : Nat) (xs : List Int), w ≤ 8 → xs.length ≤ 140737488355300 + (8 - w) →
    Ev (fun k => crosswayref01_Put.l0 k n0 xs ((w : Int) - 1)) (xs ++ be n0 w) := by
  intro w
  induction w with
  | zero =>
    intro xs h hl
    refine Ev.step (f := fun _ => _) (fun k => ?_) (Ev.now _)
    simp only [crosswayref01_Put.l0]; rw [if_neg (by omega)]; simp [be]
  | succ w ih =>
    intro xs h hl
    refine Ev.step (f := fun k => crosswayref01_Put.l1 k n0 xs (w : Int) (n0 / 256 ^ 0) ((0 : Nat) : Int)) (fun k => ?_) (rput_l1 n0 n0 xs _ hn0 hn1 (by omega) w (by omega) w 0 (by omega) ?_)
    · simp only [crosswayref01_Put.l0]
      rw [if_pos (by omega), Int.pow_zero, Int.ediv_one, show ((w + 1 : Nat) : Int) - 1 = (w : Int) by omega]; rfl
    · have h2 := ih (xs ++ [n0 / 256 ^ w % 256]) (by omega) (by rw [List.length_append]; simp; omega)
      have e : xs ++ be n0 (w + 1) = xs ++ [n0 / 256 ^ w % 256] ++ be n0 w := by simp [be]
      rw [e]; exact h2
theorem wid_eq' (w : Int) : mn (mx w 0) 8 = (octet_Put.wid w : Int) := octet_Put.wid_eq w
theorem rput_ev {l : List Int} (hl : l.length ≤ 140737488355200) {w n : Int} (hn : 0 ≤ n ∧ n ≤ 18446744073709551615) : Ev (fun k => crosswayref01_Put.f k l w n) (l ++ be n (octet_Put.wid w)) := by
  unfold crosswayref01_Put.f
  refine ev_pos (by simp; omega) ?_
  rw [List.nil_append, octet_Put.wid_eq]
  exact rput_l0 n hn.1 (by omega) _ _ (octet_Put.wid_le w) (by omega)
theorem between_eq (x b : Int) : crosswayref06_between.f x b = some (inB x b) := by
  unfold crosswayref06_between.f inB
  split
  · congr 1; apply decide_eq_decide.2; omega
  · congr 1; symm; apply decide_eq_false; omega
theorem rfour_eq (b : Bool) (h l : Int) : crosswayref06_four.f b h l = some (fourB b h l) := by
  unfold crosswayref06_four.f crosswayref03_Valid.f fourB
  cases b with
  | true => simp
  | false =>
    by_cases e : h = 0
    · subst e
      by_cases e2 : l < 4294967296 <;> simp [e2]
    · simp [e]
/-! The reference. -/
theorem ropts_l0 (s : ByteArray) (hs : s.size ≤ 1099511627776) (r : List S44 × Int) : ∀ (d k0 : Nat) (out : List S44) (a : Int), 0 ≤ a → a ≤ (s.size : Int) → (s.size : Int) - a = d → (out.length : Int) ≤ a → ip4_Options.l s k0 out a = some r → Ev (fun k => crosswayref06_Options.l0 k s out a) r := by
  intro d
  induction d using Nat.strongRecOn with
  | _ d ih =>
    intro k0 out a h0 h1 hd ho h
    cases k0 with
    | zero => simp [ip4_Options.l] at h
    | succ k0 =>
    rw [ip4_Options.l] at h
    have stop : Ev (fun k => crosswayref06_Options.j1 k s out a false) (out, 0) := Ev.step (f := fun _ => some (out, 0)) (fun k => by simp only [crosswayref06_Options.j1]; rw [if_neg (by decide)]) (ev_eq fun _ => rfl)
    by_cases c1 : a = (s.size : Int)
    · rw [if_pos c1] at h
      obtain rfl := Option.some.inj h
      exact Ev.step (fun k => by simp only [crosswayref06_Options.l0]; rw [if_neg (by omega)]) stop
    rw [if_neg c1] at h
    by_cases c2 : bt s a = 0
    · rw [if_pos c2] at h
      obtain rfl := Option.some.inj h
      exact Ev.step (f := fun k => crosswayref06_Options.j1 k s out a false) (fun k => by simp only [crosswayref06_Options.l0]; rw [if_pos (by omega), if_pos h0, c2]; rfl) stop
    rw [if_neg c2] at h
    have b0 := bt_range s a; have b1 := bt_range s (a + 1)
    refine Ev.step (f := fun k => crosswayref06_Options.j1 k s out a true) (fun k => by simp only [crosswayref06_Options.l0]; rw [if_pos (by omega), if_pos h0, show (bt s a != 0) = true from bne_iff_ne.2 c2]) ?_
    have e1 : wrap64 (a + 1) = a + 1 := w64 (by omega) (by omega)
    have e2 : wrap64 (a + 2) = a + 2 := w64 (by omega) (by omega)
    have e3 : wrap64 (bt s (a + 1)) = bt s (a + 1) := w64 (by omega) (by omega)
    have e4 : wrap64 (a + bt s (a + 1)) = a + bt s (a + 1) := w64 (by omega) (by omega)
    have e5 : wrap64 (bt s a) = bt s a := w64 (by omega) (by omega)
    by_cases c3 : bt s a = 1
    · rw [if_pos c3] at h
      refine Ev.step (f := fun k => crosswayref06_Options.l0 k s (out ++ [(⟨1, ⟨#[]⟩⟩ : S44)]) (a + 1)) (fun k => ?_) (ih (d - 1) (by omega) k0 _ _ (by omega) (by omega) (by omega) (by simp; omega) h)
      simp only [crosswayref06_Options.j1]
      rw [if_pos trivial, if_pos h0, if_pos (by omega), if_pos c3, if_pos (by omega), e1]
    rw [if_neg c3] at h
    have bad : ∀ g : Nat → Option (List S44 × Int), r = ([], 50) → (∀ k, g k = some ([], 50)) → Ev g r := fun g e hg => by rw [e]; exact ev_eq hg
    by_cases c4 : a + 1 = (s.size : Int)
    · rw [if_pos c4] at h
      obtain rfl := Option.some.inj h
      refine Ev.step (f := fun _ => some ([], 50)) (fun k => ?_) (ev_eq fun _ => rfl)
      simp only [crosswayref06_Options.j1]
      rw [if_pos trivial, if_pos h0, if_pos (by omega), if_neg c3, e1, if_pos (by omega)]
    rw [if_neg c4] at h
    by_cases c5 : bt s (a + 1) < 2
    · rw [if_pos c5] at h
      obtain rfl := Option.some.inj h
      refine Ev.step (f := fun _ => some ([], 50)) (fun k => ?_) (ev_eq fun _ => rfl)
      simp only [crosswayref06_Options.j1]
      rw [if_pos trivial, if_pos h0, if_pos (by omega), if_neg c3, e1, if_neg (by omega), if_pos (by omega), if_pos (by omega), e3, if_pos c5]
    rw [if_neg c5] at h
    by_cases c6 : (s.size : Int) - a < bt s (a + 1)
    · rw [if_pos c6] at h
      obtain rfl := Option.some.inj h
      refine Ev.step (f := fun _ => some ([], 50)) (fun k => ?_) (ev_eq fun _ => rfl)
      simp only [crosswayref06_Options.j1]
      rw [if_pos trivial, if_pos h0, if_pos (by omega), if_neg c3, e1, if_neg (by omega), if_pos (by omega), if_pos (by omega), e3, if_neg c5, e4, if_pos (by omega)]
    rw [if_neg c6] at h
    refine Ev.step (fun k => ?_) (ih (d - (bt s (a + 1)).toNat) (by omega) k0 _ _ (by omega) (by omega) (by omega) (by simp; omega) h)
    simp only [crosswayref06_Options.j1]
    rw [if_pos trivial, if_pos h0, if_pos (by omega), if_neg c3, e1, if_neg (by omega), if_pos (by omega), if_pos (by omega), e3, if_neg c5, e4, if_neg (by omega), e2, if_pos (by omega), if_pos (by omega), if_pos (by omega), if_pos (by omega), e5]
theorem ropts_ev (s : ByteArray) (hs : s.size ≤ 1099511627776) : Ev (fun k => crosswayref06_Options.f k s) (optsR s) := by
  have h := opts_eq s hs
  unfold ip4_Options.f at h
  rw [if_pos hs] at h
  exact ropts_l0 s hs (optsR s) s.size (s.size + 1) [] 0 (by omega) (by omega) (by omega) (by simp) h
theorem right_ev (tos id : Int) (df mf : Bool) (off ttl proto : Int) (b1 : Bool) (h1 src : Int) (b2 : Bool) (h2 dst : Int) (opts data : ByteArray) (hs : opts.size ≤ 1099511627776) :
    Ev (fun k => crosswayref06_Right.f k tos id df mf off ttl proto b1 h1 src b2 h2 dst opts data) (mayB tos id off ttl proto b1 h1 src b2 h2 dst opts) := by
  unfold crosswayref06_Right.f mayB
  refine Ev.bind (ropts_ev opts hs) (ev_eq fun _ => ?_)
  simp only [Option.bind_some, between_eq, rfour_eq]
  have ite_d : ∀ (c : Prop) [Decidable c] (a b : Option Bool), (if c then a else b) = (if decide c = true then a else b) := fun c _ a b => by by_cases h : c <;> simp [h]
  rw [ite_d ((opts.size : Int) ≤ 40), ite_d ((opts.size : Int) % 4 = 0)]
  generalize decide ((opts.size : Int) ≤ 40) = x8
  generalize decide ((opts.size : Int) % 4 = 0) = x9
  generalize inB tos 255 = x1
  generalize inB ttl 255 = x2
  generalize inB proto 255 = x3
  generalize inB id 65535 = x4
  generalize inB off 8191 = x5
  generalize fourB b1 h1 src = x6
  generalize fourB b2 h2 dst = x7
  cases x6 <;> cases x7 <;> cases x1
  all_goals first | rfl | skip
  all_goals cases x2
  all_goals first | rfl | skip
  all_goals cases x3
  all_goals first | rfl | skip
  all_goals cases x4
  all_goals first | rfl | skip
  all_goals cases x5
  all_goals first | rfl | skip
  all_goals cases x8
  all_goals first | rfl | skip
  all_goals cases x9
  all_goals rfl
set_option maxHeartbeats 2000000 in
theorem header_ev (tos id : Int) (df mf : Bool) (off ttl proto : Int) (b1 : Bool) (h1 : Int) {src : Int} (b2 : Bool) (h2 : Int) {dst : Int} (opts data : ByteArray) (c : Int) (a1 : 0 ≤ tos ∧ tos ≤ 255) (a2 : 0 ≤ ttl ∧ ttl ≤ 255) (a3 : 0 ≤ proto ∧ proto ≤ 255) (a4 : 0 ≤ id ∧ id ≤ 65535) (a5 : 0 ≤ off ∧ off ≤ 8191)
    (u1 : 0 ≤ src) (u2 : 0 ≤ dst) (s1 : src < 4294967296) (s2 : dst < 4294967296) (ho : opts.size ≤ 40) (hl : 20 + (opts.size : Int) + (data.size : Int) ≤ 65535) (c0 : 0 ≤ c) (c1 : c ≤ 65535) :
    Ev (fun k => crosswayref06_header.f k tos id df mf off ttl proto b1 h1 src b2 h2 dst opts data c) (hdC tos id df mf off ttl proto src dst opts.size data.size c ++ bytesOf opts) := by
  have W : ∀ {w : Int} {m : Nat} {l : List Int} {n : Int}, octet_Put.wid w = m → l.length ≤ 1000 → (0 ≤ n ∧ n ≤ 18446744073709551615) → Ev (fun k => crosswayref01_Put.f k l w n) (l ++ be n m) := by
    intro w m l n hw hl hn
    have h := rput_ev (l := l) (w := w) (n := n) (by omega) hn
    rw [hw] at h
    exact h
  have main : Ev (fun k => crosswayref06_header.j1 k c (bitsN df mf off) tos id df mf off ttl proto b1 h1 src b2 h2 dst opts data) (hdC tos id df mf off ttl proto src dst opts.size data.size c ++ bytesOf opts) := by
    have r := bitsN_range (df := df) (mf := mf) a5.1 a5.2
    have e1 : IntKind.u64.wrap (wrap64 (64 + (wrap64 (Int.tdiv (wrap64 (20 + (opts.size : Int))) 4)))) = 64 + (20 + (opts.size : Int)) / 4 := by
      rw [w64 (n := 20 + (opts.size : Int)) (by omega) (by omega), Int.tdiv_eq_ediv_of_nonneg (by omega), w64 (n := (20 + (opts.size : Int)) / 4) (by omega) (by omega), w64 (by omega) (by omega), wu64 (by omega) (by omega)]
    have e2 : IntKind.u64.wrap (wrap64 ((wrap64 (20 + (opts.size : Int))) + (data.size : Int))) = 20 + (opts.size : Int) + (data.size : Int) := by
      rw [w64 (n := 20 + (opts.size : Int)) (by omega) (by omega), w64 (by omega) (by omega), wu64 (by omega) (by omega)]
    refine Ev.step (fun k => by simp only [crosswayref06_header.j1]; rfl) ?_
    rw [e1, e2]
    clear e1 e2
    rw [wu64 (n := tos) (by omega) (by omega), wu64 (n := id) (by omega) (by omega), wu64 (n := bitsN df mf off) (by omega) (by omega), wu64 (n := ttl) (by omega) (by omega), wu64 (n := proto) (by omega) (by omega), wu64 (n := c) (by omega) (by omega)]
    refine Ev.bind (W (m := 1) (by decide) (by simp) (by omega)) ?_
    refine Ev.bind (W (m := 1) (by decide) (by simp [be_length]) (by omega)) ?_
    refine Ev.bind (W (m := 2) (by decide) (by simp [be_length]) (by omega)) ?_
    refine Ev.bind (W (m := 2) (by decide) (by simp [be_length]) (by omega)) ?_
    refine Ev.bind (W (m := 2) (by decide) (by simp [be_length]) (by omega)) ?_
    refine Ev.bind (W (m := 1) (by decide) (by simp [be_length]) (by omega)) ?_
    refine Ev.bind (W (m := 1) (by decide) (by simp [be_length]) (by omega)) ?_
    refine Ev.bind (W (m := 2) (by decide) (by simp [be_length]) (by omega)) ?_
    refine Ev.bind (W (m := 4) (by decide) (by simp [be_length]) (by omega)) ?_
    refine Ev.bind (W (m := 4) (by decide) (by simp [be_length]) (by omega)) ?_
    refine ev_pos (by simp only [List.length_append, be_length, List.length_nil]; omega) (ev_eq fun _ => ?_)
    unfold hdC
    simp
  unfold crosswayref06_header.f
  cases df with
  | true =>
    refine ev_pos rfl ?_
    rw [w64 (n := off + 16384) (by omega) (by omega)]
    cases mf with
    | true =>
      refine Ev.step (f := fun k => crosswayref06_header.j1 k c (bitsN true true off) tos id true true off ttl proto b1 h1 src b2 h2 dst opts data) (fun k => ?_) main
      simp only [crosswayref06_header.j0]; rw [if_pos trivial, w64 (by omega) (by omega), show off + 16384 + 8192 = bitsN true true off by unfold bitsN; simp; omega]
    | false =>
      refine Ev.step (f := fun k => crosswayref06_header.j1 k c (bitsN true false off) tos id true false off ttl proto b1 h1 src b2 h2 dst opts data) (fun k => ?_) main
      simp only [crosswayref06_header.j0]; rw [if_neg (by decide), show off + 16384 = bitsN true false off by unfold bitsN; simp; omega]
  | false =>
    refine ev_neg (by decide) ?_
    cases mf with
    | true =>
      refine Ev.step (f := fun k => crosswayref06_header.j1 k c (bitsN false true off) tos id false true off ttl proto b1 h1 src b2 h2 dst opts data) (fun k => ?_) main
      simp only [crosswayref06_header.j0]; rw [if_pos trivial, w64 (by omega) (by omega), show off + 8192 = bitsN false true off by unfold bitsN; simp; omega]
    | false =>
      refine Ev.step (f := fun k => crosswayref06_header.j1 k c (bitsN false false off) tos id false false off ttl proto b1 h1 src b2 h2 dst opts data) (fun k => ?_) main
      simp only [crosswayref06_header.j0]; rw [if_neg (by decide), show bitsN false false off = off by unfold bitsN; simp]
theorem rlay_ev (tos id : Int) (df mf : Bool) (off ttl proto : Int) (b1 : Bool) (h1 : Int) {src : Int} (b2 : Bool) (h2 : Int) {dst : Int} (opts data : ByteArray) (hs : opts.size ≤ 1099511627776) (hd : data.size ≤ 140737488355328) (u1 : 0 ≤ src) (u2 : 0 ≤ dst) :
    Ev (fun k => crosswayref06_Lay.f k tos id df mf off ttl proto b1 h1 src b2 h2 dst opts data) (layR tos id df mf off ttl proto b1 h1 src b2 h2 dst opts data) := by
  unfold crosswayref06_Lay.f layR
  refine Ev.bind (right_ev tos id df mf off ttl proto b1 h1 src b2 h2 dst opts data hs) ?_
  cases hm : mayB tos id off ttl proto b1 h1 src b2 h2 dst opts with
  | false => exact ev_neg (by decide) (ev_eq fun _ => rfl)
  | true =>
    obtain ⟨a1, a2, a3, a4, a5, a6, a7, a8, a9, a10⟩ := mayB_of hm
    rw [if_pos rfl]
    refine ev_pos rfl ?_
    have e : wrap64 ((wrap64 (20 + (opts.size : Int))) + (data.size : Int)) = 20 + (opts.size : Int) + (data.size : Int) := by
      rw [w64 (n := 20 + (opts.size : Int)) (by omega) (by omega), w64 (by omega) (by omega)]
    rw [e]
    clear e
    by_cases hl : 65535 < 20 + (opts.size : Int) + (data.size : Int)
    · rw [if_pos hl]; exact ev_pos hl (ev_eq fun _ => rfl)
    rw [if_neg hl]
    have c := ck_range tos id df mf off ttl proto src dst opts data
    have hb := Bytes.append (hdC_bytes tos id df mf off ttl proto src dst opts.size data.size 0) (MBytes.range opts)
    have hb2 := Bytes.append (hdC_bytes tos id df mf off ttl proto src dst opts.size data.size (ck tos id df mf off ttl proto src dst opts data)) (MBytes.range opts)
    refine ev_neg (by omega) (Ev.bind (header_ev tos id df mf off ttl proto b1 h1 b2 h2 opts data 0 a1 a2 a3 a4 a5 u1 u2 a6.2.2 a7.2.2 (by omega) (by omega) (by omega) (by omega)) (Ev.bind (PureT.rcheck_ev hb (by rw [List.length_append, hdC_length, bytesOf_length]; omega)) (Ev.bind (header_ev tos id df mf off ttl proto b1 h1 b2 h2 opts data (ck tos id df mf off ttl proto src dst opts data) a1 a2 a3 a4 a5 u1 u2 a6.2.2 a7.2.2 (by omega) (by omega) c.1 c.2) ?_)))
    refine ev_pos (by rw [MBytes.size_ofNums, List.length_append, hdC_length, bytesOf_length]; omega) (ev_eq fun _ => ?_)
    rw [nums_append _ _ hb2]; rfl
end Go.Proofs.Ytedampcicmaamaa.Pure
