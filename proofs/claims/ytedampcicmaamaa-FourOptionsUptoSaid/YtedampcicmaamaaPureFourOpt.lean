/-
  The options of layer 6: what is kept of them. No program in sight but its Lean functions. Conditions: those of each theorem.
-/
import Derived.Test.YtedampcicmaamaaPBasex10
import Derived.Test.YtedampcicmaamaaMTally
import Derived.Test.YtedampcicmaamaaMBytes
import Derived.Laws.BitsLemmas
set_option linter.unusedVariables false
set_option linter.unusedSectionVars false
set_option linter.unusedSimpArgs false
namespace Go.Proofs.Ytedampcicmaamaa.Pure
open Go.RowKit Go.Proofs.Ytedampcicmaamaa.PBase Go.Proofs.YtedampcicmaamaaW.PrintWords Go.Proofs.YtedampcicmaamaaW.PrintLast Go.Proofs.YtedampcicmaamaaW.PrintMore Go.Proofs.Ytedampcicmaamaa.MTally Go.Proofs.Ytedampcicmaamaa.MBe
/-! Small steps for what printed functions come to. -/
theorem w64 {n : Int} (h0 : -9223372036854775808 ≤ n) (h1 : n ≤ 9223372036854775807) : wrap64 n = n := by unfold wrap64; omega
theorem wu64 {n : Int} (h0 : 0 ≤ n) (h1 : n < 18446744073709551616) : IntKind.u64.wrap n = n := by
  simp only [IntKind.wrap, IntKind.signed, IntKind.bits, Bool.false_and, Bool.false_eq_true, if_false]; omega
theorem wu64' (n : Int) : IntKind.u64.wrap n = n % 18446744073709551616 := by
  simp only [IntKind.wrap, IntKind.signed, IntKind.bits, Bool.false_and, Bool.false_eq_true, if_false]; rfl
theorem wu32 {n : Int} (h0 : 0 ≤ n) (h1 : n < 4294967296) : IntKind.u32.wrap n = n := by
  simp only [IntKind.wrap, IntKind.signed, IntKind.bits, Bool.false_and, Bool.false_eq_true, if_false]; omega
theorem wu16 {n : Int} (h0 : 0 ≤ n) (h1 : n < 65536) : IntKind.u16.wrap n = n := by
  simp only [IntKind.wrap, IntKind.signed, IntKind.bits, Bool.false_and, Bool.false_eq_true, if_false]; omega
theorem wu8 {n : Int} (h0 : 0 ≤ n) (h1 : n < 256) : IntKind.u8.wrap n = n := by
  simp only [IntKind.wrap, IntKind.signed, IntKind.bits, Bool.false_and, Bool.false_eq_true, if_false]; omega
theorem ev_pos {α : Type} {c : Prop} [Decidable c] {f g : Nat → Option α} {r : α} (hc : c) (h : Ev f r) : Ev (fun k => if c then f k else g k) r := by
  simp only [if_pos hc]; exact h
theorem ev_neg {α : Type} {c : Prop} [Decidable c] {f g : Nat → Option α} {r : α} (hc : ¬ c) (h : Ev g r) : Ev (fun k => if c then f k else g k) r := by
  simp only [if_neg hc]; exact h
theorem ev_eq {α : Type} {f : Nat → Option α} {r : α} (h : ∀ k, f k = some r) : Ev f r := ⟨0, fun k _ => h k⟩
theorem ev_bind {α β : Type} {o : Option α} {f : Nat → α → Option β} {a : α} {r : β} (h : o = some a) (k : Ev (fun n => f n a) r) : Ev (fun n => o.bind (f n)) r := by
  subst h; exact k
theorem rd_at {xs : List Int} {i : Nat} (h : i < xs.length) : rd xs (i : Int) = xs[i] := by
  simp [rd, List.getElem?_eq_getElem h]
theorem byte_at {xs : List Int} (hb : Bytes xs) {i : Nat} (h : i < xs.length) : 0 ≤ xs[i] ∧ xs[i] ≤ 255 := hb _ (List.getElem_mem h)
theorem byte_of_wf {a : Int} (h : (Lit.int .u8 a).wf = true) : 0 ≤ a ∧ a ≤ 255 := by
  have := h
  simp [Lit.wf, IntKind.min, IntKind.max, IntKind.signed, IntKind.bits] at this
  exact this
theorem i64_of_wf {a : Int} (h : (Lit.int .i64 a).wf = true) : -9223372036854775808 ≤ a ∧ a ≤ 9223372036854775807 := by
  have := h
  simp [Lit.wf, IntKind.min, IntKind.max, IntKind.signed, IntKind.bits] at this
  exact this
theorem u64_of_wf {a : Int} (h : (Lit.int .u64 a).wf = true) : 0 ≤ a ∧ a ≤ 18446744073709551615 := by
  have := h
  simp [Lit.wf, IntKind.min, IntKind.max, IntKind.signed, IntKind.bits] at this
  exact this
theorem u32_of_wf {a : Int} (h : (Lit.int .u32 a).wf = true) : 0 ≤ a ∧ a ≤ 4294967295 := by
  have := h
  simp [Lit.wf, IntKind.min, IntKind.max, IntKind.signed, IntKind.bits] at this
  exact this
theorem u16_of_wf {a : Int} (h : (Lit.int .u16 a).wf = true) : 0 ≤ a ∧ a ≤ 65535 := by
  have := h
  simp [Lit.wf, IntKind.min, IntKind.max, IntKind.signed, IntKind.bits] at this
  exact this
theorem bytes_of_wf {l : List Int} (h : ∀ x ∈ l, (Lit.int .u8 x).wf = true) : Bytes l := fun x hx => byte_of_wf (h x hx)
/-- What ip4.Options comes to. -/
theorem opts_some (s : ByteArray) : ∀ (d k : Nat) (out : List S44) (a : Int), 0 ≤ a → a ≤ (s.size : Int) → (s.size : Int) - a = d → d < k → ∃ r, ip4_Options.l s k out a = some r := by
  intro d
  induction d using Nat.strongRecOn with
  | _ d ih =>
    intro k out a h0 h1 hd hk
    obtain ⟨k, rfl⟩ : ∃ m, k = m + 1 := ⟨k - 1, by omega⟩
    rw [ip4_Options.l]
    by_cases c1 : a = (s.size : Int)
    · rw [if_pos c1]; exact ⟨_, rfl⟩
    rw [if_neg c1]
    by_cases c2 : bt s a = 0
    · rw [if_pos c2]; exact ⟨_, rfl⟩
    rw [if_neg c2]
    by_cases c3 : bt s a = 1
    · rw [if_pos c3]; exact ih (d - 1) (by omega) k _ _ (by omega) (by omega) (by omega) (by omega)
    rw [if_neg c3]
    by_cases c4 : a + 1 = (s.size : Int)
    · rw [if_pos c4]; exact ⟨_, rfl⟩
    rw [if_neg c4]
    by_cases c5 : bt s (a + 1) < 2
    · rw [if_pos c5]; exact ⟨_, rfl⟩
    rw [if_neg c5]
    by_cases c6 : (s.size : Int) - a < bt s (a + 1)
    · rw [if_pos c6]; exact ⟨_, rfl⟩
    rw [if_neg c6]
    exact ih (d - (bt s (a + 1)).toNat) (by omega) k _ _ (by omega) (by omega) (by omega) (by omega)
def optsR (s : ByteArray) : List S44 × Int := (ip4_Options.l s (s.size + 1) [] 0).getD ([], 0)
theorem opts_eq (s : ByteArray) (hs : s.size ≤ 1099511627776) : ip4_Options.f s = some (optsR s) := by
  obtain ⟨r, hr⟩ := opts_some s s.size (s.size + 1) [] 0 (by omega) (by omega) (by omega) (by omega)
  unfold ip4_Options.f optsR
  rw [if_pos hs, hr]; rfl
theorem ropts_l0 (s : ByteArray) (hs : s.size ≤ 1099511627776) (r : List S44 × Int) : ∀ (d k0 : Nat) (out : List S44) (a : Int), 0 ≤ a → a ≤ (s.size : Int) → (s.size : Int) - a = d → (out.length : Int) ≤ a → ip4_Options.l s k0 out a = some r → Ev (fun k => crosswayref06_Options.l0 k s out a) r := by
  intro d
  induction d using Nat.strongRecOn with
  | _ d ih =>
    intro k0 out a h0 h1 hd ho h
    cases k0 with
    | zero => simp [ip4_Options.l] at h
    | succ k0 =>
    rw [ip4_Options.l] at h
    have stop : Ev (fun k => crosswayref06_Options.j1 k s out a false) (out, 0) := Ev.step (f := fun _ => some (out, 0)) (fun k => by simp only [crosswayref06_Options.j1]; rw [if_neg (by decide)]) (ev_eq fun _ => rfl)
    by_cases c1 : a = (s.size : Int)
    · rw [if_pos c1] at h
      obtain rfl := Option.some.inj h
      exact Ev.step (fun k => by simp only [crosswayref06_Options.l0]; rw [if_neg (by omega)]) stop
    rw [if_neg c1] at h
    by_cases c2 : bt s a = 0
    · rw [if_pos c2] at h
      obtain rfl := Option.some.inj h
      exact Ev.step (f := fun k => crosswayref06_Options.j1 k s out a false) (fun k => by simp only [crosswayref06_Options.l0]; rw [if_pos (by omega), if_pos h0, c2]; rfl) stop
    rw [if_neg c2] at h
    have b0 := bt_range s a; have b1 := bt_range s (a + 1)
    refine Ev.step (f := fun k => crosswayref06_Options.j1 k s out a true) (fun k => by simp only [crosswayref06_Options.l0]; rw [if_pos (by omega), if_pos h0, show (bt s a != 0) = true from bne_iff_ne.2 c2]) ?_
    have e1 : wrap64 (a + 1) = a + 1 := w64 (by omega) (by omega)
    have e2 : wrap64 (a + 2) = a + 2 := w64 (by omega) (by omega)
    have e3 : wrap64 (bt s (a + 1)) = bt s (a + 1) := w64 (by omega) (by omega)
    have e4 : wrap64 (a + bt s (a + 1)) = a + bt s (a + 1) := w64 (by omega) (by omega)
    have e5 : wrap64 (bt s a) = bt s a := w64 (by omega) (by omega)
    by_cases c3 : bt s a = 1
    · rw [if_pos c3] at h
      refine Ev.step (f := fun k => crosswayref06_Options.l0 k s (out ++ [(⟨1, ⟨#[]⟩⟩ : S44)]) (a + 1)) (fun k => ?_) (ih (d - 1) (by omega) k0 _ _ (by omega) (by omega) (by omega) (by simp; omega) h)
      simp only [crosswayref06_Options.j1]
      rw [if_pos trivial, if_pos h0, if_pos (by omega), if_pos c3, if_pos (by omega), e1]
    rw [if_neg c3] at h
    have bad : ∀ g : Nat → Option (List S44 × Int), r = ([], 50) → (∀ k, g k = some ([], 50)) → Ev g r := fun g e hg => by rw [e]; exact ev_eq hg
    by_cases c4 : a + 1 = (s.size : Int)
    · rw [if_pos c4] at h
      obtain rfl := Option.some.inj h
      refine Ev.step (f := fun _ => some ([], 50)) (fun k => ?_) (ev_eq fun _ => rfl)
      simp only [crosswayref06_Options.j1]
      rw [if_pos trivial, if_pos h0, if_pos (by omega), if_neg c3, e1, if_pos (by omega)]
    rw [if_neg c4] at h
    by_cases c5 : bt s (a + 1) < 2
    · rw [if_pos c5] at h
      obtain rfl := Option.some.inj h
      refine Ev.step (f := fun _ => some ([], 50)) (fun k => ?_) (ev_eq fun _ => rfl)
      simp only [crosswayref06_Options.j1]
      rw [if_pos trivial, if_pos h0, if_pos (by omega), if_neg c3, e1, if_neg (by omega), if_pos (by omega), if_pos (by omega), e3, if_pos c5]
    rw [if_neg c5] at h
    by_cases c6 : (s.size : Int) - a < bt s (a + 1)
    · rw [if_pos c6] at h
      obtain rfl := Option.some.inj h
      refine Ev.step (f := fun _ => some ([], 50)) (fun k => ?_) (ev_eq fun _ => rfl)
      simp only [crosswayref06_Options.j1]
      rw [if_pos trivial, if_pos h0, if_pos (by omega), if_neg c3, e1, if_neg (by omega), if_pos (by omega), if_pos (by omega), e3, if_neg c5, e4, if_pos (by omega)]
    rw [if_neg c6] at h
    refine Ev.step (fun k => ?_) (ih (d - (bt s (a + 1)).toNat) (by omega) k0 _ _ (by omega) (by omega) (by omega) (by simp; omega) h)
    simp only [crosswayref06_Options.j1]
    rw [if_pos trivial, if_pos h0, if_pos (by omega), if_neg c3, e1, if_neg (by omega), if_pos (by omega), if_pos (by omega), e3, if_neg c5, e4, if_neg (by omega), e2, if_pos (by omega), if_pos (by omega), if_pos (by omega), if_pos (by omega), e5]
theorem ropts_ev (s : ByteArray) (hs : s.size ≤ 1099511627776) : Ev (fun k => crosswayref06_Options.f k s) (optsR s) := by
  have h := opts_eq s hs
  unfold ip4_Options.f at h
  rw [if_pos hs] at h
  exact ropts_l0 s hs (optsR s) s.size (s.size + 1) [] 0 (by omega) (by omega) (by omega) (by simp) h

abbrev O := S44
/-- What an option that was taken up is like. -/
def Good (o : O) : Prop := 0 ≤ o.f0 ∧ o.f0 ≤ 255 ∧ o.f1.size ≤ 253
theorem opts_good (s : ByteArray) : ∀ (k : Nat) (out : List O) (a : Int) (r : List O × Int), 0 ≤ a → a ≤ (s.size : Int) → (out.length : Int) ≤ a → (∀ o ∈ out, Good o) → ip4_Options.l s k out a = some r → (∀ o ∈ r.1, Good o) ∧ (r.1.length : Int) ≤ (s.size : Int) := by
  intro k
  induction k with
  | zero => intro out a r _ _ _ _ h; simp [ip4_Options.l] at h
  | succ k ih =>
    intro out a r h0 h1 hl hg h
    rw [ip4_Options.l] at h
    have b0 := bt_range s a; have b1 := bt_range s (a + 1)
    have hnil : (∀ o ∈ (([] : List O), (50 : Int)).1, Good o) ∧ ((([] : List O), (50 : Int)).1.length : Int) ≤ (s.size : Int) := ⟨(fun o ho => by cases ho), (by simp)⟩
    by_cases c1 : a = (s.size : Int)
    · rw [if_pos c1] at h; obtain rfl := Option.some.inj h; exact ⟨hg, by simp only; omega⟩
    rw [if_neg c1] at h
    by_cases c2 : bt s a = 0
    · rw [if_pos c2] at h; obtain rfl := Option.some.inj h; exact ⟨hg, by simp only; omega⟩
    rw [if_neg c2] at h
    by_cases c3 : bt s a = 1
    · rw [if_pos c3] at h
      refine ih _ _ r (by omega) (by omega) (by simp only [List.length_append, List.length_cons, List.length_nil]; omega) ?_ h
      intro o ho
      rcases List.mem_append.1 ho with q | q
      · exact hg o q
      · rw [List.mem_singleton.1 q]; exact ⟨by decide, by decide, by decide⟩
    rw [if_neg c3] at h
    by_cases c4 : a + 1 = (s.size : Int)
    · rw [if_pos c4] at h; obtain rfl := Option.some.inj h; exact hnil
    rw [if_neg c4] at h
    by_cases c5 : bt s (a + 1) < 2
    · rw [if_pos c5] at h; obtain rfl := Option.some.inj h; exact hnil
    rw [if_neg c5] at h
    by_cases c6 : (s.size : Int) - a < bt s (a + 1)
    · rw [if_pos c6] at h; obtain rfl := Option.some.inj h; exact hnil
    rw [if_neg c6] at h
    refine ih _ _ r (by omega) (by omega) (by simp only [List.length_append, List.length_cons, List.length_nil]; omega) ?_ h
    intro o ho
    rcases List.mem_append.1 ho with q | q
    · exact hg o q
    · rw [List.mem_singleton.1 q]
      refine ⟨b0.1, b0.2, ?_⟩
      show (s.extract _ _).size ≤ 253
      rw [ByteArray.size_extract]; omega
theorem optsR_good (s : ByteArray) : (∀ o ∈ (optsR s).1, Good o) ∧ ((optsR s).1.length : Int) ≤ (s.size : Int) := by
  obtain ⟨r, hr⟩ := opts_some s s.size (s.size + 1) [] 0 (by omega) (by omega) (by omega) (by omega)
  have e : optsR s = r := by unfold optsR; rw [hr]; rfl
  rw [e]
  exact opts_good s _ [] 0 r (by omega) (by omega) (by simp) (fun o ho => by cases ho) hr
/-- The bytes of an option that is kept. -/
def encO (o : O) : List Int := if 127 < o.f0 then [o.f0, (o.f1.size : Int) + 2] ++ bytesOf o.f1 else []
def keptL (l : List O) : List Int := l.flatMap encO
def padL (b : List Int) : List Int := b ++ List.replicate ((4 - b.length % 4) % 4) 0
def keptR (s : ByteArray) : ByteArray := strOfNums (padL (keptL (optsR s).1))
theorem enc_len {o : O} (h : Good o) : (encO o).length ≤ 255 := by
  unfold encO; obtain ⟨_, _, h⟩ := h
  split
  · simp only [List.length_append, List.length_cons, List.length_nil, bytesOf_length]; omega
  · simp
theorem enc_bytes {o : O} (h : Good o) : ∀ x ∈ encO o, 0 ≤ x ∧ x ≤ 255 := by
  unfold encO; obtain ⟨h1, h2, h3⟩ := h
  split
  · intro x hx
    rcases List.mem_append.1 hx with q | q
    · rcases List.mem_cons.1 q with rfl | q
      · exact ⟨h1, h2⟩
      · rw [List.mem_singleton.1 q]; omega
    · exact MBytes.range _ x q
  · intro x hx; cases hx
theorem keptL_bytes {l : List O} (h : ∀ o ∈ l, Good o) : ∀ x ∈ keptL l, 0 ≤ x ∧ x ≤ 255 := by
  intro x hx
  obtain ⟨o, ho, hq⟩ := List.mem_flatMap.1 hx
  exact enc_bytes (h o ho) x hq
theorem padL_bytes {b : List Int} (h : ∀ x ∈ b, 0 ≤ x ∧ x ≤ 255) : ∀ x ∈ padL b, 0 ≤ x ∧ x ≤ 255 := by
  intro x hx
  rcases List.mem_append.1 hx with q | q
  · exact h x q
  · rw [List.eq_of_mem_replicate q]; omega
theorem keptL_len : ∀ {l : List O}, (∀ o ∈ l, Good o) → (keptL l).length ≤ 255 * l.length := by
  intro l
  induction l with
  | nil => intro _; simp [keptL]
  | cons o l ih =>
    intro h
    have a := enc_len (h o (List.mem_cons_self ..))
    have b := ih (fun x hx => h x (List.mem_cons_of_mem _ hx))
    unfold keptL at b ⊢
    rw [List.flatMap_cons, List.length_append, List.length_cons]; omega
/-- The rest of the program's loop: noughts up to a whole number of fours. -/
theorem pad_ev : ∀ (d : Nat) (b : List Int), (4 - b.length % 4) % 4 = d → b.length + d ≤ 281474976719 → Ev (fun k => ip4_Kept.l1 k b) (strOfNums (padL b)) := by
  intro d
  induction d with
  | zero =>
    intro b hd hb
    refine Ev.step (fun k => by simp only [ip4_Kept.l1]; rfl) ?_
    refine ev_pos (by omega) (ev_eq fun _ => ?_)
    unfold padL
    rw [hd, List.replicate_zero, List.append_nil]
  | succ d ih =>
    intro b hd hb
    refine Ev.step (fun k => by simp only [ip4_Kept.l1]; rfl) ?_
    refine ev_neg (by omega) (ev_pos (by omega) ?_)
    have e : padL b = padL (b ++ [0]) := by
      unfold padL
      have q : (4 - (b ++ [(0 : Int)]).length % 4) % 4 = d := by rw [List.length_append, List.length_singleton]; omega
      rw [q, hd, List.append_assoc]; rfl
    rw [e]
    exact ih (b ++ [0]) (by rw [List.length_append, List.length_singleton]; omega) (by rw [List.length_append, List.length_singleton]; omega)
theorem rd_opt {l : List O} {i : Nat} (h : i < l.length) : rd_T44 l (i : Int) = l[i] := by
  unfold rd_T44
  rw [Int.toNat_natCast, List.getD_eq_getElem?_getD, List.getElem?_eq_getElem h, Option.getD_some]
theorem kept_l0 (l : List O) (hg : ∀ o ∈ l, Good o) (hl : l.length ≤ 1073741824) (r : ByteArray) : ∀ (d i : Nat) (b : List Int), i + d = l.length → b.length + 255 * d ≤ 281474976710 → Ev (fun k => ip4_Kept.l1 k (b ++ keptL (l.drop i))) r → Ev (fun k => ip4_Kept.l0 k b l (l.length : Int) (i : Int)) r := by
  intro d
  induction d with
  | zero =>
    intro i b hd hb h
    refine Ev.step (fun k => by simp only [ip4_Kept.l0]; rfl) ?_
    refine ev_neg (by omega) ?_
    rw [List.drop_eq_nil_of_le (by omega)] at h
    simpa [keptL] using h
  | succ d ih =>
    intro i b hd hb h
    have hi : i < l.length := by omega
    obtain ⟨o, ho⟩ : ∃ o, l[i] = o := ⟨_, rfl⟩
    have hgo : Good o := ho ▸ hg _ (List.getElem_mem hi)
    have hlen := enc_len hgo
    rw [List.drop_eq_getElem_cons hi, ho] at h
    have e1 : wrap64 ((i : Int) + 1) = ((i + 1 : Nat) : Int) := by rw [w64 (by omega) (by omega)]; rfl
    refine Ev.step (fun k => by simp only [ip4_Kept.l0]; rfl) ?_
    rw [rd_opt hi, ho, e1]
    refine ev_pos (by omega) (ev_pos (by omega) (ev_pos (by omega) ?_))
    obtain ⟨g1, g2, g3⟩ := hgo
    by_cases c : 127 < o.f0
    · refine ev_pos (by omega) ?_
      have e2 : wrap64 ((o.f1.size : Int) + 2) = (o.f1.size : Int) + 2 := w64 (by omega) (by omega)
      rw [e2, Int.emod_eq_of_lt g1 (by omega), Int.emod_eq_of_lt (by omega) (show (o.f1.size : Int) + 2 < 256 by omega)]
      simp only [Option.bind_some]
      have hen : encO o = [o.f0, (o.f1.size : Int) + 2] ++ bytesOf o.f1 := by unfold encO; rw [if_pos c]
      refine ev_pos (by simp only [List.length_cons, List.length_nil]; omega) (ev_pos (by simp only [List.length_append, List.length_cons, List.length_nil]; omega) ?_)
      refine ih (i + 1) _ (by omega) (by simp only [List.length_append, List.length_cons, List.length_nil, bytesOf_length]; omega) ?_
      have : b ++ keptL (o :: l.drop (i + 1)) = b ++ [o.f0, (o.f1.size : Int) + 2] ++ bytesOf o.f1 ++ keptL (l.drop (i + 1)) := by
        unfold keptL; rw [List.flatMap_cons, hen]; simp only [List.append_assoc]
      rw [this] at h
      exact h
    · refine ev_neg (by omega) ?_
      refine ih (i + 1) b (by omega) (by omega) ?_
      have : keptL (o :: l.drop (i + 1)) = keptL (l.drop (i + 1)) := by
        unfold keptL; rw [List.flatMap_cons]; unfold encO; rw [if_neg c, List.nil_append]
      rw [this] at h
      exact h
theorem kept_ev {s : ByteArray} (hs : s.size ≤ 1073741824) : Ev (fun k => ip4_Kept.f k s) (keptR s) := by
  obtain ⟨hg, hl⟩ := optsR_good s
  unfold ip4_Kept.f
  refine ev_bind (opts_eq s (by omega)) ?_
  refine kept_l0 _ hg (by omega) _ (optsR s).1.length 0 [] (by omega) (by simp only [List.length_nil]; omega) ?_
  rw [List.drop_zero, List.nil_append]
  exact pad_ev _ _ rfl (by have := keptL_len hg; omega)
/-! The document's. -/
theorem rkept_l : ∀ (l : List O) (b : ByteArray), (∀ o ∈ l, Good o) → b.size + 255 * l.length ≤ 281474976710 → crosswayref06_Kept.l l b = some (strOfNums (bytesOf b ++ keptL l)) := by
  intro l
  induction l with
  | nil => intro b _ _; rw [crosswayref06_Kept.l]; simp [keptL, MBytes.nums]
  | cons o l ih =>
    intro b hg hb
    rw [List.length_cons] at hb
    have hgo := hg o (List.mem_cons_self ..)
    have hg2 : ∀ x ∈ l, Good x := fun x hx => hg x (List.mem_cons_of_mem _ hx)
    obtain ⟨g1, g2, g3⟩ := hgo
    rw [crosswayref06_Kept.l]
    by_cases c : 127 < o.f0
    · have e2 : wrap64 ((o.f1.size : Int) + 2) = (o.f1.size : Int) + 2 := w64 (by omega) (by omega)
      rw [if_pos c, if_pos (by omega), e2, Int.emod_eq_of_lt g1 (by omega), Int.emod_eq_of_lt (by omega) (show (o.f1.size : Int) + 2 < 256 by omega)]
      have hsz : (strOfNums [o.f0, (o.f1.size : Int) + 2]).size = 2 := MBytes.size_ofNums _
      rw [ih _ hg2 (by rw [ByteArray.size_append, ByteArray.size_append, hsz]; omega)]
      congr 2
      rw [MBytes.append, MBytes.append, MBytes.ofNums (by intro x hx; rcases List.mem_cons.1 hx with rfl | q; exact ⟨g1, g2⟩; rw [List.mem_singleton.1 q]; omega)]
      unfold keptL
      rw [List.flatMap_cons]
      unfold encO
      rw [if_pos c]
      simp only [List.append_assoc]
    · rw [if_neg c, ih b hg2 (by omega)]
      unfold keptL
      rw [List.flatMap_cons]
      unfold encO
      rw [if_neg c, List.nil_append]
theorem rpad : ∀ (d k : Nat) (b : List Int), (4 - b.length % 4) % 4 = d → d < k → b.length + d ≤ 281474976719 → (∀ x ∈ b, 0 ≤ x ∧ x ≤ 255) → crosswayref06_Kept.p k (strOfNums b) = some (strOfNums (padL b)) := by
  intro d
  induction d with
  | zero =>
    intro k b hd hk hb hby
    obtain ⟨k, rfl⟩ : ∃ m, k = m + 1 := ⟨k - 1, by omega⟩
    rw [crosswayref06_Kept.p, MBytes.size_ofNums, if_neg (by omega)]
    unfold padL
    rw [hd, List.replicate_zero, List.append_nil]
  | succ d ih =>
    intro k b hd hk hb hby
    obtain ⟨k, rfl⟩ : ∃ m, k = m + 1 := ⟨k - 1, by omega⟩
    rw [crosswayref06_Kept.p, MBytes.size_ofNums, if_pos (by omega), if_pos (by omega)]
    have e : padL b = padL (b ++ [0]) := by
      unfold padL
      have q : (4 - (b ++ [(0 : Int)]).length % 4) % 4 = d := by rw [List.length_append, List.length_singleton]; omega
      rw [q, hd, List.append_assoc]; rfl
    have hby2 : ∀ x ∈ b ++ [(0 : Int)], 0 ≤ x ∧ x ≤ 255 := by
      intro x hx
      rcases List.mem_append.1 hx with q | q
      · exact hby x q
      · rw [List.mem_singleton.1 q]; omega
    have e2 : strOfNums b ++ ⟨#[0]⟩ = strOfNums (b ++ [0]) := by
      apply MBytes.inj
      rw [MBytes.append, MBytes.ofNums hby, MBytes.ofNums hby2]; rfl
    rw [e2, e]
    exact ih k (b ++ [0]) (by rw [List.length_append, List.length_singleton]; omega) (by omega) (by rw [List.length_append, List.length_singleton]; omega) hby2
theorem rkept_ev {s : ByteArray} (hs : s.size ≤ 1073741824) : Ev (fun k => crosswayref06_Kept.f k s) (keptR s) := by
  obtain ⟨hg, hl⟩ := optsR_good s
  have hk := keptL_len hg
  unfold crosswayref06_Kept.f
  refine Ev.bind (ropts_ev s (by omega)) ?_
  refine ev_pos (by omega) (ev_eq fun _ => ?_)
  rw [rkept_l _ _ hg (by simp only [show (⟨#[]⟩ : ByteArray).size = 0 from rfl]; omega), Option.bind_some, MBytes.nil, List.nil_append]
  exact rpad _ 4 _ rfl (by omega) (by omega) (keptL_bytes hg)
end Go.Proofs.Ytedampcicmaamaa.Pure
