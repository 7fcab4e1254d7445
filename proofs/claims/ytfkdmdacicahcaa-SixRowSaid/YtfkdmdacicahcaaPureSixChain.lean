/-
  What ip6.Chain, ip6.Head and the law's same come to. No program in sight but their Lean functions. Conditions: those of each theorem.
-/
import Derived.Test.YtfkdmdacicahcaaPBasex5
import Derived.Test.YtfkdmdacicahcaaPureSix
set_option linter.unusedVariables false
set_option linter.unusedSectionVars false
set_option linter.unusedSimpArgs false
namespace Go.Proofs.Ytfkdmdacicahcaa.Pure
open Go.RowKit Go.Proofs.Ytfkdmdacicahcaa.PBase Go.Proofs.YtfkdmdacicahcaaW.PrintWords Go.Proofs.YtfkdmdacicahcaaW.PrintLast Go.Proofs.YtfkdmdacicahcaaW.PrintMore Go.Proofs.Ytfkdmdacicahcaa.MTally Go.Proofs.Ytfkdmdacicahcaa.MBe
/-- Is a number that of a further header? -/
def Kn (n : Int) : Prop := n = 0 ∨ n = 43 ∨ n = 60 ∨ n = 44
instance (n : Int) : Decidable (Kn n) := by unfold Kn; infer_instance
/-- Further headers one behind the other, from a number and a place on to the last number and place. -/
def Row (s : ByteArray) : Int → Int → List S41 → Int → Int → Prop
  | n, p, [], last, e => n = last ∧ p = e
  | n, p, x :: xs, last, e => Kn n ∧ x.f0 = n ∧ x.f1 = p ∧ 8 ≤ x.f2 ∧ x.f2 % 8 = 0 ∧ p + x.f2 ≤ (s.size : Int) ∧ Row s (bt s p) (p + x.f2) xs last e
theorem Row.le {s : ByteArray} : ∀ {xs : List S41} {n p last e : Int}, Row s n p xs last e → p ≤ e
  | [], _, _, _, _, h => by rw [h.2]; exact Int.le_refl _
  | x :: xs, _, _, _, _, ⟨_, _, _, h8, _, _, h⟩ => by have := h.le; omega
theorem n_eight (s : ByteArray) (next p : Int) : ip6_Chain.n s next p % 8 = 0 := by unfold ip6_Chain.n; split <;> omega
theorem chain_step (s : ByteArray) (m : Nat) (next : Int) (out : List S41) (p : Int) : ip6_Chain.l s (m + 1) next out p = if Kn next then
   (if next = 0 ∧ 0 < p then some ([], 0, 0, 64) else if (out.length : Int) = 16 then some ([], 0, 0, 64) else
    if (s.size : Int) - p < ip6_Chain.n s next p then some ([], 0, 0, 61) else ip6_Chain.l s m (bt s p) (out ++ [(⟨next, p, ip6_Chain.n s next p⟩ : S41)]) (p + ip6_Chain.n s next p))
   else some (out, next, p, 0) := rfl
/-- It comes to an end. -/
theorem chain_some (s : ByteArray) : ∀ (m : Nat) (next : Int) (out : List S41) (p : Int), out.length ≤ 16 → 17 ≤ m + out.length → ∃ r, ip6_Chain.l s m next out p = some r
  | 0, _, out, _, h, h2 => by omega
  | m + 1, next, out, p, h, h2 => by
    rw [chain_step]
    by_cases h1 : Kn next
    case neg => exact ⟨_, by rw [if_neg h1]⟩
    rw [if_pos h1]
    by_cases h3 : next = 0 ∧ 0 < p
    · exact ⟨_, by rw [if_pos h3]⟩
    rw [if_neg h3]
    by_cases h4 : (out.length : Int) = 16
    · exact ⟨_, by rw [if_pos h4]⟩
    rw [if_neg h4]
    by_cases h5 : (s.size : Int) - p < ip6_Chain.n s next p
    · exact ⟨_, by rw [if_pos h5]⟩
    rw [if_neg h5]
    exact chain_some s m _ _ _ (by rw [List.length_append]; simp; omega) (by rw [List.length_append]; simp; omega)
/-- What it ends with: nothing, or a row of further headers. -/
theorem chain_row (s : ByteArray) : ∀ (m : Nat) (next : Int) (out : List S41) (p : Int) (r : List S41 × Int × Int × Int), ip6_Chain.l s m next out p = some r →
    (∃ e, e ≠ 0 ∧ r = ([], 0, 0, e)) ∨ (∃ xs last e, r = (out ++ xs, last, e, 0) ∧ Row s next p xs last e)
  | 0, _, _, _, _, h => by cases h
  | m + 1, next, out, p, r, h => by
    rw [chain_step] at h
    by_cases h1 : Kn next
    case neg =>
      rw [if_neg h1] at h
      obtain rfl := Option.some.inj h
      exact Or.inr ⟨[], next, p, by rw [List.append_nil], rfl, rfl⟩
    rw [if_pos h1] at h
    by_cases h3 : next = 0 ∧ 0 < p
    · rw [if_pos h3] at h; exact Or.inl ⟨64, by decide, (Option.some.inj h).symm⟩
    rw [if_neg h3] at h
    by_cases h4 : (out.length : Int) = 16
    · rw [if_pos h4] at h; exact Or.inl ⟨64, by decide, (Option.some.inj h).symm⟩
    rw [if_neg h4] at h
    by_cases h5 : (s.size : Int) - p < ip6_Chain.n s next p
    · rw [if_pos h5] at h; exact Or.inl ⟨61, by decide, (Option.some.inj h).symm⟩
    rw [if_neg h5] at h
    rcases chain_row s m _ _ _ _ h with h | ⟨xs, last, e, hr, hx⟩
    · exact Or.inl h
    · refine Or.inr ⟨_ :: xs, last, e, by rw [hr, List.append_assoc]; rfl, h1, rfl, rfl, (ip6_Chain.n_pos s next p).1, n_eight s next p, ?_, hx⟩
      simp only
      omega
theorem bt_behind (s b : ByteArray) {i : Int} (h0 : 0 ≤ i) (h1 : i < (s.size : Int)) : bt (s ++ b) i = bt s i := by
  rw [← rd_bytesOf, ← rd_bytesOf, MBytes.append]
  unfold rd
  have hl := bytesOf_length s
  rw [List.getD_eq_getElem?_getD, List.getD_eq_getElem?_getD, List.getElem?_append_left (by omega)]
/-- With more bytes behind it stays. -/
theorem chain_stays (s b : ByteArray) : ∀ (m : Nat) (next : Int) (out : List S41) (p : Int) (l : List S41) (last e : Int), 0 ≤ p → ip6_Chain.l s m next out p = some (l, last, e, 0) → ip6_Chain.l (s ++ b) m next out p = some (l, last, e, 0)
  | 0, _, _, _, _, _, _, _, h => by cases h
  | m + 1, next, out, p, l, last, e, hp, h => by
    rw [chain_step] at h ⊢
    by_cases h1 : Kn next
    case neg => rw [if_neg h1] at h ⊢; exact h
    rw [if_pos h1] at h ⊢
    by_cases h3 : next = 0 ∧ 0 < p
    · rw [if_pos h3] at h; cases h
    rw [if_neg h3] at h ⊢
    by_cases h4 : (out.length : Int) = 16
    · rw [if_pos h4] at h; cases h
    rw [if_neg h4] at h ⊢
    by_cases h5 : (s.size : Int) - p < ip6_Chain.n s next p
    · rw [if_pos h5] at h; cases h
    have hn := ip6_Chain.n_pos s next p
    have hz : ((s ++ b).size : Int) = (s.size : Int) + (b.size : Int) := by rw [ByteArray.size_append]; omega
    have en : ip6_Chain.n (s ++ b) next p = ip6_Chain.n s next p := by
      unfold ip6_Chain.n
      by_cases h6 : next ≠ 44
      · rw [if_pos ⟨h6, by omega⟩, if_pos ⟨h6, by omega⟩, bt_behind s b (by omega) (by omega)]
      · rw [if_neg (fun h => h6 h.1), if_neg (fun h => h6 h.1)]
    rw [if_neg h5] at h
    rw [en, if_neg (by omega), bt_behind s b hp (by omega)]
    exact chain_stays s b m _ _ _ _ _ _ (by omega) h
/-- What ip6.Chain comes to. -/
theorem chain_ok (next : Int) (s : ByteArray) (hs : s.size ≤ 281474976710656) : ∃ r, ip6_Chain.f next s = some r ∧ ip6_Chain.l s 18 next [] 0 = some r := by
  obtain ⟨r, hr⟩ := chain_some s 18 next [] 0 (by simp) (by simp)
  exact ⟨r, by unfold ip6_Chain.f; rw [if_pos (by omega), hr], hr⟩
theorem rd41 {l : List S41} {pre xs : List S41} {x : S41} (h : l = pre ++ x :: xs) : rd_T41 l (pre.length : Int) = x := by
  unfold rd_T41
  rw [h, Int.toNat_natCast, List.getD_eq_getElem?_getD, List.getElem?_append_right (Nat.le_refl _), Nat.sub_self]
  rfl
theorem same_loop (l : List S41) (hl : l.length ≤ 1000) : ∀ (xs pre : List S41), l = pre ++ xs → Ev (fun k => crosswaylaw07_same.l0 k l l (pre.length : Int)) true
  | [], pre, h => by
    have hz : l.length = pre.length := by rw [h]; simp
    refine Ev.step (fun k => by simp only [crosswaylaw07_same.l0]; rfl) ?_
    exact ev_neg (by omega) (ev_eq fun _ => rfl)
  | x :: xs, pre, h => by
    have hz : l.length = pre.length + (xs.length + 1) := by rw [h]; simp
    refine Ev.step (fun k => by simp only [crosswaylaw07_same.l0]; rfl) ?_
    refine ev_pos (by omega) (ev_pos (by omega) (ev_pos (by omega) (ev_neg (by simp) ?_)))
    have h2 := same_loop l hl xs (pre ++ [x]) (by rw [h]; simp)
    have ew : wrap64 ((pre.length : Int) + 1) = ((pre ++ [x]).length : Int) := by rw [w64 (by omega) (by omega)]; simp
    rw [ew]
    exact h2
theorem same_ev (l : List S41) (hl : l.length ≤ 1000) : Ev (fun k => crosswaylaw07_same.f k l l) true := by
  unfold crosswaylaw07_same.f
  exact ev_pos rfl (same_loop l hl l [] rfl)
/-- What stands ahead in every piece. -/
def headR : List S41 → Int → Int
  | [], h => h
  | x :: xs, h => if x.f0 = 44 then h else if x.f0 = 0 ∨ x.f0 = 43 then headR xs (x.f1 + x.f2) else headR xs h
theorem headR_le {s : ByteArray} : ∀ {xs : List S41} {n p last e h : Int}, Row s n p xs last e → 0 ≤ p → 0 ≤ h → h ≤ p → 0 ≤ headR xs h ∧ headR xs h ≤ e
  | [], _, _, _, _, _, hr, _, h0, h1 => by rw [← hr.2]; exact ⟨h0, h1⟩
  | x :: xs, _, p, _, e, h, ⟨_, _, h1, h8, _, _, hr⟩, hp, h0, hle => by
    have := hr.le
    unfold headR
    split
    · omega
    split
    · exact headR_le hr (by omega) (by omega) (by omega)
    · exact headR_le hr (by omega) h0 (by omega)
theorem head_loop {s : ByteArray} (hs : s.size ≤ 140737488355232) (l : List S41) (hl : l.length ≤ 1000) : ∀ (xs pre : List S41) (n p last e h : Int), l = pre ++ xs → Row s n p xs last e → 0 ≤ p → Ev (fun k => ip6_Head.l0 k h l (l.length : Int) (pre.length : Int)) (headR xs h)
  | [], pre, _, _, _, _, h, hx, _, _ => by
    have hz : l.length = pre.length := by rw [hx]; simp
    refine Ev.step (fun k => by simp only [ip6_Head.l0]; rfl) ?_
    exact ev_neg (by omega) (ev_eq fun _ => rfl)
  | x :: xs, pre, n, p, last, e, h, hx, ⟨hk, h0, h1, h8, _, h9, hr⟩, hp => by
    have hz : l.length = pre.length + (xs.length + 1) := by rw [hx]; simp
    refine Ev.step (fun k => by simp only [ip6_Head.l0]; rfl) ?_
    rw [rd41 hx]
    have ew : wrap64 ((pre.length : Int) + 1) = ((pre ++ [x]).length : Int) := by rw [w64 (by omega) (by omega)]; simp
    have ep : wrap64 (x.f1 + x.f2) = x.f1 + x.f2 := w64 (by omega) (by omega)
    rw [ew, ep]
    have go := fun h' => head_loop hs l hl xs (pre ++ [x]) (bt s p) (p + x.f2) last e h' (by rw [hx]; simp) hr (by omega)
    refine ev_pos (by omega) (ev_pos (by omega) (ev_pos (by omega) ?_))
    unfold headR
    by_cases c1 : x.f0 = 44
    · rw [if_pos c1]; exact ev_pos c1 (ev_eq fun _ => rfl)
    rw [if_neg c1]
    refine ev_neg c1 ?_
    by_cases c2 : x.f0 = 0
    · rw [if_pos (Or.inl c2)]; exact ev_pos c2 (go _)
    refine ev_neg c2 ?_
    by_cases c3 : x.f0 = 43
    · rw [if_pos (Or.inr c3)]; exact ev_pos c3 (go _)
    rw [if_neg (by omega)]
    exact ev_neg c3 (go _)
theorem row_size {s : ByteArray} : ∀ {xs : List S41} {n p last e : Int}, Row s n p xs last e → p + 8 * (xs.length : Int) ≤ e
  | [], _, _, _, _, h => by rw [h.2]; simp
  | x :: xs, _, _, _, _, ⟨_, _, _, h8, _, _, h⟩ => by have := row_size h; simp only [List.length_cons]; omega
/-- No more than sixteen. -/
theorem chain_sixteen (s : ByteArray) : ∀ (m : Nat) (next : Int) (out : List S41) (p : Int) (r : List S41 × Int × Int × Int), out.length ≤ 16 → ip6_Chain.l s m next out p = some r → r.1.length ≤ 16
  | 0, _, _, _, _, _, h => by cases h
  | m + 1, next, out, p, r, ho, h => by
    rw [chain_step] at h
    by_cases h1 : Kn next
    case neg =>
      rw [if_neg h1] at h
      obtain rfl := Option.some.inj h
      exact ho
    rw [if_pos h1] at h
    by_cases h3 : next = 0 ∧ 0 < p
    · rw [if_pos h3] at h; obtain rfl := Option.some.inj h; simp
    rw [if_neg h3] at h
    by_cases h4 : (out.length : Int) = 16
    · rw [if_pos h4] at h; obtain rfl := Option.some.inj h; simp
    rw [if_neg h4] at h
    by_cases h5 : (s.size : Int) - p < ip6_Chain.n s next p
    · rw [if_pos h5] at h; obtain rfl := Option.some.inj h; simp
    rw [if_neg h5] at h
    exact chain_sixteen s m _ _ _ _ (by rw [List.length_append]; simp; omega) h
theorem head_ev (next : Int) (s : ByteArray) (hs : s.size ≤ 140737488355232) {r : List S41 × Int × Int × Int} (hr : ip6_Chain.l s 18 next [] 0 = some r) : Ev (fun k => ip6_Head.f k next s) (headR r.1 0) := by
  obtain ⟨r', h1, h2⟩ := chain_ok next s (by omega)
  obtain rfl : r' = r := by rw [hr] at h2; exact (Option.some.inj h2).symm
  unfold ip6_Head.f
  refine ev_bind h1 ?_
  have h16 := chain_sixteen s 18 next [] 0 _ (by simp) hr
  rcases chain_row s 18 next [] 0 _ hr with ⟨e, _, rfl⟩ | ⟨xs, last, e, rfl, hx⟩
  · exact Ev.step (f := fun k => some 0) (fun k => by simp only [ip6_Head.l0]; rfl) (ev_eq fun _ => rfl)
  · rw [List.nil_append] at h16 ⊢
    simp only at h16
    exact head_loop hs xs (by omega) xs [] next 0 last e 0 rfl hx (by omega)
end Go.Proofs.Ytfkdmdacicahcaa.Pure
