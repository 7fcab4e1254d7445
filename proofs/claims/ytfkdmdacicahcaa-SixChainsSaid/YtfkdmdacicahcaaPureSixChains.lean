/-
  The pure law SixChains: the further headers of any number and bytes, and what stands ahead in every piece, are the document's. For all numbers and strings.
-/
import Derived.Test.YtfkdmdacicahcaaPBasex14
import Derived.Test.YtfkdmdacicahcaaPureSixChain
set_option linter.unusedVariables false
set_option linter.unusedSectionVars false
set_option linter.unusedSimpArgs false
namespace Go.Proofs.Ytfkdmdacicahcaa.Pure
open Go.RowKit Go.Proofs.Ytfkdmdacicahcaa.PBase Go.Proofs.YtfkdmdacicahcaaW.PrintWords Go.Proofs.YtfkdmdacicahcaaW.PrintLast Go.Proofs.YtfkdmdacicahcaaW.PrintMore Go.Proofs.Ytfkdmdacicahcaa.MTally Go.Proofs.Ytfkdmdacicahcaa.MBe
theorem further_eq (x : Int) : crosswayref07_further.f x = some (decide (Kn x)) := by
  unfold crosswayref07_further.f
  by_cases h0 : x = 0
  · rw [if_pos h0]; congr 1; symm; apply decide_eq_true; exact Or.inl h0
  rw [if_neg h0]
  by_cases h1 : x = 43
  · rw [if_pos h1]; congr 1; symm; apply decide_eq_true; exact Or.inr (Or.inl h1)
  rw [if_neg h1]
  by_cases h2 : x = 60
  · rw [if_pos h2]; congr 1; symm; apply decide_eq_true; exact Or.inr (Or.inr (Or.inl h2))
  rw [if_neg h2]
  congr 1
  by_cases h3 : x = 44
  · rw [decide_eq_true (show Kn x from Or.inr (Or.inr (Or.inr h3)))]; exact beq_iff_eq.mpr h3
  · rw [decide_eq_false (show ¬ Kn x by unfold Kn; omega)]; exact beq_eq_false_iff_ne.mpr h3
/-- The reference's chain is the program's. -/
theorem rchain (s : ByteArray) (hs : s.size ≤ 140737488355232) : ∀ (m : Nat) (next : Int) (out : List S41) (p : Int) (r : List S41 × Int × Int × Int), 0 ≤ p ∧ p ≤ (s.size : Int) → (0 < p ↔ 0 < out.length) → out.length ≤ 16 →
    ip6_Chain.l s m next out p = some r → Ev (fun k => crosswayref07_Chain.l0 k next s out p) r
  | 0, _, _, _, _, _, _, _, h => by cases h
  | m + 1, next, out, p, r, hp, ho, hz, h => by
    rw [chain_step] at h
    refine Ev.step (fun k => by simp only [crosswayref07_Chain.l0]; rfl) ?_
    refine ev_bind (further_eq _) ?_
    by_cases h1 : Kn next
    case neg =>
      rw [if_neg h1] at h
      obtain rfl := Option.some.inj h
      exact ev_neg (by simpa using h1) (ev_eq fun _ => rfl)
    rw [if_pos h1] at h
    refine ev_pos (decide_eq_true h1) ?_
    have bad : r = ([], 0, 0, 64) → Ev (fun k => crosswayref07_Chain.j1 k next s out p true) r := fun e => Ev.step (f := fun _ => some ([], 0, 0, 64)) (fun k => by simp only [crosswayref07_Chain.j1]; rw [if_pos trivial]) (ev_eq fun _ => by rw [e])
    have hn := ip6_Chain.n_pos s next p
    have eu : wrap64 ((s.size : Int) - p) = (s.size : Int) - p := w64 (by omega) (by omega)
    have e1 : wrap64 (p + 1) = p + 1 := w64 (by omega) (by omega)
    have b0 := bt_range s p
    have b1 := bt_range s (p + 1)
    have e2 : wrap64 (8 * wrap64 (wrap64 (bt s (p + 1)) + 1)) = 8 * (1 + bt s (p + 1)) := by
      rw [w64 (n := bt s (p + 1)) (by omega) (by omega), w64 (n := bt s (p + 1) + 1) (by omega) (by omega), w64 (by omega) (by omega)]; omega
    have good : (¬ (out.length : Int) = 16) → (if (s.size : Int) - p < ip6_Chain.n s next p then some ([], 0, 0, 61) else ip6_Chain.l s m (bt s p) (out ++ [(⟨next, p, ip6_Chain.n s next p⟩ : S41)]) (p + ip6_Chain.n s next p)) = some r → Ev (fun k => crosswayref07_Chain.j1 k next s out p false) r := by
      intro h4 h
      refine Ev.step (fun k => by simp only [crosswayref07_Chain.j1]; rw [if_neg (by decide)]) ?_
      rw [eu]
      by_cases h5 : (s.size : Int) - p < 8
      · rw [if_pos (by omega)] at h
        obtain rfl := Option.some.inj h
        exact ev_pos h5 (ev_eq fun _ => rfl)
      refine ev_neg h5 ?_
      have down : ∀ n : Int, ip6_Chain.n s next p = n → ¬ (s.size : Int) - p < n → Ev (fun k => crosswayref07_Chain.l0 k (wrap64 (bt s p)) s (out ++ [(⟨next, p, n⟩ : S41)]) (wrap64 (p + n))) r := by
        intro n en h6
        rw [en, if_neg h6] at h
        rw [en] at hn
        rw [w64 (n := bt s p) (by omega) (by omega), w64 (n := p + n) (by omega) (by omega)]
        exact rchain s hs m _ _ _ _ ⟨by omega, by omega⟩ ⟨fun _ => by simp, fun _ => by omega⟩ (by rw [List.length_append]; simp; omega) h
      by_cases h7 : next = 44
      · have en : ip6_Chain.n s next p = 8 := by unfold ip6_Chain.n; rw [if_neg (fun h => h.1 h7)]
        exact ev_pos h7 (ev_pos (by omega) (ev_pos (by omega) (ev_pos (by omega) (down 8 en (by omega)))))
      have en : ip6_Chain.n s next p = 8 * (1 + bt s (p + 1)) := by unfold ip6_Chain.n; rw [if_pos ⟨h7, by omega⟩]
      refine ev_neg h7 ?_
      rw [e1, e2]
      refine ev_pos (by omega) (ev_pos (by omega) ?_)
      by_cases h8 : (s.size : Int) - p < 8 * (1 + bt s (p + 1))
      · rw [en, if_pos h8] at h
        obtain rfl := Option.some.inj h
        exact ev_pos h8 (ev_eq fun _ => rfl)
      exact ev_neg h8 (ev_pos (by omega) (ev_pos (by omega) (ev_pos (by omega) (down _ en h8))))
    by_cases h0 : next = 0
    · refine ev_pos h0 ?_
      by_cases h3 : 0 < p
      · rw [if_pos ⟨h0, h3⟩] at h
        exact ev_pos (by omega) (bad (Option.some.inj h).symm)
      rw [if_neg (fun h => h3 h.2)] at h
      refine ev_neg (by omega) ?_
      rw [if_neg (by omega)] at h
      rw [decide_eq_false (by omega)]
      exact good (by omega) h
    rw [if_neg (fun h => h0 h.1)] at h
    refine ev_neg h0 ?_
    by_cases h4 : (out.length : Int) = 16
    · rw [if_pos h4] at h
      rw [decide_eq_true (by omega)]
      exact bad (Option.some.inj h).symm
    rw [if_neg h4] at h
    rw [decide_eq_false (by omega)]
    exact good h4 h
theorem rchain_ev (next : Int) (s : ByteArray) (hs : s.size ≤ 140737488355232) {r : List S41 × Int × Int × Int} (hr : ip6_Chain.l s 18 next [] 0 = some r) : Ev (fun k => crosswayref07_Chain.f k next s) r := by
  unfold crosswayref07_Chain.f
  exact rchain s hs 18 next [] 0 r ⟨by omega, by omega⟩ (by simp) (by simp) hr
theorem rhead_loop {s : ByteArray} (hs : s.size ≤ 140737488355232) (l : List S41) (hl : l.length ≤ 1000) : ∀ (xs pre : List S41) (n p last e h : Int), l = pre ++ xs → Row s n p xs last e → 0 ≤ p → Ev (fun k => crosswayref07_Head.l0 k l h (pre.length : Int)) (headR xs h)
  | [], pre, _, _, _, _, h, hx, _, _ => by
    have hz : l.length = pre.length := by rw [hx]; simp
    refine Ev.step (fun k => by simp only [crosswayref07_Head.l0]; rfl) ?_
    refine ev_neg (by omega) ?_
    exact Ev.step (f := fun _ => some h) (fun k => by simp only [crosswayref07_Head.j1]; rw [if_neg (by decide)]) (ev_eq fun _ => rfl)
  | x :: xs, pre, n, p, last, e, h, hx, ⟨hk, h0, h1, h8, _, h9, hr⟩, hp => by
    have hz : l.length = pre.length + (xs.length + 1) := by rw [hx]; simp
    refine Ev.step (fun k => by simp only [crosswayref07_Head.l0]; rfl) ?_
    rw [rd41 hx]
    have ew : wrap64 ((pre.length : Int) + 1) = ((pre ++ [x]).length : Int) := by rw [w64 (by omega) (by omega)]; simp
    have ep : wrap64 (x.f1 + x.f2) = x.f1 + x.f2 := w64 (by omega) (by omega)
    have go := fun h' => rhead_loop hs l hl xs (pre ++ [x]) (bt s p) (p + x.f2) last e h' (by rw [hx]; simp) hr (by omega)
    refine ev_pos (by omega) (ev_pos (by omega) ?_)
    unfold headR
    by_cases c1 : x.f0 = 44
    · rw [if_pos c1, show (x.f0 != 44) = false by rw [c1]; rfl]
      exact Ev.step (f := fun _ => some h) (fun k => by simp only [crosswayref07_Head.j1]; rw [if_neg (by decide)]) (ev_eq fun _ => rfl)
    rw [if_neg c1, show (x.f0 != 44) = true from bne_iff_ne.mpr c1]
    refine Ev.step (fun k => by simp only [crosswayref07_Head.j1]; rw [if_pos trivial]) ?_
    refine ev_pos (by omega) (ev_pos (by omega) ?_)
    rw [rd41 hx, ew, ep]
    unfold Kn at hk
    by_cases c2 : x.f0 = 60
    · rw [if_neg (by omega)]; exact ev_pos c2 (go _)
    · rw [if_pos (by omega)]; exact ev_neg c2 (go _)
theorem rhead_ev (next : Int) (s : ByteArray) (hs : s.size ≤ 140737488355232) {r : List S41 × Int × Int × Int} (hr : ip6_Chain.l s 18 next [] 0 = some r) : Ev (fun k => crosswayref07_Head.f k next s) (headR r.1 0) := by
  unfold crosswayref07_Head.f
  refine Ev.bind (rchain_ev next s hs hr) ?_
  have h16 := chain_sixteen s 18 next [] 0 _ (by simp) hr
  rcases chain_row s 18 next [] 0 _ hr with ⟨e, he, rfl⟩ | ⟨xs, last, e, rfl, hx⟩
  · exact ev_neg he (ev_eq fun _ => rfl)
  · rw [List.nil_append] at h16 ⊢
    simp only at h16
    exact ev_pos (by first | exact True.intro | exact rfl) (rhead_loop hs xs (by omega) xs [] next 0 last e 0 rfl hx (by omega))
theorem chains_loop (next : Int) (s : ByteArray) (hs : s.size ≤ 140737488355232) {l : List S41} {a b e : Int} (hr : ip6_Chain.l s 18 next [] 0 = some (l, a, b, e)) (hl : l.length ≤ 16) :
    ∀ (d : Nat) (m : List S41) (i : Nat), m.length ≤ 16 → i + d = m.length → Ev (fun k => crosswaylaw07_SixChains.l0 k next s true m a b e l a b e true (i : Int)) true
  | 0, m, i, hm, hi => by
    obtain ⟨r', h1, h2⟩ := chain_ok next s (by omega)
    obtain rfl : r' = (l, a, b, e) := by rw [hr] at h2; exact (Option.some.inj h2).symm
    refine Ev.step (fun k => by simp only [crosswaylaw07_SixChains.l0]; rfl) ?_
    refine ev_neg (by omega) (ev_bind h1 (ev_pos (by first | exact True.intro | exact rfl) (ev_pos (by first | exact True.intro | exact rfl) (Ev.bind (same_ev l (by omega)) (ev_pos (by first | exact True.intro | exact rfl) (ev_pos (by first | exact True.intro | exact rfl) (ev_pos (by first | exact True.intro | exact rfl) (ev_pos (by first | exact True.intro | exact rfl) (Ev.bind (head_ev next s hs hr) (Ev.bind (rhead_ev next s hs hr) (ev_eq fun _ => ?_)))))))))))
    simp
  | d + 1, m, i, hm, hi => by
    refine Ev.step (fun k => by simp only [crosswaylaw07_SixChains.l0]; rfl) ?_
    refine ev_pos (by omega) (ev_pos (by omega) ?_)
    have ew : wrap64 ((i : Int) + 1) = ((i + 1 : Nat) : Int) := by rw [w64 (by omega) (by omega)]; omega
    rw [ew]
    exact chains_loop next s hs hr hl d _ (i + 1) (by rw [List.length_set]; exact hm) (by rw [List.length_set]; omega)
theorem SixChains (next : Int) (s : ByteArray) (hn : (Lit.int .i64 next).wf = true) (hs : s.size ≤ 140737488351232) : ∃ k, crosswaylaw07_SixChains.f k next s = some true := by
  obtain ⟨⟨l, a, b, e⟩, h1, h2⟩ := chain_ok next s (by omega)
  have h16 : l.length ≤ 16 := chain_sixteen s 18 next [] 0 _ (by simp) h2
  refine Ev.rounds (r := true) ?_
  unfold crosswaylaw07_SixChains.f
  exact Ev.bind awake_ev (ev_bind h1 (Ev.bind (rchain_ev next s (by omega) h2) (Ev.bind (same_ev l (by omega)) (chains_loop next s (by omega) h2 h16 l.length l 0 h16 (by omega)))))
end Go.Proofs.Ytfkdmdacicahcaa.Pure
