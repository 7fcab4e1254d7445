/-
  The pure law NdMore: options behind an Advert's own change nothing of what it tells. No program in sight but its Lean functions. Conditions: those of each theorem.
-/
import Derived.Test.YtkpncagfhiceoaaPBasex17
import Derived.Test.YtkpncagfhiceoaaPureNdTaken
set_option linter.unusedVariables false
set_option linter.unusedSimpArgs false
namespace Go.Proofs.Ytkpncagfhiceoaa.Pure
open Go.RowKit Go.Proofs.Ytkpncagfhiceoaa.PBase Go.Proofs.YtkpncagfhiceoaaW.PrintWords Go.Proofs.YtkpncagfhiceoaaW.PrintLast Go.Proofs.Ytkpncagfhiceoaa.MTally Go.Proofs.Ytkpncagfhiceoaa.MBe
theorem zeros_bytes (n : Nat) : Bytes (List.replicate n (0 : Int)) := by
  intro x hx
  have := List.eq_of_mem_replicate hx
  omega
theorem two_bytes {a b : Int} (h1 : 0 ≤ a ∧ a ≤ 255) (h2 : 0 ≤ b ∧ b ≤ 255) : Bytes [a, b] := by
  intro x hx
  simp only [List.mem_cons, List.not_mem_nil, or_false] at hx
  omega
theorem opts_block {b n : Int} (hb : 0 ≤ b ∧ b ≤ 255) (hn : 1 ≤ n ∧ n ≤ 4) : opts ([b, n] ++ List.replicate (8 * n - 2).toNat 0) = ([⟨b, strOfNums (List.replicate (8 * n - 2).toNat 0)⟩], 0) := by
  have hB : Bytes ([b, n] ++ List.replicate (8 * n - 2).toNat (0 : Int)) := Bytes.append (two_bytes hb (by omega)) (zeros_bytes _)
  have hl : ([b, n] ++ List.replicate (8 * n - 2).toNat (0 : Int)).length = (8 * n).toNat := by rw [List.length_append, List.length_replicate]; simp only [List.length_cons, List.length_nil]; omega
  rw [opts_eq hB (by omega), show rd ([b, n] ++ List.replicate (8 * n - 2).toNat (0 : Int)) 1 = n from rfl, show rd ([b, n] ++ List.replicate (8 * n - 2).toNat (0 : Int)) 0 = b from rfl, if_neg (by omega), if_neg (by omega), List.drop_eq_nil_of_le (by omega), opts_nil, if_pos rfl, List.take_of_length_le (by omega)]
  rfl
section
variable {h l : Int} {br ba bo has : Bool} {m : Int} (l1 l2 : List Int) (hb : mayB true h l has m = true) (hh : 0 ≤ h ∧ h ≤ 18446744073709551615) (hl : 0 ≤ l ∧ l ≤ 18446744073709551615) (hm : 0 ≤ m ∧ m ≤ 18446744073709551615)
include hb hh hl hm
theorem more_end (i : Int) (acc : List Int) (hB : Bytes acc) (ha : acc.length ≤ 640) (ho : (opts acc).2 = 0) (hk : ∀ x ∈ (opts acc).1, x.f0 ≠ 2) :
    Ev (fun k => crosswaylaw09_NdMore.j1 k l1 l2 true acc i false true h l br ba bo has m true 136 0 (nd_laid.rest br ba bo) (strOfNums (D 2 true h l has m))) true := by
  obtain ⟨_, h1, h2, h3⟩ := may_of hb
  have hd := D_bytes (opt := 2) (by decide) h l has m
  have hdl := D_length 2 h l has m
  have hsz : (strOfNums (D 2 true h l has m)).size + (strOfNums acc).size = (D 2 true h l has m).length + acc.length := by rw [MBytes.size_ofNums, MBytes.size_ofNums]
  obtain ⟨s, hs⟩ : ∃ s, strOfNums (D 2 true h l has m) ++ strOfNums acc = s := ⟨_, rfl⟩
  have hs1 : s = strOfNums (D 2 true h l has m ++ acc) := by apply MBytes.inj; rw [← hs, MBytes.append, MBytes.ofNums hd, MBytes.ofNums hB, MBytes.ofNums (hd.append hB)]
  have hs2 : bytesOf s = D 2 true h l has m ++ acc := by rw [hs1, MBytes.ofNums (hd.append hB)]
  have hs3 : s.size = (D 2 true h l has m).length + acc.length := by rw [hs1, MBytes.size_ofNums, List.length_append]
  have hop : opts ((bytesOf s).drop 16) = (one 2 has m ++ (opts acc).1, 0) := by
    rw [hs2, List.drop_append_of_le_length (by omega)]
    have h4 := opts_D (opt := 2) (by decide) h l has m
    have h5 := opts_append ((D 2 true h l has m).drop 16).length (x := (D 2 true h l has m).drop 16) (y := acc) (Nat.le_refl _) (hd.drop _) hB (by rw [h4])
    rw [if_pos ho, h4] at h5; exact h5
  have h4 := taken_ev (kd := 136) (opt := 2) (rest := nd_laid.rest br ba bo) (s := s) (six := true) (kind := 136) (code := 0) rfl rfl rfl (by omega) (by omega) (h := h) (l := l) (os := one 2 has m ++ (opts acc).1)
    (by rw [hs2, List.take_append_of_le_length (by omega)]; exact D_take ..) hh hl h1 hop
  have h5 := mac_one (opt := 2) (h := h) (l := l) ⟨hm.1, h2⟩ h3 (opts acc).1 hk
  rw [h5] at h4
  have h6 : Ev (fun k => nd_TakeTell.f k true 136 0 (nd_laid.rest br ba bo) s) (true, h, l, br, ba, bo, has, m, 0) := by
    unfold nd_TakeTell.f
    obtain ⟨q1, q2, q3⟩ := bits_back br ba bo
    refine Ev.bind h4 (ev_eq fun _ => ?_)
    rw [if_pos rfl, q1, q2, q3]
  refine Ev.step (fun k => by simp only [crosswaylaw09_NdMore.j1]; rfl) ?_
  refine ev_neg (by decide) (ev_pos (by omega) ?_)
  rw [hs]
  refine Ev.bind h6 (ev_pos (by first | exact True.intro | exact rfl) (ev_pos (by first | exact True.intro | exact rfl) (ev_eq fun _ => ?_)))
  cases br <;> cases ba <;> cases bo <;> cases has <;> simp
theorem more_loop (hl1 : l1.length ≤ 140737488351232) (hl2 : l2.length ≤ 140737488351232) (hb1 : Bytes l1) (hb2 : Bytes l2) : ∀ (d i : Nat) (acc : List Int), i + d = 20 → Bytes acc → acc.length ≤ 32 * i → (opts acc).2 = 0 → (∀ x ∈ (opts acc).1, x.f0 ≠ 2) →
    Ev (fun k => crosswaylaw09_NdMore.l0 k l1 l2 true acc (i : Int) true h l br ba bo has m true 136 0 (nd_laid.rest br ba bo) (strOfNums (D 2 true h l has m))) true := by
  intro d
  induction d with
  | zero =>
    intro i acc hi hB ha ho hk
    have he := more_end (br := br) (ba := ba) (bo := bo) l1 l2 hb hh hl hm (i : Int) acc hB (by omega) ho hk
    refine Ev.step (fun k => by simp only [crosswaylaw09_NdMore.l0]; rfl) ?_
    rw [show decide ((i : Int) < 20) = false from decide_eq_false (by omega)]
    by_cases c1 : (i : Int) < (l1.length : Int)
    · refine ev_pos c1 ?_
      by_cases c2 : (i : Int) < (l2.length : Int)
      · exact ev_pos c2 he
      · exact ev_neg c2 he
    · exact ev_neg c1 he
  | succ d ih =>
    intro i acc hi hB ha ho hk
    have he := more_end (br := br) (ba := ba) (bo := bo) l1 l2 hb hh hl hm (i : Int) acc hB (by omega) ho hk
    refine Ev.step (fun k => by simp only [crosswaylaw09_NdMore.l0]; rfl) ?_
    rw [show decide ((i : Int) < 20) = true from decide_eq_true (by omega)]
    by_cases c1 : (i : Int) < (l1.length : Int)
    case neg => exact ev_neg c1 he
    refine ev_pos c1 ?_
    by_cases c2 : (i : Int) < (l2.length : Int)
    case neg => exact ev_neg c2 he
    refine ev_pos c2 (Ev.step (fun k => by simp only [crosswaylaw09_NdMore.j1]; rfl) ?_)
    refine ev_pos (by first | exact True.intro | exact rfl) (ev_pos (by omega) (ev_pos c2 (ev_pos c1 ?_)))
    have r1 := rd_byte hb1 (i := i) (by omega)
    have r2 := rd_byte hb2 (i := i) (by omega)
    obtain ⟨q, hq⟩ : ∃ q, Int.tmod (rd l2 (i : Int)) 4 = q := ⟨_, rfl⟩
    have hq1 : 0 ≤ q ∧ q < 4 := by
      rw [← hq, Int.tmod_eq_emod_of_nonneg r2.1]; omega
    have e1 : wrap64 q = q := w64 (by omega) (by omega)
    have e2 : wrap64 (1 + q) = 1 + q := w64 (by omega) (by omega)
    have e3 : wrap64 (8 * (1 + q)) = 8 * (1 + q) := w64 (by omega) (by omega)
    have e4 : wrap64 (8 * (1 + q) - 2) = 8 * (1 + q) - 2 := w64 (by omega) (by omega)
    have e5 : (1 + q) % 256 = 1 + q := Int.emod_eq_of_lt (by omega) (by omega)
    have e6 : wrap64 ((i : Int) + 1) = ((i + 1 : Nat) : Int) := by rw [w64 (by omega) (by omega)]; omega
    rw [hq, e1, e2, e3, e4, e5, e6]
    obtain ⟨n, hn⟩ : ∃ n, 1 + q = n := ⟨_, rfl⟩
    rw [hn]
    clear e1 e2 e3 e4 e5 e6 hq
    have hn1 : 1 ≤ n ∧ n ≤ 4 := by omega
    clear hn hq1
    have key : ∀ b : Int, 0 ≤ b ∧ b ≤ 255 → b ≠ 2 → Ev (fun k => crosswaylaw09_NdMore.l0 k l1 l2 true (acc ++ [b, n] ++ List.replicate (8 * n - 2).toNat 0) ((i + 1 : Nat) : Int) true h l br ba bo has m true 136 0 (nd_laid.rest br ba bo) (strOfNums (D 2 true h l has m))) true := by
      intro b hb0 hb2
      have hop := opts_append acc.length (x := acc) (y := [b, n] ++ List.replicate (8 * n - 2).toNat 0) (Nat.le_refl _) hB (Bytes.append (two_bytes hb0 (by omega)) (zeros_bytes _)) ho
      rw [opts_block hb0 (by omega), if_pos rfl, ← List.append_assoc] at hop
      refine ih (i + 1) _ (by omega) ((hB.append (two_bytes hb0 (by omega))).append (zeros_bytes _)) ?_ (by rw [hop]) ?_
      · rw [List.length_append, List.length_append, List.length_replicate]; simp only [List.length_cons, List.length_nil]; omega
      · rw [hop]
        intro x hx
        rcases List.mem_append.mp hx with hx | hx
        · exact hk x hx
        · rw [List.mem_singleton] at hx; rw [hx]; exact hb2
    by_cases c3 : rd l1 (i : Int) = 2
    · exact ev_pos c3 (ev_bind rfl (ev_pos (by simp only [List.length_cons, List.length_nil]; omega) (ev_bind rfl (ev_pos (by omega) (ev_pos (by simp only [List.length_append, List.length_cons, List.length_nil]; omega) (key 3 (by decide) (by decide)))))))
    · exact ev_neg c3 (ev_bind rfl (ev_pos (by simp only [List.length_cons, List.length_nil]; omega) (ev_bind rfl (ev_pos (by omega) (ev_pos (by simp only [List.length_append, List.length_cons, List.length_nil]; omega) (key _ r1 c3))))))
end
theorem NdMore (t : Bool) (h l : Int) (br ba bo has : Bool) (m : Int) (l1 l2 : List Int) (w1 : (Lit.int .u64 h).wf = true) (w2 : (Lit.int .u64 l).wf = true) (w3 : (Lit.int .u64 m).wf = true)
    (g1 : l1.length * 1 ≤ 140737488351232) (g2 : ∀ x ∈ l1, (Lit.int .u8 x).wf = true) (g3 : l2.length * 1 ≤ 140737488351232) (g4 : ∀ x ∈ l2, (Lit.int .u8 x).wf = true) :
    ∃ k, crosswaylaw09_NdMore.f k t h l br ba bo has m l1 l2 = some true := by
  refine Ev.rounds (r := true) ?_
  unfold crosswaylaw09_NdMore.f
  refine Ev.bind awake_ev (Ev.bind (laid_ev 136 (nd_laid.rest br ba bo) 2 t h l has m) ?_)
  cases hb : mayB t h l has m
  · rw [show msg 136 (nd_laid.rest br ba bo) 2 t h l has m = (false, 0, 0, 0, ⟨#[]⟩, 80) by unfold msg; rw [hb]; rfl]
    exact ev_neg (by decide) (ev_eq fun _ => rfl)
  · rw [show msg 136 (nd_laid.rest br ba bo) 2 t h l has m = (true, 136, 0, nd_laid.rest br ba bo, strOfNums (D 2 t h l has m), 0) by unfold msg; rw [hb]; rfl]
    obtain ⟨ht, _⟩ := may_of hb
    subst ht
    have h20 := more_loop (br := br) (ba := ba) (bo := bo) l1 l2 hb (u64_of_wf w1) (u64_of_wf w2) (u64_of_wf w3) (by omega) (by omega) (bytes_of_wf g2) (bytes_of_wf g4) 20 0 [] rfl Bytes.nil (Nat.zero_le _) (by rw [opts_nil]) (by rw [opts_nil]; intro x hx; cases hx)
    refine ev_pos rfl ?_
    dsimp only
    exact h20
end Go.Proofs.Ytkpncagfhiceoaa.Pure
