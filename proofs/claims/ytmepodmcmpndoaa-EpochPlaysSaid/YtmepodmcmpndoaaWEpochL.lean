/-
  The law EpochPlays: an epoch answers any calls as the document's does, and tells all alike behind each; what it told before is its owner's; for any numbers and any steps. Conditions: those of each theorem.
-/
import Derived.Test.YtmepodmcmpndoaaWEpochD
set_option linter.unusedVariables false
set_option linter.unusedSimpArgs false
namespace Go.Proofs.Ytmepodmcmpndoaa.WEp
open Go.RowKit Go.Proofs.Ytmepodmcmpndoaa.PBase Go.Proofs.YtmepodmcmpndoaaW.PrintWords Go.Proofs.YtmepodmcmpndoaaW.PrintLast Go.Proofs.YtmepodmcmpndoaaW.PrintMore Go.Proofs.Ytmepodmcmpndoaa.Ep Go.Proofs.Ytmepodmcmpndoaa.EpM Go.MuLone
/-- Both epochs side by side. -/
structure Pair (w : World) (B g a r s g2 a2 b2 i2 : Nat) (st : St) (H : List Int) (st2 : St) : Prop where mk ::
  mem : Mem 56 w B g a r s 0 st
  rb : RB w B g2 a2 b2 i2 H st2
  dis : ∀ k, Its g a r s k → ¬ Its g2 a2 b2 i2 k
/-- A row that is neither's. -/
structure Kq (w : World) (g a r s g2 a2 b2 i2 b n c : Nat) (xs : List Int) : Prop where mk ::
  row : Row w 0 b n c xs
  n1 : ¬ Its g a r s b
  n2 : ¬ Its g2 a2 b2 i2 b
theorem its_new {g a r s a' n k : Nat} (ha : a' = a ∨ n ≤ a') (h : Its g a' r s k) : Its g a r s k ∨ n ≤ k := by
  rcases h with e | e | e | e
  · exact .inl (.inl e)
  · rcases ha with q | q
    · exact .inl (.inr (.inl (e.trans q)))
    · exact .inr (by omega)
  · exact .inl (.inr (.inr (.inl e)))
  · exact .inl (.inr (.inr (.inr e)))
theorem its_new2 {g a b i a' b' n k : Nat} (ha : a' = a ∨ n ≤ a') (hb : b' = b ∨ n ≤ b') (h : Its g a' b' i k) : Its g a b i k ∨ n ≤ k := by
  rcases h with e | e | e | e
  · exact .inl (.inl e)
  · rcases ha with q | q
    · exact .inl (.inr (.inl (e.trans q)))
    · exact .inr (by omega)
  · rcases hb with q | q
    · exact .inl (.inr (.inr (.inl (e.trans q))))
    · exact .inr (by omega)
  · exact .inl (.inr (.inr (.inr e)))
section
variable {w w1 : World} {B g a r s g2 a2 b2 i2 a' a2' b2' b n c : Nat} {st st' st2 st2' : St} {H H' xs : List Int}
theorem Pair.stepE (p : Pair w B g a r s g2 a2 b2 i2 st H st2) (hm : Mem 56 w1 B g a' r s 0 st') (hf : Fr (Its g a r s) w w1) (ha : a' = a ∨ w.heap.size ≤ a') : Pair w1 B g a' r s g2 a2 b2 i2 st' H st2 := by
  refine ⟨hm, p.rb.keep hf (fun k => p.dis k), fun k hk hk2 => ?_⟩
  rcases its_new ha hk with q | q
  · exact p.dis k q hk2
  · have := (p.rb.lt k hk2).2; omega
theorem Pair.stepD (p : Pair w B g a r s g2 a2 b2 i2 st H st2) (hm : RB w1 B g2 a2' b2' i2 H' st2') (hf : Fr (Its g2 a2 b2 i2) w w1) (ha : a2' = a2 ∨ w.heap.size ≤ a2') (hb : b2' = b2 ∨ w.heap.size ≤ b2') : Pair w1 B g a r s g2 a2' b2' i2 st H' st2' := by
  refine ⟨p.mem.keep hf (fun k hk hk2 => p.dis k hk2 hk), hm, fun k hk hk2 => ?_⟩
  rcases its_new2 ha hb hk2 with q | q
  · exact p.dis k hk q
  · have := (p.mem.lt k hk).2; omega
theorem Pair.below (p : Pair w B g a r s g2 a2 b2 i2 st H st2) (hb : Below w.heap.size w w1) : Pair w1 B g a r s g2 a2 b2 i2 st H st2 := ⟨p.mem.keepBelow hb, p.rb.keepBelow hb, p.dis⟩
theorem Pair.set (p : Pair w B g a r s g2 a2 b2 i2 st H st2) (k : Kq w g a r s g2 a2 b2 i2 b n c xs) (j : Nat) (x : Int) : Pair (w.setCell ⟨b, j, none⟩ (.int .i64 x)) B g a r s g2 a2 b2 i2 st H st2 :=
  ⟨p.mem.keep (Fr.set w b j _) (fun q hq hi => k.n1 (by rw [← hq]; exact hi)), p.rb.keep (Fr.set w b j _) (fun q hq hi => k.n2 (by rw [← hq]; exact hi)), p.dis⟩
theorem Kq.set (k : Kq w g a r s g2 a2 b2 i2 b n c xs) (j : Nat) (x : Int) : Kq (w.setCell ⟨b, j, none⟩ (.int .i64 x)) g a r s g2 a2 b2 i2 b n c (xs.set j x) := ⟨k.row.set j x, k.n1, k.n2⟩
theorem Kq.below (k : Kq w g a r s g2 a2 b2 i2 b n c xs) (hb : Below w.heap.size w w1) : Kq w1 g a r s g2 a2 b2 i2 b n c xs := ⟨pw_own_below k.row hb, k.n1, k.n2⟩
theorem Kq.stepE (k : Kq w g a r s g2 a2 b2 i2 b n c xs) (hf : Fr (Its g a r s) w w1) (ha : a' = a ∨ w.heap.size ≤ a') : Kq w1 g a' r s g2 a2 b2 i2 b n c xs := by
  have hl := k.row.lt
  refine ⟨hf.own k.row (fun q e x => by obtain rfl : b = q := (by simpa [Value.ownBlock] using e); exact k.n1 x), fun h => ?_, k.n2⟩
  rcases its_new ha h with q | q
  · exact k.n1 q
  · omega
theorem Kq.stepD (k : Kq w g a r s g2 a2 b2 i2 b n c xs) (hf : Fr (Its g2 a2 b2 i2) w w1) (ha : a2' = a2 ∨ w.heap.size ≤ a2') (hb : b2' = b2 ∨ w.heap.size ≤ b2') : Kq w1 g a r s g2 a2' b2' i2 b n c xs := by
  have hl := k.row.lt
  refine ⟨hf.own k.row (fun q e x => by obtain rfl : b = q := (by simpa [Value.ownBlock] using e); exact k.n2 x), k.n1, fun h => ?_⟩
  rcases its_new2 ha hb h with q | q
  · exact k.n2 q
  · omega
/-- What e's call laid anew. -/
theorem Kq.new (p : Pair w B g a r s g2 a2 b2 i2 st H st2) (hr : Row w1 w.heap.size b n c xs) (ha : a' = a ∨ b ≠ a') : Kq w1 g a' r s g2 a2 b2 i2 b n c xs := by
  have hb := hr.base
  refine ⟨hr.reb (Nat.zero_le _), fun h => ?_, fun h => by have := (p.rb.lt b h).2; omega⟩
  rcases h with e | e | e | e
  · have := (p.mem.lt g (.inl rfl)).2; omega
  · rcases ha with q | q
    · have := (p.mem.lt a (.inr (.inl rfl))).2; omega
    · exact q e
  · have := (p.mem.lt r (.inr (.inr (.inl rfl)))).2; omega
  · have := (p.mem.lt s (.inr (.inr (.inr rfl)))).2; omega
theorem Pair.sub (p : Pair w B g a r s g2 a2 b2 i2 st H st2) : (∀ k, Its g a r s k → B ≤ k) ∧ (∀ k, Its g2 a2 b2 i2 k → B ≤ k) := ⟨fun k hk => (p.mem.lt k hk).1, fun k hk => (p.rb.lt k hk).1⟩
/-- What the document's call told, to be read. -/
theorem told_C {V : Value} {L : List Int} (h : w1.ownsRow B 3 1 V L.length (nums .i64 L)) : ∃ A c, V = .slice A L.length c ∧ L.length ≤ c ∧ Kd.C (Kd.int .i64) w1 A L.length L := by
  obtain ⟨A, c, rfl, hr⟩ := own_reads h
  refine ⟨A, c, rfl, ?_, Kd.C_of_reads (enc := Value.int .i64) (d := (0 : Int)) hr⟩
  rcases h.2 with ⟨e, e2⟩ | ⟨q, cap, cur, e, _, _, h1, _⟩
  · omega
  · injection e with _ _ e3; omega
theorem nil_C (w : World) : Kd.C (Kd.int .i64) w none 0 [] := Kd.C_of_reads (enc := Value.int .i64) (d := (0 : Int)) ⟨rfl, by omega, fun h => absurd h (by omega)⟩
end
/-- Behind i steps. -/
structure InvL (i : Nat) (H : List Int) (st : St) : Prop where mk ::
  both : Both H st
  len : H.length ≤ i + 1
section
variable {i : Nat} {H : List Int} {st : St}
theorem InvL.big (h : InvL i H st) (hi : i ≤ 201) : st.given + st.all.length ≤ 90000 := by have := h.both.big; have := h.len; omega
theorem InvL.big2 (h : InvL i H st) (hi : i ≤ 201) : st.all.length ≤ 90000 := by have := h.big hi; have := h.both.ok.given; omega
end
set_option maxHeartbeats 8000000 in
set_option maxRecDepth 100000 in
theorem plays (n0 v0 : Int) (A2 : Option Addr) (c2 : Nat) (ls : List S32) (w : World) (hr2 : Kd.C k32 w A2 ls.length ls) (hc2 : ls.length ≤ c2) (hl2 : ls.length ≤ 140737488351232) :
    Calls Try.prog 3 #[.int .i64 n0, .int .i64 v0, .slice A2 ls.length c2] w fun e w' => e = .returned (.bool true) ∧ Below w.heap.size w w' := by
  have HR := Aside0.mk hr2
  clear hr2 hc2
  by_cases hbad : n0 < 1 ∨ 16 < n0
  · have HBAD := Aside0.mk hbad
    clear hbad
    go_enter Try.func3, Try.ntmps3
    go_wp2_with fail
    refine (awake_calls w).mono ?_
    rintro e w1 ⟨rfl, hb⟩
    have HB1 := Aside0.mk hb
    clear hb
    go_wp2_with fail
    refine (new_bad n0 v0 w1 HBAD.out).mono ?_
    rintro e w2 ⟨rfl, rfl⟩
    go_wp2_with fail
    refine (rnew_bad n0 v0 w1 HBAD.out).mono ?_
    rintro e w2 ⟨rfl, rfl⟩
    go_wp2_with fail
    refine wp_loop_rounds 1 ?_
    rw [rounds_succ]
    go_wp2_with fail
    go_ret
    exact ⟨rfl, HB1.out⟩
  · obtain ⟨N, hN⟩ : ∃ N : Nat, n0 = (N : Int) := ⟨n0.toNat, by omega⟩
    subst hN
    have hN1 : 1 ≤ N := by omega
    have hN2 : N ≤ 16 := by omega
    clear hbad
    go_enter Try.func3, Try.ntmps3
    go_wp2_with fail
    refine (awake_calls w).mono ?_
    rintro e w1 ⟨rfl, hb⟩
    have HB1 := Aside0.mk hb
    clear hb
    go_wp2_with fail
    refine (new_calls N v0 w1 hN1 hN2).mono ?_
    rintro e w2 ⟨g, a, r, s, rfl, hm, hb⟩
    have HM := Aside0.mk (hm.lower HB1.out.size)
    have HB2 := Aside0.mk (below_step HB1.out hb)
    clear hb hm HB1
    go_wp2_with fail
    refine (rnew_calls N v0 w2 hN1 hN2).mono ?_
    rintro e w3 ⟨g2, a2, b2, i2, rfl, hm, hb⟩
    have HP := Aside0.mk (show Pair w3 w.heap.size g a r s g2 a2 b2 i2 (St.made N v0) [v0] (St.made N v0) from ⟨HM.out.keepBelow hb, hm.lower HB2.out.size, fun k h1 h2 => by have q1 := (HM.out.lt k h1).2; have q2 := (hm.lt k h2).1; omega⟩)
    have HB := Aside0.mk (below_step HB2.out hb)
    have HI := Aside0.mk (show InvL 0 [v0] (St.made N v0) from ⟨Both.made hN1 hN2 v0, by simp⟩)
    clear hb hm HB2 HM
    go_wp2_with fail
    go_loopg [12] 200 (fun kq v12 w' => ∃ (i a a2 b2 : Nat) (st : St) (H : List Int), v12 = .int .i64 (i : Int) ∧ Aside0 (i + kq = 200) ∧ Aside0 (InvL i H st) ∧ Aside0 (Pair w' w.heap.size g a r s g2 a2 b2 i2 st H st) ∧ Aside0 (Below w.heap.size w w'))
    case atStart => exact ⟨0, a, a2, b2, _, _, rfl, ⟨rfl⟩, HI, HP, HB⟩
    case round =>
      clear HI HP HB
      obtain ⟨i, a, a2, b2, st, H, rfl, HK, HI, HP, HB⟩ := hrel
      have hk := HK.out
      by_cases hgo : i < ls.length ∧ i < 200
      · obtain ⟨h1, h2⟩ := hgo
        obtain ⟨ad0, e0, hx0, hx1⟩ := at_take HR.out h1
        subst e0
        obtain ⟨x, hx⟩ : ∃ x, ls[i].f0 = x := ⟨_, rfl⟩
        obtain ⟨y, hy⟩ : ∃ y, ls[i].f1 = y := ⟨_, rfl⟩
        rw [hx] at hx0
        rw [hy] at hx1
        replace hx0 := pw_cell_below HB.out hx0
        replace hx1 := pw_cell_below HB.out hx1
        obtain ⟨ji, hji⟩ : ∃ ji : Int, (i : Int) = ji := ⟨_, rfl⟩
        rw [show i * 2 = ji.toNat * 2 by omega] at hx0 hx1
        have q0 : (0 : Int) ≤ ji := by omega
        have q1 : ji < (ls.length : Int) := by omega
        have q2 : ji < 200 := by omega
        rw [hji]
        have HJ := Aside0.mk hji
        obtain ⟨q, hq, hq0, hq3⟩ := and3_of x
        have hbig := HI.out.big (by omega)
        have hgl := HB.out.size
        have HIB := Aside0.mk h2
        have hH : H.length ≤ 201 := by have := HI.out.len; omega
        clear h1 h2 hji hx hy hk
        go_upto_block 2 with (fail)
        obtain ⟨wq, hwq⟩ : ∃ wq, wr.alloc (.cells #[.int .i64 x, .int .i64 y] 32) = wq := ⟨_, rfl⟩
        rw [hwq]
        have hbq : Below wr.heap.size wr wq := by rw [← hwq]; exact below_alloc (Below.refl _ _) _
        obtain ⟨lb, hlb⟩ : ∃ lb, wr.heap.size = lb := ⟨_, rfl⟩
        have CQ := Aside0.mk (show wq.cell? ⟨lb, 1, none⟩ = some (.int .i64 y) ∧ lb < wq.heap.size ∧ ¬ Its g a r s lb from by
          refine ⟨?_, ?_, fun h => ?_⟩
          · rw [← hwq, ← hlb]; exact MStr.alloc_cell _ _ _ 1 _ rfl
          · rw [← hwq, ← hlb]; simp
          · have := (HP.out.mem.lt lb h).2; omega)
        replace HP := Aside0.mk (HP.out.below hbq)
        replace HB := Aside0.mk (below_step HB.out hbq)
        have hgl := HB.out.size
        rw [hlb]
        clear hwq hbq hx0 hx1 hq hlb
        go_cut [] (fun wc => ∃ (a' a2' b2' : Nat) (st' : St) (H' : List Int), Aside0 (InvL (i + 1) H' st') ∧ Aside0 (Pair wc w.heap.size g a' r s g2 a2' b2' i2 st' H' st') ∧ Aside0 (Below w.heap.size w wc))
        case first =>
          have cy := CQ.out.1
          by_cases z0 : q = 0
          · subst z0
            go_wp2_with fail
            refine (publish_calls HP.out.mem hgl HI.out.both.ok hbig y).mono ?_
            rintro e w3 ⟨a', q', cq, rfl, hqr, hmm, hle, hqa, hf⟩
            have HB3 := Aside0.mk (hf.below HB.out hgl HP.out.sub.1)
            have HP3 := Aside0.mk (HP.out.stepE hmm hf (.inr hle))
            have HQ3 := Aside0.mk (Kq.new HP.out hqr (.inr hqa))
            have HQB := Aside0.mk (show w.heap.size ≤ q' from Nat.le_trans hgl hqr.base)
            have cy3 := (World.cell?_of_block (a := ⟨lb, 1, none⟩) (hf.block lb CQ.out.2.1 CQ.out.2.2)).trans cy
            have HI3 := Aside0.mk (show InvL (i + 1) (H ++ [y]) (st.publish y) from ⟨HI.out.both.publish y, by have := HI.out.len; simp; omega⟩)
            have hn9 : (st.pubs y).length ≤ 1000 := by
              have h1 := pubs_given HI.out.both.ok y
              have h2 := HI3.out.both.big
              have h3 := HI.out.both.ok.given
              have h4 := HI3.out.len
              have h5 : (H ++ [y]).length = H.length + 1 := by simp
              omega
            obtain ⟨L, hL⟩ : ∃ L, st.pubs y = L := ⟨_, rfl⟩
            have HLL := Aside0.mk hL
            rw [hL] at HQ3 hn9 ⊢
            obtain ⟨n, hn⟩ : ∃ n, L.length = n := ⟨_, rfl⟩
            have HNN := Aside0.mk hn
            rw [hn] at HQ3 hn9 ⊢
            clear hqr hmm hle hqa hf hL hn cy
            go_wp2_with fail
            refine (rpublish_calls HP3.out.rb HB3.out.size HI.out.both (by omega) y).mono ?_
            rintro e w4 ⟨a2', b2', V, rfl, hV, hrb, ha, hb, hf⟩
            rw [HLL.out] at hV
            obtain ⟨A, c, rfl, hc1, hC⟩ := told_C hV
            rw [HNN.out] at hC hc1 ⊢
            have HP4 := Aside0.mk (HP3.out.stepD hrb hf ha hb)
            have HQ4 := Aside0.mk (HQ3.out.stepD hf ha hb)
            have HB4 := Aside0.mk (hf.below HB3.out HB3.out.size HP3.out.sub.2)
            have HC4 := Aside0.mk hC
            have HC5 := Aside0.mk hc1
            clear hV hrb ha hb hf hC hc1 cy3 HP3 HQ3
            go_wp2_with fail
            refine (same_calls (some ⟨q', 0, none⟩) A n cq n c L L w4 (row_C HQ4.out.row) HQ4.out.row.le.1 HC4.out HC5.out (by have := HNN.out; omega)).mono ?_
            rintro e w5 ⟨rfl, hd⟩
            rw [show (decide (L = L)) = true by simp]
            have HP5 := Aside0.mk (HP4.out.below hd.below)
            have HQ5 := Aside0.mk (HQ4.out.below hd.below)
            have HB5 := Aside0.mk (below_step HB4.out hd.below)
            clear hd HP4 HQ4 HC4 HC5
            go_wp2_with fail
            obtain ⟨wo, rfl⟩ : ∃ wo : World, wo = w5 := ⟨_, rfl⟩
            go_loopg [16] n (fun kq v16 w' => ∃ (k : Nat) (xs : List Int), v16 = .int .i64 (k : Int) ∧ Aside0 (k + kq = n) ∧ Aside0 (Kq w' g a' r s g2 a2' b2' i2 q' n cq xs) ∧ Aside0 (Pair w' w.heap.size g a' r s g2 a2' b2' i2 (st.publish y) (H ++ [y]) (st.publish y)) ∧ Aside0 (Below w.heap.size w w'))
            case atStart => exact ⟨0, L, rfl, ⟨by omega⟩, HQ5, HP5, HB5⟩
            case round =>
              clear HQ5 HP5 HB5
              obtain ⟨k, xs, rfl, HK5, HQ, HP, HB⟩ := hrel
              by_cases hlt : k < n
              · obtain ⟨c1, d1⟩ := HQ.out.row.cell k hlt
                have hlt2 : (k : Int) < (n : Int) := by omega
                have HLT := Aside0.mk hlt
                have HQ6 := Aside0.mk (HQ.out.set k (-77))
                have HP6 := Aside0.mk (HP.out.set HQ.out k (-77))
                have HF6 := Aside0.mk (show Below w.heap.size w (wr.setCell ⟨q', k, none⟩ (.int .i64 (-77))) from (Fr.set wr q' k _).below HB.out HB.out.size (fun z hz => by rw [hz]; exact HQB.out))
                clear hlt
                go_wp2_with fail
                go_roundg (gk - 1)
                case measure => have := HK5.out; have := HLT.out; omega
                case rel => exact ⟨k + 1, _, by go_num, ⟨by have := HK5.out; have := HLT.out; omega⟩, HQ6, HP6, HF6⟩
              · have hge : ¬ (k : Int) < (n : Int) := by omega
                clear hlt
                go_wp2_with fail
                go_meet
                exact ⟨a', a2', b2', _, _, HI3, HP, HB⟩
          · by_cases z1 : q = 1
            · subst z1
              go_wp2_with fail
              refine (enter_calls HP.out.mem HI.out.both.ok hbig y).mono ?_
              rintro e w3 ⟨⟨v3, x3, rfl, h3⟩, hmm, hf⟩
              have HB3 := Aside0.mk (hf.below HB.out hgl HP.out.sub.1)
              have HP3 := Aside0.mk (HP.out.stepE hmm hf (.inl rfl))
              have cy3 := (World.cell?_of_block (a := ⟨lb, 1, none⟩) (hf.block lb CQ.out.2.1 CQ.out.2.2)).trans cy
              have HI3 := Aside0.mk (show InvL (i + 1) H (st.enter y) from ⟨HI.out.both.enter y, by have := HI.out.len; omega⟩)
              have H3 := Aside0.mk h3
              clear hmm hf cy h3
              go_wp2_with fail
              refine (renter_calls HP3.out.rb HI.out.both (by omega) y).mono ?_
              rintro e w4 ⟨⟨v4, x4, rfl, h4⟩, hrb, hf⟩
              obtain ⟨rfl, rfl⟩ : v4 = v3 ∧ x4 = x3 := by
                rcases H3.out with ⟨o1, rfl, rfl⟩ | ⟨o1, rfl, rfl⟩ <;> rcases h4 with ⟨o2, rfl, rfl⟩ | ⟨o2, rfl, rfl⟩
                · exact ⟨rfl, rfl⟩
                · exact absurd (o1.symm.trans o2) (by decide)
                · exact absurd (o1.symm.trans o2) (by decide)
                · exact ⟨rfl, rfl⟩
              have HP4 := Aside0.mk (HP3.out.stepD hrb hf (.inl rfl) (.inl rfl))
              have HB4 := Aside0.mk (hf.below HB3.out HB3.out.size HP3.out.sub.2)
              clear hrb hf h4 H3 cy3
              go_wp2_with fail
              go_meet
              exact ⟨a, a2, b2, _, _, HI3, HP4, HB4⟩
            · go_wp2_with fail
              refine (leave_calls HP.out.mem HI.out.both.ok hbig y).mono ?_
              rintro e w3 ⟨a', ⟨V, x3, rfl, h3⟩, hmm, hf⟩
              have cy3 := (World.cell?_of_block (a := ⟨lb, 1, none⟩) (hf.block lb CQ.out.2.1 CQ.out.2.2)).trans cy
              have HB3 := Aside0.mk (hf.below HB.out hgl HP.out.sub.1)
              have HI3 := Aside0.mk (show InvL (i + 1) H (st.leave y) from ⟨HI.out.both.leave y, by have := HI.out.len; omega⟩)
              have hn9 : (st.leaves y).length ≤ 1000 := by
                have h1 := leaves_given HI.out.both.ok y
                have h2 := HI3.out.both.big
                have h3 := HI.out.both.ok.given
                have h4 := HI3.out.len
                omega
              obtain ⟨L, hL⟩ : ∃ L, st.leaves y = L := ⟨_, rfl⟩
              have HLL := Aside0.mk hL
              rw [hL] at h3 hn9
              rcases h3 with ⟨o1, rfl, hle, q', cq, rfl, hqr, hqa⟩ | ⟨o1, rfl, rfl, rfl, hnil⟩
              · obtain ⟨n, hn⟩ : ∃ n, L.length = n := ⟨_, rfl⟩
                have HNN := Aside0.mk hn
                rw [hn] at hqr hn9 ⊢
                have HP3 := Aside0.mk (HP.out.stepE hmm hf (.inr hle))
                have HQ3 := Aside0.mk (Kq.new HP.out hqr (.inr hqa))
                have HO := Aside0.mk o1
                clear hqr hmm hle hqa hf hL hn cy o1
                go_wp2_with fail
                refine (rleave_calls HP3.out.rb HI.out.both (by omega) y).mono ?_
                rintro e w4 ⟨V, x4, rfl, h4, hV, hrb, hf⟩
                obtain rfl : x4 = 0 := by rcases h4 with ⟨o2, h⟩ | ⟨o2, h⟩; exact h; exact absurd (HO.out.symm.trans o2) (by decide)
                rw [HLL.out] at hV
                obtain ⟨A, c, rfl, hc1, hC⟩ := told_C hV
                rw [HNN.out] at hC hc1 ⊢
                have HP4 := Aside0.mk (HP3.out.stepD hrb hf (.inl rfl) (.inl rfl))
                have HQ4 := Aside0.mk (HQ3.out.stepD hf (.inl rfl) (.inl rfl))
                have HB4 := Aside0.mk (hf.below HB3.out HB3.out.size HP3.out.sub.2)
                have HC4 := Aside0.mk hC
                have HC5 := Aside0.mk hc1
                clear hV hrb hf hC hc1 cy3 h4
                go_wp2_with fail
                refine (same_calls (some ⟨q', 0, none⟩) A n cq n c L L w4 (row_C HQ4.out.row) HQ4.out.row.le.1 HC4.out HC5.out (by have := HNN.out; omega)).mono ?_
                rintro e w5 ⟨rfl, hd⟩
                rw [show (decide (L = L)) = true by simp]
                have HP5 := Aside0.mk (HP4.out.below hd.below)
                have HB5 := Aside0.mk (below_step HB4.out hd.below)
                clear hd
                go_wp2_with fail
                go_meet
                exact ⟨a', a2, b2, _, _, HI3, HP5, HB5⟩
              · have HP3 := Aside0.mk (HP.out.stepE hmm hf (.inl rfl))
                have HO := Aside0.mk o1
                have HNIL := Aside0.mk hnil
                clear hmm hf hL cy o1 hnil
                go_wp2_with fail
                refine (rleave_calls HP3.out.rb HI.out.both (by omega) y).mono ?_
                rintro e w4 ⟨V, x4, rfl, h4, hV, hrb, hf⟩
                obtain rfl : x4 = 120 := by rcases h4 with ⟨o2, h⟩ | ⟨o2, h⟩; exact absurd (o2.symm.trans HO.out) (by decide); exact h
                rw [HLL.out, HNIL.out] at hV
                obtain ⟨A, c, rfl, hc1, hC⟩ := told_C hV
                have HP4 := Aside0.mk (HP3.out.stepD hrb hf (.inl rfl) (.inl rfl))
                have HB4 := Aside0.mk (hf.below HB3.out HB3.out.size HP3.out.sub.2)
                have HC4 := Aside0.mk hC
                clear hV hrb hf hC hc1 cy3 h4
                go_wp2_with fail
                refine (same_calls none A 0 0 0 c [] [] w4 (nil_C w4) (Nat.le_refl _) HC4.out (Nat.zero_le _) (by simp)).mono ?_
                rintro e w5 ⟨rfl, hd⟩
                rw [show (decide (([] : List Int) = [])) = true by simp]
                have HP5 := Aside0.mk (HP4.out.below hd.below)
                have HB5 := Aside0.mk (below_step HB4.out hd.below)
                clear hd
                go_wp2_with fail
                go_meet
                exact ⟨a', a2, b2, _, _, HI3, HP5, HB5⟩
        case rest =>
          clear HP HB hgl CQ hbig
          obtain ⟨a', a2', b2', st', H', HI', HP, HB⟩ := hcut
          have HKO := Aside0.mk (show i + gk = 200 from HK.out)
          clear HK HI hH
          have hi := HIB.out
          have hbig := HI'.out.big (by omega)
          have hbig2 := HI'.out.big2 (by omega)
          have hlen := HI'.out.len
          have hbg := HI'.out.both.big
          have hol := HI'.out.both.ok.len
          have hog := HI'.out.both.ok.given
          have hH1 : 1 ≤ H'.length := by omega
          have hH2 : H'.length ≤ 900 := by omega
          have HOK := Aside0.mk HI'.out.both.ok
          have HCU := Aside0.mk HI'.out.both.cur
          have hw9 : st'.wait.length ≤ 1000 := by have := wait_length HI'.out.both.ok; omega
          obtain ⟨W, hW⟩ : ∃ W, st'.wait = W := ⟨_, rfl⟩
          have HWW := Aside0.mk hW
          rw [hW] at hw9
          obtain ⟨n, hn⟩ : ∃ n, W.length = n := ⟨_, rfl⟩
          have HNN := Aside0.mk hn
          rw [hn] at hw9
          clear hi hlen hbg hol hog hW hn
          go_wp2_with fail
          refine (waiting_calls HP.out.mem HOK.out hbig2).mono ?_
          rintro e w3 ⟨q', cq, rfl, hqr, hmm, hf⟩
          rw [HWW.out, HNN.out] at hqr
          rw [HWW.out, HNN.out]
          have HQB := Aside0.mk (show w.heap.size ≤ q' from Nat.le_trans HB.out.size hqr.base)
          have HQ := Aside0.mk (Kq.new HP.out hqr (.inl rfl))
          replace HB := Aside0.mk (hf.below HB.out HB.out.size (fun k hk => by rw [hk]; exact HP.out.mem.bg))
          replace HP := Aside0.mk (HP.out.stepE hmm (frI hf) (.inl rfl))
          clear hqr hmm hf
          go_wp2_with fail
          refine (current_calls HP.out.mem HOK.out (by omega)).mono ?_
          rintro e w4 ⟨rfl, hmm, hf⟩
          replace HQ := Aside0.mk (HQ.out.stepE (frI (a := a') (r := r) (s := s) hf) (.inl rfl))
          replace HB := Aside0.mk (hf.below HB.out HB.out.size (fun k hk => by rw [hk]; exact HP.out.mem.bg))
          replace HP := Aside0.mk (HP.out.stepE hmm (frI hf) (.inl rfl))
          clear hmm hf
          go_wp2_with fail
          refine (rcurrent_calls HP.out.rb hH1 (by omega)).mono ?_
          rintro e w5 ⟨rfl, hd⟩
          rw [← HCU.out]
          replace HQ := Aside0.mk (HQ.out.below hd.below)
          replace HB := Aside0.mk (below_step HB.out hd.below)
          replace HP := Aside0.mk (HP.out.below hd.below)
          clear hd
          generalize st'.cur = cu at *
          go_wp2_with fail
          refine (rwaiting_calls HP.out.rb HI'.out.both hH2).mono ?_
          rintro e w6 ⟨V, rfl, hV, hb⟩
          rw [HWW.out] at hV
          obtain ⟨A, c, rfl, hc1, hC⟩ := told_C hV
          rw [HNN.out] at hC hc1 ⊢
          replace HQ := Aside0.mk (HQ.out.below hb)
          replace HB := Aside0.mk (below_step HB.out hb)
          replace HP := Aside0.mk (HP.out.below hb)
          have HC4 := Aside0.mk hC
          have HC5 := Aside0.mk hc1
          clear hV hb hC hc1
          go_wp2_with fail
          refine (same_calls (some ⟨q', 0, none⟩) A n cq n c W W w6 (row_C HQ.out.row) HQ.out.row.le.1 HC4.out HC5.out (by have := HNN.out; omega)).mono ?_
          rintro e w7 ⟨rfl, hd⟩
          rw [show (decide (W = W)) = true by simp]
          replace HQ := Aside0.mk (HQ.out.below hd.below)
          replace HB := Aside0.mk (below_step HB.out hd.below)
          replace HP := Aside0.mk (HP.out.below hd.below)
          clear hd HC4 HC5
          go_wp2_with fail
          obtain ⟨wo, rfl⟩ : ∃ wo : World, wo = w7 := ⟨_, rfl⟩
          go_loopg [26] n (fun kq v26 w' => ∃ (k : Nat) (xs : List Int), v26 = .int .i64 (k : Int) ∧ Aside0 (k + kq = n) ∧ Aside0 (Kq w' g a' r s g2 a2' b2' i2 q' n cq xs) ∧ Aside0 (Pair w' w.heap.size g a' r s g2 a2' b2' i2 st' H' st') ∧ Aside0 (Below w.heap.size w w'))
          case atStart => exact ⟨0, W, rfl, ⟨by omega⟩, HQ, HP, HB⟩
          case round =>
            clear HQ HP HB
            obtain ⟨k, xs, rfl, HK5, HQ, HP, HB⟩ := hrel
            by_cases hlt : k < n
            · obtain ⟨c1, d1⟩ := HQ.out.row.cell k hlt
              have hlt2 : (k : Int) < (n : Int) := by omega
              have HLT := Aside0.mk hlt
              have HQ6 := Aside0.mk (HQ.out.set k (-77))
              have HP6 := Aside0.mk (HP.out.set HQ.out k (-77))
              have HF6 := Aside0.mk (show Below w.heap.size w (wr.setCell ⟨q', k, none⟩ (.int .i64 (-77))) from (Fr.set wr q' k _).below HB.out HB.out.size (fun z hz => by rw [hz]; exact HQB.out))
              clear hlt
              go_wp2_with fail
              go_roundg (gk - 1)
              case measure => have := HK5.out; have := HLT.out; omega
              case rel => exact ⟨k + 1, _, by go_num, ⟨by have := HK5.out; have := HLT.out; omega⟩, HQ6, HP6, HF6⟩
            · have hge : ¬ (k : Int) < (n : Int) := by omega
              clear hlt HQ HK5
              go_wp2_with fail
              clear hge
              obtain ⟨wo, rfl⟩ : ∃ wo : World, wo = wr := ⟨_, rfl⟩
              go_loopg [27] 18 (fun kq v27 w' => ∃ k : Nat, v27 = .int .i64 (k : Int) ∧ Aside0 (k + kq = 18) ∧ Aside0 (Pair w' w.heap.size g a' r s g2 a2' b2' i2 st' H' st') ∧ Aside0 (Below w.heap.size w w'))
              case atStart => exact ⟨0, rfl, ⟨rfl⟩, HP, HB⟩
              case round =>
                clear HP HB
                obtain ⟨k, rfl, HK5, HP, HB⟩ := hrel
                by_cases hlt : k < 18
                · have hlt2 : (k : Int) < 18 := by omega
                  have HLT := Aside0.mk hlt
                  clear hlt
                  go_wp2_with fail
                  refine (seen_calls HP.out.mem HOK.out _).mono ?_
                  rintro e w8 ⟨rfl, hmm, hf⟩
                  replace HB := Aside0.mk (hf.below HB.out HB.out.size (fun k hk => by rw [hk]; exact HP.out.mem.bg))
                  replace HP := Aside0.mk (HP.out.stepE hmm (frI hf) (.inl rfl))
                  clear hmm hf
                  go_wp2_with fail
                  refine (rseen_calls HP.out.rb HI'.out.both _).mono ?_
                  rintro e w9 ⟨rfl, hd⟩
                  replace HB := Aside0.mk (below_step HB.out hd.below)
                  replace HP := Aside0.mk (HP.out.below hd.below)
                  clear hd
                  generalize st'.sees (k : Int) = v at *
                  generalize st'.isIn (k : Int) = bb at *
                  cases bb
                  all_goals
                    go_wp2_with fail
                    go_roundg (gk - 1)
                    case measure => have := HK5.out; have := HLT.out; omega
                    case rel => exact ⟨k + 1, by go_num, ⟨by have := HK5.out; have := HLT.out; omega⟩, HP, HB⟩
                · have hge : ¬ (k : Int) < 18 := by omega
                  clear hlt HK5
                  go_wp2_with fail
                  go_roundg (199 - i)
                  case measure => have := HKO.out; have := HIB.out; omega
                  case rel => exact ⟨i + 1, a', a2', b2', st', H', by have := HJ.out; go_num, ⟨by have := HIB.out; omega⟩, HI', HP, HB⟩
      · have hex : ¬ i < ls.length ∨ (i < ls.length ∧ ¬ i < 200) := by by_cases h : i < ls.length; exact .inr ⟨h, fun z => hgo ⟨h, z⟩⟩; exact .inl h
        clear hgo hk HI HK HP
        rcases hex with h1 | ⟨h1, h2⟩
        all_goals
          go_wp2
          go_ret
          exact ⟨rfl, HB.out⟩
theorem playsCalls (n0 v0 : Int) (A2 : Option Addr) (c2 : Nat) (ls : List S32) (hn : (Lit.int .i64 n0).wf = true) (hv : (Lit.int .i64 v0).wf = true) (hl2 : ls.length * 16 ≤ 140737488351232) (hf : ∀ x ∈ ls, (Lit.int .i64 x.f0).wf = true ∧ (Lit.int .i64 x.f1).wf = true)
    (w : World) (hr2 : Kd.C k32 w A2 ls.length ls) (hc2 : ls.length ≤ c2) :
    Calls Try.prog 3 #[.int .i64 n0, .int .i64 v0, .slice A2 ls.length c2] w fun e w' => e = .returned (.bool true) ∧ Below w.heap.size w w' :=
  plays n0 v0 A2 c2 ls w hr2 hc2 (by omega)
end Go.Proofs.Ytmepodmcmpndoaa.WEp
