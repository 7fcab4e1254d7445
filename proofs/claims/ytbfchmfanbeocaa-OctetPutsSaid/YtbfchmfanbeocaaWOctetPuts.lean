/-
  The walk of the law OctetPuts, by hand, out of the contracts of what it calls.
-/
import Derived.Test.YtbfchmfanbeocaaPBasex2
import Derived.Test.YtbfchmfanbeocaaPureRef01
import Derived.Test.YtbfchmfanbeocaaMReader
import Derived.Outline
set_option linter.unusedVariables false
set_option linter.unusedSimpArgs false
namespace Go.Proofs.Ytbfchmfanbeocaa.WOctetPuts
open Go.RowKit Go.Proofs.Ytbfchmfanbeocaa.PBase Go.Proofs.YtbfchmfanbeocaaW.PrintWords Go.Proofs.YtbfchmfanbeocaaW.PrintLast Go.Proofs.YtbfchmfanbeocaaW.PrintMore
/-! Small facts for walks by hand. -/
theorem drewN_below {w w1 : World} (h : Below w.heap.size w w1) (n : Nat) : Below w.heap.size w (w1.drewN n) := pw_below_drewN h n
theorem below_of {w w1 w2 : World} (h : Below w.heap.size w w1) (h2 : Below w1.heap.size w1 w2) : Below w.heap.size w w2 := below_step h h2
/-- One slice in a new block: a row of one slice, that is read. -/
theorem C_one {e : Nat} {α : Type} {d : Kd α} {w : World} {A : Option Addr} {l : List α} {c : Nat} {ad : Addr} (hr : d.C w A l.length l) (hc : l.length ≤ c) (hcell : w.cell? ad = some (.slice A l.length c)) : Kd.C (Kd.slice e d) w (some ad) [l].length [l] := by
  refine ⟨rfl, by simp, fun _ => ⟨ad, rfl, fun j p hj => ?_⟩⟩
  cases j with
  | zero =>
    obtain rfl : l = p := by simpa using hj
    refine ⟨[.slice A l.length c], rfl, ⟨A, c, rfl, hc, hr⟩, fun i u hu => ?_⟩
    cases i with
    | zero =>
      obtain rfl : Value.slice A l.length c = u := by simpa using hu
      have e : ad.add (0 * (Kd.slice e d).sz + 0) = ad := by rw [Nat.zero_mul]; unfold Addr.add; cases ad; rename_i b o f; cases f <;> rfl
      rw [e]; exact hcell
    | succ i => simp at hu
  | succ j => simp at hj
/-- A variadic call's row of one slice: the new block, and its one cell. -/
theorem C_var {e t : Nat} {α : Type} {d : Kd α} {W : World} {A : Option Addr} {l : List α} {c b : Nat} (hr : d.C W A l.length l) (hc : l.length ≤ c) (hb : b = W.heap.size) :
    Kd.C (Kd.slice e d) (W.alloc (.cells #[.slice A l.length c] t)) (some ⟨b, 0, none⟩) [l].length [l] :=
  C_one (Kd.C_below hr (below_alloc (Below.refl _ _) _)) hc (by subst hb; simp)
/-- Lent bytes: what is read of them. -/
theorem lent_reads {w' : World} {base g c : Nat} {l : List Int} {e : Nat} (h : Kd.R (Kd.int .u8) e w' base (fun _ => True) (.slice (some ⟨g, 0, none⟩) (l.length + 2) c) (l ++ [201, 202])) :
    l.length ≤ c ∧ (l.length + 2 ≤ c ∧ Kd.C (Kd.int .u8) w' (some ⟨g, 0, none⟩) (l.length + 2) (l ++ [201, 202])) ∧ Kd.C (Kd.int .u8) w' (some ⟨g, 0, none⟩) l.length l := by
  have h1 := Kd.R_reads' h
  have h0 : (l ++ [201, 202]).length = l.length + 2 := by simp
  have h2 := Kd.C_take (m := l.length) h1.2.2 (by rw [h0]; omega)
  rw [List.take_left] at h2
  have h3 := h1.2.1
  have h4 := h1.2.2
  rw [h0] at h4
  exact ⟨by omega, ⟨h3, h4⟩, h2⟩
set_option maxHeartbeats 1000000 in
set_option maxRecDepth 100000 in
theorem main (k : Nat) (A0 : Option Addr) (c0 : Nat) (l : List Int) (a n : Int) (r : List Int) (w : World) (hr0 : Kd.C (Kd.int .u8) w A0 l.length l) (hc0 : l.length ≤ c0) (hl : l.length ≤ 140737488355200)
    (h1 : octet_Put.f l a n = some r) (hrl : r.length ≤ 140737488355300) (h2 : crosswayref01_Put.f k l a n = some r) (h3 : crosswayref01_Same.f k l l = some true) (h4 : crosswayref01_Same.f k r r = some true) :
    Calls Try.prog 3 #[.slice A0 l.length c0, .int .i64 a, .int .u64 n] w fun e w' => e = .returned (.bool true) ∧ Below w.heap.size w w' := by
  have H1 := Aside0.mk h1; have H2 := Aside0.mk h2; have H3 := Aside0.mk h3; have H4 := Aside0.mk h4
  have HR := Aside0.mk hr0; have HC := Aside0.mk hc0; have HL := Aside0.mk hl; have HRL := Aside0.mk hrl
  clear h1 h2 h3 h4 hr0 hc0 hl
  have HB := Aside0.mk (Below.refl w.heap.size w)
  go_enter Try.func3, Try.ntmps3
  go_wp2_with fail
  refine (crosswaylaw01_awake.calls true _ rfl).mono ?_
  rintro e w1 ⟨rfl, hb⟩
  replace HB := Aside0.mk (below_of (by repeat (first | (with_reducible first | exact HB.out | apply below_alloc | apply pw_below_drewN | apply below_drew1) | exact HB.out)) hb); clear hb
  go_wp2_with fail
  refine (crosswaylaw01_lent.calls _ _ l _ (Kd.C_below HR.out (by repeat (first | (with_reducible first | exact HB.out | apply below_alloc | apply pw_below_drewN | apply below_drew1) | exact HB.out))) HC.out HL.out).mono ?_
  rintro e w2 ⟨g, c, rfl, ho, hb⟩
  replace HB := Aside0.mk (below_of (by repeat (first | (with_reducible first | exact HB.out | apply below_alloc | apply pw_below_drewN | apply below_drew1) | exact HB.out)) hb); clear hb
  have HO := Aside0.mk (lent_reads ho); clear ho hrl
  have HB2 := Aside0.mk (Below.refl w2.heap.size w2)
  have HS2 := Aside0.mk (HB.out.size)
  go_wp2_with fail
  refine (octet_Put.calls _ _ l a n r _ (Kd.C_below HO.out.2.2 (by repeat (first | (with_reducible first | exact Below.refl _ _ | apply below_alloc | apply pw_below_drewN | apply below_drew1) | exact Below.refl _ _))) HO.out.1 H1.out).mono ?_
  rintro e w3 ⟨vx, rfl, hx, hb⟩
  replace HB := Aside0.mk (below_of (by repeat (first | (with_reducible first | exact HB.out | apply below_alloc | apply pw_below_drewN | apply below_drew1) | exact HB.out)) hb); replace HB2 := Aside0.mk (below_of (by repeat (first | (with_reducible first | exact HB2.out | apply below_alloc | apply pw_below_drewN | apply below_drew1) | exact HB2.out)) hb); clear hb
  have HX := Aside0.mk (show Kd.R (Kd.int .u8) 5 w3 w.heap.size (fun _ => True) vx r from Kd.R_lower hx HS2.out)
  have HXB := Aside0.mk (show ∀ q, vx.ownBlock = some q → w2.heap.size ≤ q ∧ q < w3.heap.size from fun q hq => ⟨Kd.R_base hx q hq, Kd.R_lt hx q hq⟩); clear hx
  go_wp2_with fail
  refine (octet_Put.calls _ _ l a n r _ (Kd.C_below HO.out.2.2 (by repeat (first | (with_reducible first | exact HB2.out | apply below_alloc | apply pw_below_drewN | apply below_drew1) | exact HB2.out))) HO.out.1 H1.out).mono ?_
  rintro e w4 ⟨vy, rfl, hy, hb⟩
  replace HB := Aside0.mk (below_of (by repeat (first | (with_reducible first | exact HB.out | apply below_alloc | apply pw_below_drewN | apply below_drew1) | exact HB.out)) hb); replace HB2 := Aside0.mk (below_of (by repeat (first | (with_reducible first | exact HB2.out | apply below_alloc | apply pw_below_drewN | apply below_drew1) | exact HB2.out)) hb)
  replace HX := Aside0.mk (Kd.R_below HX.out (show Below w3.heap.size w3 w4 from hb)); have HS4 := Aside0.mk (show w3.heap.size ≤ w4.heap.size from hb.size); clear hb
  have HY := Aside0.mk (show Kd.R (Kd.int .u8) 5 w4 w3.heap.size (fun _ => True) vy r from hy); clear hy
  go_wp2_with fail
  refine (crosswayref01_Put.calls k _ _ l a n r _ (Kd.C_below HR.out (by repeat (first | (with_reducible first | exact HB.out | apply below_alloc | apply pw_below_drewN | apply below_drew1) | exact HB.out))) HC.out H2.out).mono ?_
  rintro e w5 ⟨vw, rfl, hw, hb⟩
  replace HB := Aside0.mk (below_of (by repeat (first | (with_reducible first | exact HB.out | apply below_alloc | apply pw_below_drewN | apply below_drew1) | exact HB.out)) hb); replace HB2 := Aside0.mk (below_of (by repeat (first | (with_reducible first | exact HB2.out | apply below_alloc | apply pw_below_drewN | apply below_drew1) | exact HB2.out)) hb)
  replace HX := Aside0.mk (Kd.R_below HX.out (show Below w4.heap.size w4 w5 from hb)); replace HY := Aside0.mk (Kd.R_below HY.out (show Below w4.heap.size w4 w5 from hb)); clear hb
  have HW := Aside0.mk (show Kd.R (Kd.int .u8) 5 w5 w4.heap.size (fun _ => True) vw r from hw); clear hw
  obtain ⟨Ax, cx, rfl⟩ := Kd.R_slice HX.out
  obtain ⟨Aw, cw, rfl⟩ := Kd.R_slice HW.out
  obtain ⟨Ay, cy, rfl⟩ := Kd.R_slice HY.out
  go_wp2_with fail
  refine (crosswayref01_Same.calls k _ _ r _ _ r true _ (Kd.R_reads' HX.out).2.2 (Kd.R_reads' HX.out).2.1 (Kd.R_reads' HW.out).2.2 (Kd.R_reads' HW.out).2.1 H4.out).mono ?_
  rintro e w6 ⟨rfl, ⟨nd, rfl⟩⟩
  go_wp2_with fail
  refine (crosswaylaw01_whole.yes k _ _ _ _ l _ (Kd.C_below HO.out.2.1.2 (by repeat (first | (with_reducible first | exact HB2.out | apply below_alloc | apply pw_below_drewN | apply below_drew1) | exact HB2.out))) HO.out.2.1.1 (Kd.C_below HR.out (by repeat (first | (with_reducible first | exact HB.out | apply below_alloc | apply pw_below_drewN | apply below_drew1) | exact HB.out))) HC.out H3.out HL.out).mono ?_
  rintro e w7 ⟨rfl, ⟨nd7, rfl⟩⟩
  go_wp2_with fail
  go_loopg [12] r.length (fun kq v12 w' => ∃ (i : Nat) (xs : List Int), v12 = .int .i64 (i : Int) ∧ Aside0 (r.length = i + kq) ∧ Aside0 (xs.length = r.length) ∧ Aside0 (Kd.R (Kd.int .u8) 5 w' w.heap.size (fun _ => True) (.slice Ax r.length cx) xs) ∧ Aside0 (Below w.heap.size w w') ∧ Aside0 (Below w2.heap.size w2 w') ∧ Aside0 (w5.grownBy w' (Value.slice Ax r.length cx).ownBlock))
  case atStart => exact ⟨0, r, rfl, ⟨by omega⟩, ⟨rfl⟩, ⟨(by repeat (first | (with_reducible first | exact HX.out | apply Kd.R_drewN | apply Kd.R_drew | apply Kd.R_alloc) | exact HX.out))⟩, ⟨(by repeat (first | (with_reducible first | exact HB.out | apply below_alloc | apply pw_below_drewN | apply below_drew1) | exact HB.out))⟩, ⟨(by repeat (first | (with_reducible first | exact HB2.out | apply below_alloc | apply pw_below_drewN | apply below_drew1) | exact HB2.out))⟩, ⟨⟨rfl, rfl, rfl, Nat.le_refl _, fun _ _ _ => rfl⟩⟩⟩
  case round =>
    clear HX HB HB2
    obtain ⟨i, xs, rfl, HI, HXL, HX, HB, HB2, HG⟩ := hrel
    have hi := HI.out
    have hrl := HRL.out
    cases gk with
    | zero =>
      have hge : ¬ (i : Int) < (r.length : Int) := by omega
      clear hi
      go_wp2_with (first | ((with_reducible refine gate_dst (N := 57) rfl ?_); refine Kd.R_lit (Kd.int .u8) _ 5 ?hg (N := 57) ?hd (xs := ([7] : List Int)) (inner := [.int .u8 7]) (ok := fun _ => True) (okp := fun _ => True) ?hr ?hp (fun _ hk => hk) trivial (Below.refl _ _) (Nat.le_refl _) (by simp) ?_; (case hd => rfl); (case hg => rfl); (case hr => first | (go_simp; done) | (go_simp; rfl)); (case hp => exact (Reps.one (show Kd.M (Kd.int .u8) _ _ _ 7 [.int .u8 7] from rfl) (Reps.none _ _))); intro v7 w7 ho hb hg_ hnew_; clear hg_ hnew_; obtain ⟨A7, c7, e_⟩ := Kd.R_slice ho; subst e_; have C7 := Aside0.mk (Kd.R_reads' ho).2.2; have L7 := Aside0.mk (Kd.R_reads' ho).2.1; clear ho; replace HX := Aside0.mk (Kd.R_below HX.out hb); replace HG := Aside0.mk (World.grownBy.trans HG.out (grown_of_below hb _)); replace HB2 := Aside0.mk (below_of (by repeat (first | (with_reducible first | exact HB2.out | apply below_alloc | apply pw_below_drewN | apply below_drew1) | exact HB2.out)) hb); replace HB := Aside0.mk (below_step (by repeat (first | (with_reducible first | exact HB.out | apply below_alloc | apply pw_below_drewN | apply below_drew1) | exact HB.out)) hb); clear hb) | ((with_reducible refine gate_builtin (b := .append) (xs := #[.tmp 56, .tmp 57]) rfl ?_); at_builtin; refine Kd.R_append_rows (Kd.int .u8) (w0 := w) w.heap.size rfl (.tmp 56) (.tmp 57) 22 5 (.int .u8 0) 1 rfl Try.underlying22 info5 rfl (by decide) (by omega) (.slice Ax r.length cx) xs [7] _ _ _ (fun _ => True) (fun _ => False) rfl rfl ?aO ?aR (fun _ _ h => h) (fun _ h => h.elim) ?aF ?aB ?aS ?aL ?_; (case aR => exact C7.out); (case aB => exact HB.out); (case aF => exact (fun _ _ => trivial)); (case aO => exact HX.out); (case aS => exact HB.out.size); (case aL => have := HRL.out; have := HXL.out; simp only [List.length_cons, List.length_nil]; omega); intro v8 w8 ho hb hg hat; have n0_ := Aside0.mk hb; have O8 := Aside0.mk ho; replace HG := Aside0.mk (World.grownBy.trans HG.out hg); replace HB2 := Aside0.mk (pw_below_grown HB2.out _ HB2.out.size hg (fun q hq => (HXB.out q hq).1)); clear HB; have HB := n0_; clear n0_; clear ho hb hg hat))
      replace HY := Aside0.mk (Kd.R_grown2 HY.out rfl HG.out (fun q hq hq2 => by have h1 := (HXB.out q hq).2; have h2 := Kd.R_base HY.out q hq2.symm; omega))
      replace HW := Aside0.mk (Kd.R_grown2 HW.out rfl HG.out (fun q hq hq2 => by have h1 := (HXB.out q hq).2; have h2 := Kd.R_base HW.out q hq2.symm; have h3 := HS4.out; omega))
      refine (crosswayref01_Same.calls k _ _ r _ _ r true _ (Kd.R_reads' HY.out).2.2 (Kd.R_reads' HY.out).2.1 (Kd.R_reads' HW.out).2.2 (Kd.R_reads' HW.out).2.1 H4.out).mono ?_
      rintro e w9 ⟨rfl, ⟨nd9, rfl⟩⟩
      go_wp2_with fail
      refine (crosswaylaw01_whole.yes k _ _ _ _ l _ (Kd.C_below HO.out.2.1.2 (by repeat (first | (with_reducible first | exact HB2.out | apply below_alloc | apply pw_below_drewN | apply below_drew1) | exact HB2.out))) HO.out.2.1.1 (Kd.C_below HR.out (by repeat (first | (with_reducible first | exact HB.out | apply below_alloc | apply pw_below_drewN | apply below_drew1) | exact HB.out))) HC.out H3.out HL.out).mono ?_
      rintro e w10 ⟨rfl, ⟨nd10, rfl⟩⟩
      obtain ⟨A8, c8, rfl⟩ := Kd.R_slice O8.out
      have h8 : ((xs ++ [7]).length : Int) = (r.length : Int) + 1 := by have := HXL.out; rw [List.length_append, List.length_singleton]; omega
      obtain ⟨q8, hq8⟩ : ∃ q8, (xs ++ [7]).length = q8 := ⟨_, rfl⟩
      rw [hq8] at h8 ⊢
      go_wp2_with fail
      go_ret
      exact ⟨by simp [h8], (by repeat (first | (with_reducible first | exact HB.out | apply below_alloc | apply pw_below_drewN | apply below_drew1) | exact HB.out))⟩
    | succ d =>
      have hlt : (i : Int) < (r.length : Int) := by omega
      obtain ⟨ji, hji⟩ : ∃ ji : Int, (i : Int) = ji := ⟨_, rfl⟩
      have p0 : 0 ≤ ji := by omega
      have p1 : ji < (r.length : Int) := by omega
      obtain ⟨t, ht⟩ : ∃ t : Int, Go.bits .xor .u8 (rdOf 0 xs ji) 1 = t := ⟨_, rfl⟩
      obtain ⟨gx, co, eo, gb, gl, cl, hG⟩ := Kd.R_form HX.out (by have := HXL.out; omega)
      injection eo with ea_ en_ ec_
      subst ea_; subst ec_; clear en_
      have GB := Aside0.mk gb
      obtain ⟨hx, hf⟩ := Kd.R_celln 0 HX.out ji p0 (by have := HXL.out; omega)
      have HP := Kd.R_putg HX.out ji t
      have HJ := Aside0.mk hji
      rw [hji] at hlt ⊢
      clear gb gl hG hi hji
      go_wp2_with (first | ((with_reducible refine gate_store (t := 5) (p := 55) rfl ?_); refine store_event (t := 5) (p := 55) (v := ?vo) (w1 := (wr.setCell ⟨gx, ji.toNat, none⟩ (.int .u8 t))) ?hg ?ho ?hn ?hr ?_; (case ho => rfl); (case hg => rfl); (case hn => rfl); (case hr => first | (go_simp; done) | (go_simp; rfl)); intro w9 hw; have O9 := Aside0.mk (show Kd.R (Kd.int .u8) 5 w9 w.heap.size (fun _ => True) (.slice (some ⟨gx, 0, none⟩) r.length cx) _ from (by rw [hw]; exact HP.1)); have hgr := (show wr.grownBy w9 (some gx) from (by rw [hw]; exact HP.2)); have n0_ := Aside0.mk (by rw [hw]; exact below_set (HB.out) GB.out : Below w.heap.size w w9); replace HG := Aside0.mk (World.grownBy.trans HG.out hgr); replace HB2 := Aside0.mk (pw_below_grown HB2.out _ HB2.out.size hgr (fun q hq => (HXB.out q hq).1)); clear HB HP HX; have HB := n0_; clear n0_ hw hgr))
      go_roundg d
      case measure => omega
      case rel => exact ⟨i + 1, _, by have := HJ.out; go_num, ⟨by have := HI.out; omega⟩, ⟨by rw [List.length_set]; exact HXL.out⟩, O9, HB, HB2, HG⟩
end Go.Proofs.Ytbfchmfanbeocaa.WOctetPuts
namespace Go.Proofs.Ytbfchmfanbeocaa.WOctetPuts
open Go.RowKit Go.Proofs.Ytbfchmfanbeocaa.PBase Go.Proofs.Ytbfchmfanbeocaa.MTally Go.Proofs.YtbfchmfanbeocaaW.PrintWords
theorem calls (A0 : Option Addr) (c0 : Nat) (l : List Int) (a n : Int) (hl : l.length * 1 ≤ 140737488351232) (hb : ∀ x ∈ l, (Lit.int .u8 x).wf = true) (ha : (Lit.int .i64 a).wf = true) (hn : (Lit.int .u64 n).wf = true)
    (w : World) (hr0 : Kd.C (Kd.int .u8) w A0 l.length l) (hc0 : l.length ≤ c0) : Calls Try.prog 3 #[.slice A0 l.length c0, .int .i64 a, .int .u64 n] w fun e w' => e = .returned (.bool true) ∧ Below w.heap.size w w' := by
  have hw := octet_Put.wid_le a
  have hr : (l ++ MBe.be n (octet_Put.wid a)).length ≤ 140737488355300 := by rw [List.length_append, MBe.be_length]; omega
  obtain ⟨k2, h2⟩ := Pure.rput_ev (l := l) (w := a) (by omega) (Pure.u64_of_wf hn)
  obtain ⟨k3, h3⟩ := Pure.same_ev (l := l) (by omega)
  obtain ⟨k4, h4⟩ := Pure.same_ev (l := l ++ MBe.be n (octet_Put.wid a)) (by omega)
  exact main (k2 + k3 + k4) A0 c0 l a n _ w hr0 hc0 (by omega) (if_pos (by omega)) hr (h2 _ (by omega)) (h3 _ (by omega)) (h4 _ (by omega))
end Go.Proofs.Ytbfchmfanbeocaa.WOctetPuts
