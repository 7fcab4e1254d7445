/-
  The walk of the law OctetBack, by hand, out of the contracts of what it calls.
-/
import Derived.Test.YtbfchmfanbeocaaPBasex2
import Derived.Test.YtbfchmfanbeocaaPureRef01
import Derived.Test.YtbfchmfanbeocaaMReader
import Derived.Outline
import Derived.Deep.RegionHeld3
set_option linter.unusedVariables false
set_option linter.unusedSimpArgs false
namespace Go.Proofs.Ytbfchmfanbeocaa.WOctetBack
open Go.RowKit Go.Proofs.Ytbfchmfanbeocaa.PBase Go.Proofs.YtbfchmfanbeocaaW.PrintWords Go.Proofs.YtbfchmfanbeocaaW.PrintLast Go.Proofs.YtbfchmfanbeocaaW.PrintMore
/-! Small facts for walks by hand. -/
theorem drewN_below {w w1 : World} (h : Below w.heap.size w w1) (n : Nat) : Below w.heap.size w (w1.drewN n) := pw_below_drewN h n
theorem below_of {w w1 w2 : World} (h : Below w.heap.size w w1) (h2 : Below w1.heap.size w1 w2) : Below w.heap.size w w2 := below_step h h2
/-- One slice in a new block: a row of one slice, that is read. -/
theorem C_one {e : Nat} {α : Type} {d : Kd α} {w : World} {A : Option Addr} {l : List α} {c : Nat} {ad : Addr} (hr : d.C w A l.length l) (hc : l.length ≤ c) (hcell : w.cell? ad = some (.slice A l.length c)) : Kd.C (Kd.slice e d) w (some ad) [l].length [l] := by
  refine ⟨rfl, by simp, fun _ => ⟨ad, rfl, fun j p hj => ?_⟩⟩
  cases j with
  | zero =>
    obtain rfl : l = p := by simpa using hj
    refine ⟨[.slice A l.length c], rfl, ⟨A, c, rfl, hc, hr⟩, fun i u hu => ?_⟩
    cases i with
    | zero =>
      obtain rfl : Value.slice A l.length c = u := by simpa using hu
      have e : ad.add (0 * (Kd.slice e d).sz + 0) = ad := by rw [Nat.zero_mul]; unfold Addr.add; cases ad; rename_i b o f; cases f <;> rfl
      rw [e]; exact hcell
    | succ i => simp at hu
  | succ j => simp at hj
/-- A variadic call's row of one slice: the new block, and its one cell. -/
theorem C_var {e t : Nat} {α : Type} {d : Kd α} {W : World} {A : Option Addr} {l : List α} {c b : Nat} (hr : d.C W A l.length l) (hc : l.length ≤ c) (hb : b = W.heap.size) :
    Kd.C (Kd.slice e d) (W.alloc (.cells #[.slice A l.length c] t)) (some ⟨b, 0, none⟩) [l].length [l] :=
  C_one (Kd.C_below hr (below_alloc (Below.refl _ _) _)) hc (by subst hb; simp)
/-- What all the numbers are laid as. -/
def enc : List Int → List Int → List Int
  | a :: ws, n :: ns => MBe.be n (octet_Put.wid a) ++ enc ws ns
  | _, _ => []
theorem enc_at {ws ns : List Int} {i : Nat} (h1 : i < ws.length) (h2 : i < ns.length) : enc (ws.drop i) (ns.drop i) = MBe.be ns[i] (octet_Put.wid ws[i]) ++ enc (ws.drop (i + 1)) (ns.drop (i + 1)) := by
  rw [List.drop_eq_getElem_cons h1, List.drop_eq_getElem_cons h2, enc]
theorem enc_end {ws ns : List Int} {i : Nat} (h : ws.length ≤ i ∨ ns.length ≤ i) : enc (ws.drop i) (ns.drop i) = [] := by
  rcases h with h | h
  · rw [List.drop_eq_nil_of_le h, enc]; intro a ws n ns h; cases h
  · rw [List.drop_eq_nil_of_le h]; cases ws.drop i <;> rfl
theorem enc_length : ∀ ws ns : List Int, (enc ws ns).length ≤ 8 * ws.length
  | [], ns => by simp [enc]
  | a :: ws, [] => by simp [enc]
  | a :: ws, n :: ns => by
    have := enc_length ws ns; have := octet_Put.wid_le a
    simp only [enc, List.length_append, MBe.be_length, List.length_cons]; omega
theorem rd_at {xs : List Int} {i : Nat} (h : i < xs.length) : rd xs (i : Int) = xs[i] := Pure.rd_at h
theorem enc_bytes : ∀ ws ns : List Int, MTally.Bytes (enc ws ns)
  | [], ns => by rw [enc]; exact MTally.Bytes.nil; intro a ws n ns h; cases h
  | a :: ws, [] => by rw [enc]; exact MTally.Bytes.nil; intro a ws n ns _ h; cases h
  | a :: ws, n :: ns => by rw [enc]; exact MTally.Bytes.append (MBe.be_bytes _ _) (enc_bytes ws ns)
/-- What a number that lies ahead is taken as. -/
theorem taken {n : Int} {m : Nat} {rest : List Int} (hm : m ≤ 8) (hn : 0 ≤ n ∧ n ≤ 18446744073709551615) (hb : MTally.Bytes rest) (hl : (MBe.be n m ++ rest).length ≤ 140737488355200) :
    ∃ k, octet_Get.f k (MBe.be n m ++ rest) 0 (m : Int) = some (n % 256 ^ m, true) ∧ crosswaylaw01_low.f k n (m : Int) = some (n % 256 ^ m) := by
  obtain ⟨k1, h1⟩ := Pure.get_ev (l := MBe.be n m ++ rest) (a := 0) (w := (m : Int)) (MTally.Bytes.append (MBe.be_bytes _ _) hb) hl (by decide) (by omega)
  obtain ⟨k2, h2⟩ := Pure.low_ev hn hm
  refine ⟨k1 + k2, ?_, h2 _ (by omega)⟩
  have h3 := h1 (k1 + k2) (by omega)
  have e : Pure.get (MBe.be n m ++ rest) 0 (m : Int) = (n % 256 ^ m, true) := by
    unfold Pure.get
    rw [if_pos (by unfold Pure.fits; rw [List.length_append, MBe.be_length]; omega)]
    unfold Pure.slice_
    rw [show (0 : Int).toNat = 0 by rfl, List.drop_zero, Int.toNat_natCast, List.take_append_of_le_length (by rw [MBe.be_length]; omega), List.take_of_length_le (by rw [MBe.be_length]; omega), MBe.num_be]
  exact h3.trans (congrArg some e)
set_option maxHeartbeats 1000000 in
set_option maxRecDepth 100000 in
theorem main (A0 : Option Addr) (c0 : Nat) (ws : List Int) (A1 : Option Addr) (c1 : Nat) (ns : List Int) (w : World) (hr0 : Kd.C (Kd.int .i64) w A0 ws.length ws) (hc0 : ws.length ≤ c0) (hr1 : Kd.C (Kd.int .u64) w A1 ns.length ns) (hc1 : ns.length ≤ c1)
    (hl : ws.length * 8 ≤ 140737488351232) (hl1 : ns.length * 8 ≤ 140737488351232) (hw : ∀ x ∈ ws, -9223372036854775808 ≤ x ∧ x ≤ 9223372036854775807) (hn : ∀ x ∈ ns, 0 ≤ x ∧ x ≤ 18446744073709551615) :
    Calls Try.prog 5 #[.slice A0 ws.length c0, .slice A1 ns.length c1] w fun e w' => e = .returned (.bool true) ∧ Below w.heap.size w w' := by
  have HR0 := Aside0.mk hr0; have HC0 := Aside0.mk hc0; have HR1 := Aside0.mk hr1; have HC1 := Aside0.mk hc1
  have HL0 := Aside0.mk hl; have HL1 := Aside0.mk hl1; have HWS := Aside0.mk hw; have HNS := Aside0.mk hn
  clear hr0 hc0 hr1 hc1 hw hn
  have HB := Aside0.mk (Below.refl w.heap.size w)
  obtain ⟨N, hN⟩ : ∃ N : Nat, N = min ws.length ns.length := ⟨_, rfl⟩
  have hmin : mn (ws.length : Int) (ns.length : Int) = (N : Int) := by unfold mn; split <;> omega
  unfold mn at hmin
  have hmin2 : (if ns.length < ws.length then (ns.length : Int) else (ws.length : Int)) = (N : Int) := by split <;> omega
  have HN := Aside0.mk hN
  clear hN
  go_enter Try.func5, Try.ntmps5
  go_wp2_with fail
  refine (crosswaylaw01_awake.calls true _ rfl).mono ?_
  rintro e w1 ⟨rfl, hb⟩
  replace HB := Aside0.mk (below_of (by repeat (first | (with_reducible first | exact HB.out | apply below_alloc | apply pw_below_drewN | apply below_drew1) | exact HB.out)) hb); clear hb
  go_wp2_with fail
  go_loopg [6, 8] N (fun kq v6 v8 w' => ∃ (i : Nat) (bs : List Int), v8 = .int .i64 (i : Int) ∧ Aside0 (N = i + kq) ∧ Aside0 (bs ++ enc (ws.drop i) (ns.drop i) = enc ws ns) ∧ Aside0 (Kd.R (Kd.int .u8) 5 w' w.heap.size (fun _ => True) v6 bs) ∧ Aside0 (Below w.heap.size w w'))
  case atStart => exact ⟨0, [], rfl, ⟨by omega⟩, ⟨rfl⟩, ⟨Kd.R_nil _ _ _ _ _⟩, ⟨(by repeat (first | (with_reducible first | exact HB.out | apply below_alloc | apply pw_below_drewN | apply below_drew1) | exact HB.out))⟩⟩
  case round =>
    clear HB
    obtain ⟨i, bs, rfl, HI, HE, HV, HB⟩ := hrel
    have hi := HI.out
    cases gk with
    | zero =>
      have hge : (N : Int) ≤ (i : Int) := by omega
      have hbs : bs = enc ws ns := by
        have h1 := HE.out
        rw [enc_end (by have := HN.out; omega), List.append_nil] at h1; exact h1
      subst hbs
      obtain ⟨A6, c6, rfl⟩ := Kd.R_slice HV.out
      have HBL := Aside0.mk (show (enc ws ns).length ≤ 140737488355200 by have h2 := enc_length ws ns; omega)
      have HVC := Aside0.mk (Kd.R_reads' HV.out).2.2; have HVL := Aside0.mk (Kd.R_reads' HV.out).2.1
      clear HE hi HV
      go_wp2_with fail
      refine (octet_New.calls A6 c6 (enc ws ns) _ HVC.out HVL.out HBL.out).mono ?_
      rintro e w4 ⟨g, b, rfl, hr, hg, hb, hbl⟩
      have HG := Aside0.mk (Nat.le_trans HB.out.size hg)
      replace HB := Aside0.mk (below_of (by repeat (first | (with_reducible first | exact HB.out | apply below_alloc | apply pw_below_drewN | apply below_drew1) | exact HB.out)) hbl)
      have HRD := Aside0.mk hr
      clear hr hg hb hbl HVC HVL hge HI
      go_wp2_with fail
      go_loopg [10] N (fun kq v10 w' => ∃ i : Nat, v10 = .int .i64 (i : Int) ∧ Aside0 (N = i + kq) ∧ Aside0 (MReader.Rdr 52 w' g b (enc (ws.drop i) (ns.drop i)) false) ∧ Aside0 (Below w.heap.size w w'))
      case atStart => exact ⟨0, rfl, ⟨by omega⟩, ⟨HRD.out⟩, ⟨(by repeat (first | (with_reducible first | exact HB.out | apply below_alloc | apply pw_below_drewN | apply below_drew1) | exact HB.out))⟩⟩
      case round =>
        clear HB HRD
        obtain ⟨i, rfl, HI, HRD, HB⟩ := hrel
        have hi := HI.out
        cases gk with
        | zero =>
          have hge : (N : Int) ≤ (i : Int) := by omega
          have he : enc (ws.drop i) (ns.drop i) = [] := enc_end (by have := HN.out; omega)
          rw [he] at HRD
          clear hi he
          go_wp2_with fail
          refine (octet_Reader_Left.calls g b [] false _ HRD.out).mono ?_
          rintro e w8 ⟨rfl, rfl⟩
          go_wp2_with fail
          refine (octet_Reader_Short.calls g b [] false _ HRD.out).mono ?_
          rintro e w9 ⟨rfl, rfl⟩
          go_wp2_with fail
          go_ret
          exact ⟨rfl, HB.out⟩
        | succ d =>
          have hlt : (i : Int) < (N : Int) := by omega
          have hi0 : i < ws.length := by have := HN.out; omega
          have hi1 : i < ns.length := by have := HN.out; omega
          obtain ⟨ad0, e0, hx0⟩ := Kd.at_int HR0.out (i : Int) (by omega) (by omega)
          obtain ⟨ad1, e1, hx1⟩ := Kd.at_int HR1.out (i : Int) (by omega) (by omega)
          subst e0; subst e1
          replace hx0 := pw_cell_below HB.out hx0
          rw [rd_at hi0] at hx0
          rw [rd_at hi1] at hx1
          rw [enc_at hi0 hi1] at HRD
          have hn := HNS.out _ (List.getElem_mem hi1)
          have hll := enc_length (ws.drop i) (ns.drop i)
          rw [enc_at hi0 hi1, List.length_drop] at hll
          obtain ⟨a, ha⟩ : ∃ a, ws[i] = a := ⟨_, rfl⟩
          obtain ⟨n, hne⟩ : ∃ n, ns[i] = n := ⟨_, rfl⟩
          rw [ha, hne] at HRD hll
          rw [hne] at hn
          rw [ha] at hx0; rw [hne] at hx1
          have hm8 := octet_Put.wid_le a
          have hme := octet_Put.wid_eq a
          obtain ⟨k, hk1, hk2⟩ := taken (m := octet_Put.wid a) (rest := enc (ws.drop (i + 1)) (ns.drop (i + 1))) hm8 hn (enc_bytes _ _) (by omega)
          have hdl : ((octet_Put.wid a : Nat) : Int) ≤ ((MBe.be n (octet_Put.wid a) ++ enc (ws.drop (i + 1)) (ns.drop (i + 1))).length : Int) := by rw [List.length_append, MBe.be_length]; omega
          have hdr : (MBe.be n (octet_Put.wid a) ++ enc (ws.drop (i + 1)) (ns.drop (i + 1))).drop ((octet_Put.wid a : Nat) : Int).toNat = enc (ws.drop (i + 1)) (ns.drop (i + 1)) := by
            rw [Int.toNat_natCast, List.drop_append_of_le_length (by rw [MBe.be_length]; omega), List.drop_of_length_le (by rw [MBe.be_length]; omega), List.nil_append]
          obtain ⟨m, hm⟩ : ∃ m, octet_Put.wid a = m := ⟨_, rfl⟩
          obtain ⟨x, hx⟩ : ∃ x, n % 256 ^ m = x := ⟨_, rfl⟩
          rw [hm] at hme HRD hk1 hk2 hdl hdr hm8
          rw [hx] at hk1 hk2
          obtain ⟨q, hq⟩ : ∃ q, mx a 0 = q := ⟨_, rfl⟩
          rw [hq] at hme
          unfold mn at hme
          unfold mx at hq
          obtain ⟨ji, hji⟩ : ∃ ji : Int, (i : Int) = ji := ⟨_, rfl⟩
          have q0 : (0 : Int) ≤ ji := by omega
          have q1 : ji < (ws.length : Int) := by omega
          have q2 : ji < (ns.length : Int) := by omega
          rw [hji] at hlt hx0 hx1 ⊢
          have HX1 := Aside0.mk hx1
          replace hx1 := pw_cell_below HB.out hx1
          have HJ := Aside0.mk hji; have HK1 := Aside0.mk hk1; have HK2 := Aside0.mk hk2; have HDL := Aside0.mk hdl; have HDR := Aside0.mk hdr; have HM8 := Aside0.mk hm8
          clear hji ha hne hi0 hi1 hi hn hll hm hx hk1 hk2 hdl hdr hm8
          go_wp2_with fail
          go_region_held3 (fun w' => w'.cell? (ad1.add ji.toNat) = some (.int .u64 n)) (go_keep) (first | (go_at_call 18; refine (octet_Reader_Num.ok k g b _ (m : Int) x wr.drew (MReader.Rdr.keep HRD.out rfl rfl (Nat.le_refl _)) HK1.out (by omega) HDL.out).mono ?_; rintro e w3 ⟨rfl, hr, hgr⟩; rw [HDR.out] at hr; have HRD2 := Aside0.mk hr; have HB3 := Aside0.mk (MReader.below_grown HB.out (show wr.grownBy w3 (some g) from ⟨hgr.os, hgr.tape, hgr.output, hgr.size, hgr.block⟩) HG.out HB.out.size); have z1 := pw_cell_below HB3.out HX1.out; clear hx1 HB hr hgr) | (go_at_call 19; refine (crosswaylaw01_low.calls k n (m : Int) x _ HK2.out).mono ?_; rintro e w5 ⟨rfl, ⟨nd, rfl⟩⟩))
          go_wp2_with fail
          go_roundg d
          case measure => omega
          case rel => exact ⟨i + 1, by have := HJ.out; go_num, ⟨by have := HI.out; omega⟩, ⟨HRD2.out.drewN _⟩, ⟨(by repeat (first | (with_reducible first | exact HB3.out | apply below_alloc | apply pw_below_drewN | apply below_drew1) | exact HB3.out))⟩⟩
    | succ d =>
      have hlt : (i : Int) < (N : Int) := by omega
      have hi0 : i < ws.length := by have := HN.out; omega
      have hi1 : i < ns.length := by have := HN.out; omega
      obtain ⟨A6, c6, rfl⟩ := Kd.R_slice HV.out
      have hbl : bs.length ≤ 140737488355200 := by
        have h1 := congrArg List.length HE.out; have h2 := enc_length ws ns
        rw [List.length_append] at h1; omega
      have HBL := Aside0.mk hbl
      clear hbl
      have HVC := Aside0.mk (Kd.C_drew (Kd.R_reads' HV.out).2.2); have HVL := Aside0.mk (Kd.R_reads' HV.out).2.1
      obtain ⟨ad0, e0, hx0⟩ := Kd.at_int HR0.out (i : Int) (by omega) (by omega)
      obtain ⟨ad1, e1, hx1⟩ := Kd.at_int HR1.out (i : Int) (by omega) (by omega)
      subst e0; subst e1
      replace hx0 := pw_cell_below HB.out hx0
      replace hx1 := pw_cell_below HB.out hx1
      rw [rd_at hi0] at hx0
      rw [rd_at hi1] at hx1
      obtain ⟨a, ha⟩ : ∃ a, ws[i] = a := ⟨_, rfl⟩
      obtain ⟨n, hn⟩ : ∃ n, ns[i] = n := ⟨_, rfl⟩
      rw [ha] at hx0; rw [hn] at hx1
      obtain ⟨ji, hji⟩ : ∃ ji : Int, (i : Int) = ji := ⟨_, rfl⟩
      have q0 : (0 : Int) ≤ ji := by omega
      have q1 : ji < (ws.length : Int) := by omega
      have q2 : ji < (ns.length : Int) := by omega
      rw [hji] at hlt hx0 hx1 ⊢
      have HJ := Aside0.mk hji; have HA := Aside0.mk (⟨hi0, ha⟩ : ∃ h : i < ws.length, ws[i] = a); have HNN := Aside0.mk (⟨hi1, hn⟩ : ∃ h : i < ns.length, ns[i] = n)
      clear hji ha hn hi0 hi1 hi
      have HPF := Aside0.mk (show octet_Put.f bs a n = some (bs ++ MBe.be n (octet_Put.wid a)) from if_pos HBL.out)
      go_wp2_with fail
      go_region_held3 (fun w' => w'.cell? (ad0.add ji.toNat) = some (.int .i64 a) ∧ w'.cell? (ad1.add ji.toNat) = some (.int .u64 n)) (go_keep) (first | (go_at_call 11; refine (octet_Put.calls A6 c6 bs a n (bs ++ MBe.be n (octet_Put.wid a)) wr.drew HVC.out HVL.out HPF.out).mono ?_; rintro e w3 ⟨v3, rfl, ho, hb⟩; have z0 := pw_cell_below hb (show wr.drew.cell? _ = _ from hx0); have z1 := pw_cell_below hb (show wr.drew.cell? _ = _ from hx1); clear hx0 hx1; have HO := Aside0.mk (Kd.R_lower ho (show w.heap.size ≤ wr.heap.size from HB.out.size)); have HB3 := Aside0.mk (below_of (below_drew HB.out) hb); clear HB hb ho))
      go_wp2_with fail
      go_roundg d
      case measure => omega
      case rel =>
        refine ⟨i + 1, _, by have := HJ.out; go_num, ⟨by have := HI.out; omega⟩, ⟨?_⟩, HO, HB3⟩
        obtain ⟨p0, p1⟩ := HA.out; obtain ⟨p2, p3⟩ := HNN.out
        rw [List.append_assoc, ← p1, ← p3, ← enc_at p0 p2]; exact HE.out
end Go.Proofs.Ytbfchmfanbeocaa.WOctetBack
namespace Go.Proofs.Ytbfchmfanbeocaa.WOctetBack
open Go.RowKit Go.Proofs.Ytbfchmfanbeocaa.PBase Go.Proofs.Ytbfchmfanbeocaa.MTally Go.Proofs.YtbfchmfanbeocaaW.PrintWords
theorem calls (A0 : Option Addr) (c0 : Nat) (ws : List Int) (A1 : Option Addr) (c1 : Nat) (ns : List Int) (hl : ws.length * 8 ≤ 140737488351232) (hw : ∀ x ∈ ws, (Lit.int .i64 x).wf = true) (hl1 : ns.length * 8 ≤ 140737488351232) (hn : ∀ x ∈ ns, (Lit.int .u64 x).wf = true)
    (w : World) (hr0 : Kd.C (Kd.int .i64) w A0 ws.length ws) (hc0 : ws.length ≤ c0) (hr1 : Kd.C (Kd.int .u64) w A1 ns.length ns) (hc1 : ns.length ≤ c1) :
    Calls Try.prog 5 #[.slice A0 ws.length c0, .slice A1 ns.length c1] w fun e w' => e = .returned (.bool true) ∧ Below w.heap.size w w' :=
  main A0 c0 ws A1 c1 ns w hr0 hc0 hr1 hc1 hl hl1 (fun x hx => Pure.i64_of_wf (hw x hx)) (fun x hx => Pure.u64_of_wf (hn x hx))
end Go.Proofs.Ytbfchmfanbeocaa.WOctetBack
