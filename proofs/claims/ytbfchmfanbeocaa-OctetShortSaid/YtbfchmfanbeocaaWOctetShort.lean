/-
  The walk of the law OctetShort, by hand, out of the contracts of what it calls.
-/
import Derived.Test.YtbfchmfanbeocaaPBasex3
import Derived.Test.YtbfchmfanbeocaaPureRef01
import Derived.Test.YtbfchmfanbeocaaMReader
import Derived.Outline
set_option linter.unusedVariables false
set_option linter.unusedSimpArgs false
namespace Go.Proofs.Ytbfchmfanbeocaa.WOctetShort
open Go.RowKit Go.Proofs.Ytbfchmfanbeocaa.PBase Go.Proofs.YtbfchmfanbeocaaW.PrintWords Go.Proofs.YtbfchmfanbeocaaW.PrintLast Go.Proofs.YtbfchmfanbeocaaW.PrintMore
/-! Small facts for walks by hand. -/
theorem drewN_below {w w1 : World} (h : Below w.heap.size w w1) (n : Nat) : Below w.heap.size w (w1.drewN n) := pw_below_drewN h n
theorem below_of {w w1 w2 : World} (h : Below w.heap.size w w1) (h2 : Below w1.heap.size w1 w2) : Below w.heap.size w w2 := below_step h h2
/-- One slice in a new block: a row of one slice, that is read. -/
theorem C_one {e : Nat} {α : Type} {d : Kd α} {w : World} {A : Option Addr} {l : List α} {c : Nat} {ad : Addr} (hr : d.C w A l.length l) (hc : l.length ≤ c) (hcell : w.cell? ad = some (.slice A l.length c)) : Kd.C (Kd.slice e d) w (some ad) [l].length [l] := by
  refine ⟨rfl, by simp, fun _ => ⟨ad, rfl, fun j p hj => ?_⟩⟩
  cases j with
  | zero =>
    obtain rfl : l = p := by simpa using hj
    refine ⟨[.slice A l.length c], rfl, ⟨A, c, rfl, hc, hr⟩, fun i u hu => ?_⟩
    cases i with
    | zero =>
      obtain rfl : Value.slice A l.length c = u := by simpa using hu
      have e : ad.add (0 * (Kd.slice e d).sz + 0) = ad := by rw [Nat.zero_mul]; unfold Addr.add; cases ad; rename_i b o f; cases f <;> rfl
      rw [e]; exact hcell
    | succ i => simp at hu
  | succ j => simp at hj
/-- A variadic call's row of one slice: the new block, and its one cell. -/
theorem C_var {e t : Nat} {α : Type} {d : Kd α} {W : World} {A : Option Addr} {l : List α} {c b : Nat} (hr : d.C W A l.length l) (hc : l.length ≤ c) (hb : b = W.heap.size) :
    Kd.C (Kd.slice e d) (W.alloc (.cells #[.slice A l.length c] t)) (some ⟨b, 0, none⟩) [l].length [l] :=
  C_one (Kd.C_below hr (below_alloc (Below.refl _ _) _)) hc (by subst hb; simp)
/-- What a reader is asked for, as it lies in a row. -/
structure S44 where
  f0 : Bool
  f1 : Int
def z44 : S44 := ⟨false, 0⟩
def k44 : Kd S44 := Kd.iso (Kd.pair Kd.bool (Kd.int .i64)) (fun x : S44 => (x.f0, x.f1))
theorem k44_open {w : World} {x : S44} {cs : List Value} (h : k44.K w x cs) : cs = [.bool x.f0, .int .i64 x.f1] := by
  obtain ⟨_, _, rfl, rfl, rfl⟩ := h
  exact rfl
theorem at_take {w : World} {A : Option Addr} {xs : List S44} (h : Kd.C k44 w A xs.length xs) {i : Nat} (h1 : i < xs.length) : ∃ ad, A = some ad ∧ w.cell? (ad.add (i * 2)) = some (.bool xs[i].f0) ∧ w.cell? ⟨(ad.add (i * 2)).block, (ad.add (i * 2)).off + 1, none⟩ = some (.int .i64 xs[i].f1) := by
  obtain ⟨ad, c, e, _, hK, hc0⟩ := Kd.C_get h z44 (i : Int) (by omega) (by omega)
  rw [Int.toNat_natCast] at hc0 hK
  have hg : xs.getD i z44 = xs[i] := by simp [List.getD_eq_getElem?_getD, List.getElem?_eq_getElem h1]
  rw [hg] at hK
  have hc : ∀ j u, c[j]? = some u → w.cell? (ad.add (i * 2 + j)) = some u := hc0
  obtain rfl := k44_open hK
  exact ⟨ad, e, hc 0 _ rfl, by rw [← add_field _ _ 1 (by omega)]; exact hc 1 _ rfl⟩
/-- A reader that has nothing left: what a number is read as. -/
theorem nothing (w : Int) (hw : -9223372036854775808 ≤ w ∧ w ≤ 9223372036854775807) : ∃ k n ok, octet_Get.f k [] 0 w = some (n, ok) := by
  obtain ⟨k, h⟩ := Pure.get_ev (l := []) (a := 0) (w := w) MTally.Bytes.nil (by decide) (by decide) hw
  exact ⟨k, _, _, h k (Nat.le_refl _)⟩
set_option maxHeartbeats 1000000 in
set_option maxRecDepth 100000 in
theorem main (A0 : Option Addr) (c0 : Nat) (l : List Int) (more : Int) (A2 : Option Addr) (c2 : Nat) (ls : List S44) (w : World) (hr0 : Kd.C (Kd.int .u8) w A0 l.length l) (hc0 : l.length ≤ c0) (hr2 : Kd.C k44 w A2 ls.length ls) (hc2 : ls.length ≤ c2)
    (hl : l.length ≤ 140737488355200) (hls : ls.length ≤ 140737488355200) (hm : -9223372036854775808 ≤ more ∧ more ≤ 9223372036854775807) (hf : ∀ x ∈ ls, -9223372036854775808 ≤ x.f1 ∧ x.f1 ≤ 9223372036854775807) :
    Calls Try.prog 8 #[.slice A0 l.length c0, .int .i64 more, .slice A2 ls.length c2] w fun e w' => e = .returned (.bool true) ∧ Below w.heap.size w w' := by
  have HR0 := Aside0.mk hr0; have HC0 := Aside0.mk hc0; have HR2 := Aside0.mk hr2; have HC2 := Aside0.mk hc2
  have HL := Aside0.mk hl; have HLS := Aside0.mk hls; have HF := Aside0.mk hf; have HM := Aside0.mk hm
  clear hr0 hc0 hr2 hc2 hf
  have HB := Aside0.mk (Below.refl w.heap.size w)
  obtain ⟨t, ht⟩ : ∃ t : Int, more.tmod 1000 = t := ⟨_, rfl⟩
  have ht0 : (more > 0 ∧ 0 ≤ t ∧ t < 1000) ∨ ¬ more > 0 := by
    by_cases h : more > 0
    · left; rw [← ht, Int.tmod_eq_emod_of_nonneg (by omega)]; omega
    · right; exact h
  rcases ht0 with ⟨h1, h2, h3⟩ | h1
  all_goals
    go_enter Try.func8, Try.ntmps8
    go_wp2_with fail
    refine (crosswaylaw01_awake.calls true _ rfl).mono ?_
    rintro e w1 ⟨rfl, hb⟩
    replace HB := Aside0.mk (below_of (by repeat (first | (with_reducible first | exact HB.out | apply below_alloc | apply pw_below_drewN | apply below_drew1) | exact HB.out)) hb); clear hb
    go_wp2_with fail
    refine (octet_New.calls A0 c0 l _ (Kd.C_below HR0.out (by repeat (first | (with_reducible first | exact HB.out | apply below_alloc | apply pw_below_drewN | apply below_drew1) | exact HB.out))) HC0.out HL.out).mono ?_
    rintro e w4 ⟨g, b, rfl, hr, hg, hb, hbl⟩
    have HG := Aside0.mk (Nat.le_trans HB.out.size hg)
    replace HB := Aside0.mk (below_of (by repeat (first | (with_reducible first | exact HB.out | apply below_alloc | apply pw_below_drewN | apply below_drew1) | exact HB.out)) hbl)
    have HRD := Aside0.mk hr
    clear hr hg hb hbl
    go_wp2_with fail
    refine (octet_Reader_Bytes.bad g b l false _ _ HRD.out (.inr (.inr (by omega)))).mono ?_
    rintro e w5 ⟨rfl, hr, hgr⟩
    replace HB := Aside0.mk (MReader.below_grown HB.out hgr HG.out HB.out.size)
    have HRE := Aside0.mk hr
    clear hr hgr HRD
    go_wp2_with fail
    go_loopg [11] ls.length (fun kq v11 w' => ∃ i : Nat, v11 = .int .i64 (i : Int) ∧ Aside0 (ls.length = i + kq) ∧ Aside0 (MReader.Rdr 52 w' g b [] true) ∧ Aside0 (Below w.heap.size w w'))
    case atStart => exact ⟨0, rfl, ⟨by omega⟩, ⟨HRE.out⟩, ⟨(by repeat (first | (with_reducible first | exact HB.out | apply below_alloc | apply pw_below_drewN | apply below_drew1) | exact HB.out))⟩⟩
    case round =>
      clear HB HRE
      obtain ⟨i, rfl, HI, HRD, HB⟩ := hrel
      have hi := HI.out
      cases gk with
      | zero =>
        have hge : (ls.length : Int) ≤ (i : Int) := by omega
        clear hi
        go_wp2_with fail
        refine (octet_Reader_Short.calls g b [] true _ HRD.out).mono ?_
        rintro e w9 ⟨rfl, rfl⟩
        go_wp2_with fail
        go_ret
        exact ⟨rfl, HB.out⟩
      | succ d =>
        have hlt : (i : Int) < (ls.length : Int) := by omega
        have hi0 : i < ls.length := by omega
        obtain ⟨ad0, e0, hx0, hx1⟩ := at_take HR2.out hi0
        subst e0
        have hf1 := HF.out _ (List.getElem_mem hi0)
        obtain ⟨x, hx⟩ : ∃ x, ls[i].f1 = x := ⟨_, rfl⟩
        obtain ⟨bb, hbb⟩ : ∃ bb, ls[i].f0 = bb := ⟨_, rfl⟩
        rw [hx] at hx1 hf1
        rw [hbb] at hx0
        obtain ⟨k, n, ok, hk⟩ := nothing x hf1
        obtain ⟨ji, hji⟩ : ∃ ji : Int, (i : Int) = ji := ⟨_, rfl⟩
        rw [show i * 2 = ji.toNat * 2 by omega] at hx1
        have q0 : (0 : Int) ≤ ji := by omega
        rw [hji] at hlt ⊢
        have HX1 := Aside0.mk hx1
        replace hx1 := pw_cell_below HB.out hx1
        have HJ := Aside0.mk hji; have HK := Aside0.mk hk
        clear hji hi0 hi hx hbb hk hx0
        go_wp2_with fail
        refine (octet_Reader_Short.calls g b [] true _ HRD.out).mono ?_
        rintro e w9 ⟨rfl, rfl⟩
        go_wp2_with fail
        refine (octet_Reader_Left.calls g b [] true _ HRD.out).mono ?_
        rintro e w9 ⟨rfl, rfl⟩
        go_wp2_with fail
        refine (octet_Reader_Num.bad k g b [] true x n ok _ HRD.out HK.out (.inl rfl)).mono ?_
        rintro e w9 ⟨rfl, hr, hgr⟩
        replace HB := Aside0.mk (MReader.below_grown HB.out hgr HG.out HB.out.size)
        replace HRD := Aside0.mk hr
        clear hr hgr hx1
        have hx1 := pw_cell_below HB.out HX1.out
        go_wp2_with fail
        refine (octet_Reader_Bytes.bad g b [] true x _ HRD.out (.inl rfl)).mono ?_
        rintro e w9 ⟨rfl, hr, hgr⟩
        replace HB := Aside0.mk (MReader.below_grown HB.out hgr HG.out HB.out.size)
        replace HRD := Aside0.mk hr
        clear hr hgr hx1
        go_wp2_with fail
        go_roundg d
        case measure => omega
        case rel => exact ⟨i + 1, by have := HJ.out; go_num, ⟨by have := HI.out; omega⟩, ⟨HRD.out⟩, ⟨(by repeat (first | (with_reducible first | exact HB.out | apply below_alloc | apply pw_below_drewN | apply below_drew1) | exact HB.out))⟩⟩
end Go.Proofs.Ytbfchmfanbeocaa.WOctetShort
namespace Go.Proofs.Ytbfchmfanbeocaa.WOctetShort
open Go.RowKit Go.Proofs.Ytbfchmfanbeocaa.PBase Go.Proofs.Ytbfchmfanbeocaa.MTally Go.Proofs.YtbfchmfanbeocaaW.PrintWords
theorem calls (A0 : Option Addr) (c0 : Nat) (l : List Int) (more : Int) (A2 : Option Addr) (c2 : Nat) (ls : List S44) (hl : l.length * 1 ≤ 140737488351232) (hb : ∀ x ∈ l, (Lit.int .u8 x).wf = true) (hm : (Lit.int .i64 more).wf = true)
    (hl2 : ls.length * 16 ≤ 140737488351232) (hf : ∀ x ∈ ls, True ∧ (Lit.int .i64 x.f1).wf = true)
    (w : World) (hr0 : Kd.C (Kd.int .u8) w A0 l.length l) (hc0 : l.length ≤ c0) (hr2 : Kd.C k44 w A2 ls.length ls) (hc2 : ls.length ≤ c2) :
    Calls Try.prog 8 #[.slice A0 l.length c0, .int .i64 more, .slice A2 ls.length c2] w fun e w' => e = .returned (.bool true) ∧ Below w.heap.size w w' :=
  main A0 c0 l more A2 c2 ls w hr0 hc0 hr2 hc2 (by omega) (by omega) (Pure.i64_of_wf hm) (fun x hx => Pure.i64_of_wf (hf x hx).2)
end Go.Proofs.Ytbfchmfanbeocaa.WOctetShort
