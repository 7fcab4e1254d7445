/-
  The statement IfaceOne: each address is one port's, each name, each local is told. Conditions: those of each theorem.
-/
import Derived.Test.YtefbcigccfkkgaaWIface10
set_option linter.unusedVariables false
set_option linter.unusedSimpArgs false
namespace Go.Proofs.Ytefbcigccfkkgaa.WIf
open Go.RowKit Go.Maps Go.WideMaps Go.Proofs.Ytefbcigccfkkgaa.PBase Go.Proofs.YtefbcigccfkkgaaW.PrintWords Go.Proofs.YtefbcigccfkkgaaW.PrintLast Go.Proofs.YtefbcigccfkkgaaW.PrintMore Go.Proofs.Ytefbcigccfkkgaa.If
attribute [local go_sem] max2_int min2_int max_two min_two
attribute [local go_sem high] eqA25
theorem at_none {st : St} {n : Int} (h : at? st n = none) : n < 1 ∨ n > st.length := by
  unfold at? at h
  split at h
  · assumption
  · cases h
/-- All names are short. -/
def Short (st : St) : Prop := ∀ p ∈ st, p.nm.size ≤ 8
theorem short_mod {st : St} (h : Short st) (i : Nat) (f : Pt → Pt) (hf : ∀ p, (f p).nm = p.nm) : Short (st.modify i f) := fun q hq => by
  rcases mod_mem hq with ⟨p, h1, rfl⟩ | q1
  · rw [hf]; exact h p (List.mem_of_getElem? h1)
  · exact h q q1
theorem short_step {st : St} (h : Short st) (x : Sp) : Short (If.step st x).1 := by
  unfold If.step
  split
  · unfold add
    split
    · exact h
    rename_i c
    split
    · exact h
    split
    · exact h
    · intro p hp
      rcases List.mem_append.1 hp with q | q
      · exact h p q
      · rw [List.mem_singleton.1 q]
        have hn : nameB x.name = true := by
          cases e : nameB x.name with
          | true => rfl
          | false => exact absurd (.inl e) c
        unfold nameB at hn
        rw [Bool.and_eq_true, decide_eq_true_eq] at hn
        exact hn.1.2
  split
  · unfold turn
    split
    · exact h
    · exact short_mod h _ _ (fun _ => rfl)
  split
  · unfold drop
    split
    · exact h
    · split
      · exact h
      · exact short_mod h _ _ (fun _ => rfl)
  · unfold put
    split
    · exact h
    split
    · exact h
    split
    · exact h
    · exact short_mod h _ _ (fun _ => rfl)
theorem short_run : ∀ (xs : List Sp) {st : St}, Short st → Short (If.run st xs)
  | [], _, h => h
  | x :: r, _, h => short_run r (short_step h x)
theorem short_made (xs : List SI) (i : Nat) : Short (madeAt xs i) := short_run _ (fun p hp => by cases hp)
theorem locals_some {st : St} {n : Int} {i : Nat} {p : Pt} (hn : at? st n = some i) (hp : st[i]? = some p) : locals st n = p.ls := by unfold locals; simp only [hn, hp]; rfl
theorem locals_none {st : St} {n : Int} (hn : at? st n = none) : locals st n = [] := by unfold locals; rw [hn]
theorem portR_some {st : St} {n : Int} {i : Nat} {p : Pt} (hn : at? st n = some i) (hp : st[i]? = some p) : portR st n = (⟨p.nm, p.mac, p.mtu, p.up⟩, true) := by unfold portR; simp only [hn, hp]
theorem portR_none {st : St} {n : Int} (hn : at? st n = none) : portR st n = (z50, false) := by unfold portR; rw [hn]
/-- What the statement asks of a port. -/
structure Good (st : St) (n : Int) (P : S50) (b : Bool) (L : List Lo) : Prop where mk ::
  (no : b = false → L = [])
  (yes : b = true → named st P.f0 = n ∧ P.f0.size ≤ 8)
  (few : L.length ≤ 8)
  (each : ∀ (k : Nat) l, L[k]? = some l → mine st l.f0 = n ∧ (l.f0.f0 = true → 1280 ≤ P.f2))
  (apart : ∀ (m k : Nat) x y, m < k → L[m]? = some x → L[k]? = some y → x.f0 ≠ y.f0)
theorem good {st : St} (h : Inv st) (hs : Short st) (n : Int) : Good st n (portR st n).1 (portR st n).2 (locals st n) := by
  cases hn : at? st n with
  | none =>
    rw [portR_none hn, locals_none hn]
    exact ⟨fun _ => rfl, (fun q => by cases q), by simp, (fun k l q => by simp at q), (fun m k x y _ q => by simp at q)⟩
  | some i =>
    obtain ⟨hi, hni⟩ := at_lt hn
    have hp : st[i]? = some st[i] := List.getElem?_eq_getElem hi
    rw [portR_some hn hp, locals_some hn hp]
    generalize st[i] = p at hp
    have hm := List.mem_of_getElem? hp
    refine ⟨(fun q => by cases q), (fun _ => ⟨?_, hs p hm⟩), (h.rows p hm).1, (fun k l hl => ⟨?_, fun q => ?_⟩), (fun m k x y hmk hx hy => ?_)⟩
    · show named st p.nm = n
      unfold named
      rw [h.names i p hp]
      exact hni.symm
    · unfold mine
      rw [h.owns i p hp l (List.mem_of_getElem? hl)]
      exact hni.symm
    · exact ((h.rows p hm).2 l (List.mem_of_getElem? hl)).2 q
    · obtain ⟨h1, rfl⟩ := List.getElem?_eq_some_iff.1 hx
      obtain ⟨h2, rfl⟩ := List.getElem?_eq_some_iff.1 hy
      exact List.pairwise_iff_getElem.1 (h.apart p hm) m k h1 h2 hmk
theorem port_nine {st : St} (h : st.length ≤ 8) : (portR st 9).2 = false := by
  rw [portR_none (by unfold at?; rw [if_pos (.inr (by omega))])]
theorem port_nought (st : St) : (portR st 0).2 = false := by
  rw [portR_none (by unfold at?; rw [if_pos (.inl (by omega))])]
theorem at_lo {w : World} {A : Option Addr} {L : List Lo} (h : k34.C w A L.length L) {i : Nat} {l : Lo} (hl : L[i]? = some l) : ∃ ad, w.cell? (ad.add (i * 4)) = some (.bool l.f0.f0) ∧ w.cell? ⟨(ad.add (i * 4)).block, (ad.add (i * 4)).off + 1, none⟩ = some (.int .u64 l.f0.f1) ∧ w.cell? ⟨(ad.add (i * 4)).block, (ad.add (i * 4)).off + 2, none⟩ = some (.int .u64 l.f0.f2) ∧ w.cell? ⟨(ad.add (i * 4)).block, (ad.add (i * 4)).off + 3, none⟩ = some (.int .i64 l.f1) ∧ A = some ad := by
  have hi := (List.getElem?_eq_some_iff.1 hl).1
  obtain ⟨ad, e, x0, x1, x2, x3⟩ := at_T34 h (i : Int) (by omega) (by omega)
  have hrd : rd_T34 L (i : Int) = l := by
    unfold rd_T34
    rw [Int.toNat_natCast, List.getD_eq_getElem?_getD, hl, Option.getD_some]
  rw [hrd, Int.toNat_natCast] at x0 x1 x2 x3
  exact ⟨ad, x0, x1, x2, x3, e⟩
theorem ad_eq {a b : Ad} (h : a.f0 = b.f0 ∧ a.f1 = b.f1 ∧ a.f2 = b.f2) : a = b := by
  obtain ⟨h0, h1, h2⟩ := h
  cases a; cases b; simp_all
abbrev poA (P : S50) : Array Value := #[.string P.f0, .int .u64 P.f1, .int .i64 P.f2, .bool P.f3]
set_option maxHeartbeats 4000000 in
set_option maxRecDepth 100000 in
theorem one (A : Option Addr) (c : Nat) (xs : List SI) (w : World) (hC : Kd.C k45 w A xs.length xs) (hl : xs.length ≤ 140737488355328) (hfit : ∀ x ∈ xs, Fit x) :
    Calls Try.prog 5 #[.slice A xs.length c] w fun e w' => e = .returned (.bool true) ∧ Below w.heap.size w w' := by
  have hu50 := Try.underlying50
  have HC := Aside0.mk hC
  clear hC
  go_enter Try.func5, Try.ntmps5
  go_wp2_with fail
  refine Calls.mono (awake_calls w) ?_
  rintro e w1 ⟨rfl, hb⟩
  have HB := Aside0.mk hb
  clear hb
  go_wp2_with fail
  refine Calls.mono (made_calls w1 A c xs (Kd.C_below HC.out HB.out) hl hfit) ?_
  rintro e w2 ⟨sb, rfl, hh, hb⟩
  replace HB := Aside0.mk (below_step HB.out hb)
  have HH := Aside0.mk hh
  have HI := Aside0.mk (inv_made xs 60)
  have HSH := Aside0.mk (short_made xs 60)
  clear hb hh
  generalize madeAt xs 60 = st at HH HI HSH
  generalize hB0 : w1.heap.size = B0 at HH
  clear hB0 hfit hl
  go_wp2_with fail
  go_loopg [5] 8 (fun kq v5 w' => ∃ (j : Nat), v5 = .int .i64 ((j : Int) + 1) ∧ Aside0 (j + kq = 8) ∧ Aside0 (Has w' B0 (fun _ => False) sb st) ∧ Aside0 (Below w.heap.size w w'))
  case atStart => exact ⟨0, rfl, ⟨by omega⟩, HH, HB⟩
  case round =>
    clear HH HB
    obtain ⟨j, rfl, HJ, HH, HB⟩ := hrel
    obtain ⟨n, hn⟩ : ∃ n : Int, (j : Int) + 1 = n := ⟨_, rfl⟩
    rw [hn]
    by_cases h8 : n ≤ 8
    · have HG := Aside0.mk (good HI.out HSH.out n)
      have hport := fun W (hW : Has W B0 (fun _ => False) sb st) => has_port hW HI.out n
      have hlocs := fun W (hW : Has W B0 (fun _ => False) sb st) => has_locals hW HI.out n
      generalize (portR st n).1 = P at HG hport
      generalize (portR st n).2 = b at HG hport
      generalize locals st n = L at HG hlocs
      have HN := Aside0.mk hn
      have hw1 : wrap64 (n + 1) = ((j + 1 : Nat) : Int) + 1 := by unfold wrap64; omega
      have HW1 := Aside0.mk hw1
      obtain ⟨gk0, rfl⟩ : ∃ q, gk = q + 1 := ⟨gk - 1, by have := HJ.out; omega⟩
      clear hn hw1
      go_wp2_with fail
      refine Calls.mono (hport _ HH.out) ?_
      rintro e w3 ⟨rfl, hb⟩
      replace HH := Aside0.mk (HH.out.below hb)
      replace HB := Aside0.mk (below_step HB.out hb)
      clear hb
      go_upto_region 9 with (first | ((with_reducible refine gate_dst (N := 6) rfl ?_); refine sh_E 6 50 #[.string (⟨#[]⟩ : ByteArray), .int .u64 0, .int .i64 0, .bool false] ?_; intro g6 hg V1 hbox hb; have HG6 := Aside0.mk hg; have BK6 := Aside0.mk hbox; have HBB := Aside0.mk hb; obtain ⟨d0, d1, d2, d3⟩ := MBlk.c4 hbox; obtain ⟨f0, f1, f2, f3⟩ := MBlk.f4 hbox; clear hbox hb hg) | fail)
      have hbk := put4 (b0 := .string P.f0) (b1 := .int .u64 P.f1) (b2 := .int .i64 P.f2) (b3 := .bool P.f3) BK6.out
      have hbb : Below w3.heap.size w3 ((((V1.setCell ⟨g6, 0, none⟩ (.string P.f0)).setCell ⟨g6, 1, none⟩ (.int .u64 P.f1)).setCell ⟨g6, 2, none⟩ (.int .i64 P.f2)).setCell ⟨g6, 3, none⟩ (.bool P.f3)) := below4 HBB.out (by have := HG6.out; omega)
      clear BK6 HBB HG6 f0 f1 f2 f3 d0 d1 d2 d3
      generalize ((((V1.setCell ⟨g6, 0, none⟩ (.string P.f0)).setCell ⟨g6, 1, none⟩ (.int .u64 P.f1)).setCell ⟨g6, 2, none⟩ (.int .i64 P.f2)).setCell ⟨g6, 3, none⟩ (.bool P.f3)) = V2 at hbk hbb ⊢
      clear V1
      replace HH := Aside0.mk (HH.out.below hbb)
      replace HB := Aside0.mk (below_step HB.out hbb)
      have BK6 := Aside0.mk hbk
      clear hbb hbk
      go_wp2_with fail
      refine Calls.mono (hlocs _ HH.out) ?_
      rintro e V3 ⟨⟨A2, c2, rfl, hc2, _⟩, hb⟩
      replace HH := Aside0.mk (HH.out.below hb)
      replace HB := Aside0.mk (below_step HB.out hb)
      replace BK6 := Aside0.mk (blk_below BK6.out hb)
      have HC2 := Aside0.mk hc2
      clear hb hc2
      obtain ⟨d0, d1, d2, d3⟩ := MBlk.c4 BK6.out
      have hlen8 : decide (8 < (L.length : Int)) = false := decide_eq_false (by have := HG.out.few; omega)
      have hlenI : (L.length : Int) ≤ 8 := by have := HG.out.few; omega
      cases b with
      | true =>
        obtain ⟨hnm, hns⟩ := HG.out.yes rfl
        go_wp2_with fail
        have hcn := has_named HH.out P.f0 (by unfold maxLen; omega)
        rw [hnm] at hcn
        refine Calls.mono hcn ?_
        rintro e V4 ⟨rfl, rfl⟩
        clear hcn hnm hns
        go_upto_region 12 with (fail)
        go_wp2_with fail
        go_loopg [9] L.length (fun kq v9 w' => ∃ k : Nat, v9 = .int .i64 (k : Int) ∧ Aside0 (k + kq = L.length) ∧ Aside0 (Has w' B0 (fun _ => False) sb st) ∧ Aside0 (Below w.heap.size w w') ∧ Aside0 (w'.heap[g6]? = some (.cells (poA P) 50 (0, 0))) ∧ Aside0 (k34.C w' A2 L.length L))
        case atStart => exact ⟨0, rfl, ⟨by omega⟩, HH, HB, BK6, HC2⟩
        case round =>
          clear HH HB BK6 HC2 d0 d1 d2 d3
          obtain ⟨k, rfl, HK, HH, HB, BK6, HC2⟩ := hrel
          by_cases hk : k < L.length
          · obtain ⟨l, hl⟩ : ∃ l, L[k]? = some l := ⟨_, List.getElem?_eq_getElem hk⟩
            obtain ⟨ad, x0, x1, x2, x3, e⟩ := at_lo HC2.out hl
            obtain ⟨hmine, hsix⟩ := HG.out.each k l hl
            have HL := Aside0.mk hl
            obtain ⟨y, hy⟩ : ∃ y : Int, (k : Int) = y := ⟨_, rfl⟩
            have hyn : y.toNat = k := by omega
            rw [← hyn] at x0 x1 x2 x3
            rw [hy]
            subst e
            have HY := Aside0.mk hy
            have b1 : decide (y < (L.length : Int)) = true := decide_eq_true (by omega)
            have p1 : (0 ≤ y) = True := eq_true (by omega)
            have q1 : (y < (L.length : Int)) = True := eq_true (by omega)
            have hyw : wrap64 (y + 1) = ((k + 1 : Nat) : Int) := by unfold wrap64; omega
            have HYW := Aside0.mk hyw
            have HMT := Aside0.mk hsix
            obtain ⟨gk2, rfl⟩ : ∃ q, gk = q + 1 := ⟨gk - 1, by have := HK.out; omega⟩
            obtain ⟨d0, d1, d2, d3⟩ := MBlk.c4 BK6.out
            clear hl hy hyn hyw hk hsix
            go_wp2_with fail
            have hcm := has_mine HH.out HI.out l.f0
            rw [hmine] at hcm
            refine Calls.mono hcm ?_
            rintro e V5 ⟨rfl, hb⟩
            replace HH := Aside0.mk (HH.out.below hb)
            replace HB := Aside0.mk (below_step HB.out hb)
            replace BK6 := Aside0.mk (blk_below BK6.out hb)
            replace HC2 := Aside0.mk (Kd.C_below HC2.out hb)
            clear hcm hmine x0 x1 x2 x3 d0 d1 d2 d3
            obtain ⟨ad2, x0, x1, x2, x3, e⟩ := at_lo HC2.out HL.out
            obtain rfl := Option.some.inj e
            rw [show k = y.toNat by have := HY.out; omega] at x0 x1 x2 x3
            obtain ⟨d0, d1, d2, d3⟩ := MBlk.c4 BK6.out
            have hcond : l.f0.f0 = false ∨ (l.f0.f0 = true ∧ decide (P.f2 < 1280) = false) := by
              cases hs : l.f0.f0 with
              | false => exact .inl rfl
              | true => exact .inr ⟨rfl, decide_eq_false (by have := HMT.out hs; omega)⟩
            have hcut : True := trivial
            rcases hcond with hs | ⟨hs, hmt⟩
            · rw [hs] at x0
              go_upto_region 17 with (fail)
              clear x0 x1 x2 x3 d0 d1 d2 d3
              go_wp2_with fail
              go_loopg [10] k (fun kq v10 w' => ∃ m : Nat, v10 = .int .i64 (m : Int) ∧ Aside0 (m + kq = k) ∧ Aside0 (Has w' B0 (fun _ => False) sb st) ∧ Aside0 (Below w.heap.size w w') ∧ Aside0 (w'.heap[g6]? = some (.cells (poA P) 50 (0, 0))) ∧ Aside0 (k34.C w' (some ad) L.length L))
              case atStart => exact ⟨0, rfl, ⟨by omega⟩, HH, HB, BK6, HC2⟩
              case round =>
                clear HH HB BK6 HC2
                obtain ⟨m, rfl, HM, HH, HB, BK6, HC2⟩ := hrel
                by_cases hmk : m < k
                · have hll := (List.getElem?_eq_some_iff.1 HL.out).1
                  obtain ⟨l2, hl2⟩ : ∃ l2, L[m]? = some l2 := ⟨_, List.getElem?_eq_getElem (by omega)⟩
                  obtain ⟨ad3, x0, x1, x2, x3, e⟩ := at_lo HC2.out HL.out
                  obtain rfl := Option.some.inj e
                  obtain ⟨ad4, z0, z1, z2, z3, e⟩ := at_lo HC2.out hl2
                  obtain rfl := Option.some.inj e
                  have HNE := Aside0.mk (HG.out.apart m k l2 l hmk hl2 HL.out)
                  have HS := Aside0.mk hs
                  obtain ⟨t, ht⟩ : ∃ t : Int, (m : Int) = t := ⟨_, rfl⟩
                  have htn : t.toNat = m := by omega
                  have hyn : y.toNat = k := by have := HY.out; omega
                  rw [← htn] at z0 z1 z2 z3
                  rw [← hyn] at x0 x1 x2 x3
                  rw [ht]
                  have HT := Aside0.mk ht
                  have b2 : decide (t < y) = true := decide_eq_true (by have := HY.out; omega)
                  have p2 : (0 ≤ t) = True := eq_true (by omega)
                  have q2 : (t < (L.length : Int)) = True := eq_true (by omega)
                  have htw : wrap64 (t + 1) = ((m + 1 : Nat) : Int) := by unfold wrap64; have := HG.out.few; omega
                  have HTW := Aside0.mk htw
                  obtain ⟨gk3, rfl⟩ : ∃ q, gk = q + 1 := ⟨gk - 1, by have := HM.out; omega⟩
                  clear hl2 ht htn htw hmk hll hyn
                  go_wp2_with fail
                  go_region
                  go_wp2
                  · rename_i hq
                    exact absurd (ad_eq ⟨by rw [HS.out]; simpa using hq.1, by simpa using hq.2.1, by simpa using hq.2.2⟩) HNE.out
                  · go_roundg gk3
                    case measure => omega
                    case rel => exact ⟨m + 1, by first | rw [HTW.out] | exact congrArg _ (by have := HT.out; omega), ⟨by have := HM.out; omega⟩, ⟨HH.out.drewN 1⟩, ⟨below_drew1 HB.out⟩, BK6, HC2⟩
                · obtain ⟨t, ht⟩ : ∃ t : Int, (m : Int) = t := ⟨_, rfl⟩
                  have b2 : decide (t < y) = false := decide_eq_false (by have := HY.out; have := HM.out; omega)
                  rw [ht]
                  clear ht hmk
                  go_wp2
                  go_roundg gk2
                  case measure => omega
                  case rel => exact ⟨k + 1, by first | rw [HYW.out] | exact congrArg _ (by have := HY.out; omega), ⟨by have := HK.out; omega⟩, HH, HB, BK6, HC2⟩
            · rw [hs] at x0
              go_upto_region 17 with (fail)
              clear x0 x1 x2 x3 d0 d1 d2 d3
              go_wp2_with fail
              go_loopg [10] k (fun kq v10 w' => ∃ m : Nat, v10 = .int .i64 (m : Int) ∧ Aside0 (m + kq = k) ∧ Aside0 (Has w' B0 (fun _ => False) sb st) ∧ Aside0 (Below w.heap.size w w') ∧ Aside0 (w'.heap[g6]? = some (.cells (poA P) 50 (0, 0))) ∧ Aside0 (k34.C w' (some ad) L.length L))
              case atStart => exact ⟨0, rfl, ⟨by omega⟩, HH, HB, BK6, HC2⟩
              case round =>
                clear HH HB BK6 HC2
                obtain ⟨m, rfl, HM, HH, HB, BK6, HC2⟩ := hrel
                by_cases hmk : m < k
                · have hll := (List.getElem?_eq_some_iff.1 HL.out).1
                  obtain ⟨l2, hl2⟩ : ∃ l2, L[m]? = some l2 := ⟨_, List.getElem?_eq_getElem (by omega)⟩
                  obtain ⟨ad3, x0, x1, x2, x3, e⟩ := at_lo HC2.out HL.out
                  obtain rfl := Option.some.inj e
                  obtain ⟨ad4, z0, z1, z2, z3, e⟩ := at_lo HC2.out hl2
                  obtain rfl := Option.some.inj e
                  have HNE := Aside0.mk (HG.out.apart m k l2 l hmk hl2 HL.out)
                  have HS := Aside0.mk hs
                  obtain ⟨t, ht⟩ : ∃ t : Int, (m : Int) = t := ⟨_, rfl⟩
                  have htn : t.toNat = m := by omega
                  have hyn : y.toNat = k := by have := HY.out; omega
                  rw [← htn] at z0 z1 z2 z3
                  rw [← hyn] at x0 x1 x2 x3
                  rw [ht]
                  have HT := Aside0.mk ht
                  have b2 : decide (t < y) = true := decide_eq_true (by have := HY.out; omega)
                  have p2 : (0 ≤ t) = True := eq_true (by omega)
                  have q2 : (t < (L.length : Int)) = True := eq_true (by omega)
                  have htw : wrap64 (t + 1) = ((m + 1 : Nat) : Int) := by unfold wrap64; have := HG.out.few; omega
                  have HTW := Aside0.mk htw
                  obtain ⟨gk3, rfl⟩ : ∃ q, gk = q + 1 := ⟨gk - 1, by have := HM.out; omega⟩
                  clear hl2 ht htn htw hmk hll hyn
                  go_wp2_with fail
                  go_region
                  go_wp2
                  · rename_i hq
                    exact absurd (ad_eq ⟨by rw [HS.out]; simpa using hq.1, by simpa using hq.2.1, by simpa using hq.2.2⟩) HNE.out
                  · go_roundg gk3
                    case measure => omega
                    case rel => exact ⟨m + 1, by first | rw [HTW.out] | exact congrArg _ (by have := HT.out; omega), ⟨by have := HM.out; omega⟩, ⟨HH.out.drewN 1⟩, ⟨below_drew1 HB.out⟩, BK6, HC2⟩
                · obtain ⟨t, ht⟩ : ∃ t : Int, (m : Int) = t := ⟨_, rfl⟩
                  have b2 : decide (t < y) = false := decide_eq_false (by have := HY.out; have := HM.out; omega)
                  rw [ht]
                  clear ht hmk
                  go_wp2
                  go_roundg gk2
                  case measure => omega
                  case rel => exact ⟨k + 1, by first | rw [HYW.out] | exact congrArg _ (by have := HY.out; omega), ⟨by have := HK.out; omega⟩, HH, HB, BK6, HC2⟩
          · obtain ⟨y, hy⟩ : ∃ y : Int, (k : Int) = y := ⟨_, rfl⟩
            have b1 : decide (y < (L.length : Int)) = false := decide_eq_false (by omega)
            rw [hy]
            clear hy hk
            go_wp2
            go_roundg gk0
            case measure => omega
            case rel => exact ⟨j + 1, by first | rw [HW1.out] | exact congrArg _ (by have := HN.out; omega), ⟨by have := HJ.out; omega⟩, HH, HB⟩
      | false =>
        obtain rfl : L = [] := HG.out.no rfl
        go_upto_region 12 with (fail)
        go_wp2_with fail
        go_loopg [9] 0 (fun kq v9 w' => v9 = .int .i64 0 ∧ Aside0 (Has w' B0 (fun _ => False) sb st) ∧ Aside0 (Below w.heap.size w w'))
        case atStart => exact ⟨rfl, HH, HB⟩
        case round =>
          clear HH HB BK6 HC2 d0 d1 d2 d3
          obtain ⟨rfl, HH, HB⟩ := hrel
          go_wp2
          go_roundg gk0
          case measure => omega
          case rel => exact ⟨j + 1, by first | rw [HW1.out] | exact congrArg _ (by have := HN.out; omega), ⟨by have := HJ.out; omega⟩, HH, HB⟩
    · have hp9 := fun W (hW : Has W B0 (fun _ => False) sb st) => has_port hW HI.out 9
      have hp0 := fun W (hW : Has W B0 (fun _ => False) sb st) => has_port hW HI.out 0
      rw [port_nine HI.out.few] at hp9
      rw [port_nought] at hp0
      generalize (portR st 9).1 = P9 at hp9
      generalize (portR st 0).1 = P0 at hp0
      clear hn
      go_wp2_with fail
      refine Calls.mono (hp9 _ HH.out) ?_
      rintro e w3 ⟨rfl, hb⟩
      replace HH := Aside0.mk (HH.out.below hb)
      replace HB := Aside0.mk (below_step HB.out hb)
      clear hb
      go_upto_region 23 with (first | ((with_reducible refine gate_dst (N := 11) rfl ?_); refine sh_E 11 50 #[.string (⟨#[]⟩ : ByteArray), .int .u64 0, .int .i64 0, .bool false] ?_; intro g6 hg V1 hbox hb; have HG6 := Aside0.mk hg; have BK6 := Aside0.mk hbox; have HBB := Aside0.mk hb; obtain ⟨d0, d1, d2, d3⟩ := MBlk.c4 hbox; obtain ⟨f0, f1, f2, f3⟩ := MBlk.f4 hbox; clear hbox hb hg) | fail)
      have hbb : Below w3.heap.size w3 ((((V1.setCell ⟨g6, 0, none⟩ (.string P9.f0)).setCell ⟨g6, 1, none⟩ (.int .u64 P9.f1)).setCell ⟨g6, 2, none⟩ (.int .i64 P9.f2)).setCell ⟨g6, 3, none⟩ (.bool P9.f3)) := below4 HBB.out (by have := HG6.out; omega)
      clear BK6 HBB HG6 f0 f1 f2 f3 d0 d1 d2 d3
      generalize ((((V1.setCell ⟨g6, 0, none⟩ (.string P9.f0)).setCell ⟨g6, 1, none⟩ (.int .u64 P9.f1)).setCell ⟨g6, 2, none⟩ (.int .i64 P9.f2)).setCell ⟨g6, 3, none⟩ (.bool P9.f3)) = V2 at hbb ⊢
      clear V1
      replace HH := Aside0.mk (HH.out.below hbb)
      replace HB := Aside0.mk (below_step HB.out hbb)
      clear hbb
      go_wp2_with fail
      refine Calls.mono (hp0 _ HH.out) ?_
      rintro e w4 ⟨rfl, hb⟩
      replace HB := Aside0.mk (below_step HB.out hb)
      clear hb
      go_upto_region 24 with (first | ((with_reducible refine gate_dst (N := 13) rfl ?_); refine sh_E 13 50 #[.string (⟨#[]⟩ : ByteArray), .int .u64 0, .int .i64 0, .bool false] ?_; intro g7 hg V1 hbox hb; have HG6 := Aside0.mk hg; have BK6 := Aside0.mk hbox; have HBB := Aside0.mk hb; obtain ⟨d0, d1, d2, d3⟩ := MBlk.c4 hbox; obtain ⟨f0, f1, f2, f3⟩ := MBlk.f4 hbox; clear hbox hb hg) | fail)
      have hbb : Below w4.heap.size w4 ((((V1.setCell ⟨g7, 0, none⟩ (.string P0.f0)).setCell ⟨g7, 1, none⟩ (.int .u64 P0.f1)).setCell ⟨g7, 2, none⟩ (.int .i64 P0.f2)).setCell ⟨g7, 3, none⟩ (.bool P0.f3)) := below4 HBB.out (by have := HG6.out; omega)
      go_wp2
      go_ret
      exact ⟨rfl, below_step HB.out hbb⟩
theorem oneCalls (A : Option Addr) (c : Nat) (ls : List SI) (hl : ls.length * 80 ≤ 140737488351232) (hf : ∀ x ∈ ls, GSI x) (w : World) (hr : Kd.C k45 w A ls.length ls) (hc : ls.length ≤ c) :
    Calls Try.prog 5 #[.slice A ls.length c] w fun e w' => e = .returned (.bool true) ∧ Below w.heap.size w w' :=
  one A c ls w hr (by omega) (fun x hx => fit_of (hf x hx))
end Go.Proofs.Ytefbcigccfkkgaa.WIf
