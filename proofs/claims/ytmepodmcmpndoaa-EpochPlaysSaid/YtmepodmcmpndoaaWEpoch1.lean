/-
  The calls of an epoch in memory, first part. Conditions: those of each theorem.
-/
import Derived.Test.YtmepodmcmpndoaaMEpoch
import Derived.Test.YtmepodmcmpndoaaMStr
import Derived.Test.YtmepodmcmpndoaaMCopy
import Derived.Test.YtmepodmcmpndoaaPBasex1
import Derived.Defers
import Derived.Outline
import Derived.Deep.QuietTactic
import Derived.BigQuiet
import Derived.Deep.RegionHeld3
import Derived.StillTailTactics
import Derived.WalkMore
import Derived.WalkSmall
import Derived.WalkSpells
set_option linter.unusedVariables false
set_option linter.unusedSimpArgs false
namespace Go.Proofs.Ytmepodmcmpndoaa.WEp
open Go.RowKit Go.Proofs.Ytmepodmcmpndoaa.PBase Go.Proofs.YtmepodmcmpndoaaW.PrintWords Go.Proofs.YtmepodmcmpndoaaW.PrintLast Go.Proofs.YtmepodmcmpndoaaW.PrintMore Go.Proofs.Ytmepodmcmpndoaa.Ep Go.Proofs.Ytmepodmcmpndoaa.EpM Go.MuLone
attribute [local go_sem] max2_int min2_int max_two min_two
/-- Is it a reader that is so? -/
def isB (rd : List Int) (i : Int) (b : Bool) : Bool := decide (1 ≤ i ∧ i ≤ rd.length ∧ (rd.getD (i - 1).toNat 0 != -1) = b)
section
variable {w : World} {B g a r s : Nat} {m : Int} {st : St}
set_option maxHeartbeats 1000000 in
set_option maxRecDepth 100000 in
theorem is_calls (h : Mem 56 w B g a r s m st) (hl : st.rd.length ≤ 16) (i : Int) (b : Bool) :
    Calls Try.prog 29 #[.pointer (some ⟨g, 0, none⟩), .int .i64 i, .bool b] w fun e w' => e = .returned (.bool (isB st.rd i b)) ∧ w = w' := by
  obtain ⟨ca, cr, cs, ⟨x0, x2, x3, x4, x5⟩, ⟨f0, f2, f3⟩, ha, hr, hs⟩ := h.cells
  clear ha hs x0 x2 x3 x5 f0 f2 f3 h
  by_cases h1 : i < 1
  · have e : isB st.rd i b = false := decide_eq_false (by omega)
    rw [e]
    have h2 : ¬ 1 ≤ i := by omega
    clear hr e
    go_enter Try.func29, Try.ntmps29
    go_wp2
    go_ret
    exact ⟨rfl, rfl⟩
  · have h2 : 1 ≤ i := by omega
    by_cases h3 : i ≤ (st.rd.length : Int)
    · have hc := (hr.cell (i - 1).toNat (by omega)).1
      obtain ⟨ji, hji⟩ : ∃ ji, i - 1 = ji := ⟨_, rfl⟩
      have e : isB st.rd i b = ((st.rd.getD ji.toNat 0 != -1) == b) := by
        unfold isB
        rw [hji]
        by_cases q : (st.rd.getD ji.toNat 0 != -1) = b
        · rw [decide_eq_true ⟨h2, h3, q⟩, q]; simp
        · rw [decide_eq_false (fun z => q z.2.2)]; simpa using q
      rw [e]
      rw [hji] at hc
      have p0 : 0 ≤ ji := by omega
      have p1 : ji < (st.rd.length : Int) := by omega
      clear hr e
      generalize st.rd.getD ji.toNat 0 = x at *
      go_enter Try.func29, Try.ntmps29
      go_wp2
      go_ret
      exact ⟨rfl, rfl⟩
    · have e : isB st.rd i b = false := decide_eq_false (fun q => h3 q.2.1)
      rw [e]
      clear hr e
      go_enter Try.func29, Try.ntmps29
      go_wp2
      go_ret
      exact ⟨rfl, rfl⟩
end
set_option maxHeartbeats 1000000 in
set_option maxRecDepth 100000 in
/-- slices.Clone of a row of numbers: a row of one's own. -/
theorem clone_calls (ad : Addr) (n c : Nat) (xs : List Int) (w : World) (hr : ReadsInt w .i64 (some ad) n xs) (hl : n ≤ 1000000) :
    Calls Try.prog 30 #[.slice (some ad) n c] w fun e w' => ∃ b c', e = .returned (.slice (some ⟨b, 0, none⟩) n c') ∧ Row w' w.heap.size b n c' xs ∧ Below w.heap.size w w' := by
  have HR := Aside0.mk hr
  have HN := Aside0.mk hr.1
  clear hr
  have q33 : ∀ (w : World) (a : Option Addr) (n c n' c' : Nat), (binOp .eql 33 (.slice a n c) (.slice none n' c')).run Try.prog w = .ok (.bool a.isNone) w := fun w a n c n' c' => Lib.run_eql_slice_nil w _ _ a n c n' c' Try.underlying33
  go_enter Try.func30, Try.ntmps30
  go_wp2_with (at_builtin; refine print_append_row (w0 := w) w.heap.size rfl _ _ 33 3 .i64 8 rfl Try.underlying33 (by kernel_rfl) (by decide) (.slice (some ⟨w.heap.size, 0, none⟩) 0 0) [] xs (some ad) n c rfl rfl ?c1 ?c2 ?c3 ?c4 ?c5 ?_; (case c1 => exact World.ownsRow_made w #[] 0 (Nat.le_refl _) (Nat.zero_le _) rfl); (case c2 => exact HR.out.below (below_alloc (Below.refl _ _) _)); (case c3 => exact below_alloc (Below.refl _ _) _); (case c4 => simp); (case c5 => simp only [List.length_nil]; omega); intro v1 w1 ho hb hg hat; have HO := Aside0.mk ho; have HAT := Aside0.mk hat; have HB := Aside0.mk hb; clear ho hb hg hat)
  go_ret
  have ho := HO.out
  rw [List.nil_append, HN.out] at ho
  have hv : ∃ b c', v1 = .slice (some ⟨b, 0, none⟩) n c' := by
    rcases ho.2 with ⟨rfl, _⟩ | ⟨g, cap, cur, rfl, _⟩
    · rcases HAT.out with e | ⟨b, e, _⟩ <;> simp [Value.ownBlock] at e
    · exact ⟨g, cap, rfl⟩
  obtain ⟨b, c', rfl⟩ := hv
  exact ⟨b, c', rfl, ho, HB.out⟩
/-- 'xs[m:]', m less than the capacity. -/
theorem cut_from (a L c m : Nat) (hm : m ≤ L) (hc : m < c) : ∀ W : World, (Instr.slice 33 (.slice (some ⟨a, 0, none⟩) L c) (some (.int .i64 (m : Int))) none none).run Try.prog W = .ok (.slice (some ⟨a, m, none⟩) (L - m) (c - m)) W := by
  intro W
  obtain ⟨i0, hi, _, hsz, _⟩ := info_parts (show (Try.prog.info? 3).map (fun i => (i.zero, i.size, i.bytes)) = some (some (.int .i64 0), 1, 8) by kernel_rfl)
  have hel : Try.prog.elem 33 = 3 := by simp [Program.elem, Try.underlying33]
  have hu : Try.prog.underlying 33 = some (.slice (Try.prog.elem 33)) := by rw [hel]; exact Try.underlying33
  rw [run_slice_l W 33 (some ⟨a, 0, none⟩) L c hu .i64 (m : Int) (Int.natCast_nonneg _) (by omega), hel]
  have : ¬ c = m := by omega
  simp [sizeOf, typeInfo, hi, hsz, sliced, Result.andThen, this]
  unfold Addr.add; split <;> simp_all
theorem row_reads {w : World} {B b n c : Nat} {xs : List Int} (h : Row w B b n c xs) : ReadsInt w .i64 (some ⟨b, 0, none⟩) n xs := by
  obtain ⟨A, c', e, hr⟩ := own_reads h
  injection e with e1 e2 e3
  rw [← e1] at hr
  exact hr
theorem row_drop {w : World} {B b n c m : Nat} {xs : List Int} (h : Row w B b n c xs) (hm : m ≤ n) (hc : m < c) : ReadsInt w .i64 (some ⟨b, m, none⟩) (n - m) (xs.drop m) := by
  have := (row_reads h).drop_ m hm h.le.1
  rw [if_neg (by omega)] at this
  have e : ((⟨b, 0, none⟩ : Addr).add m) = ⟨b, m, none⟩ := add_plain b m
  rw [Option.map_some, e] at this
  exact this
theorem mn_min (a b : Int) : mn a b = min a b := by unfold mn; split <;> omega
section
variable {w : World} {B g a r s : Nat} {m : Int} {st : St}
set_option maxHeartbeats 1000000 in
set_option maxRecDepth 100000 in
theorem collect_calls (h : Mem 56 w B g a r s m st) (hk : Ok st) (hbig : st.given + st.all.length ≤ 100000) :
    Calls Try.prog 27 #[.pointer (some ⟨g, 0, none⟩)] w fun e w' => ∃ a' q cq, e = .returned (.slice (some ⟨q, 0, none⟩) st.back.length cq) ∧ Row w' w.heap.size q st.back.length cq st.back ∧
      Mem 56 w' B g a' r s m st.swept ∧ w.heap.size ≤ a' ∧ q ≠ a' ∧ Fr (fun k => k = g) w w' := by
  obtain ⟨ca, cr, cs, ⟨x0, x2, x3, x4, x5⟩, ⟨f0, f2, f3⟩, ha, hr, hs⟩ := h.cells
  have HM := Aside0.mk h
  have HK := Aside0.mk hk
  have hgl := h.glt
  have h1 := hk.given
  have h2 := hk.len
  have h16 := hk.rd16
  have hnum := hk.num_eq
  have hnlt := hk.num_lt
  have hbl := back_length hk
  have hca := ha.le
  obtain ⟨L, hL⟩ : ∃ L, st.all.length = L := ⟨_, rfl⟩
  obtain ⟨nn, hnn⟩ : ∃ nn, st.num = nn := ⟨_, rfl⟩
  obtain ⟨R, hR⟩ : ∃ R, st.rd.length = R := ⟨_, rfl⟩
  obtain ⟨G, hG⟩ : ∃ G, st.given = G := ⟨_, rfl⟩
  obtain ⟨O, hO⟩ : ∃ O, st.old = O := ⟨_, rfl⟩
  have hOe : oldest (G + (L : Int) - 1) st.rd = O := by rw [← hO, ← hG, ← hL]; rfl
  rw [hbl, hnn]
  rw [hL] at ha hbig hnlt h2 hca x2
  rw [hnn] at hnum hnlt
  rw [hR] at hr h16 x4
  rw [hG] at h1 hbig hnum x3
  rw [hO] at hnum
  have HE := Aside0.mk (show st.all.length = L ∧ st.num = nn ∧ st.rd.length = R ∧ st.given = G ∧ st.old = O from ⟨hL, hnn, hR, hG, hO⟩)
  have HOE := Aside0.mk hOe
  have HA := Aside0.mk ha
  have HR := Aside0.mk hr
  have e1 : IntKind.i64.wrap (G + (L : Int)) = G + (L : Int) := IntWalk.i64_in _ (by omega)
  have e2 : IntKind.i64.wrap (G + (L : Int) - 1) = G + (L : Int) - 1 := IntWalk.i64_in _ (by omega)
  have e3 : IntKind.i64.wrap (O - G) = (nn : Int) := by rw [← hnum]; exact IntWalk.i64_in _ (by omega)
  clear hk h hL hnn hR hG hO hOe ha hr hs hbl
  have HC := Aside0.mk (show nn < ca by omega)
  clear hca
  go_enter Try.func27, Try.ntmps27
  go_wp2_with fail
  go_quiet (fail)
  go_wp2_with fail
  have E3 := Aside0.mk e3
  have HNUM := Aside0.mk hnum
  clear e1 e2 e3 hnum
  go_loop [4, 26] (fun o i => ∃ k : Nat, k ≤ R ∧ i = .int .i64 (k : Int) ∧ o = .int .i64 (oldest (G + (L : Int) - 1) (st.rd.take k))) (fun _ i => R - (intOf i).toNat)
  case atStart => exact ⟨0, Nat.zero_le _, rfl, rfl⟩
  case round =>
    obtain ⟨k, hkR, rfl, rfl⟩ := hrel
    by_cases hlt : k < R
    · have hc := (HR.out.cell k hlt).1
      have hstep := Aside0.mk (oldest_step (m := G + (L : Int) - 1) (rd := st.rd) (k := k) (by rw [HR.out.len]; exact hlt))
      obtain ⟨x, hx⟩ : ∃ x, st.rd.getD k 0 = x := ⟨_, rfl⟩
      obtain ⟨o, ho⟩ : ∃ o, oldest (G + (L : Int) - 1) (st.rd.take k) = o := ⟨_, rfl⟩
      rw [hx] at hc hstep
      rw [ho] at hstep ⊢
      clear hx ho
      by_cases h1 : x = -1
      · subst h1
        go_wp2
        go_round
        case rel => exact ⟨k + 1, by omega, by go_num, by rw [hstep.out, if_pos rfl]⟩
        case measure => simp [intOf]; omega
      · go_wp2
        go_round
        case rel => exact ⟨k + 1, by omega, by go_num, by rw [hstep.out, if_neg h1]; first | rfl | exact congrArg (Value.int IntKind.i64) (by split <;> omega)⟩
        case measure => simp [intOf]; omega
    · obtain rfl : k = R := by omega
      have ho : oldest (G + (L : Int) - 1) (st.rd.take k) = O := by rw [List.take_of_length_le (by rw [HR.out.len]; exact Nat.le_refl _)]; exact HOE.out
      rw [ho]
      clear ho hlt hkR
      have e3 := E3.out
      have hcc := HC.out
      have hal := HA.out.lt
      have hcut := cut_from a L ca nn (by omega) (by omega)
      go_wp2_with fail
      refine (clone_calls ⟨a, 0, none⟩ nn ca (st.all.take nn) _ (((row_reads HA.out).take_ nn (by omega)).below (pw_below_drewN (Below.refl _ _) _)) (by omega)).mono ?_
      rintro e w1 ⟨q, cq, rfl, hq, hb⟩
      have HB1 := Aside0.mk (show Below w.heap.size w w1 from ⟨hb.os, hb.tape, hb.output, hb.size, hb.block⟩)
      have HQ := Aside0.mk (show Row w1 w.heap.size q nn cq (st.all.take nn) from hq)
      have y2 := pw_cell_below HB1.out x2
      have y3 := pw_cell_below HB1.out x3
      clear hq hb
      go_wp2_with fail
      refine (clone_calls ⟨a, nn, none⟩ (L - nn) (ca - nn) (st.all.drop nn) _ ((row_drop HA.out (by omega) (by omega)).below HB1.out) (by omega)).mono ?_
      rintro e w2 ⟨b, cb, rfl, hq, hb⟩
      have HB2 := Aside0.mk hb
      have HD := Aside0.mk hq
      have z2 := pw_cell_below hb y2
      have z3 := pw_cell_below hb y3
      have hs1 := HB1.out.size
      have g2 : w2.frozen? ⟨g, 2, none⟩ = false := (hb.frozen (p := ⟨g, 2, none⟩) (by simp; omega)).trans ((HB1.out.frozen (p := ⟨g, 2, none⟩) (by simpa using hgl)).trans f2)
      have g3 : w2.frozen? ⟨g, 3, none⟩ = false := (hb.frozen (p := ⟨g, 3, none⟩) (by simp; omega)).trans ((HB1.out.frozen (p := ⟨g, 3, none⟩) (by simpa using hgl)).trans f3)
      clear hq hb hs1
      go_wp2
      go_ret
      have hs1 := HB1.out.size
      have hs2 := HB2.out.size
      have hB := HM.out.lt
      have hg := hB g (.inl rfl)
      have hr := hB r (.inr (.inr (.inl rfl)))
      have hs := hB s (.inr (.inr (.inr rfl)))
      have hqb := HQ.out.base
      have hql := HQ.out.lt
      have hbb := HD.out.base
      have hdl : (st.all.drop nn).length = L - nn := HD.out.len
      have hB12 : Below w.heap.size w w2 := below_step HB1.out HB2.out
      have hM := (HM.out.keepBelow hB12).setAll (a' := b) (c' := cb) (xs := st.all.drop nn) (by rw [hdl]; exact HD.out.reb (by omega)) (by omega) (by omega) (by omega)
      have hM2 := hM.setGiven O
      rw [hdl] at hM2
      have hsw : ({ ({ st with all := st.all.drop nn } : St) with given := O } : St) = st.swept := by
        unfold St.swept; rw [HE.out.2.1, HE.out.2.2.2.2]
      rw [hsw] at hM2
      have hbk : st.back = st.all.take nn := by unfold St.back; rw [HE.out.2.1]
      rw [hbk]
      refine ⟨b, q, cq, rfl, ?_, hM2, by omega, by omega, ?_⟩
      · exact other (other (pw_own_below HQ.out HB2.out) (by omega)) (by omega)
      · refine Fr.trans (Fr.trans (Fr.of_below hB12) (Fr.set _ _ _ _) (fun k hk => .inl hk)) (Fr.set _ _ _ _) (fun k hk => .inl hk)
end
end Go.Proofs.Ytmepodmcmpndoaa.WEp
