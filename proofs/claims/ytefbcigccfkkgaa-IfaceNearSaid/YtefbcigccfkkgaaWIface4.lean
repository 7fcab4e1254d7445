/-
  The calls of a set of ports in memory, fourth part: a name, a port more. Conditions: those of each theorem.
-/
import Derived.Test.YtefbcigccfkkgaaWIface3
import Derived.Lib.OthersKept
import Derived.Laws.RangeAny
set_option linter.unusedVariables false
set_option linter.unusedSimpArgs false
namespace Go.Proofs.Ytefbcigccfkkgaa.WIf
open Go.RowKit Go.Maps Go.WideMaps Go.Proofs.Ytefbcigccfkkgaa.PBase Go.Proofs.YtefbcigccfkkgaaW.PrintWords Go.Proofs.YtefbcigccfkkgaaW.PrintLast Go.Proofs.YtefbcigccfkkgaaW.PrintMore Go.Proofs.Ytefbcigccfkkgaa.If
attribute [local go_sem] max2_int min2_int max_two min_two
/-- May this letter stand there? -/
def okAt (s : ByteArray) (i : Nat) : Bool := low (bt s i) || (decide (0 < i) && dig (bt s i))
theorem nameB_of {s : ByteArray} (h : ∀ i, i < s.size → okAt s i = true) : nameB s = decide (1 ≤ s.size ∧ s.size ≤ 8) := by
  have : (List.range s.size).all (fun i => low (bt s i) || (decide (0 < i) && dig (bt s i))) = true := List.all_eq_true.2 (fun i hi => h i (List.mem_range.1 hi))
  unfold nameB; rw [this, Bool.and_true]
theorem nameB_not {s : ByteArray} {i : Nat} (hi : i < s.size) (h : okAt s i = false) : nameB s = false := by
  have : (List.range s.size).all (fun i => low (bt s i) || (decide (0 < i) && dig (bt s i))) = false := by
    rw [List.all_eq_false]
    exact ⟨i, List.mem_range.2 hi, by rw [show (low (bt s i) || (decide (0 < i) && dig (bt s i))) = okAt s i from rfl, h]; decide⟩
  unfold nameB; rw [this, Bool.and_false]
set_option maxHeartbeats 1000000 in
set_option maxRecDepth 100000 in
theorem name_calls (w : World) (s : ByteArray) (hs : s.size ≤ maxLen) :
    Calls Try.prog 45 #[.string s] w fun e w' => e = .returned (.bool (nameB s)) ∧ Below w.heap.size w w' := by
  go_enter Try.func45, Try.ntmps45
  go_wp2_with fail
  have HIT := Aside0.mk (World.iter_heap w s 0)
  have HB := Aside0.mk (show Below w.heap.size w (w.iter s 0) from below_alloc (Below.refl _ _) _)
  go_loopg [] (s.size + 1) (fun kq w' => ∃ (pos : Nat), Aside0 (pos + kq = s.size + 1) ∧ Aside0 (∀ i, i < pos → okAt s i = true) ∧ Aside0 (w'.heap[w.heap.size]? = some (.stringIter s pos)) ∧ Aside0 (Below w.heap.size w w'))
  case atStart => exact ⟨0, ⟨by omega⟩, ⟨fun i hi => by omega⟩, HIT, HB⟩
  case round =>
    clear HIT HB
    obtain ⟨pos, HP, HO, HIT, HB⟩ := hrel
    by_cases hp : pos < s.size
    · have hnx : ∀ ty, (Instr.next (.pointer (some ⟨w.heap.size, 0, none⟩)) true ty).run Try.prog wr = _ := fun ty => Lib.run_next_any_at wr w.heap.size s pos ty HIT.out hp
      have hpos : (pos : Int) ≤ 9223372036854775807 := by simp only [maxLen] at hs; omega
      obtain ⟨c, hc⟩ : ∃ c : Nat, (Utf8.decode s pos).1 = c := ⟨_, rfl⟩
      obtain ⟨b, hb⟩ : ∃ b : Nat, (s[pos]'hp).toNat = b := ⟨_, rfl⟩
      have hbt : bt s pos = (b : Int) := by
        rw [← bt_at s pos (by simpa using hp), ← hb]
        rfl
      have hb2 := hb
      have hlo : b < 128 → c = b ∧ (Utf8.decode s pos).2 = 1 := fun q => by
        have := decode_ascii s pos hp (by omega)
        rw [this] at hc
        rw [this]
        exact ⟨by rw [← hc]; exact hb, rfl⟩
      have hhi : 128 ≤ b → 128 ≤ c := fun q => by
        have := (decode_high s pos hp (by omega)).1
        omega
      obtain ⟨dn, hdn⟩ : ∃ dn, pos + (Utf8.decode s pos).2 = dn := ⟨_, rfl⟩
      have hlo2 : b < 128 → dn = pos + 1 := fun q => by rw [← hdn, (hlo q).2]
      have hlo1 : b < 128 → c = b := fun q => (hlo q).1
      rw [hc, hdn] at hnx
      have hle : c ≤ 2147483647 := by rw [← hc]; exact decode_le s pos
      have hok : okAt s pos = (decide (97 ≤ (b : Int) ∧ (b : Int) ≤ 122) || (decide (0 < pos) && decide (48 ≤ (b : Int) ∧ (b : Int) ≤ 57))) := by unfold okAt low dig; rw [hbt]
      have HH := Aside0.mk (show _ ∧ _ ∧ _ ∧ _ ∧ _ from ⟨hlo1, hlo2, hhi, hok, hp⟩)
      have HIT2 := Aside0.mk (Lib.iterAt_heap wr w.heap.size s pos dn HIT.out)
      have HB2 := Aside0.mk (Lib.below_iterAt HB.out (Nat.le_refl _) s dn)
      clear hok hlo1 hlo2 hhi hlo hb hb2 hdn hc hbt HIT HB hp
      by_cases hletter : 97 ≤ (c : Int) ∧ (c : Int) ≤ 122
      · obtain ⟨q1, q2⟩ := hletter
        obtain ⟨hlo1, hlo2, hhi, hok, hp⟩ := HH.out
        have hb : b < 128 := by omega
        have e1 := hlo1 hb
        have e2 := hlo2 hb
        have hok2 : okAt s pos = true := by rw [hok, decide_eq_true (⟨by omega, by omega⟩ : 97 ≤ (b : Int) ∧ (b : Int) ≤ 122)]; rfl
        have HK := Aside0.mk hok2
        have HE := Aside0.mk e2
        obtain ⟨gk, rfl⟩ : ∃ q, gk = q + 1 := ⟨gk - 1, by have := HP.out; omega⟩
        clear hok hok2 hlo1 hlo2 hhi e1 e2 hb HH hp
        go_wp2
        go_roundg gk
        case measure => omega
        case rel => exact ⟨dn, ⟨by have := HE.out; have := HP.out; omega⟩, ⟨fun i hi => by
          have := HE.out
          rcases Nat.lt_or_ge i pos with q | q
          · exact HO.out i q
          · obtain rfl : i = pos := by omega
            exact HK.out⟩, HIT2, HB2⟩
      · by_cases hdigit : 48 ≤ (c : Int) ∧ (c : Int) ≤ 57 ∧ 0 < (pos : Int)
        · obtain ⟨q1, q2, q3⟩ := hdigit
          have q4 : ¬ 97 ≤ (c : Int) := by omega
          obtain ⟨hlo1, hlo2, hhi, hok, hp⟩ := HH.out
          have hb : b < 128 := by omega
          have e1 := hlo1 hb
          have e2 := hlo2 hb
          have hok2 : okAt s pos = true := by rw [hok, decide_eq_true (⟨by omega, by omega⟩ : 48 ≤ (b : Int) ∧ (b : Int) ≤ 57), decide_eq_true (by omega : 0 < pos), Bool.and_self, Bool.or_true]
          have HK := Aside0.mk hok2
          have HE := Aside0.mk e2
          obtain ⟨gk, rfl⟩ : ∃ q, gk = q + 1 := ⟨gk - 1, by have := HP.out; omega⟩
          clear hok hok2 hlo1 hlo2 hhi e1 e2 hb HH hp hletter
          go_wp2
          go_roundg gk
          case measure => omega
          case rel => exact ⟨dn, ⟨by have := HE.out; have := HP.out; omega⟩, ⟨fun i hi => by
            have := HE.out
            rcases Nat.lt_or_ge i pos with q | q
            · exact HO.out i q
            · obtain rfl : i = pos := by omega
              exact HK.out⟩, HIT2, HB2⟩
        · obtain ⟨hlo1, hlo2, hhi, hok, hp⟩ := HH.out
          have hok2 : okAt s pos = false := by
            rw [hok]
            rcases Nat.lt_or_ge b 128 with q | q
            · have := hlo1 q
              subst this
              rw [decide_eq_false hletter]
              by_cases h0 : 0 < pos
              · rw [decide_eq_false (fun z => hdigit ⟨z.1, z.2, by omega⟩ : ¬ (48 ≤ (c : Int) ∧ (c : Int) ≤ 57)), Bool.and_false]; rfl
              · rw [decide_eq_false h0]; rfl
            · rw [decide_eq_false (by omega : ¬ (97 ≤ (b : Int) ∧ (b : Int) ≤ 122)), decide_eq_false (by omega : ¬ (48 ≤ (b : Int) ∧ (b : Int) ≤ 57)), Bool.and_false]; rfl
          have HN := Aside0.mk (nameB_not hp hok2)
          clear hok hok2 hlo1 hlo2 hhi HH hp
          by_cases c1 : 97 ≤ (c : Int)
          · have c2 : ¬ (c : Int) ≤ 122 := fun z => hletter ⟨c1, z⟩
            have c3 : ¬ (c : Int) ≤ 57 := by omega
            have c4 : 48 ≤ (c : Int) := by omega
            clear hletter hdigit
            by_cases c0 : 0 < (pos : Int)
            · go_wp2
              go_ret
              exact ⟨by rw [HN.out]; rfl, HB2.out⟩
            · go_wp2
              go_ret
              exact ⟨by rw [HN.out]; rfl, HB2.out⟩
          · clear hletter
            by_cases c0 : 0 < (pos : Int)
            · by_cases c2 : 48 ≤ (c : Int)
              · have c3 : ¬ (c : Int) ≤ 57 := fun z => hdigit ⟨c2, z, c0⟩
                clear hdigit
                go_wp2
                go_ret
                exact ⟨by rw [HN.out]; rfl, HB2.out⟩
              · clear hdigit
                go_wp2
                go_ret
                exact ⟨by rw [HN.out]; rfl, HB2.out⟩
            · clear hdigit
              go_wp2
              go_ret
              exact ⟨by rw [HN.out]; rfl, HB2.out⟩
    · have hnx : ∀ ty, (Instr.next (.pointer (some ⟨w.heap.size, 0, none⟩)) true ty).run Try.prog wr = _ := fun ty => Lib.run_next_end_at wr w.heap.size s pos ty HIT.out hp
      have hall := nameB_of (s := s) (fun i hi => HO.out i (by omega))
      have hl : (s.size : Int) ≤ 9223372036854775807 := by simp only [maxLen] at hs; omega
      have HN := Aside0.mk hall
      clear hall hp HP HO
      by_cases h0 : s = ⟨#[]⟩
      · subst h0
        go_wp2
        go_ret
        exact ⟨by rw [HN.out]; rfl, HB.out⟩
      · have h1 : 1 ≤ s.size := by
          rcases Nat.eq_zero_or_pos s.size with q | q
          · exact absurd (ByteArray.size_eq_zero_iff.1 q) h0
          · exact q
        have hE : s.toList.isEmpty = false := by
          rw [List.isEmpty_eq_false_iff]
          intro e
          rw [ByteArray.toList_eq] at e
          have := congrArg List.length e
          rw [data_length] at this
          simp only [List.length_nil] at this
          omega
        by_cases h8 : (s.size : Int) ≤ 8
        · have HD := Aside0.mk (decide_eq_true (⟨h1, by omega⟩ : 1 ≤ s.size ∧ s.size ≤ 8))
          clear hs h1
          go_wp2
          go_ret
          exact ⟨by rw [HN.out, HD.out]; rfl, HB.out⟩
        · have HD := Aside0.mk (decide_eq_false (by omega : ¬ (1 ≤ s.size ∧ s.size ≤ 8)))
          clear hs h1
          go_wp2
          go_ret
          exact ⟨by rw [HN.out, HD.out]; rfl, HB.out⟩
theorem RP_all {w : World} {v : Value} {xs : List PS} (h : RP w v xs) : Kd.R kP 66 w 0 (fun _ => True) v xs :=
  ⟨fun _ _ => trivial, h.2.imp_ (fun x cs hp => by obtain rfl := kP_openM hp; exact kP_mkM _ _ _ _)⟩
theorem named_snoc (st : St) (p : Pt) (s : ByteArray) : named (st ++ [p]) s = if (p.nm.toList == s.toList) = true ∧ named st s = 0 then (st.length : Int) + 1 else named st s := by
  unfold named
  rw [named_app]
  cases h : namedN st s with
  | some i =>
    simp only [num]
    exact (if_neg (fun z => by have h2 := z.2; omega)).symm
  | none =>
    by_cases c : (p.nm.toList == s.toList) = true
    · simp only [if_pos c, num]; simp [c]
    · simp only [if_neg c, num]; rw [if_neg (fun z => c z.1)]
theorem names_put {w' : World} {mb n : Nat} {D : DataW Unit} {st : St} {s : ByteArray} {p : Pt} (hp : p.nm = s) (h0 : named st s = 0) (hn : n ≤ st.length) (hD : ∀ s : ByteArray, D.atKey (.string s.data.toList) (.lit (.int .i64 0)) = .lit (.int .i64 (named st s)))
    (hm : IsMap D) (h : w'.ownsMap Try.prog 9 (plainElem Try.prog 3) mb (n + 1) (D.put (.string s.data.toList) (.lit (.int .i64 ((st.length : Int) + 1))))) : Names w' mb (st ++ [p]) := by
  refine ⟨n + 1, _, h, by rw [List.length_append]; simp only [List.length_cons, List.length_nil]; omega, fun s' => ?_⟩
  rw [named_snoc, hp]
  by_cases e : s = s'
  · subst e
    rw [atKey_put_same hm (show WideAt.IsKeyLit (.string s.data.toList) from True.intro), if_pos ⟨by simp, h0⟩]
  · have hne : s.data.toList ≠ s'.data.toList := fun q => e (Go.WideShapes.bytes_inj q)
    rw [atKey_put_other (fun q => hne (by injection q with q; exact q.symm)), hD s', if_neg]
    rintro ⟨q, _⟩
    rw [ByteArray.toList_eq, ByteArray.toList_eq] at q
    exact hne (by simpa using q)
/-- A port was added. -/
theorem mem_added {w w' : World} {S : Nat → Prop} {sb mb : Nat} {v v1 : Value} {xs : List PS} {st : St} (h : Mem w S sb mb v xs st) {p : Pt} {x : PS} (hx : x.s = ⟨p.nm, p.mac, p.mtu, p.up⟩) (hl : x.l = ⟨none, 0, 0⟩) (hpl : p.ls = [])
    (hrow : RP w' v1 (xs ++ [x])) (hv1 : ∀ k, v1.ownBlock = some k → v.ownBlock = some k ∨ w.heap.size ≤ k) (hblk : w'.heap[sb]? = some (.cells #[v1, .map (some mb)] 71 (0, 0)))
    (hmap : Names w' mb (st ++ [p])) (hs : w.heap.size ≤ w'.heap.size) (hfr : ∀ k, k < w.heap.size → k ≠ sb → k ≠ mb → v.ownBlock ≠ some k → w'.heap[k]? = w.heap[k]?) :
    Mem w' (fun k => S k ∨ v1.ownBlock = some k) sb mb v1 (xs ++ [x]) (st ++ [p]) where
  blk := hblk
  row := hrow
  len := by rw [List.length_append, List.length_append, h.len]; rfl
  like := by
    intro i q y hq hy
    by_cases hi : i < st.length
    · rw [List.getElem?_append_left hi] at hq
      rw [List.getElem?_append_left (by rw [h.len]; exact hi)] at hy
      obtain ⟨l1, l2⟩ := h.like i q y hq hy
      refine ⟨l1, l2.keep (fun k hk => ?_)⟩
      obtain ⟨cs, hc⟩ := l2.typed k hk
      refine hfr k (l2.lt k hk) (fun e => ?_) (fun e => ?_) (fun e => ?_)
      · rw [e, h.blk] at hc; injection hc with hc; injection hc with _ hc; exact absurd hc (by decide)
      · obtain ⟨_, _, ⟨_, _, hb, _⟩, _⟩ := h.map
        rw [e, hb] at hc; cases hc
      · obtain ⟨cp, hcp⟩ := h.row.typed k e
        rw [hcp] at hc; injection hc with hc; injection hc with _ hc; exact absurd hc (by decide)
    · rw [List.getElem?_append_right (by omega)] at hq
      rw [List.getElem?_append_right (by rw [h.len]; omega)] at hy
      rw [List.mem_singleton.1 (List.mem_of_getElem? hq), List.mem_singleton.1 (List.mem_of_getElem? hy)]
      refine ⟨hx, ?_⟩
      rw [hl, hpl]
      exact RL.nil _
  sep := by
    intro i j y z hne hy hz k hk
    by_cases hi : i < xs.length
    · rw [List.getElem?_append_left hi] at hy
      by_cases hj : j < xs.length
      · rw [List.getElem?_append_left hj] at hz
        exact h.sep i j y z hne hy hz k hk
      · rw [List.getElem?_append_right (by omega)] at hz
        rw [List.mem_singleton.1 (List.mem_of_getElem? hz), hl]
        intro q; simp [sv, Value.ownBlock] at q
    · rw [List.getElem?_append_right (by omega)] at hy
      rw [List.mem_singleton.1 (List.mem_of_getElem? hy), hl] at hk
      simp [sv, Value.ownBlock] at hk
  map := hmap
  its := ⟨.inl h.its.1, .inl h.its.2.1, fun k hk => .inr hk, fun y hy k hk => by
    rcases List.mem_append.1 hy with q | q
    · exact .inl (h.its.2.2.2 y q k hk)
    · rw [List.mem_singleton.1 q, hl] at hk
      simp [sv, Value.ownBlock] at hk⟩
  lt := fun k hk => by
    rcases hk with q | q
    · exact Nat.lt_of_lt_of_le (h.lt k q) hs
    · exact hrow.lt k q
/-- A step was done. -/
def Stepped (w w' : World) (S : Nat → Prop) (sb mb : Nat) (st : St) : Prop := ∃ S' v' xs', Mem w' S' sb mb v' xs' st ∧ (∀ k, S' k → S k ∨ w.heap.size ≤ k) ∧ Fr S w w'
theorem Stepped.same {w w' : World} {S : Nat → Prop} {sb mb : Nat} {v : Value} {xs : List PS} {st : St} (h : Mem w S sb mb v xs st) (hb : Below w.heap.size w w') : Stepped w w' S sb mb st :=
  ⟨S, v, xs, h.below hb, fun k hk => .inl hk, Fr.of_below hb⟩
section
variable {w : World} {S : Nat → Prop} {sb mb : Nat} {v : Value} {xs : List PS} {st : St}
set_option maxRecDepth 100000 in
theorem map_look (h : Mem w S sb mb v xs st) (s : ByteArray) (hs : s.size ≤ maxLen) : (Instr.lookup 69 (.map (some mb)) (.string s) false).run Try.prog w = .ok (.int .i64 (named st s)) w := by
  obtain ⟨n, D, hown, _, hD⟩ := h.map
  have zeroE : (zeroValue 3).run Try.prog w = .ok (.int .i64 0) w := by kernel_rfl
  obtain ⟨c, hrun, hat, _⟩ := hown.lookup_int keyed Try.underlying69 Try.underlying3 zeroE (keyOf_string_mk Try.underlying9 hs)
  rw [hD s] at hat
  have hc : c = named st s := by injection hat with q; injection q with _ q; exact q.symm
  rw [hrun, hc]
set_option maxHeartbeats 1000000 in
set_option maxRecDepth 100000 in
theorem add_bad (h : Mem w S sb mb v xs st) (s : ByteArray) (hs : s.size ≤ maxLen) (mac mtu : Int) (hn : nameB s = false) :
    Calls Try.prog 24 #[.pointer (some ⟨sb, 0, none⟩), .string s, .int .u64 mac, .int .i64 mtu] w fun e w' => e = .returned (.tuple #[.int .i64 0, .int .i64 130]) ∧ Below w.heap.size w w' := by
  have HM := Aside0.mk h
  clear h
  go_enter Try.func24, Try.ntmps24
  go_wp2_with fail
  refine Calls.mono (name_calls _ s hs) ?_
  rintro e w1 ⟨rfl, hb⟩
  rw [hn]
  have HB := Aside0.mk hb
  clear hb
  go_wp2
  go_ret2
  exact ⟨rfl, HB.out⟩
set_option maxHeartbeats 1000000 in
set_option maxRecDepth 100000 in
theorem add_taken (h : Mem w S sb mb v xs st) (s : ByteArray) (hs : s.size ≤ maxLen) (mac mtu : Int) (hn : nameB s = true) (hm : named st s ≠ 0) :
    Calls Try.prog 24 #[.pointer (some ⟨sb, 0, none⟩), .string s, .int .u64 mac, .int .i64 mtu] w fun e w' => e = .returned (.tuple #[.int .i64 0, .int .i64 130]) ∧ Below w.heap.size w w' := by
  have HM := Aside0.mk h
  clear h
  go_enter Try.func24, Try.ntmps24
  go_wp2_with fail
  refine Calls.mono (name_calls _ s hs) ?_
  rintro e w1 ⟨rfl, hb⟩
  rw [hn]
  have HB := Aside0.mk hb
  have hM1 := HM.out.below hb
  obtain ⟨x0, x1⟩ := MBlk.c2 hM1.blk
  have hlk := map_look hM1 s hs
  have hnb : (named st s == 0) = false := by simpa using hm
  obtain ⟨z, hz⟩ : ∃ z, named st s = z := ⟨_, rfl⟩
  rw [hz] at hlk hnb hm
  clear hb hM1 hz
  go_wp2
  go_ret2
  exact ⟨rfl, HB.out⟩
theorem and1u {n : Int} (h0 : 0 ≤ n) (h1 : n < 18446744073709551616) : bits .and .u64 n 1 = n % 2 := by
  have h127 : (BitVec.ofInt 64 1).toNat = 2 ^ 1 - 1 := by decide
  have key : (BitVec.ofInt 64 n &&& BitVec.ofInt 64 1).toNat = (n % ((2 ^ 64 : Nat) : Int)).toNat % 2 ^ 1 := by
    rw [BitVec.toNat_and, BitVec.toNat_ofInt, h127, Nat.and_two_pow_sub_one_eq_mod]
  show IntKind.u64.wrap ((BitVec.ofInt 64 n &&& BitVec.ofInt 64 1).toNat : Nat) = n % 2
  rw [key, IntWalk.u64_in _ (by omega)]
  omega
set_option maxHeartbeats 1000000 in
set_option maxRecDepth 100000 in
theorem add_arg (h : Mem w S sb mb v xs st) (s : ByteArray) (hs : s.size ≤ maxLen) (mac mtu : Int) (hn : nameB s = true) (hm : named st s = 0) (h0 : 0 ≤ mac) (h1 : mac < 18446744073709551616) (hbad : addBad mac mtu = true) :
    Calls Try.prog 24 #[.pointer (some ⟨sb, 0, none⟩), .string s, .int .u64 mac, .int .i64 mtu] w fun e w' => e = .returned (.tuple #[.int .i64 0, .int .i64 1]) ∧ Below w.heap.size w w' := by
  have HM := Aside0.mk h
  have HBAD := Aside0.mk hbad
  have hand := and1u (n := mac / 1099511627776) (by omega) (by omega)
  clear h hbad
  go_enter Try.func24, Try.ntmps24
  go_wp2_with fail
  refine Calls.mono (name_calls _ s hs) ?_
  rintro e w1 ⟨rfl, hb⟩
  rw [hn]
  have HB := Aside0.mk hb
  have hM1 := HM.out.below hb
  obtain ⟨x0, x1⟩ := MBlk.c2 hM1.blk
  have hlk := map_look hM1 s hs
  rw [hm] at hlk
  clear hb hM1 hm
  by_cases c1 : mac = 0
  · subst c1
    go_wp2
    go_ret2
    exact ⟨rfl, HB.out⟩
  have c1b : (mac == 0) = false := by simpa using c1
  by_cases c2 : 281474976710656 ≤ mac
  · go_wp2
    go_ret2
    exact ⟨rfl, HB.out⟩
  by_cases c3 : mac / 1099511627776 % 2 = 1
  · have c3b : (bits .and .u64 (mac / 1099511627776) 1 == 1) = true := by rw [hand, c3]; rfl
    clear hand c3
    go_wp2
    go_ret2
    exact ⟨rfl, HB.out⟩
  have c3b : (bits .and .u64 (mac / 1099511627776) 1 == 1) = false := by rw [hand]; simpa using c3
  clear hand
  by_cases c4 : mtu < 68
  · clear c3
    go_wp2
    go_ret2
    exact ⟨rfl, HB.out⟩
  have c5 : 1500 < mtu := by
    have := HBAD.out
    unfold addBad at this
    simp only [Bool.or_eq_true, beq_iff_eq, decide_eq_true_eq] at this
    omega
  clear c3
  go_wp2
  go_ret2
  exact ⟨rfl, HB.out⟩
theorem addBad_not {mac mtu : Int} (h : addBad mac mtu = false) : mac ≠ 0 ∧ mac < 281474976710656 ∧ mac / 1099511627776 % 2 ≠ 1 ∧ 68 ≤ mtu ∧ mtu ≤ 1500 := by
  unfold addBad at h
  simp only [Bool.or_eq_false_iff, beq_eq_false_iff_ne, decide_eq_false_iff_not] at h
  obtain ⟨⟨⟨⟨a, b⟩, c⟩, d⟩, e⟩ := h
  exact ⟨a, by omega, c, by omega, by omega⟩
set_option maxHeartbeats 1000000 in
set_option maxRecDepth 100000 in
theorem add_full (h : Mem w S sb mb v xs st) (s : ByteArray) (hs : s.size ≤ maxLen) (mac mtu : Int) (hn : nameB s = true) (hm : named st s = 0) (h0 : 0 ≤ mac) (h1 : mac < 18446744073709551616) (hbad : addBad mac mtu = false) (h8 : st.length = 8) :
    Calls Try.prog 24 #[.pointer (some ⟨sb, 0, none⟩), .string s, .int .u64 mac, .int .i64 mtu] w fun e w' => e = .returned (.tuple #[.int .i64 0, .int .i64 131]) ∧ Below w.heap.size w w' := by
  have HM := Aside0.mk h
  obtain ⟨c1, c2, c3, c4, c5⟩ := addBad_not hbad
  have c1b : (mac == 0) = false := by simpa using c1
  have c3b : (bits .and .u64 (mac / 1099511627776) 1 == 1) = false := by rw [and1u (n := mac / 1099511627776) (by omega) (by omega)]; simpa using c3
  obtain ⟨A, c, ev⟩ := h.row.slice
  rw [h.len, h8] at ev
  subst ev
  clear h hbad c3
  go_enter Try.func24, Try.ntmps24
  go_wp2_with fail
  refine Calls.mono (name_calls _ s hs) ?_
  rintro e w1 ⟨rfl, hb⟩
  rw [hn]
  have HB := Aside0.mk hb
  have hM1 := HM.out.below hb
  obtain ⟨x0, x1⟩ := MBlk.c2 hM1.blk
  have hlk := map_look hM1 s hs
  rw [hm] at hlk
  clear hb hM1 hm
  go_wp2
  go_ret2
  exact ⟨rfl, HB.out⟩
set_option maxHeartbeats 1000000 in
set_option maxRecDepth 100000 in
theorem add_done (h : Mem w S sb mb v xs st) (s : ByteArray) (hs : s.size ≤ maxLen) (mac mtu : Int) (hn : nameB s = true) (hm : named st s = 0) (h0 : 0 ≤ mac) (h1 : mac < 18446744073709551616) (hbad : addBad mac mtu = false) (h8 : st.length < 8) :
    Calls Try.prog 24 #[.pointer (some ⟨sb, 0, none⟩), .string s, .int .u64 mac, .int .i64 mtu] w fun e w' => e = .returned (.tuple #[.int .i64 ((st.length : Int) + 1), .int .i64 0]) ∧ Stepped w w' S sb mb (st ++ [⟨s, mac, mtu, false, []⟩]) := by
  have HM := Aside0.mk h
  obtain ⟨c1, c2, c3, c4, c5⟩ := addBad_not hbad
  have c1b : (mac == 0) = false := by simpa using c1
  have c3b : (bits .and .u64 (mac / 1099511627776) 1 == 1) = false := by rw [and1u (n := mac / 1099511627776) (by omega) (by omega)]; simpa using c3
  obtain ⟨A, c, ev⟩ := h.row.slice
  have hlen := h.len
  rw [h.len] at ev
  subst ev
  have h8b : ((st.length : Int) == 8) = false := by simpa using (by omega : ¬ (st.length : Int) = 8)
  clear h hbad c3
  go_enter Try.func24, Try.ntmps24
  go_wp2_with fail
  refine Calls.mono (name_calls _ s hs) ?_
  rintro e w1 ⟨rfl, hb⟩
  rw [hn]
  have HB := Aside0.mk hb
  have hM1 := HM.out.below hb
  have HM1 := Aside0.mk hM1
  obtain ⟨x0, x1⟩ := MBlk.c2 hM1.blk
  obtain ⟨f0, f1⟩ := MBlk.f2 hM1.blk
  have hlk := map_look hM1 s hs
  rw [hm] at hlk
  clear hb hM1
  have hsbl := HM1.out.lt sb HM1.out.its.1
  have hown : ∀ k, (Value.slice A st.length c).ownBlock = some k → k ≠ sb ∧ k ≠ mb := fun k hk => by
    obtain ⟨cs, hc⟩ := HM1.out.row.typed k hk
    refine ⟨fun e => ?_, fun e => ?_⟩
    · rw [e, HM1.out.blk] at hc; injection hc with hc; injection hc with _ hc; exact absurd hc (by decide)
    · obtain ⟨_, _, ⟨_, _, hb, _⟩, _⟩ := HM1.out.map
      rw [e, hb] at hc; cases hc
  have HOWN := Aside0.mk hown
  clear hown
  go_upto_region 8 with (first | ((with_reducible refine gate_builtin (b := .append) (xs := #[.tmp 55, .tmp 61]) rfl ?_); at_builtin; refine Kd.R_append kP (w0 := w1) 0 rfl (.tmp 55) (.tmp 61) 68 66 (.agg #[.string ⟨#[]⟩, .int .u64 0, .int .i64 0, .bool false, .slice none 0 0]) 64 rfl Try.underlying68 (by kernel_rfl) rfl (by decide) (by decide) (.slice A st.length c) xs ⟨⟨s, mac, mtu, false⟩, ⟨none, 0, 0⟩⟩ _ (fun _ => True) (fun _ => False) rfl rfl (kP_mkM _ _ _ _) (fun _ h => h.elim) (fun _ _ => trivial) (RP_all HM1.out.row) (Below.refl 0 w1) (Nat.zero_le _) (by rw [hlen]; omega) ?_; intro v1 w2 hR hb0 hg hat; have hrow := RP.of hR; obtain ⟨g, cg, ev1⟩ := hrow.shape (by simp); rw [List.length_append, hlen] at ev1; subst ev1; have HR := Aside0.mk hrow; have HG := Aside0.mk hg; have HAT := Aside0.mk hat; have hblk := (hg.block sb hsbl (fun e => (HOWN.out sb e.symm).1 rfl)).trans HM1.out.blk; have BK := Aside0.mk hblk; obtain ⟨y0, y1⟩ := MBlk.c2 hblk; obtain ⟨g0, g1⟩ := MBlk.f2 hblk; clear hR hb0 hg hat hrow hblk x0 x1 f0 f1 hlk) | fail)
  obtain ⟨u, hu⟩ : ∃ u, Value.slice (some ⟨g, 0, none⟩) (st.length + 1) cg = u := ⟨_, rfl⟩
  have hu0 := hu
  rw [hu]
  obtain ⟨w3, hw3⟩ : ∃ w3, w2.setCell ⟨sb, 0, none⟩ u = w3 := ⟨_, rfl⟩
  have hblk3 : w3.heap[sb]? = some (.cells #[u, .map (some mb)] 71 (0, 0)) := by rw [← hw3]; exact blk_put BK.out 0 _ rfl
  have far3 : ∀ k, k ≠ sb → w3.heap[k]? = w2.heap[k]? := fun k hk => by rw [← hw3]; exact Below.heap_setCell w2 _ _ k hk
  have hs3 : w3.heap.size = w2.heap.size := by rw [← hw3]; simp [World.setCell]
  have hfr3 : ∀ k, k < w1.heap.size → k ≠ sb → (Value.slice A st.length c).ownBlock ≠ some k → w3.heap[k]? = w1.heap[k]? := fun k h1 h2 h3 => (far3 k h2).trans (HG.out.block k h1 (fun e => h3 e.symm))
  have hos3 : w3.os = w1.os ∧ w3.tape = w1.tape ∧ w3.output = w1.output := by rw [← hw3]; exact ⟨HG.out.os, HG.out.tape, HG.out.output⟩
  rw [hw3]
  obtain ⟨n, D, hmown, hnl, hD⟩ := HM1.out.map
  have hmbs : mb ≠ sb := fun e => by
    obtain ⟨_, _, hb, _⟩ := hmown
    rw [e, HM1.out.blk] at hb; cases hb
  have hmbl := HM1.out.lt mb HM1.out.its.2.1
  have hmown3 : w3.ownsMap Try.prog 9 (plainElem Try.prog 3) mb n D := by
    obtain ⟨es, clock, hb, r⟩ := hmown
    exact ⟨es, clock, (hfr3 mb hmbl hmbs (fun e => (HOWN.out mb e).2 rfl)).trans hb, r⟩
  have hwf : (Lit.int .i64 ((st.length : Int) + 1)).wf = true := by
    show (decide ((-9223372036854775808 : Int) ≤ (st.length : Int) + 1) && decide ((st.length : Int) + 1 ≤ 9223372036854775807)) = true
    rw [decide_eq_true (by omega), decide_eq_true (by omega)]; rfl
  obtain ⟨w4, hrun, hmown4, hg4⟩ := (World.ownsMap.drew hmown3).update keyed Try.underlying69 (Nat.lt_of_le_of_lt hnl (Nat.lt_trans h8 (by unfold maxLen; omega))) (keyOf_string_mk Try.underlying9 hs) (plainElem_int (H := Unit) Try.underlying3 hwf)
  have hrun2 : (Instr.mapUpdate 69 (.map (some mb)) (.string s) (.int .i64 ((st.length : Int) + 1))).run Try.prog w3.drew = .ok () w4 := hrun
  have hblk4 : w4.heap[sb]? = some (.cells #[u, .map (some mb)] 71 (0, 0)) := (hg4.block sb (by show sb < w3.heap.size; rw [hs3]; have := HG.out.size; omega) (fun e => hmbs (Option.some.inj e).symm)).trans hblk3
  have hsz4 : w3.heap.size ≤ w4.heap.size := hg4.size
  have HFR := Aside0.mk (show ∀ k, k < w1.heap.size → k ≠ sb → k ≠ mb → (Value.slice A st.length c).ownBlock ≠ some k → w4.heap[k]? = w1.heap[k]? from fun k h1 h2 h3 h4 => (hg4.block k (by show k < w3.heap.size; rw [hs3]; have := HG.out.size; omega) (fun e => h3 (Option.some.inj e))).trans (hfr3 k h1 h2 h4))
  have HS4 := Aside0.mk (show w1.heap.size ≤ w4.heap.size by have := HG.out.size; omega)
  have HOS := Aside0.mk (show w4.os = w1.os ∧ w4.output = w1.output from ⟨hg4.os.trans hos3.1, hg4.output.trans hos3.2.2⟩)
  have htp : w4.tape = w1.tape := hg4.tape.trans hos3.2.1
  have hM4 : Mem w4 (fun k => S k ∨ u.ownBlock = some k) sb mb u (xs ++ [⟨⟨s, mac, mtu, false⟩, ⟨none, 0, 0⟩⟩]) (st ++ [⟨s, mac, mtu, false, []⟩]) := by
    refine mem_added HM1.out rfl rfl rfl ?_ ?_ hblk4 (names_put rfl hm hnl hD (World.ownsMap.isMap hmown) hmown4) HS4.out HFR.out
    · rw [← hu0]
      refine (RP.keep HR.out (fun k hk => ?_))
      have hkl := HR.out.lt k hk
      have hksb : k ≠ sb := fun e => by
        obtain ⟨cs, hc⟩ := HR.out.typed k hk
        rw [e, BK.out] at hc; injection hc with hc; injection hc with _ hc; exact absurd hc (by decide)
      have hkmb : k ≠ mb := fun e => by
        obtain ⟨cs, hc⟩ := HR.out.typed k hk
        obtain ⟨es, clock, hb, r⟩ := hmown3
        rw [far3 mb hmbs, ← e, hc] at hb; cases hb
      exact (hg4.block k (by show k < w3.heap.size; omega) (fun e => hkmb (Option.some.inj e))).trans (far3 k hksb)
    · intro k hk
      rw [← hu0] at hk
      rcases HAT.out with q | ⟨b, q, hq⟩
      · exact .inl (q ▸ hk)
      · have hk2 := Option.some.inj (q.symm.trans hk); exact .inr (by omega)
  have HM4 := Aside0.mk hM4
  have HST := Aside0.mk hu0
  have hats : u.ownBlock = (Value.slice A st.length c).ownBlock ∨ ∀ k, u.ownBlock = some k → w1.heap.size ≤ k := by
    rw [← hu0]
    rcases HAT.out with q | ⟨b, q, hq⟩
    · exact .inl q
    · exact .inr (fun k hk => by have hk2 := q.symm.trans hk; injection hk2 with hk2; omega)
  have HATS := Aside0.mk hats
  have HBK4 := Aside0.mk hblk4
  obtain ⟨x0, x1⟩ := MBlk.c2 hblk3
  obtain ⟨z0, z1⟩ := MBlk.c2 hblk4
  rw [← hu0] at x0 z0
  clear hw3
  have HTP := Aside0.mk htp
  clear htp hM4 hrun hblk3 far3 hs3 hfr3 hos3 hmown hnl hD hmbs hmbl hmown3 hwf hmown4 hg4 hblk4 hsz4 hats y0 y1 g0 g1 HR HG HAT BK hu0 hu
  have hcast : ((st.length + 1 : Nat) : Int) = (st.length : Int) + 1 := by omega
  go_region
  go_wp2
  go_ret2
  refine ⟨by first | rfl | rw [hcast], _, _, _, HM4.out, ?_, ?_⟩
  · intro k hk
    rcases hk with q | q
    · exact .inl q
    · rcases HATS.out with e | e
      · exact .inl (HM1.out.its.2.2.1 k (e.symm.trans q))
      · exact .inr (Nat.le_trans HB.out.size (e k q))
  · have hf1 : Fr S w w1 := Fr.of_below HB.out
    exact ⟨HOS.out.1.trans hf1.os, HTP.out.trans hf1.tape, HOS.out.2.trans hf1.output, Nat.le_trans hf1.size HS4.out, fun k hk hn => (HFR.out k (Nat.lt_of_lt_of_le hk hf1.size) (fun e => hn (e ▸ HM1.out.its.1)) (fun e => hn (e ▸ HM1.out.its.2.1)) (fun e => hn (HM1.out.its.2.2.1 k e))).trans (hf1.block k hk hn)⟩
theorem add_calls (h : Mem w S sb mb v xs st) (h8 : st.length ≤ 8) (s : ByteArray) (hs : s.size ≤ maxLen) (mac mtu : Int) (h0 : 0 ≤ mac) (h1 : mac < 18446744073709551616) :
    Calls Try.prog 24 #[.pointer (some ⟨sb, 0, none⟩), .string s, .int .u64 mac, .int .i64 mtu] w fun e w' => e = .returned (.tuple #[.int .i64 (add st s mac mtu).2.1, .int .i64 (add st s mac mtu).2.2]) ∧ Stepped w w' S sb mb (add st s mac mtu).1 := by
  cases hn : nameB s with
  | false =>
    have e : add st s mac mtu = (st, 0, 130) := by unfold add; rw [if_pos (.inl hn)]
    rw [e]
    exact Calls.mono (add_bad h s hs mac mtu hn) (fun _ _ q => ⟨q.1, Stepped.same h q.2⟩)
  | true =>
    by_cases hm : named st s = 0
    · have hno : ¬ (nameB s = false ∨ named st s ≠ 0) := by rw [hn, hm]; simp
      cases hbad : addBad mac mtu with
      | true =>
        have e : add st s mac mtu = (st, 0, 1) := by unfold add; rw [if_neg hno, if_pos hbad]
        rw [e]
        exact Calls.mono (add_arg h s hs mac mtu hn hm h0 h1 hbad) (fun _ _ q => ⟨q.1, Stepped.same h q.2⟩)
      | false =>
        by_cases h8b : st.length = 8
        · have e : add st s mac mtu = (st, 0, 131) := by unfold add; rw [if_neg hno, if_neg (by rw [hbad]; decide), if_pos h8b]
          rw [e]
          exact Calls.mono (add_full h s hs mac mtu hn hm h0 h1 hbad h8b) (fun _ _ q => ⟨q.1, Stepped.same h q.2⟩)
        · have e : add st s mac mtu = (st ++ [⟨s, mac, mtu, false, []⟩], (st.length : Int) + 1, 0) := by unfold add; rw [if_neg hno, if_neg (by rw [hbad]; decide), if_neg h8b]
          rw [e]
          exact add_done h s hs mac mtu hn hm h0 h1 hbad (by omega)
    · have e : add st s mac mtu = (st, 0, 130) := by unfold add; rw [if_pos (.inr hm)]
      rw [e]
      exact Calls.mono (add_taken h s hs mac mtu hn hm) (fun _ _ q => ⟨q.1, Stepped.same h q.2⟩)
end
end Go.Proofs.Ytefbcigccfkkgaa.WIf
