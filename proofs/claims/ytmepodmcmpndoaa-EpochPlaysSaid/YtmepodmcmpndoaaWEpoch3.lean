/-
  A new epoch in memory. Conditions: those of each theorem.
-/
import Derived.Test.YtmepodmcmpndoaaWEpoch2
import Derived.Laws.CopyOwn
import Derived.Deep.RegionLaw
set_option linter.unusedVariables false
set_option linter.unusedSimpArgs false
namespace Go.Proofs.Ytmepodmcmpndoaa.WEp
open Go.RowKit Go.Proofs.Ytmepodmcmpndoaa.PBase Go.Proofs.YtmepodmcmpndoaaW.PrintWords Go.Proofs.YtmepodmcmpndoaaW.PrintLast Go.Proofs.YtmepodmcmpndoaaW.PrintMore Go.Proofs.Ytmepodmcmpndoaa.Ep Go.Proofs.Ytmepodmcmpndoaa.EpM Go.MuLone
attribute [local go_sem] max2_int min2_int max_two min_two
theorem mul_one (n : Nat) (h1 : 1 ≤ n) (h2 : n ≤ 16) : bits_Mul.f 1 (n : Int) = some (0, (n : Int)) := by
  have h : n = 1 ∨ n = 2 ∨ n = 3 ∨ n = 4 ∨ n = 5 ∨ n = 6 ∨ n = 7 ∨ n = 8 ∨ n = 9 ∨ n = 10 ∨ n = 11 ∨ n = 12 ∨ n = 13 ∨ n = 14 ∨ n = 15 ∨ n = 16 := by omega
  rcases h with rfl | rfl | rfl | rfl | rfl | rfl | rfl | rfl | rfl | rfl | rfl | rfl | rfl | rfl | rfl | rfl <;> decide +kernel
theorem splice_take {cur cs : List Value} {k : Nat} (h : k + cs.length ≤ cur.length) (v : Value) (hc : cur.take k = List.replicate k v) (hs : cs = List.replicate cs.length v) : (splice cur k cs).take (k + cs.length) = List.replicate (k + cs.length) v := by
  obtain ⟨m, hm⟩ : ∃ m, cs.length = m := ⟨_, rfl⟩
  unfold splice
  rw [hm] at hs h ⊢
  have e : cur.take k ++ cs = List.replicate (k + m) v := by rw [hc, hs, List.replicate_append_replicate]
  have e2 : cur.take k ++ (cs ++ cur.drop (k + m)) = List.replicate (k + m) v ++ cur.drop (k + m) := by rw [← List.append_assoc, e]
  first
  | rw [e2, List.take_append_of_le_length (by simp), List.take_of_length_le (by simp)]
  | rw [e, List.take_append_of_le_length (by simp), List.take_of_length_le (by simp)]
set_option maxHeartbeats 1000000 in
set_option maxRecDepth 100000 in
/-- slices.Repeat of a row of one number. -/
theorem repeat_calls (bx n : Nat) (x : Int) (w : World) (h1 : 1 ≤ n) (h2 : n ≤ 16) (hx : w.cell? ⟨bx, 0, none⟩ = some (.int .i64 x)) :
    Calls Try.prog 24 #[.slice (some ⟨bx, 0, none⟩) 1 1, .int .i64 (n : Int)] w fun e w' => ∃ b, e = .returned (.slice (some ⟨b, 0, none⟩) n n) ∧ Row w' w.heap.size b n n (List.replicate n x) ∧ Below w.heap.size w w' := by
  have HMU := Aside0.mk (mul_one n h1 h2)
  have HX := Aside0.mk hx
  have kmk := print_make (P := Try.prog) 33 3 .i64 8 Try.underlying33 (by kernel_rfl) (by decide) n (by omega)
  have c1 : ((1 : Nat) : Int) = 1 := rfl
  have hxl : bx < w.heap.size := World.block_lt_of_cell? w _ hx
  clear hx
  go_enter Try.func24, Try.ntmps24
  go_wp2_with fail
  refine (bits_Mul.calls 1 (n : Int) 0 (n : Int) w HMU.out).mono ?_
  rintro e w1 ⟨rfl, hd⟩
  have HB1 := Aside0.mk hd.below
  have HX1 := Aside0.mk (pw_cell_below hd.below HX.out)
  have hs1 := hd.below.size
  clear hd
  go_wp2_with ((with_reducible refine gate_builtin (b := .copy) (xs := #[.tmp 31, .tmp 32]) rfl ?_); refine wpList_copy_splice rfl (.tmp 31) (.tmp 32) 33 33 rfl 3 Try.underlying33 (by kernel_rfl) (some ⟨w1.heap.size, 0, none⟩) (some ⟨bx, 0, none⟩) n n 1 1 rfl rfl w1.heap.size 0 (madeCells #[.int .i64 0] n).toList 3 ?q1 [.int .i64 x] ?q2 ?q3 ?q4 ?q5 w1.heap.size w1 ?q6 (Nat.le_refl _) ?_; (case q1 => exact heap_alloc_new w1 _); (case q2 => exact (Nat.min_eq_left h1).symm); (case q3 => exact fun _ => ⟨rfl, _, rfl, fun j v hj => by cases j with | zero => (obtain rfl : Value.int .i64 x = v := (by simpa using hj)); rw [add_plain]; exact pw_cell_below (below_alloc (Below.refl _ _) _) HX1.out | succ j => simp at hj⟩); (case q4 => simp [madeCells]; omega); (case q5 => intro v hv; simp at hv; subst hv; rfl); (case q6 => exact below_alloc (Below.refl _ _) _); intro w2 hg hb; have HG := Aside0.mk hg.out; have HB2 := Aside0.mk hb; clear hg hb)
  have HB : Aside0 (Below w.heap.size w w2) := ⟨below_step HB1.out HB2.out⟩
  have HLE := Aside0.mk (show w.heap.size ≤ w1.heap.size from hs1)
  obtain ⟨b, hb⟩ : ∃ b, w1.heap.size = b := ⟨_, rfl⟩
  rw [hb] at HG HLE ⊢
  have hcl : (madeCells #[Value.int .i64 0] n).toList.length = n := by simp [madeCells]
  have ht : (splice (madeCells #[Value.int .i64 0] n).toList 0 [.int .i64 x]).take (0 + [Value.int .i64 x].length) = List.replicate (0 + [Value.int .i64 x].length) (.int .i64 x) := splice_take (by rw [hcl]; simp; omega) _ rfl rfl
  have hl0 : (splice (madeCells #[Value.int .i64 0] n).toList 0 [.int .i64 x]).length = n := by rw [length_splice _ _ _ (by rw [hcl]; simp; omega), hcl]
  have HI := Aside0.mk (show ∃ cur : List Value, cur.length = n ∧ cur.take 1 = List.replicate 1 (.int .i64 x) ∧ w2.heap[b]? = some (.cells cur.toArray 3 (0, 0)) from ⟨_, hl0, by simpa using ht, HG.out⟩)
  clear hb hcl ht hl0 HG HB1 HB2 HX HX1 hs1 hxl kmk HMU c1
  have HN1 := Aside0.mk h1
  clear h1
  go_loopg [8] (n - 1) (fun kq v8 w' => ∃ k : Nat, v8 = .int .i64 (k : Int) ∧ Aside0 (n = k + kq ∧ 1 ≤ k) ∧ Aside0 (∃ cur : List Value, cur.length = n ∧ cur.take k = List.replicate k (.int .i64 x) ∧ w'.heap[b]? = some (.cells cur.toArray 3 (0, 0))) ∧ Aside0 (Below w.heap.size w w'))
  case atStart => exact ⟨1, rfl, ⟨by have := HN1.out; omega, Nat.le_refl _⟩, HI, HB⟩
  case round =>
    clear HI HB
    obtain ⟨k, rfl, HK, HI, HB⟩ := hrel
    have hk := HK.out
    by_cases hlt : k < n
    · obtain ⟨cur, hl, ht, hh⟩ := HI.out
      obtain ⟨c, hc⟩ : ∃ c, Nat.min k (n - k) = c := ⟨_, rfl⟩
      have hcut := cut_from b n n k (by omega) hlt
      have hck : c ≤ k := by rw [← hc]; exact Nat.min_le_left _ _
      have e1 : IntKind.i64.wrap ((k : Int) + (c : Int)) = ((k + c : Nat) : Int) := by rw [IntWalk.i64_in _ (by omega)]; omega
      have HC := Aside0.mk hc
      have HT := Aside0.mk (show cur.length = n ∧ cur.take k = List.replicate k (.int .i64 x) ∧ wr.heap[b]? = some (.cells cur.toArray 3 (0, 0)) from ⟨hl, ht, hh⟩)
      have s1 := Aside0.mk (show (List.replicate c (Value.int .i64 x)).length = Nat.min k (n - k) by rw [List.length_replicate]; exact hc.symm)
      have s2 := Aside0.mk (show 0 < (List.replicate c (Value.int .i64 x)).length → (some (⟨b, k, none⟩ : Addr)) = some ⟨b, k, none⟩ ∧ ∃ ad, (some (⟨b, 0, none⟩ : Addr)) = some ad ∧ ∀ j v, (List.replicate c (Value.int .i64 x))[j]? = some v → wr.drew.cell? (ad.add j) = some v from fun _ => ⟨rfl, _, rfl, fun j v hj => by
        have hjc : j < c := by have := (List.getElem?_eq_some_iff.1 hj).1; simpa using this
        rw [List.getElem?_replicate, if_pos hjc] at hj
        rw [add_plain]
        show wr.cell? ⟨b, j, none⟩ = some v
        have h3 : (cur.take k)[j]? = some (Value.int .i64 x) := by rw [ht, List.getElem?_replicate, if_pos (by omega)]
        rw [List.getElem?_take, if_pos (by omega)] at h3
        unfold World.cell?
        rw [show (⟨b, j, none⟩ : Addr).block = b from rfl, hh]
        simpa [h3] using hj⟩)
      have hmr : c ≤ n - k := by rw [← hc]; exact Nat.min_le_right _ _
      have s3 := Aside0.mk (show k + (List.replicate c (Value.int .i64 x)).length ≤ cur.length by rw [List.length_replicate, hl]; omega)
      have s4 := Aside0.mk (show ∀ v ∈ List.replicate c (Value.int .i64 x), v.oneCell' = true from fun v hv => by rw [List.eq_of_mem_replicate hv]; rfl)
      have s5 := Aside0.mk (show wr.drew.heap[b]? = some (.cells cur.toArray 3 (0, 0)) from hh)
      have hc0 : 0 < c := by rw [← hc]; exact Nat.lt_min.2 ⟨HK.out.2, by omega⟩
      clear hl ht hh hc HI hk
      have p0 : (k : Int) < (n : Int) := by omega
      have p1 : (k : Int) ≤ (n : Int) := by omega
      go_wp2_with fail
      go_region_law (refine step_copy_splice rfl (.tmp 41) (.tmp 44) 33 33 rfl 3 Try.underlying33 (by kernel_rfl) (some ⟨b, k, none⟩) (some ⟨b, 0, none⟩) (n - k) (n - k) k n (by simp [Act.eval, Act.put]) (by simp [Act.eval, Act.put]) b k cur 3 s5.out (List.replicate c (.int .i64 x)) s1.out (fun h => ⟨rfl, (s2.out h).2⟩) s3.out s4.out b wr (below_drew (Below.refl _ _)) (Nat.le_refl _) ?_; intro w4 hg4 hb4)
      have ht4 : (splice cur k (List.replicate c (.int .i64 x))).take (k + c) = List.replicate (k + c) (.int .i64 x) := by
        have := splice_take s3.out (.int .i64 x) HT.out.2.1 (by rw [List.length_replicate])
        rwa [List.length_replicate] at this
      have hl4 : (splice cur k (List.replicate c (.int .i64 x))).length = n := by rw [length_splice _ _ _ s3.out]; exact HT.out.1
      have HI4 := Aside0.mk (show ∃ cur : List Value, cur.length = n ∧ cur.take (k + c) = List.replicate (k + c) (.int .i64 x) ∧ w4.heap[b]? = some (.cells cur.toArray 3 (0, 0)) from ⟨_, hl4, ht4, hg4.out⟩)
      have HB4 := Aside0.mk (show Below w.heap.size w w4 from HB.out.trans (hb4.mono HLE.out))
      clear hg4 hb4 s1 s2 s3 s4 s5 ht4 hl4 HT
      go_wp2_with fail
      go_roundg (n - (k + c))
      case measure => have := HK.out; omega
      case rel => exact ⟨k + c, by first | rfl | go_num, ⟨by omega, by omega⟩, HI4, HB4⟩
    · obtain rfl : k = n := by omega
      obtain ⟨cur, hl, ht, hh⟩ := HI.out
      have HR := Aside0.mk (show cur.length = k ∧ cur.take k = List.replicate k (.int .i64 x) ∧ wr.heap[b]? = some (.cells cur.toArray 3 (0, 0)) from ⟨hl, ht, hh⟩)
      clear hl ht hh HI hk hlt
      go_wp2
      go_ret
      obtain ⟨hl, ht, hh⟩ := HR.out
      refine ⟨b, rfl, ⟨by simp [nums], .inr ⟨b, k, cur.toArray, rfl, HLE.out, hh, Nat.le_refl _, by simp only [maxLen]; omega, by simpa using hl, ?_⟩⟩, HB.out⟩
      rw [Nat.mul_one]
      simpa [nums] using ht
theorem cell_alloc {w : World} {o : Obj} {a : Addr} {v : Value} (h : w.cell? a = some v) : (w.alloc o).cell? a = some v := pw_cell_below (below_alloc (Below.refl _ _) o) h
theorem cell_alloc_new (w : World) (x : Value) (t k : Nat) (hk : k = w.heap.size) : (w.alloc (.cells #[x] t)).cell? ⟨k, 0, none⟩ = some x := by subst hk; simp
theorem row_lit {B : Nat} (W : World) (v : Int) (k : Nat) (hk : k = W.heap.size) (hB : B ≤ k) : Row (W.alloc (.cells #[.int .i64 v] 3)) B k 1 1 [v] := by
  subst hk; exact own_lit W B 3 .i64 [v] hB (by simp)
theorem row_made {B : Nat} (W : World) (n k : Nat) (hk : k = W.heap.size) (hB : B ≤ k) (hn : n ≤ 16) : Row (W.alloc (.cells (madeCells #[.int .i64 0] n) 3)) B k n n (List.replicate n 0) := by
  subst hk; exact own_made W B 3 .i64 n hB (by omega)
theorem row_drew {W : World} {B b n c : Nat} {xs : List Int} (h : Row W B b n c xs) : Row W.drew B b n c xs := h
theorem row_alloc {W : World} {B b n c : Nat} {xs : List Int} (h : Row W B b n c xs) (o : Obj) : Row (W.alloc o) B b n c xs := World.ownsRow.alloc h o
theorem boxed {W : World} {B g p b q n : Nat} {v : Int} (hg : g = W.heap.size) (hB : B ≤ g) (hp : Row W B p 1 1 [v]) (hb : Row W B b n n (List.replicate n (-1))) (hq : Row W B q n n (List.replicate n 0)) (n1 : p ≠ b) (n2 : p ≠ q) (n3 : b ≠ q) :
    Mem 56 (W.alloc (.cells #[.int .i32 0, .int .u32 0, .slice (some ⟨p, 0, none⟩) 1 1, .int .i64 0, .slice (some ⟨b, 0, none⟩) n n, .slice (some ⟨q, 0, none⟩) n n] 56)) B g p b q 0 (St.made n v) := by
  subst hg
  have l1 := hp.lt
  have l2 := hb.lt
  have l3 := hq.lt
  have e1 : (List.replicate n (-1 : Int)).length = n := List.length_replicate
  have e2 : (List.replicate n (0 : Int)).length = n := List.length_replicate
  refine ⟨⟨1, n, n, ?_, ?_, ?_, ?_⟩, hB, by omega, by omega, by omega, n1, n2, n3⟩
  · show (W.alloc _).heap[W.heap.size]? = some (.cells #[.int .i32 0, .int .u32 0, .slice (some ⟨p, 0, none⟩) 1 1, .int .i64 0, .slice (some ⟨b, 0, none⟩) (List.replicate n (-1 : Int)).length n, .slice (some ⟨q, 0, none⟩) (List.replicate n (0 : Int)).length n] 56 (0, 0))
    rw [e1, e2]; exact heap_alloc_new W _
  · exact row_alloc hp _
  · show Row _ B b (List.replicate n (-1 : Int)).length n _
    rw [e1]; exact row_alloc hb _
  · show Row _ B q (List.replicate n (0 : Int)).length n _
    rw [e2]; exact row_alloc hq _
set_option maxHeartbeats 1000000 in
set_option maxRecDepth 100000 in
theorem new_bad (n v : Int) (w : World) (h : n < 1 ∨ 16 < n) : Calls Try.prog 9 #[.int .i64 n, .int .i64 v] w fun e w' => e = .returned (.tuple #[.pointer none, .int .i64 1]) ∧ w = w' := by
  rcases h with h | h
  · go_enter Try.func9, Try.ntmps9
    go_wp2
    go_ret2
    exact ⟨rfl, rfl⟩
  · have h2 : ¬ n < 1 := by omega
    go_enter Try.func9, Try.ntmps9
    go_wp2
    go_ret2
    exact ⟨rfl, rfl⟩
set_option maxHeartbeats 1000000 in
set_option maxRecDepth 100000 in
theorem new_calls (n : Nat) (v : Int) (w : World) (h1 : 1 ≤ n) (h2 : n ≤ 16) : Calls Try.prog 9 #[.int .i64 (n : Int), .int .i64 v] w fun e w' => ∃ g a r s, e = .returned (.tuple #[.pointer (some ⟨g, 0, none⟩), .int .i64 0]) ∧ Mem 56 w' w.heap.size g a r s 0 (St.made n v) ∧ Below w.heap.size w w' := by
  have kmk := print_make (P := Try.prog) 33 3 .i64 8 Try.underlying33 (by kernel_rfl) (by decide) n (by omega)
  have d1 : ¬ ((n : Int) < 1) := by omega
  have d2 : ¬ (16 < (n : Int)) := by omega
  go_enter Try.func9, Try.ntmps9
  go_wp2_with fail
  go_region_held3 (fun w' => True) (trivial) (first | (go_at_call 24; (with_reducible refine (repeat_calls _ n (-1) _ h1 h2 ?hx).mono ?_); (case hx => (repeat (first | exact cell_alloc_new _ _ _ _ (by first | rfl | (simp; done)) | refine cell_alloc ?_))); rintro e w5 ⟨b5, rfl, hr, hb⟩; have HR5 := Aside0.mk hr; have HB5 := Aside0.mk hb; clear hr hb))
  all_goals
    have hs := HB5.out.size
    have hb := HR5.out.base
    have hl := HR5.out.lt
    simp at hs hb
    go_wp2_with fail
    go_ret2
    refine ⟨_, _, _, _, rfl, boxed (by first | rfl | (simp; done)) (by omega) ?_ ?_ ?_ (by omega) (by omega) (by omega), ?_⟩
    case refine_1 => repeat (first | exact row_lit _ _ _ (by first | rfl | (simp; done)) (by omega) | refine row_alloc ?_ _ | refine pw_own_below ?_ HB5.out | refine row_drew ?_)
    case refine_2 => repeat (first | exact HR5.out.reb (by omega) | refine row_alloc ?_ _)
    case refine_3 => repeat (first | exact row_made _ _ _ (by first | rfl | (simp; done)) (by omega) h2 | refine row_alloc ?_ _ | refine pw_own_below ?_ HB5.out | refine row_drew ?_)
    case refine_4 => repeat (first | exact Below.refl _ _ | refine below_alloc ?_ _ | refine below_drew ?_ | refine below_step ?_ HB5.out)
end Go.Proofs.Ytmepodmcmpndoaa.WEp
