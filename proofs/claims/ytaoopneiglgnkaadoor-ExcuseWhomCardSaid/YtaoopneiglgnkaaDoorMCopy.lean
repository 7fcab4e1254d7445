/-
  The builtin copy into a row of the call's own, and other small laws for walks over rows of numbers. Conditions: those of each theorem.
-/
import Derived.Test.YtaoopneiglgnkaaDoorWMore
import Derived.Laws.CopyOwn
set_option linter.unusedVariables false
set_option linter.unusedSimpArgs false
namespace Go.Proofs.YtaoopneiglgnkaaDoor.MCopy
open Go.RowKit Go.Proofs.YtaoopneiglgnkaaDoorW.PrintWords Go.Proofs.YtaoopneiglgnkaaDoorW.PrintLast Go.Proofs.YtaoopneiglgnkaaDoorW.PrintMore
section
variable {P : Program} {ops : Array Oper} {rest : List Oper} {o : Oper} {a : Act} {Q : Exit → Act → World → Prop}
/-- What a row of numbers reads as, cell by cell. -/
theorem C_cells {k : IntKind} {W : World} {A : Option Addr} {m : Nat} {ys : List Int} (h : (Kd.int k).C W A m ys) (hp : 0 < m) : ∃ ad, A = some ad ∧ ∀ (j : Nat) (v : Value), (ys.map (Value.int k))[j]? = some v → W.cell? (ad.add j) = some v := by
  obtain ⟨hl, hm, hn⟩ := h
  obtain ⟨ad, rfl, hc⟩ := hn hp
  refine ⟨ad, rfl, fun j v hj => ?_⟩
  rw [List.getElem?_map] at hj
  obtain ⟨p, hp1, hp2⟩ := Option.map_eq_some_iff.1 hj
  obtain ⟨c, hcl, hK, hcell⟩ := hc j p hp1
  have hK2 : c = [Value.int k p] := hK
  subst hK2
  subst hp2
  have := hcell 0 (Value.int k p) rfl
  have e : (Kd.int k).sz = 1 := rfl
  rw [e, Nat.mul_one, Nat.add_zero] at this
  exact this
theorem R_copy {k : IntKind} {w0 W : World} {base e : Nat} {ok : Nat → Prop} (hgd : o.guard = none) (d s : Operand) (t : TypeId) (ho : o.op = .call { callee := .builtin .copy, args := #[d, s], argTypes := #[t, t] })
    (ht : P.underlying t = some (.slice e)) (hsz : (P.info? e).map (·.size) = some 1) (v : Value) (xs ys : List Int) (A : Option Addr) (m c : Nat) (hd : a.eval d = v) (hs : a.eval s = .slice A m c)
    (HO : (Kd.int k).R e W base ok v xs) (HR : (Kd.int k).C W A m ys) (HB : Below base w0 W)
    (h : ∀ w1 n, (Kd.int k).R e w1 base ok v (ys.take xs.length ++ xs.drop ys.length) → Below base w0 w1 → wpList P ops Q rest (a.put o.dst n) w1) : wpList P ops Q (o :: rest) a W := by
  have hown := Kd.own_of_R HO
  have hym : ys.length = m := HR.1
  have hok := HO.1
  rcases hown.2 with ⟨rfl, hn⟩ | ⟨g, cap, cur, rfl, hb, hg, hnc, hcm, hcs, hct⟩
  · obtain rfl : xs = [] := List.eq_nil_of_length_eq_zero hn
    refine wpList_copy_nothing hgd d s t t ho e ht hsz none A 0 0 m c hd hs (by simp) ?_
    exact h W _ (by simpa using Kd.R_nil _ _ _ _ _) HB
  · have hcl : cur.toList.length = cap := by rw [Array.length_toList, hcs]; omega
    obtain ⟨cs, hcse⟩ : ∃ cs, cs = (ys.map (Value.int k)).take xs.length := ⟨_, rfl⟩
    have hcsl : cs.length = Nat.min m xs.length := by
      rw [hcse, List.length_take, List.length_map, hym]; exact Nat.min_comm _ _
    have hmin : Nat.min m xs.length = min m xs.length := rfl
    refine wpList_copy_splice hgd d s t t ho e ht hsz (some ⟨g, 0, none⟩) A xs.length cap m c hd hs g 0 cur.toList e (by simpa using hg) cs hcsl ?_ (by rw [hcl]; omega) ?_ base w0 HB hb ?_
    · intro hp
      have hmp : 0 < m := by omega
      obtain ⟨ad, rfl, hcell⟩ := C_cells HR hmp
      refine ⟨rfl, ad, rfl, fun j u hj => hcell j u ?_⟩
      rw [hcse, List.getElem?_take] at hj
      split at hj
      · exact hj
      · cases hj
    · intro u hu
      rw [hcse] at hu
      obtain ⟨x, _, rfl⟩ := List.mem_map.1 (List.mem_of_mem_take hu)
      rfl
    · intro w' hg' hb'
      refine h w' _ ?_ hb'
      have hg2 := hg'.out
      refine Kd.R_of_own (h1 := fun _ => rfl) ⟨?_, .inr ⟨g, cap, (splice cur.toList 0 cs).toArray, ?_, hb, hg2, ?_, hcm, ?_, ?_⟩⟩ hok
      · simp [encs]
      · congr 1
        rw [List.length_append, List.length_take, List.length_drop]; omega
      · rw [List.length_append, List.length_take, List.length_drop]; omega
      · rw [List.size_toArray, length_splice _ _ _ (by omega), hcl]; omega
      · have hcur : cur.toList.take (xs.length * 1) = encs (Value.int k) xs := hct
        rw [Nat.mul_one] at hcur
        have hlen : (ys.take xs.length ++ xs.drop ys.length).length = xs.length := by
          rw [List.length_append, List.length_take, List.length_drop]; omega
        rw [hlen, Nat.mul_one]
        unfold splice
        rw [List.take_zero, List.nil_append, Nat.zero_add, hcse]
        apply List.ext_getElem?
        intro j
        rw [List.getElem?_take]
        by_cases hj : j < xs.length
        · rw [if_pos hj]
          have hcj : cur.toList[j]? = (encs (Value.int k) xs)[j]? := by
            rw [← hcur, List.getElem?_take, if_pos hj]
          by_cases hj2 : j < ys.length
          · rw [List.getElem?_append_left (by rw [List.length_take, List.length_map]; omega), List.getElem?_take, if_pos hj]
            simp only [encs]
            rw [List.map_append, List.getElem?_append_left (by rw [List.length_map, List.length_take]; omega), List.getElem?_map, List.getElem?_map, List.getElem?_take, if_pos hj]
          · rw [List.getElem?_append_right (by rw [List.length_take, List.length_map]; omega), List.length_take, List.length_map, List.getElem?_drop,
              show min xs.length ys.length + (j - min xs.length ys.length) = j by omega, hcj]
            simp only [encs]
            rw [List.map_append, List.getElem?_append_right (by rw [List.length_map, List.length_take]; omega), List.length_map, List.length_take, List.getElem?_map, List.getElem?_map, List.getElem?_drop,
              show ys.length + (j - min xs.length ys.length) = j by omega]
        · rw [if_neg hj, List.getElem?_eq_none (by simp only [encs, List.length_map]; omega)]
end
end Go.Proofs.YtaoopneiglgnkaaDoor.MCopy
