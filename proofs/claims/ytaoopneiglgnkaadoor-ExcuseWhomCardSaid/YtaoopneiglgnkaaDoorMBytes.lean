/-
  Strings as rows of numbers: cut, joined, told back. Conditions: those of each theorem.
-/
import Derived.Test.YtaoopneiglgnkaaDoorWMore
set_option linter.unusedVariables false
set_option linter.unusedSimpArgs false
namespace Go.Proofs.YtaoopneiglgnkaaDoor.MBytes
open Go.RowKit Go.Proofs.YtaoopneiglgnkaaDoorW.PrintWords Go.Proofs.YtaoopneiglgnkaaDoorW.PrintLast Go.Proofs.YtaoopneiglgnkaaDoorW.PrintMore
theorem range (s : ByteArray) : ∀ x ∈ bytesOf s, 0 ≤ x ∧ x ≤ 255 := by
  intro x hx
  obtain ⟨b, _, rfl⟩ := List.mem_map.1 hx
  have := b.toNat_lt
  omega
theorem extract (s : ByteArray) (a b : Nat) : bytesOf (s.extract a b) = ((bytesOf s).drop a).take (b - a) := by
  simp [bytesOf, List.map_drop, List.map_take, List.extract_eq_take_drop]
theorem append (s t : ByteArray) : bytesOf (s ++ t) = bytesOf s ++ bytesOf t := by
  simp [bytesOf]
theorem ofNums {l : List Int} (h : ∀ x ∈ l, 0 ≤ x ∧ x ≤ 255) : bytesOf (strOfNums l) = l := by
  simp only [bytesOf, strOfNums, List.map_map]
  rw [show l = l.map id by simp] 
  simp only [List.map_map]
  apply List.map_congr_left
  intro x hx
  have := h x hx
  simp only [Function.comp_apply, id]
  rw [UInt8.toNat_ofNat']
  omega
theorem nums (s : ByteArray) : strOfNums (bytesOf s) = s := by
  apply ByteArray.ext
  apply Array.ext'
  simp only [bytesOf, strOfNums, List.map_map]
  rw [show s.data.toList = s.data.toList.map id by simp]
  simp only [List.map_map]
  apply List.map_congr_left
  intro x hx
  simp
theorem inj {s t : ByteArray} (h : bytesOf s = bytesOf t) : s = t := by rw [← nums s, ← nums t, h]
theorem size_ofNums (l : List Int) : (strOfNums l).size = l.length := by
  rw [← bytesOf_length]
  simp [bytesOf, strOfNums]
theorem nil : bytesOf ⟨#[]⟩ = [] := rfl
theorem bt_eq (s : ByteArray) (i : Nat) (h : i < s.size) : bt s (i : Int) = (bytesOf s)[i]'(by rw [bytesOf_length]; exact h) := by
  rw [← rd_bytesOf]
  simp [rd, List.getElem?_eq_getElem (show i < (bytesOf s).length by rw [bytesOf_length]; exact h)]
theorem ofNums_inj {l m : List Int} (hl : ∀ x ∈ l, 0 ≤ x ∧ x ≤ 255) (hm : ∀ x ∈ m, 0 ≤ x ∧ x ≤ 255) (h : strOfNums l = strOfNums m) : l = m := by
  rw [← ofNums hl, ← ofNums hm, h]
end Go.Proofs.YtaoopneiglgnkaaDoor.MBytes
