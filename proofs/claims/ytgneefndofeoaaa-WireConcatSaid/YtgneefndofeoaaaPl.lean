import Derived.Test.YtgneefndofeoaaaAmq
namespace Go.PL
open Go.AM

/-! ### Lists, plain -/
theorem i64_iff {n : Int} : isI64 n ↔ -9223372036854775808 ≤ n ∧ n ≤ 9223372036854775807 := Iff.rfl

theorem drop_step {α : Type} (v : List α) (d : α) {i : Int} (h0 : 0 ≤ i) (h1 : i < v.length) : v.drop i.toNat = v.getD i.toNat d :: v.drop (i + 1).toNat := by
  have e : (i + 1).toNat = i.toNat + 1 := by omega
  have h : i.toNat < v.length := by omega
  rw [e, List.drop_eq_getElem_cons h, List.getD_eq_getElem?_getD, List.getElem?_eq_getElem h]
  rfl

theorem drop_end {α : Type} (v : List α) {i : Int} (h : ¬ i < (v.length : Int)) : v.drop i.toNat = [] := by
  rw [List.drop_eq_nil_iff]
  omega

theorem getD_mem {α : Type} (v : List α) (d : α) {i : Nat} (h : i < v.length) : v.getD i d ∈ v := by
  rw [List.getD_eq_getElem?_getD, List.getElem?_eq_getElem h]
  exact List.getElem_mem h

theorem take_step {α : Type} (v : List α) (d : α) {i : Int} (h0 : 0 ≤ i) (h1 : i < v.length) : v.take (i + 1).toNat = v.take i.toNat ++ [v.getD i.toNat d] := by
  have e : (i + 1).toNat = i.toNat + 1 := by omega
  have h : i.toNat < v.length := by omega
  rw [e, List.take_add_one, List.getD_eq_getElem?_getD, List.getElem?_eq_getElem h]
  rfl

end Go.PL
