import Derived.Test.YtdeleoaeegmhlaaMYn
namespace Go.PL
open Go.AM
set_option linter.unusedVariables false
/-! ### The chapter's example -/
def leafS (l : List Int) : Sp := .node ((0, 0, ()), (l, ())) []
def forkS (x a : Int) (p q : Sp) : Sp := .node ((x, a, ()), ([], ())) [p, q]
def aDv : Dv := (2, 1, leafS [1], ())
def bDv : Dv := (2, 2, forkS 0 0 (leafS [1]) (leafS [2]), ())
def cDv : Dv := (2, 3, forkS 0 0 (leafS [1]) (forkS 1 10 (leafS [2]) (leafS [1, 3])), ())
def dDv : Dv := (2, 4, forkS 0 0 (leafS [1]) (leafS [2]), ())
def deepB : Nat → Sp → Bool
  | 0, _ => false
  | n + 1, x => x.subs.all (deepB n)
theorem deepB_ok : ∀ {n : Nat} {x : Sp}, deepB n x = true → deepN n x
  | 0, x, h => by cases h
  | n + 1, x, h => fun y hy => deepB_ok (List.all_eq_true.1 h y hy)
def okB (n : Nat) (d : Dv) : Bool := decide (1 ≤ d.1) && (decide (d.1 ≤ 1000) && (deepB n d.2.2.1 && (decide ((regsN n d.2.2.1 (wholeB d.1)).length ≤ 1000) && (regsN n d.2.2.1 (wholeB d.1)).all fun p => decide ((offs p.2).length ≤ 1000000))))
theorem okB_ok {n : Nat} {d : Dv} (h : okB n d = true) : preA n d := by
  unfold okB at h
  simp only [Bool.and_eq_true, decide_eq_true_eq, List.all_eq_true] at h
  exact ⟨h.1, h.2.1, deepB_ok h.2.2.1, h.2.2.2.1, h.2.2.2.2⟩
theorem pre_a : preA 10 aDv := okB_ok (by kernel_rfl)
theorem pre_b : preA 10 bDv := okB_ok (by kernel_rfl)
theorem pre_c : preA 10 cDv := okB_ok (by kernel_rfl)
theorem pre_d : preA 10 dDv := okB_ok (by kernel_rfl)
end Go.PL
