import Derived.Test.YtohbapfijafecaaMg
namespace Go.Proofs.Ytohbapfijafecaa
open Go.AM Go.PL
set_option linter.unusedVariables false

/-! ### Roots that the kernel reckons -/
def rootF : Nat → Int → Int → Int
  | 0, o, _ => o
  | k + 1, o, n => if (o + 2 ^ k) * (o + 2 ^ k) ≤ n then rootF k (o + 2 ^ k) n else rootF k o n
def isqF (n : Int) : Int := rootF 31 0 (max 0 (min n 1152921504606846976))

theorem rootF_eq {r n : Int} (h0 : 0 ≤ r) (h1 : r * r ≤ n) (h2 : n < (r + 1) * (r + 1)) : ∀ (k : Nat) (o : Int), 0 ≤ o → o ≤ r → r < o + 2 ^ k → rootF k o n = r
  | 0, o, ho, h3, h4 => by simp at h4; unfold rootF; omega
  | k + 1, o, ho, h3, h4 => by
    have hp : (0 : Int) < 2 ^ k := Int.pow_pos (by decide)
    rw [Int.pow_succ] at h4
    unfold rootF
    split
    · rename_i hc
      exact rootF_eq h0 h1 h2 k _ (by omega) (sq_inj h0 (by omega)) (by omega)
    · rename_i hc
      refine rootF_eq h0 h1 h2 k _ ho h3 ?_
      rcases Int.lt_or_le r (o + 2 ^ k) with h' | h'
      · exact h'
      · have := sq_mono (a := o + 2 ^ k) (b := r) (by omega) h'
        omega

theorem isqF_eq (n : Int) : isqF n = isq n := by
  obtain ⟨h0, h1, h2⟩ := isq_max n _ rfl
  refine rootF_eq h0 h1 h2 31 0 (by omega) h0 ?_
  have := isq_le n
  have e : ((2 : Int) ^ 31) = 2147483648 := by decide
  have e' : ((2 : Int) ^ 30) = 1073741824 := by decide
  omega

def isqFSp : FSpec := ⟨[I], [I], fun _ => True, fun x => isqF x⟩
theorem isqFSp_eq : isqFSp = isqSp := by
  unfold isqFSp isqSp
  congr 1
  funext x
  exact isqF_eq x
theorem sat_isqrtF : Sat Try.prog 30 isqFSp := isqFSp_eq ▸ sat_isqrt
noncomputable def MC : Ctx := conc Try.prog [(30, isqFSp)] tyV
theorem sanity_nf : fnwp MC 12 11 sanitySp () = (isI64 (34 : Int) ∧ isI64 (100 : Int) ∧ isI64 (900 : Int) ∧ True ∧ isI64 (-30 : Int) ∧ isI64 (4 : Int) ∧ isI64 (34 : Int) ∧ isI64
  (100 : Int) ∧ isI64 (900 : Int) ∧ True ∧ isI64 (30 : Int) ∧ isI64 (64 : Int) ∧ isI64 (16 : Int) ∧ isI64 (34 : Int) ∧ isI64 (13 : Int) ∧ isI64 (16 : Int) ∧ isI64 (144 : Int) ∧
  True ∧ isI64 (12 : Int) ∧ isI64 (25 : Int) ∧ True ∧ True ∧ True ∧ isI64 (16 : Int) ∧ isI64 (34 : Int) ∧ isI64 (34 : Int) ∧ isI64 (36 : Int) ∧ isI64 (900 : Int) ∧ True ∧ isI64
  (-30 : Int) ∧ isI64 (4 : Int) ∧ isI64 (34 : Int) ∧ isI64 (36 : Int) ∧ isI64 (900 : Int) ∧ True ∧ isI64 (30 : Int) ∧ isI64 (64 : Int) ∧ isI64 (5 : Int) ∧ isI64 (8 : Int) ∧ isI64
  (24 : Int) ∧ True ∧ isI64 (-4 : Int) ∧ isI64 (1 : Int) ∧ isI64 (5 : Int) ∧ isI64 (8 : Int) ∧ isI64 (24 : Int) ∧ True ∧ isI64 (4 : Int) ∧ isI64 (9 : Int) ∧ isI64 (34 : Int) ∧
  isI64 (36 : Int) ∧ isI64 (900 : Int) ∧ True ∧ isI64 (-30 : Int) ∧ isI64 (4 : Int) ∧ isI64 (34 : Int) ∧ isI64 (36 : Int) ∧ isI64 (900 : Int) ∧ True ∧ isI64 (30 : Int) ∧ isI64 (64
  : Int) ∧ isI64 (34 : Int) ∧ isI64 (36 : Int) ∧ isI64 (900 : Int) ∧ True ∧ isI64 (-30 : Int) ∧ isI64 (4 : Int) ∧ isI64 (34 : Int) ∧ isI64 (36 : Int) ∧ isI64 (900 : Int) ∧ True ∧
  isI64 (30 : Int) ∧ isI64 (64 : Int) ∧ isI64 (34 : Int) ∧ isI64 (36 : Int) ∧ isI64 (900 : Int) ∧ True ∧ isI64 (-30 : Int) ∧ isI64 (4 : Int) ∧ isI64 (34 : Int) ∧ isI64 (36 : Int) ∧
  isI64 (900 : Int) ∧ True ∧ isI64 (30 : Int) ∧ isI64 (64 : Int) ∧ isI64 (41 : Int) ∧ isI64 (100 : Int) ∧ isI64 (1600 : Int) ∧ True ∧ isI64 (-40 : Int) ∧ isI64 (1 : Int) ∧ isI64
  (20 : Int) ∧ isI64 (40 : Int) ∧ isI64 (400 : Int) ∧ True ∧ isI64 (-20 : Int) ∧ isI64 (0 : Int) ∧ isI64 (41 : Int) ∧ isI64 (100 : Int) ∧ isI64 (1600 : Int) ∧ True ∧ isI64 (40 :
  Int) ∧ isI64 (81 : Int) ∧ isI64 (34 : Int) ∧ isI64 (36 : Int) ∧ isI64 (900 : Int) ∧ True ∧ isI64 (30 : Int) ∧ isI64 (64 : Int) ∧ isI64 (34 : Int) ∧ isI64 (36 : Int) ∧ isI64 (900
  : Int) ∧ True ∧ isI64 (30 : Int) ∧ isI64 (64 : Int) ∧ true = true) := by kernel_rfl
theorem sat_sanity : Sat Try.prog 11 sanitySp :=
  fnwp_sat (C := MC) (conc_sound ⟨sat_isqrtF, trivial⟩) 12 11 sanitySp fun _ _ _ => Eq.mpr sanity_nf (by simp [isI64])
end Go.Proofs.Ytohbapfijafecaa
