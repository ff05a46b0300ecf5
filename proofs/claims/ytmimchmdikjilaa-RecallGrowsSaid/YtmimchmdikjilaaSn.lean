import Derived.Test.YtmimchmdikjilaaSo
import Derived.Test.YtmimchmdikjilaaSl
import Derived.Test.YtmimchmdikjilaaSk
import Derived.Test.YtmimchmdikjilaaHa
namespace Go.Proofs.Ytmimchmdikjilaa
open Go.AM Go.PL Go.Sort Go.Shelf
set_option linter.unusedVariables false
def encH (h : Hit) : List Value := [.int .i64 h.1, .int .i64 h.2.1, .int .i64 h.2.2.1]
def okH (h : Hit) : Prop := IntKind.i64.has h.1 ∧ IntKind.i64.has h.2.1 ∧ IntKind.i64.has h.2.2.1
instance : Inhabited (Ty.den PT) := ⟨(hit0 : Hit)⟩
theorem readsH (Ψ : Pr) (x : Ty.den PT) (vs : List Value) : reads Ψ PT x vs ↔ vs = encH x ∧ okH x := by
  obtain ⟨a, b, c, u⟩ := x
  constructor
  · rintro ⟨_, _, rfl, ⟨rfl, h1⟩, _, _, rfl, ⟨rfl, h2⟩, _, _, rfl, ⟨rfl, h3⟩, rfl⟩
    exact ⟨rfl, h1, h2, h3⟩
  · rintro ⟨rfl, h1, h2, h3⟩
    exact ⟨_, _, rfl, ⟨rfl, h1⟩, _, _, rfl, ⟨rfl, h2⟩, _, [], rfl, ⟨rfl, h3⟩, rfl⟩
theorem cmpV_eq (a b : Hit) : KYtmimchmdikjilaa.cmpV (a.1, a.2.1, a.2.2.1) (b.1, b.2.1, b.2.2.1) = cmpH a b := by
  unfold KYtmimchmdikjilaa.cmpV KYtmimchmdikjilaa.or3 cmpH sgnS Lib.compareInt
  simp only []
theorem ltH_eq (a b : Hit) : ltH a b = true ↔ a.2.2.1 < b.2.2.1 ∨ (a.2.2.1 = b.2.2.1 ∧ (a.1 < b.1 ∨ (a.1 = b.1 ∧ a.2.1 < b.2.1))) := by
  unfold ltH cmpH sgnS
  simp only [decide_eq_true_eq]
  split <;> split <;> (try split) <;> (try split) <;> (try split) <;> (try split) <;> omega
theorem swoH : SWO (ltOf cmpH) where
  irrefl x := by
    cases h : ltOf cmpH x x
    · rfl
    · have := (ltH_eq x x).1 h; omega
  trans x y z h1 h2 := by
    have h1 := (ltH_eq x y).1 h1
    have h2 := (ltH_eq y z).1 h2
    exact (ltH_eq x z).2 (by omega)
  ntrans x y z h1 h2 := by
    cases h : ltOf cmpH x z
    · rfl
    · have h1 : ¬ _ := fun q => Bool.noConfusion (h1.symm.trans ((ltH_eq x y).2 q))
      have h2 : ¬ _ := fun q => Bool.noConfusion (h2.symm.trans ((ltH_eq y z).2 q))
      have := (ltH_eq x z).1 h
      omega
theorem totH (x y : Hit) (h1 : ltOf cmpH x y = false) (h2 : ltOf cmpH y x = false) : x = y := by
  have h1 : ¬ _ := fun q => Bool.noConfusion (h1.symm.trans ((ltH_eq x y).2 q))
  have h2 : ¬ _ := fun q => Bool.noConfusion (h2.symm.trans ((ltH_eq y x).2 q))
  obtain ⟨a, b, c, u⟩ := x
  obtain ⟨a', b', c', u'⟩ := y
  simp only at h1 h2
  have : a = a' ∧ b = b' ∧ c = c' := by omega
  obtain ⟨rfl, rfl, rfl⟩ := this
  rfl
def sortH (xs : List Hit) : List Hit := xs.mergeSort fun x y => !(ltH y x)
def sortHSp : SSpec := ⟨37, PT, 65, fun xs => sortH xs⟩
theorem satS_hits : SatS bs.P 64 sortHSp :=
  satS_of Try.sortHits 37 PT encH okH readsH 3 (fun _ => rfl) rfl (fun x v hv => by simp [encH] at hv; rcases hv with rfl | rfl | rfl <;> rfl) Try.isAgg37 Try.sizeOf37 cmpH swoH totH
    65 (enters_of Try.func65 (by kernel_rfl) rfl) (fun x y W => by rw [← cmpV_eq]; exact KYtmimchmdikjilaa.hits _ _ W)
end Go.Proofs.Ytmimchmdikjilaa
