import Derived.Test.YtmimchmdikjilaaSo
import Derived.Test.YtmimchmdikjilaaSl
import Derived.Test.YtmimchmdikjilaaSk
import Derived.Test.YtmimchmdikjilaaOc
namespace Go.Proofs
open Go.Sort Go.Lib
/-! ### The walk of the order of rests (kit) -/
def KYtmimchmdikjilaa.or2 (a b : Int) : Int := if a ≠ 0 then a else b
set_option maxHeartbeats 2000000 in
theorem KYtmimchmdikjilaa.orB (g : Nat) (a b : Int) (w : World) (h0 : w.cell? ⟨g, 0, none⟩ = some (.int .i64 a)) (h1 : w.cell? ⟨g, 1, none⟩ = some (.int .i64 b)) :
    Calls Try.prog 56 #[.slice (some ⟨g, 0, none⟩) 2 2] w fun e w' => e = .returned (.int .i64 (KYtmimchmdikjilaa.or2 a b)) ∧ w' = w := by
  go_enter Try.func56, Try.ntmps56
  go_wp2
  go_rounds 3
  all_goals try (go_ret; refine ⟨?_, rfl⟩; simp_all [KYtmimchmdikjilaa.or2])
def KYtmimchmdikjilaa.cmpRV (a b : Int × Int) : Int := KYtmimchmdikjilaa.or2 (Lib.compareInt a.1 b.1) (Lib.compareInt a.2 b.2)
attribute [local go_sem ↓] Go.wp_at_zero Go.wp_at_succ
set_option maxHeartbeats 4000000 in
theorem KYtmimchmdikjilaa.order (a b : Int × Int) (w : World) :
    Calls Try.prog 36 #[.agg #[.int .i64 a.1, .int .i64 a.2], .agg #[.int .i64 b.1, .int .i64 b.2]] w fun e w' => e = .returned (.int .i64 (KYtmimchmdikjilaa.cmpRV a b)) ∧ ∃ q os', w' = grow (w.drewN q) os' := by
  obtain ⟨a0, a1⟩ := a
  obtain ⟨b0, b1⟩ := b
  have hcmp := KYtmimchmdikjilaa.compare
  have hor := KYtmimchmdikjilaa.orB
  unfold KYtmimchmdikjilaa.cmpRV
  dsimp only
  generalize Lib.compareInt = cf at hcmp ⊢
  go_enter Try.func36, Try.ntmps36
  go_wp2
  go_region_held3 (fun w' => w'.cell? ⟨w.heap.size, 0, none⟩ = some (.int .i64 a0) ∧ w'.cell? ⟨w.heap.size, 1, none⟩ = some (.int .i64 a1) ∧
      w'.cell? ⟨w.heap.size + 1, 0, none⟩ = some (.int .i64 b0) ∧ w'.cell? ⟨w.heap.size + 1, 1, none⟩ = some (.int .i64 b1)) (go_keep)
    (first
      | (go_at_call 57; refine (hcmp _ _ _).mono ?_; rintro e w' ⟨rfl, rfl⟩)
      | (go_at_call 56; refine (hor _ _ _ _ (KYtmimchmdikjilaa.cellNew _ _ _ _ _ _ (by simp) rfl) (KYtmimchmdikjilaa.cellNew _ _ _ _ _ _ (by simp) rfl)).mono ?_; rintro e w' ⟨rfl, rfl⟩))
  go_wp2
  go_ret
  exact ⟨rfl, 1, _, by rw [alloc_eq_grow, alloc_eq_grow, alloc_eq_grow, grow_grow, grow_grow]; rfl⟩
end Go.Proofs
namespace Go.Proofs.Ytmimchmdikjilaa
open Go.AM Go.PL Go.Sort Go.Shelf
set_option linter.unusedVariables false
def encQ (h : Rst) : List Value := [.int .i64 h.1, .int .i64 h.2.1]
def okQ (h : Rst) : Prop := IntKind.i64.has h.1 ∧ IntKind.i64.has h.2.1
instance : Inhabited (Ty.den RTy) := ⟨(rest0 : Rst)⟩
theorem readsQ (Ψ : Pr) (x : Ty.den RTy) (vs : List Value) : reads Ψ RTy x vs ↔ vs = encQ x ∧ okQ x := by
  obtain ⟨a, b, u⟩ := x
  constructor
  · rintro ⟨_, _, rfl, ⟨rfl, h1⟩, _, _, rfl, ⟨rfl, h2⟩, rfl⟩
    exact ⟨rfl, h1, h2⟩
  · rintro ⟨rfl, h1, h2⟩
    exact ⟨_, _, rfl, ⟨rfl, h1⟩, _, [], rfl, ⟨rfl, h2⟩, rfl⟩
theorem cmpRV_eq (a b : Rst) : KYtmimchmdikjilaa.cmpRV (a.1, a.2.1) (b.1, b.2.1) = cmpR a b := by
  unfold KYtmimchmdikjilaa.cmpRV KYtmimchmdikjilaa.or2 cmpR sgnS Lib.compareInt
  simp only []
theorem swoR : SWO (ltOf cmpR) where
  irrefl x := by
    cases h : ltOf cmpR x x
    · rfl
    · have := (ltR_eq x x).1 h; omega
  trans x y z h1 h2 := by
    have h1 := (ltR_eq x y).1 h1
    have h2 := (ltR_eq y z).1 h2
    exact (ltR_eq x z).2 (by omega)
  ntrans x y z h1 h2 := by
    have h1 := (ltR_no x y).1 h1
    have h2 := (ltR_no y z).1 h2
    exact (ltR_no x z).2 (by omega)
theorem totR (x y : Rst) (h1 : ltOf cmpR x y = false) (h2 : ltOf cmpR y x = false) : x = y := by
  have h1 := (ltR_no x y).1 h1
  have h2 := (ltR_no y x).1 h2
  obtain ⟨a, b, u⟩ := x
  obtain ⟨a', b', u'⟩ := y
  simp only at h1 h2
  have : a = a' ∧ b = b' := by omega
  obtain ⟨rfl, rfl⟩ := this
  rfl
/-! the sorted one, by putting one after the other -/
theorem putR_perm (l : List Rst) (x : Rst) : (putR l x).Perm (x :: l) := by
  induction l with
  | nil => exact .refl _
  | cons y l ih =>
    unfold putR
    split
    · exact .refl _
    · exact (ih.cons y).trans (.swap x y l)
theorem putR_asc {l : List Rst} (h : ascL l) (x : Rst) : ascL (putR l x) := by
  unfold ascL at *
  induction l with
  | nil => simp [putR]
  | cons y l ih =>
    obtain ⟨h1, h2⟩ := List.pairwise_cons.1 h
    unfold putR
    split
    · rename_i hc
      refine List.pairwise_cons.2 ⟨fun z hz => ?_, h⟩
      rcases List.mem_cons.1 hz with e | e
      · subst e
        have := (ltR_eq _ _).1 hc
        exact (ltR_no _ _).2 (by omega)
      · have a1 := (ltR_no _ _).1 (h1 z e)
        have a2 := (ltR_eq _ _).1 hc
        exact (ltR_no _ _).2 (by omega)
    · rename_i hc
      refine List.pairwise_cons.2 ⟨fun z hz => ?_, ih h2⟩
      rcases List.mem_cons.1 ((putR_perm l x).mem_iff.1 hz) with e | e
      · rw [e]; exact eq_no hc
      · exact h1 z e
theorem foldR_perm (l : List Rst) : ∀ s : List Rst, (l.foldl putR s).Perm (s ++ l) := by
  induction l with
  | nil => intro s; simp
  | cons x l ih =>
    intro s
    rw [List.foldl_cons]
    exact (ih _).trans (((putR_perm s x).append_right l).trans (by
      rw [List.cons_append]
      exact List.perm_middle.symm))
theorem foldR_asc (l : List Rst) : ∀ {s : List Rst}, ascL s → ascL (l.foldl putR s) := by
  induction l with
  | nil => intro s h; exact h
  | cons x l ih => intro s h; exact ih (putR_asc h x)
theorem sortR_perm (l : List Rst) : (sortR l).Perm l := foldR_perm l []
theorem sortR_asc (l : List Rst) : ascL (sortR l) := foldR_asc l List.Pairwise.nil
theorem asc_eq {a b : List Rst} (ha : ascL a) (hb : ascL b) (h : a.Perm b) : a = b :=
  h.eq_of_pairwise (le := fun x y => ltQ y x = false) (fun x y _ _ h1 h2 => totR x y h2 h1) ha hb
theorem sortR_is {a b : List Rst} (ha : ascL a) (h : a.Perm b) : a = sortR b := asc_eq ha (sortR_asc b) (h.trans (sortR_perm b).symm)
theorem merge_sortR (xs : List Rst) : (xs.mergeSort fun x y => !(ltOf cmpR) y x) = sortR xs := by
  refine sortR_is ?_ (List.mergeSort_perm _ _)
  have h1 : (xs.mergeSort fun x y => !(ltOf cmpR) y x).Pairwise (fun a b => (!(ltOf cmpR b a)) = true) := List.pairwise_mergeSort (fun a b c hab hbc => by
      have hab : ltOf cmpR b a = false := by simpa using hab
      have hbc : ltOf cmpR c b = false := by simpa using hbc
      have := swoR.ntrans c b a hbc hab
      simpa using this) (fun a b => by
      cases h : ltOf cmpR b a
      · simp
      · have := (ltR_eq b a).1 h
        have : ltOf cmpR a b = false := (ltR_no a b).2 (by omega)
        simp [this]) _
  exact h1.imp fun {a b} hab => by
    have hab : ltOf cmpR b a = false := by simpa using hab
    exact hab
def sortRSp : SSpec := ⟨44, RTy, 36, fun xs => sortR xs⟩
theorem satS_rests : SatS bs.P 40 sortRSp := by
  have h := satS_of Try.sortRests 44 RTy encQ okQ readsQ 2 (fun _ => rfl) rfl (fun x v hv => by simp [encQ] at hv; rcases hv with rfl | rfl <;> rfl) Try.isAgg44 Try.sizeOf44 cmpR swoR totR
    36 (enters_of Try.func36 (by kernel_rfl) rfl) (fun x y W => by rw [← cmpRV_eq]; exact KYtmimchmdikjilaa.order _ _ W)
  have e : (fun xs : List Rst => xs.mergeSort fun x y => !(ltOf cmpR) y x) = fun xs => sortR xs := funext merge_sortR
  rw [e] at h
  exact h
end Go.Proofs.Ytmimchmdikjilaa
