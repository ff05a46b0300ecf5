import Derived.Test.YtmimchmdikjilaaHc
namespace Go.Proofs.Ytmimchmdikjilaa
open Go.AM Go.PL Go.Sort
set_option linter.unusedVariables false
/-! ### Contracts of the first functions -/
theorem ssH0V : SpecSound V0 := mkctx_sound trivial trivial
theorem bytesH : bs.P.bytesOf 37 = 24 := by kernel_rfl
theorem roomH {C : Ctx} (hC : C.P = bs.P) {n : Nat} (h : n ≤ 5864062014805) : roomP C 37 n := by
  unfold roomP
  rw [hC, bytesH]
  omega
theorem hitEta (a : Hit) : ((a.1, a.2.1, a.2.2.1, ()) : Hit) = a := rfl
theorem sat_cmp1 : Sat bs.P 57 cmp1Sp := by
  refine sat_nf (C := V0) ssH0V (fun x => cmp1_nf x.1 x.2) fun (⟨a, b⟩ : Int × Int) hk _ => ?_
  try dsimp only
  refine ⟨fun h => by simp at h, fun _ => ⟨fun h => by simp at h, fun _ => ⟨fun h => ?_, fun h => ⟨fun h' => ?_, fun h' => ?_⟩⟩⟩⟩ <;> unfold sgnS
  · rw [if_pos (of_decide_eq_true h)]
  · rw [if_neg (of_decide_eq_false h), if_pos (of_decide_eq_true h')]
  · rw [if_neg (of_decide_eq_false h), if_neg (of_decide_eq_false h')]
theorem satH0 : AllSat bs.P tH0 := ⟨sat_cmp1, trivial⟩
theorem ssH0 : SpecSound H0 := mkctx_sound satH0 trivial
theorem sat_cmpH : Sat bs.P 65 cmpHSp := by
  refine sat_nf (C := H0) ssH0 (fun x => cmpH_nf x.1 x.2) fun (⟨a, b⟩ : Hit × Hit) hk _ => ?_
  try dsimp only
  simp only [List.getD_cons_zero, List.getD_cons_succ, List.length_cons, List.length_nil]
  refine ⟨trivial, trivial, trivial, by omega, fun h => ?_, fun h => ⟨i64s (by omega) (by omega), by omega, fun h' => ?_, fun h' => ⟨i64s (by omega) (by omega), by omega, fun h2 => ?_, fun h2 => ⟨i64s (by omega) (by omega), ?_⟩⟩⟩⟩ <;> unfold cmpH
  · rw [if_pos (ndt h)]
  · rw [if_neg (by simpa using h), if_pos (ndt h')]
  · rw [if_neg (by simpa using h), if_neg (by simpa using h')]
  · rw [if_neg (by simpa using h), if_neg (by simpa using h')]; exact (ndf h2).symm
theorem sat_idH : Sat bs.P 66 idHSp := sat_nf (C := H0) ssH0 idH_nf fun _ _ _ => rfl
theorem sat_right : Sat bs.P 53 rightHSp := by
  refine sat_nf (C := H0) ssH0 rightH_nf fun (a : Hit) hk _ => ?_
  unfold rightH
  refine ⟨fun h => ⟨fun h2 => ⟨fun h3 => ⟨fun h4 => ⟨fun h5 => ?_, fun h5 => ?_⟩, fun h4 => ?_⟩, fun h3 => ?_⟩, fun h2 => ?_⟩, fun h => ?_⟩ <;> simp [*]
theorem satH1 : AllSat bs.P tH1 := ⟨sat_cmpH, sat_idH, satH0⟩
theorem ssH1 : SpecSound H1 := mkctx_sound satH1 trivial
theorem sat_less : Sat bs.P 54 lessHSp := sat_nf (C := H1) ssH1 (fun x => lessH_nf x.1 x.2) fun _ _ _ => ⟨trivial, rfl⟩
theorem satH2 : AllSat bs.P tH2 := ⟨sat_right, sat_less, satH1⟩
theorem ssH2 : SpecSound H2 := mkctx_sound satH2 trivial
/-! maps -/
theorem mget_mput {α : Type} (n k : Int) (x : α) : ∀ (m : List (Int × α)), mget (mput m n x) k = if n = k then some x else mget m k
  | [] => by
    unfold mput mget
    by_cases h : n = k <;> simp [h, mget]
  | p :: m => by
    unfold mput
    by_cases h : p.1 = n
    · rw [if_pos h]
      unfold mget
      by_cases h' : n = k
      · simp [h']
      · simp [h', h]
    · rw [if_neg h]
      unfold mget
      rw [mget_mput n k x m]
      by_cases h' : n = k
      · simp [h', show ¬ p.1 = k by rw [← h']; exact h]
      · simp [h']
theorem hasH_step (l : List Hit) {i : Int} (h0 : 0 ≤ i) (h1 : i < l.length) (id : Int) : hasH (l.take (i + 1).toNat) id = (decide ((l.getD i.toNat hit0).1 = id) || hasH (l.take i.toNat) id) := by
  apply bool_is
  rw [take_step l hit0 h0 h1, hasH_iff, Bool.or_eq_true, hasH_iff, decide_eq_true_eq]
  constructor
  · rintro ⟨h, hm, e⟩
    rcases List.mem_append.1 hm with h2 | h2
    · exact .inr ⟨h, h2, e⟩
    · have h2 : h = l.getD i.toNat hit0 := by simpa using h2
      subst h2
      exact .inl e
  · rintro (e | ⟨h, hm, e⟩)
    · exact ⟨_, by simp, e⟩
    · exact ⟨h, by simp [hm], e⟩
/-- What is asked of one hit of a list. -/
def stepV (l : List Hit) (i : Nat) : Bool := rightH (l.getD i hit0) && ((decide (i = 0) || ltH (l.getD (i - 1) hit0) (l.getD i hit0)) && !hasH (l.take i) (l.getD i hit0).1)
theorem validH_no {l : List Hit} {k : Int} {i : Nat} (hi : i < l.length) (h : stepV l i = false) : false = validH l k := by
  unfold validH
  have : upto l.length (fun i => stepV l i) = false := by
    cases hu : upto l.length (fun i => stepV l i)
    · rfl
    · have := upto_iff.1 hu i hi
      rw [h] at this; cases this
  unfold stepV at this
  rw [this, Bool.and_false]
theorem sat_validH : Sat bs.P 33 validHSp := by
  refine sat_nf (C := H2) ssH2 (fun x => validH_nf x.1 x.2) fun (⟨l, k⟩ : List Hit × Int) hk _ => ?_
  try dsimp only
  have hm : l.length ≤ 9223372036854775807 := hk.1.1
  simp only [hitEta, show (((0 : Int), (0 : Int), (0 : Int), ()) : Hit) = hit0 from rfl]
  refine ⟨fun h => ?_, fun h => ⟨fun h' => ?_, fun h' => ⟨fun h2 => ?_, fun h2 => ?_⟩⟩⟩
  · unfold validH; rw [decide_eq_false (show ¬ 1 ≤ k by have := dt h; omega)]; rfl
  · unfold validH; rw [decide_eq_false (show ¬ k ≤ 64 by have := dt h'; omega)]; simp
  · unfold validH; rw [decide_eq_false (show ¬ (l.length : Int) ≤ k by have := dt h2; omega)]; simp
  · have h := df h; have h' := df h'; have h2 := df h2
    refine ⟨fun x => 0 ≤ x.1 ∧ x.1 ≤ l.length ∧ (∀ i, i < x.1.toNat → stepV l i = true) ∧ ∀ id, (mget x.2 id).getD false = hasH (l.take x.1.toNat) id, fun x => (l.length - x.1).toNat, ⟨by omega, by omega, by simp, fun id => rfl⟩, ?_⟩
    rintro ⟨i, m⟩ ⟨h0, h1, hs, hg⟩
    dsimp only at h0 h1 hs hg ⊢
    have hnext : i < l.length → stepV l i.toNat = true → isI64 (i + 1) ∧ (0 ≤ i + 1 ∧ i + 1 ≤ l.length ∧ (∀ j, j < (i + 1).toNat → stepV l j = true) ∧ ∀ id, (mget (mput m (l.getD i.toNat hit0).1 true) id).getD false = hasH (l.take (i + 1).toNat) id) ∧ (l.length - (i + 1)).toNat < (l.length - i).toNat := fun hlt hst => by
      refine ⟨i64_lt h0 hlt hm, ⟨by omega, by omega, fun j hj => ?_, fun id => ?_⟩, by omega⟩
      · by_cases e : j = i.toNat
        · subst e; exact hst
        · exact hs j (by omega)
      · rw [mget_mput, hasH_step l h0 hlt]
        by_cases e : (l.getD i.toNat hit0).1 = id
        · rw [if_pos e, decide_eq_true e]; rfl
        · rw [if_neg e, hg id, decide_eq_false e, Bool.false_or]
    refine ⟨fun hlt => ?_, fun hlt => ?_⟩
    · have hlt := dt hlt
      have hin : i.toNat < l.length := by omega
      rw [hg]
      refine ⟨⟨h0, hlt⟩, trivial, fun hr => ?_, fun hr => ⟨fun hp => ⟨i64s (by omega) (by omega), ⟨by have := dt hp; omega, by omega⟩, trivial, fun hl => ?_, fun hl => ⟨fun hh => ?_, fun hh => ?_⟩⟩, fun hp => ⟨fun hh => ?_, fun hh => ?_⟩⟩⟩
      · exact validH_no hin (by unfold stepV; rw [nt hr]; rfl)
      · have hp := dt hp
        refine validH_no hin (by
          unfold stepV
          rw [decide_eq_false (by omega), show i.toNat - 1 = (i - 1).toNat by omega, nt hl]; simp)
      · exact validH_no hin (by unfold stepV; rw [hh]; simp)
      · have hp := dt hp
        exact hnext hlt (by unfold stepV; rw [nf hr, hh, show i.toNat - 1 = (i - 1).toNat by omega, nf hl]; simp)
      · exact validH_no hin (by unfold stepV; rw [hh]; simp)
      · have hp := df hp
        exact hnext hlt (by unfold stepV; rw [nf hr, hh, decide_eq_true (show i.toNat = 0 by omega)]; simp)
    · have hlt := df hlt
      have hu : upto l.length (fun i => stepV l i) = true := upto_iff.2 fun j hj => hs j (by omega)
      unfold stepV at hu
      unfold validH
      rw [hu, decide_eq_true (show 1 ≤ k by omega), decide_eq_true (show k ≤ 64 by omega), decide_eq_true (show (l.length : Int) ≤ k by omega)]
      rfl
end Go.Proofs.Ytmimchmdikjilaa
