import Derived.Test.YtpnfcgkocfjeiaaVi
import Derived.Test.YtpnfcgkocfjeiaaVg
namespace Go.PL
open Go.AM
set_option linter.unusedVariables false
theorem csum_app (a b : List (List Int)) (i : Nat) : csum (a ++ b) i = csum a i + csum b i := by
  unfold csum
  rw [List.map_append, List.sum_append]
theorem turned_eq (l : List (List Int)) {k : Nat} (hk : k ≤ l.length) : List.take (l.length - k) (List.drop k l) ++ List.take (k - 0) (List.drop 0 l) = l.drop k ++ l.take k := by
  rw [List.take_of_length_le (by rw [List.length_drop]; omega)]
  rfl
theorem turned_len (l : List (List Int)) {k : Nat} (hk : k ≤ l.length) : (l.drop k ++ l.take k).length = l.length := by
  rw [List.length_append, List.length_drop, List.length_take]
  omega
theorem turned_sum (l : List (List Int)) (k i : Nat) : csum (l.drop k ++ l.take k) i = csum l i := by
  have e : csum l i = csum (l.take k ++ l.drop k) i := by rw [List.take_append_drop]
  rw [e, csum_app, csum_app]
  omega
theorem turned_mem {l : List (List Int)} {k : Nat} {v : List Int} (h : v ∈ l.drop k ++ l.take k) : v ∈ l := by
  rcases List.mem_append.1 h with h | h
  · exact List.mem_of_mem_drop h
  · exact List.mem_of_mem_take h
theorem rows_len {l : List (List Int)} (h : rows l) {k : Nat} (hk : k < l.length) : (l.getD k []).length = (l.getD 0 []).length := (h.2.2.2 _ (getD_mem l [] hk)).1
theorem turned_head {l : List (List Int)} (h : rows l) {k : Nat} (hk : k < l.length) : ((l.drop k ++ l.take k).getD 0 []).length = (l.getD 0 []).length := by
  have hm : (l.drop k ++ l.take k).getD 0 [] ∈ l.drop k ++ l.take k := getD_mem _ [] (by rw [turned_len l (by omega)]; omega)
  exact (h.2.2.2 _ (turned_mem hm)).1
theorem turned_rows {l : List (List Int)} (h : rows l) {k : Nat} (hk : k < l.length) : rows (l.drop k ++ l.take k) := by
  have e := turned_head h hk
  obtain ⟨h1, h2, h3, h4⟩ := h
  refine ⟨by rw [turned_len l (by omega)]; exact h1, by rw [turned_len l (by omega)]; exact h2, by rw [e]; exact h3, fun v hv => ?_⟩
  rw [e]
  exact h4 v (turned_mem hv)
theorem turned_mean {l : List (List Int)} (h : rows l) {k : Nat} (hk : k < l.length) : meanS l = meanS (l.drop k ++ l.take k) := by
  refine Go.Proofs.Ytpnfcgkocfjeiaa.meanDone ?_ fun i hi => ?_
  · rw [meanS_length, turned_head h hk]
  · rw [turned_head h hk] at hi
    rw [meanS_getD l hi, turned_sum, turned_len l (by omega)]
theorem mean_three (v : List Int) : meanS [v, v, v] = v := by
  refine (Go.Proofs.Ytpnfcgkocfjeiaa.meanDone (o := v) rfl fun i hi => ?_).symm
  unfold csum
  simp only [List.map_cons, List.map_nil, List.sum_cons, List.sum_nil, List.length_cons, List.length_nil]
  omega
theorem csum_ge {l : List (List Int)} {i : Nat} {a : Int} (h : ∀ v ∈ l, a ≤ v.getD i 0) : a * (l.length : Int) ≤ csum l i := by
  induction l with
  | nil => simp [csum]
  | cons v l ih =>
    have h1 := ih (fun w hw => h w (by simp [hw]))
    have h2 := h v (by simp)
    unfold csum at h1 ⊢
    simp only [List.map_cons, List.sum_cons, List.length_cons]
    have e : a * (((l.length + 1 : Nat)) : Int) = a * (l.length : Int) + a := by rw [Int.natCast_add, Int.mul_add]; simp
    omega
theorem csum_le {l : List (List Int)} {i : Nat} {a : Int} (h : ∀ v ∈ l, v.getD i 0 ≤ a) : csum l i ≤ a * (l.length : Int) := by
  induction l with
  | nil => simp [csum]
  | cons v l ih =>
    have h1 := ih (fun w hw => h w (by simp [hw]))
    have h2 := h v (by simp)
    unfold csum at h1 ⊢
    simp only [List.map_cons, List.sum_cons, List.length_cons]
    have e : a * (((l.length + 1 : Nat)) : Int) = a * (l.length : Int) + a := by rw [Int.natCast_add, Int.mul_add]; simp
    omega
theorem mean_ge {l : List (List Int)} {i : Nat} {a : Int} (h1 : 1 ≤ l.length) (hi : i < (l.getD 0 []).length) (h : ∀ v ∈ l, a ≤ v.getD i 0) : a ≤ (meanS l).getD i 0 := by
  rw [meanS_getD l hi]
  exact (Int.le_ediv_iff_mul_le (by omega)).2 (csum_ge h)
theorem mean_le {l : List (List Int)} {i : Nat} {a : Int} (h1 : 1 ≤ l.length) (hi : i < (l.getD 0 []).length) (h : ∀ v ∈ l, v.getD i 0 ≤ a) : (meanS l).getD i 0 ≤ a := by
  rw [meanS_getD l hi]
  have := csum_le h
  have e : csum l i / (l.length : Int) < a + 1 := (Int.ediv_lt_iff_lt_mul (by omega)).2 (by rw [Int.add_mul]; omega)
  omega
theorem at_mem {l : List (List Int)} {v : List Int} (h : v ∈ l) : ∃ k, k < l.length ∧ l.getD k [] = v := by
  obtain ⟨k, hk, rfl⟩ := List.getElem_of_mem h
  exact ⟨k, hk, by rw [List.getD_eq_getElem?_getD, List.getElem?_eq_getElem hk]; rfl⟩
end Go.PL
namespace Go.Proofs.Ytpnfcgkocfjeiaa
open Go.AM Go.PL
set_option linter.unusedVariables false
theorem bytesL24 : Try.prog.bytesOf 22 = 24 := by kernel_rfl
theorem room24 {C : Ctx} {t : TypeId} {n : Nat} (hb : C.P.bytesOf t = 24) (h : n ≤ 1000000) : roomP C t n := by
  unfold roomP
  rw [hb]
  omega
theorem ssVM : SpecSound VM := mkctx_sound ⟨sat_sanity, satV⟩ trivial
theorem allB_iff {l : List (List Int)} {n : Int} : allB l n = true ↔ (∀ v, v ∈ l → alikeB (l.getD 0 []) v = true) ∧ 1 ≤ (l.length : Int) ∧ (l.length : Int) ≤ n := by
  unfold allB
  simp only [Bool.and_eq_true, List.all_eq_true, decide_eq_true_eq]
theorem sat_law5 : Sat Try.prog 7 (lawSp [LL, .int .u8]) := by
  refine sat_nf (C := VM) ssVM (fun x => law5_nf x.1 x.2) fun (⟨l, n⟩ : List (List Int) × Int) hk _ => ?_
  dsimp only
  have hn : 0 ≤ n ∧ n ≤ 255 := has_byte hk.2
  refine ⟨trivial, fun _ => ⟨trivial, rfl⟩, fun ha => ?_⟩
  have ha : allB l 20 = true := by simpa using ha
  have hr := allB_rows (by omega) ha
  obtain ⟨a1, a2, a3⟩ := allB_iff.1 ha
  obtain ⟨r1, r2, r3, r4⟩ := hr
  have ew : IntKind.i64.wrap n = n := by
    unfold IntKind.wrap
    simp [IntKind.bits, IntKind.signed]
    omega
  have em : n.tmod (l.length : Int) = n % (l.length : Int) := Int.tmod_eq_emod_of_nonneg hn.1
  rw [ew, em]
  have k0 := Int.emod_nonneg n (show (l.length : Int) ≠ 0 by omega)
  have k1 := Int.emod_lt_of_pos n (show 0 < (l.length : Int) by omega)
  generalize n % (l.length : Int) = k at k0 k1 ⊢
  have hkl : k.toNat < l.length := by omega
  rw [turned_eq l (by omega)]
  have hmem : ∀ i, i < l.length → alikeB (l.getD 0 []) (l.getD i []) = true := fun i hi => a1 _ (Go.PL.getD_mem l [] hi)
  obtain ⟨v1, v2, v3⟩ := vecB_iff.1 (alike_iff.1 (hmem 0 (by omega))).1
  have hbd : ∀ i v, v ∈ l → -1000 ≤ v.getD i 0 ∧ v.getD i 0 ≤ 1000 := fun i v hv => by
    obtain ⟨w1, w2, w3⟩ := vecB_iff.1 (alike_iff.1 (a1 v hv)).2.1
    rcases Nat.lt_or_ge i v.length with h | h
    · exact w1 _ (Go.PL.getD_mem v 0 h)
    · rw [List.getD_eq_getElem?_getD, List.getElem?_eq_none h]
      simp
  have hal : alikeB (meanS l) (l.getD 0 []) = true := by
    refine alike_iff.2 ⟨vecB_iff.2 ⟨fun x hx => ?_, by rw [meanS_length]; exact v2, by rw [meanS_length]; exact v3⟩, (alike_iff.1 (hmem 0 (by omega))).1, meanS_length l⟩
    obtain ⟨i, hi, rfl⟩ := List.getElem_of_mem hx
    have e : (meanS l)[i] = (meanS l).getD i 0 := by rw [List.getD_eq_getElem?_getD, List.getElem?_eq_getElem hi]; rfl
    rw [meanS_length] at hi
    rw [e]
    exact ⟨mean_ge r1 hi fun v hv => (hbd i v hv).1, mean_le r1 hi fun v hv => (hbd i v hv).2⟩
  have htm := turned_mean ⟨r1, r2, r3, r4⟩ hkl
  have hv3 : rows [l.getD k.toNat [], l.getD k.toNat [], l.getD k.toNat []] := by
    have hv := Go.PL.getD_mem l [] hkl
    refine ⟨by simp, by simp, by show (l.getD k.toNat []).length ≤ 64; rw [(r4 _ hv).1]; exact r3, fun v hm => ?_⟩
    have hm : v = l.getD k.toNat [] := by simpa using hm
    subst hm
    exact ⟨rfl, (r4 _ hv).2⟩
  have kk : 0 ≤ k ∧ k < (l.length : Int) := ⟨k0, k1⟩
  have h00 : (0 : Int) ≤ 0 ∧ (0 : Int) < (l.length : Int) := ⟨Int.le_refl _, by omega⟩
  refine ⟨⟨r1, r2, r3, r4⟩, by omega, ⟨k0, by omega⟩, room24 bytesL24 (by rw [List.length_take, List.length_drop]; omega), ⟨by omega, k0, by omega⟩, room24 bytesL24 (by simp only [List.length_take, List.length_drop]; omega), h00, trivial, fun h => (by rw [hal] at h; cases h), fun _ =>
    ⟨turned_rows ⟨r1, r2, r3, r4⟩ hkl, trivial, fun h => absurd htm (nd_t h), fun _ => ⟨kk, kk, kk, hv3, kk, trivial, fun h => absurd (mean_three _) (nd_t h), fun _ => ?_⟩⟩⟩
  have hml := meanS_length l
  refine ⟨fun x => 0 ≤ x ∧ x ≤ (meanS l).length, fun x => (((meanS l).length : Int) - x).toNat, ⟨by omega, by omega⟩, fun x ⟨x0, x1⟩ => ⟨fun g => ?_, fun g => ⟨trivial, rfl⟩⟩⟩
  have g := of_decide_eq_true g
  refine ⟨h00, ⟨x0, by omega⟩, h00, ⟨x0, by omega⟩, fun y => 0 ≤ y.2.2 ∧ y.2.2 ≤ l.length ∧ ∀ j : Nat, (j : Int) < y.2.2 → y.1 ≤ (l.getD j []).getD x.toNat 0 ∧ (l.getD j []).getD x.toNat 0 ≤ y.2.1, fun y => ((l.length : Int) - y.2.2).toNat,
    ⟨by simp, by simp, fun j hj => by dsimp only at hj; omega⟩, fun ⟨lo, hi, j⟩ ⟨j0, j1, j2⟩ => ⟨fun h => ?_, fun h => ?_⟩⟩
  · dsimp only at j0 j1 j2 h ⊢
    have h := of_decide_eq_true h
    have hjl := (r4 _ (Go.PL.getD_mem l [] (show j.toNat < l.length by omega))).1
    refine ⟨⟨j0, h⟩, ⟨x0, by omega⟩, ⟨x0, by omega⟩, isI64_small (by omega) (by omega), ⟨by omega, by omega, fun i hi => ?_⟩, by omega⟩
    by_cases e : (i : Int) < j
    · have := j2 i e
      omega
    · have e : i = j.toNat := by omega
      subst e
      omega
  · dsimp only at j0 j1 j2 h ⊢
    have h := of_decide_eq_false h
    have hxi : x.toNat < (l.getD 0 []).length := by omega
    have hlo := mean_ge (a := lo) r1 hxi fun v hv => by
      obtain ⟨i, hi, rfl⟩ := at_mem hv
      exact (j2 i (by omega)).1
    have hhi := mean_le (a := hi) r1 hxi fun v hv => by
      obtain ⟨i, hi, rfl⟩ := at_mem hv
      exact (j2 i (by omega)).2
    exact ⟨⟨x0, g⟩, fun c => absurd (of_decide_eq_true c) (by omega), fun _ => ⟨⟨x0, g⟩, fun c => absurd (of_decide_eq_true c) (by omega), fun _ => ⟨isI64_small (by omega) (by omega), ⟨by omega, by omega⟩, by omega⟩⟩⟩
end Go.Proofs.Ytpnfcgkocfjeiaa
