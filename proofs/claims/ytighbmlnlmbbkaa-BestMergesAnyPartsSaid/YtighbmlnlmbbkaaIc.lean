import Derived.Test.YtighbmlnlmbbkaaHr
namespace Go.Proofs.Ytighbmlnlmbbkaa
open Go.AM Go.PL
set_option linter.unusedVariables false
def loops3 (f : FuncId) (r : Nat) : List LA :=
  if Nat.beq f 5 then [.slot 36 I, .slot 9 HL, .slot 10 HL, .gcell 0 0 27 HT, .gcell 0 1 27 HT, .gcell 0 2 27 HT, .gcell 0 3 27 HT] else
  []
def hint3 (f : FuncId) : Hint := ⟨loops3 f, fun r => bif Nat.beq f 5 && Nat.beq r 12 then .all else bif Nat.beq f 5 && Nat.beq r 21 then .yes else .split, fun _ => .split,
  fun r => bif Nat.beq f 5 then (bif Nat.beq r 12 then 3212 else bif Nat.beq r 15 then 501 else bif Nat.beq r 17 then 10 else 0) else 0⟩
noncomputable def HL3 : Ctx := mkctx bs tHL [] hint3
theorem ssHL3 : SpecSound HL3 := mkctx_sound satHL trivial
/-! the plain law -/
theorem ofH_full {a b U T : List Hit} {k : Nat} (hT : IsOf a k T) (hU : IsOf (T ++ b) k U) (hl : T.length = k) {u : Hit} (hu : u ∈ U) (h : ∀ s ∈ T, ltH s u = true) : False := by
  have hids := ids_of hT.sorted fun x hx y hy e => hT.one hx hy e
  have hn : (u.1 :: T.map Prod.fst).Nodup := List.nodup_cons.2 ⟨fun hm => by
    obtain ⟨s, hs, e⟩ := List.mem_map.1 hm
    have := (hU.rep u hu).2 s (List.mem_append_left _ hs) e
    rw [h s hs] at this
    exact Bool.noConfusion this, hids⟩
  have := nodup_len (U := U.map Prod.fst) hn fun id hid => by
    rcases List.mem_cons.1 hid with e | e
    · rw [e]; exact List.mem_map.2 ⟨u, hu, rfl⟩
    · obtain ⟨s, hs, rfl⟩ := List.mem_map.1 e
      rcases hU.all s (List.mem_append_left _ hs) with ⟨t, h1, h2⟩ | ⟨_, h2⟩
      · exact List.mem_map.2 ⟨t, h1, h2⟩
      · have := h2 u hu
        rw [ltAs (h s hs)] at this
        cases this
  have h5 := hU.len
  simp only [List.length_cons, List.length_map] at this
  omega
theorem isOf_left {a b U T : List Hit} {k : Nat} (hT : IsOf a k T) (hU : IsOf (T ++ b) k U) : IsOf (a ++ b) k U := by
  refine ⟨hU.sorted, fun t ht => ⟨?_, fun x hx e => ?_⟩, hU.len, fun x hx => ?_⟩
  · rcases List.mem_append.1 (hU.rep t ht).1 with h1 | h1
    · exact List.mem_append_left _ (hT.rep t h1).1
    · exact List.mem_append_right _ h1
  · rcases List.mem_append.1 hx with h1 | h1
    · rcases hT.all x h1 with ⟨s, h2, h3⟩ | ⟨h2, h3⟩
      · exact ltN ((hT.rep s h2).2 x h1 h3.symm) ((hU.rep t ht).2 s (List.mem_append_left _ h2) (h3.trans e))
      · cases hc : ltH x t
        · rfl
        · exact (ofH_full hT hU h2 ht fun s hs => ltTr (h3 s hs) hc).elim
    · exact (hU.rep t ht).2 x (List.mem_append_right _ h1) e
  · rcases List.mem_append.1 hx with h1 | h1
    · rcases hT.all x h1 with ⟨s, h2, h3⟩ | ⟨h2, h3⟩
      · rcases hU.all s (List.mem_append_left _ h2) with ⟨t, h4, h5⟩ | ⟨h4, h5⟩
        · exact .inl ⟨t, h4, h5.trans h3⟩
        · exact .inr ⟨h4, fun t ht => ltL (h5 t ht) ((hT.rep s h2).2 x h1 h3.symm)⟩
      · refine .inr ⟨?_, fun t ht => ?_⟩
        · have h9 := hU.len
          by_cases hr : ∀ s ∈ T, ∃ t ∈ U, t.1 = s.1
          · have hids := ids_of hT.sorted fun x hx y hy e => hT.one hx hy e
            have := nodup_len (U := U.map Prod.fst) hids fun id hid => by
              obtain ⟨s, hs, rfl⟩ := List.mem_map.1 hid
              obtain ⟨t, ht, e⟩ := hr s hs
              exact List.mem_map.2 ⟨t, ht, e⟩
            simp only [List.length_map] at this
            omega
          · simp only [Classical.not_forall, not_exists, not_and] at hr
            obtain ⟨s, hs, h4⟩ := hr
            rcases hU.all s (List.mem_append_left _ hs) with ⟨t, h5, h6⟩ | ⟨h5, _⟩
            · exact absurd h6 (h4 t h5)
            · exact h5
        · cases hc : ltH t x
          · exact (ofH_full hT hU h2 ht fun s hs => ltL (h3 s hs) hc).elim
          · rfl
    · exact hU.all x (List.mem_append_right _ h1)
theorem ofH_left (a b : List Hit) (k : Int) : ofH (ofH a k ++ b) k = ofH (a ++ b) k := ofH_is (isOf_left (isOf_ofH a k) (isOf_ofH _ k))
theorem ofH_right (a b : List Hit) (k : Int) : ofH (b ++ ofH a k) k = ofH (b ++ a) k := by
  rw [ofH_congr (m := ofH a k ++ b) k fun x => by simp [or_comm], ofH_left]
  exact ofH_congr k fun x => by simp [or_comm]
structure I3 (l : List Hit) (k : Int) (i : Int) (put turned p0 p1 p2 p3 : List Hit) : Prop where
  lo : 0 ≤ i
  hi : i ≤ l.length
  put : put = ofH (l.take i.toNat) k
  turned : turned = ofH (l.drop (l.length - i).toNat) k
  parts : ∀ x, (x ∈ p0 ∨ x ∈ p1 ∨ x ∈ p2 ∨ x ∈ p3) ↔ x ∈ l.take i.toNat
  n0 : p0.length ≤ 40 ∧ (p0.length : Int) ≤ i
  n1 : p1.length ≤ 40 ∧ (p1.length : Int) ≤ i
  n2 : p2.length ≤ 40 ∧ (p2.length : Int) ≤ i
  n3 : p3.length ≤ 40 ∧ (p3.length : Int) ≤ i
theorem drop_last (l : List Hit) {i : Int} (h0 : 0 ≤ i) (h1 : i < l.length) : l.drop (l.length - (i + 1)).toNat = l.getD (l.length - 1 - i).toNat hit0 :: l.drop (l.length - i).toNat := by
  have := drop_step l hit0 (i := l.length - 1 - i) (by omega) (by omega)
  rw [show (l.length - (i + 1)).toNat = (l.length - 1 - i).toNat by omega, this, show (l.length - 1 - i + 1).toNat = (l.length - i).toNat by omega]
section
variable {l : List Hit} {k i : Int} {put turned p0 p1 p2 p3 : List Hit}
theorem I3.step (h : I3 l k i put turned p0 p1 p2 p3) (hlt : i < l.length) (hl : l.length ≤ 40) {q0 q1 q2 q3 : List Hit}
    (hq : ∀ x, (x ∈ q0 ∨ x ∈ q1 ∨ x ∈ q2 ∨ x ∈ q3) ↔ ((x ∈ p0 ∨ x ∈ p1 ∨ x ∈ p2 ∨ x ∈ p3) ∨ x = l.getD i.toNat hit0)) (hn : q0.length ≤ p0.length + 1 ∧ q1.length ≤ p1.length + 1 ∧ q2.length ≤ p2.length + 1 ∧ q3.length ≤ p3.length + 1) :
    I3 l k (i + 1) (ofH (put ++ [l.getD i.toNat hit0]) k) (ofH (turned ++ [l.getD (l.length - 1 - i).toNat hit0]) k) q0 q1 q2 q3 := by
  have h0 := h.lo
  have a0 := h.n0; have a1 := h.n1; have a2 := h.n2; have a3 := h.n3
  refine ⟨by omega, by omega, ?_, ?_, fun x => ?_, by omega, by omega, by omega, by omega⟩
  · rw [h.put, ofH_left, take_step l hit0 h0 hlt]
  · rw [h.turned, ofH_left, drop_last l h0 hlt]
    exact ofH_congr k fun x => by simp [or_comm]
  · rw [hq, h.parts, take_step l hit0 h0 hlt]
    simp
end
theorem ofH_empty (k : Int) : ofH [] k = [] := by
  have := isOf_len (isOf_ofH [] k)
  simpa using this
theorem len64 (a : List Hit) {k : Int} (hk : k ≤ 64) : (ofH a k).length ≤ 64 := by
  have := (isOf_ofH a k).len
  omega
theorem l3_nf (l : List Hit) (k : Int) (part : List Int) : fnwp HL3 6 5 (lawSp [HL, I, BY]) (l, k, part) = ((decide ((40 : Int) < (↑l.length : Int)) = true → True ∧ true = true) ∧
  (decide ((40 : Int) < (↑l.length : Int)) = false → True ∧ ((!allRightH l) = true → True ∧ true = true) ∧ ((!allRightH l) = false → True ∧ ((!kH k) = true → True ∧ true = true) ∧
  ((!kH k) = false → (l.length ≤ (100000 : Nat) ∧ (0 : Int) ≤ k) ∧ ∃ (I : Int × List (Int × Int × Int × PUnit) × List (Int × Int × Int × PUnit) × List (Int × Int × Int × PUnit) ×
  List (Int × Int × Int × PUnit) × List (Int × Int × Int × PUnit) × List (Int × Int × Int × PUnit) → Prop), ∃ (μ : Int × List (Int × Int × Int × PUnit) × List (Int × Int × Int ×
  PUnit) × List (Int × Int × Int × PUnit) × List (Int × Int × Int × PUnit) × List (Int × Int × Int × PUnit) × List (Int × Int × Int × PUnit) → Nat), I ((0 : Int), [], [], [], [],
  [], []) ∧ ∀ (x : Int × List (Int × Int × Int × PUnit) × List (Int × Int × Int × PUnit) × List (Int × Int × Int × PUnit) × List (Int × Int × Int × PUnit) × List (Int × Int × Int ×
  PUnit) × List (Int × Int × Int × PUnit)), I x → (decide (x.fst < (↑l.length : Int)) = true → ((0 : Int) ≤ x.fst ∧ x.fst < (↑l.length : Int)) ∧ (decide ((0 : Int) < (↑part.length
  : Int)) = true → (↑part.length : Int) ≠ (0 : Int) ∧ ((0 : Int) ≤ x.fst.tmod (↑part.length : Int) ∧ x.fst.tmod (↑part.length : Int) < (↑part.length : Int)) ∧ (4 : Int) ≠ (0 : Int)
  ∧ ((0 : Int) ≤ (IntKind.i64.wrap (part.getD (x.fst.tmod (↑part.length : Int)).toNat (0 : Int))).tmod (4 : Int) ∧ (IntKind.i64.wrap (part.getD (x.fst.tmod (↑part.length :
  Int)).toNat (0 : Int))).tmod (4 : Int) < (4 : Int)) ∧ ((IntKind.i64.wrap (part.getD (x.fst.tmod (↑part.length : Int)).toNat (0 : Int))).tmod (4 : Int) = (3 : Int) → (((0 : Int) ≤
  (3 : Int) ∧ (3 : Int) < (4 : Int)) ∧ (roomP HL3 (27 : Nat) (x.snd.snd.snd.snd.snd.snd.length + [((l.getD x.fst.toNat ((0 : Int), (0 : Int), (0 : Int), ())).fst, (l.getD
  x.fst.toNat ((0 : Int), (0 : Int), (0 : Int), ())).snd.fst, (l.getD x.fst.toNat ((0 : Int), (0 : Int), (0 : Int), ())).snd.snd.fst, ())].length) ∧ ((0 : Int) ≤ (3 : Int) ∧ (3 :
  Int) < (4 : Int)) ∧ (x.snd.fst.length ≤ (900 : Nat) ∧ (0 : Int) ≤ k) ∧ isI64 ((↑l.length : Int) - (1 : Int)) ∧ isI64 ((↑l.length : Int) - (1 : Int) - x.fst) ∧ ((0 : Int) ≤
  (↑l.length : Int) - (1 : Int) - x.fst ∧ (↑l.length : Int) - (1 : Int) - x.fst < (↑l.length : Int)) ∧ (x.snd.snd.fst.length ≤ (900 : Nat) ∧ (0 : Int) ≤ k) ∧ isI64 (x.fst + (1 :
  Int)) ∧ I (x.fst + (1 : Int), ofH (x.snd.fst ++ [((l.getD x.fst.toNat ((0 : Int), (0 : Int), (0 : Int), ())).fst, (l.getD x.fst.toNat ((0 : Int), (0 : Int), (0 : Int),
  ())).snd.fst, (l.getD x.fst.toNat ((0 : Int), (0 : Int), (0 : Int), ())).snd.snd.fst, ())]) k, ofH (x.snd.snd.fst ++ [l.getD ((↑l.length : Int) - (1 : Int) - x.fst).toNat ((0 :
  Int), (0 : Int), (0 : Int), ())]) k, x.snd.snd.snd.fst, x.snd.snd.snd.snd.fst, x.snd.snd.snd.snd.snd.fst, x.snd.snd.snd.snd.snd.snd ++ [((l.getD x.fst.toNat ((0 : Int), (0 :
  Int), (0 : Int), ())).fst, (l.getD x.fst.toNat ((0 : Int), (0 : Int), (0 : Int), ())).snd.fst, (l.getD x.fst.toNat ((0 : Int), (0 : Int), (0 : Int), ())).snd.snd.fst, ())]) ∧ μ
  (x.fst + (1 : Int), ofH (x.snd.fst ++ [((l.getD x.fst.toNat ((0 : Int), (0 : Int), (0 : Int), ())).fst, (l.getD x.fst.toNat ((0 : Int), (0 : Int), (0 : Int), ())).snd.fst,
  (l.getD x.fst.toNat ((0 : Int), (0 : Int), (0 : Int), ())).snd.snd.fst, ())]) k, ofH (x.snd.snd.fst ++ [l.getD ((↑l.length : Int) - (1 : Int) - x.fst).toNat ((0 : Int), (0 :
  Int), (0 : Int), ())]) k, x.snd.snd.snd.fst, x.snd.snd.snd.snd.fst, x.snd.snd.snd.snd.snd.fst, x.snd.snd.snd.snd.snd.snd ++ [((l.getD x.fst.toNat ((0 : Int), (0 : Int), (0 :
  Int), ())).fst, (l.getD x.fst.toNat ((0 : Int), (0 : Int), (0 : Int), ())).snd.fst, (l.getD x.fst.toNat ((0 : Int), (0 : Int), (0 : Int), ())).snd.snd.fst, ())]) < μ x) ∧ (roomP
  HL3 (27 : Nat) (x.snd.snd.snd.snd.snd.snd.length + [((l.getD x.fst.toNat ((0 : Int), (0 : Int), (0 : Int), ())).fst, (l.getD x.fst.toNat ((0 : Int), (0 : Int), (0 : Int),
  ())).snd.fst, (l.getD x.fst.toNat ((0 : Int), (0 : Int), (0 : Int), ())).snd.snd.fst, ())].length) ∧ ((0 : Int) ≤ (3 : Int) ∧ (3 : Int) < (4 : Int)) ∧ (x.snd.fst.length ≤ (900 :
  Nat) ∧ (0 : Int) ≤ k) ∧ isI64 ((↑l.length : Int) - (1 : Int)) ∧ isI64 ((↑l.length : Int) - (1 : Int) - x.fst) ∧ ((0 : Int) ≤ (↑l.length : Int) - (1 : Int) - x.fst ∧ (↑l.length :
  Int) - (1 : Int) - x.fst < (↑l.length : Int)) ∧ (x.snd.snd.fst.length ≤ (900 : Nat) ∧ (0 : Int) ≤ k) ∧ isI64 (x.fst + (1 : Int)) ∧ I (x.fst + (1 : Int), ofH (x.snd.fst ++
  [((l.getD x.fst.toNat ((0 : Int), (0 : Int), (0 : Int), ())).fst, (l.getD x.fst.toNat ((0 : Int), (0 : Int), (0 : Int), ())).snd.fst, (l.getD x.fst.toNat ((0 : Int), (0 : Int),
  (0 : Int), ())).snd.snd.fst, ())]) k, ofH (x.snd.snd.fst ++ [l.getD ((↑l.length : Int) - (1 : Int) - x.fst).toNat ((0 : Int), (0 : Int), (0 : Int), ())]) k, x.snd.snd.snd.fst,
  x.snd.snd.snd.snd.fst, x.snd.snd.snd.snd.snd.fst, x.snd.snd.snd.snd.snd.snd ++ [((l.getD x.fst.toNat ((0 : Int), (0 : Int), (0 : Int), ())).fst, (l.getD x.fst.toNat ((0 : Int),
  (0 : Int), (0 : Int), ())).snd.fst, (l.getD x.fst.toNat ((0 : Int), (0 : Int), (0 : Int), ())).snd.snd.fst, ())]) ∧ μ (x.fst + (1 : Int), ofH (x.snd.fst ++ [((l.getD x.fst.toNat
  ((0 : Int), (0 : Int), (0 : Int), ())).fst, (l.getD x.fst.toNat ((0 : Int), (0 : Int), (0 : Int), ())).snd.fst, (l.getD x.fst.toNat ((0 : Int), (0 : Int), (0 : Int),
  ())).snd.snd.fst, ())]) k, ofH (x.snd.snd.fst ++ [l.getD ((↑l.length : Int) - (1 : Int) - x.fst).toNat ((0 : Int), (0 : Int), (0 : Int), ())]) k, x.snd.snd.snd.fst,
  x.snd.snd.snd.snd.fst, x.snd.snd.snd.snd.snd.fst, x.snd.snd.snd.snd.snd.snd ++ [((l.getD x.fst.toNat ((0 : Int), (0 : Int), (0 : Int), ())).fst, (l.getD x.fst.toNat ((0 : Int),
  (0 : Int), (0 : Int), ())).snd.fst, (l.getD x.fst.toNat ((0 : Int), (0 : Int), (0 : Int), ())).snd.snd.fst, ())]) < μ x) ∧ roomP HL3 (27 : Nat) (x.snd.snd.snd.snd.snd.snd.length
  + [((l.getD x.fst.toNat ((0 : Int), (0 : Int), (0 : Int), ())).fst, (l.getD x.fst.toNat ((0 : Int), (0 : Int), (0 : Int), ())).snd.fst, (l.getD x.fst.toNat ((0 : Int), (0 : Int),
  (0 : Int), ())).snd.snd.fst, ())].length) ∧ ((0 : Int) ≤ (3 : Int) ∧ (3 : Int) < (4 : Int)) ∧ (x.snd.fst.length ≤ (900 : Nat) ∧ (0 : Int) ≤ k) ∧ isI64 ((↑l.length : Int) - (1 :
  Int)) ∧ isI64 ((↑l.length : Int) - (1 : Int) - x.fst) ∧ ((0 : Int) ≤ (↑l.length : Int) - (1 : Int) - x.fst ∧ (↑l.length : Int) - (1 : Int) - x.fst < (↑l.length : Int)) ∧
  (x.snd.snd.fst.length ≤ (900 : Nat) ∧ (0 : Int) ≤ k) ∧ isI64 (x.fst + (1 : Int)) ∧ I (x.fst + (1 : Int), ofH (x.snd.fst ++ [((l.getD x.fst.toNat ((0 : Int), (0 : Int), (0 : Int),
  ())).fst, (l.getD x.fst.toNat ((0 : Int), (0 : Int), (0 : Int), ())).snd.fst, (l.getD x.fst.toNat ((0 : Int), (0 : Int), (0 : Int), ())).snd.snd.fst, ())]) k, ofH (x.snd.snd.fst
  ++ [l.getD ((↑l.length : Int) - (1 : Int) - x.fst).toNat ((0 : Int), (0 : Int), (0 : Int), ())]) k, x.snd.snd.snd.fst, x.snd.snd.snd.snd.fst, x.snd.snd.snd.snd.snd.fst,
  x.snd.snd.snd.snd.snd.snd ++ [((l.getD x.fst.toNat ((0 : Int), (0 : Int), (0 : Int), ())).fst, (l.getD x.fst.toNat ((0 : Int), (0 : Int), (0 : Int), ())).snd.fst, (l.getD
  x.fst.toNat ((0 : Int), (0 : Int), (0 : Int), ())).snd.snd.fst, ())]) ∧ μ (x.fst + (1 : Int), ofH (x.snd.fst ++ [((l.getD x.fst.toNat ((0 : Int), (0 : Int), (0 : Int), ())).fst,
  (l.getD x.fst.toNat ((0 : Int), (0 : Int), (0 : Int), ())).snd.fst, (l.getD x.fst.toNat ((0 : Int), (0 : Int), (0 : Int), ())).snd.snd.fst, ())]) k, ofH (x.snd.snd.fst ++ [l.getD
  ((↑l.length : Int) - (1 : Int) - x.fst).toNat ((0 : Int), (0 : Int), (0 : Int), ())]) k, x.snd.snd.snd.fst, x.snd.snd.snd.snd.fst, x.snd.snd.snd.snd.snd.fst,
  x.snd.snd.snd.snd.snd.snd ++ [((l.getD x.fst.toNat ((0 : Int), (0 : Int), (0 : Int), ())).fst, (l.getD x.fst.toNat ((0 : Int), (0 : Int), (0 : Int), ())).snd.fst, (l.getD
  x.fst.toNat ((0 : Int), (0 : Int), (0 : Int), ())).snd.snd.fst, ())]) < μ x) ∧ (((0 : Int) ≤ (3 : Int) ∧ (3 : Int) < (4 : Int)) ∧ (roomP HL3 (27 : Nat)
  (x.snd.snd.snd.snd.snd.snd.length + [((l.getD x.fst.toNat ((0 : Int), (0 : Int), (0 : Int), ())).fst, (l.getD x.fst.toNat ((0 : Int), (0 : Int), (0 : Int), ())).snd.fst, (l.getD
  x.fst.toNat ((0 : Int), (0 : Int), (0 : Int), ())).snd.snd.fst, ())].length) ∧ ((0 : Int) ≤ (3 : Int) ∧ (3 : Int) < (4 : Int)) ∧ (x.snd.fst.length ≤ (900 : Nat) ∧ (0 : Int) ≤ k)
  ∧ isI64 ((↑l.length : Int) - (1 : Int)) ∧ isI64 ((↑l.length : Int) - (1 : Int) - x.fst) ∧ ((0 : Int) ≤ (↑l.length : Int) - (1 : Int) - x.fst ∧ (↑l.length : Int) - (1 : Int) -
  x.fst < (↑l.length : Int)) ∧ (x.snd.snd.fst.length ≤ (900 : Nat) ∧ (0 : Int) ≤ k) ∧ isI64 (x.fst + (1 : Int)) ∧ I (x.fst + (1 : Int), ofH (x.snd.fst ++ [((l.getD x.fst.toNat ((0
  : Int), (0 : Int), (0 : Int), ())).fst, (l.getD x.fst.toNat ((0 : Int), (0 : Int), (0 : Int), ())).snd.fst, (l.getD x.fst.toNat ((0 : Int), (0 : Int), (0 : Int),
  ())).snd.snd.fst, ())]) k, ofH (x.snd.snd.fst ++ [l.getD ((↑l.length : Int) - (1 : Int) - x.fst).toNat ((0 : Int), (0 : Int), (0 : Int), ())]) k, x.snd.snd.snd.fst,
  x.snd.snd.snd.snd.fst, x.snd.snd.snd.snd.snd.fst, x.snd.snd.snd.snd.snd.snd ++ [((l.getD x.fst.toNat ((0 : Int), (0 : Int), (0 : Int), ())).fst, (l.getD x.fst.toNat ((0 : Int),
  (0 : Int), (0 : Int), ())).snd.fst, (l.getD x.fst.toNat ((0 : Int), (0 : Int), (0 : Int), ())).snd.snd.fst, ())]) ∧ μ (x.fst + (1 : Int), ofH (x.snd.fst ++ [((l.getD x.fst.toNat
  ((0 : Int), (0 : Int), (0 : Int), ())).fst, (l.getD x.fst.toNat ((0 : Int), (0 : Int), (0 : Int), ())).snd.fst, (l.getD x.fst.toNat ((0 : Int), (0 : Int), (0 : Int),
  ())).snd.snd.fst, ())]) k, ofH (x.snd.snd.fst ++ [l.getD ((↑l.length : Int) - (1 : Int) - x.fst).toNat ((0 : Int), (0 : Int), (0 : Int), ())]) k, x.snd.snd.snd.fst,
  x.snd.snd.snd.snd.fst, x.snd.snd.snd.snd.snd.fst, x.snd.snd.snd.snd.snd.snd ++ [((l.getD x.fst.toNat ((0 : Int), (0 : Int), (0 : Int), ())).fst, (l.getD x.fst.toNat ((0 : Int),
  (0 : Int), (0 : Int), ())).snd.fst, (l.getD x.fst.toNat ((0 : Int), (0 : Int), (0 : Int), ())).snd.snd.fst, ())]) < μ x) ∧ roomP HL3 (27 : Nat) (x.snd.snd.snd.snd.snd.snd.length
  + [((l.getD x.fst.toNat ((0 : Int), (0 : Int), (0 : Int), ())).fst, (l.getD x.fst.toNat ((0 : Int), (0 : Int), (0 : Int), ())).snd.fst, (l.getD x.fst.toNat ((0 : Int), (0 : Int),
  (0 : Int), ())).snd.snd.fst, ())].length) ∧ ((0 : Int) ≤ (3 : Int) ∧ (3 : Int) < (4 : Int)) ∧ (x.snd.fst.length ≤ (900 : Nat) ∧ (0 : Int) ≤ k) ∧ isI64 ((↑l.length : Int) - (1 :
  Int)) ∧ isI64 ((↑l.length : Int) - (1 : Int) - x.fst) ∧ ((0 : Int) ≤ (↑l.length : Int) - (1 : Int) - x.fst ∧ (↑l.length : Int) - (1 : Int) - x.fst < (↑l.length : Int)) ∧
  (x.snd.snd.fst.length ≤ (900 : Nat) ∧ (0 : Int) ≤ k) ∧ isI64 (x.fst + (1 : Int)) ∧ I (x.fst + (1 : Int), ofH (x.snd.fst ++ [((l.getD x.fst.toNat ((0 : Int), (0 : Int), (0 : Int),
  ())).fst, (l.getD x.fst.toNat ((0 : Int), (0 : Int), (0 : Int), ())).snd.fst, (l.getD x.fst.toNat ((0 : Int), (0 : Int), (0 : Int), ())).snd.snd.fst, ())]) k, ofH (x.snd.snd.fst
  ++ [l.getD ((↑l.length : Int) - (1 : Int) - x.fst).toNat ((0 : Int), (0 : Int), (0 : Int), ())]) k, x.snd.snd.snd.fst, x.snd.snd.snd.snd.fst, x.snd.snd.snd.snd.snd.fst,
  x.snd.snd.snd.snd.snd.snd ++ [((l.getD x.fst.toNat ((0 : Int), (0 : Int), (0 : Int), ())).fst, (l.getD x.fst.toNat ((0 : Int), (0 : Int), (0 : Int), ())).snd.fst, (l.getD
  x.fst.toNat ((0 : Int), (0 : Int), (0 : Int), ())).snd.snd.fst, ())]) ∧ μ (x.fst + (1 : Int), ofH (x.snd.fst ++ [((l.getD x.fst.toNat ((0 : Int), (0 : Int), (0 : Int), ())).fst,
  (l.getD x.fst.toNat ((0 : Int), (0 : Int), (0 : Int), ())).snd.fst, (l.getD x.fst.toNat ((0 : Int), (0 : Int), (0 : Int), ())).snd.snd.fst, ())]) k, ofH (x.snd.snd.fst ++ [l.getD
  ((↑l.length : Int) - (1 : Int) - x.fst).toNat ((0 : Int), (0 : Int), (0 : Int), ())]) k, x.snd.snd.snd.fst, x.snd.snd.snd.snd.fst, x.snd.snd.snd.snd.snd.fst,
  x.snd.snd.snd.snd.snd.snd ++ [((l.getD x.fst.toNat ((0 : Int), (0 : Int), (0 : Int), ())).fst, (l.getD x.fst.toNat ((0 : Int), (0 : Int), (0 : Int), ())).snd.fst, (l.getD
  x.fst.toNat ((0 : Int), (0 : Int), (0 : Int), ())).snd.snd.fst, ())]) < μ x) ∧ ((0 : Int) ≤ (3 : Int) ∧ (3 : Int) < (4 : Int)) ∧ roomP HL3 (27 : Nat)
  (x.snd.snd.snd.snd.snd.snd.length + [((l.getD x.fst.toNat ((0 : Int), (0 : Int), (0 : Int), ())).fst, (l.getD x.fst.toNat ((0 : Int), (0 : Int), (0 : Int), ())).snd.fst, (l.getD
  x.fst.toNat ((0 : Int), (0 : Int), (0 : Int), ())).snd.snd.fst, ())].length) ∧ ((0 : Int) ≤ (3 : Int) ∧ (3 : Int) < (4 : Int)) ∧ (x.snd.fst.length ≤ (900 : Nat) ∧ (0 : Int) ≤ k)
  ∧ isI64 ((↑l.length : Int) - (1 : Int)) ∧ isI64 ((↑l.length : Int) - (1 : Int) - x.fst) ∧ ((0 : Int) ≤ (↑l.length : Int) - (1 : Int) - x.fst ∧ (↑l.length : Int) - (1 : Int) -
  x.fst < (↑l.length : Int)) ∧ (x.snd.snd.fst.length ≤ (900 : Nat) ∧ (0 : Int) ≤ k) ∧ isI64 (x.fst + (1 : Int)) ∧ I (x.fst + (1 : Int), ofH (x.snd.fst ++ [((l.getD x.fst.toNat ((0
  : Int), (0 : Int), (0 : Int), ())).fst, (l.getD x.fst.toNat ((0 : Int), (0 : Int), (0 : Int), ())).snd.fst, (l.getD x.fst.toNat ((0 : Int), (0 : Int), (0 : Int),
  ())).snd.snd.fst, ())]) k, ofH (x.snd.snd.fst ++ [l.getD ((↑l.length : Int) - (1 : Int) - x.fst).toNat ((0 : Int), (0 : Int), (0 : Int), ())]) k, x.snd.snd.snd.fst,
  x.snd.snd.snd.snd.fst, x.snd.snd.snd.snd.snd.fst, x.snd.snd.snd.snd.snd.snd ++ [((l.getD x.fst.toNat ((0 : Int), (0 : Int), (0 : Int), ())).fst, (l.getD x.fst.toNat ((0 : Int),
  (0 : Int), (0 : Int), ())).snd.fst, (l.getD x.fst.toNat ((0 : Int), (0 : Int), (0 : Int), ())).snd.snd.fst, ())]) ∧ μ (x.fst + (1 : Int), ofH (x.snd.fst ++ [((l.getD x.fst.toNat
  ((0 : Int), (0 : Int), (0 : Int), ())).fst, (l.getD x.fst.toNat ((0 : Int), (0 : Int), (0 : Int), ())).snd.fst, (l.getD x.fst.toNat ((0 : Int), (0 : Int), (0 : Int),
  ())).snd.snd.fst, ())]) k, ofH (x.snd.snd.fst ++ [l.getD ((↑l.length : Int) - (1 : Int) - x.fst).toNat ((0 : Int), (0 : Int), (0 : Int), ())]) k, x.snd.snd.snd.fst,
  x.snd.snd.snd.snd.fst, x.snd.snd.snd.snd.snd.fst, x.snd.snd.snd.snd.snd.snd ++ [((l.getD x.fst.toNat ((0 : Int), (0 : Int), (0 : Int), ())).fst, (l.getD x.fst.toNat ((0 : Int),
  (0 : Int), (0 : Int), ())).snd.fst, (l.getD x.fst.toNat ((0 : Int), (0 : Int), (0 : Int), ())).snd.snd.fst, ())]) < μ x) ∧ ((IntKind.i64.wrap (part.getD (x.fst.tmod (↑part.length
  : Int)).toNat (0 : Int))).tmod (4 : Int) = (2 : Int) → (((0 : Int) ≤ (2 : Int) ∧ (2 : Int) < (4 : Int)) ∧ (roomP HL3 (27 : Nat) (x.snd.snd.snd.snd.snd.fst.length + [((l.getD
  x.fst.toNat ((0 : Int), (0 : Int), (0 : Int), ())).fst, (l.getD x.fst.toNat ((0 : Int), (0 : Int), (0 : Int), ())).snd.fst, (l.getD x.fst.toNat ((0 : Int), (0 : Int), (0 : Int),
  ())).snd.snd.fst, ())].length) ∧ ((0 : Int) ≤ (2 : Int) ∧ (2 : Int) < (4 : Int)) ∧ (x.snd.fst.length ≤ (900 : Nat) ∧ (0 : Int) ≤ k) ∧ isI64 ((↑l.length : Int) - (1 : Int)) ∧
  isI64 ((↑l.length : Int) - (1 : Int) - x.fst) ∧ ((0 : Int) ≤ (↑l.length : Int) - (1 : Int) - x.fst ∧ (↑l.length : Int) - (1 : Int) - x.fst < (↑l.length : Int)) ∧
  (x.snd.snd.fst.length ≤ (900 : Nat) ∧ (0 : Int) ≤ k) ∧ isI64 (x.fst + (1 : Int)) ∧ I (x.fst + (1 : Int), ofH (x.snd.fst ++ [((l.getD x.fst.toNat ((0 : Int), (0 : Int), (0 : Int),
  ())).fst, (l.getD x.fst.toNat ((0 : Int), (0 : Int), (0 : Int), ())).snd.fst, (l.getD x.fst.toNat ((0 : Int), (0 : Int), (0 : Int), ())).snd.snd.fst, ())]) k, ofH (x.snd.snd.fst
  ++ [l.getD ((↑l.length : Int) - (1 : Int) - x.fst).toNat ((0 : Int), (0 : Int), (0 : Int), ())]) k, x.snd.snd.snd.fst, x.snd.snd.snd.snd.fst, x.snd.snd.snd.snd.snd.fst ++
  [((l.getD x.fst.toNat ((0 : Int), (0 : Int), (0 : Int), ())).fst, (l.getD x.fst.toNat ((0 : Int), (0 : Int), (0 : Int), ())).snd.fst, (l.getD x.fst.toNat ((0 : Int), (0 : Int),
  (0 : Int), ())).snd.snd.fst, ())], x.snd.snd.snd.snd.snd.snd) ∧ μ (x.fst + (1 : Int), ofH (x.snd.fst ++ [((l.getD x.fst.toNat ((0 : Int), (0 : Int), (0 : Int), ())).fst, (l.getD
  x.fst.toNat ((0 : Int), (0 : Int), (0 : Int), ())).snd.fst, (l.getD x.fst.toNat ((0 : Int), (0 : Int), (0 : Int), ())).snd.snd.fst, ())]) k, ofH (x.snd.snd.fst ++ [l.getD
  ((↑l.length : Int) - (1 : Int) - x.fst).toNat ((0 : Int), (0 : Int), (0 : Int), ())]) k, x.snd.snd.snd.fst, x.snd.snd.snd.snd.fst, x.snd.snd.snd.snd.snd.fst ++ [((l.getD
  x.fst.toNat ((0 : Int), (0 : Int), (0 : Int), ())).fst, (l.getD x.fst.toNat ((0 : Int), (0 : Int), (0 : Int), ())).snd.fst, (l.getD x.fst.toNat ((0 : Int), (0 : Int), (0 : Int),
  ())).snd.snd.fst, ())], x.snd.snd.snd.snd.snd.snd) < μ x) ∧ (roomP HL3 (27 : Nat) (x.snd.snd.snd.snd.snd.fst.length + [((l.getD x.fst.toNat ((0 : Int), (0 : Int), (0 : Int),
  ())).fst, (l.getD x.fst.toNat ((0 : Int), (0 : Int), (0 : Int), ())).snd.fst, (l.getD x.fst.toNat ((0 : Int), (0 : Int), (0 : Int), ())).snd.snd.fst, ())].length) ∧ ((0 : Int) ≤
  (2 : Int) ∧ (2 : Int) < (4 : Int)) ∧ (x.snd.fst.length ≤ (900 : Nat) ∧ (0 : Int) ≤ k) ∧ isI64 ((↑l.length : Int) - (1 : Int)) ∧ isI64 ((↑l.length : Int) - (1 : Int) - x.fst) ∧
  ((0 : Int) ≤ (↑l.length : Int) - (1 : Int) - x.fst ∧ (↑l.length : Int) - (1 : Int) - x.fst < (↑l.length : Int)) ∧ (x.snd.snd.fst.length ≤ (900 : Nat) ∧ (0 : Int) ≤ k) ∧ isI64
  (x.fst + (1 : Int)) ∧ I (x.fst + (1 : Int), ofH (x.snd.fst ++ [((l.getD x.fst.toNat ((0 : Int), (0 : Int), (0 : Int), ())).fst, (l.getD x.fst.toNat ((0 : Int), (0 : Int), (0 :
  Int), ())).snd.fst, (l.getD x.fst.toNat ((0 : Int), (0 : Int), (0 : Int), ())).snd.snd.fst, ())]) k, ofH (x.snd.snd.fst ++ [l.getD ((↑l.length : Int) - (1 : Int) - x.fst).toNat
  ((0 : Int), (0 : Int), (0 : Int), ())]) k, x.snd.snd.snd.fst, x.snd.snd.snd.snd.fst, x.snd.snd.snd.snd.snd.fst ++ [((l.getD x.fst.toNat ((0 : Int), (0 : Int), (0 : Int),
  ())).fst, (l.getD x.fst.toNat ((0 : Int), (0 : Int), (0 : Int), ())).snd.fst, (l.getD x.fst.toNat ((0 : Int), (0 : Int), (0 : Int), ())).snd.snd.fst, ())],
  x.snd.snd.snd.snd.snd.snd) ∧ μ (x.fst + (1 : Int), ofH (x.snd.fst ++ [((l.getD x.fst.toNat ((0 : Int), (0 : Int), (0 : Int), ())).fst, (l.getD x.fst.toNat ((0 : Int), (0 : Int),
  (0 : Int), ())).snd.fst, (l.getD x.fst.toNat ((0 : Int), (0 : Int), (0 : Int), ())).snd.snd.fst, ())]) k, ofH (x.snd.snd.fst ++ [l.getD ((↑l.length : Int) - (1 : Int) -
  x.fst).toNat ((0 : Int), (0 : Int), (0 : Int), ())]) k, x.snd.snd.snd.fst, x.snd.snd.snd.snd.fst, x.snd.snd.snd.snd.snd.fst ++ [((l.getD x.fst.toNat ((0 : Int), (0 : Int), (0 :
  Int), ())).fst, (l.getD x.fst.toNat ((0 : Int), (0 : Int), (0 : Int), ())).snd.fst, (l.getD x.fst.toNat ((0 : Int), (0 : Int), (0 : Int), ())).snd.snd.fst, ())],
  x.snd.snd.snd.snd.snd.snd) < μ x) ∧ roomP HL3 (27 : Nat) (x.snd.snd.snd.snd.snd.fst.length + [((l.getD x.fst.toNat ((0 : Int), (0 : Int), (0 : Int), ())).fst, (l.getD x.fst.toNat
  ((0 : Int), (0 : Int), (0 : Int), ())).snd.fst, (l.getD x.fst.toNat ((0 : Int), (0 : Int), (0 : Int), ())).snd.snd.fst, ())].length) ∧ ((0 : Int) ≤ (2 : Int) ∧ (2 : Int) < (4 :
  Int)) ∧ (x.snd.fst.length ≤ (900 : Nat) ∧ (0 : Int) ≤ k) ∧ isI64 ((↑l.length : Int) - (1 : Int)) ∧ isI64 ((↑l.length : Int) - (1 : Int) - x.fst) ∧ ((0 : Int) ≤ (↑l.length : Int)
  - (1 : Int) - x.fst ∧ (↑l.length : Int) - (1 : Int) - x.fst < (↑l.length : Int)) ∧ (x.snd.snd.fst.length ≤ (900 : Nat) ∧ (0 : Int) ≤ k) ∧ isI64 (x.fst + (1 : Int)) ∧ I (x.fst +
  (1 : Int), ofH (x.snd.fst ++ [((l.getD x.fst.toNat ((0 : Int), (0 : Int), (0 : Int), ())).fst, (l.getD x.fst.toNat ((0 : Int), (0 : Int), (0 : Int), ())).snd.fst, (l.getD
  x.fst.toNat ((0 : Int), (0 : Int), (0 : Int), ())).snd.snd.fst, ())]) k, ofH (x.snd.snd.fst ++ [l.getD ((↑l.length : Int) - (1 : Int) - x.fst).toNat ((0 : Int), (0 : Int), (0 :
  Int), ())]) k, x.snd.snd.snd.fst, x.snd.snd.snd.snd.fst, x.snd.snd.snd.snd.snd.fst ++ [((l.getD x.fst.toNat ((0 : Int), (0 : Int), (0 : Int), ())).fst, (l.getD x.fst.toNat ((0 :
  Int), (0 : Int), (0 : Int), ())).snd.fst, (l.getD x.fst.toNat ((0 : Int), (0 : Int), (0 : Int), ())).snd.snd.fst, ())], x.snd.snd.snd.snd.snd.snd) ∧ μ (x.fst + (1 : Int), ofH
  (x.snd.fst ++ [((l.getD x.fst.toNat ((0 : Int), (0 : Int), (0 : Int), ())).fst, (l.getD x.fst.toNat ((0 : Int), (0 : Int), (0 : Int), ())).snd.fst, (l.getD x.fst.toNat ((0 :
  Int), (0 : Int), (0 : Int), ())).snd.snd.fst, ())]) k, ofH (x.snd.snd.fst ++ [l.getD ((↑l.length : Int) - (1 : Int) - x.fst).toNat ((0 : Int), (0 : Int), (0 : Int), ())]) k,
  x.snd.snd.snd.fst, x.snd.snd.snd.snd.fst, x.snd.snd.snd.snd.snd.fst ++ [((l.getD x.fst.toNat ((0 : Int), (0 : Int), (0 : Int), ())).fst, (l.getD x.fst.toNat ((0 : Int), (0 :
  Int), (0 : Int), ())).snd.fst, (l.getD x.fst.toNat ((0 : Int), (0 : Int), (0 : Int), ())).snd.snd.fst, ())], x.snd.snd.snd.snd.snd.snd) < μ x) ∧ (((0 : Int) ≤ (2 : Int) ∧ (2 :
  Int) < (4 : Int)) ∧ (roomP HL3 (27 : Nat) (x.snd.snd.snd.snd.snd.fst.length + [((l.getD x.fst.toNat ((0 : Int), (0 : Int), (0 : Int), ())).fst, (l.getD x.fst.toNat ((0 : Int), (0
  : Int), (0 : Int), ())).snd.fst, (l.getD x.fst.toNat ((0 : Int), (0 : Int), (0 : Int), ())).snd.snd.fst, ())].length) ∧ ((0 : Int) ≤ (2 : Int) ∧ (2 : Int) < (4 : Int)) ∧
  (x.snd.fst.length ≤ (900 : Nat) ∧ (0 : Int) ≤ k) ∧ isI64 ((↑l.length : Int) - (1 : Int)) ∧ isI64 ((↑l.length : Int) - (1 : Int) - x.fst) ∧ ((0 : Int) ≤ (↑l.length : Int) - (1 :
  Int) - x.fst ∧ (↑l.length : Int) - (1 : Int) - x.fst < (↑l.length : Int)) ∧ (x.snd.snd.fst.length ≤ (900 : Nat) ∧ (0 : Int) ≤ k) ∧ isI64 (x.fst + (1 : Int)) ∧ I (x.fst + (1 :
  Int), ofH (x.snd.fst ++ [((l.getD x.fst.toNat ((0 : Int), (0 : Int), (0 : Int), ())).fst, (l.getD x.fst.toNat ((0 : Int), (0 : Int), (0 : Int), ())).snd.fst, (l.getD x.fst.toNat
  ((0 : Int), (0 : Int), (0 : Int), ())).snd.snd.fst, ())]) k, ofH (x.snd.snd.fst ++ [l.getD ((↑l.length : Int) - (1 : Int) - x.fst).toNat ((0 : Int), (0 : Int), (0 : Int), ())])
  k, x.snd.snd.snd.fst, x.snd.snd.snd.snd.fst, x.snd.snd.snd.snd.snd.fst ++ [((l.getD x.fst.toNat ((0 : Int), (0 : Int), (0 : Int), ())).fst, (l.getD x.fst.toNat ((0 : Int), (0 :
  Int), (0 : Int), ())).snd.fst, (l.getD x.fst.toNat ((0 : Int), (0 : Int), (0 : Int), ())).snd.snd.fst, ())], x.snd.snd.snd.snd.snd.snd) ∧ μ (x.fst + (1 : Int), ofH (x.snd.fst ++
  [((l.getD x.fst.toNat ((0 : Int), (0 : Int), (0 : Int), ())).fst, (l.getD x.fst.toNat ((0 : Int), (0 : Int), (0 : Int), ())).snd.fst, (l.getD x.fst.toNat ((0 : Int), (0 : Int),
  (0 : Int), ())).snd.snd.fst, ())]) k, ofH (x.snd.snd.fst ++ [l.getD ((↑l.length : Int) - (1 : Int) - x.fst).toNat ((0 : Int), (0 : Int), (0 : Int), ())]) k, x.snd.snd.snd.fst,
  x.snd.snd.snd.snd.fst, x.snd.snd.snd.snd.snd.fst ++ [((l.getD x.fst.toNat ((0 : Int), (0 : Int), (0 : Int), ())).fst, (l.getD x.fst.toNat ((0 : Int), (0 : Int), (0 : Int),
  ())).snd.fst, (l.getD x.fst.toNat ((0 : Int), (0 : Int), (0 : Int), ())).snd.snd.fst, ())], x.snd.snd.snd.snd.snd.snd) < μ x) ∧ roomP HL3 (27 : Nat)
  (x.snd.snd.snd.snd.snd.fst.length + [((l.getD x.fst.toNat ((0 : Int), (0 : Int), (0 : Int), ())).fst, (l.getD x.fst.toNat ((0 : Int), (0 : Int), (0 : Int), ())).snd.fst, (l.getD
  x.fst.toNat ((0 : Int), (0 : Int), (0 : Int), ())).snd.snd.fst, ())].length) ∧ ((0 : Int) ≤ (2 : Int) ∧ (2 : Int) < (4 : Int)) ∧ (x.snd.fst.length ≤ (900 : Nat) ∧ (0 : Int) ≤ k)
  ∧ isI64 ((↑l.length : Int) - (1 : Int)) ∧ isI64 ((↑l.length : Int) - (1 : Int) - x.fst) ∧ ((0 : Int) ≤ (↑l.length : Int) - (1 : Int) - x.fst ∧ (↑l.length : Int) - (1 : Int) -
  x.fst < (↑l.length : Int)) ∧ (x.snd.snd.fst.length ≤ (900 : Nat) ∧ (0 : Int) ≤ k) ∧ isI64 (x.fst + (1 : Int)) ∧ I (x.fst + (1 : Int), ofH (x.snd.fst ++ [((l.getD x.fst.toNat ((0
  : Int), (0 : Int), (0 : Int), ())).fst, (l.getD x.fst.toNat ((0 : Int), (0 : Int), (0 : Int), ())).snd.fst, (l.getD x.fst.toNat ((0 : Int), (0 : Int), (0 : Int),
  ())).snd.snd.fst, ())]) k, ofH (x.snd.snd.fst ++ [l.getD ((↑l.length : Int) - (1 : Int) - x.fst).toNat ((0 : Int), (0 : Int), (0 : Int), ())]) k, x.snd.snd.snd.fst,
  x.snd.snd.snd.snd.fst, x.snd.snd.snd.snd.snd.fst ++ [((l.getD x.fst.toNat ((0 : Int), (0 : Int), (0 : Int), ())).fst, (l.getD x.fst.toNat ((0 : Int), (0 : Int), (0 : Int),
  ())).snd.fst, (l.getD x.fst.toNat ((0 : Int), (0 : Int), (0 : Int), ())).snd.snd.fst, ())], x.snd.snd.snd.snd.snd.snd) ∧ μ (x.fst + (1 : Int), ofH (x.snd.fst ++ [((l.getD
  x.fst.toNat ((0 : Int), (0 : Int), (0 : Int), ())).fst, (l.getD x.fst.toNat ((0 : Int), (0 : Int), (0 : Int), ())).snd.fst, (l.getD x.fst.toNat ((0 : Int), (0 : Int), (0 : Int),
  ())).snd.snd.fst, ())]) k, ofH (x.snd.snd.fst ++ [l.getD ((↑l.length : Int) - (1 : Int) - x.fst).toNat ((0 : Int), (0 : Int), (0 : Int), ())]) k, x.snd.snd.snd.fst,
  x.snd.snd.snd.snd.fst, x.snd.snd.snd.snd.snd.fst ++ [((l.getD x.fst.toNat ((0 : Int), (0 : Int), (0 : Int), ())).fst, (l.getD x.fst.toNat ((0 : Int), (0 : Int), (0 : Int),
  ())).snd.fst, (l.getD x.fst.toNat ((0 : Int), (0 : Int), (0 : Int), ())).snd.snd.fst, ())], x.snd.snd.snd.snd.snd.snd) < μ x) ∧ ((0 : Int) ≤ (2 : Int) ∧ (2 : Int) < (4 : Int)) ∧
  roomP HL3 (27 : Nat) (x.snd.snd.snd.snd.snd.fst.length + [((l.getD x.fst.toNat ((0 : Int), (0 : Int), (0 : Int), ())).fst, (l.getD x.fst.toNat ((0 : Int), (0 : Int), (0 : Int),
  ())).snd.fst, (l.getD x.fst.toNat ((0 : Int), (0 : Int), (0 : Int), ())).snd.snd.fst, ())].length) ∧ ((0 : Int) ≤ (2 : Int) ∧ (2 : Int) < (4 : Int)) ∧ (x.snd.fst.length ≤ (900 :
  Nat) ∧ (0 : Int) ≤ k) ∧ isI64 ((↑l.length : Int) - (1 : Int)) ∧ isI64 ((↑l.length : Int) - (1 : Int) - x.fst) ∧ ((0 : Int) ≤ (↑l.length : Int) - (1 : Int) - x.fst ∧ (↑l.length :
  Int) - (1 : Int) - x.fst < (↑l.length : Int)) ∧ (x.snd.snd.fst.length ≤ (900 : Nat) ∧ (0 : Int) ≤ k) ∧ isI64 (x.fst + (1 : Int)) ∧ I (x.fst + (1 : Int), ofH (x.snd.fst ++
  [((l.getD x.fst.toNat ((0 : Int), (0 : Int), (0 : Int), ())).fst, (l.getD x.fst.toNat ((0 : Int), (0 : Int), (0 : Int), ())).snd.fst, (l.getD x.fst.toNat ((0 : Int), (0 : Int),
  (0 : Int), ())).snd.snd.fst, ())]) k, ofH (x.snd.snd.fst ++ [l.getD ((↑l.length : Int) - (1 : Int) - x.fst).toNat ((0 : Int), (0 : Int), (0 : Int), ())]) k, x.snd.snd.snd.fst,
  x.snd.snd.snd.snd.fst, x.snd.snd.snd.snd.snd.fst ++ [((l.getD x.fst.toNat ((0 : Int), (0 : Int), (0 : Int), ())).fst, (l.getD x.fst.toNat ((0 : Int), (0 : Int), (0 : Int),
  ())).snd.fst, (l.getD x.fst.toNat ((0 : Int), (0 : Int), (0 : Int), ())).snd.snd.fst, ())], x.snd.snd.snd.snd.snd.snd) ∧ μ (x.fst + (1 : Int), ofH (x.snd.fst ++ [((l.getD
  x.fst.toNat ((0 : Int), (0 : Int), (0 : Int), ())).fst, (l.getD x.fst.toNat ((0 : Int), (0 : Int), (0 : Int), ())).snd.fst, (l.getD x.fst.toNat ((0 : Int), (0 : Int), (0 : Int),
  ())).snd.snd.fst, ())]) k, ofH (x.snd.snd.fst ++ [l.getD ((↑l.length : Int) - (1 : Int) - x.fst).toNat ((0 : Int), (0 : Int), (0 : Int), ())]) k, x.snd.snd.snd.fst,
  x.snd.snd.snd.snd.fst, x.snd.snd.snd.snd.snd.fst ++ [((l.getD x.fst.toNat ((0 : Int), (0 : Int), (0 : Int), ())).fst, (l.getD x.fst.toNat ((0 : Int), (0 : Int), (0 : Int),
  ())).snd.fst, (l.getD x.fst.toNat ((0 : Int), (0 : Int), (0 : Int), ())).snd.snd.fst, ())], x.snd.snd.snd.snd.snd.snd) < μ x) ∧ ((IntKind.i64.wrap (part.getD (x.fst.tmod
  (↑part.length : Int)).toNat (0 : Int))).tmod (4 : Int) = (1 : Int) → (((0 : Int) ≤ (1 : Int) ∧ (1 : Int) < (4 : Int)) ∧ (roomP HL3 (27 : Nat) (x.snd.snd.snd.snd.fst.length +
  [((l.getD x.fst.toNat ((0 : Int), (0 : Int), (0 : Int), ())).fst, (l.getD x.fst.toNat ((0 : Int), (0 : Int), (0 : Int), ())).snd.fst, (l.getD x.fst.toNat ((0 : Int), (0 : Int),
  (0 : Int), ())).snd.snd.fst, ())].length) ∧ ((0 : Int) ≤ (1 : Int) ∧ (1 : Int) < (4 : Int)) ∧ (x.snd.fst.length ≤ (900 : Nat) ∧ (0 : Int) ≤ k) ∧ isI64 ((↑l.length : Int) - (1 :
  Int)) ∧ isI64 ((↑l.length : Int) - (1 : Int) - x.fst) ∧ ((0 : Int) ≤ (↑l.length : Int) - (1 : Int) - x.fst ∧ (↑l.length : Int) - (1 : Int) - x.fst < (↑l.length : Int)) ∧
  (x.snd.snd.fst.length ≤ (900 : Nat) ∧ (0 : Int) ≤ k) ∧ isI64 (x.fst + (1 : Int)) ∧ I (x.fst + (1 : Int), ofH (x.snd.fst ++ [((l.getD x.fst.toNat ((0 : Int), (0 : Int), (0 : Int),
  ())).fst, (l.getD x.fst.toNat ((0 : Int), (0 : Int), (0 : Int), ())).snd.fst, (l.getD x.fst.toNat ((0 : Int), (0 : Int), (0 : Int), ())).snd.snd.fst, ())]) k, ofH (x.snd.snd.fst
  ++ [l.getD ((↑l.length : Int) - (1 : Int) - x.fst).toNat ((0 : Int), (0 : Int), (0 : Int), ())]) k, x.snd.snd.snd.fst, x.snd.snd.snd.snd.fst ++ [((l.getD x.fst.toNat ((0 : Int),
  (0 : Int), (0 : Int), ())).fst, (l.getD x.fst.toNat ((0 : Int), (0 : Int), (0 : Int), ())).snd.fst, (l.getD x.fst.toNat ((0 : Int), (0 : Int), (0 : Int), ())).snd.snd.fst, ())],
  x.snd.snd.snd.snd.snd.fst, x.snd.snd.snd.snd.snd.snd) ∧ μ (x.fst + (1 : Int), ofH (x.snd.fst ++ [((l.getD x.fst.toNat ((0 : Int), (0 : Int), (0 : Int), ())).fst, (l.getD
  x.fst.toNat ((0 : Int), (0 : Int), (0 : Int), ())).snd.fst, (l.getD x.fst.toNat ((0 : Int), (0 : Int), (0 : Int), ())).snd.snd.fst, ())]) k, ofH (x.snd.snd.fst ++ [l.getD
  ((↑l.length : Int) - (1 : Int) - x.fst).toNat ((0 : Int), (0 : Int), (0 : Int), ())]) k, x.snd.snd.snd.fst, x.snd.snd.snd.snd.fst ++ [((l.getD x.fst.toNat ((0 : Int), (0 : Int),
  (0 : Int), ())).fst, (l.getD x.fst.toNat ((0 : Int), (0 : Int), (0 : Int), ())).snd.fst, (l.getD x.fst.toNat ((0 : Int), (0 : Int), (0 : Int), ())).snd.snd.fst, ())],
  x.snd.snd.snd.snd.snd.fst, x.snd.snd.snd.snd.snd.snd) < μ x) ∧ (roomP HL3 (27 : Nat) (x.snd.snd.snd.snd.fst.length + [((l.getD x.fst.toNat ((0 : Int), (0 : Int), (0 : Int),
  ())).fst, (l.getD x.fst.toNat ((0 : Int), (0 : Int), (0 : Int), ())).snd.fst, (l.getD x.fst.toNat ((0 : Int), (0 : Int), (0 : Int), ())).snd.snd.fst, ())].length) ∧ ((0 : Int) ≤
  (1 : Int) ∧ (1 : Int) < (4 : Int)) ∧ (x.snd.fst.length ≤ (900 : Nat) ∧ (0 : Int) ≤ k) ∧ isI64 ((↑l.length : Int) - (1 : Int)) ∧ isI64 ((↑l.length : Int) - (1 : Int) - x.fst) ∧
  ((0 : Int) ≤ (↑l.length : Int) - (1 : Int) - x.fst ∧ (↑l.length : Int) - (1 : Int) - x.fst < (↑l.length : Int)) ∧ (x.snd.snd.fst.length ≤ (900 : Nat) ∧ (0 : Int) ≤ k) ∧ isI64
  (x.fst + (1 : Int)) ∧ I (x.fst + (1 : Int), ofH (x.snd.fst ++ [((l.getD x.fst.toNat ((0 : Int), (0 : Int), (0 : Int), ())).fst, (l.getD x.fst.toNat ((0 : Int), (0 : Int), (0 :
  Int), ())).snd.fst, (l.getD x.fst.toNat ((0 : Int), (0 : Int), (0 : Int), ())).snd.snd.fst, ())]) k, ofH (x.snd.snd.fst ++ [l.getD ((↑l.length : Int) - (1 : Int) - x.fst).toNat
  ((0 : Int), (0 : Int), (0 : Int), ())]) k, x.snd.snd.snd.fst, x.snd.snd.snd.snd.fst ++ [((l.getD x.fst.toNat ((0 : Int), (0 : Int), (0 : Int), ())).fst, (l.getD x.fst.toNat ((0 :
  Int), (0 : Int), (0 : Int), ())).snd.fst, (l.getD x.fst.toNat ((0 : Int), (0 : Int), (0 : Int), ())).snd.snd.fst, ())], x.snd.snd.snd.snd.snd.fst, x.snd.snd.snd.snd.snd.snd) ∧ μ
  (x.fst + (1 : Int), ofH (x.snd.fst ++ [((l.getD x.fst.toNat ((0 : Int), (0 : Int), (0 : Int), ())).fst, (l.getD x.fst.toNat ((0 : Int), (0 : Int), (0 : Int), ())).snd.fst,
  (l.getD x.fst.toNat ((0 : Int), (0 : Int), (0 : Int), ())).snd.snd.fst, ())]) k, ofH (x.snd.snd.fst ++ [l.getD ((↑l.length : Int) - (1 : Int) - x.fst).toNat ((0 : Int), (0 :
  Int), (0 : Int), ())]) k, x.snd.snd.snd.fst, x.snd.snd.snd.snd.fst ++ [((l.getD x.fst.toNat ((0 : Int), (0 : Int), (0 : Int), ())).fst, (l.getD x.fst.toNat ((0 : Int), (0 : Int),
  (0 : Int), ())).snd.fst, (l.getD x.fst.toNat ((0 : Int), (0 : Int), (0 : Int), ())).snd.snd.fst, ())], x.snd.snd.snd.snd.snd.fst, x.snd.snd.snd.snd.snd.snd) < μ x) ∧ roomP HL3
  (27 : Nat) (x.snd.snd.snd.snd.fst.length + [((l.getD x.fst.toNat ((0 : Int), (0 : Int), (0 : Int), ())).fst, (l.getD x.fst.toNat ((0 : Int), (0 : Int), (0 : Int), ())).snd.fst,
  (l.getD x.fst.toNat ((0 : Int), (0 : Int), (0 : Int), ())).snd.snd.fst, ())].length) ∧ ((0 : Int) ≤ (1 : Int) ∧ (1 : Int) < (4 : Int)) ∧ (x.snd.fst.length ≤ (900 : Nat) ∧ (0 :
  Int) ≤ k) ∧ isI64 ((↑l.length : Int) - (1 : Int)) ∧ isI64 ((↑l.length : Int) - (1 : Int) - x.fst) ∧ ((0 : Int) ≤ (↑l.length : Int) - (1 : Int) - x.fst ∧ (↑l.length : Int) - (1 :
  Int) - x.fst < (↑l.length : Int)) ∧ (x.snd.snd.fst.length ≤ (900 : Nat) ∧ (0 : Int) ≤ k) ∧ isI64 (x.fst + (1 : Int)) ∧ I (x.fst + (1 : Int), ofH (x.snd.fst ++ [((l.getD
  x.fst.toNat ((0 : Int), (0 : Int), (0 : Int), ())).fst, (l.getD x.fst.toNat ((0 : Int), (0 : Int), (0 : Int), ())).snd.fst, (l.getD x.fst.toNat ((0 : Int), (0 : Int), (0 : Int),
  ())).snd.snd.fst, ())]) k, ofH (x.snd.snd.fst ++ [l.getD ((↑l.length : Int) - (1 : Int) - x.fst).toNat ((0 : Int), (0 : Int), (0 : Int), ())]) k, x.snd.snd.snd.fst,
  x.snd.snd.snd.snd.fst ++ [((l.getD x.fst.toNat ((0 : Int), (0 : Int), (0 : Int), ())).fst, (l.getD x.fst.toNat ((0 : Int), (0 : Int), (0 : Int), ())).snd.fst, (l.getD x.fst.toNat
  ((0 : Int), (0 : Int), (0 : Int), ())).snd.snd.fst, ())], x.snd.snd.snd.snd.snd.fst, x.snd.snd.snd.snd.snd.snd) ∧ μ (x.fst + (1 : Int), ofH (x.snd.fst ++ [((l.getD x.fst.toNat
  ((0 : Int), (0 : Int), (0 : Int), ())).fst, (l.getD x.fst.toNat ((0 : Int), (0 : Int), (0 : Int), ())).snd.fst, (l.getD x.fst.toNat ((0 : Int), (0 : Int), (0 : Int),
  ())).snd.snd.fst, ())]) k, ofH (x.snd.snd.fst ++ [l.getD ((↑l.length : Int) - (1 : Int) - x.fst).toNat ((0 : Int), (0 : Int), (0 : Int), ())]) k, x.snd.snd.snd.fst,
  x.snd.snd.snd.snd.fst ++ [((l.getD x.fst.toNat ((0 : Int), (0 : Int), (0 : Int), ())).fst, (l.getD x.fst.toNat ((0 : Int), (0 : Int), (0 : Int), ())).snd.fst, (l.getD x.fst.toNat
  ((0 : Int), (0 : Int), (0 : Int), ())).snd.snd.fst, ())], x.snd.snd.snd.snd.snd.fst, x.snd.snd.snd.snd.snd.snd) < μ x) ∧ (((0 : Int) ≤ (1 : Int) ∧ (1 : Int) < (4 : Int)) ∧ (roomP
  HL3 (27 : Nat) (x.snd.snd.snd.snd.fst.length + [((l.getD x.fst.toNat ((0 : Int), (0 : Int), (0 : Int), ())).fst, (l.getD x.fst.toNat ((0 : Int), (0 : Int), (0 : Int),
  ())).snd.fst, (l.getD x.fst.toNat ((0 : Int), (0 : Int), (0 : Int), ())).snd.snd.fst, ())].length) ∧ ((0 : Int) ≤ (1 : Int) ∧ (1 : Int) < (4 : Int)) ∧ (x.snd.fst.length ≤ (900 :
  Nat) ∧ (0 : Int) ≤ k) ∧ isI64 ((↑l.length : Int) - (1 : Int)) ∧ isI64 ((↑l.length : Int) - (1 : Int) - x.fst) ∧ ((0 : Int) ≤ (↑l.length : Int) - (1 : Int) - x.fst ∧ (↑l.length :
  Int) - (1 : Int) - x.fst < (↑l.length : Int)) ∧ (x.snd.snd.fst.length ≤ (900 : Nat) ∧ (0 : Int) ≤ k) ∧ isI64 (x.fst + (1 : Int)) ∧ I (x.fst + (1 : Int), ofH (x.snd.fst ++
  [((l.getD x.fst.toNat ((0 : Int), (0 : Int), (0 : Int), ())).fst, (l.getD x.fst.toNat ((0 : Int), (0 : Int), (0 : Int), ())).snd.fst, (l.getD x.fst.toNat ((0 : Int), (0 : Int),
  (0 : Int), ())).snd.snd.fst, ())]) k, ofH (x.snd.snd.fst ++ [l.getD ((↑l.length : Int) - (1 : Int) - x.fst).toNat ((0 : Int), (0 : Int), (0 : Int), ())]) k, x.snd.snd.snd.fst,
  x.snd.snd.snd.snd.fst ++ [((l.getD x.fst.toNat ((0 : Int), (0 : Int), (0 : Int), ())).fst, (l.getD x.fst.toNat ((0 : Int), (0 : Int), (0 : Int), ())).snd.fst, (l.getD x.fst.toNat
  ((0 : Int), (0 : Int), (0 : Int), ())).snd.snd.fst, ())], x.snd.snd.snd.snd.snd.fst, x.snd.snd.snd.snd.snd.snd) ∧ μ (x.fst + (1 : Int), ofH (x.snd.fst ++ [((l.getD x.fst.toNat
  ((0 : Int), (0 : Int), (0 : Int), ())).fst, (l.getD x.fst.toNat ((0 : Int), (0 : Int), (0 : Int), ())).snd.fst, (l.getD x.fst.toNat ((0 : Int), (0 : Int), (0 : Int),
  ())).snd.snd.fst, ())]) k, ofH (x.snd.snd.fst ++ [l.getD ((↑l.length : Int) - (1 : Int) - x.fst).toNat ((0 : Int), (0 : Int), (0 : Int), ())]) k, x.snd.snd.snd.fst,
  x.snd.snd.snd.snd.fst ++ [((l.getD x.fst.toNat ((0 : Int), (0 : Int), (0 : Int), ())).fst, (l.getD x.fst.toNat ((0 : Int), (0 : Int), (0 : Int), ())).snd.fst, (l.getD x.fst.toNat
  ((0 : Int), (0 : Int), (0 : Int), ())).snd.snd.fst, ())], x.snd.snd.snd.snd.snd.fst, x.snd.snd.snd.snd.snd.snd) < μ x) ∧ roomP HL3 (27 : Nat) (x.snd.snd.snd.snd.fst.length +
  [((l.getD x.fst.toNat ((0 : Int), (0 : Int), (0 : Int), ())).fst, (l.getD x.fst.toNat ((0 : Int), (0 : Int), (0 : Int), ())).snd.fst, (l.getD x.fst.toNat ((0 : Int), (0 : Int),
  (0 : Int), ())).snd.snd.fst, ())].length) ∧ ((0 : Int) ≤ (1 : Int) ∧ (1 : Int) < (4 : Int)) ∧ (x.snd.fst.length ≤ (900 : Nat) ∧ (0 : Int) ≤ k) ∧ isI64 ((↑l.length : Int) - (1 :
  Int)) ∧ isI64 ((↑l.length : Int) - (1 : Int) - x.fst) ∧ ((0 : Int) ≤ (↑l.length : Int) - (1 : Int) - x.fst ∧ (↑l.length : Int) - (1 : Int) - x.fst < (↑l.length : Int)) ∧
  (x.snd.snd.fst.length ≤ (900 : Nat) ∧ (0 : Int) ≤ k) ∧ isI64 (x.fst + (1 : Int)) ∧ I (x.fst + (1 : Int), ofH (x.snd.fst ++ [((l.getD x.fst.toNat ((0 : Int), (0 : Int), (0 : Int),
  ())).fst, (l.getD x.fst.toNat ((0 : Int), (0 : Int), (0 : Int), ())).snd.fst, (l.getD x.fst.toNat ((0 : Int), (0 : Int), (0 : Int), ())).snd.snd.fst, ())]) k, ofH (x.snd.snd.fst
  ++ [l.getD ((↑l.length : Int) - (1 : Int) - x.fst).toNat ((0 : Int), (0 : Int), (0 : Int), ())]) k, x.snd.snd.snd.fst, x.snd.snd.snd.snd.fst ++ [((l.getD x.fst.toNat ((0 : Int),
  (0 : Int), (0 : Int), ())).fst, (l.getD x.fst.toNat ((0 : Int), (0 : Int), (0 : Int), ())).snd.fst, (l.getD x.fst.toNat ((0 : Int), (0 : Int), (0 : Int), ())).snd.snd.fst, ())],
  x.snd.snd.snd.snd.snd.fst, x.snd.snd.snd.snd.snd.snd) ∧ μ (x.fst + (1 : Int), ofH (x.snd.fst ++ [((l.getD x.fst.toNat ((0 : Int), (0 : Int), (0 : Int), ())).fst, (l.getD
  x.fst.toNat ((0 : Int), (0 : Int), (0 : Int), ())).snd.fst, (l.getD x.fst.toNat ((0 : Int), (0 : Int), (0 : Int), ())).snd.snd.fst, ())]) k, ofH (x.snd.snd.fst ++ [l.getD
  ((↑l.length : Int) - (1 : Int) - x.fst).toNat ((0 : Int), (0 : Int), (0 : Int), ())]) k, x.snd.snd.snd.fst, x.snd.snd.snd.snd.fst ++ [((l.getD x.fst.toNat ((0 : Int), (0 : Int),
  (0 : Int), ())).fst, (l.getD x.fst.toNat ((0 : Int), (0 : Int), (0 : Int), ())).snd.fst, (l.getD x.fst.toNat ((0 : Int), (0 : Int), (0 : Int), ())).snd.snd.fst, ())],
  x.snd.snd.snd.snd.snd.fst, x.snd.snd.snd.snd.snd.snd) < μ x) ∧ ((0 : Int) ≤ (1 : Int) ∧ (1 : Int) < (4 : Int)) ∧ roomP HL3 (27 : Nat) (x.snd.snd.snd.snd.fst.length + [((l.getD
  x.fst.toNat ((0 : Int), (0 : Int), (0 : Int), ())).fst, (l.getD x.fst.toNat ((0 : Int), (0 : Int), (0 : Int), ())).snd.fst, (l.getD x.fst.toNat ((0 : Int), (0 : Int), (0 : Int),
  ())).snd.snd.fst, ())].length) ∧ ((0 : Int) ≤ (1 : Int) ∧ (1 : Int) < (4 : Int)) ∧ (x.snd.fst.length ≤ (900 : Nat) ∧ (0 : Int) ≤ k) ∧ isI64 ((↑l.length : Int) - (1 : Int)) ∧
  isI64 ((↑l.length : Int) - (1 : Int) - x.fst) ∧ ((0 : Int) ≤ (↑l.length : Int) - (1 : Int) - x.fst ∧ (↑l.length : Int) - (1 : Int) - x.fst < (↑l.length : Int)) ∧
  (x.snd.snd.fst.length ≤ (900 : Nat) ∧ (0 : Int) ≤ k) ∧ isI64 (x.fst + (1 : Int)) ∧ I (x.fst + (1 : Int), ofH (x.snd.fst ++ [((l.getD x.fst.toNat ((0 : Int), (0 : Int), (0 : Int),
  ())).fst, (l.getD x.fst.toNat ((0 : Int), (0 : Int), (0 : Int), ())).snd.fst, (l.getD x.fst.toNat ((0 : Int), (0 : Int), (0 : Int), ())).snd.snd.fst, ())]) k, ofH (x.snd.snd.fst
  ++ [l.getD ((↑l.length : Int) - (1 : Int) - x.fst).toNat ((0 : Int), (0 : Int), (0 : Int), ())]) k, x.snd.snd.snd.fst, x.snd.snd.snd.snd.fst ++ [((l.getD x.fst.toNat ((0 : Int),
  (0 : Int), (0 : Int), ())).fst, (l.getD x.fst.toNat ((0 : Int), (0 : Int), (0 : Int), ())).snd.fst, (l.getD x.fst.toNat ((0 : Int), (0 : Int), (0 : Int), ())).snd.snd.fst, ())],
  x.snd.snd.snd.snd.snd.fst, x.snd.snd.snd.snd.snd.snd) ∧ μ (x.fst + (1 : Int), ofH (x.snd.fst ++ [((l.getD x.fst.toNat ((0 : Int), (0 : Int), (0 : Int), ())).fst, (l.getD
  x.fst.toNat ((0 : Int), (0 : Int), (0 : Int), ())).snd.fst, (l.getD x.fst.toNat ((0 : Int), (0 : Int), (0 : Int), ())).snd.snd.fst, ())]) k, ofH (x.snd.snd.fst ++ [l.getD
  ((↑l.length : Int) - (1 : Int) - x.fst).toNat ((0 : Int), (0 : Int), (0 : Int), ())]) k, x.snd.snd.snd.fst, x.snd.snd.snd.snd.fst ++ [((l.getD x.fst.toNat ((0 : Int), (0 : Int),
  (0 : Int), ())).fst, (l.getD x.fst.toNat ((0 : Int), (0 : Int), (0 : Int), ())).snd.fst, (l.getD x.fst.toNat ((0 : Int), (0 : Int), (0 : Int), ())).snd.snd.fst, ())],
  x.snd.snd.snd.snd.snd.fst, x.snd.snd.snd.snd.snd.snd) < μ x) ∧ ((IntKind.i64.wrap (part.getD (x.fst.tmod (↑part.length : Int)).toNat (0 : Int))).tmod (4 : Int) = (0 : Int) → (((0
  : Int) ≤ (0 : Int) ∧ (0 : Int) < (4 : Int)) ∧ (roomP HL3 (27 : Nat) (x.snd.snd.snd.fst.length + [((l.getD x.fst.toNat ((0 : Int), (0 : Int), (0 : Int), ())).fst, (l.getD
  x.fst.toNat ((0 : Int), (0 : Int), (0 : Int), ())).snd.fst, (l.getD x.fst.toNat ((0 : Int), (0 : Int), (0 : Int), ())).snd.snd.fst, ())].length) ∧ ((0 : Int) ≤ (0 : Int) ∧ (0 :
  Int) < (4 : Int)) ∧ (x.snd.fst.length ≤ (900 : Nat) ∧ (0 : Int) ≤ k) ∧ isI64 ((↑l.length : Int) - (1 : Int)) ∧ isI64 ((↑l.length : Int) - (1 : Int) - x.fst) ∧ ((0 : Int) ≤
  (↑l.length : Int) - (1 : Int) - x.fst ∧ (↑l.length : Int) - (1 : Int) - x.fst < (↑l.length : Int)) ∧ (x.snd.snd.fst.length ≤ (900 : Nat) ∧ (0 : Int) ≤ k) ∧ isI64 (x.fst + (1 :
  Int)) ∧ I (x.fst + (1 : Int), ofH (x.snd.fst ++ [((l.getD x.fst.toNat ((0 : Int), (0 : Int), (0 : Int), ())).fst, (l.getD x.fst.toNat ((0 : Int), (0 : Int), (0 : Int),
  ())).snd.fst, (l.getD x.fst.toNat ((0 : Int), (0 : Int), (0 : Int), ())).snd.snd.fst, ())]) k, ofH (x.snd.snd.fst ++ [l.getD ((↑l.length : Int) - (1 : Int) - x.fst).toNat ((0 :
  Int), (0 : Int), (0 : Int), ())]) k, x.snd.snd.snd.fst ++ [((l.getD x.fst.toNat ((0 : Int), (0 : Int), (0 : Int), ())).fst, (l.getD x.fst.toNat ((0 : Int), (0 : Int), (0 : Int),
  ())).snd.fst, (l.getD x.fst.toNat ((0 : Int), (0 : Int), (0 : Int), ())).snd.snd.fst, ())], x.snd.snd.snd.snd.fst, x.snd.snd.snd.snd.snd.fst, x.snd.snd.snd.snd.snd.snd) ∧ μ
  (x.fst + (1 : Int), ofH (x.snd.fst ++ [((l.getD x.fst.toNat ((0 : Int), (0 : Int), (0 : Int), ())).fst, (l.getD x.fst.toNat ((0 : Int), (0 : Int), (0 : Int), ())).snd.fst,
  (l.getD x.fst.toNat ((0 : Int), (0 : Int), (0 : Int), ())).snd.snd.fst, ())]) k, ofH (x.snd.snd.fst ++ [l.getD ((↑l.length : Int) - (1 : Int) - x.fst).toNat ((0 : Int), (0 :
  Int), (0 : Int), ())]) k, x.snd.snd.snd.fst ++ [((l.getD x.fst.toNat ((0 : Int), (0 : Int), (0 : Int), ())).fst, (l.getD x.fst.toNat ((0 : Int), (0 : Int), (0 : Int),
  ())).snd.fst, (l.getD x.fst.toNat ((0 : Int), (0 : Int), (0 : Int), ())).snd.snd.fst, ())], x.snd.snd.snd.snd.fst, x.snd.snd.snd.snd.snd.fst, x.snd.snd.snd.snd.snd.snd) < μ x) ∧
  (roomP HL3 (27 : Nat) (x.snd.snd.snd.fst.length + [((l.getD x.fst.toNat ((0 : Int), (0 : Int), (0 : Int), ())).fst, (l.getD x.fst.toNat ((0 : Int), (0 : Int), (0 : Int),
  ())).snd.fst, (l.getD x.fst.toNat ((0 : Int), (0 : Int), (0 : Int), ())).snd.snd.fst, ())].length) ∧ ((0 : Int) ≤ (0 : Int) ∧ (0 : Int) < (4 : Int)) ∧ (x.snd.fst.length ≤ (900 :
  Nat) ∧ (0 : Int) ≤ k) ∧ isI64 ((↑l.length : Int) - (1 : Int)) ∧ isI64 ((↑l.length : Int) - (1 : Int) - x.fst) ∧ ((0 : Int) ≤ (↑l.length : Int) - (1 : Int) - x.fst ∧ (↑l.length :
  Int) - (1 : Int) - x.fst < (↑l.length : Int)) ∧ (x.snd.snd.fst.length ≤ (900 : Nat) ∧ (0 : Int) ≤ k) ∧ isI64 (x.fst + (1 : Int)) ∧ I (x.fst + (1 : Int), ofH (x.snd.fst ++
  [((l.getD x.fst.toNat ((0 : Int), (0 : Int), (0 : Int), ())).fst, (l.getD x.fst.toNat ((0 : Int), (0 : Int), (0 : Int), ())).snd.fst, (l.getD x.fst.toNat ((0 : Int), (0 : Int),
  (0 : Int), ())).snd.snd.fst, ())]) k, ofH (x.snd.snd.fst ++ [l.getD ((↑l.length : Int) - (1 : Int) - x.fst).toNat ((0 : Int), (0 : Int), (0 : Int), ())]) k, x.snd.snd.snd.fst ++
  [((l.getD x.fst.toNat ((0 : Int), (0 : Int), (0 : Int), ())).fst, (l.getD x.fst.toNat ((0 : Int), (0 : Int), (0 : Int), ())).snd.fst, (l.getD x.fst.toNat ((0 : Int), (0 : Int),
  (0 : Int), ())).snd.snd.fst, ())], x.snd.snd.snd.snd.fst, x.snd.snd.snd.snd.snd.fst, x.snd.snd.snd.snd.snd.snd) ∧ μ (x.fst + (1 : Int), ofH (x.snd.fst ++ [((l.getD x.fst.toNat
  ((0 : Int), (0 : Int), (0 : Int), ())).fst, (l.getD x.fst.toNat ((0 : Int), (0 : Int), (0 : Int), ())).snd.fst, (l.getD x.fst.toNat ((0 : Int), (0 : Int), (0 : Int),
  ())).snd.snd.fst, ())]) k, ofH (x.snd.snd.fst ++ [l.getD ((↑l.length : Int) - (1 : Int) - x.fst).toNat ((0 : Int), (0 : Int), (0 : Int), ())]) k, x.snd.snd.snd.fst ++ [((l.getD
  x.fst.toNat ((0 : Int), (0 : Int), (0 : Int), ())).fst, (l.getD x.fst.toNat ((0 : Int), (0 : Int), (0 : Int), ())).snd.fst, (l.getD x.fst.toNat ((0 : Int), (0 : Int), (0 : Int),
  ())).snd.snd.fst, ())], x.snd.snd.snd.snd.fst, x.snd.snd.snd.snd.snd.fst, x.snd.snd.snd.snd.snd.snd) < μ x) ∧ roomP HL3 (27 : Nat) (x.snd.snd.snd.fst.length + [((l.getD
  x.fst.toNat ((0 : Int), (0 : Int), (0 : Int), ())).fst, (l.getD x.fst.toNat ((0 : Int), (0 : Int), (0 : Int), ())).snd.fst, (l.getD x.fst.toNat ((0 : Int), (0 : Int), (0 : Int),
  ())).snd.snd.fst, ())].length) ∧ ((0 : Int) ≤ (0 : Int) ∧ (0 : Int) < (4 : Int)) ∧ (x.snd.fst.length ≤ (900 : Nat) ∧ (0 : Int) ≤ k) ∧ isI64 ((↑l.length : Int) - (1 : Int)) ∧
  isI64 ((↑l.length : Int) - (1 : Int) - x.fst) ∧ ((0 : Int) ≤ (↑l.length : Int) - (1 : Int) - x.fst ∧ (↑l.length : Int) - (1 : Int) - x.fst < (↑l.length : Int)) ∧
  (x.snd.snd.fst.length ≤ (900 : Nat) ∧ (0 : Int) ≤ k) ∧ isI64 (x.fst + (1 : Int)) ∧ I (x.fst + (1 : Int), ofH (x.snd.fst ++ [((l.getD x.fst.toNat ((0 : Int), (0 : Int), (0 : Int),
  ())).fst, (l.getD x.fst.toNat ((0 : Int), (0 : Int), (0 : Int), ())).snd.fst, (l.getD x.fst.toNat ((0 : Int), (0 : Int), (0 : Int), ())).snd.snd.fst, ())]) k, ofH (x.snd.snd.fst
  ++ [l.getD ((↑l.length : Int) - (1 : Int) - x.fst).toNat ((0 : Int), (0 : Int), (0 : Int), ())]) k, x.snd.snd.snd.fst ++ [((l.getD x.fst.toNat ((0 : Int), (0 : Int), (0 : Int),
  ())).fst, (l.getD x.fst.toNat ((0 : Int), (0 : Int), (0 : Int), ())).snd.fst, (l.getD x.fst.toNat ((0 : Int), (0 : Int), (0 : Int), ())).snd.snd.fst, ())], x.snd.snd.snd.snd.fst,
  x.snd.snd.snd.snd.snd.fst, x.snd.snd.snd.snd.snd.snd) ∧ μ (x.fst + (1 : Int), ofH (x.snd.fst ++ [((l.getD x.fst.toNat ((0 : Int), (0 : Int), (0 : Int), ())).fst, (l.getD
  x.fst.toNat ((0 : Int), (0 : Int), (0 : Int), ())).snd.fst, (l.getD x.fst.toNat ((0 : Int), (0 : Int), (0 : Int), ())).snd.snd.fst, ())]) k, ofH (x.snd.snd.fst ++ [l.getD
  ((↑l.length : Int) - (1 : Int) - x.fst).toNat ((0 : Int), (0 : Int), (0 : Int), ())]) k, x.snd.snd.snd.fst ++ [((l.getD x.fst.toNat ((0 : Int), (0 : Int), (0 : Int), ())).fst,
  (l.getD x.fst.toNat ((0 : Int), (0 : Int), (0 : Int), ())).snd.fst, (l.getD x.fst.toNat ((0 : Int), (0 : Int), (0 : Int), ())).snd.snd.fst, ())], x.snd.snd.snd.snd.fst,
  x.snd.snd.snd.snd.snd.fst, x.snd.snd.snd.snd.snd.snd) < μ x) ∧ (((0 : Int) ≤ (0 : Int) ∧ (0 : Int) < (4 : Int)) ∧ (roomP HL3 (27 : Nat) (x.snd.snd.snd.fst.length + [((l.getD
  x.fst.toNat ((0 : Int), (0 : Int), (0 : Int), ())).fst, (l.getD x.fst.toNat ((0 : Int), (0 : Int), (0 : Int), ())).snd.fst, (l.getD x.fst.toNat ((0 : Int), (0 : Int), (0 : Int),
  ())).snd.snd.fst, ())].length) ∧ ((0 : Int) ≤ (0 : Int) ∧ (0 : Int) < (4 : Int)) ∧ (x.snd.fst.length ≤ (900 : Nat) ∧ (0 : Int) ≤ k) ∧ isI64 ((↑l.length : Int) - (1 : Int)) ∧
  isI64 ((↑l.length : Int) - (1 : Int) - x.fst) ∧ ((0 : Int) ≤ (↑l.length : Int) - (1 : Int) - x.fst ∧ (↑l.length : Int) - (1 : Int) - x.fst < (↑l.length : Int)) ∧
  (x.snd.snd.fst.length ≤ (900 : Nat) ∧ (0 : Int) ≤ k) ∧ isI64 (x.fst + (1 : Int)) ∧ I (x.fst + (1 : Int), ofH (x.snd.fst ++ [((l.getD x.fst.toNat ((0 : Int), (0 : Int), (0 : Int),
  ())).fst, (l.getD x.fst.toNat ((0 : Int), (0 : Int), (0 : Int), ())).snd.fst, (l.getD x.fst.toNat ((0 : Int), (0 : Int), (0 : Int), ())).snd.snd.fst, ())]) k, ofH (x.snd.snd.fst
  ++ [l.getD ((↑l.length : Int) - (1 : Int) - x.fst).toNat ((0 : Int), (0 : Int), (0 : Int), ())]) k, x.snd.snd.snd.fst ++ [((l.getD x.fst.toNat ((0 : Int), (0 : Int), (0 : Int),
  ())).fst, (l.getD x.fst.toNat ((0 : Int), (0 : Int), (0 : Int), ())).snd.fst, (l.getD x.fst.toNat ((0 : Int), (0 : Int), (0 : Int), ())).snd.snd.fst, ())], x.snd.snd.snd.snd.fst,
  x.snd.snd.snd.snd.snd.fst, x.snd.snd.snd.snd.snd.snd) ∧ μ (x.fst + (1 : Int), ofH (x.snd.fst ++ [((l.getD x.fst.toNat ((0 : Int), (0 : Int), (0 : Int), ())).fst, (l.getD
  x.fst.toNat ((0 : Int), (0 : Int), (0 : Int), ())).snd.fst, (l.getD x.fst.toNat ((0 : Int), (0 : Int), (0 : Int), ())).snd.snd.fst, ())]) k, ofH (x.snd.snd.fst ++ [l.getD
  ((↑l.length : Int) - (1 : Int) - x.fst).toNat ((0 : Int), (0 : Int), (0 : Int), ())]) k, x.snd.snd.snd.fst ++ [((l.getD x.fst.toNat ((0 : Int), (0 : Int), (0 : Int), ())).fst,
  (l.getD x.fst.toNat ((0 : Int), (0 : Int), (0 : Int), ())).snd.fst, (l.getD x.fst.toNat ((0 : Int), (0 : Int), (0 : Int), ())).snd.snd.fst, ())], x.snd.snd.snd.snd.fst,
  x.snd.snd.snd.snd.snd.fst, x.snd.snd.snd.snd.snd.snd) < μ x) ∧ roomP HL3 (27 : Nat) (x.snd.snd.snd.fst.length + [((l.getD x.fst.toNat ((0 : Int), (0 : Int), (0 : Int), ())).fst,
  (l.getD x.fst.toNat ((0 : Int), (0 : Int), (0 : Int), ())).snd.fst, (l.getD x.fst.toNat ((0 : Int), (0 : Int), (0 : Int), ())).snd.snd.fst, ())].length) ∧ ((0 : Int) ≤ (0 : Int)
  ∧ (0 : Int) < (4 : Int)) ∧ (x.snd.fst.length ≤ (900 : Nat) ∧ (0 : Int) ≤ k) ∧ isI64 ((↑l.length : Int) - (1 : Int)) ∧ isI64 ((↑l.length : Int) - (1 : Int) - x.fst) ∧ ((0 : Int) ≤
  (↑l.length : Int) - (1 : Int) - x.fst ∧ (↑l.length : Int) - (1 : Int) - x.fst < (↑l.length : Int)) ∧ (x.snd.snd.fst.length ≤ (900 : Nat) ∧ (0 : Int) ≤ k) ∧ isI64 (x.fst + (1 :
  Int)) ∧ I (x.fst + (1 : Int), ofH (x.snd.fst ++ [((l.getD x.fst.toNat ((0 : Int), (0 : Int), (0 : Int), ())).fst, (l.getD x.fst.toNat ((0 : Int), (0 : Int), (0 : Int),
  ())).snd.fst, (l.getD x.fst.toNat ((0 : Int), (0 : Int), (0 : Int), ())).snd.snd.fst, ())]) k, ofH (x.snd.snd.fst ++ [l.getD ((↑l.length : Int) - (1 : Int) - x.fst).toNat ((0 :
  Int), (0 : Int), (0 : Int), ())]) k, x.snd.snd.snd.fst ++ [((l.getD x.fst.toNat ((0 : Int), (0 : Int), (0 : Int), ())).fst, (l.getD x.fst.toNat ((0 : Int), (0 : Int), (0 : Int),
  ())).snd.fst, (l.getD x.fst.toNat ((0 : Int), (0 : Int), (0 : Int), ())).snd.snd.fst, ())], x.snd.snd.snd.snd.fst, x.snd.snd.snd.snd.snd.fst, x.snd.snd.snd.snd.snd.snd) ∧ μ
  (x.fst + (1 : Int), ofH (x.snd.fst ++ [((l.getD x.fst.toNat ((0 : Int), (0 : Int), (0 : Int), ())).fst, (l.getD x.fst.toNat ((0 : Int), (0 : Int), (0 : Int), ())).snd.fst,
  (l.getD x.fst.toNat ((0 : Int), (0 : Int), (0 : Int), ())).snd.snd.fst, ())]) k, ofH (x.snd.snd.fst ++ [l.getD ((↑l.length : Int) - (1 : Int) - x.fst).toNat ((0 : Int), (0 :
  Int), (0 : Int), ())]) k, x.snd.snd.snd.fst ++ [((l.getD x.fst.toNat ((0 : Int), (0 : Int), (0 : Int), ())).fst, (l.getD x.fst.toNat ((0 : Int), (0 : Int), (0 : Int),
  ())).snd.fst, (l.getD x.fst.toNat ((0 : Int), (0 : Int), (0 : Int), ())).snd.snd.fst, ())], x.snd.snd.snd.snd.fst, x.snd.snd.snd.snd.snd.fst, x.snd.snd.snd.snd.snd.snd) < μ x) ∧
  ((0 : Int) ≤ (0 : Int) ∧ (0 : Int) < (4 : Int)) ∧ roomP HL3 (27 : Nat) (x.snd.snd.snd.fst.length + [((l.getD x.fst.toNat ((0 : Int), (0 : Int), (0 : Int), ())).fst, (l.getD
  x.fst.toNat ((0 : Int), (0 : Int), (0 : Int), ())).snd.fst, (l.getD x.fst.toNat ((0 : Int), (0 : Int), (0 : Int), ())).snd.snd.fst, ())].length) ∧ ((0 : Int) ≤ (0 : Int) ∧ (0 :
  Int) < (4 : Int)) ∧ (x.snd.fst.length ≤ (900 : Nat) ∧ (0 : Int) ≤ k) ∧ isI64 ((↑l.length : Int) - (1 : Int)) ∧ isI64 ((↑l.length : Int) - (1 : Int) - x.fst) ∧ ((0 : Int) ≤
  (↑l.length : Int) - (1 : Int) - x.fst ∧ (↑l.length : Int) - (1 : Int) - x.fst < (↑l.length : Int)) ∧ (x.snd.snd.fst.length ≤ (900 : Nat) ∧ (0 : Int) ≤ k) ∧ isI64 (x.fst + (1 :
  Int)) ∧ I (x.fst + (1 : Int), ofH (x.snd.fst ++ [((l.getD x.fst.toNat ((0 : Int), (0 : Int), (0 : Int), ())).fst, (l.getD x.fst.toNat ((0 : Int), (0 : Int), (0 : Int),
  ())).snd.fst, (l.getD x.fst.toNat ((0 : Int), (0 : Int), (0 : Int), ())).snd.snd.fst, ())]) k, ofH (x.snd.snd.fst ++ [l.getD ((↑l.length : Int) - (1 : Int) - x.fst).toNat ((0 :
  Int), (0 : Int), (0 : Int), ())]) k, x.snd.snd.snd.fst ++ [((l.getD x.fst.toNat ((0 : Int), (0 : Int), (0 : Int), ())).fst, (l.getD x.fst.toNat ((0 : Int), (0 : Int), (0 : Int),
  ())).snd.fst, (l.getD x.fst.toNat ((0 : Int), (0 : Int), (0 : Int), ())).snd.snd.fst, ())], x.snd.snd.snd.snd.fst, x.snd.snd.snd.snd.snd.fst, x.snd.snd.snd.snd.snd.snd) ∧ μ
  (x.fst + (1 : Int), ofH (x.snd.fst ++ [((l.getD x.fst.toNat ((0 : Int), (0 : Int), (0 : Int), ())).fst, (l.getD x.fst.toNat ((0 : Int), (0 : Int), (0 : Int), ())).snd.fst,
  (l.getD x.fst.toNat ((0 : Int), (0 : Int), (0 : Int), ())).snd.snd.fst, ())]) k, ofH (x.snd.snd.fst ++ [l.getD ((↑l.length : Int) - (1 : Int) - x.fst).toNat ((0 : Int), (0 :
  Int), (0 : Int), ())]) k, x.snd.snd.snd.fst ++ [((l.getD x.fst.toNat ((0 : Int), (0 : Int), (0 : Int), ())).fst, (l.getD x.fst.toNat ((0 : Int), (0 : Int), (0 : Int),
  ())).snd.fst, (l.getD x.fst.toNat ((0 : Int), (0 : Int), (0 : Int), ())).snd.snd.fst, ())], x.snd.snd.snd.snd.fst, x.snd.snd.snd.snd.snd.fst, x.snd.snd.snd.snd.snd.snd) < μ x) ∧
  True) ∧ (decide ((0 : Int) < (↑part.length : Int)) = false → ((0 : Int) ≤ (0 : Int) ∧ (0 : Int) < (4 : Int)) ∧ ((0 : Int) = (3 : Int) → (((0 : Int) ≤ (3 : Int) ∧ (3 : Int) < (4 :
  Int)) ∧ (roomP HL3 (27 : Nat) (x.snd.snd.snd.snd.snd.snd.length + [((l.getD x.fst.toNat ((0 : Int), (0 : Int), (0 : Int), ())).fst, (l.getD x.fst.toNat ((0 : Int), (0 : Int), (0
  : Int), ())).snd.fst, (l.getD x.fst.toNat ((0 : Int), (0 : Int), (0 : Int), ())).snd.snd.fst, ())].length) ∧ ((0 : Int) ≤ (3 : Int) ∧ (3 : Int) < (4 : Int)) ∧ (x.snd.fst.length ≤
  (900 : Nat) ∧ (0 : Int) ≤ k) ∧ isI64 ((↑l.length : Int) - (1 : Int)) ∧ isI64 ((↑l.length : Int) - (1 : Int) - x.fst) ∧ ((0 : Int) ≤ (↑l.length : Int) - (1 : Int) - x.fst ∧
  (↑l.length : Int) - (1 : Int) - x.fst < (↑l.length : Int)) ∧ (x.snd.snd.fst.length ≤ (900 : Nat) ∧ (0 : Int) ≤ k) ∧ isI64 (x.fst + (1 : Int)) ∧ I (x.fst + (1 : Int), ofH
  (x.snd.fst ++ [((l.getD x.fst.toNat ((0 : Int), (0 : Int), (0 : Int), ())).fst, (l.getD x.fst.toNat ((0 : Int), (0 : Int), (0 : Int), ())).snd.fst, (l.getD x.fst.toNat ((0 :
  Int), (0 : Int), (0 : Int), ())).snd.snd.fst, ())]) k, ofH (x.snd.snd.fst ++ [l.getD ((↑l.length : Int) - (1 : Int) - x.fst).toNat ((0 : Int), (0 : Int), (0 : Int), ())]) k,
  x.snd.snd.snd.fst, x.snd.snd.snd.snd.fst, x.snd.snd.snd.snd.snd.fst, x.snd.snd.snd.snd.snd.snd ++ [((l.getD x.fst.toNat ((0 : Int), (0 : Int), (0 : Int), ())).fst, (l.getD
  x.fst.toNat ((0 : Int), (0 : Int), (0 : Int), ())).snd.fst, (l.getD x.fst.toNat ((0 : Int), (0 : Int), (0 : Int), ())).snd.snd.fst, ())]) ∧ μ (x.fst + (1 : Int), ofH (x.snd.fst
  ++ [((l.getD x.fst.toNat ((0 : Int), (0 : Int), (0 : Int), ())).fst, (l.getD x.fst.toNat ((0 : Int), (0 : Int), (0 : Int), ())).snd.fst, (l.getD x.fst.toNat ((0 : Int), (0 :
  Int), (0 : Int), ())).snd.snd.fst, ())]) k, ofH (x.snd.snd.fst ++ [l.getD ((↑l.length : Int) - (1 : Int) - x.fst).toNat ((0 : Int), (0 : Int), (0 : Int), ())]) k,
  x.snd.snd.snd.fst, x.snd.snd.snd.snd.fst, x.snd.snd.snd.snd.snd.fst, x.snd.snd.snd.snd.snd.snd ++ [((l.getD x.fst.toNat ((0 : Int), (0 : Int), (0 : Int), ())).fst, (l.getD
  x.fst.toNat ((0 : Int), (0 : Int), (0 : Int), ())).snd.fst, (l.getD x.fst.toNat ((0 : Int), (0 : Int), (0 : Int), ())).snd.snd.fst, ())]) < μ x) ∧ (roomP HL3 (27 : Nat)
  (x.snd.snd.snd.snd.snd.snd.length + [((l.getD x.fst.toNat ((0 : Int), (0 : Int), (0 : Int), ())).fst, (l.getD x.fst.toNat ((0 : Int), (0 : Int), (0 : Int), ())).snd.fst, (l.getD
  x.fst.toNat ((0 : Int), (0 : Int), (0 : Int), ())).snd.snd.fst, ())].length) ∧ ((0 : Int) ≤ (3 : Int) ∧ (3 : Int) < (4 : Int)) ∧ (x.snd.fst.length ≤ (900 : Nat) ∧ (0 : Int) ≤ k)
  ∧ isI64 ((↑l.length : Int) - (1 : Int)) ∧ isI64 ((↑l.length : Int) - (1 : Int) - x.fst) ∧ ((0 : Int) ≤ (↑l.length : Int) - (1 : Int) - x.fst ∧ (↑l.length : Int) - (1 : Int) -
  x.fst < (↑l.length : Int)) ∧ (x.snd.snd.fst.length ≤ (900 : Nat) ∧ (0 : Int) ≤ k) ∧ isI64 (x.fst + (1 : Int)) ∧ I (x.fst + (1 : Int), ofH (x.snd.fst ++ [((l.getD x.fst.toNat ((0
  : Int), (0 : Int), (0 : Int), ())).fst, (l.getD x.fst.toNat ((0 : Int), (0 : Int), (0 : Int), ())).snd.fst, (l.getD x.fst.toNat ((0 : Int), (0 : Int), (0 : Int),
  ())).snd.snd.fst, ())]) k, ofH (x.snd.snd.fst ++ [l.getD ((↑l.length : Int) - (1 : Int) - x.fst).toNat ((0 : Int), (0 : Int), (0 : Int), ())]) k, x.snd.snd.snd.fst,
  x.snd.snd.snd.snd.fst, x.snd.snd.snd.snd.snd.fst, x.snd.snd.snd.snd.snd.snd ++ [((l.getD x.fst.toNat ((0 : Int), (0 : Int), (0 : Int), ())).fst, (l.getD x.fst.toNat ((0 : Int),
  (0 : Int), (0 : Int), ())).snd.fst, (l.getD x.fst.toNat ((0 : Int), (0 : Int), (0 : Int), ())).snd.snd.fst, ())]) ∧ μ (x.fst + (1 : Int), ofH (x.snd.fst ++ [((l.getD x.fst.toNat
  ((0 : Int), (0 : Int), (0 : Int), ())).fst, (l.getD x.fst.toNat ((0 : Int), (0 : Int), (0 : Int), ())).snd.fst, (l.getD x.fst.toNat ((0 : Int), (0 : Int), (0 : Int),
  ())).snd.snd.fst, ())]) k, ofH (x.snd.snd.fst ++ [l.getD ((↑l.length : Int) - (1 : Int) - x.fst).toNat ((0 : Int), (0 : Int), (0 : Int), ())]) k, x.snd.snd.snd.fst,
  x.snd.snd.snd.snd.fst, x.snd.snd.snd.snd.snd.fst, x.snd.snd.snd.snd.snd.snd ++ [((l.getD x.fst.toNat ((0 : Int), (0 : Int), (0 : Int), ())).fst, (l.getD x.fst.toNat ((0 : Int),
  (0 : Int), (0 : Int), ())).snd.fst, (l.getD x.fst.toNat ((0 : Int), (0 : Int), (0 : Int), ())).snd.snd.fst, ())]) < μ x) ∧ roomP HL3 (27 : Nat) (x.snd.snd.snd.snd.snd.snd.length
  + [((l.getD x.fst.toNat ((0 : Int), (0 : Int), (0 : Int), ())).fst, (l.getD x.fst.toNat ((0 : Int), (0 : Int), (0 : Int), ())).snd.fst, (l.getD x.fst.toNat ((0 : Int), (0 : Int),
  (0 : Int), ())).snd.snd.fst, ())].length) ∧ ((0 : Int) ≤ (3 : Int) ∧ (3 : Int) < (4 : Int)) ∧ (x.snd.fst.length ≤ (900 : Nat) ∧ (0 : Int) ≤ k) ∧ isI64 ((↑l.length : Int) - (1 :
  Int)) ∧ isI64 ((↑l.length : Int) - (1 : Int) - x.fst) ∧ ((0 : Int) ≤ (↑l.length : Int) - (1 : Int) - x.fst ∧ (↑l.length : Int) - (1 : Int) - x.fst < (↑l.length : Int)) ∧
  (x.snd.snd.fst.length ≤ (900 : Nat) ∧ (0 : Int) ≤ k) ∧ isI64 (x.fst + (1 : Int)) ∧ I (x.fst + (1 : Int), ofH (x.snd.fst ++ [((l.getD x.fst.toNat ((0 : Int), (0 : Int), (0 : Int),
  ())).fst, (l.getD x.fst.toNat ((0 : Int), (0 : Int), (0 : Int), ())).snd.fst, (l.getD x.fst.toNat ((0 : Int), (0 : Int), (0 : Int), ())).snd.snd.fst, ())]) k, ofH (x.snd.snd.fst
  ++ [l.getD ((↑l.length : Int) - (1 : Int) - x.fst).toNat ((0 : Int), (0 : Int), (0 : Int), ())]) k, x.snd.snd.snd.fst, x.snd.snd.snd.snd.fst, x.snd.snd.snd.snd.snd.fst,
  x.snd.snd.snd.snd.snd.snd ++ [((l.getD x.fst.toNat ((0 : Int), (0 : Int), (0 : Int), ())).fst, (l.getD x.fst.toNat ((0 : Int), (0 : Int), (0 : Int), ())).snd.fst, (l.getD
  x.fst.toNat ((0 : Int), (0 : Int), (0 : Int), ())).snd.snd.fst, ())]) ∧ μ (x.fst + (1 : Int), ofH (x.snd.fst ++ [((l.getD x.fst.toNat ((0 : Int), (0 : Int), (0 : Int), ())).fst,
  (l.getD x.fst.toNat ((0 : Int), (0 : Int), (0 : Int), ())).snd.fst, (l.getD x.fst.toNat ((0 : Int), (0 : Int), (0 : Int), ())).snd.snd.fst, ())]) k, ofH (x.snd.snd.fst ++ [l.getD
  ((↑l.length : Int) - (1 : Int) - x.fst).toNat ((0 : Int), (0 : Int), (0 : Int), ())]) k, x.snd.snd.snd.fst, x.snd.snd.snd.snd.fst, x.snd.snd.snd.snd.snd.fst,
  x.snd.snd.snd.snd.snd.snd ++ [((l.getD x.fst.toNat ((0 : Int), (0 : Int), (0 : Int), ())).fst, (l.getD x.fst.toNat ((0 : Int), (0 : Int), (0 : Int), ())).snd.fst, (l.getD
  x.fst.toNat ((0 : Int), (0 : Int), (0 : Int), ())).snd.snd.fst, ())]) < μ x) ∧ (((0 : Int) ≤ (3 : Int) ∧ (3 : Int) < (4 : Int)) ∧ (roomP HL3 (27 : Nat)
  (x.snd.snd.snd.snd.snd.snd.length + [((l.getD x.fst.toNat ((0 : Int), (0 : Int), (0 : Int), ())).fst, (l.getD x.fst.toNat ((0 : Int), (0 : Int), (0 : Int), ())).snd.fst, (l.getD
  x.fst.toNat ((0 : Int), (0 : Int), (0 : Int), ())).snd.snd.fst, ())].length) ∧ ((0 : Int) ≤ (3 : Int) ∧ (3 : Int) < (4 : Int)) ∧ (x.snd.fst.length ≤ (900 : Nat) ∧ (0 : Int) ≤ k)
  ∧ isI64 ((↑l.length : Int) - (1 : Int)) ∧ isI64 ((↑l.length : Int) - (1 : Int) - x.fst) ∧ ((0 : Int) ≤ (↑l.length : Int) - (1 : Int) - x.fst ∧ (↑l.length : Int) - (1 : Int) -
  x.fst < (↑l.length : Int)) ∧ (x.snd.snd.fst.length ≤ (900 : Nat) ∧ (0 : Int) ≤ k) ∧ isI64 (x.fst + (1 : Int)) ∧ I (x.fst + (1 : Int), ofH (x.snd.fst ++ [((l.getD x.fst.toNat ((0
  : Int), (0 : Int), (0 : Int), ())).fst, (l.getD x.fst.toNat ((0 : Int), (0 : Int), (0 : Int), ())).snd.fst, (l.getD x.fst.toNat ((0 : Int), (0 : Int), (0 : Int),
  ())).snd.snd.fst, ())]) k, ofH (x.snd.snd.fst ++ [l.getD ((↑l.length : Int) - (1 : Int) - x.fst).toNat ((0 : Int), (0 : Int), (0 : Int), ())]) k, x.snd.snd.snd.fst,
  x.snd.snd.snd.snd.fst, x.snd.snd.snd.snd.snd.fst, x.snd.snd.snd.snd.snd.snd ++ [((l.getD x.fst.toNat ((0 : Int), (0 : Int), (0 : Int), ())).fst, (l.getD x.fst.toNat ((0 : Int),
  (0 : Int), (0 : Int), ())).snd.fst, (l.getD x.fst.toNat ((0 : Int), (0 : Int), (0 : Int), ())).snd.snd.fst, ())]) ∧ μ (x.fst + (1 : Int), ofH (x.snd.fst ++ [((l.getD x.fst.toNat
  ((0 : Int), (0 : Int), (0 : Int), ())).fst, (l.getD x.fst.toNat ((0 : Int), (0 : Int), (0 : Int), ())).snd.fst, (l.getD x.fst.toNat ((0 : Int), (0 : Int), (0 : Int),
  ())).snd.snd.fst, ())]) k, ofH (x.snd.snd.fst ++ [l.getD ((↑l.length : Int) - (1 : Int) - x.fst).toNat ((0 : Int), (0 : Int), (0 : Int), ())]) k, x.snd.snd.snd.fst,
  x.snd.snd.snd.snd.fst, x.snd.snd.snd.snd.snd.fst, x.snd.snd.snd.snd.snd.snd ++ [((l.getD x.fst.toNat ((0 : Int), (0 : Int), (0 : Int), ())).fst, (l.getD x.fst.toNat ((0 : Int),
  (0 : Int), (0 : Int), ())).snd.fst, (l.getD x.fst.toNat ((0 : Int), (0 : Int), (0 : Int), ())).snd.snd.fst, ())]) < μ x) ∧ roomP HL3 (27 : Nat) (x.snd.snd.snd.snd.snd.snd.length
  + [((l.getD x.fst.toNat ((0 : Int), (0 : Int), (0 : Int), ())).fst, (l.getD x.fst.toNat ((0 : Int), (0 : Int), (0 : Int), ())).snd.fst, (l.getD x.fst.toNat ((0 : Int), (0 : Int),
  (0 : Int), ())).snd.snd.fst, ())].length) ∧ ((0 : Int) ≤ (3 : Int) ∧ (3 : Int) < (4 : Int)) ∧ (x.snd.fst.length ≤ (900 : Nat) ∧ (0 : Int) ≤ k) ∧ isI64 ((↑l.length : Int) - (1 :
  Int)) ∧ isI64 ((↑l.length : Int) - (1 : Int) - x.fst) ∧ ((0 : Int) ≤ (↑l.length : Int) - (1 : Int) - x.fst ∧ (↑l.length : Int) - (1 : Int) - x.fst < (↑l.length : Int)) ∧
  (x.snd.snd.fst.length ≤ (900 : Nat) ∧ (0 : Int) ≤ k) ∧ isI64 (x.fst + (1 : Int)) ∧ I (x.fst + (1 : Int), ofH (x.snd.fst ++ [((l.getD x.fst.toNat ((0 : Int), (0 : Int), (0 : Int),
  ())).fst, (l.getD x.fst.toNat ((0 : Int), (0 : Int), (0 : Int), ())).snd.fst, (l.getD x.fst.toNat ((0 : Int), (0 : Int), (0 : Int), ())).snd.snd.fst, ())]) k, ofH (x.snd.snd.fst
  ++ [l.getD ((↑l.length : Int) - (1 : Int) - x.fst).toNat ((0 : Int), (0 : Int), (0 : Int), ())]) k, x.snd.snd.snd.fst, x.snd.snd.snd.snd.fst, x.snd.snd.snd.snd.snd.fst,
  x.snd.snd.snd.snd.snd.snd ++ [((l.getD x.fst.toNat ((0 : Int), (0 : Int), (0 : Int), ())).fst, (l.getD x.fst.toNat ((0 : Int), (0 : Int), (0 : Int), ())).snd.fst, (l.getD
  x.fst.toNat ((0 : Int), (0 : Int), (0 : Int), ())).snd.snd.fst, ())]) ∧ μ (x.fst + (1 : Int), ofH (x.snd.fst ++ [((l.getD x.fst.toNat ((0 : Int), (0 : Int), (0 : Int), ())).fst,
  (l.getD x.fst.toNat ((0 : Int), (0 : Int), (0 : Int), ())).snd.fst, (l.getD x.fst.toNat ((0 : Int), (0 : Int), (0 : Int), ())).snd.snd.fst, ())]) k, ofH (x.snd.snd.fst ++ [l.getD
  ((↑l.length : Int) - (1 : Int) - x.fst).toNat ((0 : Int), (0 : Int), (0 : Int), ())]) k, x.snd.snd.snd.fst, x.snd.snd.snd.snd.fst, x.snd.snd.snd.snd.snd.fst,
  x.snd.snd.snd.snd.snd.snd ++ [((l.getD x.fst.toNat ((0 : Int), (0 : Int), (0 : Int), ())).fst, (l.getD x.fst.toNat ((0 : Int), (0 : Int), (0 : Int), ())).snd.fst, (l.getD
  x.fst.toNat ((0 : Int), (0 : Int), (0 : Int), ())).snd.snd.fst, ())]) < μ x) ∧ ((0 : Int) ≤ (3 : Int) ∧ (3 : Int) < (4 : Int)) ∧ roomP HL3 (27 : Nat)
  (x.snd.snd.snd.snd.snd.snd.length + [((l.getD x.fst.toNat ((0 : Int), (0 : Int), (0 : Int), ())).fst, (l.getD x.fst.toNat ((0 : Int), (0 : Int), (0 : Int), ())).snd.fst, (l.getD
  x.fst.toNat ((0 : Int), (0 : Int), (0 : Int), ())).snd.snd.fst, ())].length) ∧ ((0 : Int) ≤ (3 : Int) ∧ (3 : Int) < (4 : Int)) ∧ (x.snd.fst.length ≤ (900 : Nat) ∧ (0 : Int) ≤ k)
  ∧ isI64 ((↑l.length : Int) - (1 : Int)) ∧ isI64 ((↑l.length : Int) - (1 : Int) - x.fst) ∧ ((0 : Int) ≤ (↑l.length : Int) - (1 : Int) - x.fst ∧ (↑l.length : Int) - (1 : Int) -
  x.fst < (↑l.length : Int)) ∧ (x.snd.snd.fst.length ≤ (900 : Nat) ∧ (0 : Int) ≤ k) ∧ isI64 (x.fst + (1 : Int)) ∧ I (x.fst + (1 : Int), ofH (x.snd.fst ++ [((l.getD x.fst.toNat ((0
  : Int), (0 : Int), (0 : Int), ())).fst, (l.getD x.fst.toNat ((0 : Int), (0 : Int), (0 : Int), ())).snd.fst, (l.getD x.fst.toNat ((0 : Int), (0 : Int), (0 : Int),
  ())).snd.snd.fst, ())]) k, ofH (x.snd.snd.fst ++ [l.getD ((↑l.length : Int) - (1 : Int) - x.fst).toNat ((0 : Int), (0 : Int), (0 : Int), ())]) k, x.snd.snd.snd.fst,
  x.snd.snd.snd.snd.fst, x.snd.snd.snd.snd.snd.fst, x.snd.snd.snd.snd.snd.snd ++ [((l.getD x.fst.toNat ((0 : Int), (0 : Int), (0 : Int), ())).fst, (l.getD x.fst.toNat ((0 : Int),
  (0 : Int), (0 : Int), ())).snd.fst, (l.getD x.fst.toNat ((0 : Int), (0 : Int), (0 : Int), ())).snd.snd.fst, ())]) ∧ μ (x.fst + (1 : Int), ofH (x.snd.fst ++ [((l.getD x.fst.toNat
  ((0 : Int), (0 : Int), (0 : Int), ())).fst, (l.getD x.fst.toNat ((0 : Int), (0 : Int), (0 : Int), ())).snd.fst, (l.getD x.fst.toNat ((0 : Int), (0 : Int), (0 : Int),
  ())).snd.snd.fst, ())]) k, ofH (x.snd.snd.fst ++ [l.getD ((↑l.length : Int) - (1 : Int) - x.fst).toNat ((0 : Int), (0 : Int), (0 : Int), ())]) k, x.snd.snd.snd.fst,
  x.snd.snd.snd.snd.fst, x.snd.snd.snd.snd.snd.fst, x.snd.snd.snd.snd.snd.snd ++ [((l.getD x.fst.toNat ((0 : Int), (0 : Int), (0 : Int), ())).fst, (l.getD x.fst.toNat ((0 : Int),
  (0 : Int), (0 : Int), ())).snd.fst, (l.getD x.fst.toNat ((0 : Int), (0 : Int), (0 : Int), ())).snd.snd.fst, ())]) < μ x) ∧ ((0 : Int) = (2 : Int) → (((0 : Int) ≤ (2 : Int) ∧ (2 :
  Int) < (4 : Int)) ∧ (roomP HL3 (27 : Nat) (x.snd.snd.snd.snd.snd.fst.length + [((l.getD x.fst.toNat ((0 : Int), (0 : Int), (0 : Int), ())).fst, (l.getD x.fst.toNat ((0 : Int), (0
  : Int), (0 : Int), ())).snd.fst, (l.getD x.fst.toNat ((0 : Int), (0 : Int), (0 : Int), ())).snd.snd.fst, ())].length) ∧ ((0 : Int) ≤ (2 : Int) ∧ (2 : Int) < (4 : Int)) ∧
  (x.snd.fst.length ≤ (900 : Nat) ∧ (0 : Int) ≤ k) ∧ isI64 ((↑l.length : Int) - (1 : Int)) ∧ isI64 ((↑l.length : Int) - (1 : Int) - x.fst) ∧ ((0 : Int) ≤ (↑l.length : Int) - (1 :
  Int) - x.fst ∧ (↑l.length : Int) - (1 : Int) - x.fst < (↑l.length : Int)) ∧ (x.snd.snd.fst.length ≤ (900 : Nat) ∧ (0 : Int) ≤ k) ∧ isI64 (x.fst + (1 : Int)) ∧ I (x.fst + (1 :
  Int), ofH (x.snd.fst ++ [((l.getD x.fst.toNat ((0 : Int), (0 : Int), (0 : Int), ())).fst, (l.getD x.fst.toNat ((0 : Int), (0 : Int), (0 : Int), ())).snd.fst, (l.getD x.fst.toNat
  ((0 : Int), (0 : Int), (0 : Int), ())).snd.snd.fst, ())]) k, ofH (x.snd.snd.fst ++ [l.getD ((↑l.length : Int) - (1 : Int) - x.fst).toNat ((0 : Int), (0 : Int), (0 : Int), ())])
  k, x.snd.snd.snd.fst, x.snd.snd.snd.snd.fst, x.snd.snd.snd.snd.snd.fst ++ [((l.getD x.fst.toNat ((0 : Int), (0 : Int), (0 : Int), ())).fst, (l.getD x.fst.toNat ((0 : Int), (0 :
  Int), (0 : Int), ())).snd.fst, (l.getD x.fst.toNat ((0 : Int), (0 : Int), (0 : Int), ())).snd.snd.fst, ())], x.snd.snd.snd.snd.snd.snd) ∧ μ (x.fst + (1 : Int), ofH (x.snd.fst ++
  [((l.getD x.fst.toNat ((0 : Int), (0 : Int), (0 : Int), ())).fst, (l.getD x.fst.toNat ((0 : Int), (0 : Int), (0 : Int), ())).snd.fst, (l.getD x.fst.toNat ((0 : Int), (0 : Int),
  (0 : Int), ())).snd.snd.fst, ())]) k, ofH (x.snd.snd.fst ++ [l.getD ((↑l.length : Int) - (1 : Int) - x.fst).toNat ((0 : Int), (0 : Int), (0 : Int), ())]) k, x.snd.snd.snd.fst,
  x.snd.snd.snd.snd.fst, x.snd.snd.snd.snd.snd.fst ++ [((l.getD x.fst.toNat ((0 : Int), (0 : Int), (0 : Int), ())).fst, (l.getD x.fst.toNat ((0 : Int), (0 : Int), (0 : Int),
  ())).snd.fst, (l.getD x.fst.toNat ((0 : Int), (0 : Int), (0 : Int), ())).snd.snd.fst, ())], x.snd.snd.snd.snd.snd.snd) < μ x) ∧ (roomP HL3 (27 : Nat)
  (x.snd.snd.snd.snd.snd.fst.length + [((l.getD x.fst.toNat ((0 : Int), (0 : Int), (0 : Int), ())).fst, (l.getD x.fst.toNat ((0 : Int), (0 : Int), (0 : Int), ())).snd.fst, (l.getD
  x.fst.toNat ((0 : Int), (0 : Int), (0 : Int), ())).snd.snd.fst, ())].length) ∧ ((0 : Int) ≤ (2 : Int) ∧ (2 : Int) < (4 : Int)) ∧ (x.snd.fst.length ≤ (900 : Nat) ∧ (0 : Int) ≤ k)
  ∧ isI64 ((↑l.length : Int) - (1 : Int)) ∧ isI64 ((↑l.length : Int) - (1 : Int) - x.fst) ∧ ((0 : Int) ≤ (↑l.length : Int) - (1 : Int) - x.fst ∧ (↑l.length : Int) - (1 : Int) -
  x.fst < (↑l.length : Int)) ∧ (x.snd.snd.fst.length ≤ (900 : Nat) ∧ (0 : Int) ≤ k) ∧ isI64 (x.fst + (1 : Int)) ∧ I (x.fst + (1 : Int), ofH (x.snd.fst ++ [((l.getD x.fst.toNat ((0
  : Int), (0 : Int), (0 : Int), ())).fst, (l.getD x.fst.toNat ((0 : Int), (0 : Int), (0 : Int), ())).snd.fst, (l.getD x.fst.toNat ((0 : Int), (0 : Int), (0 : Int),
  ())).snd.snd.fst, ())]) k, ofH (x.snd.snd.fst ++ [l.getD ((↑l.length : Int) - (1 : Int) - x.fst).toNat ((0 : Int), (0 : Int), (0 : Int), ())]) k, x.snd.snd.snd.fst,
  x.snd.snd.snd.snd.fst, x.snd.snd.snd.snd.snd.fst ++ [((l.getD x.fst.toNat ((0 : Int), (0 : Int), (0 : Int), ())).fst, (l.getD x.fst.toNat ((0 : Int), (0 : Int), (0 : Int),
  ())).snd.fst, (l.getD x.fst.toNat ((0 : Int), (0 : Int), (0 : Int), ())).snd.snd.fst, ())], x.snd.snd.snd.snd.snd.snd) ∧ μ (x.fst + (1 : Int), ofH (x.snd.fst ++ [((l.getD
  x.fst.toNat ((0 : Int), (0 : Int), (0 : Int), ())).fst, (l.getD x.fst.toNat ((0 : Int), (0 : Int), (0 : Int), ())).snd.fst, (l.getD x.fst.toNat ((0 : Int), (0 : Int), (0 : Int),
  ())).snd.snd.fst, ())]) k, ofH (x.snd.snd.fst ++ [l.getD ((↑l.length : Int) - (1 : Int) - x.fst).toNat ((0 : Int), (0 : Int), (0 : Int), ())]) k, x.snd.snd.snd.fst,
  x.snd.snd.snd.snd.fst, x.snd.snd.snd.snd.snd.fst ++ [((l.getD x.fst.toNat ((0 : Int), (0 : Int), (0 : Int), ())).fst, (l.getD x.fst.toNat ((0 : Int), (0 : Int), (0 : Int),
  ())).snd.fst, (l.getD x.fst.toNat ((0 : Int), (0 : Int), (0 : Int), ())).snd.snd.fst, ())], x.snd.snd.snd.snd.snd.snd) < μ x) ∧ roomP HL3 (27 : Nat)
  (x.snd.snd.snd.snd.snd.fst.length + [((l.getD x.fst.toNat ((0 : Int), (0 : Int), (0 : Int), ())).fst, (l.getD x.fst.toNat ((0 : Int), (0 : Int), (0 : Int), ())).snd.fst, (l.getD
  x.fst.toNat ((0 : Int), (0 : Int), (0 : Int), ())).snd.snd.fst, ())].length) ∧ ((0 : Int) ≤ (2 : Int) ∧ (2 : Int) < (4 : Int)) ∧ (x.snd.fst.length ≤ (900 : Nat) ∧ (0 : Int) ≤ k)
  ∧ isI64 ((↑l.length : Int) - (1 : Int)) ∧ isI64 ((↑l.length : Int) - (1 : Int) - x.fst) ∧ ((0 : Int) ≤ (↑l.length : Int) - (1 : Int) - x.fst ∧ (↑l.length : Int) - (1 : Int) -
  x.fst < (↑l.length : Int)) ∧ (x.snd.snd.fst.length ≤ (900 : Nat) ∧ (0 : Int) ≤ k) ∧ isI64 (x.fst + (1 : Int)) ∧ I (x.fst + (1 : Int), ofH (x.snd.fst ++ [((l.getD x.fst.toNat ((0
  : Int), (0 : Int), (0 : Int), ())).fst, (l.getD x.fst.toNat ((0 : Int), (0 : Int), (0 : Int), ())).snd.fst, (l.getD x.fst.toNat ((0 : Int), (0 : Int), (0 : Int),
  ())).snd.snd.fst, ())]) k, ofH (x.snd.snd.fst ++ [l.getD ((↑l.length : Int) - (1 : Int) - x.fst).toNat ((0 : Int), (0 : Int), (0 : Int), ())]) k, x.snd.snd.snd.fst,
  x.snd.snd.snd.snd.fst, x.snd.snd.snd.snd.snd.fst ++ [((l.getD x.fst.toNat ((0 : Int), (0 : Int), (0 : Int), ())).fst, (l.getD x.fst.toNat ((0 : Int), (0 : Int), (0 : Int),
  ())).snd.fst, (l.getD x.fst.toNat ((0 : Int), (0 : Int), (0 : Int), ())).snd.snd.fst, ())], x.snd.snd.snd.snd.snd.snd) ∧ μ (x.fst + (1 : Int), ofH (x.snd.fst ++ [((l.getD
  x.fst.toNat ((0 : Int), (0 : Int), (0 : Int), ())).fst, (l.getD x.fst.toNat ((0 : Int), (0 : Int), (0 : Int), ())).snd.fst, (l.getD x.fst.toNat ((0 : Int), (0 : Int), (0 : Int),
  ())).snd.snd.fst, ())]) k, ofH (x.snd.snd.fst ++ [l.getD ((↑l.length : Int) - (1 : Int) - x.fst).toNat ((0 : Int), (0 : Int), (0 : Int), ())]) k, x.snd.snd.snd.fst,
  x.snd.snd.snd.snd.fst, x.snd.snd.snd.snd.snd.fst ++ [((l.getD x.fst.toNat ((0 : Int), (0 : Int), (0 : Int), ())).fst, (l.getD x.fst.toNat ((0 : Int), (0 : Int), (0 : Int),
  ())).snd.fst, (l.getD x.fst.toNat ((0 : Int), (0 : Int), (0 : Int), ())).snd.snd.fst, ())], x.snd.snd.snd.snd.snd.snd) < μ x) ∧ (((0 : Int) ≤ (2 : Int) ∧ (2 : Int) < (4 : Int)) ∧
  (roomP HL3 (27 : Nat) (x.snd.snd.snd.snd.snd.fst.length + [((l.getD x.fst.toNat ((0 : Int), (0 : Int), (0 : Int), ())).fst, (l.getD x.fst.toNat ((0 : Int), (0 : Int), (0 : Int),
  ())).snd.fst, (l.getD x.fst.toNat ((0 : Int), (0 : Int), (0 : Int), ())).snd.snd.fst, ())].length) ∧ ((0 : Int) ≤ (2 : Int) ∧ (2 : Int) < (4 : Int)) ∧ (x.snd.fst.length ≤ (900 :
  Nat) ∧ (0 : Int) ≤ k) ∧ isI64 ((↑l.length : Int) - (1 : Int)) ∧ isI64 ((↑l.length : Int) - (1 : Int) - x.fst) ∧ ((0 : Int) ≤ (↑l.length : Int) - (1 : Int) - x.fst ∧ (↑l.length :
  Int) - (1 : Int) - x.fst < (↑l.length : Int)) ∧ (x.snd.snd.fst.length ≤ (900 : Nat) ∧ (0 : Int) ≤ k) ∧ isI64 (x.fst + (1 : Int)) ∧ I (x.fst + (1 : Int), ofH (x.snd.fst ++
  [((l.getD x.fst.toNat ((0 : Int), (0 : Int), (0 : Int), ())).fst, (l.getD x.fst.toNat ((0 : Int), (0 : Int), (0 : Int), ())).snd.fst, (l.getD x.fst.toNat ((0 : Int), (0 : Int),
  (0 : Int), ())).snd.snd.fst, ())]) k, ofH (x.snd.snd.fst ++ [l.getD ((↑l.length : Int) - (1 : Int) - x.fst).toNat ((0 : Int), (0 : Int), (0 : Int), ())]) k, x.snd.snd.snd.fst,
  x.snd.snd.snd.snd.fst, x.snd.snd.snd.snd.snd.fst ++ [((l.getD x.fst.toNat ((0 : Int), (0 : Int), (0 : Int), ())).fst, (l.getD x.fst.toNat ((0 : Int), (0 : Int), (0 : Int),
  ())).snd.fst, (l.getD x.fst.toNat ((0 : Int), (0 : Int), (0 : Int), ())).snd.snd.fst, ())], x.snd.snd.snd.snd.snd.snd) ∧ μ (x.fst + (1 : Int), ofH (x.snd.fst ++ [((l.getD
  x.fst.toNat ((0 : Int), (0 : Int), (0 : Int), ())).fst, (l.getD x.fst.toNat ((0 : Int), (0 : Int), (0 : Int), ())).snd.fst, (l.getD x.fst.toNat ((0 : Int), (0 : Int), (0 : Int),
  ())).snd.snd.fst, ())]) k, ofH (x.snd.snd.fst ++ [l.getD ((↑l.length : Int) - (1 : Int) - x.fst).toNat ((0 : Int), (0 : Int), (0 : Int), ())]) k, x.snd.snd.snd.fst,
  x.snd.snd.snd.snd.fst, x.snd.snd.snd.snd.snd.fst ++ [((l.getD x.fst.toNat ((0 : Int), (0 : Int), (0 : Int), ())).fst, (l.getD x.fst.toNat ((0 : Int), (0 : Int), (0 : Int),
  ())).snd.fst, (l.getD x.fst.toNat ((0 : Int), (0 : Int), (0 : Int), ())).snd.snd.fst, ())], x.snd.snd.snd.snd.snd.snd) < μ x) ∧ roomP HL3 (27 : Nat)
  (x.snd.snd.snd.snd.snd.fst.length + [((l.getD x.fst.toNat ((0 : Int), (0 : Int), (0 : Int), ())).fst, (l.getD x.fst.toNat ((0 : Int), (0 : Int), (0 : Int), ())).snd.fst, (l.getD
  x.fst.toNat ((0 : Int), (0 : Int), (0 : Int), ())).snd.snd.fst, ())].length) ∧ ((0 : Int) ≤ (2 : Int) ∧ (2 : Int) < (4 : Int)) ∧ (x.snd.fst.length ≤ (900 : Nat) ∧ (0 : Int) ≤ k)
  ∧ isI64 ((↑l.length : Int) - (1 : Int)) ∧ isI64 ((↑l.length : Int) - (1 : Int) - x.fst) ∧ ((0 : Int) ≤ (↑l.length : Int) - (1 : Int) - x.fst ∧ (↑l.length : Int) - (1 : Int) -
  x.fst < (↑l.length : Int)) ∧ (x.snd.snd.fst.length ≤ (900 : Nat) ∧ (0 : Int) ≤ k) ∧ isI64 (x.fst + (1 : Int)) ∧ I (x.fst + (1 : Int), ofH (x.snd.fst ++ [((l.getD x.fst.toNat ((0
  : Int), (0 : Int), (0 : Int), ())).fst, (l.getD x.fst.toNat ((0 : Int), (0 : Int), (0 : Int), ())).snd.fst, (l.getD x.fst.toNat ((0 : Int), (0 : Int), (0 : Int),
  ())).snd.snd.fst, ())]) k, ofH (x.snd.snd.fst ++ [l.getD ((↑l.length : Int) - (1 : Int) - x.fst).toNat ((0 : Int), (0 : Int), (0 : Int), ())]) k, x.snd.snd.snd.fst,
  x.snd.snd.snd.snd.fst, x.snd.snd.snd.snd.snd.fst ++ [((l.getD x.fst.toNat ((0 : Int), (0 : Int), (0 : Int), ())).fst, (l.getD x.fst.toNat ((0 : Int), (0 : Int), (0 : Int),
  ())).snd.fst, (l.getD x.fst.toNat ((0 : Int), (0 : Int), (0 : Int), ())).snd.snd.fst, ())], x.snd.snd.snd.snd.snd.snd) ∧ μ (x.fst + (1 : Int), ofH (x.snd.fst ++ [((l.getD
  x.fst.toNat ((0 : Int), (0 : Int), (0 : Int), ())).fst, (l.getD x.fst.toNat ((0 : Int), (0 : Int), (0 : Int), ())).snd.fst, (l.getD x.fst.toNat ((0 : Int), (0 : Int), (0 : Int),
  ())).snd.snd.fst, ())]) k, ofH (x.snd.snd.fst ++ [l.getD ((↑l.length : Int) - (1 : Int) - x.fst).toNat ((0 : Int), (0 : Int), (0 : Int), ())]) k, x.snd.snd.snd.fst,
  x.snd.snd.snd.snd.fst, x.snd.snd.snd.snd.snd.fst ++ [((l.getD x.fst.toNat ((0 : Int), (0 : Int), (0 : Int), ())).fst, (l.getD x.fst.toNat ((0 : Int), (0 : Int), (0 : Int),
  ())).snd.fst, (l.getD x.fst.toNat ((0 : Int), (0 : Int), (0 : Int), ())).snd.snd.fst, ())], x.snd.snd.snd.snd.snd.snd) < μ x) ∧ ((0 : Int) ≤ (2 : Int) ∧ (2 : Int) < (4 : Int)) ∧
  roomP HL3 (27 : Nat) (x.snd.snd.snd.snd.snd.fst.length + [((l.getD x.fst.toNat ((0 : Int), (0 : Int), (0 : Int), ())).fst, (l.getD x.fst.toNat ((0 : Int), (0 : Int), (0 : Int),
  ())).snd.fst, (l.getD x.fst.toNat ((0 : Int), (0 : Int), (0 : Int), ())).snd.snd.fst, ())].length) ∧ ((0 : Int) ≤ (2 : Int) ∧ (2 : Int) < (4 : Int)) ∧ (x.snd.fst.length ≤ (900 :
  Nat) ∧ (0 : Int) ≤ k) ∧ isI64 ((↑l.length : Int) - (1 : Int)) ∧ isI64 ((↑l.length : Int) - (1 : Int) - x.fst) ∧ ((0 : Int) ≤ (↑l.length : Int) - (1 : Int) - x.fst ∧ (↑l.length :
  Int) - (1 : Int) - x.fst < (↑l.length : Int)) ∧ (x.snd.snd.fst.length ≤ (900 : Nat) ∧ (0 : Int) ≤ k) ∧ isI64 (x.fst + (1 : Int)) ∧ I (x.fst + (1 : Int), ofH (x.snd.fst ++
  [((l.getD x.fst.toNat ((0 : Int), (0 : Int), (0 : Int), ())).fst, (l.getD x.fst.toNat ((0 : Int), (0 : Int), (0 : Int), ())).snd.fst, (l.getD x.fst.toNat ((0 : Int), (0 : Int),
  (0 : Int), ())).snd.snd.fst, ())]) k, ofH (x.snd.snd.fst ++ [l.getD ((↑l.length : Int) - (1 : Int) - x.fst).toNat ((0 : Int), (0 : Int), (0 : Int), ())]) k, x.snd.snd.snd.fst,
  x.snd.snd.snd.snd.fst, x.snd.snd.snd.snd.snd.fst ++ [((l.getD x.fst.toNat ((0 : Int), (0 : Int), (0 : Int), ())).fst, (l.getD x.fst.toNat ((0 : Int), (0 : Int), (0 : Int),
  ())).snd.fst, (l.getD x.fst.toNat ((0 : Int), (0 : Int), (0 : Int), ())).snd.snd.fst, ())], x.snd.snd.snd.snd.snd.snd) ∧ μ (x.fst + (1 : Int), ofH (x.snd.fst ++ [((l.getD
  x.fst.toNat ((0 : Int), (0 : Int), (0 : Int), ())).fst, (l.getD x.fst.toNat ((0 : Int), (0 : Int), (0 : Int), ())).snd.fst, (l.getD x.fst.toNat ((0 : Int), (0 : Int), (0 : Int),
  ())).snd.snd.fst, ())]) k, ofH (x.snd.snd.fst ++ [l.getD ((↑l.length : Int) - (1 : Int) - x.fst).toNat ((0 : Int), (0 : Int), (0 : Int), ())]) k, x.snd.snd.snd.fst,
  x.snd.snd.snd.snd.fst, x.snd.snd.snd.snd.snd.fst ++ [((l.getD x.fst.toNat ((0 : Int), (0 : Int), (0 : Int), ())).fst, (l.getD x.fst.toNat ((0 : Int), (0 : Int), (0 : Int),
  ())).snd.fst, (l.getD x.fst.toNat ((0 : Int), (0 : Int), (0 : Int), ())).snd.snd.fst, ())], x.snd.snd.snd.snd.snd.snd) < μ x) ∧ ((0 : Int) = (1 : Int) → (((0 : Int) ≤ (1 : Int) ∧
  (1 : Int) < (4 : Int)) ∧ (roomP HL3 (27 : Nat) (x.snd.snd.snd.snd.fst.length + [((l.getD x.fst.toNat ((0 : Int), (0 : Int), (0 : Int), ())).fst, (l.getD x.fst.toNat ((0 : Int),
  (0 : Int), (0 : Int), ())).snd.fst, (l.getD x.fst.toNat ((0 : Int), (0 : Int), (0 : Int), ())).snd.snd.fst, ())].length) ∧ ((0 : Int) ≤ (1 : Int) ∧ (1 : Int) < (4 : Int)) ∧
  (x.snd.fst.length ≤ (900 : Nat) ∧ (0 : Int) ≤ k) ∧ isI64 ((↑l.length : Int) - (1 : Int)) ∧ isI64 ((↑l.length : Int) - (1 : Int) - x.fst) ∧ ((0 : Int) ≤ (↑l.length : Int) - (1 :
  Int) - x.fst ∧ (↑l.length : Int) - (1 : Int) - x.fst < (↑l.length : Int)) ∧ (x.snd.snd.fst.length ≤ (900 : Nat) ∧ (0 : Int) ≤ k) ∧ isI64 (x.fst + (1 : Int)) ∧ I (x.fst + (1 :
  Int), ofH (x.snd.fst ++ [((l.getD x.fst.toNat ((0 : Int), (0 : Int), (0 : Int), ())).fst, (l.getD x.fst.toNat ((0 : Int), (0 : Int), (0 : Int), ())).snd.fst, (l.getD x.fst.toNat
  ((0 : Int), (0 : Int), (0 : Int), ())).snd.snd.fst, ())]) k, ofH (x.snd.snd.fst ++ [l.getD ((↑l.length : Int) - (1 : Int) - x.fst).toNat ((0 : Int), (0 : Int), (0 : Int), ())])
  k, x.snd.snd.snd.fst, x.snd.snd.snd.snd.fst ++ [((l.getD x.fst.toNat ((0 : Int), (0 : Int), (0 : Int), ())).fst, (l.getD x.fst.toNat ((0 : Int), (0 : Int), (0 : Int),
  ())).snd.fst, (l.getD x.fst.toNat ((0 : Int), (0 : Int), (0 : Int), ())).snd.snd.fst, ())], x.snd.snd.snd.snd.snd.fst, x.snd.snd.snd.snd.snd.snd) ∧ μ (x.fst + (1 : Int), ofH
  (x.snd.fst ++ [((l.getD x.fst.toNat ((0 : Int), (0 : Int), (0 : Int), ())).fst, (l.getD x.fst.toNat ((0 : Int), (0 : Int), (0 : Int), ())).snd.fst, (l.getD x.fst.toNat ((0 :
  Int), (0 : Int), (0 : Int), ())).snd.snd.fst, ())]) k, ofH (x.snd.snd.fst ++ [l.getD ((↑l.length : Int) - (1 : Int) - x.fst).toNat ((0 : Int), (0 : Int), (0 : Int), ())]) k,
  x.snd.snd.snd.fst, x.snd.snd.snd.snd.fst ++ [((l.getD x.fst.toNat ((0 : Int), (0 : Int), (0 : Int), ())).fst, (l.getD x.fst.toNat ((0 : Int), (0 : Int), (0 : Int), ())).snd.fst,
  (l.getD x.fst.toNat ((0 : Int), (0 : Int), (0 : Int), ())).snd.snd.fst, ())], x.snd.snd.snd.snd.snd.fst, x.snd.snd.snd.snd.snd.snd) < μ x) ∧ (roomP HL3 (27 : Nat)
  (x.snd.snd.snd.snd.fst.length + [((l.getD x.fst.toNat ((0 : Int), (0 : Int), (0 : Int), ())).fst, (l.getD x.fst.toNat ((0 : Int), (0 : Int), (0 : Int), ())).snd.fst, (l.getD
  x.fst.toNat ((0 : Int), (0 : Int), (0 : Int), ())).snd.snd.fst, ())].length) ∧ ((0 : Int) ≤ (1 : Int) ∧ (1 : Int) < (4 : Int)) ∧ (x.snd.fst.length ≤ (900 : Nat) ∧ (0 : Int) ≤ k)
  ∧ isI64 ((↑l.length : Int) - (1 : Int)) ∧ isI64 ((↑l.length : Int) - (1 : Int) - x.fst) ∧ ((0 : Int) ≤ (↑l.length : Int) - (1 : Int) - x.fst ∧ (↑l.length : Int) - (1 : Int) -
  x.fst < (↑l.length : Int)) ∧ (x.snd.snd.fst.length ≤ (900 : Nat) ∧ (0 : Int) ≤ k) ∧ isI64 (x.fst + (1 : Int)) ∧ I (x.fst + (1 : Int), ofH (x.snd.fst ++ [((l.getD x.fst.toNat ((0
  : Int), (0 : Int), (0 : Int), ())).fst, (l.getD x.fst.toNat ((0 : Int), (0 : Int), (0 : Int), ())).snd.fst, (l.getD x.fst.toNat ((0 : Int), (0 : Int), (0 : Int),
  ())).snd.snd.fst, ())]) k, ofH (x.snd.snd.fst ++ [l.getD ((↑l.length : Int) - (1 : Int) - x.fst).toNat ((0 : Int), (0 : Int), (0 : Int), ())]) k, x.snd.snd.snd.fst,
  x.snd.snd.snd.snd.fst ++ [((l.getD x.fst.toNat ((0 : Int), (0 : Int), (0 : Int), ())).fst, (l.getD x.fst.toNat ((0 : Int), (0 : Int), (0 : Int), ())).snd.fst, (l.getD x.fst.toNat
  ((0 : Int), (0 : Int), (0 : Int), ())).snd.snd.fst, ())], x.snd.snd.snd.snd.snd.fst, x.snd.snd.snd.snd.snd.snd) ∧ μ (x.fst + (1 : Int), ofH (x.snd.fst ++ [((l.getD x.fst.toNat
  ((0 : Int), (0 : Int), (0 : Int), ())).fst, (l.getD x.fst.toNat ((0 : Int), (0 : Int), (0 : Int), ())).snd.fst, (l.getD x.fst.toNat ((0 : Int), (0 : Int), (0 : Int),
  ())).snd.snd.fst, ())]) k, ofH (x.snd.snd.fst ++ [l.getD ((↑l.length : Int) - (1 : Int) - x.fst).toNat ((0 : Int), (0 : Int), (0 : Int), ())]) k, x.snd.snd.snd.fst,
  x.snd.snd.snd.snd.fst ++ [((l.getD x.fst.toNat ((0 : Int), (0 : Int), (0 : Int), ())).fst, (l.getD x.fst.toNat ((0 : Int), (0 : Int), (0 : Int), ())).snd.fst, (l.getD x.fst.toNat
  ((0 : Int), (0 : Int), (0 : Int), ())).snd.snd.fst, ())], x.snd.snd.snd.snd.snd.fst, x.snd.snd.snd.snd.snd.snd) < μ x) ∧ roomP HL3 (27 : Nat) (x.snd.snd.snd.snd.fst.length +
  [((l.getD x.fst.toNat ((0 : Int), (0 : Int), (0 : Int), ())).fst, (l.getD x.fst.toNat ((0 : Int), (0 : Int), (0 : Int), ())).snd.fst, (l.getD x.fst.toNat ((0 : Int), (0 : Int),
  (0 : Int), ())).snd.snd.fst, ())].length) ∧ ((0 : Int) ≤ (1 : Int) ∧ (1 : Int) < (4 : Int)) ∧ (x.snd.fst.length ≤ (900 : Nat) ∧ (0 : Int) ≤ k) ∧ isI64 ((↑l.length : Int) - (1 :
  Int)) ∧ isI64 ((↑l.length : Int) - (1 : Int) - x.fst) ∧ ((0 : Int) ≤ (↑l.length : Int) - (1 : Int) - x.fst ∧ (↑l.length : Int) - (1 : Int) - x.fst < (↑l.length : Int)) ∧
  (x.snd.snd.fst.length ≤ (900 : Nat) ∧ (0 : Int) ≤ k) ∧ isI64 (x.fst + (1 : Int)) ∧ I (x.fst + (1 : Int), ofH (x.snd.fst ++ [((l.getD x.fst.toNat ((0 : Int), (0 : Int), (0 : Int),
  ())).fst, (l.getD x.fst.toNat ((0 : Int), (0 : Int), (0 : Int), ())).snd.fst, (l.getD x.fst.toNat ((0 : Int), (0 : Int), (0 : Int), ())).snd.snd.fst, ())]) k, ofH (x.snd.snd.fst
  ++ [l.getD ((↑l.length : Int) - (1 : Int) - x.fst).toNat ((0 : Int), (0 : Int), (0 : Int), ())]) k, x.snd.snd.snd.fst, x.snd.snd.snd.snd.fst ++ [((l.getD x.fst.toNat ((0 : Int),
  (0 : Int), (0 : Int), ())).fst, (l.getD x.fst.toNat ((0 : Int), (0 : Int), (0 : Int), ())).snd.fst, (l.getD x.fst.toNat ((0 : Int), (0 : Int), (0 : Int), ())).snd.snd.fst, ())],
  x.snd.snd.snd.snd.snd.fst, x.snd.snd.snd.snd.snd.snd) ∧ μ (x.fst + (1 : Int), ofH (x.snd.fst ++ [((l.getD x.fst.toNat ((0 : Int), (0 : Int), (0 : Int), ())).fst, (l.getD
  x.fst.toNat ((0 : Int), (0 : Int), (0 : Int), ())).snd.fst, (l.getD x.fst.toNat ((0 : Int), (0 : Int), (0 : Int), ())).snd.snd.fst, ())]) k, ofH (x.snd.snd.fst ++ [l.getD
  ((↑l.length : Int) - (1 : Int) - x.fst).toNat ((0 : Int), (0 : Int), (0 : Int), ())]) k, x.snd.snd.snd.fst, x.snd.snd.snd.snd.fst ++ [((l.getD x.fst.toNat ((0 : Int), (0 : Int),
  (0 : Int), ())).fst, (l.getD x.fst.toNat ((0 : Int), (0 : Int), (0 : Int), ())).snd.fst, (l.getD x.fst.toNat ((0 : Int), (0 : Int), (0 : Int), ())).snd.snd.fst, ())],
  x.snd.snd.snd.snd.snd.fst, x.snd.snd.snd.snd.snd.snd) < μ x) ∧ (((0 : Int) ≤ (1 : Int) ∧ (1 : Int) < (4 : Int)) ∧ (roomP HL3 (27 : Nat) (x.snd.snd.snd.snd.fst.length + [((l.getD
  x.fst.toNat ((0 : Int), (0 : Int), (0 : Int), ())).fst, (l.getD x.fst.toNat ((0 : Int), (0 : Int), (0 : Int), ())).snd.fst, (l.getD x.fst.toNat ((0 : Int), (0 : Int), (0 : Int),
  ())).snd.snd.fst, ())].length) ∧ ((0 : Int) ≤ (1 : Int) ∧ (1 : Int) < (4 : Int)) ∧ (x.snd.fst.length ≤ (900 : Nat) ∧ (0 : Int) ≤ k) ∧ isI64 ((↑l.length : Int) - (1 : Int)) ∧
  isI64 ((↑l.length : Int) - (1 : Int) - x.fst) ∧ ((0 : Int) ≤ (↑l.length : Int) - (1 : Int) - x.fst ∧ (↑l.length : Int) - (1 : Int) - x.fst < (↑l.length : Int)) ∧
  (x.snd.snd.fst.length ≤ (900 : Nat) ∧ (0 : Int) ≤ k) ∧ isI64 (x.fst + (1 : Int)) ∧ I (x.fst + (1 : Int), ofH (x.snd.fst ++ [((l.getD x.fst.toNat ((0 : Int), (0 : Int), (0 : Int),
  ())).fst, (l.getD x.fst.toNat ((0 : Int), (0 : Int), (0 : Int), ())).snd.fst, (l.getD x.fst.toNat ((0 : Int), (0 : Int), (0 : Int), ())).snd.snd.fst, ())]) k, ofH (x.snd.snd.fst
  ++ [l.getD ((↑l.length : Int) - (1 : Int) - x.fst).toNat ((0 : Int), (0 : Int), (0 : Int), ())]) k, x.snd.snd.snd.fst, x.snd.snd.snd.snd.fst ++ [((l.getD x.fst.toNat ((0 : Int),
  (0 : Int), (0 : Int), ())).fst, (l.getD x.fst.toNat ((0 : Int), (0 : Int), (0 : Int), ())).snd.fst, (l.getD x.fst.toNat ((0 : Int), (0 : Int), (0 : Int), ())).snd.snd.fst, ())],
  x.snd.snd.snd.snd.snd.fst, x.snd.snd.snd.snd.snd.snd) ∧ μ (x.fst + (1 : Int), ofH (x.snd.fst ++ [((l.getD x.fst.toNat ((0 : Int), (0 : Int), (0 : Int), ())).fst, (l.getD
  x.fst.toNat ((0 : Int), (0 : Int), (0 : Int), ())).snd.fst, (l.getD x.fst.toNat ((0 : Int), (0 : Int), (0 : Int), ())).snd.snd.fst, ())]) k, ofH (x.snd.snd.fst ++ [l.getD
  ((↑l.length : Int) - (1 : Int) - x.fst).toNat ((0 : Int), (0 : Int), (0 : Int), ())]) k, x.snd.snd.snd.fst, x.snd.snd.snd.snd.fst ++ [((l.getD x.fst.toNat ((0 : Int), (0 : Int),
  (0 : Int), ())).fst, (l.getD x.fst.toNat ((0 : Int), (0 : Int), (0 : Int), ())).snd.fst, (l.getD x.fst.toNat ((0 : Int), (0 : Int), (0 : Int), ())).snd.snd.fst, ())],
  x.snd.snd.snd.snd.snd.fst, x.snd.snd.snd.snd.snd.snd) < μ x) ∧ roomP HL3 (27 : Nat) (x.snd.snd.snd.snd.fst.length + [((l.getD x.fst.toNat ((0 : Int), (0 : Int), (0 : Int),
  ())).fst, (l.getD x.fst.toNat ((0 : Int), (0 : Int), (0 : Int), ())).snd.fst, (l.getD x.fst.toNat ((0 : Int), (0 : Int), (0 : Int), ())).snd.snd.fst, ())].length) ∧ ((0 : Int) ≤
  (1 : Int) ∧ (1 : Int) < (4 : Int)) ∧ (x.snd.fst.length ≤ (900 : Nat) ∧ (0 : Int) ≤ k) ∧ isI64 ((↑l.length : Int) - (1 : Int)) ∧ isI64 ((↑l.length : Int) - (1 : Int) - x.fst) ∧
  ((0 : Int) ≤ (↑l.length : Int) - (1 : Int) - x.fst ∧ (↑l.length : Int) - (1 : Int) - x.fst < (↑l.length : Int)) ∧ (x.snd.snd.fst.length ≤ (900 : Nat) ∧ (0 : Int) ≤ k) ∧ isI64
  (x.fst + (1 : Int)) ∧ I (x.fst + (1 : Int), ofH (x.snd.fst ++ [((l.getD x.fst.toNat ((0 : Int), (0 : Int), (0 : Int), ())).fst, (l.getD x.fst.toNat ((0 : Int), (0 : Int), (0 :
  Int), ())).snd.fst, (l.getD x.fst.toNat ((0 : Int), (0 : Int), (0 : Int), ())).snd.snd.fst, ())]) k, ofH (x.snd.snd.fst ++ [l.getD ((↑l.length : Int) - (1 : Int) - x.fst).toNat
  ((0 : Int), (0 : Int), (0 : Int), ())]) k, x.snd.snd.snd.fst, x.snd.snd.snd.snd.fst ++ [((l.getD x.fst.toNat ((0 : Int), (0 : Int), (0 : Int), ())).fst, (l.getD x.fst.toNat ((0 :
  Int), (0 : Int), (0 : Int), ())).snd.fst, (l.getD x.fst.toNat ((0 : Int), (0 : Int), (0 : Int), ())).snd.snd.fst, ())], x.snd.snd.snd.snd.snd.fst, x.snd.snd.snd.snd.snd.snd) ∧ μ
  (x.fst + (1 : Int), ofH (x.snd.fst ++ [((l.getD x.fst.toNat ((0 : Int), (0 : Int), (0 : Int), ())).fst, (l.getD x.fst.toNat ((0 : Int), (0 : Int), (0 : Int), ())).snd.fst,
  (l.getD x.fst.toNat ((0 : Int), (0 : Int), (0 : Int), ())).snd.snd.fst, ())]) k, ofH (x.snd.snd.fst ++ [l.getD ((↑l.length : Int) - (1 : Int) - x.fst).toNat ((0 : Int), (0 :
  Int), (0 : Int), ())]) k, x.snd.snd.snd.fst, x.snd.snd.snd.snd.fst ++ [((l.getD x.fst.toNat ((0 : Int), (0 : Int), (0 : Int), ())).fst, (l.getD x.fst.toNat ((0 : Int), (0 : Int),
  (0 : Int), ())).snd.fst, (l.getD x.fst.toNat ((0 : Int), (0 : Int), (0 : Int), ())).snd.snd.fst, ())], x.snd.snd.snd.snd.snd.fst, x.snd.snd.snd.snd.snd.snd) < μ x) ∧ ((0 : Int) ≤
  (1 : Int) ∧ (1 : Int) < (4 : Int)) ∧ roomP HL3 (27 : Nat) (x.snd.snd.snd.snd.fst.length + [((l.getD x.fst.toNat ((0 : Int), (0 : Int), (0 : Int), ())).fst, (l.getD x.fst.toNat
  ((0 : Int), (0 : Int), (0 : Int), ())).snd.fst, (l.getD x.fst.toNat ((0 : Int), (0 : Int), (0 : Int), ())).snd.snd.fst, ())].length) ∧ ((0 : Int) ≤ (1 : Int) ∧ (1 : Int) < (4 :
  Int)) ∧ (x.snd.fst.length ≤ (900 : Nat) ∧ (0 : Int) ≤ k) ∧ isI64 ((↑l.length : Int) - (1 : Int)) ∧ isI64 ((↑l.length : Int) - (1 : Int) - x.fst) ∧ ((0 : Int) ≤ (↑l.length : Int)
  - (1 : Int) - x.fst ∧ (↑l.length : Int) - (1 : Int) - x.fst < (↑l.length : Int)) ∧ (x.snd.snd.fst.length ≤ (900 : Nat) ∧ (0 : Int) ≤ k) ∧ isI64 (x.fst + (1 : Int)) ∧ I (x.fst +
  (1 : Int), ofH (x.snd.fst ++ [((l.getD x.fst.toNat ((0 : Int), (0 : Int), (0 : Int), ())).fst, (l.getD x.fst.toNat ((0 : Int), (0 : Int), (0 : Int), ())).snd.fst, (l.getD
  x.fst.toNat ((0 : Int), (0 : Int), (0 : Int), ())).snd.snd.fst, ())]) k, ofH (x.snd.snd.fst ++ [l.getD ((↑l.length : Int) - (1 : Int) - x.fst).toNat ((0 : Int), (0 : Int), (0 :
  Int), ())]) k, x.snd.snd.snd.fst, x.snd.snd.snd.snd.fst ++ [((l.getD x.fst.toNat ((0 : Int), (0 : Int), (0 : Int), ())).fst, (l.getD x.fst.toNat ((0 : Int), (0 : Int), (0 : Int),
  ())).snd.fst, (l.getD x.fst.toNat ((0 : Int), (0 : Int), (0 : Int), ())).snd.snd.fst, ())], x.snd.snd.snd.snd.snd.fst, x.snd.snd.snd.snd.snd.snd) ∧ μ (x.fst + (1 : Int), ofH
  (x.snd.fst ++ [((l.getD x.fst.toNat ((0 : Int), (0 : Int), (0 : Int), ())).fst, (l.getD x.fst.toNat ((0 : Int), (0 : Int), (0 : Int), ())).snd.fst, (l.getD x.fst.toNat ((0 :
  Int), (0 : Int), (0 : Int), ())).snd.snd.fst, ())]) k, ofH (x.snd.snd.fst ++ [l.getD ((↑l.length : Int) - (1 : Int) - x.fst).toNat ((0 : Int), (0 : Int), (0 : Int), ())]) k,
  x.snd.snd.snd.fst, x.snd.snd.snd.snd.fst ++ [((l.getD x.fst.toNat ((0 : Int), (0 : Int), (0 : Int), ())).fst, (l.getD x.fst.toNat ((0 : Int), (0 : Int), (0 : Int), ())).snd.fst,
  (l.getD x.fst.toNat ((0 : Int), (0 : Int), (0 : Int), ())).snd.snd.fst, ())], x.snd.snd.snd.snd.snd.fst, x.snd.snd.snd.snd.snd.snd) < μ x) ∧ ((0 : Int) = (0 : Int) → (((0 : Int)
  ≤ (0 : Int) ∧ (0 : Int) < (4 : Int)) ∧ (roomP HL3 (27 : Nat) (x.snd.snd.snd.fst.length + [((l.getD x.fst.toNat ((0 : Int), (0 : Int), (0 : Int), ())).fst, (l.getD x.fst.toNat ((0
  : Int), (0 : Int), (0 : Int), ())).snd.fst, (l.getD x.fst.toNat ((0 : Int), (0 : Int), (0 : Int), ())).snd.snd.fst, ())].length) ∧ ((0 : Int) ≤ (0 : Int) ∧ (0 : Int) < (4 : Int))
  ∧ (x.snd.fst.length ≤ (900 : Nat) ∧ (0 : Int) ≤ k) ∧ isI64 ((↑l.length : Int) - (1 : Int)) ∧ isI64 ((↑l.length : Int) - (1 : Int) - x.fst) ∧ ((0 : Int) ≤ (↑l.length : Int) - (1 :
  Int) - x.fst ∧ (↑l.length : Int) - (1 : Int) - x.fst < (↑l.length : Int)) ∧ (x.snd.snd.fst.length ≤ (900 : Nat) ∧ (0 : Int) ≤ k) ∧ isI64 (x.fst + (1 : Int)) ∧ I (x.fst + (1 :
  Int), ofH (x.snd.fst ++ [((l.getD x.fst.toNat ((0 : Int), (0 : Int), (0 : Int), ())).fst, (l.getD x.fst.toNat ((0 : Int), (0 : Int), (0 : Int), ())).snd.fst, (l.getD x.fst.toNat
  ((0 : Int), (0 : Int), (0 : Int), ())).snd.snd.fst, ())]) k, ofH (x.snd.snd.fst ++ [l.getD ((↑l.length : Int) - (1 : Int) - x.fst).toNat ((0 : Int), (0 : Int), (0 : Int), ())])
  k, x.snd.snd.snd.fst ++ [((l.getD x.fst.toNat ((0 : Int), (0 : Int), (0 : Int), ())).fst, (l.getD x.fst.toNat ((0 : Int), (0 : Int), (0 : Int), ())).snd.fst, (l.getD x.fst.toNat
  ((0 : Int), (0 : Int), (0 : Int), ())).snd.snd.fst, ())], x.snd.snd.snd.snd.fst, x.snd.snd.snd.snd.snd.fst, x.snd.snd.snd.snd.snd.snd) ∧ μ (x.fst + (1 : Int), ofH (x.snd.fst ++
  [((l.getD x.fst.toNat ((0 : Int), (0 : Int), (0 : Int), ())).fst, (l.getD x.fst.toNat ((0 : Int), (0 : Int), (0 : Int), ())).snd.fst, (l.getD x.fst.toNat ((0 : Int), (0 : Int),
  (0 : Int), ())).snd.snd.fst, ())]) k, ofH (x.snd.snd.fst ++ [l.getD ((↑l.length : Int) - (1 : Int) - x.fst).toNat ((0 : Int), (0 : Int), (0 : Int), ())]) k, x.snd.snd.snd.fst ++
  [((l.getD x.fst.toNat ((0 : Int), (0 : Int), (0 : Int), ())).fst, (l.getD x.fst.toNat ((0 : Int), (0 : Int), (0 : Int), ())).snd.fst, (l.getD x.fst.toNat ((0 : Int), (0 : Int),
  (0 : Int), ())).snd.snd.fst, ())], x.snd.snd.snd.snd.fst, x.snd.snd.snd.snd.snd.fst, x.snd.snd.snd.snd.snd.snd) < μ x) ∧ (roomP HL3 (27 : Nat) (x.snd.snd.snd.fst.length +
  [((l.getD x.fst.toNat ((0 : Int), (0 : Int), (0 : Int), ())).fst, (l.getD x.fst.toNat ((0 : Int), (0 : Int), (0 : Int), ())).snd.fst, (l.getD x.fst.toNat ((0 : Int), (0 : Int),
  (0 : Int), ())).snd.snd.fst, ())].length) ∧ ((0 : Int) ≤ (0 : Int) ∧ (0 : Int) < (4 : Int)) ∧ (x.snd.fst.length ≤ (900 : Nat) ∧ (0 : Int) ≤ k) ∧ isI64 ((↑l.length : Int) - (1 :
  Int)) ∧ isI64 ((↑l.length : Int) - (1 : Int) - x.fst) ∧ ((0 : Int) ≤ (↑l.length : Int) - (1 : Int) - x.fst ∧ (↑l.length : Int) - (1 : Int) - x.fst < (↑l.length : Int)) ∧
  (x.snd.snd.fst.length ≤ (900 : Nat) ∧ (0 : Int) ≤ k) ∧ isI64 (x.fst + (1 : Int)) ∧ I (x.fst + (1 : Int), ofH (x.snd.fst ++ [((l.getD x.fst.toNat ((0 : Int), (0 : Int), (0 : Int),
  ())).fst, (l.getD x.fst.toNat ((0 : Int), (0 : Int), (0 : Int), ())).snd.fst, (l.getD x.fst.toNat ((0 : Int), (0 : Int), (0 : Int), ())).snd.snd.fst, ())]) k, ofH (x.snd.snd.fst
  ++ [l.getD ((↑l.length : Int) - (1 : Int) - x.fst).toNat ((0 : Int), (0 : Int), (0 : Int), ())]) k, x.snd.snd.snd.fst ++ [((l.getD x.fst.toNat ((0 : Int), (0 : Int), (0 : Int),
  ())).fst, (l.getD x.fst.toNat ((0 : Int), (0 : Int), (0 : Int), ())).snd.fst, (l.getD x.fst.toNat ((0 : Int), (0 : Int), (0 : Int), ())).snd.snd.fst, ())], x.snd.snd.snd.snd.fst,
  x.snd.snd.snd.snd.snd.fst, x.snd.snd.snd.snd.snd.snd) ∧ μ (x.fst + (1 : Int), ofH (x.snd.fst ++ [((l.getD x.fst.toNat ((0 : Int), (0 : Int), (0 : Int), ())).fst, (l.getD
  x.fst.toNat ((0 : Int), (0 : Int), (0 : Int), ())).snd.fst, (l.getD x.fst.toNat ((0 : Int), (0 : Int), (0 : Int), ())).snd.snd.fst, ())]) k, ofH (x.snd.snd.fst ++ [l.getD
  ((↑l.length : Int) - (1 : Int) - x.fst).toNat ((0 : Int), (0 : Int), (0 : Int), ())]) k, x.snd.snd.snd.fst ++ [((l.getD x.fst.toNat ((0 : Int), (0 : Int), (0 : Int), ())).fst,
  (l.getD x.fst.toNat ((0 : Int), (0 : Int), (0 : Int), ())).snd.fst, (l.getD x.fst.toNat ((0 : Int), (0 : Int), (0 : Int), ())).snd.snd.fst, ())], x.snd.snd.snd.snd.fst,
  x.snd.snd.snd.snd.snd.fst, x.snd.snd.snd.snd.snd.snd) < μ x) ∧ roomP HL3 (27 : Nat) (x.snd.snd.snd.fst.length + [((l.getD x.fst.toNat ((0 : Int), (0 : Int), (0 : Int), ())).fst,
  (l.getD x.fst.toNat ((0 : Int), (0 : Int), (0 : Int), ())).snd.fst, (l.getD x.fst.toNat ((0 : Int), (0 : Int), (0 : Int), ())).snd.snd.fst, ())].length) ∧ ((0 : Int) ≤ (0 : Int)
  ∧ (0 : Int) < (4 : Int)) ∧ (x.snd.fst.length ≤ (900 : Nat) ∧ (0 : Int) ≤ k) ∧ isI64 ((↑l.length : Int) - (1 : Int)) ∧ isI64 ((↑l.length : Int) - (1 : Int) - x.fst) ∧ ((0 : Int) ≤
  (↑l.length : Int) - (1 : Int) - x.fst ∧ (↑l.length : Int) - (1 : Int) - x.fst < (↑l.length : Int)) ∧ (x.snd.snd.fst.length ≤ (900 : Nat) ∧ (0 : Int) ≤ k) ∧ isI64 (x.fst + (1 :
  Int)) ∧ I (x.fst + (1 : Int), ofH (x.snd.fst ++ [((l.getD x.fst.toNat ((0 : Int), (0 : Int), (0 : Int), ())).fst, (l.getD x.fst.toNat ((0 : Int), (0 : Int), (0 : Int),
  ())).snd.fst, (l.getD x.fst.toNat ((0 : Int), (0 : Int), (0 : Int), ())).snd.snd.fst, ())]) k, ofH (x.snd.snd.fst ++ [l.getD ((↑l.length : Int) - (1 : Int) - x.fst).toNat ((0 :
  Int), (0 : Int), (0 : Int), ())]) k, x.snd.snd.snd.fst ++ [((l.getD x.fst.toNat ((0 : Int), (0 : Int), (0 : Int), ())).fst, (l.getD x.fst.toNat ((0 : Int), (0 : Int), (0 : Int),
  ())).snd.fst, (l.getD x.fst.toNat ((0 : Int), (0 : Int), (0 : Int), ())).snd.snd.fst, ())], x.snd.snd.snd.snd.fst, x.snd.snd.snd.snd.snd.fst, x.snd.snd.snd.snd.snd.snd) ∧ μ
  (x.fst + (1 : Int), ofH (x.snd.fst ++ [((l.getD x.fst.toNat ((0 : Int), (0 : Int), (0 : Int), ())).fst, (l.getD x.fst.toNat ((0 : Int), (0 : Int), (0 : Int), ())).snd.fst,
  (l.getD x.fst.toNat ((0 : Int), (0 : Int), (0 : Int), ())).snd.snd.fst, ())]) k, ofH (x.snd.snd.fst ++ [l.getD ((↑l.length : Int) - (1 : Int) - x.fst).toNat ((0 : Int), (0 :
  Int), (0 : Int), ())]) k, x.snd.snd.snd.fst ++ [((l.getD x.fst.toNat ((0 : Int), (0 : Int), (0 : Int), ())).fst, (l.getD x.fst.toNat ((0 : Int), (0 : Int), (0 : Int),
  ())).snd.fst, (l.getD x.fst.toNat ((0 : Int), (0 : Int), (0 : Int), ())).snd.snd.fst, ())], x.snd.snd.snd.snd.fst, x.snd.snd.snd.snd.snd.fst, x.snd.snd.snd.snd.snd.snd) < μ x) ∧
  (((0 : Int) ≤ (0 : Int) ∧ (0 : Int) < (4 : Int)) ∧ (roomP HL3 (27 : Nat) (x.snd.snd.snd.fst.length + [((l.getD x.fst.toNat ((0 : Int), (0 : Int), (0 : Int), ())).fst, (l.getD
  x.fst.toNat ((0 : Int), (0 : Int), (0 : Int), ())).snd.fst, (l.getD x.fst.toNat ((0 : Int), (0 : Int), (0 : Int), ())).snd.snd.fst, ())].length) ∧ ((0 : Int) ≤ (0 : Int) ∧ (0 :
  Int) < (4 : Int)) ∧ (x.snd.fst.length ≤ (900 : Nat) ∧ (0 : Int) ≤ k) ∧ isI64 ((↑l.length : Int) - (1 : Int)) ∧ isI64 ((↑l.length : Int) - (1 : Int) - x.fst) ∧ ((0 : Int) ≤
  (↑l.length : Int) - (1 : Int) - x.fst ∧ (↑l.length : Int) - (1 : Int) - x.fst < (↑l.length : Int)) ∧ (x.snd.snd.fst.length ≤ (900 : Nat) ∧ (0 : Int) ≤ k) ∧ isI64 (x.fst + (1 :
  Int)) ∧ I (x.fst + (1 : Int), ofH (x.snd.fst ++ [((l.getD x.fst.toNat ((0 : Int), (0 : Int), (0 : Int), ())).fst, (l.getD x.fst.toNat ((0 : Int), (0 : Int), (0 : Int),
  ())).snd.fst, (l.getD x.fst.toNat ((0 : Int), (0 : Int), (0 : Int), ())).snd.snd.fst, ())]) k, ofH (x.snd.snd.fst ++ [l.getD ((↑l.length : Int) - (1 : Int) - x.fst).toNat ((0 :
  Int), (0 : Int), (0 : Int), ())]) k, x.snd.snd.snd.fst ++ [((l.getD x.fst.toNat ((0 : Int), (0 : Int), (0 : Int), ())).fst, (l.getD x.fst.toNat ((0 : Int), (0 : Int), (0 : Int),
  ())).snd.fst, (l.getD x.fst.toNat ((0 : Int), (0 : Int), (0 : Int), ())).snd.snd.fst, ())], x.snd.snd.snd.snd.fst, x.snd.snd.snd.snd.snd.fst, x.snd.snd.snd.snd.snd.snd) ∧ μ
  (x.fst + (1 : Int), ofH (x.snd.fst ++ [((l.getD x.fst.toNat ((0 : Int), (0 : Int), (0 : Int), ())).fst, (l.getD x.fst.toNat ((0 : Int), (0 : Int), (0 : Int), ())).snd.fst,
  (l.getD x.fst.toNat ((0 : Int), (0 : Int), (0 : Int), ())).snd.snd.fst, ())]) k, ofH (x.snd.snd.fst ++ [l.getD ((↑l.length : Int) - (1 : Int) - x.fst).toNat ((0 : Int), (0 :
  Int), (0 : Int), ())]) k, x.snd.snd.snd.fst ++ [((l.getD x.fst.toNat ((0 : Int), (0 : Int), (0 : Int), ())).fst, (l.getD x.fst.toNat ((0 : Int), (0 : Int), (0 : Int),
  ())).snd.fst, (l.getD x.fst.toNat ((0 : Int), (0 : Int), (0 : Int), ())).snd.snd.fst, ())], x.snd.snd.snd.snd.fst, x.snd.snd.snd.snd.snd.fst, x.snd.snd.snd.snd.snd.snd) < μ x) ∧
  roomP HL3 (27 : Nat) (x.snd.snd.snd.fst.length + [((l.getD x.fst.toNat ((0 : Int), (0 : Int), (0 : Int), ())).fst, (l.getD x.fst.toNat ((0 : Int), (0 : Int), (0 : Int),
  ())).snd.fst, (l.getD x.fst.toNat ((0 : Int), (0 : Int), (0 : Int), ())).snd.snd.fst, ())].length) ∧ ((0 : Int) ≤ (0 : Int) ∧ (0 : Int) < (4 : Int)) ∧ (x.snd.fst.length ≤ (900 :
  Nat) ∧ (0 : Int) ≤ k) ∧ isI64 ((↑l.length : Int) - (1 : Int)) ∧ isI64 ((↑l.length : Int) - (1 : Int) - x.fst) ∧ ((0 : Int) ≤ (↑l.length : Int) - (1 : Int) - x.fst ∧ (↑l.length :
  Int) - (1 : Int) - x.fst < (↑l.length : Int)) ∧ (x.snd.snd.fst.length ≤ (900 : Nat) ∧ (0 : Int) ≤ k) ∧ isI64 (x.fst + (1 : Int)) ∧ I (x.fst + (1 : Int), ofH (x.snd.fst ++
  [((l.getD x.fst.toNat ((0 : Int), (0 : Int), (0 : Int), ())).fst, (l.getD x.fst.toNat ((0 : Int), (0 : Int), (0 : Int), ())).snd.fst, (l.getD x.fst.toNat ((0 : Int), (0 : Int),
  (0 : Int), ())).snd.snd.fst, ())]) k, ofH (x.snd.snd.fst ++ [l.getD ((↑l.length : Int) - (1 : Int) - x.fst).toNat ((0 : Int), (0 : Int), (0 : Int), ())]) k, x.snd.snd.snd.fst ++
  [((l.getD x.fst.toNat ((0 : Int), (0 : Int), (0 : Int), ())).fst, (l.getD x.fst.toNat ((0 : Int), (0 : Int), (0 : Int), ())).snd.fst, (l.getD x.fst.toNat ((0 : Int), (0 : Int),
  (0 : Int), ())).snd.snd.fst, ())], x.snd.snd.snd.snd.fst, x.snd.snd.snd.snd.snd.fst, x.snd.snd.snd.snd.snd.snd) ∧ μ (x.fst + (1 : Int), ofH (x.snd.fst ++ [((l.getD x.fst.toNat
  ((0 : Int), (0 : Int), (0 : Int), ())).fst, (l.getD x.fst.toNat ((0 : Int), (0 : Int), (0 : Int), ())).snd.fst, (l.getD x.fst.toNat ((0 : Int), (0 : Int), (0 : Int),
  ())).snd.snd.fst, ())]) k, ofH (x.snd.snd.fst ++ [l.getD ((↑l.length : Int) - (1 : Int) - x.fst).toNat ((0 : Int), (0 : Int), (0 : Int), ())]) k, x.snd.snd.snd.fst ++ [((l.getD
  x.fst.toNat ((0 : Int), (0 : Int), (0 : Int), ())).fst, (l.getD x.fst.toNat ((0 : Int), (0 : Int), (0 : Int), ())).snd.fst, (l.getD x.fst.toNat ((0 : Int), (0 : Int), (0 : Int),
  ())).snd.snd.fst, ())], x.snd.snd.snd.snd.fst, x.snd.snd.snd.snd.snd.fst, x.snd.snd.snd.snd.snd.snd) < μ x) ∧ ((0 : Int) ≤ (0 : Int) ∧ (0 : Int) < (4 : Int)) ∧ roomP HL3 (27 :
  Nat) (x.snd.snd.snd.fst.length + [((l.getD x.fst.toNat ((0 : Int), (0 : Int), (0 : Int), ())).fst, (l.getD x.fst.toNat ((0 : Int), (0 : Int), (0 : Int), ())).snd.fst, (l.getD
  x.fst.toNat ((0 : Int), (0 : Int), (0 : Int), ())).snd.snd.fst, ())].length) ∧ ((0 : Int) ≤ (0 : Int) ∧ (0 : Int) < (4 : Int)) ∧ (x.snd.fst.length ≤ (900 : Nat) ∧ (0 : Int) ≤ k)
  ∧ isI64 ((↑l.length : Int) - (1 : Int)) ∧ isI64 ((↑l.length : Int) - (1 : Int) - x.fst) ∧ ((0 : Int) ≤ (↑l.length : Int) - (1 : Int) - x.fst ∧ (↑l.length : Int) - (1 : Int) -
  x.fst < (↑l.length : Int)) ∧ (x.snd.snd.fst.length ≤ (900 : Nat) ∧ (0 : Int) ≤ k) ∧ isI64 (x.fst + (1 : Int)) ∧ I (x.fst + (1 : Int), ofH (x.snd.fst ++ [((l.getD x.fst.toNat ((0
  : Int), (0 : Int), (0 : Int), ())).fst, (l.getD x.fst.toNat ((0 : Int), (0 : Int), (0 : Int), ())).snd.fst, (l.getD x.fst.toNat ((0 : Int), (0 : Int), (0 : Int),
  ())).snd.snd.fst, ())]) k, ofH (x.snd.snd.fst ++ [l.getD ((↑l.length : Int) - (1 : Int) - x.fst).toNat ((0 : Int), (0 : Int), (0 : Int), ())]) k, x.snd.snd.snd.fst ++ [((l.getD
  x.fst.toNat ((0 : Int), (0 : Int), (0 : Int), ())).fst, (l.getD x.fst.toNat ((0 : Int), (0 : Int), (0 : Int), ())).snd.fst, (l.getD x.fst.toNat ((0 : Int), (0 : Int), (0 : Int),
  ())).snd.snd.fst, ())], x.snd.snd.snd.snd.fst, x.snd.snd.snd.snd.snd.fst, x.snd.snd.snd.snd.snd.snd) ∧ μ (x.fst + (1 : Int), ofH (x.snd.fst ++ [((l.getD x.fst.toNat ((0 : Int),
  (0 : Int), (0 : Int), ())).fst, (l.getD x.fst.toNat ((0 : Int), (0 : Int), (0 : Int), ())).snd.fst, (l.getD x.fst.toNat ((0 : Int), (0 : Int), (0 : Int), ())).snd.snd.fst, ())])
  k, ofH (x.snd.snd.fst ++ [l.getD ((↑l.length : Int) - (1 : Int) - x.fst).toNat ((0 : Int), (0 : Int), (0 : Int), ())]) k, x.snd.snd.snd.fst ++ [((l.getD x.fst.toNat ((0 : Int),
  (0 : Int), (0 : Int), ())).fst, (l.getD x.fst.toNat ((0 : Int), (0 : Int), (0 : Int), ())).snd.fst, (l.getD x.fst.toNat ((0 : Int), (0 : Int), (0 : Int), ())).snd.snd.fst, ())],
  x.snd.snd.snd.snd.fst, x.snd.snd.snd.snd.snd.fst, x.snd.snd.snd.snd.snd.snd) < μ x) ∧ True)) ∧ (decide (x.fst < (↑l.length : Int)) = false → (true = true → ((0 : Int) ≤ (0 : Int)
  ∧ (0 : Int) < (4 : Int)) ∧ (x.snd.snd.snd.fst.length ≤ (100000 : Nat) ∧ (0 : Int) ≤ k) ∧ ((0 : Nat) + (ofH x.snd.snd.snd.fst k).length ≤ (1000 : Nat) ∧ (0 : Int) ≤ k) ∧ isI64 (3
  : Int) ∧ ((0 : Int) ≤ (3 : Int) ∧ (3 : Int) < (4 : Int)) ∧ (x.snd.snd.snd.snd.snd.snd.length ≤ (100000 : Nat) ∧ (0 : Int) ≤ k) ∧ ((ofH x.snd.snd.snd.snd.snd.snd k).length + (0 :
  Nat) ≤ (1000 : Nat) ∧ (0 : Int) ≤ k) ∧ isI64 (1 : Int) ∧ (true = true → ((0 : Int) ≤ (1 : Int) ∧ (1 : Int) < (4 : Int)) ∧ (x.snd.snd.snd.snd.fst.length ≤ (100000 : Nat) ∧ (0 :
  Int) ≤ k) ∧ ((ofH ([] ++ ofH x.snd.snd.snd.fst k) k).length + (ofH x.snd.snd.snd.snd.fst k).length ≤ (1000 : Nat) ∧ (0 : Int) ≤ k) ∧ isI64 (2 : Int) ∧ ((0 : Int) ≤ (2 : Int) ∧ (2
  : Int) < (4 : Int)) ∧ (x.snd.snd.snd.snd.snd.fst.length ≤ (100000 : Nat) ∧ (0 : Int) ≤ k) ∧ ((ofH x.snd.snd.snd.snd.snd.fst k).length + (ofH (ofH x.snd.snd.snd.snd.snd.snd k ++
  []) k).length ≤ (1000 : Nat) ∧ (0 : Int) ≤ k) ∧ isI64 (2 : Int) ∧ (true = true → ((0 : Int) ≤ (2 : Int) ∧ (2 : Int) < (4 : Int)) ∧ (x.snd.snd.snd.snd.snd.fst.length ≤ (100000 :
  Nat) ∧ (0 : Int) ≤ k) ∧ ((ofH (ofH ([] ++ ofH x.snd.snd.snd.fst k) k ++ ofH x.snd.snd.snd.snd.fst k) k).length + (ofH x.snd.snd.snd.snd.snd.fst k).length ≤ (1000 : Nat) ∧ (0 :
  Int) ≤ k) ∧ isI64 (1 : Int) ∧ ((0 : Int) ≤ (1 : Int) ∧ (1 : Int) < (4 : Int)) ∧ (x.snd.snd.snd.snd.fst.length ≤ (100000 : Nat) ∧ (0 : Int) ≤ k) ∧ ((ofH x.snd.snd.snd.snd.fst
  k).length + (ofH (ofH x.snd.snd.snd.snd.snd.fst k ++ ofH (ofH x.snd.snd.snd.snd.snd.snd k ++ []) k) k).length ≤ (1000 : Nat) ∧ (0 : Int) ≤ k) ∧ isI64 (3 : Int) ∧ (true = true →
  ((0 : Int) ≤ (3 : Int) ∧ (3 : Int) < (4 : Int)) ∧ (x.snd.snd.snd.snd.snd.snd.length ≤ (100000 : Nat) ∧ (0 : Int) ≤ k) ∧ ((ofH (ofH (ofH ([] ++ ofH x.snd.snd.snd.fst k) k ++ ofH
  x.snd.snd.snd.snd.fst k) k ++ ofH x.snd.snd.snd.snd.snd.fst k) k).length + (ofH x.snd.snd.snd.snd.snd.snd k).length ≤ (1000 : Nat) ∧ (0 : Int) ≤ k) ∧ isI64 (0 : Int) ∧ ((0 : Int)
  ≤ (0 : Int) ∧ (0 : Int) < (4 : Int)) ∧ (x.snd.snd.snd.fst.length ≤ (100000 : Nat) ∧ (0 : Int) ≤ k) ∧ ((ofH x.snd.snd.snd.fst k).length + (ofH (ofH x.snd.snd.snd.snd.fst k ++ ofH
  (ofH x.snd.snd.snd.snd.snd.fst k ++ ofH (ofH x.snd.snd.snd.snd.snd.snd k ++ []) k) k) k).length ≤ (1000 : Nat) ∧ (0 : Int) ≤ k) ∧ isI64 (4 : Int) ∧ (false = true → ((0 : Int) ≤
  (4 : Int) ∧ (4 : Int) < (4 : Int)) ∧ False) ∧ (false = false → True ∧ true = true ∧ True ∧ sameH (ofH l k) x.snd.fst = true ∧ True ∧ sameH (ofH l k) x.snd.snd.fst = true ∧ True ∧
  sameH (ofH l k) (ofH (ofH (ofH (ofH ([] ++ ofH x.snd.snd.snd.fst k) k ++ ofH x.snd.snd.snd.snd.fst k) k ++ ofH x.snd.snd.snd.snd.snd.fst k) k ++ ofH x.snd.snd.snd.snd.snd.snd k)
  k) = true ∧ True ∧ sameH (ofH l k) (ofH (ofH x.snd.snd.snd.fst k ++ ofH (ofH x.snd.snd.snd.snd.fst k ++ ofH (ofH x.snd.snd.snd.snd.snd.fst k ++ ofH (ofH x.snd.snd.snd.snd.snd.snd
  k ++ []) k) k) k) k) = true)) ∧ (true = false → True ∧ true = true ∧ True ∧ sameH (ofH l k) x.snd.fst = true ∧ True ∧ sameH (ofH l k) x.snd.snd.fst = true ∧ True ∧ sameH (ofH l
  k) (ofH (ofH (ofH ([] ++ ofH x.snd.snd.snd.fst k) k ++ ofH x.snd.snd.snd.snd.fst k) k ++ ofH x.snd.snd.snd.snd.snd.fst k) k) = true ∧ True ∧ sameH (ofH l k) (ofH (ofH
  x.snd.snd.snd.snd.fst k ++ ofH (ofH x.snd.snd.snd.snd.snd.fst k ++ ofH (ofH x.snd.snd.snd.snd.snd.snd k ++ []) k) k) k) = true)) ∧ (true = false → True ∧ true = true ∧ True ∧
  sameH (ofH l k) x.snd.fst = true ∧ True ∧ sameH (ofH l k) x.snd.snd.fst = true ∧ True ∧ sameH (ofH l k) (ofH (ofH ([] ++ ofH x.snd.snd.snd.fst k) k ++ ofH x.snd.snd.snd.snd.fst
  k) k) = true ∧ True ∧ sameH (ofH l k) (ofH (ofH x.snd.snd.snd.snd.snd.fst k ++ ofH (ofH x.snd.snd.snd.snd.snd.snd k ++ []) k) k) = true)) ∧ (true = false → True ∧ true = true ∧
  True ∧ sameH (ofH l k) x.snd.fst = true ∧ True ∧ sameH (ofH l k) x.snd.snd.fst = true ∧ True ∧ sameH (ofH l k) (ofH ([] ++ ofH x.snd.snd.snd.fst k) k) = true ∧ True ∧ sameH (ofH
  l k) (ofH (ofH x.snd.snd.snd.snd.snd.snd k ++ []) k) = true)) ∧ (true = false → True ∧ true = true ∧ True ∧ sameH (ofH l k) x.snd.fst = true ∧ True ∧ sameH (ofH l k)
  x.snd.snd.fst = true ∧ True ∧ sameH (ofH l k) [] = true ∧ True ∧ sameH (ofH l k) [] = true)))))) := by kernel_rfl
theorem sat_L3 : Sat bs.P 5 (lawSp [HL, I, BY]) := by
  refine sat_nf (C := HL3) ssHL3 (fun x => l3_nf x.1 x.2.1 x.2.2) fun (⟨l, k, part⟩ : List Hit × Int × List Int) hk _ => ?_
  try dsimp only
  refine ⟨fun _ => ⟨trivial, rfl⟩, fun hl => ⟨trivial, fun _ => ⟨trivial, rfl⟩, fun _ => ⟨trivial, fun _ => ⟨trivial, rfl⟩, fun hK => ?_⟩⟩⟩
  have hl : l.length ≤ 40 := by have := df hl; omega
  have hK := kH_iff (nf hK)
  have hpart : part.length ≤ 9223372036854775807 := hk.2.2.1
  have hk0 : 0 ≤ k := by omega
  refine ⟨⟨by omega, hk0⟩, fun x => I3 l k x.1 x.2.1 x.2.2.1 x.2.2.2.1 x.2.2.2.2.1 x.2.2.2.2.2.1 x.2.2.2.2.2.2, fun x => (l.length - x.1).toNat, ⟨by omega, by omega, by simp [ofH_empty], by simp [ofH_empty], by simp, by simp, by simp, by simp, by simp⟩, ?_⟩
  rintro ⟨i, put, turned, p0, p1, p2, p3⟩ hI
  dsimp only at hI ⊢
  have h0 := hI.lo
  have h1 := hI.hi
  simp only [hitEta, show (((0 : Int), (0 : Int), (0 : Int), ()) : Hit) = hit0 from rfl]
  refine ⟨fun hlt => ?_, fun hlt => ?_⟩
  · have hlt := dt hlt
    have s0 := hI.step hlt hl (q0 := p0 ++ [l.getD i.toNat hit0]) (q1 := p1) (q2 := p2) (q3 := p3) (by intro x; simp only [List.mem_append, List.mem_singleton]; by_cases e0 : x ∈ p0 <;> by_cases e1 : x ∈ p1 <;> by_cases e2 : x ∈ p2 <;> by_cases e3 : x ∈ p3 <;> simp only [e0, e1, e2, e3, true_or, or_true, false_or, or_false]) (by simp)
    have s1 := hI.step hlt hl (q0 := p0) (q1 := p1 ++ [l.getD i.toNat hit0]) (q2 := p2) (q3 := p3) (by intro x; simp only [List.mem_append, List.mem_singleton]; by_cases e0 : x ∈ p0 <;> by_cases e1 : x ∈ p1 <;> by_cases e2 : x ∈ p2 <;> by_cases e3 : x ∈ p3 <;> simp only [e0, e1, e2, e3, true_or, or_true, false_or, or_false]) (by simp)
    have s2 := hI.step hlt hl (q0 := p0) (q1 := p1) (q2 := p2 ++ [l.getD i.toNat hit0]) (q3 := p3) (by intro x; simp only [List.mem_append, List.mem_singleton]; by_cases e0 : x ∈ p0 <;> by_cases e1 : x ∈ p1 <;> by_cases e2 : x ∈ p2 <;> by_cases e3 : x ∈ p3 <;> simp only [e0, e1, e2, e3, true_or, or_true, false_or, or_false]) (by simp)
    have s3 := hI.step hlt hl (q0 := p0) (q1 := p1) (q2 := p2) (q3 := p3 ++ [l.getD i.toNat hit0]) (by intro x; simp only [List.mem_append, List.mem_singleton]; by_cases e0 : x ∈ p0 <;> by_cases e1 : x ∈ p1 <;> by_cases e2 : x ∈ p2 <;> by_cases e3 : x ∈ p3 <;> simp only [e0, e1, e2, e3, true_or, or_true, false_or, or_false]) (by simp)
    have hm : (l.length - (i + 1)).toNat < (l.length - i).toNat := by omega
    have r0 : roomP HL3 27 (p0.length + [l.getD i.toNat hit0].length) := roomH rfl (by have := hI.n0; simp; omega)
    have r1 : roomP HL3 27 (p1.length + [l.getD i.toNat hit0].length) := roomH rfl (by have := hI.n1; simp; omega)
    have r2 : roomP HL3 27 (p2.length + [l.getD i.toNat hit0].length) := roomH rfl (by have := hI.n2; simp; omega)
    have r3 : roomP HL3 27 (p3.length + [l.getD i.toNat hit0].length) := roomH rfl (by have := hI.n3; simp; omega)
    have c1 : put.length ≤ 900 := by rw [hI.put]; have := len64 (l.take i.toNat) hK.2; omega
    have c2 : turned.length ≤ 900 := by rw [hI.turned]; have := len64 (l.drop (l.length - i).toNat) hK.2; omega
    have d1 : isI64 ((l.length : Int) - 1) := i64s (by omega) (by omega)
    have d2 : isI64 ((l.length : Int) - 1 - i) := i64s (by omega) (by omega)
    have d3 : 0 ≤ (l.length : Int) - 1 - i := by omega
    have d4 : (l.length : Int) - 1 - i < l.length := by omega
    have d5 : isI64 (i + 1) := i64s (by omega) (by omega)
    have e1 : (0 : Int) ≤ 3 ∧ (3 : Int) < 4 := by omega
    have e2 : (0 : Int) ≤ 2 ∧ (2 : Int) < 4 := by omega
    have e3 : (0 : Int) ≤ 1 ∧ (1 : Int) < 4 := by omega
    have e4 : (0 : Int) ≤ 0 ∧ (0 : Int) < 4 := by omega
    simp only [s0, s1, s2, s3, hm, r0, r1, r2, r3, c1, c2, hk0, d1, d2, d3, d4, d5, e1, e2, e3, e4, and_self, implies_true]
    refine ⟨⟨h0, hlt⟩, fun hp => ?_, ?_⟩
    · have hp := dt hp
      have hm1 : 0 ≤ i.tmod part.length := Int.tmod_nonneg _ h0
      have hm2 : i.tmod part.length < part.length := Int.tmod_lt_of_pos _ hp
      have hx : 0 ≤ part.getD (i.tmod part.length).toNat 0 ∧ part.getD (i.tmod part.length).toNat 0 ≤ 255 := by
        have hx : okd U8 (part.getD (i.tmod part.length).toNat 0) := hk.2.2.2 _ (PL.getD_mem part 0 (by omega))
        have hx : IntKind.u8.has (part.getD (i.tmod part.length).toNat 0) := hx
        unfold IntKind.has at hx
        exact hx
      rw [wrap_i64 (i64s (by omega) (by omega))]
      have hm3 := Int.tmod_nonneg (4 : Int) hx.1
      have hm4 := Int.tmod_lt_of_pos (part.getD (i.tmod part.length).toNat 0) (show (0 : Int) < 4 by omega)
      simp only [hm1, hm2, hm3, hm4, and_self]
      simp
      intro e
      simp [e] at hp
    · simp
  · have hlt := df hlt
    have a2 : ∀ a b : List Hit, (ofH a k).length + (ofH b k).length ≤ 1000 := fun a b => by have := len64 a hK.2; have := len64 b hK.2; omega
    have hn0 := hI.n0; have hn1 := hI.n1; have hn2 := hI.n2; have hn3 := hI.n3
    have b0 : p0.length ≤ 100000 := by omega
    have b1 : p1.length ≤ 100000 := by omega
    have b2 : p2.length ≤ 100000 := by omega
    have b3 : p3.length ≤ 100000 := by omega
    have hput : put = ofH l k := by rw [hI.put, List.take_of_length_le (by omega)]
    have htur : turned = ofH l k := by rw [hI.turned, show (l.length - i).toNat = 0 by omega, List.drop_zero]
    have hpar : ∀ x, (x ∈ p0 ∨ x ∈ p1 ∨ x ∈ p2 ∨ x ∈ p3) ↔ x ∈ l := fun x => by rw [hI.parts, List.take_of_length_le (by omega)]
    have g1 : ofH (ofH (ofH (ofH ([] ++ ofH p0 k) k ++ ofH p1 k) k ++ ofH p2 k) k ++ ofH p3 k) k = ofH l k := by
      simp only [ofH_left, ofH_right]
      exact ofH_congr k fun x => by rw [← hpar x]; simp
    have g2 : ofH (ofH p0 k ++ ofH (ofH p1 k ++ ofH (ofH p2 k ++ ofH (ofH p3 k ++ []) k) k) k) k = ofH l k := by
      simp only [ofH_left, ofH_right]
      exact ofH_congr k fun x => by rw [← hpar x]; simp
    simp only [a2, b0, b1, b2, b3, hk0, hput, htur, g1, g2, same_self]
    simp [isI64]
    exact ⟨by have := len64 p0 hK.2; omega, by have := len64 p3 hK.2; omega⟩
end Go.Proofs.Ytighbmlnlmbbkaa
