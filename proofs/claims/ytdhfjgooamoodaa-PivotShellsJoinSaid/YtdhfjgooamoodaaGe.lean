import Derived.Test.YtdhfjgooamoodaaGd
namespace Go.PL
open Go.AM
set_option linter.unusedVariables false
theorem rep_step {x : List Int} {s n : Nat} {v : Int} (hl : x.length = n) (h1 : 1 ≤ s) (h2 : s < n) (hv : ∀ i, i < s → x.getD i 0 = v) :
    (x.take s ++ (x.take s).take (min (n - s) s) ++ x.drop (s + min (n - s) s)).length = n ∧ ∀ i, i < s + min (n - s) s → (x.take s ++ (x.take s).take (min (n - s) s) ++ x.drop (s + min (n - s) s)).getD i 0 = v := by
  refine ⟨by simp only [List.length_append, List.length_take, List.length_drop]; omega, fun i hi => ?_⟩
  have ht : (x.take s).length = s := by rw [List.length_take]; omega
  rw [List.getD_eq_getElem?_getD, List.append_assoc]
  rcases Nat.lt_or_ge i s with h | h
  · rw [List.getElem?_append_left (by omega), List.getElem?_take, if_pos h, ← List.getD_eq_getElem?_getD]
    exact hv i h
  · rw [List.getElem?_append_right (by omega), ht, List.getElem?_append_left (by rw [List.length_take, ht]; omega), List.getElem?_take, if_pos (by omega), List.getElem?_take, if_pos (by omega), ← List.getD_eq_getElem?_getD]
    exact hv _ (by omega)
theorem replicate_ext {x : List Int} {n : Nat} {v : Int} (hl : x.length = n) (hv : ∀ i, i < n → x.getD i 0 = v) : x = List.replicate n v := by
  refine list_ext (by simp [hl]) fun i hi => ?_
  rw [hv i (by omega), List.getD_eq_getElem?_getD, List.getElem?_replicate, if_pos (by omega)]
  rfl
/-- The least key, as a fold. -/
def lowP (m : Int) (ps : List (List Int)) (v : List Int) (a : Int) : Int := ps.foldl (fun s w => min s (keyS m w v)) a
theorem lowP_le {m : Int} {v : List Int} : ∀ (ps : List (List Int)) (a : Int), lowP m ps v a ≤ a ∧ ∀ w, w ∈ ps → lowP m ps v a ≤ keyS m w v
  | [], a => ⟨Int.le_refl _, fun w h => by simp at h⟩
  | w :: ps, a => by
    obtain ⟨h1, h2⟩ := lowP_le (m := m) (v := v) ps (min a (keyS m w v))
    refine ⟨by show lowP m ps v (min a (keyS m w v)) ≤ a; omega, fun u hu => ?_⟩
    show lowP m ps v (min a (keyS m w v)) ≤ keyS m u v
    rcases List.mem_cons.1 hu with rfl | hu
    · omega
    · exact h2 u hu
theorem lowP_at {m : Int} {v : List Int} : ∀ (ps : List (List Int)) (a : Int), lowP m ps v a = a ∨ ∃ w, w ∈ ps ∧ lowP m ps v a = keyS m w v
  | [], a => .inl rfl
  | w :: ps, a => by
    show lowP m ps v (min a (keyS m w v)) = a ∨ _
    rcases lowP_at (m := m) (v := v) ps (min a (keyS m w v)) with h | ⟨u, hu, h⟩
    · rcases Int.le_total a (keyS m w v) with h' | h'
      · left; rw [h]; omega
      · right; exact ⟨w, List.mem_cons_self .., by show lowP m ps v (min a (keyS m w v)) = _; rw [h]; omega⟩
    · right; exact ⟨u, List.mem_cons_of_mem _ hu, h⟩
theorem nearK_low {m : Int} {ps : List (List Int)} {v : List Int} (h1 : 1 ≤ ps.length) (hk : ∀ w, w ∈ ps → keyS m w v ≤ 134217728) : nearK m ps v = lowP m ps v 134217728 := by
  obtain ⟨a1, a2, a3⟩ := amin_spec (keyAt m ps v) ps.length h1
  obtain ⟨b1, b2⟩ := lowP_le (m := m) (v := v) ps 134217728
  have hm : ps.getD (amin ps.length (keyAt m ps v)) [] ∈ ps := getD_mem ps [] a1
  have c1 : lowP m ps v 134217728 ≤ nearK m ps v := b2 _ hm
  have c2 : nearK m ps v ≤ lowP m ps v 134217728 := by
    rcases lowP_at (m := m) (v := v) ps 134217728 with h | ⟨w, hw, h⟩
    · rw [h]; exact hk _ hm
    · rw [h]
      obtain ⟨i, hi, rfl⟩ := List.getElem_of_mem hw
      have := a2 i hi
      unfold keyAt at this
      rw [List.getD_eq_getElem?_getD (i := i), List.getElem?_eq_getElem hi] at this
      exact this
  omega
theorem leastP_eq (m : Int) (l : List (List Int)) (out : List Int) (k : Nat) : leastP m l out k = lowP m (out.map fun j => l.getD j.toNat []) (l.getD k []) 134217728 := by
  unfold leastP lowP
  rw [List.foldl_map]
theorem leastP_app (m : Int) (l : List (List Int)) (out : List Int) (j : Int) (k : Nat) : leastP m l (out ++ [j]) k = min (leastP m l out k) (keyS m (l.getD j.toNat []) (l.getD k [])) := by
  unfold leastP
  rw [List.foldl_append]
  rfl
theorem key_le {m : Int} {a b : List Int} (h : alikeB a b = true) : 0 ≤ keyS m a b ∧ keyS m a b ≤ 134217728 := by
  have := key_bound m h
  omega
theorem leastP_nonneg {m : Int} {l : List (List Int)} (hf : fitB l = true) {out : List Int} (ho : ∀ j ∈ out, 0 ≤ j ∧ j < l.length) {k : Nat} (hk : k < l.length) : 0 ≤ leastP m l out k ∧ leastP m l out k ≤ 134217728 := by
  have ha := (fitB_iff.1 hf).2
  rw [leastP_eq]
  refine ⟨?_, (lowP_le _ _).1⟩
  rcases lowP_at (m := m) (v := l.getD k []) (out.map fun j => l.getD j.toNat []) 134217728 with h | ⟨w, hw, h⟩
  · rw [h]; decide
  · rw [h]
    obtain ⟨j, hj, rfl⟩ := List.mem_map.1 hw
    have := ho j hj
    exact (key_le (alike_trans (alike_symm (ha j.toNat (by omega))) (ha k hk))).1
theorem near_least {m : Int} {l : List (List Int)} (hf : fitB l = true) {out : List Int} (h1 : 1 ≤ out.length) (ho : ∀ j ∈ out, 0 ≤ j ∧ j < l.length) {k : Nat} (hk : k < l.length) : nearK m (out.map fun j => l.getD j.toNat []) (l.getD k []) = leastP m l out k := by
  have ha := (fitB_iff.1 hf).2
  rw [leastP_eq]
  refine nearK_low (by simpa using h1) fun w hw => ?_
  obtain ⟨j, hj, rfl⟩ := List.mem_map.1 hw
  have := ho j hj
  exact (key_le (alike_trans (alike_symm (ha j.toNat (by omega))) (ha k hk))).2
theorem choose_stop {m : Int} {l : List (List Int)} {n : Nat} (h : leastP m l (chooseP m l n) (nextP m l (chooseP m l n)) = 0) : ∀ k, chooseP m l (n + k) = chooseP m l n
  | 0 => rfl
  | k + 1 => by
    show stepP m l (chooseP m l (n + k)) = _
    rw [choose_stop h k]
    unfold stepP
    rw [if_pos h]
theorem choose_go {m : Int} {l : List (List Int)} {n : Nat} (h : ¬ leastP m l (chooseP m l n) (nextP m l (chooseP m l n)) = 0) : chooseP m l (n + 1) = chooseP m l n ++ [(nextP m l (chooseP m l n) : Int)] := by
  show stepP m l (chooseP m l n) = _
  unfold stepP
  rw [if_neg h]
theorem choose_in {m : Int} {l : List (List Int)} (hl : 1 ≤ l.length) : ∀ n, (∀ j ∈ chooseP m l n, 0 ≤ j ∧ j < l.length) ∧ 1 ≤ (chooseP m l n).length
  | 0 => ⟨fun j hj => by
      have : j = 0 := by simpa [chooseP] using hj
      omega, Nat.le_refl _⟩
  | n + 1 => by
    obtain ⟨h1, h2⟩ := choose_in (m := m) hl n
    have hn : nextP m l (chooseP m l n) < l.length := (amax_spec _ _ hl).1
    show (∀ j ∈ stepP m l (chooseP m l n), _) ∧ _
    unfold stepP
    split
    · rename_i h
      exact ⟨h1, by show 1 ≤ (stepP m l (chooseP m l n)).length; unfold stepP; rw [if_pos h]; exact h2⟩
    · rename_i h
      refine ⟨fun j hj => ?_, by show 1 ≤ (stepP m l (chooseP m l n)).length; unfold stepP; rw [if_neg h]; simp⟩
      rcases List.mem_append.1 hj with hj | hj
      · exact h1 j hj
      · simp only [List.mem_singleton] at hj
        omega
end Go.PL
namespace Go.Proofs.Ytdhfjgooamoodaa
open Go.AM Go.PL
set_option linter.unusedVariables false
theorem sat_rep : SatG Try.prog 43 repG := by
  refine fnwpG_sat ssGR 6 _ _ fun (x : List Int × Int) hk hp => ?_
  obtain ⟨l, n⟩ := x
  obtain ⟨hl, h1, h2⟩ : l.length = 1 ∧ 1 ≤ n ∧ n ≤ 1000000 := hp
  rw [rep_nf]
  obtain ⟨v, rfl⟩ : ∃ v, l = [v] := by
    match l, hl with
    | [v], _ => exact ⟨v, rfl⟩
  have w1 : IntKind.u64.wrap ((([v] : List Int).length : Nat) : Int) = 1 := wrapU (by simp) (by simp)
  have w2 : IntKind.u64.wrap n = n := wrapU (by omega) (by omega)
  have w3 : IntKind.i64.wrap n = n := i64_wrap (by omega) (by omega)
  simp only [w1, w2, Int.one_mul, w3, List.length_replicate, Int.toNat_natCast, Nat.sub_zero, List.take_zero, List.nil_append, Nat.zero_add, List.drop_zero, List.length_take]
  refine ⟨fun h => absurd (dt h) (by omega), fun _ => ⟨⟨by omega, by omega⟩, fun h => absurd (dt h) (by omega), fun _ => ⟨fun h => absurd (dt h) (by omega), fun _ => ⟨⟨by omega, by omega, room8 bytesI8 (by omega)⟩, ⟨by omega, by simp, by omega, by omega, by omega⟩, ?_⟩⟩⟩⟩
  refine ⟨fun x => (x.1 : List Int).length = n.toNat ∧ 1 ≤ x.2 ∧ x.2 ≤ n ∧ ∀ i : Nat, (i : Int) < x.2 → x.1.getD i 0 = v, fun x => (n - x.2).toNat, ?_, fun ⟨x, s⟩ ⟨x1, x2, x3, x4⟩ => ⟨fun g => ?_, fun g => ?_⟩⟩
  · have e : min n.toNat ([v] : List Int).length = 1 := by simp; omega
    rw [e]
    refine ⟨by simp; omega, by show (1 : Int) ≤ ((1 : Nat) : Int); omega, by show ((1 : Nat) : Int) ≤ n; omega, fun i hi => ?_⟩
    have : i = 0 := by dsimp only at hi; omega
    subst this
    rfl
  · dsimp only at x1 x2 x3 x4 g ⊢
    have g := dt g
    have e0 : (Int.ofNat x.length).toNat = n.toNat := by show ((x.length : Nat) : Int).toNat = _; omega
    have e1 : min s.toNat x.length = s.toNat := by omega
    have e2 : (Int.ofNat x.length) = (x.length : Int) := rfl
    obtain ⟨r1, r2⟩ := rep_step (x := x) (s := s.toNat) (n := n.toNat) (v := v) x1 (by omega) (by omega) fun i hi => x4 i (by omega)
    rw [e0, e1, e2]
    have f1 : (0 ≤ s ∧ s ≤ (x.length : Int) ∧ (x.length : Int) ≤ (x.length : Int) ∧ s < (x.length : Int)) := by omega
    have f2 : ((0 : Int) ≤ 0 ∧ 0 ≤ s ∧ s ≤ (x.length : Int) ∧ 0 < (x.length : Int)) := by omega
    have f3 : (0 < x.length ∧ 0 < s.toNat ∧ 0 ≤ s ∧ s ≤ (x.length : Int) ∧ (x.length : Int) ≤ (x.length : Int)) := by omega
    have f4 : isI64 (s + ((min (n.toNat - s.toNat) s.toNat : Nat) : Int)) := i64s (by omega) (by omega)
    have f5 : (n - (s + ((min (n.toNat - s.toNat) s.toNat : Nat) : Int))).toNat < (n - s).toNat := by omega
    have f6 : 1 ≤ s + ((min (n.toNat - s.toNat) s.toNat : Nat) : Int) ∧ s + ((min (n.toNat - s.toNat) s.toNat : Nat) : Int) ≤ n := by omega
    have f7 := fun (i : Nat) (hi : (i : Int) < s + ((min (n.toNat - s.toNat) s.toNat : Nat) : Int)) => r2 i (by omega)
    exact ⟨⟨f1, f2, f3, f4, ⟨r1, f6.1, f6.2, f7⟩, f5⟩, f2, f1, f3, f4, ⟨r1, f6.1, f6.2, f7⟩, f5⟩
  · dsimp only at x1 x2 x3 x4 g ⊢
    have g := df g
    exact replicate_ext x1 fun i hi => x4 i (by omega)
theorem sat_has : Sat Try.prog 57 hasSp := by
  refine sat_nf (C := G1) ssG1 (fun x => has_nf x.1 x.2) fun (⟨p, x⟩ : Shell × Int) _ _ => ⟨trivial, ?_⟩
  unfold hasS withS
  rw [Bool.eq_iff_iff]
  simp
  omega
theorem pivB_iff {m : Int} {p : List (List Int)} : pivB m p = true ↔ metB m = true ∧ fitB p = true ∧ p.length ≤ 8 := by
  unfold pivB
  simp only [Bool.and_eq_true, decide_eq_true_eq]
theorem bothB_iff {m : Int} {p l : List (List Int)} : bothB m p l = true ↔ pivB m p = true ∧ fitB l = true ∧ alikeB (p.getD 0 []) (l.getD 0 []) = true := by
  unfold bothB
  simp only [Bool.and_eq_true]
theorem met_val (m : Int) : mValS m 0 = metB m := by
  rw [Bool.eq_iff_iff, mValS_iff, metB_iff]
  omega
theorem sat_piv : Sat Try.prog 46 pivSp := by
  refine sat_nf (C := G1) ssG1 (fun x => piv_nf x.1 x.2) fun (⟨m, p⟩ : Int × List (List Int)) _ _ => ?_
  dsimp only
  rw [met_val]
  unfold pivB
  refine ⟨trivial, fun h => ⟨trivial, fun h' => ?_, fun h' => ?_⟩, fun h => ?_⟩
  · rw [h, h']
    exact dec_is (by simp; omega)
  · rw [h, h']; rfl
  · rw [h]; rfl
theorem sat_rPiv : Sat Try.prog 51 pivSp := by
  refine sat_nf (C := G1) ssG1 (fun x => rPiv_nf x.1 x.2) fun (⟨m, p⟩ : Int × List (List Int)) _ _ => ?_
  dsimp only
  unfold pivB metB
  refine ⟨trivial, fun h => ⟨trivial, fun h' => ?_, fun h' => ?_⟩, fun h => ?_⟩
  · rw [h, h']
    exact dec_is (by simp; omega)
  · rw [h, h']; rfl
  · rw [h]; rfl
theorem piv_alike {m : Int} {p : List (List Int)} {v : List Int} (h : pivB m p = true) (ha : alikeB (p.getD 0 []) v = true) {k : Nat} (hk : k < p.length) : alikeB (p.getD k []) v = true :=
  alike_trans (alike_symm ((fitB_iff.1 (pivB_iff.1 h).2.1).2 k hk)) ha
theorem piv_sm {m : Int} {p : List (List Int)} {v : List Int} (h : pivB m p = true) (ha : alikeB (p.getD 0 []) v = true) {k : Nat} (hk : k < p.length) : 1 ≤ m ∧ m ≤ 3 ∧ small 64 4000 (p.getD k []) ∧ small 64 4000 v ∧ (p.getD k []).length = v.length :=
  ⟨(metB_iff.1 (pivB_iff.1 h).1).1, (metB_iff.1 (pivB_iff.1 h).1).2, alike_sm (piv_alike h ha hk) (by omega)⟩
theorem sat_keys : Sat Try.prog 47 keysSp := by
  refine sat_nf (C := G1) ssG1 (fun x => keys_nf x.1 x.2.1 x.2.2) fun (⟨m, p, v⟩ : Int × List (List Int) × List Int) hk hp => ?_
  obtain ⟨h1, h2⟩ : pivB m p = true ∧ alikeB (p.getD 0 []) v = true := hp
  have h8 := (pivB_iff.1 h1).2.2
  dsimp only
  refine ⟨fun x => 0 ≤ x.2 ∧ x.2 ≤ p.length ∧ x.1 = tab x.2.toNat (keyAt m p v), fun x => ((p.length : Int) - x.2).toNat, ⟨by simp, by simp, rfl⟩, fun ⟨o, i⟩ ⟨i0, i1, i2⟩ => ⟨fun g => ?_, fun g => ?_⟩⟩
  · dsimp only at i0 i1 i2 g ⊢
    have g := dt g
    refine ⟨⟨i0, g⟩, piv_sm h1 h2 (by omega), room8 bytesI8 (by rw [i2, tab_length, List.length_singleton]; omega), i64s (by omega) (by omega), ⟨by omega, by omega, ?_⟩, by omega⟩
    rw [succ_toNat i0, tab_succ, i2]
    rfl
  · dsimp only at i0 i1 i2 g ⊢
    rw [i2, end_toNat i1 (df g)]
    rfl
theorem sat_rKeys : Sat Try.prog 53 keysSp := by
  refine sat_nf (C := G1) ssG1 (fun x => rKeys_nf x.1 x.2.1 x.2.2) fun (⟨m, p, v⟩ : Int × List (List Int) × List Int) hk hp => ?_
  obtain ⟨h1, h2⟩ : pivB m p = true ∧ alikeB (p.getD 0 []) v = true := hp
  have h8 := (pivB_iff.1 h1).2.2
  dsimp only
  refine ⟨fun x => 0 ≤ x.2 ∧ x.2 ≤ p.length ∧ x.1 = tab x.2.toNat (keyAt m p v), fun x => ((p.length : Int) - x.2).toNat, ⟨by simp, by simp, rfl⟩, fun ⟨o, i⟩ ⟨i0, i1, i2⟩ => ⟨fun g => ?_, fun g => ?_⟩⟩
  · dsimp only at i0 i1 i2 g ⊢
    have g := dt g
    refine ⟨⟨i0, g⟩, piv_sm h1 h2 (by omega), room8 bytesI8 (by rw [i2, tab_length, List.length_singleton]; omega), i64s (by omega) (by omega), ⟨by omega, by omega, ?_⟩, by omega⟩
    rw [succ_toNat i0, tab_succ, i2]
    rfl
  · dsimp only at i0 i1 i2 g ⊢
    rw [i2, end_toNat i1 (df g)]
    rfl
theorem sat_sameR : Sat Try.prog 20 sameRSp := by
  refine sat_nf (C := G1) ssG1 (fun x => sameR_nf x.1 x.2) fun (⟨a, b⟩ : List (List Int) × List (List Int)) hk _ => ?_
  dsimp only
  have hl : a.length ≤ 9223372036854775807 := hk.1.1
  refine ⟨fun h => (decide_eq_false fun e => ndt h (by rw [e])).symm, fun h => ?_⟩
  have h := ndf h
  refine ⟨fun x => 0 ≤ x ∧ x ≤ a.length ∧ ∀ k : Nat, (k : Int) < x → a.getD k [] = b.getD k [], fun x => ((a.length : Int) - x).toNat, ⟨by omega, by omega, fun j hj => by omega⟩, fun x ⟨h0, h1, h2⟩ => ⟨fun g => ?_, fun g => ?_⟩⟩
  · have g := dt g
    exact ⟨⟨h0, g⟩, ⟨h0, by omega⟩, trivial, fun c => (decide_eq_false fun e => ndt c (by rw [e])).symm, fun c => ⟨i64_lt h0 g hl, ⟨by omega, by omega, upd_all h0 h2 (ndf c)⟩, by dsimp only; omega⟩⟩
  · have g := df g
    exact (decide_eq_true (listL_ext [] (by omega) fun i hi => h2 i (by omega))).symm
theorem askB_iff {m : Int} {a : List Shell} {ks : List Int} : askB m a ks = true ↔ metB m = true ∧ validB a = true ∧ ks.length = a.length ∧ ∀ k, k < ks.length → 0 ≤ ks.getD k 0 ∧ ks.getD k 0 ≤ 134217728 := by
  unfold askB
  simp only [Bool.and_eq_true, decide_eq_true_eq, upto_iff]
theorem sat_rAsk : Sat Try.prog 68 askSp := by
  refine sat_nf (C := G1) ssG1 (fun x => rAsk_nf x.1 x.2.1 x.2.2) fun (⟨m, a, ks⟩ : Int × List Shell × List Int) hk _ => ?_
  dsimp only
  have hl : ks.length ≤ 9223372036854775807 := hk.2.2.1
  refine ⟨fun x => 0 ≤ x ∧ x ≤ ks.length ∧ ∀ k : Nat, (k : Int) < x → 0 ≤ ks.getD k 0 ∧ ks.getD k 0 ≤ 134217728, fun x => ((ks.length : Int) - x).toNat, ⟨by omega, by omega, fun j hj => by omega⟩, fun x ⟨h0, h1, h2⟩ => ⟨fun g => ?_, fun g => ?_⟩⟩
  · have g := dt g
    refine ⟨⟨h0, g⟩, fun c => is_no fun h => ?_, fun c => ⟨⟨h0, g⟩, fun d => is_no fun h => ?_, fun d => ⟨i64_lt h0 g hl, ⟨by omega, by omega, upd_all h0 h2 ⟨by have := df c; omega, by have := df d; omega⟩⟩, by dsimp only; omega⟩⟩⟩
    · have := (askB_iff.1 h).2.2.2 x.toNat (by omega)
      have := dt c
      omega
    · have := (askB_iff.1 h).2.2.2 x.toNat (by omega)
      have := dt d
      omega
  · have g := df g
    refine ⟨trivial, fun h => ⟨trivial, fun h' => dec_is ⟨fun e => askB_iff.2 ⟨h, h', by omega, fun k hk => h2 k (by omega)⟩, fun e => by have := (askB_iff.1 e).2.2.1; omega⟩, fun h' => is_no fun e => ?_⟩, fun h => is_no fun e => ?_⟩
    · have := (askB_iff.1 e).2.1
      rw [h'] at this
      cases this
    · have := (askB_iff.1 e).1
      unfold metB at this
      rw [h] at this
      cases this
theorem inB_iff {a : List Shell} {ks : List Int} : inB a ks = true ↔ validB a = true ∧ ks.length = a.length ∧ ∀ k, k < a.length → (a.getD k sh0).1 ≤ ks.getD k 0 ∧ ks.getD k 0 ≤ (a.getD k sh0).2.1 := by
  unfold inB hasS
  simp only [Bool.and_eq_true, decide_eq_true_eq, upto_iff]
theorem sat_rIn : Sat Try.prog 40 inSp := by
  refine sat_nf (C := G1) ssG1 (fun x => rIn_nf x.1 x.2) fun (⟨a, ks⟩ : List Shell × List Int) hk _ => ?_
  dsimp only
  have hl : a.length ≤ 9223372036854775807 := hk.1.1
  refine ⟨trivial, fun h => is_no fun e => ?_, fun hv => ⟨fun h => is_no fun e => ndt h (by rw [(inB_iff.1 e).2.1]), fun hn => ?_⟩⟩
  · have := (inB_iff.1 e).1
    rw [nt h] at this
    cases this
  have hn := ndf hn
  refine ⟨fun x => 0 ≤ x ∧ x ≤ a.length ∧ ∀ k : Nat, (k : Int) < x → (a.getD k sh0).1 ≤ ks.getD k 0 ∧ ks.getD k 0 ≤ (a.getD k sh0).2.1, fun x => ((a.length : Int) - x).toNat, ⟨by omega, by omega, fun j hj => by omega⟩, fun x ⟨h0, h1, h2⟩ => ⟨fun g => ?_, fun g => ?_⟩⟩
  · have g := dt g
    refine ⟨⟨h0, by omega⟩, ⟨h0, g⟩, fun c => is_no fun h => ?_, fun c => ⟨⟨h0, by omega⟩, ⟨h0, g⟩, fun d => is_no fun h => ?_, fun d => ⟨i64_lt h0 g hl, ⟨by omega, by omega, upd_all h0 h2 ?_⟩, by dsimp only; omega⟩⟩⟩
    · have := (inB_iff.1 h).2.2 x.toNat (by omega)
      have := dt c
      unfold sh0 at *
      omega
    · have := (inB_iff.1 h).2.2 x.toNat (by omega)
      have := dt d
      unfold sh0 at *
      omega
    · have := df c
      have := df d
      unfold sh0
      omega
  · have g := df g
    exact (inB_iff.2 ⟨nf hv, by omega, fun k hk => h2 k (by omega)⟩).symm
theorem joinB_iff {a b : List Shell} : joinB a b = true ↔ validB a = true ∧ validB b = true ∧ a.length = b.length := by
  unfold joinB
  simp only [Bool.and_eq_true, decide_eq_true_eq]
theorem join_bad {a b : List Shell} (h : joinB a b = true → False) : joinR a b = ([], 1) := if_neg h
theorem join_good {a b : List Shell} (h : joinB a b = true) : joinR a b = (joinS a b, 0) := if_pos h
theorem sat_rJoin : Sat Try.prog 35 rJoinSp := by
  refine sat_nf (C := G1) ssG1 (fun x => rJoin_nf x.1 x.2) fun (⟨a, b⟩ : List Shell × List Shell) hk _ => ?_
  dsimp only
  refine ⟨trivial, fun h => ?_, fun ha => ⟨trivial, fun h => ?_, fun hb => ⟨fun h => ?_, fun hn => ?_⟩⟩⟩
  · rw [join_bad fun e => by rw [(joinB_iff.1 e).1] at h; cases h]
  · rw [join_bad fun e => by rw [(joinB_iff.1 e).2.1] at h; cases h]
  · rw [join_bad fun e => ndt h (by rw [(joinB_iff.1 e).2.2])]
  have ha := nf ha
  have hb := nf hb
  have hn := ndf hn
  have h8 := (validB_iff.1 ha).1
  rw [join_good (joinB_iff.2 ⟨ha, hb, by omega⟩)]
  refine ⟨fun x => 0 ≤ x.2 ∧ x.2 ≤ a.length ∧ x.1 = tabL x.2.toNat (joinSh a b), fun x => ((a.length : Int) - x.2).toNat, ⟨by simp, by simp, rfl⟩, fun ⟨o, i⟩ ⟨i0, i1, i2⟩ => ⟨fun g => ?_, fun g => ?_⟩⟩
  · dsimp only at i0 i1 i2 g ⊢
    have g := dt g
    have e : (o ++ [joinSh a b i.toNat]) = tabL (i + 1).toNat (joinSh a b) := by rw [succ_toNat i0, tabL_succ, i2]
    exact ⟨⟨i0, g⟩, ⟨i0, by omega⟩, ⟨i0, g⟩, ⟨i0, by omega⟩, room16 bytesS16 (by rw [i2, tabL_length, List.length_singleton]; omega), i64s (by omega) (by omega), ⟨by omega, by omega, e⟩, by omega⟩
  · dsimp only at i0 i1 i2 g ⊢
    rw [i2, end_toNat i1 (df g)]
    rfl
end Go.Proofs.Ytdhfjgooamoodaa
