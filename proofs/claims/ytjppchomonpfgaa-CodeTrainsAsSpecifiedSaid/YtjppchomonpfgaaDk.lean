import Derived.Test.YtjppchomonpfgaaDh
import Derived.Test.YtjppchomonpfgaaDi
namespace Go.PL
open Go.AM
set_option linter.unusedVariables false
theorem low_far {l : List (List Int)} {f t : Int} {k : Nat} : ∀ {ws : List (List Int)}, 1 ≤ ws.length → (∀ w, w ∈ ws → keyS 2 w (ptS f t (l.getD k [])) ≤ 134217728) → ws.foldl (fun s w => min s (keyS 2 w (ptS f t (l.getD k [])))) 268435456 = farS l f t ws k
  | [], h, _ => by simp at h
  | w :: ws, _, hk => by
    have h := hk w (List.mem_cons_self ..)
    unfold farS
    rw [List.foldl_cons, List.foldl_cons]
    rw [Int.min_eq_right (by omega), Int.min_eq_right (by omega)]
end Go.PL
namespace Go.Proofs.Ytjppchomonpfgaa
open Go.AM Go.PL
set_option linter.unusedVariables false
theorem lowF_succ (ws : List (List Int)) (v : List Int) (a : Int) {n : Nat} (h : n < ws.length) : lowF (ws.take (n + 1)) v a = min (lowF (ws.take n) v a) (keyS 2 (ws.getD n []) v) := by
  unfold lowF
  rw [← List.take_append_getElem h, List.foldl_append, List.getD_eq_getElem?_getD, List.getElem?_eq_getElem h]
  rfl
theorem sat_rLeast : Sat Try.prog 62 rLeastSp := by
  refine sat_nf (C := R0) ssR0 (fun x => rLeast_nf x.1 x.2) fun (⟨ws, v⟩ : List (List Int) × List Int) hk hp => ?_
  have ha : ∀ i, i < ws.length → alikeB (ws.getD i []) v = true := hp
  have hl : ws.length ≤ 9223372036854775807 := hk.1.1
  dsimp only
  refine ⟨fun x => 0 ≤ x.2 ∧ x.2 ≤ ws.length ∧ x.1 = lowF (ws.take x.2.toNat) v 268435456, fun x => ((ws.length : Int) - x.2).toNat, ⟨by simp, by simp, rfl⟩, fun ⟨o, i⟩ ⟨h0, h1, h2⟩ => ⟨fun g => ?_, fun g => ?_⟩⟩
  · dsimp only at h0 h1 h2 g ⊢
    have g := dt g
    obtain ⟨s1, s2, s3⟩ := alike_sm (ha i.toNat (by omega)) (c := 4000) (by omega)
    have hs := lowF_succ ws v 268435456 (show i.toNat < ws.length by omega)
    rw [← h2, ← succ_toNat h0] at hs
    refine ⟨⟨h0, g⟩, ⟨by omega, by omega, s1, s2, s3⟩, fun r => ⟨i64_lt h0 g hl, ⟨by omega, by omega, ?_⟩, by omega⟩, fun r => ⟨i64_lt h0 g hl, ⟨by omega, by omega, ?_⟩, by omega⟩⟩
    · have r := dt r
      rw [hs]
      omega
    · have r := df r
      rw [hs]
      omega
  · dsimp only at h0 h1 h2 g ⊢
    rw [h2, end_toNat h1 (df g), List.take_length]
theorem sat_rPart2 : Sat Try.prog 49 rPartSp := by
  refine sat_nf (C := R0) ssR0 (fun x => rPart2_nf x.1 x.2.1 x.2.2) fun (⟨b, k, v⟩ : (Int × List Int × Unit × Unit) × Int × List Int) hk hp => ?_
  obtain ⟨⟨h1, h2, h3⟩, h4⟩ : partP b.2.1 b.1 k v := hp
  exact ⟨⟨h1, h2⟩, ⟨h1, h3⟩, h4, rfl⟩
theorem ssR1 : SpecSound R1 := mkctx_sound ⟨sat_rLeast, sat_rPart2, sat_rCut, sat_end, satD0⟩ trivial
theorem words_key {l : List (List Int)} (ha : alikeL l = true) {f t : Int} (h0 : 0 ≤ f) (h1 : f < t) (h2 : t ≤ (l.getD 0 []).length) {ws : List (List Int)} (hw : ∀ w, w ∈ ws → ∃ j, j < l.length ∧ w = ptS f t (l.getD j [])) {k : Nat} (hk : k < l.length) :
    (∀ i, i < ws.length → alikeB (ws.getD i []) (ptS f t (l.getD k [])) = true) ∧ (1 ≤ ws.length → lowF ws (ptS f t (l.getD k [])) 268435456 = farS l f t ws k) := by
  refine ⟨fun i hi => ?_, fun h => low_far h fun w hm => ?_⟩
  · obtain ⟨j, hj, e⟩ := hw _ (getD_mem ws [] hi)
    rw [e]
    exact pt_alike ha h0 h1 h2 hj hk
  · obtain ⟨j, hj, e⟩ := hw w hm
    rw [e]
    have := key_bound 2 (pt_alike ha h0 h1 h2 hj hk)
    omega
theorem sat_rTrain : Sat Try.prog 32 rTrainSp := by
  refine sat_nf (C := R1) ssR1 (fun x => rTrain_nf x.1 x.2.1 x.2.2) fun (⟨l, c, w⟩ : List (List Int) × List Int × Int) hk hp => ?_
  have b1 : alikeL l = false ∨ w < 1 → ((((0 : Int), [], [], ()), (1 : Int), ()) : Book × Int × Unit) = ((trainBk l c w).1, (trainBk l c w).2, ()) := fun h => by unfold trainBk; rw [if_pos h]; rfl
  have b2 : ¬ (alikeL l = false ∨ w < 1) → 4096 < l.length ∨ 256 < w → ((((0 : Int), [], [], ()), (2 : Int), ()) : Book × Int × Unit) = ((trainBk l c w).1, (trainBk l c w).2, ()) := fun h h' => by unfold trainBk; rw [if_neg h, if_pos h']; rfl
  have b3 : ¬ (alikeL l = false ∨ w < 1) → ¬ (4096 < l.length ∨ 256 < w) → cutB c (l.getD 0 []).length = false → ((((0 : Int), [], [], ()), (80 : Int), ()) : Book × Int × Unit) = ((trainBk l c w).1, (trainBk l c w).2, ()) := fun h h' h2 => by unfold trainBk; rw [if_neg h, if_neg h', if_pos h2]; rfl
  have hl : l.length ≤ 9223372036854775807 := hk.1.1
  dsimp only
  simp only [and_self]
  refine ⟨fun h => b1 (.inl (eq_no fun e => by have := (alikeL_iff.1 e).1; have := dt h; omega)), fun h0 => ⟨fun h => b1 (.inr (dt h)), fun hw => ?_⟩⟩
  have h0 := df h0
  have hw := df hw
  refine ⟨fun x => 0 ≤ x ∧ x ≤ l.length ∧ ∀ k : Nat, (k : Int) < x → alikeB (l.getD 0 []) (l.getD k []) = true, fun x => ((l.length : Int) - x).toNat, ⟨by omega, by omega, fun j hj => by omega⟩, fun x ⟨x0, x1, x2⟩ => ⟨fun g => ?_, fun g => ?_⟩⟩
  · have g := dt g
    refine ⟨by omega, ⟨x0, g⟩, trivial, fun e => b1 (.inl (eq_no fun e' => ?_)), fun e => ⟨i64_lt x0 g hl, ⟨by omega, by omega, upd_all x0 x2 (nf e)⟩, by dsimp only; omega⟩⟩
    rw [(alikeL_iff.1 e').2 x.toNat (by omega)] at e
    cases e
  have a : alikeL l = true := alikeL_iff.2 ⟨by omega, fun k hk => x2 k (by have := df g; omega)⟩
  have n1 : ¬ (alikeL l = false ∨ w < 1) := by rw [a]; simp; omega
  refine ⟨fun r => b2 n1 (.inl (by have := dt r; omega)), fun r => ⟨fun s => b2 n1 (.inr (dt s)), fun s => ?_⟩⟩
  have r := df r
  have s := df s
  have n2 : ¬ (4096 < l.length ∨ 256 < w) := by omega
  have hl1 : 1 ≤ l.length := by omega
  refine ⟨by omega, trivial, fun u => b3 n1 n2 (nt u), fun u => ?_⟩
  have u := nf u
  have c8 := (cutB_iff.1 u).2.1
  refine ⟨by omega, room8 bytesI8 (by omega), fun x => 0 ≤ x.1 ∧ x.1 ≤ c.length ∧ ((l.getD 0 []).length : Int) = x.2.1 ∧ c = x.2.2.1 ∧ x.2.2.2 = tabL x.1.toNat (trWords l c (l.getD 0 []).length w), fun x => ((c.length : Int) - x.1).toNat, ⟨by simp, by simp, rfl, rfl, rfl⟩, fun ⟨k, d, cs, ws⟩ ⟨k0, k1, k2, k3, k4⟩ => ?_⟩
  dsimp only at k0 k1 k2 k3 k4 ⊢
  subst k2 k3
  refine ⟨fun g => ?_, fun g => ?_⟩
  rotate_left
  · unfold trainBk
    rw [if_neg n1, if_neg n2, if_neg (by rw [u]; simp), k4, end_toNat k1 (df g)]
  have g := dt g
  have e1 := end_gt u (show k.toNat < c.length by omega)
  have e2 := cut_mono u k.toNat (by omega)
  have hlen : ∀ i, i < l.length → (l.getD i []).length = (l.getD 0 []).length := fun i hi => (alike_iff.1 ((alikeL_iff.1 a).2 i hi)).2.2.symm
  have hP : ∀ i, i < l.length → partP c (l.getD 0 []).length k (l.getD i []) := fun i hi => ⟨⟨k0, g, by omega⟩, e2.1, by omega, by rw [hlen i hi]; exact e1.2⟩
  generalize hf : c.getD k.toNat 0 = f at *
  generalize ht : endN c (l.getD 0 []).length k.toNat = t at *
  have ep : ∀ v, partS c (l.getD 0 []).length k.toNat v = ptS f t v := fun v => by unfold partS ptS; rw [hf, ht]
  have eW : trWords l c (l.getD 0 []).length w k.toNat = trainS l f t w.toNat := by unfold trWords; rw [hf, ht]
  simp only [ep]
  have f0 : 0 ≤ f := e2.1
  have f1 : f < t := e1.1
  have f2 : t ≤ (l.getD 0 []).length := e1.2
  have wl : ws.length = k.toNat := by rw [k4, tabL_length]
  have plen : ∀ i, i < l.length → (ptS f t (l.getD i [])).length ≤ 32 := fun i hi => (vecB_iff.1 (alike_iff.1 (pt_alike a f0 f1 f2 hi hi)).1).2.2
  have fin : ∀ out : List (List Int), out = trainS l f t w.toNat → roomP R1 39 (ws.length + [out].length) ∧ isI64 (k + 1) ∧ (0 ≤ k + 1 ∧ k + 1 ≤ c.length ∧ True ∧ True ∧ ws ++ [out] = tabL (k + 1).toNat (trWords l c (l.getD 0 []).length w)) ∧ ((c.length : Int) - (k + 1)).toNat < ((c.length : Int) - k).toNat := fun out e =>
    ⟨room24 bytesLL24 (by rw [List.length_singleton]; omega), i64s (by omega) (by omega), ⟨by omega, by omega, trivial, trivial, by rw [succ_toNat k0, tabL_succ, ← k4, eW, e]⟩, by omega⟩
  have fin' : ∀ out : List (List Int), out = trainS l f t w.toNat → roomP R1 39 (ws.length + [out].length) ∧ isI64 (k + 1) ∧ (0 ≤ k + 1 ∧ k + 1 ≤ c.length ∧ ((l.getD 0 []).length : Int) = (l.getD 0 []).length ∧ c = c ∧ ws ++ [out] = tabL (k + 1).toNat (trWords l c (l.getD 0 []).length w)) ∧ ((c.length : Int) - (k + 1)).toNat < ((c.length : Int) - k).toNat := fun out e => by
    obtain ⟨a1, a2, ⟨a3, a4, _, _, a5⟩, a6⟩ := fin out e
    exact ⟨a1, a2, ⟨a3, a4, rfl, rfl, a5⟩, a6⟩
  have stop : ∀ out : List (List Int), out = trainS l f t out.length → (out.length : Int) ≤ w → farS l f t out (nextS l f t out) = 0 → out = trainS l f t w.toNat := fun out e hle hz => by
    have h := train_stop (l := l) (f := f) (t := t) (n := out.length) (by rw [← e]; exact hz) (w.toNat - out.length)
    rw [show out.length + (w.toNat - out.length) = w.toNat by omega, ← e] at h
    exact h.symm
  have hN : ∀ ws, nextS l f t ws < l.length := fun ws => nextS_lt hl1 f t ws
  have one := train_one l f t
  have mone : ∀ v, v ∈ [ptS f t (l.getD 0 [])] → ∃ j, j < l.length ∧ v = ptS f t (l.getD j []) := fun v hv => ⟨0, by omega, by simpa using hv⟩
  have step : ∀ (out : List (List Int)) (i : Int), 0 ≤ i → farS l f t out (amax i.toNat (farS l f t out)) < farS l f t out i.toNat → i = (amax (i + 1).toNat (farS l f t out) : Int) := fun out i i0 h => by
    rw [succ_toNat i0, amax_succ, if_pos h]; omega
  have stay : ∀ (out : List (List Int)) (i : Int), 0 ≤ i → ¬ farS l f t out (amax i.toNat (farS l f t out)) < farS l f t out i.toNat → (amax i.toNat (farS l f t out) : Int) = (amax (i + 1).toNat (farS l f t out) : Int) := fun out i i0 h => by
    rw [succ_toNat i0, amax_succ, if_neg h]
  have amlt : ∀ (out : List (List Int)) (i : Int), 0 ≤ i → i ≤ l.length → amax i.toNat (farS l f t out) < l.length := fun out i i0 i1 => by
    by_cases h : 1 ≤ i.toNat
    · have := (amax_spec (farS l f t out) i.toNat h).1; omega
    · rw [show i.toNat = 0 by omega]; exact hl1
  have tn : ∀ n : Nat, ((n : Nat) : Int).toNat = n := fun n => by omega
  refine ⟨by omega, hP 0 (by omega), room8 bytesI8 (by have := plen 0 (by omega); omega), fun q => ?_, fun q => fin _ (by rw [show w.toNat = 1 by have := df q; simp at this; omega, one])⟩
  have q := dt q
  rw [List.length_singleton] at q
  refine ⟨fun x => ((l.getD 0 []).length : Int) = x.2.2.2.1 ∧ c = x.2.2.2.2.1 ∧ ws = x.2.2.2.2.2 ∧ 0 ≤ x.2.2.1 ∧ x.2.2.1 ≤ l.length ∧ x.2.1 = (amax x.2.2.1.toNat (farS l f t [ptS f t (l.getD 0 [])]) : Int), fun x => ((l.length : Int) - x.2.2.1).toNat, ⟨(by trivial), (by trivial), (by trivial), by simp, by simp, rfl⟩, fun ⟨o, b, i, d', c', ws'⟩ ⟨q1, q2, q3, i0, i1, i2⟩ => ?_⟩
  dsimp only at q1 q2 q3 i0 i1 i2 ⊢
  subst q1 q2 q3 i2
  simp only [ep, tn]
  have hb := amlt [ptS f t (l.getD 0 [])] i i0 i1
  obtain ⟨wb1, wb2⟩ := words_key a f0 f1 f2 mone hb
  refine ⟨fun h => ?_, fun h => ?_⟩
  · have h := dt h
    obtain ⟨wi1, wi2⟩ := words_key a f0 f1 f2 mone (show i.toNat < l.length by omega)
    rw [wb2 (by simp), wi2 (by simp)]
    exact ⟨⟨i0, h⟩, hP _ (by omega), wi1, ⟨by omega, by omega⟩, hP _ hb, wb1, fun e => ⟨i64s (by omega) (by omega), ⟨(by trivial), (by trivial), (by trivial), by omega, by omega, step _ i i0 (dt e)⟩, by omega⟩, fun e => ⟨i64s (by omega) (by omega), ⟨(by trivial), (by trivial), (by trivial), by omega, by omega, stay _ i i0 (df e)⟩, by omega⟩⟩
  have ei := end_toNat i1 (df h)
  rw [ei] at hb wb1 wb2 ⊢
  have hbP := hP _ hb
  rw [wb2 (by simp)]
  refine ⟨⟨by omega, by omega⟩, hbP, wb1, fun z => fin _ (stop [ptS f t (l.getD 0 [])] one.symm (by simp; omega) (dt z)), fun z => ⟨⟨by omega, by omega⟩, hbP, room8 bytesI8 (by have := plen _ hb; omega), room24 bytesL24 (by simp), ?_⟩⟩
  have z : ¬ farS l f t [ptS f t (l.getD 0 [])] (nextS l f t [ptS f t (l.getD 0 [])]) = 0 := df z
  have e3 := train_go (l := l) (f := f) (t := t) (n := 1) (by rw [one]; exact z)
  rw [one] at e3
  refine ⟨fun x => ((l.getD 0 []).length : Int) = x.2.1 ∧ c = x.2.2.1 ∧ ws = x.2.2.2 ∧ x.1 = trainS l f t x.1.length ∧ 1 ≤ x.1.length ∧ (x.1.length : Int) ≤ w, fun x => (w - (x.1.length : Int)).toNat, ⟨(by trivial), (by trivial), (by trivial), e3.symm, by simp, by simp; omega⟩, fun ⟨out, d', c', ws'⟩ ⟨q1, q2, q3, q4, q5, q6⟩ => ?_⟩
  dsimp only at q1 q2 q3 q4 q5 q6 ⊢
  subst q1 q2 q3
  have mout : ∀ v, v ∈ out → ∃ j, j < l.length ∧ v = ptS f t (l.getD j []) := by rw [q4]; exact train_words hl1 f t _
  refine ⟨fun h => ?_, fun h => fin' out (by rw [show w.toNat = out.length by have := df h; omega]; exact q4)⟩
  have h := dt h
  refine ⟨fun x => ((l.getD 0 []).length : Int) = x.2.2.2.1 ∧ c = x.2.2.2.2.1 ∧ ws = x.2.2.2.2.2 ∧ out = x.1 ∧ 0 ≤ x.2.2.1 ∧ x.2.2.1 ≤ l.length ∧ x.2.1 = (amax x.2.2.1.toNat (farS l f t out) : Int), fun x => ((l.length : Int) - x.2.2.1).toNat, ⟨(by trivial), (by trivial), (by trivial), (by trivial), by simp, by simp, rfl⟩, fun ⟨o, b, i, d', c', ws'⟩ ⟨q1, q2, q3, q7, i0, i1, i2⟩ => ?_⟩
  dsimp only at q1 q2 q3 q7 i0 i1 i2 ⊢
  subst q1 q2 q3 q7 i2
  simp only [ep, tn]
  have hb := amlt out i i0 i1
  obtain ⟨wb1, wb2⟩ := words_key a f0 f1 f2 mout hb
  refine ⟨fun h' => ?_, fun h' => ?_⟩
  · have h' := dt h'
    obtain ⟨wi1, wi2⟩ := words_key a f0 f1 f2 mout (show i.toNat < l.length by omega)
    rw [wb2 q5, wi2 q5]
    exact ⟨⟨i0, h'⟩, hP _ (by omega), wi1, ⟨by omega, by omega⟩, hP _ hb, wb1, fun e => ⟨i64s (by omega) (by omega), ⟨(by trivial), (by trivial), (by trivial), (by trivial), by omega, by omega, step _ i i0 (dt e)⟩, by omega⟩, fun e => ⟨i64s (by omega) (by omega), ⟨(by trivial), (by trivial), (by trivial), (by trivial), by omega, by omega, stay _ i i0 (df e)⟩, by omega⟩⟩
  have ei := end_toNat i1 (df h')
  rw [ei] at hb wb1 wb2 ⊢
  have hbP := hP _ hb
  rw [wb2 q5]
  refine ⟨⟨by omega, by omega⟩, hbP, wb1, fun z => fin _ (stop out q4 q6 (dt z)), fun z => ⟨⟨by omega, by omega⟩, hbP, room8 bytesI8 (by have := plen _ hb; omega), room24 bytesL24 (by rw [List.length_singleton]; omega), ⟨(by trivial), (by trivial), (by trivial), ?_, by simp, by rw [List.length_append, List.length_singleton]; omega⟩, by rw [List.length_append, List.length_singleton]; omega⟩⟩
  have z : ¬ farS l f t out (nextS l f t out) = 0 := df z
  have e4 := train_go (l := l) (f := f) (t := t) (n := out.length) (by rw [← q4]; exact z)
  rw [← q4] at e4
  rw [List.length_append, List.length_singleton, e4]
  rfl
end Go.Proofs.Ytjppchomonpfgaa
