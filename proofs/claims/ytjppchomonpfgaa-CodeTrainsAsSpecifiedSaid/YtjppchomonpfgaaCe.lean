import Derived.Test.YtjppchomonpfgaaCc
namespace Go.PL
open Go.AM
set_option linter.unusedVariables false
theorem alike_sm {a b : List Int} (h : alikeB a b = true) {c : Int} (hc : 1000 ≤ c) : small 64 c a ∧ small 64 c b ∧ a.length = b.length := by
  obtain ⟨h1, h2, h3⟩ := alike_iff.1 h
  exact ⟨vec_small h1 (by omega) hc, vec_small h2 (by omega) hc, h3⟩
theorem fewBk_iff {b : Book} : fewBk b = true ↔ (b.2.2.1.length ≤ 9 ∧ b.2.1.length ≤ 9) ∧ ∀ k, k < b.2.2.1.length → (((b.2.2.1.getD k []).length ≤ 30 ∨ 256 < (b.2.2.1.getD k []).length) ∧ (b.2.2.1.getD k []).length ≤ 300) ∧ ∀ i, i < (b.2.2.1.getD k []).length → ((b.2.2.1.getD k []).getD i []).length ≤ 33 := by
  unfold fewBk
  simp only [Bool.and_eq_true, Bool.or_eq_true, decide_eq_true_eq, upto_iff]
theorem sumS_step (m : Int) (t : List (List Int)) (c : List Int) (k : Nat) : foldJ m (k + 1) (fun k => (t.getD k []).getD (c.getD k 0).toNat 0) = joinK m (foldJ m k fun k => (t.getD k []).getD (c.getD k 0).toNat 0) ((t.getD k []).getD (c.getD k 0).toNat 0) := foldJ_succ _ _ _
end Go.PL
namespace Go.Proofs.Ytjppchomonpfgaa
open Go.AM Go.PL
set_option linter.unusedVariables false
theorem sat_cut : Sat Try.prog 38 cutSp := by
  refine sat_nf (C := D0 []) (ssD0 []) (fun x => cut_nf x.1 x.2) fun (⟨c, d⟩ : List Int × Int) hk hp => ?_
  dsimp only
  have hcl : c.length ≤ 9223372036854775807 := hk.1.1
  refine ⟨fun x => 0 ≤ x ∧ x ≤ c.length ∧ ∀ j : Nat, (j : Int) < x → (c.getD j 0 < d ∧ (j = 0 ∨ c.getD (j - 1) 0 < c.getD j 0)) ∧ (j = 0 → c.getD 0 0 = 0), fun x => ((c.length : Int) - x).toNat, ⟨by omega, by omega, fun j hj => by omega⟩, fun x ⟨h0, h1, h2⟩ => ⟨fun g => ?_, fun g => ?_⟩⟩
  · have g := dt g
    have hi := i64_lt h0 g hk.1.1
    refine ⟨⟨h0, g⟩, fun q => is_no fun h => ?_, fun q => ⟨fun e => ⟨fun r => is_no fun h => ?_, fun r => ⟨fun e2 => ?_, fun e2 => ⟨hi, ⟨by omega, by omega, upd_all h0 h2 ?_⟩, by dsimp only; omega⟩⟩⟩, fun e => ⟨fun e2 => ?_, fun e2 => ?_⟩⟩⟩
    · have := ((cutB_iff.1 h).2.2.2 x.toNat (by omega)).1
      have := dt q
      omega
    · have := (cutB_iff.1 h).2.2.1
      have e := dt e
      subst e
      exact ndt r this
    · have := dt e; have := dt e2; omega
    · have e := dt e
      subst e
      exact ⟨⟨by have := df q; simpa using Int.not_le.1 this, .inl rfl⟩, fun _ => ndf r⟩
    · have e := df e
      have e2 := dt e2
      have ex : (x - 1).toNat = x.toNat - 1 := by omega
      rw [ex]
      refine ⟨i64_iff.2 (by omega), ⟨by omega, by omega⟩, fun r => is_no fun h => ?_, fun r => ⟨hi, ⟨by omega, by omega, upd_all h0 h2 ?_⟩, by dsimp only; omega⟩⟩
      · have := ((cutB_iff.1 h).2.2.2 x.toNat (by omega)).2
        have := dt r
        omega
      · exact ⟨⟨by have := df q; omega, .inr (by have := df r; omega)⟩, fun h => by omega⟩
    · have := df e; have := df e2; omega
  · have g := df g
    refine ⟨fun e1 => ⟨fun e2 => ⟨fun e3 => dec_is ⟨fun e4 => cutB_iff.2 ⟨⟨dt e3, e4⟩, ⟨by have := dt e1; omega, by have := dt e2; omega⟩, (h2 0 (by have := dt e1; omega)).2 rfl, fun k hk => (h2 k (by omega)).1⟩, fun h => (cutB_iff.1 h).1.2⟩, fun e3 => is_no fun h => df e3 (cutB_iff.1 h).1.1⟩, fun e2 => is_no fun h => df e2 (by have := (cutB_iff.1 h).2.1.2; omega)⟩, fun e1 => is_no fun h => df e1 (by have := (cutB_iff.1 h).2.1.1; omega)⟩
theorem sat_rCut : Sat Try.prog 43 cutSp := by
  refine sat_nf (C := D0 []) (ssD0 []) (fun x => rCut_nf x.1 x.2) fun (⟨c, d⟩ : List Int × Int) hk hp => ?_
  dsimp only
  refine ⟨fun e => is_no fun h => by have := (cutB_iff.1 h).1.1; have := dt e; omega, fun e1 => ⟨fun e => is_no fun h => by have := (cutB_iff.1 h).1.2; have := dt e; omega, fun e2 => ⟨fun e => is_no fun h => by have := (cutB_iff.1 h).2.1.1; have := dt e; omega, fun e3 => ⟨fun e => is_no fun h => by have := (cutB_iff.1 h).2.1.2; have := dt e; omega, fun e4 => ?_⟩⟩⟩⟩
  have e1 := df e1
  have e2 := df e2
  have e3 := df e3
  have e4 := df e4
  refine ⟨⟨by omega, by omega⟩, fun e => is_no fun h => ndt e (cutB_iff.1 h).2.2.1, fun e5 => ⟨fun x => 0 ≤ x ∧ x ≤ c.length ∧ ∀ j : Nat, (j : Int) < x → c.getD j 0 < d ∧ (j = 0 ∨ c.getD (j - 1) 0 < c.getD j 0), fun x => ((c.length : Int) - x).toNat, ⟨by omega, by omega, fun j hj => by omega⟩, fun x ⟨h0, h1, h2⟩ => ⟨fun g => ?_, fun g => ?_⟩⟩⟩
  · have g := dt g
    refine ⟨⟨h0, g⟩, fun q => is_no fun h => ?_, fun q => ⟨fun e => ?_, fun e => ⟨i64s (by omega) (by omega), ⟨by omega, by omega, upd_all h0 h2 ⟨by have := df q; omega, .inl (by have := df e; omega)⟩⟩, by dsimp only; omega⟩⟩⟩
    · have := ((cutB_iff.1 h).2.2.2 x.toNat (by omega)).1
      have := dt q
      omega
    · have e := dt e
      have ex : (x - 1).toNat = x.toNat - 1 := by omega
      rw [ex]
      refine ⟨⟨h0, g⟩, i64s (by omega) (by omega), ⟨by omega, by omega⟩, fun r => is_no fun h => ?_, fun r => ⟨i64s (by omega) (by omega), ⟨by omega, by omega, upd_all h0 h2 ⟨by have := df q; omega, .inr (by have := df r; omega)⟩⟩, by dsimp only; omega⟩⟩
      have := ((cutB_iff.1 h).2.2.2 x.toNat (by omega)).2
      have := dt r
      omega
  · have g := df g
    exact (cutB_iff.2 ⟨⟨by omega, by omega⟩, ⟨by omega, by omega⟩, ndf e5, fun k hk => h2 k (by omega)⟩).symm
theorem sat_end : Sat Try.prog 45 endSp := by
  refine sat_nf (C := D0 []) (ssD0 []) (fun x => end_nf x.1 x.2.1 x.2.2) fun (⟨c, d, k⟩ : List Int × Int × Int) hk hp => ?_
  obtain ⟨h0, h1⟩ : 0 ≤ k ∧ k ≤ 1000 := hp
  dsimp only
  refine ⟨i64s (by omega) (by omega), fun e => ⟨i64s (by omega) (by omega), ⟨by omega, dt e⟩, ?_⟩, fun e => ?_⟩
  · have e := dt e
    unfold endN
    rw [if_pos (by omega), succ_toNat h0]
  · have e := df e
    unfold endN
    rw [if_neg (by omega)]
theorem sat_ofp : Sat Try.prog 48 ofSp :=
  sat_nf (C := D0 []) (ssD0 []) (fun x => of_nf x.1 x.2) fun x hk hp => ⟨hp, rfl⟩
theorem sat_near : Sat Try.prog 47 nearSp := by
  refine sat_nf (C := D0 []) (ssD0 []) (fun x => near_nf x.1 x.2.1 x.2.2) fun (⟨m, ws, v⟩ : Int × List (List Int) × List Int) hk hp => ?_
  obtain ⟨hm, hl, ha⟩ : (1 ≤ m ∧ m ≤ 3) ∧ (1 ≤ ws.length ∧ ws.length ≤ 1000) ∧ ∀ i, i < ws.length → alikeB (ws.getD i []) v = true := hp
  dsimp only
  refine ⟨fun x => 0 ≤ x.1 ∧ x.1 ≤ ws.length ∧ ((x.1 = 0 ∧ x.2.1 = 0 ∧ x.2.2 = 134217729) ∨ (1 ≤ x.1 ∧ x.2.1 = (amax x.1.toNat (fun i => - keyS m (ws.getD i []) v) : Int) ∧ x.2.2 = keyS m (ws.getD x.2.1.toNat []) v)), fun x => ((ws.length : Int) - x.1).toNat, ⟨by simp, by simp, .inl ⟨rfl, rfl, rfl⟩⟩, fun ⟨i, k, s⟩ ⟨h0, h1, h2⟩ => ?_⟩
  dsimp only at h0 h1 h2 ⊢
  refine ⟨fun c => ?_, fun c => ?_⟩
  · have c := dt c
    have hai := ha i.toNat (by omega)
    have hb := key_bound m hai
    obtain ⟨s1, s2, s3⟩ := alike_sm hai (c := 4000) (by omega)
    have hi : isI64 (i + 1) := i64s (by omega) (by omega)
    have hs := amax_succ i.toNat (fun i => - keyS m (ws.getD i []) v)
    rw [← succ_toNat h0] at hs
    have ez : keyS m (ws.getD (i.toNat : Int).toNat []) v = keyS m (ws.getD i.toNat []) v := by rw [Int.toNat_natCast]
    refine ⟨⟨h0, c⟩, ⟨hm.1, hm.2, s1, s2, s3⟩, fun g => ⟨hi, ⟨by omega, by omega, .inr ⟨by omega, ?_, rfl⟩⟩, by omega⟩, fun g => ⟨hi, ⟨by omega, by omega, .inr ⟨by omega, ?_, ?_⟩⟩, by omega⟩⟩
    · have g := dt g
      rw [hs]
      rcases h2 with ⟨e1, e2, e3⟩ | ⟨e1, e2, e3⟩
      · subst e1
        show (0 : Int) = ((if _ then _ else _ : Nat) : Int)
        split <;> rfl
      · have ek : k.toNat = amax i.toNat (fun i => - keyS m (ws.getD i []) v) := by omega
        rw [ek] at e3
        rw [if_pos (by omega)]
        omega
    · have g := df g
      rw [hs]
      rcases h2 with ⟨e1, e2, e3⟩ | ⟨e1, e2, e3⟩
      · omega
      · have ek : k.toNat = amax i.toNat (fun i => - keyS m (ws.getD i []) v) := by omega
        rw [ek] at e3
        rw [if_neg (by omega)]
        exact e2
    · have g := df g
      rcases h2 with ⟨e1, e2, e3⟩ | ⟨e1, e2, e3⟩
      · omega
      · exact e3
  · have c := df c
    rcases h2 with ⟨e1, e2, e3⟩ | ⟨e1, e2, e3⟩
    · omega
    · have ei : i.toNat = ws.length := by omega
      rw [ei] at e2
      have e4 : k = (bestS m ws v : Int) := e2
      rw [e3, e4]
      rfl
theorem sat_rows : Sat Try.prog 25 rowsSp := by
  refine sat_nf (C := D0 []) (ssD0 []) (fun x => rows_nf x.1 x.2) fun (⟨a, b⟩ : List (List Int) × List (List Int)) hk hp => ?_
  dsimp only
  refine ⟨fun c => is_no fun h => ndt c (by rw [of_decide_eq_true h]), fun c => ⟨fun i => 0 ≤ i ∧ i ≤ a.length ∧ ∀ j : Nat, (j : Int) < i → a.getD j [] = b.getD j [], fun i => ((a.length : Int) - i).toNat, ⟨by omega, by omega, fun j hj => by omega⟩, fun i ⟨h0, h1, h2⟩ => ⟨fun c' => ?_, fun c' => ?_⟩⟩⟩
  · have c := ndf c
    have c' := dt c'
    exact ⟨⟨h0, c'⟩, ⟨h0, by omega⟩, trivial, fun g => is_no fun h => ndt g (by rw [of_decide_eq_true h]), fun g => ⟨i64_lt h0 c' hk.1.1, ⟨by omega, by omega, upd_all h0 h2 (ndf g)⟩, by dsimp only; omega⟩⟩
  · have c := ndf c
    have c' := df c'
    exact (decide_eq_true (listL_ext [] (by omega) fun i hi => h2 i (by omega))).symm
theorem sat_bnd : Sat Try.prog 23 bndSp := sat_nf (C := D0 []) (ssD0 []) (fun x => bnd_nf x.1 x.2.1 x.2.2) fun x hk hp => ⟨hp, hp, rfl⟩
theorem sat_rBnd : Sat Try.prog 24 rBndSp := sat_nf (C := D0 []) (ssD0 []) (fun x => rBnd_nf x.1 x.2.1 x.2.2) fun x hk hp => ⟨hp, hp, rfl⟩
theorem sat_few : Sat Try.prog 10 fewSp := by
  refine sat_nf (C := D0 []) (ssD0 []) few_nf fun (b : Book) hk hp => ?_
  refine ⟨fun e => is_no fun h => by have := (fewBk_iff.1 h).1.1; have := dt e; omega, fun e1 => ⟨fun e => is_no fun h => by have := (fewBk_iff.1 h).1.2; have := dt e; omega, fun e2 => ?_⟩⟩
  have e1 := df e1
  have e2 := df e2
  refine ⟨fun x => 0 ≤ x ∧ x ≤ b.2.2.1.length ∧ ∀ k : Nat, (k : Int) < x → (((b.2.2.1.getD k []).length ≤ 30 ∨ 256 < (b.2.2.1.getD k []).length) ∧ (b.2.2.1.getD k []).length ≤ 300) ∧ ∀ i, i < (b.2.2.1.getD k []).length → ((b.2.2.1.getD k []).getD i []).length ≤ 33,
    fun x => ((b.2.2.1.length : Int) - x).toNat, ⟨by omega, by omega, fun j hj => by omega⟩, fun x ⟨h0, h1, h2⟩ => ⟨fun g => ?_, fun g => (fewBk_iff.2 ⟨⟨by omega, by omega⟩, fun k hk => h2 k (by have := df g; omega)⟩).symm⟩⟩
  have g := dt g
  have inner : (((b.2.2.1.getD x.toNat []).length ≤ 30 ∨ 256 < (b.2.2.1.getD x.toNat []).length) ∧ (b.2.2.1.getD x.toNat []).length ≤ 300) → ∃ (I_1 : Int → Prop), ∃ (μ_1 : Int → Nat), I_1 (0 : Int) ∧ ∀ (x_1 : Int), I_1 x_1 → ((0 : Int) ≤ x ∧ x < (↑b.snd.snd.fst.length : Int)) ∧ (decide (x_1 < (↑(b.snd.snd.fst.getD x.toNat []).length : Int)) = true → ((0 : Int) ≤ x ∧ x < (↑b.snd.snd.fst.length : Int)) ∧ ((0 : Int) ≤ x_1 ∧ x_1 < (↑(b.snd.snd.fst.getD x.toNat []).length : Int)) ∧ (decide ((33 : Int) < (↑((b.snd.snd.fst.getD x.toNat []).getD x_1.toNat []).length : Int)) = true → false = fewBk b) ∧ (decide ((33 : Int) < (↑((b.snd.snd.fst.getD x.toNat []).getD x_1.toNat []).length : Int)) = false → isI64 (x_1 + (1 : Int)) ∧ I_1 (x_1 + (1 : Int)) ∧ μ_1 (x_1 + (1 : Int)) < μ_1 x_1)) ∧ (decide (x_1 < (↑(b.snd.snd.fst.getD x.toNat []).length : Int)) = false → isI64 (x + (1 : Int)) ∧ (0 ≤ x + 1 ∧ x + 1 ≤ b.2.2.1.length ∧ ∀ k : Nat, (k : Int) < x + 1 → (((b.2.2.1.getD k []).length ≤ 30 ∨ 256 < (b.2.2.1.getD k []).length) ∧ (b.2.2.1.getD k []).length ≤ 300) ∧ ∀ i, i < (b.2.2.1.getD k []).length → ((b.2.2.1.getD k []).getD i []).length ≤ 33) ∧ ((b.2.2.1.length : Int) - (x + 1)).toNat < ((b.2.2.1.length : Int) - x).toNat) := by
    intro hw
    refine ⟨fun y => 0 ≤ y ∧ y ≤ (b.2.2.1.getD x.toNat []).length ∧ ∀ i : Nat, (i : Int) < y → ((b.2.2.1.getD x.toNat []).getD i []).length ≤ 33, fun y => (((b.2.2.1.getD x.toNat []).length : Int) - y).toNat, ⟨by omega, by omega, fun j hj => by omega⟩, fun y ⟨y0, y1, y2⟩ => ⟨⟨h0, g⟩, fun q => ?_, fun q => ?_⟩⟩
    · have q := dt q
      refine ⟨⟨h0, g⟩, ⟨y0, q⟩, fun r => is_no fun h => ?_, fun r => ⟨i64s (by omega) (by omega), ⟨by omega, by omega, upd_all y0 y2 (by have := df r; omega)⟩, by dsimp only; omega⟩⟩
      have := ((fewBk_iff.1 h).2 x.toNat (by omega)).2 y.toNat (by omega)
      have := dt r
      omega
    · have q := df q
      exact ⟨i64s (by omega) (by omega), ⟨by omega, by omega, upd_all h0 h2 ⟨hw, fun i hi => y2 i (by omega)⟩⟩, by omega⟩
  have no : ¬ (((b.2.2.1.getD x.toNat []).length ≤ 30 ∨ 256 < (b.2.2.1.getD x.toNat []).length) ∧ (b.2.2.1.getD x.toNat []).length ≤ 300) → false = fewBk b := fun hn => is_no fun h => hn ((fewBk_iff.1 h).2 x.toNat (by omega)).1
  refine ⟨⟨h0, g⟩, fun q => ⟨⟨h0, g⟩, fun r => no (by have := dt q; have := dt r; omega), fun r => ⟨⟨h0, g⟩, fun s => no (by have := dt s; omega), fun s => inner ⟨.inr (by have := df r; omega), by have := df s; omega⟩⟩⟩, fun q => ⟨⟨h0, g⟩, fun s => no (by have := dt s; omega), fun s => inner ⟨.inl (by have := df q; omega), by have := df s; omega⟩⟩⟩
theorem sum_lp {m : Int} {t : List (List Int)} {c : List Int} (hp : sumP m t c) : ∀ x : Int × Int, (0 ≤ x.2 ∧ x.2 ≤ c.length ∧ x.1 = foldJ m x.2.toNat fun k => (t.getD k []).getD (c.getD k 0).toNat 0) → x.2 < c.length →
    (0 ≤ x.2 ∧ x.2 < t.length) ∧ (0 ≤ c.getD x.2.toNat 0 ∧ c.getD x.2.toNat 0 < (t.getD x.2.toNat []).length) ∧ isI64 (x.2 + 1) ∧ 0 ≤ (t.getD x.2.toNat []).getD (c.getD x.2.toNat 0).toNat 0 ∧ 0 ≤ x.1 ∧ isI64 (x.1 + (t.getD x.2.toNat []).getD (c.getD x.2.toNat 0).toNat 0) ∧
    joinK m x.1 ((t.getD x.2.toNat []).getD (c.getD x.2.toNat 0).toNat 0) = foldJ m (x.2 + 1).toNat (fun k => (t.getD k []).getD (c.getD k 0).toNat 0) := by
  obtain ⟨hm, hl, hl2, he⟩ := hp
  rintro ⟨s, i⟩ ⟨h0, h1, h2⟩ hc
  dsimp only at h0 h1 h2 hc ⊢
  obtain ⟨e1, e2, e3⟩ := he i.toNat (by omega)
  have hn := foldJ_nonneg (m := m) (n := i.toNat) (f := fun k => (t.getD k []).getD (c.getD k 0).toNat 0) fun j hj => (he j (by omega)).2.1
  have hb := foldJ_le (m := m) (n := i.toNat) (f := fun k => (t.getD k []).getD (c.getD k 0).toNat 0) (c := 134217728) (by omega) fun j hj => (he j (by omega)).2
  rw [← h2] at hn hb
  refine ⟨⟨h0, by omega⟩, e1, i64s (by omega) (by omega), e2, hn, i64s (by omega) (by omega), ?_⟩
  rw [succ_toNat h0, foldJ_succ, h2]
theorem sat_sum : Sat Try.prog 27 sumSp := by
  refine sat_nf (C := D0 []) (ssD0 []) (fun x => sum_nf x.1 x.2.1 x.2.2) fun (⟨m, t, c⟩ : Int × List (List Int) × List Int) hk hp => ?_
  have hp : sumP m t c := hp
  have hm := hp.1
  have lp := sum_lp hp
  dsimp only
  refine ⟨fun e => ?_, fun e1 => ⟨fun e => ?_, fun e2 => ⟨fun e => ?_, fun e3 => absurd hm.2 (by omega)⟩⟩⟩
  · subst e
    refine ⟨fun x => 0 ≤ x.2 ∧ x.2 ≤ c.length ∧ x.1 = foldJ 1 x.2.toNat fun k => (t.getD k []).getD (c.getD k 0).toNat 0, fun x => ((c.length : Int) - x.2).toNat, ⟨by simp, by simp, rfl⟩, fun x hI => ⟨fun g => ?_, fun g => by rw [hI.2.2, end_toNat hI.2.1 (df g)]; rfl⟩⟩
    have g := dt g
    obtain ⟨a1, a2, a3, a4, a5, a6, a7⟩ := lp x hI g
    exact ⟨⟨hI.1, g⟩, a1, a2, a6, a3, ⟨by have := hI.1; dsimp only; omega, by dsimp only; omega, a7⟩, by dsimp only; omega⟩
  · subst e
    refine ⟨fun x => 0 ≤ x.2 ∧ x.2 ≤ c.length ∧ x.1 = foldJ 2 x.2.toNat fun k => (t.getD k []).getD (c.getD k 0).toNat 0, fun x => ((c.length : Int) - x.2).toNat, ⟨by simp, by simp, rfl⟩, fun x hI => ⟨fun g => ?_, fun g => by rw [hI.2.2, end_toNat hI.2.1 (df g)]; rfl⟩⟩
    have g := dt g
    obtain ⟨a1, a2, a3, a4, a5, a6, a7⟩ := lp x hI g
    exact ⟨⟨hI.1, g⟩, a1, a2, a6, a3, ⟨by have := hI.1; dsimp only; omega, by dsimp only; omega, a7⟩, by dsimp only; omega⟩
  · subst e
    refine ⟨fun x => 0 ≤ x.2 ∧ x.2 ≤ c.length ∧ x.1 = foldJ 3 x.2.toNat fun k => (t.getD k []).getD (c.getD k 0).toNat 0, fun x => ((c.length : Int) - x.2).toNat, ⟨by simp, by simp, rfl⟩, fun x hI => ⟨fun g => ?_, fun g => by rw [hI.2.2, end_toNat hI.2.1 (df g)]; rfl⟩⟩
    have g := dt g
    obtain ⟨a1, a2, a3, a4, a5, a6, a7⟩ := lp x hI g
    exact ⟨⟨hI.1, g⟩, a1, a2, a3, ⟨by have := hI.1; dsimp only; omega, by dsimp only; omega, a7⟩, by dsimp only; omega⟩
theorem sat_rSum : Sat Try.prog 28 sumSp := by
  refine sat_nf (C := D0 []) (ssD0 []) (fun x => rSum_nf x.1 x.2.1 x.2.2) fun (⟨m, t, c⟩ : Int × List (List Int) × List Int) hk hp => ?_
  have hp : sumP m t c := hp
  have lp := sum_lp hp
  dsimp only
  refine ⟨fun x => 0 ≤ x.2 ∧ x.2 ≤ c.length ∧ x.1 = foldJ m x.2.toNat fun k => (t.getD k []).getD (c.getD k 0).toNat 0, fun x => ((c.length : Int) - x.2).toNat, ⟨by simp, by simp, rfl⟩, fun x hI => ⟨fun g => ?_, fun g => by rw [hI.2.2, end_toNat hI.2.1 (df g)]; rfl⟩⟩
  have g := dt g
  obtain ⟨a1, a2, a3, a4, a5, a6, a7⟩ := lp x hI g
  have h0 := hI.1
  unfold joinK at a7
  refine ⟨a1, ⟨hI.1, g⟩, a2, fun e => ?_, fun e => ?_⟩
  · rw [if_neg (ndt e)] at a7
    exact ⟨a6, a3, ⟨by dsimp only; omega, by dsimp only; omega, a7⟩, by dsimp only; omega⟩
  · rw [if_pos (ndf e)] at a7
    refine ⟨fun r => ?_, fun r => ?_⟩
    · have r := dt r
      rw [Int.max_eq_right (by omega)] at a7
      exact ⟨a3, ⟨by dsimp only; omega, by dsimp only; omega, a7⟩, by dsimp only; omega⟩
    · have r := df r
      rw [Int.max_eq_left (by omega)] at a7
      exact ⟨a3, ⟨by dsimp only; omega, by dsimp only; omega, a7⟩, by dsimp only; omega⟩
end Go.Proofs.Ytjppchomonpfgaa
