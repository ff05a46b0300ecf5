import Derived.Test.YtmimchmdikjilaaOi
namespace Go.Proofs.Ytmimchmdikjilaa
open Go.AM Go.PL
set_option linter.unusedVariables false
/-! ### What is filled in: plain facts -/
def cntK (l : List Hit) (K : Int) : Nat := (l.filter fun h => decide (h.2.2.1 ≤ K)).length
def capR (l : List Rst) (K : Int) : Nat := ((l.filter fun x => decide (x.1 ≤ K)).map fun x => (min x.2.1 70).toNat).sum
theorem cntK_append (a b : List Hit) (K : Int) : cntK (a ++ b) K = cntK a K + cntK b K := by
  unfold cntK
  rw [List.filter_append, List.length_append]
theorem capR_append (a b : List Rst) (K : Int) : capR (a ++ b) K = capR a K + capR b K := by
  unfold capR
  rw [List.filter_append, List.map_append, List.sum_append]
theorem capR_cons (x : Rst) (l : List Rst) (K : Int) : capR (x :: l) K = (if x.1 ≤ K then (min x.2.1 70).toNat else 0) + capR l K := by
  unfold capR
  by_cases h : x.1 ≤ K
  · rw [List.filter_cons, if_pos (by simpa using h), if_pos h]; simp
  · rw [List.filter_cons, if_neg (by simpa using h), if_neg h]; simp
/-- What one part, or some, bring. -/
structure New (hits : List Hit) (lo hi : Int) (new : List Hit) : Prop where
  ids : ∀ h ∈ new, hasH hits h.1 = false ∧ lo ≤ h.1 ∧ h.1 < hi
  asc : new.Pairwise (fun a b => a.1 < b.1)
theorem New.append {hits a b : List Hit} {lo m hi : Int} (ha : New hits lo m a) (hb : New hits m hi b) (h1 : lo ≤ m) (h2 : m ≤ hi) : New hits lo hi (a ++ b) := by
  refine ⟨fun h hh => ?_, List.pairwise_append.2 ⟨ha.asc, hb.asc, fun x hx y hy => ?_⟩⟩
  · rcases List.mem_append.1 hh with h3 | h3
    · have := ha.ids h h3
      exact ⟨this.1, this.2.1, by omega⟩
    · have := hb.ids h h3
      exact ⟨this.1, by omega, this.2.2⟩
  · have := (ha.ids x hx).2.2
    have := (hb.ids y hy).2.1
    omega
theorem keyF_ge (keys : List Int) (n : Nat) {b : Int} (hb : b ≤ 134217728) : b ≤ keyF keys n b := by
  unfold keyF
  split
  · exact Int.le_refl _
  · have := Int.emod_nonneg (keys.getD (n % keys.length) 0) (show (20 : Int) ≠ 0 by omega)
    omega
theorem fillN_new (hits : List Hit) (keys : List Int) (x : Rst) (hb : x.1 ≤ 134217728) (s : Int × List Hit) : ∀ n, ∃ new, (fillN hits keys x n s).2 = s.2 ++ new ∧ New hits s.1 (fillN hits keys x n s).1 new ∧ new.length = n ∧
    (∀ h ∈ new, x.1 ≤ h.2.2.1) ∧ (keys = [] → ∀ h ∈ new, h.2.2.1 = x.1)
  | 0 => ⟨[], by simp [fillN], ⟨by simp, List.Pairwise.nil⟩, rfl, by simp, by simp⟩
  | n + 1 => by
    obtain ⟨new, h1, h2, h3, h4, h5⟩ := fillN_new hits keys x hb s n
    obtain ⟨g1, g2, g3⟩ := fillN_len hits keys x s n
    have hf := free_le hits (fillN hits keys x n s).1
    generalize hS : fillN hits keys x n s = S at *
    refine ⟨new ++ [(freeAt hits S.1, 1, keyF keys S.2.length x.1, ())], ?_, ?_, by simp [h3], fun h hh => ?_, fun he h hh => ?_⟩
    · show (fillOne hits keys x (fillN hits keys x n s)).2 = _
      rw [hS]
      unfold fillOne
      rw [h1, List.append_assoc]
    · have e : (fillN hits keys x (n + 1) s).1 = freeAt hits S.1 + 1 := by
        show (fillOne hits keys x (fillN hits keys x n s)).1 = _
        rw [hS]
        rfl
      rw [e]
      refine h2.append (m := S.1) ⟨fun h hh => ?_, by simp⟩ g2 (by omega)
      have hh : h = (freeAt hits S.1, 1, keyF keys S.2.length x.1, ()) := by simpa using hh
      rw [hh]
      exact ⟨free_no hits S.1, hf.1, by show freeAt hits S.1 < freeAt hits S.1 + 1; omega⟩
    · rcases List.mem_append.1 hh with h6 | h6
      · exact h4 h h6
      · have hh : h = (freeAt hits S.1, 1, keyF keys S.2.length x.1, ()) := by simpa using h6
        rw [hh]
        exact keyF_ge _ _ hb
    · rcases List.mem_append.1 hh with h6 | h6
      · exact h5 he h h6
      · have hh : h = (freeAt hits S.1, 1, keyF keys S.2.length x.1, ()) := by simpa using h6
        rw [hh]
        show keyF keys S.2.length x.1 = x.1
        unfold keyF
        rw [if_pos (by simp [he])]
theorem cnt_new {new : List Hit} {n : Nat} {b : Int} (hl : new.length = n) (h : ∀ h ∈ new, b ≤ h.2.2.1) (K : Int) : cntK new K ≤ if b ≤ K then n else 0 := by
  unfold cntK
  split
  · rw [← hl]; exact List.length_filter_le _ _
  · rename_i hc
    rw [List.filter_eq_nil_iff.2 fun x hx => by have := h x hx; simp; omega]
    simp
theorem cnt_eq {new : List Hit} {n : Nat} {b : Int} (hl : new.length = n) (h : ∀ h ∈ new, h.2.2.1 = b) (K : Int) : cntK new K = if b ≤ K then n else 0 := by
  unfold cntK
  split
  · rename_i hc
    rw [List.filter_eq_self.2 fun x hx => by have := h x hx; simp; omega, hl]
  · rename_i hc
    rw [List.filter_eq_nil_iff.2 fun x hx => by have := h x hx; simp; omega]
    rfl
theorem fillL_new (hits : List Hit) (keys : List Int) : ∀ (l : List Rst) (s : Int × List Hit), (∀ x ∈ l, x.1 ≤ 134217728) → ∃ new, (fillL hits keys l s).2 = s.2 ++ new ∧ New hits s.1 (fillL hits keys l s).1 new ∧ s.1 ≤ (fillL hits keys l s).1 ∧
    (∀ h ∈ new, ∃ x ∈ l, x.1 ≤ h.2.2.1) ∧ (∀ K, cntK new K ≤ capR l K) ∧ (keys = [] → ∀ K, cntK new K = capR l K) ∧ (keys = [] → ∀ x ∈ l, 1 ≤ x.2.1 → ∃ h ∈ new, h.2.2.1 = x.1)
  | [], s, _ => ⟨[], by simp [fillL], ⟨by simp, List.Pairwise.nil⟩, Int.le_refl _, by simp, fun K => Nat.le_refl _, fun _ K => rfl, by simp⟩
  | x :: l, s, hb => by
    obtain ⟨n1, a1, a2, a3, a4, a5⟩ := fillN_new hits keys x (hb x List.mem_cons_self) s (min x.2.1 70).toNat
    have a6 := (fillN_len hits keys x s (min x.2.1 70).toNat).2.1
    have e : fillL hits keys (x :: l) s = fillL hits keys l (fillN hits keys x (min x.2.1 70).toNat s) := rfl
    obtain ⟨n2, b1, b2, b3, b4, b5, b6, b7⟩ := fillL_new hits keys l (fillN hits keys x (min x.2.1 70).toNat s) fun y hy => hb y (List.mem_cons_of_mem _ hy)
    refine ⟨n1 ++ n2, by rw [e, b1, a1, List.append_assoc], by rw [e]; exact a2.append b2 a6 b3, by rw [e]; omega, fun h hh => ?_, fun K => ?_, fun hk K => ?_, fun hk y hy h1 => ?_⟩
    · rcases List.mem_append.1 hh with h6 | h6
      · exact ⟨x, List.mem_cons_self, a4 h h6⟩
      · obtain ⟨y, hy, h7⟩ := b4 h h6
        exact ⟨y, List.mem_cons_of_mem _ hy, h7⟩
    · rw [cntK_append, capR_cons]
      have := cnt_new a3 a4 K
      have := b5 K
      omega
    · rw [cntK_append, capR_cons, cnt_eq a3 (a5 hk) K, b6 hk K]
    · rcases List.mem_cons.1 hy with h6 | h6
      · subst h6
        obtain ⟨h, hh⟩ := List.exists_mem_of_length_pos (l := n1) (by omega)
        exact ⟨h, List.mem_append_left _ hh, a5 hk h hh⟩
      · obtain ⟨h, hh, h7⟩ := b7 hk y h6 h1
        exact ⟨h, List.mem_append_right _ hh, h7⟩
theorem cap_under {l : List Rst} (h : ∀ x ∈ l, 0 ≤ (x : Rst).2.1) (K : Int) : (capR l K : Int) ≤ underR l K := by
  induction l with
  | nil => simp [capR, underR]
  | cons x l ih =>
    have ih := ih fun y hy => h y (List.mem_cons_of_mem _ hy)
    have hx := h x List.mem_cons_self
    have e := underR_append [x] l K
    rw [List.singleton_append, underR_one] at e
    rw [e, capR_cons]
    split <;> omega
theorem cap_ge {l : List Rst} (h : ∀ x ∈ l, 0 ≤ (x : Rst).2.1) (K : Int) : underR l K = capR l K ∨ 70 ≤ capR l K := by
  induction l with
  | nil => left; simp [capR, underR]
  | cons x l ih =>
    have ih := ih fun y hy => h y (List.mem_cons_of_mem _ hy)
    have hx := h x List.mem_cons_self
    have e := underR_append [x] l K
    rw [List.singleton_append, underR_one] at e
    rw [e, capR_cons]
    split <;> omega
/-- What is filled into a valid piece. -/
structure Filled (p : Piece) (id : Int) (keys : List Int) (new : List Hit) : Prop where
  ids : ∀ h ∈ new, hasH p.1 h.1 = false
  lo : ∀ h ∈ new, id ≤ h.1
  hi : ∀ h ∈ new, h.1 < (fillL p.1 keys p.2.1 (id, [])).1
  asc : new.Pairwise (fun a b => a.1 < b.1)
  key : ∀ h ∈ new, ∃ x ∈ p.2.1, x.1 ≤ h.2.2.1
  cnt : ∀ K, (cntK new K : Int) ≤ underR p.2.1 K
  cntE : keys = [] → ∀ K, underR p.2.1 K = cntK new K ∨ 70 ≤ cntK new K
  one : keys = [] → ∀ x ∈ p.2.1, ∃ h ∈ new, h.2.2.1 = x.1
theorem filled {p : Piece} {k : Int} (hV : VP p k) (id : Int) (keys : List Int) : Filled p id keys (fillP p id keys) := by
  have hok := fun x hx => (okR_iff x).1 (hV.ok x hx)
  obtain ⟨new, h1, h2, h3, h4, h5, h6, h7⟩ := fillL_new p.1 keys p.2.1 (id, []) fun x hx => (hok x hx).2.1
  have e : fillP p id keys = new := by unfold fillP; rw [h1]; rfl
  rw [e]
  refine ⟨fun h hh => (h2.ids h hh).1, fun h hh => (h2.ids h hh).2.1, fun h hh => (h2.ids h hh).2.2, h2.asc, h4, fun K => ?_, fun hk K => ?_, fun hk x hx => h7 hk x hx (hok x hx).2.2.1⟩
  · have := h5 K
    have := cap_under (fun x hx => by have := hok x hx; omega) K (l := p.2.1)
    omega
  · rw [h6 hk K]
    exact cap_ge (fun x hx => by have := hok x hx; omega) K
theorem fillP_len {p : Piece} {k : Int} (hV : VP p k) (id : Int) (keys : List Int) (hl : p.2.1.length ≤ 60) : (fillP p id keys).length ≤ 4200 := by
  have key : ∀ (l : List Rst) (s : Int × List Hit), (fillL p.1 keys l s).2.length ≤ s.2.length + 70 * l.length := by
    intro l
    induction l with
    | nil => intro s; simp [fillL]
    | cons x l ih =>
      intro s
      have e : fillL p.1 keys (x :: l) s = fillL p.1 keys l (fillN p.1 keys x (min x.2.1 70).toNat s) := rfl
      have := ih (fillN p.1 keys x (min x.2.1 70).toNat s)
      have h2 := (fillN_len p.1 keys x s (min x.2.1 70).toNat).1
      rw [e, List.length_cons]
      omega
  have := key p.2.1 (id, [])
  unfold fillP
  simp only [List.length_nil] at this
  omega
end Go.Proofs.Ytmimchmdikjilaa
