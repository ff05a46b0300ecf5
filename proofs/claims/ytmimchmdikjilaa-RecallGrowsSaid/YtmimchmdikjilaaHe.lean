import Derived.Test.YtmimchmdikjilaaHd
namespace Go.Proofs.Ytmimchmdikjilaa
open Go.AM Go.PL Go.Sort
set_option linter.unusedVariables false
/-! ### The contract of Of -/
theorem mget_no {α : Type} {n : Int} : ∀ {m : List (Int × α)}, mget m n = none → ∀ p ∈ m, p.1 ≠ n
  | [], _, p, hp => by simp at hp
  | q :: m, h, p, hp => by
    unfold mget at h
    split at h
    · cases h
    · rename_i hq
      rcases List.mem_cons.1 hp with e | e
      · subst e; exact hq
      · exact mget_no h p e
theorem mget_mem {α : Type} {n : Int} {x : α} : ∀ {m : List (Int × α)}, mget m n = some x → (n, x) ∈ m
  | [], h => by cases h
  | q :: m, h => by
    unfold mget at h
    split at h
    · rename_i hq
      simp at h
      subst hq
      subst h
      exact List.mem_cons_self
    · exact List.mem_cons_of_mem _ (mget_mem h)
theorem mput_new {α : Type} {n : Int} {x : α} : ∀ {m : List (Int × α)}, mget m n = none → mput m n x = m ++ [(n, x)]
  | [], _ => rfl
  | q :: m, h => by
    unfold mget at h
    unfold mput
    split at h
    · cases h
    · rename_i hq
      rw [if_neg hq, mput_new h]
      rfl
theorem mput_keys {α : Type} {n : Int} {x y : α} : ∀ {m : List (Int × α)}, mget m n = some y → (mput m n x).map Prod.fst = m.map Prod.fst
  | [], h => by cases h
  | q :: m, h => by
    unfold mget at h
    unfold mput
    split at h
    · rename_i hq
      rw [if_pos hq]
      simp [hq]
    · rename_i hq
      rw [if_neg hq]
      simp [mput_keys h]
theorem mput_mem {α : Type} {n : Int} {x : α} {p : Int × α} : ∀ {m : List (Int × α)}, p ∈ mput m n x → p = (n, x) ∨ (p ∈ m ∧ (p.1 ≠ n ∨ ¬ (m.map Prod.fst).Nodup))
  | [], h => by
    unfold mput at h
    exact .inl (by simpa using h)
  | q :: m, h => by
    unfold mput at h
    split at h
    · rename_i hq
      rcases List.mem_cons.1 h with e | e
      · exact .inl e
      · refine .inr ⟨List.mem_cons_of_mem _ e, ?_⟩
        by_cases hp : p.1 = n
        · refine .inr fun hnd => ?_
          simp only [List.map_cons, List.nodup_cons] at hnd
          exact hnd.1 (List.mem_map.2 ⟨p, e, by rw [hp, hq]⟩)
        · exact .inl hp
    · rename_i hq
      rcases List.mem_cons.1 h with e | e
      · subst e
        exact .inr ⟨List.mem_cons_self, .inl hq⟩
      · rcases mput_mem e with h1 | ⟨h1, h2⟩
        · exact .inl h1
        · refine .inr ⟨List.mem_cons_of_mem _ h1, h2.imp id fun h3 hnd => h3 ?_⟩
          simp only [List.map_cons, List.nodup_cons] at hnd
          exact hnd.2
theorem mput_has {α : Type} (n : Int) (x : α) : ∀ (m : List (Int × α)), (n, x) ∈ mput m n x
  | [] => by simp [mput]
  | q :: m => by
    unfold mput
    split
    · simp
    · exact List.mem_cons_of_mem _ (mput_has n x m)
theorem pair_one {α : Type} : ∀ {m : List (Int × α)} {p q : Int × α}, (m.map Prod.fst).Nodup → p ∈ m → q ∈ m → p.1 = q.1 → p = q
  | [], p, q, _, hp, _, _ => by simp at hp
  | r :: m, p, q, hn, hp, hq, e => by
    simp only [List.map_cons, List.nodup_cons] at hn
    rcases List.mem_cons.1 hp with e1 | e1 <;> rcases List.mem_cons.1 hq with e2 | e2
    · rw [e1, e2]
    · exact absurd (List.mem_map.2 ⟨q, e2, by rw [← e, e1]⟩) hn.1
    · exact absurd (List.mem_map.2 ⟨p, e1, by rw [e, e2]⟩) hn.1
    · exact pair_one hn.2 e1 e2 e
structure RepM (l : List Hit) (m : List (Int × Hit)) : Prop where
  nd : (m.map Prod.fst).Nodup
  rep : ∀ p ∈ m, p.2 ∈ l ∧ p.2.1 = p.1 ∧ ∀ h ∈ l, h.1 = p.1 → ltH h p.2 = false
  all : ∀ h ∈ l, ∃ p ∈ m, p.1 = h.1
  len : m.length ≤ l.length
theorem RepM.put {l : List Hit} {m : List (Int × Hit)} (h : RepM l m) {x : Hit} (hx : ∀ h ∈ l, h.1 = x.1 → ltH h x = false) : RepM (l ++ [x]) (mput m x.1 x) := by
  have hk : (mput m x.1 x).map Prod.fst = m.map Prod.fst ∨ ((mput m x.1 x).map Prod.fst = m.map Prod.fst ++ [x.1] ∧ mget m x.1 = none) := by
    cases hg : mget m x.1 with
    | none => exact .inr ⟨by rw [mput_new hg]; simp, rfl⟩
    | some y => exact .inl (mput_keys hg)
  have hkeys : ∀ n, n ∈ m.map Prod.fst → n ∈ (mput m x.1 x).map Prod.fst := fun n hn => by
    rcases hk with e | ⟨e, _⟩ <;> rw [e]
    · exact hn
    · exact List.mem_append_left _ hn
  refine ⟨?_, fun p hp => ?_, fun z hz => ?_, ?_⟩
  · rcases hk with e | ⟨e, hg⟩ <;> rw [e]
    · exact h.nd
    · rw [List.nodup_append]
      refine ⟨h.nd, by simp, fun a ha b hb => ?_⟩
      have hb : b = x.1 := by simpa using hb
      obtain ⟨p, hp, rfl⟩ := List.mem_map.1 ha
      rw [hb]
      exact mget_no hg p hp
  · rcases mput_mem hp with rfl | ⟨h1, h2⟩
    · refine ⟨by simp, rfl, fun z hz e => ?_⟩
      rcases List.mem_append.1 hz with h3 | h3
      · exact hx z h3 e
      · have h3 : z = x := by simpa using h3
        rw [h3]; exact ltIrr x
    · have h2 := h2.resolve_right fun hh => hh h.nd
      obtain ⟨h3, h4, h5⟩ := h.rep p h1
      refine ⟨List.mem_append_left _ h3, h4, fun z hz e => ?_⟩
      rcases List.mem_append.1 hz with h6 | h6
      · exact h5 z h6 e
      · have h6 : z = x := by simpa using h6
        rw [h6] at e
        exact absurd e.symm h2
  · rcases List.mem_append.1 hz with h3 | h3
    · obtain ⟨p, hp, e⟩ := h.all z h3
      have := hkeys z.1 (List.mem_map.2 ⟨p, hp, e⟩)
      obtain ⟨q, hq, e'⟩ := List.mem_map.1 this
      exact ⟨q, hq, e'⟩
    · have h3 : z = x := by simpa using h3
      rw [h3]
      exact ⟨_, mput_has x.1 x m, rfl⟩
  · have hl := h.len
    have hl2 : ((mput m x.1 x).map Prod.fst).length ≤ (m.map Prod.fst).length + 1 := by
      rcases hk with e | ⟨e, _⟩ <;> rw [e]
      · omega
      · simp
    simp only [List.length_map, List.length_append, List.length_cons, List.length_nil] at *
    omega
theorem RepM.new {l : List Hit} {m : List (Int × Hit)} (h : RepM l m) {x : Hit} (hg : mget m x.1 = none) : RepM (l ++ [x]) (mput m x.1 x) :=
  h.put fun z hz e => by
    obtain ⟨p, hp, e'⟩ := h.all z hz
    exact absurd (e'.trans e) (mget_no hg p hp)
theorem RepM.less {l : List Hit} {m : List (Int × Hit)} (h : RepM l m) {x y : Hit} (hg : mget m x.1 = some y) (hlt : ltH x y = true) : RepM (l ++ [x]) (mput m x.1 x) :=
  h.put fun z hz e => ltN ((h.rep _ (mget_mem hg)).2.2 z hz e) (ltAs hlt)
theorem RepM.keep {l : List Hit} {m : List (Int × Hit)} (h : RepM l m) {x y : Hit} (hg : mget m x.1 = some y) (hlt : ltH x y = false) : RepM (l ++ [x]) m := by
  have hy := mget_mem hg
  refine ⟨h.nd, fun p hp => ?_, fun z hz => ?_, by have := h.len; simp; omega⟩
  · obtain ⟨h3, h4, h5⟩ := h.rep p hp
    refine ⟨List.mem_append_left _ h3, h4, fun z hz e => ?_⟩
    rcases List.mem_append.1 hz with h6 | h6
    · exact h5 z h6 e
    · have h6 : z = x := by simpa using h6
      subst h6
      have e2 : p = (z.1, y) := pair_one h.nd hp hy e.symm
      rw [e2]; exact hlt
  · rcases List.mem_append.1 hz with h3 | h3
    · exact h.all z h3
    · have h3 : z = x := by simpa using h3
      rw [h3]
      exact ⟨_, hy, rfl⟩
end Go.Proofs.Ytmimchmdikjilaa
