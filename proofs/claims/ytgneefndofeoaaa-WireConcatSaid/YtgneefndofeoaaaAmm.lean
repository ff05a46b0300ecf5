import Derived.Test.YtgneefndofeoaaaAml
namespace Go.AM
set_option linter.unusedVariables false
open Go.RowKit

variable {B : Nat} {w0 : World} {C : Ctx} {Ψ Ψ0 : Pr} {β : List Value} {h : List Blk} {w w' : World} {fr : List AV} {a a0 : Act} {As : List Act} {W : List Nat}

theorem getD_both {listed : Array Bool} {i : Nat} (h : listed.getD i true = false) : listed.getD i false = false := by
  rw [Array.getD_eq_getD_getElem?] at *
  cases hx : listed[i]? with
  | none => rw [hx] at h; simp at h
  | some b => rw [hx] at h; simpa using h

theorem getD_in {listed : Array Bool} {i : Nat} (hi : i < listed.size) (h : listed.getD i false = false) : listed.getD i true = false := by
  rw [Array.getD_eq_getD_getElem?] at *
  rw [Array.getElem?_eq_getElem hi] at *
  simpa using h

theorem memN'_iff {t : Nat} : ∀ {l : List Nat}, memN' t l = true ↔ t ∈ l
  | [] => by simp [memN']
  | u :: l => by simp [memN', memN'_iff (l := l), Nat.beq_eq]

theorem memN_iff {t : Nat} : ∀ {l : List Nat}, memN t l = true ↔ t ∈ l
  | [] => by simp [memN]
  | u :: l => by simp [memN, memN_iff (l := l), Nat.beq_eq]

/-- An operation's edge, as a fact. -/
theorem hasEdge_spec {o : Oper} {j : Nat} (he : hasEdge o j = true) : ∃ e ∈ o.after, Region.binds .any e = true ∧ e.on = j := by
  unfold hasEdge at he
  rw [Array.any_eq_true'] at he
  obtain ⟨e, hm, hc⟩ := he
  simp only [Bool.and_eq_true, Nat.beq_eq] at hc
  exact ⟨e, hm, hc⟩

theorem backEdges_spec {i : Nat} {o : Oper} (hb : backEdges i o = true) : ∀ e ∈ o.after, Region.binds .any e = true → e.on < i := by
  intro e hm hbd
  unfold backEdges at hb
  rw [Array.all_eq_true'] at hb
  have := hb e hm
  simp only [hbd, Bool.not_true, Bool.false_or, Nat.blt_eq] at this
  exact this

theorem memS_iff {t : Nat} : ∀ {l : List Nat}, memS t l = true ↔ t ∈ l
  | [] => by simp [memS]
  | u :: l => by simp [memS, memS_iff (l := l), Nat.beq_eq]

theorem edgesOf_spec {o : Oper} {j : Nat} (h : j ∈ edgesOf o) : ∃ e ∈ o.after, Region.binds .any e = true ∧ e.on = j := by
  simp only [edgesOf, List.mem_map, List.mem_filter] at h
  obtain ⟨e, ⟨h1, h2⟩, h3⟩ := h
  exact ⟨e, by simpa using h1, h2, h3⟩

/-- What is listed has what it waits for listed. -/
def EdgeClosed (all : Array Oper) (listed : Array Bool) : Prop :=
  ∀ i o, all[i]? = some o → listed.getD i false = true → ∀ e ∈ o.after, Region.binds .any e = true → listed.getD e.on false = true

theorem sweep_listed {all : Array Oper} {listed : Array Bool} (hc : EdgeClosed all listed) : ∀ (k : Nat) (S : List Nat), (∀ j ∈ S, listed.getD j false = true) → ∀ j ∈ sweep all k S, listed.getD j false = true
  | 0, S, hS => hS
  | k + 1, S, hS => by
    unfold sweep
    split
    · rename_i hk
      split
      · rename_i o ho
        refine sweep_listed hc k _ (fun j hj => ?_)
        rcases List.mem_append.1 hj with h | h
        · obtain ⟨e, he, hb, rfl⟩ := edgesOf_spec h
          exact hc k o ho (hS k (memS_iff.1 hk)) e he hb
        · exact hS j h
      · exact sweep_listed hc k S hS
    · exact sweep_listed hc k S hS

theorem allIn_spec {S : List Nat} : ∀ {i : Nat}, allIn S i = true → ∀ j, j < i → j ∈ S
  | 0, _, j, hj => by omega
  | i + 1, hd, j, hj => by
    simp only [allIn, Bool.and_eq_true] at hd
    rcases Nat.lt_or_ge j i with h | h
    · exact allIn_spec hd.2 j h
    · have : j = i := by omega
      subst this
      exact memS_iff.1 hd.1

/-- Whoever waits for all finds all listed when it is ready. -/
theorem depAll_spec {all : Array Oper} {listed : Array Bool} {o : Oper} {i : Nat} (hc : EdgeClosed all listed) (hd : depAll all o i = true) (hr : ∀ e ∈ o.after, Region.binds .any e = true → listed.getD e.on false = true) :
    ∀ j, j < i → listed.getD j false = true := fun j hj =>
  sweep_listed hc i _ (fun k hk => let ⟨e, he, hb, hk⟩ := edgesOf_spec hk; hk ▸ hr e he hb) j (allIn_spec hd j hj)

theorem EdgeClosed.set {all : Array Oper} {listed : Array Bool} {i : Nat} {o : Oper} (hc : EdgeClosed all listed) (ho : all[i]? = some o) (hr : ∀ e ∈ o.after, Region.binds .any e = true → listed.getD e.on false = true) :
    EdgeClosed all (listed.setIfInBounds i true) := by
  have up : ∀ j, listed.getD j false = true → (listed.setIfInBounds i true).getD j false = true := by
    intro j hj
    rw [Array.getD_eq_getD_getElem?] at hj ⊢
    by_cases hji : j = i
    · subst hji
      have hlt : j < listed.size := by
        rcases Nat.lt_or_ge j listed.size with h | h
        · exact h
        · rw [Array.getElem?_eq_none h] at hj; simp at hj
      rw [Array.getElem?_setIfInBounds_self_of_lt hlt]
      rfl
    · rw [Array.getElem?_setIfInBounds_ne (Ne.symm hji)]
      exact hj
  intro j oj hoj hl e he hb
  apply up
  by_cases hji : j = i
  · subst hji
    rw [ho] at hoj
    simp at hoj
    subst hoj
    exact hr e he hb
  · refine hc j oj hoj ?_ e he hb
    rw [Array.getD_eq_getD_getElem?, Array.getElem?_setIfInBounds_ne (Ne.symm hji)] at hl
    rw [Array.getD_eq_getD_getElem?]
    exact hl

theorem tailOk_spec {all : Array Oper} : ∀ {l : List Oper} {i0 : Nat}, tailOk all i0 l = true → ∀ j o, l[j]? = some o → depAll all o (i0 + j) = true ∧ backEdges (i0 + j) o = true
  | [], _, _, j, o, hj => by simp at hj
  | o' :: l, i0, ht, 0, o, hj => by
    simp at hj
    subst hj
    simp only [tailOk, Bool.and_eq_true] at ht
    exact ht.1
  | o' :: l, i0, ht, j + 1, o, hj => by
    simp only [tailOk, Bool.and_eq_true] at ht
    have := tailOk_spec ht.2 j o (by simpa using hj)
    rwa [show i0 + 1 + j = i0 + (j + 1) by omega] at this

theorem ready_iff {ops : Array Oper} {listed : Array Bool} {i : Nat} : i ∈ Region.ready .any ops listed ↔ listed.getD i true = false ∧ ∃ o, ops[i]? = some o ∧ ∀ e ∈ o.after, Region.binds .any e = true → listed.getD e.on false = true := mem_ready

theorem wpOp_at {ops : Array Oper} {i : Nat} {o : Oper} {K : Act → World → Prop} {Q : Exit → Act → World → Prop} (ho : ops[i]? = some o)
    (h : if Region.wanted o (yielded ops a.tmps) then o.wp C.P a w K Q ∨ (o.asks C.P a w ∧ LetsOut Q) else K (a.put o.dst undef) w) : wpOp C.P ops Q i K a w := by
  unfold wpOp
  simp only [ho]
  exact h

theorem list_at {ops : Array Oper} {i : Nat} : ops.toList[i]? = ops[i]? := by simp

/-- The tail, one operation at a time. -/
theorem seq_any (ops : Array Oper) (Q : Exit → Act → World → Prop) : ∀ (rest : List Oper) (i0 fuel : Nat) (listed : Array Bool) (a : Act) (w : World), rest = ops.toList.drop i0 → i0 ≤ ops.size → tailOk ops i0 rest = true → listed.size = ops.size → EdgeClosed ops listed →
    (∀ j, j < ops.size → listed.getD j false = decide (j < i0)) → rest.length ≤ fuel → wpList C.P ops Q rest a w → wpAny C.P .any ops Q fuel listed a w
  | [], i0, fuel, listed, a, w, hrest, hi0, _, hsz, _, hl, _, hw => by
    have hsize : ops.size ≤ i0 := by
      have := congrArg List.length hrest
      simp at this
      omega
    have hnone : Region.ready .any ops listed = [] := by
      cases hr : Region.ready .any ops listed with
      | nil => rfl
      | cons i l =>
        obtain ⟨h1, o, h2, _⟩ := ready_iff.1 (show i ∈ Region.ready .any ops listed by rw [hr]; simp)
        have hlt : i < ops.size := by
          rcases Nat.lt_or_ge i ops.size with h' | h'
          · exact h'
          · rw [Array.getElem?_eq_none h'] at h2; cases h2
        have h3 := hl i hlt
        rw [getD_both h1] at h3
        simp at h3
        omega
    cases fuel with
    | zero => exact ⟨hnone, hw⟩
    | succ n => exact ⟨fun _ => hw, fun i hi => by rw [hnone] at hi; cases hi⟩
  | o :: rest, i0, 0, listed, a, w, _, _, _, _, _, _, hf, _ => by simp at hf
  | o :: rest, i0, fuel + 1, listed, a, w, hrest, hi0, ht, hsz, hcl, hl, hf, hw => by
    have hlt : i0 < ops.size := by
      have := congrArg List.length hrest
      simp at this
      omega
    have ho : ops[i0]? = some o := by
      have : (ops.toList.drop i0)[0]? = some o := by rw [← hrest]; rfl
      rw [List.getElem?_drop] at this
      simpa using this
    have hrest' : rest = ops.toList.drop (i0 + 1) := by
      have := congrArg List.tail hrest
      simpa [List.tail_drop] using this
    have hready : i0 ∈ Region.ready .any ops listed := by
      rw [ready_iff]
      refine ⟨getD_in (by omega) (by rw [hl i0 hlt]; simp), o, ho, fun e he hb => ?_⟩
      have h1 := backEdges_spec (tailOk_spec ht 0 o rfl).2 e he hb
      rw [hl e.on (by omega)]
      simp only [decide_eq_true_eq]
      omega
    refine ⟨fun hr => (by rw [hr] at hready; cases hready), fun i hi => ?_⟩
    obtain ⟨h1, oi, h2, h3⟩ := ready_iff.1 hi
    have hilt : i < ops.size := by
      rcases Nat.lt_or_ge i ops.size with h' | h'
      · exact h'
      · rw [Array.getElem?_eq_none h'] at h2; cases h2
    have hge : i0 ≤ i := by
      have := hl i hilt
      rw [getD_both h1] at this
      simp at this
      exact this
    have hii : i = i0 := by
      rcases Nat.lt_or_ge i0 i with hgt | hle
      · exfalso
        have hoi : (o :: rest)[i - i0]? = some oi := by
          rw [hrest, List.getElem?_drop, show i0 + (i - i0) = i by omega]
          simpa using h2
        have hd := (tailOk_spec ht _ _ hoi).1
        rw [show i0 + (i - i0) = i by omega] at hd
        have := depAll_spec hcl hd h3 i0 hgt
        rw [hl i0 hlt] at this
        simp at this
      · omega
    subst hii
    rw [ho] at h2
    simp at h2
    subst h2
    have K : ∀ a' w', wpList C.P ops Q rest a' w' → wpAny C.P .any ops Q fuel (listed.setIfInBounds i true) a' w' := fun a' w' hw' =>
      seq_any ops Q rest (i + 1) fuel _ a' w' hrest' (by omega) (by simp only [tailOk, Bool.and_eq_true] at ht; exact ht.2) (by simpa using hsz) (hcl.set ho h3) (fun j hj => by
        by_cases hji : j = i
        · subst hji
          rw [Array.getD_eq_getD_getElem?, Array.getElem?_setIfInBounds_self_of_lt (by omega)]
          simp
        · rw [Array.getD_eq_getD_getElem?, Array.getElem?_setIfInBounds_ne (Ne.symm hji), ← Array.getD_eq_getD_getElem?, hl j hj]
          simp only [decide_eq_decide]
          omega) (by simpa using hf) hw'
    refine wpOp_at ho ?_
    unfold wpList at hw
    split
    · rename_i hwant
      rw [if_pos hwant] at hw
      exact hw.imp (Oper.wp_mono K) id
    · rename_i hwant
      rw [if_neg hwant] at hw
      exact K _ _ hw

def unl (l : List Bool) : Nat := l.countP (!·)

theorem unl_set : ∀ {l : List Bool} {i : Nat}, l[i]? = some false → unl (l.set i true) + 1 = unl l
  | [], i, h => by simp at h
  | b :: l, 0, h => by
    simp at h
    subst h
    simp [unl]
  | b :: l, i + 1, h => by
    have := unl_set (l := l) (i := i) (by simpa using h)
    simp only [unl, List.set_cons_succ, List.countP_cons] at *
    omega

theorem unl_false : ∀ {l : List Bool} {m : Nat}, m ≤ l.length → (∀ j, m ≤ j → j < l.length → l[j]? = some false) → l.length - m ≤ unl l
  | [], m, _, _ => by simp
  | b :: l, 0, _, h => by
    have h0 := h 0 (Nat.le_refl _) (by simp)
    simp at h0
    subst h0
    have := unl_false (l := l) (m := 0) (by omega) (fun j _ hj => by simpa using h (j + 1) (by omega) (by simpa using hj))
    simp only [unl, List.countP_cons, List.length_cons] at *
    simp
    omega
  | b :: l, m + 1, hm, h => by
    have := unl_false (l := l) (m := m) (by simpa using hm) (fun j hj hjl => by simpa using h (j + 1) (by omega) (by simpa using hjl))
    simp only [unl, List.countP_cons, List.length_cons] at *
    omega

/-- What the head's check says. -/
structure Head (all : Array Oper) (head : List Oper) : Prop where
  self : ∀ (i : Nat) (o : Oper), head[i]? = some o → ∀ t, o.dst = some t → t ∉ looks all o
  back : ∀ (i : Nat) (o : Oper), head[i]? = some o → ∀ e ∈ o.after, Region.binds .any e = true → e.on < i
  pair : ∀ (i j : Nat) (oi oj : Oper), head[i]? = some oi → head[j]? = some oj → i ≠ j → ∀ t, oj.dst = some t → oi.dst ≠ some t ∧ (t ∈ looks all oi → j < i ∧ hasEdge oi j = true)

theorem head_spec {all : Array Oper} {head : List Oper} (hk : headOk all head.zipIdx = true) : Head all head := by
  unfold headOk at hk
  rw [List.all_eq_true] at hk
  have at_ : ∀ {i : Nat} {o : Oper}, head[i]? = some o → (o, i) ∈ head.zipIdx := fun h => by
    rw [List.mem_zipIdx_iff_getElem?]; exact h
  refine ⟨fun i o hi t ht hm => ?_, fun i o hi => ?_, fun i j oi oj hi hj hij t ht => ?_⟩
  · have := hk _ (at_ hi)
    simp only [Bool.and_eq_true] at this
    have h1 := this.1.1
    unfold selfOk at h1
    rw [ht] at h1
    simp only [Bool.not_eq_true'] at h1
    rw [memN'_iff.2 hm] at h1
    cases h1
  · have := hk _ (at_ hi)
    simp only [Bool.and_eq_true] at this
    exact backEdges_spec this.1.2
  · have := hk _ (at_ hi)
    simp only [Bool.and_eq_true, List.all_eq_true] at this
    have h1 := this.2 _ (at_ hj)
    unfold pairOk at h1
    rw [ht] at h1
    simp only [Bool.or_eq_true, Nat.beq_eq, Bool.and_eq_true, Bool.not_eq_true', beq_eq_false_iff_ne] at h1
    rcases h1 with h1 | ⟨h1, h2⟩
    · exact absurd h1 hij
    · refine ⟨h1, fun hm => ?_⟩
      rcases h2 with h2 | h2
      · rw [memN'_iff.2 hm] at h2; cases h2
      · simpa [Nat.blt_eq] using h2

theorem Head.distinct {all : Array Oper} {head : List Oper} (hh : Head all head) : Distinct head := fun i j oi oj t hi hj hti htj => by
  rcases Nat.decEq i j with h | h
  · exact absurd hti (hh.pair i j oi oj hi hj h t htj).1
  · exact h

theorem take_at {all : Array Oper} {m i : Nat} {o : Oper} (h : (all.toList.take m)[i]? = some o) : i < m ∧ all[i]? = some o := by
  rw [List.getElem?_take] at h
  split at h
  · rename_i hlt; exact ⟨hlt, by simpa using h⟩
  · cases h

theorem at_take {all : Array Oper} {m i : Nat} {o : Oper} (hm : i < m) (h : all[i]? = some o) : (all.toList.take m)[i]? = some o := by
  rw [List.getElem?_take, if_pos hm]
  simpa using h

/-- The state in the middle of the head. -/
def JInv (B : Nat) (w0 : World) (Ψ0 : Pr) (β : List Value) (h : List Blk) (below : List (List AV)) (As : List Act) (W : List Nat) (a0 : Act) (head : List Oper) (top : List AV) (vals : Nat → AV) (listed : Array Bool) (a : Act) (w : World) : Prop :=
  ∃ Ψ, Ext B Ψ0 Ψ ∧ InvH B w0 Ψ β h w ∧ RelF Ψ β below As ∧ a.defers = [] ∧ a.tmps.size = top.length ∧
    (∀ t, t < top.length → RelV Ψ β (baseL head top vals (fun i => listed.getD i false) t) (a.tmps.toList.getD t undef)) ∧ Same W a0 a

theorem getD_put {a : Act} {d t : Nat} {v : Value} : (a.put (some d) v).tmps.toList.getD t undef = if d = t ∧ t < a.tmps.size then v else a.tmps.toList.getD t undef := by
  simp only [Act.put, Array.toList_setIfInBounds, List.getD_eq_getElem?_getD]
  by_cases h : d = t
  · subst h
    by_cases hlt : d < a.tmps.size
    · rw [List.getElem?_set_self (by simpa using hlt), if_pos ⟨rfl, hlt⟩]; rfl
    · rw [if_neg (fun hh => hlt hh.2), List.getElem?_eq_none (by simpa using hlt), List.getElem?_eq_none (by simpa using hlt)]
  · rw [List.getElem?_set_ne h, if_neg (fun hh => h hh.1)]

theorem set_getD {listed : Array Bool} {i j : Nat} (hi : i < listed.size) : (listed.setIfInBounds i true).getD j false = if i = j then true else listed.getD j false := by
  by_cases h : i = j
  · subst h
    rw [if_pos rfl, Array.getD_eq_getD_getElem?, Array.getElem?_setIfInBounds_self_of_lt hi]; rfl
  · rw [if_neg h, Array.getD_eq_getD_getElem?, Array.getElem?_setIfInBounds_ne h, ← Array.getD_eq_getD_getElem?]

/-- An operation's slot holds its value. -/
theorem JInv.put {below : List (List AV)} {head : List Oper} {top : List AV} {vals : Nat → AV} {listed : Array Bool} {i : Nat} {o : Oper} {v : Value} {Ψ' : Pr} (hd : Distinct head) (hi : head[i]? = some o) (hil : i < listed.size)
    (hE : Ext B Ψ0 Ψ') (hH : InvH B w0 Ψ' β h w) (hF : RelF Ψ' β below As) (hdf : a.defers = []) (hsz : a.tmps.size = top.length)
    (hb : ∀ t, t < top.length → RelV Ψ' β (baseL head top vals (fun i => listed.getD i false) t) (a.tmps.toList.getD t undef)) (hS : Same W a0 a) (hW : ∀ t, o.dst = some t → t ∈ W) (hv : RelV Ψ' β (vals i) v) :
    JInv B w0 Ψ0 β h below As W a0 head top vals (listed.setIfInBounds i true) (a.put o.dst v) w := by
  have same : ∀ t, o.dst ≠ some t → baseL head top vals (fun j => (listed.setIfInBounds i true).getD j false) t = baseL head top vals (fun j => listed.getD j false) t := by
    intro t hne
    by_cases hex : ∃ (j : Nat) (oj : Oper), head[j]? = some oj ∧ oj.dst = some t ∧ listed.getD j false = true
    · obtain ⟨j, oj, h1, h2, h3⟩ := hex
      rw [baseL_at hd h1 h2 (by rw [set_getD hil]; split <;> first | rfl | exact h3), baseL_at hd h1 h2 h3]
    · rw [baseL_none (fun j oj h1 h2 => ?_), baseL_none (fun j oj h1 h2 => ?_)]
      · cases hx : listed.getD j false with
        | false => rfl
        | true => exact absurd ⟨j, oj, h1, h2, hx⟩ hex
      · rw [set_getD hil]
        split
        · rename_i hij
          subst hij
          rw [hi] at h1
          simp at h1
          subst h1
          exact absurd h2 hne
        · cases hx : listed.getD j false with
          | false => rfl
          | true => exact absurd ⟨j, oj, h1, h2, hx⟩ hex
  refine ⟨Ψ', hE, hH, hF, ?_, ?_, fun t ht => ?_, hS.put hW⟩
  · cases o.dst <;> exact hdf
  · cases o.dst with
    | none => exact hsz
    | some d => simpa [Act.put] using hsz
  · cases hdst : o.dst with
    | none =>
      rw [same t (by rw [hdst]; simp)]
      exact hb t ht
    | some d =>
      rw [getD_put]
      by_cases htd : d = t
      · subst htd
        rw [if_pos ⟨rfl, by omega⟩, baseL_at hd hi hdst (by rw [set_getD hil, if_pos rfl])]
        exact hv
      · rw [if_neg (fun hh => htd hh.1), same t (by rw [hdst]; simpa using htd)]
        exact hb t ht

theorem JInv.mono {Ψ Ψ' : Pr} {head : List Oper} {top : List AV} {vals : Nat → AV} {listed : Array Bool} (hle : PLe Ψ Ψ')
    (hb : ∀ t, t < top.length → RelV Ψ β (baseL head top vals (fun i => listed.getD i false) t) (a.tmps.toList.getD t undef)) :
    ∀ t, t < top.length → RelV Ψ' β (baseL head top vals (fun i => listed.getD i false) t) (a.tmps.toList.getD t undef) :=
  fun t ht => RelV_mono hle (fun _ _ h => h) _ _ (hb t ht)

theorem RelL_of {Ψ : Pr} {β : List Value} : ∀ (top : List AV) (vs : List Value), vs.length = top.length → (∀ t, t < top.length → RelV Ψ β (fget top t) (vs.getD t undef)) → RelL Ψ β top vs
  | [], [], _, _ => rfl
  | [], _ :: _, h, _ => by simp at h
  | _ :: _, [], h, _ => by simp at h
  | c :: top, v :: vs, h, hr => ⟨v, vs, rfl, by simpa [fget] using hr 0 (by simp), RelL_of top vs (by simpa using h) fun t ht => by simpa [fget] using hr (t + 1) (by simpa using ht)⟩

theorem find_congr {α : Type} {p q : α → Bool} : ∀ {l : List α}, (∀ x ∈ l, p x = q x) → l.find? p = l.find? q
  | [], _ => rfl
  | x :: l, h => by
    have ih := find_congr (l := l) fun y hy => h y (List.mem_cons_of_mem x hy)
    simp only [List.find?_cons, h x (by simp), ih]

theorem fget_out : ∀ {l : List AV} {t : Nat}, l.length ≤ t → fget l t = .junk
  | [], _, _ => rfl
  | _ :: l, 0, h => by simp at h
  | _ :: l, t + 1, h => fget_out (l := l) (by simpa using h)

/-- The head in whatever order, then the tail. -/
theorem head_any (hsp : SpecSound C) {all : Array Oper} {m : Nat} {below : List (List AV)} {top : List AV} {tops mids : Nat → List AV} {vals : Nat → AV} {wnt : Nat → Bool} {Q : Exit → Act → World → Prop} (hm : m ≤ all.size)
    (hh : Head all (all.toList.take m)) (ht : Trace C all h (all.toList.take m) top tops mids vals wnt) (htail : tailOk all m (all.toList.drop m) = true) (hW : ∀ o ∈ all.toList, ∀ t, o.dst = some t → t ∈ W)
    (hfin : ∀ Ψ a w, Ext B Ψ0 Ψ → InvH B w0 Ψ β h w → RelF Ψ β (tops m :: below) (a :: As) → Same W a0 a → wpList C.P all Q (all.toList.drop m) a w) :
    ∀ (fuel : Nat) (listed : Array Bool) (a : Act) (w : World), listed.size = all.size → (∀ i, m ≤ i → i < all.size → listed.getD i false = false) → EdgeClosed all listed → unl listed.toList ≤ fuel →
      JInv B w0 Ψ0 β h below As W a0 (all.toList.take m) top vals listed a w → wpAny C.P .any all Q fuel listed a w := by
  have hd := hh.distinct
  have hml : (all.toList.take m).length = m := by simp; omega
  intro fuel
  induction fuel with
  | zero =>
    intro listed a w hsz htl hcd hu hJ
    -- all are listed: there is no tail
    have hall : ∀ i, i < m → listed.getD i false = true := by
      intro i hi
      cases hx : listed.getD i false with
      | true => rfl
      | false =>
        exfalso
        have : listed.toList[i]? = some false := by
          rw [Array.getD_eq_getD_getElem?, Array.getElem?_eq_getElem (by omega)] at hx
          simp at hx
          rw [List.getElem?_eq_getElem (by simp; omega)]
          simp [hx]
        have := unl_set this
        omega
    exact headDone hm hml hd ht htail hfin 0 listed a w hsz htl hcd hu hall hJ
  | succ fuel ih =>
    intro listed a w hsz htl hcd hu hJ
    by_cases hall : ∀ i, i < m → listed.getD i false = true
    · exact headDone hm hml hd ht htail hfin (fuel + 1) listed a w hsz htl hcd hu hall hJ
    · -- the first one that is not
      have hex : ∃ i, i < m ∧ listed.getD i false = false ∧ ∀ j, j < i → listed.getD j false = true := by
        have hne : ∃ i, i < m ∧ listed.getD i false = false := by
          apply Classical.byContradiction
          intro hn
          apply hall
          intro i hi
          cases hx : listed.getD i false with
          | true => rfl
          | false => exact absurd ⟨i, hi, hx⟩ hn
        obtain ⟨i, hi⟩ := hne
        induction i using Nat.strongRecOn with
        | _ i ih' =>
          by_cases hall' : ∀ j, j < i → listed.getD j false = true
          · exact ⟨i, hi.1, hi.2, hall'⟩
          · have : ∃ j, j < i ∧ listed.getD j false = false := by
              apply Classical.byContradiction
              intro hn
              apply hall'
              intro j hj
              cases hx : listed.getD j false with
              | true => rfl
              | false => exact absurd ⟨j, hj, hx⟩ hn
            obtain ⟨j, hj, hx⟩ := this
            exact ih' j hj ⟨by omega, hx⟩
      refine ⟨fun hr => ?_, fun i hi => ?_⟩
      · exfalso
        obtain ⟨i, hi, hx, hbef⟩ := hex
        have ho : all[i]? = some all[i] := Array.getElem?_eq_getElem (by omega)
        have : i ∈ Region.ready .any all listed := by
          rw [ready_iff]
          exact ⟨getD_in (by omega) hx, _, ho, fun e he hb => hbef _ (hh.back i _ (at_take hi ho) e he hb)⟩
        rw [hr] at this
        cases this
      · obtain ⟨h1, o, h2, h3⟩ := ready_iff.1 hi
        have hilt : i < all.size := by
          rcases Nat.lt_or_ge i all.size with h' | h'
          · exact h'
          · rw [Array.getElem?_eq_none h'] at h2; cases h2
        have him : i < m := by
          rcases Nat.lt_or_ge i m with h' | h'
          · exact h'
          · exfalso
            apply hall
            intro j hj
            have hoi : (all.toList.drop m)[i - m]? = some o := by
              rw [List.getElem?_drop, show m + (i - m) = i by omega]
              simpa using h2
            have hdep := (tailOk_spec htail _ _ hoi).1
            rw [show m + (i - m) = i by omega] at hdep
            exact depAll_spec hcd hdep h3 j (by omega)
        have hoh := at_take him h2
        obtain ⟨hg, he, hy, hn⟩ := ht.step i o hoh
        obtain ⟨hcl, hci⟩ := ht.chain hd i (by omega)
        obtain ⟨hgl, hgi⟩ := guarded_imp hg
        obtain ⟨Ψ, hE, hH, hF, hdf, hasz, hb, hS⟩ := hJ
        -- what it looks at is as the lexical walk has it
        have look : ∀ t, t ∈ looks all o → RelV Ψ β (fget (tops i) t) (a.tmps.toList.getD t undef) := by
          intro t htl
          by_cases htr : t < top.length
          · have h4 : baseL (all.toList.take m) top vals (fun j => decide (j < i)) t = baseL (all.toList.take m) top vals (fun j => listed.getD j false) t := by
              by_cases hex : ∃ (j : Nat) (oj : Oper), (all.toList.take m)[j]? = some oj ∧ oj.dst = some t
              · obtain ⟨j, oj, hj1, hj2⟩ := hex
                have hji : i ≠ j := by
                  rintro rfl
                  rw [hoh] at hj1
                  simp at hj1
                  subst hj1
                  exact hh.self _ _ hoh t hj2 htl
                obtain ⟨hlt, hedge⟩ := (hh.pair i j o oj hoh hj1 hji t hj2).2 htl
                obtain ⟨e, he', hb', hon⟩ := hasEdge_spec hedge
                have := h3 e he' hb'
                rw [hon] at this
                rw [baseL_at hd hj1 hj2 (by simpa using hlt), baseL_at hd hj1 hj2 this]
              · rw [baseL_none (fun j oj hj1 hj2 => absurd ⟨j, oj, hj1, hj2⟩ hex), baseL_none (fun j oj hj1 hj2 => absurd ⟨j, oj, hj1, hj2⟩ hex)]
            have h5 := hb t htr
            rw [← h4] at h5
            exact hci t htr _ _ _ h5
          · have : fget (tops i) t = .junk := by
              exact fget_out (by omega)
            rw [this]
            trivial
        have hil : i < listed.size := by omega
        have hnext : ∀ a' w', JInv B w0 Ψ0 β h below As W a0 (all.toList.take m) top vals (listed.setIfInBounds i true) a' w' → wpAny C.P .any all Q fuel (listed.setIfInBounds i true) a' w' := fun a' w' hJ' =>
          ih _ a' w' (by simpa using hsz) (fun j hj hjs => by rw [set_getD hil, if_neg (by omega)]; exact htl j hj hjs) (hcd.set h2 h3) (by
            have hx := getD_both h1
            have : listed.toList[i]? = some false := by
              rw [Array.getD_eq_getD_getElem?, Array.getElem?_eq_getElem hil] at hx
              simp at hx
              rw [List.getElem?_eq_getElem (by simpa using hil)]
              simp [hx]
            have := unl_set this
            rw [Array.toList_setIfInBounds]
            omega) hJ'
        have hWo : ∀ t, o.dst = some t → t ∈ W := hW o (by
          have := List.mem_of_getElem? (l := all.toList) (i := i) (by simpa using h2)
          exact this)
        refine wpOp_at h2 ?_
        have hwanted : Region.wanted o (yielded all a.tmps) = wnt i := by
          unfold Guarded at hg
          unfold Region.wanted
          split at hg
          · rename_i hgd
            rw [hgd, hg.2]
          · rename_i j want hgd
            obtain ⟨t, hgt, hcase⟩ := hg
            have hl := look t (by simp [looks, hgd, hgt])
            rw [hgd]
            simp only [yielded_of hgt]
            have cell : ∀ b : Bool, a.tmps.toList.getD t undef = .bool b → a.tmps[t]? = some (.bool b) := by
              intro b hb
              rw [getD_eq] at hb
              cases hx : a.tmps[t]? with
              | none => rw [hx] at hb; simp [undef] at hb
              | some x => rw [hx] at hb; simp at hb; rw [hb]
            rcases hcase with ⟨hf, _, hb⟩ | ⟨hf, _, hb⟩ | ⟨hf, _, hb⟩ | ⟨hf, _, hb⟩ | ⟨hf, _, hb⟩ <;> rw [hf] at hl <;> rw [hb]
            · rw [cell true hl]; cases want <;> rfl
            · rw [cell false hl]; cases want <;> rfl
            · rw [getD_eq] at hl
              have hl' : (a.tmps[t]?).getD undef = undef := hl
              cases hx : a.tmps[t]? with
              | none => simp
              | some x => rw [hx] at hl'; simp at hl'; subst hl'; simp [undef]
            · rw [cell true (rv_bool.1 hl)]; cases want <;> rfl
            · rw [cell false (rv_bool.1 hl)]; cases want <;> rfl
        rw [hwanted]
        split
        · rename_i hw1
          left
          have hev : ∀ x ∈ o.op.operands, RelV Ψ β (ev (mids i) x) (a.eval x) := by
            intro x hx
            cases x with
            | tmp t =>
              have hlt : t ∈ looks all o := by
                simp only [looks, List.mem_append, List.mem_filterMap]
                exact .inl ⟨.tmp t, by simpa using hx, rfl⟩
              have := hgi t _ _ _ (look t hlt)
              simpa [ev, Act.eval, Array.getD_eq_getD_getElem?, List.getD_eq_getElem?_getD] using this
            | const v => exact ofV_rel v
            | global g => trivial
            | func f => exact ⟨[], rfl, rfl⟩
          refine Oper.wp_mono (fun a' w' hp => ?_) (yld_wp hsp (hy hw1) hH hev)
          obtain ⟨v, Ψ', rfl, hst, hv⟩ := hp
          exact hnext _ _ (JInv.put hd hoh hil (hE.trans (hst.ext hH.size)) (hH.step hst) (RelF_mono hst.le (fun _ _ h => h) _ _ hF) hdf hasz (JInv.mono hst.le hb) hS hWo hv)
        · rename_i hw1
          have hvi : vals i = .und := hn (by simpa using hw1)
          exact hnext _ _ (JInv.put hd hoh hil hE hH hF hdf hasz hb hS hWo (by rw [hvi]; rfl))
where
  headDone {all : Array Oper} {m : Nat} {below : List (List AV)} {top : List AV} {tops mids : Nat → List AV} {vals : Nat → AV} {wnt : Nat → Bool} {Q : Exit → Act → World → Prop} (hm : m ≤ all.size) (hml : (all.toList.take m).length = m) (hd : Distinct (all.toList.take m))
      (ht : Trace C all h (all.toList.take m) top tops mids vals wnt) (htail : tailOk all m (all.toList.drop m) = true)
      (hfin : ∀ Ψ a w, Ext B Ψ0 Ψ → InvH B w0 Ψ β h w → RelF Ψ β (tops m :: below) (a :: As) → Same W a0 a → wpList C.P all Q (all.toList.drop m) a w)
      (fuel : Nat) (listed : Array Bool) (a : Act) (w : World) (hsz : listed.size = all.size) (htl : ∀ i, m ≤ i → i < all.size → listed.getD i false = false) (hcd : EdgeClosed all listed) (hu : unl listed.toList ≤ fuel) (hall : ∀ i, i < m → listed.getD i false = true)
      (hJ : JInv B w0 Ψ0 β h below As W a0 (all.toList.take m) top vals listed a w) : wpAny C.P .any all Q fuel listed a w := by
    obtain ⟨Ψ, hE, hH, hF, hdf, hasz, hb, hS⟩ := hJ
    obtain ⟨hcl, hci⟩ := ht.chain hd m (by omega)
    have hbase : ∀ t, baseL (all.toList.take m) top vals (fun j => decide (j < m)) t = baseL (all.toList.take m) top vals (fun j => listed.getD j false) t := by
      intro t
      unfold baseL
      rw [find_congr (q := fun i => listed.getD i false && ((all.toList.take m)[i]?.bind (·.dst) == some t)) (fun j hj => ?_)]
      have : j < m := by rw [List.mem_range, hml] at hj; exact hj
      simp [this, hall j this]
    refine seq_any all Q _ m fuel listed a w rfl hm htail hsz hcd (fun j hj => ?_) ?_ (hfin Ψ a w hE hH ⟨a, As, rfl, ⟨hdf, RelL_of _ _ (by simp; omega) (fun t ht' => ?_)⟩, hF⟩ hS)
    · rcases Nat.lt_or_ge j m with h' | h'
      · rw [hall j h']; simpa using h'
      · rw [htl j h' hj]; simp; omega
    · have := unl_false (l := listed.toList) (m := m) (by simp; omega) (fun j hj hjl => by
        have hx := htl j hj (by simp at hjl; omega)
        rw [Array.getD_eq_getD_getElem?, Array.getElem?_eq_getElem (by simpa using hjl)] at hx
        simp at hx
        rw [List.getElem?_eq_getElem hjl]
        simp [hx])
      simp only [List.length_drop, Array.length_toList] at *
      omega
    · have := hb t (by omega)
      rw [← hbase t] at this
      exact hci t (by omega) _ _ _ this

theorem tailLen_le (all : Array Oper) : ∀ (i : Nat) (l : List Oper), tailLen all i l ≤ l.length
  | _, [] => Nat.le_refl _
  | i, o :: l => by
    unfold tailLen
    split
    · have := tailLen_le all (i - 1) l
      simp
      omega
    · simp

theorem none_listed {n : Nat} (i : Nat) : (Array.replicate n false).getD i false = false := by
  simp [Array.getD_eq_getD_getElem?, Array.getElem?_replicate]; split <;> rfl

/-- **A region that draws its order.** -/
theorem adraw_sound (hsp : SpecSound C) {call : CallT} (hc : CallSound C call) {all : Array Oper} {id : Nat} {s : St} {k : St → Prop} {md : Mode} (hk : adraw C call md all s k) (hE : Ext B Ψ0 Ψ) (hi : InvH B w0 Ψ β s.heap w) (hf : RelF Ψ β (s.top :: s.below) (a :: As))
    (hS : Same W a0 a) (hW : ∀ o ∈ all.toList, ∀ t, o.dst = some t → t ∈ W) {Q : Exit → Act → World → Prop} (hQ : ∀ a w, PostC B w0 Ψ0 As W a0 k a w → Q .normal a w) : (Code.region id all true).wp C.P Q a w := by
  unfold adraw at hk
  split at hk
  · rename_i hok
    simp only [Bool.and_eq_true] at hok
    obtain ⟨hok, hmix⟩ := hok
    unfold drawOk at hok
    simp only [Bool.and_eq_true] at hok
    obtain ⟨hhead, htail⟩ := hok
    obtain ⟨tops, mids, vals, wnt, ht, hk'⟩ := dops_trace all _ _ hk
    have hm : headLen all ≤ all.size := by unfold headLen; omega
    have hml : (all.toList.take (headLen all)).length = headLen all := by simp; omega
    rw [hml] at hk'
    refine wp_region_any hmix ?_
    have hwd : { w with drawn := w.drawn + 1 } = w.drew := rfl
    rw [hwd]
    obtain ⟨a1, as', e, ⟨hdf, hrel⟩, hF⟩ := hf
    simp only [List.cons.injEq] at e
    obtain ⟨rfl, rfl⟩ := e
    have hH : InvH B w0 Ψ β s.heap w.drew := hi.step ⟨(Below.refl _ w).drew, PLe.refl _, fun _ _ h => .inl h⟩
    refine head_any (B := B) (w0 := w0) (h := s.heap) (Ψ0 := Ψ0) (β := β) (As := As) (W := W) (a0 := a0) (below := s.below) hsp hm (head_spec hhead) ht htail hW ?_ all.size _ a w.drew (by simp) (fun i _ _ => none_listed i) (fun i o _ hl => by rw [none_listed i] at hl; cases hl) ?_ ?_
    · intro Ψ1 a' w' hE' hH' hF' hS'
      exact aops_sound hc all _ hk' hE' hH' hF' hS' (fun o ho => hW o (List.mem_of_mem_drop ho)) hQ
    · unfold unl
      have := List.countP_le_length (p := (! ·)) (l := (Array.replicate all.size false).toList)
      simpa using this
    · refine ⟨Ψ, hE, hH, hF, hdf, by simpa using RelL_len _ _ hrel, fun t ht' => ?_, hS⟩
      rw [baseL_none (fun i o _ _ => by simp [Array.getD_eq_getD_getElem?, Array.getElem?_replicate]; split <;> rfl)]
      exact RelL_get _ _ hrel t
  · exact hk.elim

end Go.AM
