import Derived.Test.YtgneefndofeoaaaAmg
namespace Go.AM
set_option linter.unusedVariables false
open Go.RowKit

variable {B : Nat} {w0 : World} {C : Ctx} {Ψ : Pr} {β : List Value} {h : List Blk} {w w' : World} {fr : List AV} {a : Act}

/-! ### A new block of our own -/
theorem getElem?_snoc {α : Type} {l : List α} {x y : α} {k : Nat} (hk : (l ++ [x])[k]? = some y) : l[k]? = some y ∨ (k = l.length ∧ y = x) := by
  rcases Nat.lt_or_ge k l.length with hlt | hge
  · left; rwa [List.getElem?_append_left hlt] at hk
  · right
    rw [List.getElem?_append_right hge] at hk
    have : k - l.length = 0 := by
      rcases Nat.eq_zero_or_pos (k - l.length) with h0 | h0
      · exact h0
      · rw [List.getElem?_eq_none (by simp; omega)] at hk; cases hk
    rw [this] at hk
    simp at hk
    exact ⟨by omega, hk.symm⟩

theorem snoc_mono {l : List Value} (u : Value) : ∀ (k : Nat) (v : Value), l[k]? = some v → (l ++ [u])[k]? = some v := by
  intro k v hk
  have hlt : k < l.length := by
    rcases Nat.lt_or_ge k l.length with h' | h'
    · exact h'
    · rw [List.getElem?_eq_none h'] at hk; cases hk
  rw [List.getElem?_append_left hlt]
  exact hk

theorem BlkR_snoc {b : Blk} {k : Nat} (u : Value) (hb : BlkR B Ψ β w k b) : BlkR B Ψ (β ++ [u]) w k b := by
  cases b with
  | gone => trivial
  | cells cs =>
    obtain ⟨g, c, e, h1, h2, h3, h4, h5⟩ := hb
    exact ⟨g, c, e, snoc_mono u _ _ h1, h2, h3, RelL_mono (PLe.refl _) (snoc_mono u) _ _ h4, h5⟩
  | grow tid e xs =>
    rcases hb with ⟨ad, h1, h2⟩ | ⟨g, cap, cur, h1, r⟩
    · exact .inl ⟨ad, snoc_mono u _ _ h1, h2⟩
    · exact .inr ⟨g, cap, cur, snoc_mono u _ _ h1, r⟩
  | kmap es =>
    obtain ⟨g, ms, cl, h1, r⟩ := hb
    exact ⟨g, ms, cl, snoc_mono u _ _ h1, r⟩

theorem claims_snoc {b : Blk} {k g : Nat} {u : Value} (hl : k < β.length) (hc : claims (β ++ [u]) k g b) : claims β k g b := by
  cases b with
  | gone => exact hc
  | cells cs =>
    simp only [claims] at *
    rwa [List.getElem?_append_left hl] at hc
  | grow tid e xs =>
    obtain ⟨n, cap, h1, h2⟩ := hc
    rw [List.getElem?_append_left hl] at h2
    exact ⟨n, cap, h1, h2⟩
  | kmap es =>
    simp only [claims] at *
    rwa [List.getElem?_append_left hl] at hc

theorem InvH.push {b : Blk} {u : Value} (hi : InvH B w0 Ψ β h w) (hb : Below w.heap.size w w') (hone : u.oneCell' = true) (hnew : BlkR B Ψ (β ++ [u]) w' h.length b)
    (hcl : ∀ g, claims (β ++ [u]) h.length g b → w.heap.size ≤ g) : InvH B w0 Ψ (β ++ [u]) (h ++ [b]) w' := by
  have hi' : InvH B w0 Ψ β h w' := hi.step ⟨hb, PLe.refl _, fun _ _ h => .inl h⟩
  have lt : ∀ {k : Nat} {b : Blk}, h[k]? = some b → k < β.length := fun {k b} hk => by
    rw [hi.len]
    rcases Nat.lt_or_ge k h.length with h' | h'
    · exact h'
    · rw [List.getElem?_eq_none h'] at hk; cases hk
  have old : ∀ {k g : Nat} {b : Blk}, h[k]? = some b → claims β k g b → g < w.heap.size := fun hk hc => (claims_lt (hi.blk _ _ hk) hc).2
  refine ⟨hi'.low, hi'.size, hi'.prom, by simp [hi.len], ?_, ?_, ?_, ?_⟩
  · intro k v hk
    rcases getElem?_snoc hk with h1 | ⟨_, rfl⟩
    · exact hi.one k v h1
    · exact hone
  · intro k b' hk
    rcases getElem?_snoc hk with h1 | ⟨rfl, rfl⟩
    · exact BlkR_snoc u (hi'.blk k b' h1)
    · exact hnew
  · intro k b' g hk hc ad had
    rcases getElem?_snoc hk with h1 | ⟨rfl, rfl⟩
    · exact hi'.free k b' g h1 (claims_snoc (lt h1) hc) ad had
    · cases hp : Ψ ad with
      | none => rfl
      | some v =>
        have := World.block_lt_of_cell? w ad (hi.prom ad v hp).2
        have := hcl g hc
        omega
  · intro j k bj bk g hjk hj hk hcj hck
    rcases getElem?_snoc hj with h1 | ⟨e1, rfl⟩ <;> rcases getElem?_snoc hk with h2 | ⟨e2, rfl⟩
    · exact hi.sep j k bj bk g hjk h1 h2 (claims_snoc (lt h1) hcj) (claims_snoc (lt h2) hck)
    · subst e2
      have := old h1 (claims_snoc (lt h1) hcj)
      have := hcl g hck
      omega
    · subst e1
      have := old h2 (claims_snoc (lt h2) hck)
      have := hcl g hcj
      omega
    · omega

/-- What is shown of an operation that may lay blocks of our own or write them. -/
def EOp (C : Ctx) (B : Nat) (w0 : World) (Ψ : Pr) (w : World) (s : Sem Next) (r : Out) (fs : List (List AV)) (acts : List Act) : Prop :=
  ∃ n v β' w', s.run C.P w = .ok n w' ∧ (n = .value v ∨ (n = .skip ∧ v = undef)) ∧ InvH B w0 Ψ β' (match r.kill with | none => r.heap | some k => subH k .junk r.heap) w' ∧
    RelF Ψ β' (match r.kill with | none => fs | some k => subF k .junk fs) acts ∧ RelV Ψ β' r.v v

theorem alloc_own {cs : List AV} {c : Array Value} (hi : InvH B w0 Ψ β h w) (t : TypeId) (hl : RelL Ψ β cs c.toList) (h1 : ∀ u ∈ c.toList, u.oneCell' = true) :
    InvH B w0 Ψ (β ++ [.pointer (some ⟨w.heap.size, 0, none⟩)]) (h ++ [.cells cs]) (w.alloc (.cells c t)) := by
  have hn : (β ++ [Value.pointer (some ⟨w.heap.size, 0, none⟩)])[h.length]? = some (.pointer (some ⟨w.heap.size, 0, none⟩)) := by
    rw [← hi.len]; simp
  refine hi.push ((Below.refl _ _).alloc (Nat.le_refl _) _) rfl ⟨w.heap.size, c, t, hn, heap_alloc_new w _, hi.size, RelL_mono (PLe.refl _) (snoc_mono _) _ _ hl, h1⟩ ?_
  intro g hc
  simp only [claims] at hc
  rw [hn] at hc
  simp at hc
  omega

theorem alloc_ok {t : TypeId} {r : Out} {fs : List (List AV)} {acts : List Act} (hi : InvH B w0 Ψ β h w) (hf : RelF Ψ β fs acts) (hr : aalloc C h t = some r) :
    EOp C B w0 Ψ w (do pure (.value (← Instr.alloc t true (.tuple #[])))) r fs acts := by
  unfold aalloc at hr
  split at hr
  · rename_i z hz
    obtain ⟨i, v, hii, hiz, rfl⟩ := zero_spec hz
    split at hr
    · rename_i cs hc
      simp at hr
      subst hr
      obtain ⟨hl, h1⟩ := cellsOf'_rel hi.one hc (ofV_rel v)
      refine ⟨.value (.pointer (some ⟨w.heap.size, 0, none⟩)), _, _, w.alloc (.cells v.cells t), ?_, .inl rfl, alloc_own hi t hl h1, RelF_mono (PLe.refl _) (snoc_mono _) _ _ hf, ?_⟩
      · simp [Instr.alloc, zeroValue, typeInfo, hii, hiz, newVar, newRow]
      · rw [hlen_eq]
        exact ⟨w.heap.size, by rw [← hi.len]; simp, rfl⟩
    · cases hr
  · cases hr

theorem box_ok {t : TypeId} {av : AV} {v : Value} {r : Out} {fs : List (List AV)} {acts : List Act} (hi : InvH B w0 Ψ β h w) (hf : RelF Ψ β fs acts) (hx : RelV Ψ β av v) (hr : abox h av = some r) :
    EOp C B w0 Ψ w (do pure (.value (← Instr.box t v))) r fs acts := by
  unfold abox at hr
  split at hr
  · rename_i cs hc
    simp at hr
    subst hr
    obtain ⟨hl, h1⟩ := cellsOf'_rel hi.one hc hx
    refine ⟨.value (.pointer (some ⟨w.heap.size, 0, none⟩)), _, _, w.alloc (.cells v.cells t), ?_, .inl rfl, alloc_own hi t hl h1, RelF_mono (PLe.refl _) (snoc_mono _) _ _ hf, ?_⟩
    · simp [Instr.box, newVar, newRow]
    · rw [hlen_eq]
      exact ⟨w.heap.size, by rw [← hi.len]; simp, rfl⟩
  · cases hr

/-! ### append -/
theorem byteCells_strOf {l : List Int} (hl : ∀ c ∈ l, 0 ≤ c ∧ c ≤ 255) : byteCells (strOf l) = l.map (Value.int .u8) := by
  unfold byteCells
  rw [strOf_toList, List.map_map]
  apply List.map_congr_left
  intro c hc
  have := hl c hc
  simp
  omega

theorem rdL_ints {k : IntKind} : ∀ (l : List Int), (∀ c ∈ l, k.has c) → rdL (reads Ψ (.int k)) l (l.map (Value.int k))
  | [], _ => rfl
  | c :: l, h => ⟨[.int k c], l.map (Value.int k), rfl, ⟨rfl, h c (by simp)⟩, rdL_ints l fun d hd => h d (by simp [hd])⟩

theorem has_u8 {c : Int} (h : 0 ≤ c ∧ c ≤ 255) : IntKind.u8.has c := by
  unfold IntKind.has
  simp [IntKind.min, IntKind.max, IntKind.bits, IntKind.signed]
  omega

theorem tail_src {e : Ty} {ys : List e.den} {tx : TypeId} {y : AV} {v : Value} (hi : InvH B w0 Ψ β h w) (hy : RelV Ψ β y v) (ht : asTail C h e tx y = some ys) :
    ∃ news, Src C.P e.cells tx v ys.length news w ∧ rdL (reads Ψ e) ys news := by
  unfold asTail at ht
  split at ht
  · rename_i u hu
    simp at ht
    subst ht
    have : v = .slice none 0 0 := hy
    subst this
    exact ⟨[], Src.ofNil w hu 0, rfl⟩
  · rename_i l hu
    obtain ⟨he, rfl⟩ := cast?_spec ht
    simp only [Ty.arr.injEq] at he
    subst he
    obtain ⟨rfl, hl, hl'⟩ := rv_str.1 hy
    refine ⟨byteCells (strOf l), ?_, ?_⟩
    · have := Src.ofString w hu (strOf l)
      rw [strOf_size] at this
      exact this
    · rw [byteCells_strOf hl]
      exact rdL_ints l fun c hc => has_u8 (hl c hc)
  · rename_i u x hu hx
    split at ht
    · rename_i e' xs hl
      obtain ⟨he, rfl⟩ := cast?_spec ht
      simp only [Ty.arr.injEq] at he
      subst he
      obtain ⟨ad, cap, rfl, h1, h2, h3⟩ := asList_rel hi hy hl
      rcases h3 with rfl | ⟨cells, g, off, hd, rfl, hc⟩
      · refine ⟨[], ?_, rfl⟩
        cases ad with
        | none => exact Src.ofNil w hu cap
        | some ad => exact Src.ofSlice w hu ad 0 cap [] (by simp) (by simp) (by simp)
      · refine ⟨cells, Src.ofSlice w hu ⟨g, off, none⟩ xs.length cap cells (rdL_len (reads_len e') _ _ hd) (fun j u hj => ?_) (rdL_one (reads_one e') _ _ hd), hd⟩
        rw [Addr.add_lit]
        exact hc j u hj
    · cases ht
  · cases ht

theorem zeroOk_spec {e : Ty} {v : Value} (hz : zeroOk e (ofV v) = true) : v.cells.size = e.cells := by
  unfold zeroOk at hz
  split at hz
  · rename_i l hc
    obtain ⟨hl, _⟩ := cellsOf'_rel (Ψ := fun _ => none) (β := []) (by simp) hc (ofV_rel v)
    have := RelL_len _ _ hl
    rw [← Array.length_toList, this, ← listLen_eq]
    simpa [Nat.beq_eq] using hz
  · cases hz

/-- What the type's row says, for an append. -/
structure AppT (C : Ctx) (t tid : TypeId) (e : Ty) (i : TypeInfo) (z : Value) : Prop where
  ht : C.P.underlying t = some (.slice tid)
  hi : C.P.info? tid = some i
  hz : i.zero = some z
  hs : i.size = e.cells
  hc : z.cells.size = e.cells

/-- The row of a slice that had to be laid anew. -/
def newRowOf (w : World) (n cap0 : Nat) (tid : TypeId) (z : Value) (vs : List Value) : Array Value :=
  vs.toArray ++ Builtin.zeroCells z.cells (grownCap w n cap0 tid - n)

theorem append_new {t tx ty tid : TypeId} {e : Ty} {i : TypeInfo} {z : Value} (hT : AppT C t tid e i z) (base : Option Addr) (n cap0 : Nat) (olds : List Value) (hol : olds.length = n * e.cells)
    (hold : (Builtin.firstCells e.cells n (.slice base n cap0)).run C.P w.drew = .ok olds.toArray w.drew) {x : Value} {m : Nat} {news : List Value} (hs : Src C.P e.cells tx x m news w)
    (hg : cap0 < n + m) (hroom : roomP C tid (n + m)) :
    (Builtin.append_ #[t, tx] ty #[.slice base n cap0, x]).run C.P w =
      .ok (.slice (some ⟨w.heap.size, 0, none⟩) (n + m) (grownCap w (n + m) cap0 tid)) (w.drew.alloc (.cells (newRowOf w (n + m) cap0 tid z (olds ++ news)) tid)) ∧
    n + m ≤ grownCap w (n + m) cap0 tid ∧ grownCap w (n + m) cap0 tid ≤ maxLen ∧ (newRowOf w (n + m) cap0 tid z (olds ++ news)).size = grownCap w (n + m) cap0 tid * e.cells ∧
    (newRowOf w (n + m) cap0 tid z (olds ++ news)).toList.take ((n + m) * e.cells) = olds ++ news := by
  obtain ⟨h1, h2⟩ := hroom
  have hb : C.P.bytesOf tid = i.bytes := by simp [Program.bytesOf, hT.hi]
  rw [hb] at h1
  have hlen : (olds ++ news).length = (n + m) * e.cells := by rw [List.length_append, hol, hs.newsLen, Nat.add_mul]
  have hge := grownCap_ge w (n + m) cap0 tid
  have hle := grownCap_le_maxLen w (n + m) cap0 tid (by simp only [maxLen]; omega)
  refine ⟨?_, hge, hle, ?_, ?_⟩
  · exact run_append_grow_src w t tx ty tid i z hT.ht hT.hi hT.hz base n cap0 olds (by rw [hT.hs]; exact hold) x m news (by rw [hT.hs]; exact hs) hg (by omega) (growslice_fits hg h1)
  · simp only [newRowOf, Array.size_append, List.size_toArray, size_zeroCells, hT.hc, hlen, ← Nat.add_mul]
    congr 1
    omega
  · simp only [newRowOf, Array.toList_append]
    rw [← hlen]
    exact List.take_left

theorem grownCap_pos {w : World} {n cap0 : Nat} {tid : TypeId} (h : 0 < n) : grownCap w n cap0 tid ≠ 0 := by
  have := grownCap_ge w n cap0 tid
  omega

theorem below_new (w : World) (o : Obj) : Below w.heap.size w (w.drew.alloc o) := ((Below.refl _ w).drew).alloc (Nat.le_refl _) o

/-- The new row is a slice of our own. -/
theorem blk_new {e : Ty} {xs : List e.den} {tid : TypeId} {z : Value} {k n cap0 : Nat} {vs : List Value} (hB : B ≤ w.heap.size) (hn : xs.length = n) (h0 : 0 < n)
    (hge : n ≤ grownCap w n cap0 tid) (hle : grownCap w n cap0 tid ≤ maxLen) (hsz : (newRowOf w n cap0 tid z vs).size = grownCap w n cap0 tid * e.cells) (htk : (newRowOf w n cap0 tid z vs).toList.take (n * e.cells) = vs)
    (hd : rdL (reads Ψ e) xs vs) (hβ : β[k]? = some (.slice (some ⟨w.heap.size, 0, none⟩) n (grownCap w n cap0 tid))) :
    BlkR B Ψ β (w.drew.alloc (.cells (newRowOf w n cap0 tid z vs) tid)) k (.grow tid e xs) := by
  subst hn
  exact .inr ⟨w.heap.size, _, _, hβ, grownCap_pos h0, hB, heap_alloc_new w.drew _, hge, hle, hsz, by rw [htk]; exact hd⟩

/-- append to an empty slice whose capacity is 0. -/
theorem append_empty {t tx ty tid : TypeId} {e : Ty} {i : TypeInfo} {z : Value} (hT : AppT C t tid e i z) (base : Option Addr) {x : Value} {ys : List e.den} {news : List Value} (hs : Src C.P e.cells tx x ys.length news w)
    (hd : rdL (reads Ψ e) ys news) (hB : B ≤ w.heap.size) (hroom : roomP C tid ys.length) :
    ∃ u w', (Builtin.append_ #[t, tx] ty #[.slice base 0 0, x]).run C.P w = .ok u w' ∧ Below w.heap.size w w' ∧ u.oneCell' = true ∧
      (∀ (β' : List Value) (k : Nat), β'[k]? = some u → BlkR B Ψ β' w' k (.grow tid e ys)) ∧ (∀ (β' : List Value) (k g : Nat), β'[k]? = some u → claims β' k g (.grow tid e ys) → w.heap.size ≤ g) := by
  by_cases h0 : ys.length = 0
  · have hys : ys = [] := List.eq_nil_of_length_eq_zero h0
    subst hys
    have hnews : news = [] := List.eq_nil_of_length_eq_zero (by simpa using hs.newsLen)
    subst hnews
    refine ⟨.slice base 0 0, w, ?_, Below.refl _ _, rfl, fun β' k hk => .inl ⟨base, hk, rfl⟩, fun β' k g hk hc => ?_⟩
    · have hcells := hs.cells
      rw [← hT.hs] at hcells
      simp only [List.length_nil] at hcells
      rcases hs.kind with ⟨e', hk⟩ | hk <;> cases base <;> simp [Builtin.append_, run_underlying hT.ht, run_underlying hk, sizeOf, typeInfo, hT.hi, hs.len, hcells, storeCells]
    · obtain ⟨n, cap, hz, hc⟩ := hc
      rw [hk] at hc
      simp at hc
      omega
  · have hn := append_new (ty := ty) hT base 0 0 [] (by simp) (by
      cases base <;> simp [Builtin.firstCells, loadCells, loadCellsFrom]) hs (by omega) (by rw [Nat.zero_add]; exact hroom)
    simp only [Nat.zero_add, List.nil_append] at hn
    obtain ⟨hrun, hge, hle, hsz, htk⟩ := hn
    refine ⟨_, _, hrun, below_new w _, rfl, fun β' k hk => blk_new hB rfl (by omega) hge hle hsz htk hd hk, fun β' k g hk hc => ?_⟩
    obtain ⟨n, cap, hz, hc⟩ := hc
    rw [hk] at hc
    simp at hc
    omega

/-- append to an own row that is not empty or has room. -/
theorem append_row {t tx ty tid : TypeId} {e : Ty} {i : TypeInfo} {z : Value} (hT : AppT C t tid e i z) {g cap : Nat} {cur : Array Value} {xs : List e.den} (hz : cap ≠ 0) (hBg : B ≤ g) (hh : w.heap[g]? = some (.cells cur tid (0, 0)))
    (_hn : xs.length ≤ cap) (hcm : cap ≤ maxLen) (hcs : cur.size = cap * e.cells) (hdx : rdL (reads Ψ e) xs (cur.toList.take (xs.length * e.cells))) {x : Value} {ys : List e.den} {news : List Value} (hs : Src C.P e.cells tx x ys.length news w)
    (hd : rdL (reads Ψ e) ys news) (hB : B ≤ w.heap.size) (hroom : roomP C tid (xs.length + ys.length)) :
    ∃ u w', (Builtin.append_ #[t, tx] ty #[.slice (some ⟨g, 0, none⟩) xs.length cap, x]).run C.P w = .ok u w' ∧ w.grownBy w' (some g) ∧ u.oneCell' = true ∧
      (∀ (β' : List Value) (k : Nat), β'[k]? = some u → BlkR B Ψ β' w' k (.grow tid e (xs ++ ys))) ∧ (∀ (β' : List Value) (k g' : Nat), β'[k]? = some u → claims β' k g' (.grow tid e (xs ++ ys)) → g' = g ∨ w.heap.size ≤ g') := by
  have hlx : (cur.toList.take (xs.length * e.cells)).length = xs.length * e.cells := rdL_len (reads_len e) _ _ hdx
  by_cases hr : xs.length + ys.length ≤ cap
  · -- in place
    have hfit : 0 + xs.length * e.cells + news.length ≤ cur.size := by
      rw [hs.newsLen, hcs, Nat.zero_add, ← Nat.add_mul]
      exact Nat.mul_le_mul_right _ hr
    have hst := run_storeCells_at C.P g (xs.length * e.cells) tid news 0 cur w hh (by simp only [Nat.add_zero]; omega) hs.one
    simp only [Nat.add_zero] at hst
    have hcells := hs.cells
    refine ⟨.slice (some ⟨g, 0, none⟩) (xs.length + ys.length) cap, w.setRow g (cur.toList.take (xs.length * e.cells) ++ news ++ cur.toList.drop (xs.length * e.cells + news.length)).toArray, ?_,
      ⟨rfl, rfl, rfl, by simp, fun k _ hk => setRow_other w g k _ (fun e => hk (by simp [e]))⟩, rfl, fun β' k hk => ?_, fun β' k g' hk hc => ?_⟩
    · rw [← hT.hs] at hst hcells
      rw [← hT.hs]
      rcases hs.kind with ⟨e', hk⟩ | hk <;> simp [Builtin.append_, run_underlying hT.ht, run_underlying hk, sizeOf, typeInfo, hT.hi, hs.len, hr, hcells, Addr.add_lit, hst]
    · refine .inr ⟨g, cap, _, by rw [hk]; simp, hz, hBg, setRow_heap w g cur _ tid _ hh, by simpa using hr, hcm, ?_, ?_⟩
      · simp only [List.size_toArray, List.length_append, hlx, List.length_drop, Array.length_toList]
        omega
      · simp only [List.length_append]
        have e1 : (xs.length + ys.length) * e.cells = (cur.toList.take (xs.length * e.cells) ++ news).length + 0 := by
          rw [List.length_append, hlx, hs.newsLen, Nat.add_mul, Nat.add_zero]
        rw [e1, take_len_add]
        simp only [List.take_zero, List.append_nil]
        exact rdL_append _ _ _ _ hdx hd
    · left
      obtain ⟨n, cap', hz', hc⟩ := hc
      rw [hk] at hc
      simp at hc
      exact hc.1.symm
  · -- a new row
    have hold : (Builtin.firstCells e.cells xs.length (.slice (some ⟨g, 0, none⟩) xs.length cap)).run C.P w.drew = .ok (cur.toList.take (xs.length * e.cells)).toArray w.drew := by
      refine run_firstCells_some (P := C.P) w.drew e.cells xs.length ⟨g, 0, none⟩ xs.length cap _ hlx (fun j v hj => ?_)
      rw [Addr.add_lit, World.cell?_drew, cell_of_heap hh, Nat.zero_add]
      rw [List.getElem?_take] at hj
      split at hj
      · simpa using hj
      · cases hj
    obtain ⟨hrun, hge, hle, hsz, htk⟩ := append_new (ty := ty) hT (some ⟨g, 0, none⟩) xs.length cap _ hlx hold hs (by omega) hroom
    refine ⟨_, _, hrun, ⟨rfl, rfl, rfl, by simp, fun k hk _ => Below.heap_alloc w.drew _ k hk⟩, rfl, fun β' k hk => ?_, fun β' k g' hk hc => ?_⟩
    · exact blk_new hB (by simp) (by omega) hge hle hsz htk (rdL_append _ _ _ _ hdx hd) hk
    · right
      obtain ⟨n, cap', hz', hc⟩ := hc
      rw [hk] at hc
      simp at hc
      omega

theorem subH_get (k : Nat) (r : AV) : ∀ (h : List Blk) (j : Nat) (b : Blk), (subH k r h)[j]? = some b → ∃ b', h[j]? = some b' ∧ b = (match b' with | .cells cs => .cells (subL k r cs) | b' => b')
  | [], j, b, hj => by simp [subH] at hj
  | b0 :: h, 0, b, hj => by
    refine ⟨b0, rfl, ?_⟩
    cases b0 <;> simp [subH] at hj <;> exact hj.symm
  | b0 :: h, j + 1, b, hj => by
    have : (subH k r (b0 :: h))[j + 1]? = (subH k r h)[j]? := by cases b0 <;> simp [subH]
    rw [this] at hj
    simpa using subH_get k r h j b hj

theorem subH_len (k : Nat) (r : AV) : ∀ h : List Blk, (subH k r h).length = h.length
  | [] => rfl
  | b :: h => by cases b <;> simp [subH, subH_len k r h]

theorem subF_rel {Ψ' : Pr} {β' : List Value} (k : Nat) (r : AV) (hle : PLe Ψ Ψ') (hr : ∀ v : Value, β[k]? = some v → RelV Ψ' β' r v) (hb : ∀ (j : Nat) (v : Value), j ≠ k → β[j]? = some v → β'[j]? = some v)
    (hp : ∀ g : Nat, β[k]? = some (.pointer (some ⟨g, 0, none⟩)) → β'[k]? = some (.pointer (some ⟨g, 0, none⟩))) : ∀ (fs : List (List AV)) (as : List Act), RelF Ψ β fs as → RelF Ψ' β' (subF k r fs) as
  | [], _, h => h
  | _ :: fs, _, ⟨a, as', e, ⟨h1, h2⟩, h3⟩ => ⟨a, as', e, ⟨h1, subL_rel k r hle hr hb hp _ _ h2⟩, subF_rel k r hle hr hb hp fs as' h3⟩

theorem grow_not_ptr {k : Nat} {tid : TypeId} {e : Ty} {xs : List e.den} {g : Nat} (hb : BlkR B Ψ β w k (.grow tid e xs)) : β[k]? ≠ some (.pointer (some ⟨g, 0, none⟩)) := by
  rcases hb with ⟨ad, h1, _⟩ | ⟨g', cap, cur, h1, _⟩ <;> rw [h1] <;> simp

theorem set_get_ne {l : List Value} {k j : Nat} {u v : Value} (hj : j ≠ k) (h : l[j]? = some v) : (l.set k u)[j]? = some v := by
  rw [List.getElem?_set_ne (Ne.symm hj)]; exact h

/-- An own slice has another content, perhaps in another row; its name's copies are forgotten. -/
theorem InvH.regrow {k : Nat} {tid : TypeId} {e : Ty} {xs ys : List e.den} {u : Value} {row : Option Nat} (hi : InvH B w0 Ψ β h w) (hk : h[k]? = some (.grow tid e xs)) (hg : w.grownBy w' row)
    (hrow : ∀ g, row = some g → claims β k g (.grow tid e xs)) (hone : u.oneCell' = true) (hnew : BlkR B Ψ (β.set k u) w' k (.grow tid e ys)) (hcl : ∀ g, claims (β.set k u) k g (.grow tid e ys) → row = some g ∨ w.heap.size ≤ g) :
    InvH B w0 Ψ (β.set k u) (subH k .junk (h.set k (.grow tid e ys))) w' := by
  have hkl : k < h.length := by
    rcases Nat.lt_or_ge k h.length with h' | h'
    · exact h'
    · rw [List.getElem?_eq_none h'] at hk; cases hk
  have hB := hi.blk k _ hk
  have hrowB : ∀ g, row = some g → B ≤ g := fun g hg' => (claims_lt hB (hrow g hg')).1
  have notrow : ∀ {g : Nat}, (∀ j b, j ≠ k → h[j]? = some b → claims β j g b → row ≠ some g) := fun {g} j b hjk hj hc e => hi.sep j k b _ g hjk hj hk hc (hrow g e)
  have prom : ∀ ad v, Ψ ad = some v → ad.spot = none ∧ w'.cell? ad = some v := fun ad v hv => by
    obtain ⟨h1, h2⟩ := hi.prom ad v hv
    refine ⟨h1, hg.cell h2 ?_⟩
    intro e
    rw [hi.free k _ ad.block hk (hrow _ e.symm) ad rfl] at hv
    cases hv
  have blkOther : ∀ j b, j ≠ k → h[j]? = some b → BlkR B Ψ (β.set k u) w' j (match b with | .cells cs => .cells (subL k .junk cs) | b' => b') := by
    intro j b hjk hj
    have hb := hi.blk j b hj
    cases b with
    | gone => trivial
    | cells cs =>
      obtain ⟨g, c, e', h1, h2, h3, h4, h5⟩ := hb
      refine ⟨g, c, e', set_get_ne hjk h1, (hg.block g (heap_lt h2) (fun e => notrow j _ hjk hj h1 e.symm)).trans h2, h3, ?_, h5⟩
      exact subL_rel k .junk (PLe.refl _) (fun _ _ => trivial) (fun i v hik hv => set_get_ne hik hv) (fun g hp => absurd hp (grow_not_ptr hB)) _ _ h4
    | grow tid' e' xs' =>
      rcases hb with ⟨ad, h1, h2⟩ | ⟨g, cap, cur, h1, h2, h3, h4, h5⟩
      · exact .inl ⟨ad, set_get_ne hjk h1, h2⟩
      · exact .inr ⟨g, cap, cur, set_get_ne hjk h1, h2, h3, (hg.block g (heap_lt h4) (fun e => notrow j _ hjk hj ⟨_, _, h2, h1⟩ e.symm)).trans h4, h5⟩
    | kmap es =>
      obtain ⟨g, ms, cl, h1, h2, h3, h4⟩ := hb
      exact ⟨g, ms, cl, set_get_ne hjk h1, (hg.block g (heap_lt h2) (fun e => notrow j _ hjk hj h1 e.symm)).trans h2, h3, h4⟩
  have claimsOther : ∀ {j g : Nat} {b : Blk}, j ≠ k → claims (β.set k u) j g (match b with | .cells cs => .cells (subL k .junk cs) | b' => b') → claims β j g b := by
    intro j g b hjk hc
    cases b with
    | gone => exact hc
    | cells cs => simp only [claims] at *; rwa [List.getElem?_set_ne (Ne.symm hjk)] at hc
    | grow tid' e' xs' => obtain ⟨n, cap, h1, h2⟩ := hc; rw [List.getElem?_set_ne (Ne.symm hjk)] at h2; exact ⟨n, cap, h1, h2⟩
    | kmap es => simp only [claims] at *; rwa [List.getElem?_set_ne (Ne.symm hjk)] at hc
  have at_k : ∀ {b : Blk}, (subH k .junk (h.set k (.grow tid e ys)))[k]? = some b → b = .grow tid e ys := by
    intro b hb
    obtain ⟨b', h1, h2⟩ := subH_get _ _ _ _ _ hb
    rw [List.getElem?_set_self (by simpa using hkl)] at h1
    simp at h1
    subst h1
    exact h2
  have at_j : ∀ {j : Nat} {b : Blk}, j ≠ k → (subH k .junk (h.set k (.grow tid e ys)))[j]? = some b → ∃ b', h[j]? = some b' ∧ b = (match b' with | .cells cs => .cells (subL k .junk cs) | b' => b') := by
    intro j b hjk hb
    obtain ⟨b', h1, h2⟩ := subH_get _ _ _ _ _ hb
    rw [List.getElem?_set_ne (Ne.symm hjk)] at h1
    exact ⟨b', h1, h2⟩
  refine ⟨?_, Nat.le_trans hi.size hg.size, prom, by rw [subH_len]; simp [hi.len], ?_, ?_, ?_, ?_⟩
  · exact hi.low.grown hg hi.size hrowB
  · intro j v hj
    by_cases hjk : j = k
    · subst hjk
      rw [List.getElem?_set_self (by rw [hi.len]; exact hkl)] at hj
      simp at hj
      subst hj
      exact hone
    · rw [List.getElem?_set_ne (Ne.symm hjk)] at hj
      exact hi.one j v hj
  · intro j b hb
    by_cases hjk : j = k
    · subst hjk
      rw [at_k hb]
      exact hnew
    · obtain ⟨b', h1, rfl⟩ := at_j hjk hb
      exact blkOther j b' hjk h1
  · intro j b g hb hc ad had
    by_cases hjk : j = k
    · subst hjk
      rw [at_k hb] at hc
      rcases hcl g hc with e1 | e1
      · exact hi.free j _ g hk (hrow g e1) ad had
      · cases hp : Ψ ad with
        | none => rfl
        | some v =>
          have := World.block_lt_of_cell? w ad (hi.prom ad v hp).2
          omega
    · obtain ⟨b', h1, rfl⟩ := at_j hjk hb
      exact hi.free j b' g h1 (claimsOther hjk hc) ad had
  · have mixed : ∀ {j g : Nat} {b bk : Blk}, j ≠ k → (subH k .junk (h.set k (.grow tid e ys)))[j]? = some b → (subH k .junk (h.set k (.grow tid e ys)))[k]? = some bk → claims (β.set k u) j g b → claims (β.set k u) k g bk → False := by
      intro j g b bk hjk hb hbk hc hck
      rw [at_k hbk] at hck
      obtain ⟨b', h1, rfl⟩ := at_j hjk hb
      have hc' := claimsOther hjk hc
      rcases hcl g hck with e1 | e1
      · exact notrow j b' hjk h1 hc' e1
      · have := (claims_lt (hi.blk j b' h1) hc').2
        omega
    intro i j bi bj g hij hbi hbj hci hcj
    by_cases hik : i = k
    · subst hik
      exact mixed (Ne.symm hij) hbj hbi hcj hci
    · by_cases hjk : j = k
      · subst hjk
        exact mixed hij hbi hbj hci hcj
      · obtain ⟨bi', h1, rfl⟩ := at_j hik hbi
        obtain ⟨bj', h2, rfl⟩ := at_j hjk hbj
        exact hi.sep i j bi' bj' g hij h1 h2 (claimsOther hik hci) (claimsOther hjk hcj)

theorem grownBy_none {w w' : World} (hg : w.grownBy w' none) : Below w.heap.size w w' := ⟨hg.os, hg.tape, hg.output, hg.size, fun k hk => hg.block k hk (by simp)⟩

theorem elem_spec {t tid : TypeId} (he : elemOf C t = some tid) : C.P.underlying t = some (.slice tid) := underlying_slice he

theorem appT {t tid : TypeId} {sz : Nat} {z : AV} {e : Ty} (he : elemOf C t = some tid) (hs : C.size tid = some sz) (hz : C.zero tid = some z) (hsz : e.cells = sz) (hzo : zeroOk e z = true) : ∃ i v, AppT C t tid e i v := by
  obtain ⟨i, v, hi, hiz, rfl⟩ := zero_spec hz
  obtain ⟨i', hi', hsi⟩ := size_of hs
  rw [hi] at hi'
  simp at hi'
  subst hi'
  exact ⟨i, v, underlying_slice he, hi, hiz, by omega, zeroOk_spec hzo⟩

theorem append_ok {t tx ty : TypeId} {x y : AV} {u v : Value} {r : Out} {fs : List (List AV)} {acts : List Act} (hi : InvH B w0 Ψ β h w) (hf : RelF Ψ β fs acts) (hx : RelV Ψ β x u) (hy : RelV Ψ β y v)
    (hr : aappend C h t tx x y = some r) (hp : ∀ p, r.need = some p → p) :
    EOp C B w0 Ψ w (do pure (.value (← Builtin.append_ #[t, tx] ty #[u, v]))) r fs acts := by
  unfold aappend at hr
  split at hr
  · cases hr
  · rename_i tid he
    split at hr
    · rename_i sz z hsz hz
      unfold aappendTo at hr
      -- a new own slice at the heap's end
      have fresh : ∀ {e : Ty} {ys : List e.den} {u' : Value} {w' : World}, (Builtin.append_ #[t, tx] ty #[u, v]).run C.P w = .ok u' w' → Below w.heap.size w w' → u'.oneCell' = true →
          (∀ (β' : List Value) (k : Nat), β'[k]? = some u' → BlkR B Ψ β' w' k (.grow tid e ys)) → (∀ (β' : List Value) (k g : Nat), β'[k]? = some u' → claims β' k g (.grow tid e ys) → w.heap.size ≤ g) →
          ∀ p, EOp C B w0 Ψ w (do pure (.value (← Builtin.append_ #[t, tx] ty #[u, v]))) ⟨p, .sl (hlen h), h ++ [.grow tid e ys], none⟩ fs acts := by
        intro e ys u' w' hrun hb hone hblk hcl p
        have hn : (β ++ [u'])[h.length]? = some u' := by rw [← hi.len]; simp
        refine ⟨.value u', u', β ++ [u'], w', by simp [hrun], .inl rfl, hi.push hb hone (hblk _ _ hn) (fun g hc => hcl _ _ g hn hc), RelF_mono (PLe.refl _) (snoc_mono _) _ _ hf, ?_⟩
        show (β ++ [u'])[hlen h]? = some u'
        rw [hlen_eq]
        exact hn
      split at hr
      · -- nil
        split at hr
        · cases hr
        · rename_i e hty
          split at hr
          · rename_i ys hys
            split at hr
            · rename_i hc
              simp only [Bool.and_eq_true, Nat.beq_eq] at hc
              simp at hr
              subst hr
              have hu : u = .slice none 0 0 := hx
              subst hu
              obtain ⟨i, zv, hT⟩ := appT he hsz hz hc.1 hc.2
              obtain ⟨news, hs, hd⟩ := tail_src hi hy hys
              obtain ⟨u', w', hrun, hb, hone, hblk, hcl⟩ := append_empty (ty := ty) hT none hs hd hi.size (hp _ rfl)
              exact fresh hrun hb hone hblk hcl _
            · cases hr
          · cases hr
      · -- our own
        rename_i k
        split at hr
        · rename_i tid' e xs hg
          split at hr
          · rename_i ys hys
            split at hr
            · rename_i hc
              simp only [Bool.and_eq_true, Nat.beq_eq] at hc
              obtain ⟨⟨rfl, hc1⟩, hc2⟩ := hc
              simp at hr
              subst hr
              have hβ : β[k]? = some u := hx
              have hhk := hget_some hg (by simp)
              have hkl : k < β.length := by
                rcases Nat.lt_or_ge k β.length with h' | h'
                · exact h'
                · rw [List.getElem?_eq_none h'] at hβ; cases hβ
              obtain ⟨i, zv, hT⟩ := appT he hsz hz hc1 hc2
              obtain ⟨news, hs, hd⟩ := tail_src hi hy hys
              have done : ∀ {u' : Value} {w' : World} {row : Option Nat}, (Builtin.append_ #[t, tx] ty #[u, v]).run C.P w = .ok u' w' → w.grownBy w' row → (∀ g, row = some g → claims β k g (.grow tid e xs)) → u'.oneCell' = true →
                  (∀ (β' : List Value) (k : Nat), β'[k]? = some u' → BlkR B Ψ β' w' k (.grow tid e (xs ++ ys))) → (∀ (β' : List Value) (k g : Nat), β'[k]? = some u' → claims β' k g (.grow tid e (xs ++ ys)) → row = some g ∨ w.heap.size ≤ g) →
                  EOp C B w0 Ψ w (do pure (.value (← Builtin.append_ #[t, tx] ty #[u, v]))) ⟨some (roomP C tid (xs.length + ys.length)), .sl k, hset h k (.grow tid e (xs ++ ys)), some k⟩ fs acts := by
                intro u' w' row hrun hgb hrow hone hblk hcl
                have hn : (β.set k u')[k]? = some u' := by rw [List.getElem?_set_self hkl]
                refine ⟨.value u', u', β.set k u', w', by simp [hrun], .inl rfl, ?_, ?_, hn⟩
                · simp only [hset_eq]
                  exact hi.regrow hhk hgb hrow hone (hblk _ _ hn) (fun g hc => hcl _ _ g hn hc)
                · exact subF_rel k .junk (PLe.refl _) (fun _ _ => trivial) (fun j v hjk hv => set_get_ne hjk hv) (fun g hp => absurd hp (grow_not_ptr (hi.blk k _ hhk))) _ _ hf
              rcases hi.blk k _ hhk with ⟨ad, hb1, rfl⟩ | ⟨g, cap, cur, hb1, hz', hB, hh, hn, hcm, hcs, hdx⟩
              · rw [hβ] at hb1
                simp at hb1
                subst hb1
                have hroom := hp _ rfl
                simp only [List.length_nil, Nat.zero_add] at hroom
                obtain ⟨u', w', hrun, hb, hone, hblk, hcl⟩ := append_empty (ty := ty) hT ad hs hd hi.size hroom
                exact done (row := none) hrun ⟨hb.os, hb.tape, hb.output, hb.size, fun k hk _ => hb.block k hk⟩ (by simp) hone (by simpa using hblk) (fun β' k g hk hc => .inr (hcl β' k g hk (by simpa using hc)))
              · rw [hβ] at hb1
                simp at hb1
                subst hb1
                obtain ⟨u', w', hrun, hgb, hone, hblk, hcl⟩ := append_row (ty := ty) hT hz' hB hh hn hcm hcs hdx hs hd hi.size (hp _ rfl)
                exact done hrun hgb (fun g' e => by cases e; exact ⟨_, _, hz', hβ⟩) hone hblk (fun β' k g' hk hc => (hcl β' k g' hk hc).imp (fun e => by rw [e]) id)
            · cases hr
          · cases hr
        · cases hr
      · -- a read-only slice of full capacity
        rename_i e xs
        split at hr
        · rename_i ys hys
          split at hr
          · rename_i hc
            simp only [Bool.and_eq_true, Nat.beq_eq] at hc
            obtain ⟨i, zv, hT⟩ := appT he hsz hz hc.1 hc.2
            obtain ⟨news, hs, hd⟩ := tail_src hi hy hys
            obtain ⟨ad, rfl, hrv⟩ := hx
            have more : ∀ (x0 : e.den) (xs0 : List e.den) (y0 : e.den) (ys0 : List e.den), xs = x0 :: xs0 → ys = y0 :: ys0 → roomP C tid ((x0 :: xs0).length + (y0 :: ys0).length) → ∀ p,
                EOp C B w0 Ψ w (do pure (.value (← Builtin.append_ #[t, tx] ty #[.slice ad xs.length xs.length, v]))) ⟨p, .sl (hlen h), h ++ [.grow tid e (x0 :: xs0 ++ y0 :: ys0)], none⟩ fs acts := by
              intro x0 xs0 y0 ys0 ex ey hroom p
              subst ex ey
              obtain ⟨ad', cap, e1, h1, h2, h3⟩ := rv_arr (β := β).1 hrv
              simp at e1
              obtain ⟨rfl, rfl⟩ := e1
              rcases h3 with h3 | ⟨cells, hdx, g, off, rfl, hc'⟩
              · cases h3
              · have hlx := rdL_len (reads_len e) _ _ hdx
                have hold : (Builtin.firstCells e.cells (x0 :: xs0).length (.slice (some ⟨g, off, none⟩) (x0 :: xs0).length (x0 :: xs0).length)).run C.P w.drew = .ok cells.toArray w.drew := by
                  refine run_firstCells_some (P := C.P) w.drew e.cells _ ⟨g, off, none⟩ _ _ _ hlx (fun j v hj => ?_)
                  rw [Addr.add_lit, World.cell?_drew]
                  exact (hi.prom _ _ (hc' j v hj)).2
                obtain ⟨hrun, hge, hle, hsz', htk⟩ := append_new (ty := ty) hT (some ⟨g, off, none⟩) (x0 :: xs0).length (x0 :: xs0).length _ hlx hold hs (by simp) hroom
                refine fresh (e := e) (ys := x0 :: xs0 ++ y0 :: ys0) hrun (below_new w _) rfl (fun β' k hk => ?_) (fun β' k g' hk hc => ?_) p
                · exact blk_new hi.size List.length_append (Nat.add_pos_left (Nat.succ_pos _) _) hge hle hsz' htk (rdL_append _ _ _ _ hdx hd) hk
                · obtain ⟨n, cap', hz', hc⟩ := hc
                  rw [hk] at hc
                  simp at hc
                  omega
            cases htf : C.tailFirst with
            | true =>
              rw [htf] at hr
              simp only [cond_true] at hr
              split at hr
              · simp only [Option.some.injEq] at hr
                subst hr
                have hnl : news = [] := List.eq_nil_of_length_eq_zero (by rw [hs.newsLen]; simp)
                subst hnl
                have hcells := hs.cells
                have hl0 := hs.len
                refine ⟨.value (.slice ad xs.length xs.length), _, β, w, ?_, .inl rfl, hi, hf, ⟨ad, rfl, hrv⟩⟩
                rw [← hT.hs] at hcells
                have hcells : (Builtin.firstCells i.size 0 v).run C.P w = .ok #[] w := hcells
                rcases hs.kind with ⟨e', hk⟩ | hk <;> cases ad <;> simp [Builtin.append_, run_underlying hT.ht, run_underlying hk, sizeOf, typeInfo, hT.hi, hl0, hcells, storeCells]
              · rename_i y0 ys0
                simp only [Option.some.injEq] at hr
                subst hr
                have hroom := hp _ rfl
                cases xs with
                | nil =>
                  obtain ⟨u', w', hrun, hb, hone, hblk, hcl⟩ := append_empty (ty := ty) hT ad hs hd hi.size (by simpa using hroom)
                  exact fresh hrun hb hone hblk hcl _
                | cons x0 xs0 => exact more x0 xs0 y0 ys0 rfl rfl hroom _
            | false =>
              rw [htf] at hr
              simp only [cond_false] at hr
              split at hr
              · simp at hr
                subst hr
                obtain ⟨u', w', hrun, hb, hone, hblk, hcl⟩ := append_empty (ty := ty) hT ad hs hd hi.size (hp _ rfl)
                exact fresh hrun hb hone hblk hcl _
              · rename_i x0 xs0 y0 ys0
                simp at hr
                subst hr
                exact more x0 xs0 y0 ys0 rfl rfl (hp _ rfl) _
              · cases hr
          · cases hr
        · cases hr
      · cases hr
    · cases hr

end Go.AM
