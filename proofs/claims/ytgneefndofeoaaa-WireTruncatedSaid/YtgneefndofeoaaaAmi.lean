import Derived.Test.YtgneefndofeoaaaAmh
import Derived.MapKept
namespace Go.AM
set_option linter.unusedVariables false
open Go.RowKit Go.MapKept

variable {B : Nat} {w0 : World} {C : Ctx} {Ψ : Pr} {β : List Value} {h : List Blk} {w w' : World} {fr : List AV} {a : Act} {As : List Act}

theorem then_skip {s : Sem Unit} (hr : s.run C.P w = .ok () w') : (do s; pure .skip : Sem Next).run C.P w = .ok .skip w' := by simp [hr]
theorem then_value {s : Sem Value} {v : Value} (hr : s.run C.P w = .ok v w') : (do pure (.value (← s)) : Sem Next).run C.P w = .ok (.value v) w' := by simp [hr]

/-! ### make -/
theorem flat_get {c : List Value} {n : Nat} : ∀ (m j : Nat), c.length = n → j < m * n → ((List.replicate m c).flatten)[j]? = c[j % n]?
  | 0, j, _, hj => by simp at hj
  | m + 1, j, hc, hj => by
    rw [List.replicate_succ, List.flatten_cons]
    rcases Nat.lt_or_ge j n with h | h
    · rw [List.getElem?_append_left (by omega), Nat.mod_eq_of_lt h]
    · rw [List.getElem?_append_right (by omega), hc, flat_get m (j - n) hc (by rw [Nat.succ_mul] at hj; omega), Nat.mod_eq_sub_mod h]

theorem made_eq (z : Array Value) (m : Nat) (n : Nat) (hn : z.size = n) : (madeCells z (m * n)).toList = (List.replicate m z.toList).flatten := by
  apply List.ext_getElem?
  intro j
  rcases Nat.lt_or_ge j (m * n) with h | h
  · rw [flat_get m j (by simpa using hn) h]
    have hpos : 0 < n := by
      rcases Nat.eq_zero_or_pos n with h0 | h0
      · subst h0; omega
      · exact h0
    have hlt : j % n < z.size := by rw [hn]; exact Nat.mod_lt _ hpos
    simp only [madeCells, Array.getElem?_toList, Array.getElem?_map, Array.getElem?_range, h, if_true, Option.map_some, hn]
    rw [Array.getElem?_eq_getElem hlt, getElem!_pos z (j % n) hlt]
  · rw [List.getElem?_eq_none (by rw [Array.length_toList, size_madeCells]; exact h), List.getElem?_eq_none (by simp [hn]; exact h)]

theorem make_ok {t : TypeId} {x y : AV} {u v : Value} {r : Out} {fs : List (List AV)} {acts : List Act} (hi : InvH B w0 Ψ β h w) (hf : RelF Ψ β fs acts) (hx : RelV Ψ β x u) (hy : RelV Ψ β y v)
    (hr : amake C h t x y = some r) (hp : ∀ p, r.need = some p → p) : EOp C B w0 Ψ w (do pure (.value (← Instr.makeSlice t u v))) r fs acts := by
  unfold amake at hr
  split at hr
  · rename_i tid he
    split at hr
    · rename_i e sz z n0 m0 hty hsz hz
      obtain ⟨n, rfl⟩ : ∃ n : Int, n = n0 := ⟨n0, rfl⟩
      obtain ⟨m, rfl⟩ : ∃ m : Int, m = m0 := ⟨m0, rfl⟩
      split at hr
      · rename_i hc
        simp only [Bool.and_eq_true, Nat.beq_eq] at hc
        split at hr
        · rename_i x0 hx0
          simp at hr
          subst hr
          obtain ⟨hn0, hnm, hb1, hb2⟩ : (0 : Int) ≤ n ∧ n ≤ m ∧ m.toNat * C.P.bytesOf tid ≤ 140737488355328 ∧ m.toNat ≤ 9223372036854775807 := hp _ rfl
          obtain ⟨rfl, hnk⟩ := rv_int.1 hx
          obtain ⟨rfl, hmk⟩ := rv_int.1 hy
          obtain ⟨i, zv, hT⟩ := appT he hsz hz hc.1 hc.2
          obtain ⟨i', zv', hi', hiz', hzz⟩ := zero_spec hz
          have : i' = i := by have := hT.hi; rw [hi'] at this; simpa using this
          subst this
          have : zv' = zv := by have := hT.hz; rw [hiz'] at this; simpa using this
          subst this
          have hbytes : (i'.bytes : Int) * m ≤ 281474976710656 := by
            have hb : C.P.bytesOf tid = i'.bytes := by simp [Program.bytesOf, hi']
            rw [hb] at hb1
            have : ((m.toNat * i'.bytes : Nat) : Int) ≤ 140737488355328 := by omega
            rw [Int.natCast_mul, Int.toNat_of_nonneg (by omega), Int.mul_comm] at this
            omega
          have hrun := run_make (P := C.P) w t tid i' zv' hT.ht hT.hi hT.hz .i64 .i64 n m hn0 hnm hbytes (by omega)
          rw [hT.hs] at hrun
          have hrv : reads Ψ e x0 zv'.cells.toList := rv_cells (asD_rv (h := []) (β := β) (PLe.refl Ψ) hx0 (by rw [hzz]; exact ofV_rel zv') (fun k _ tid e xs hg => by simp [hget] at hg))
          have hxl : ((List.replicate n.toNat x0).length) = n.toNat := by simp
          refine ⟨.value (.slice (some ⟨w.heap.size, 0, none⟩) n.toNat m.toNat), .slice (some ⟨w.heap.size, 0, none⟩) n.toNat m.toNat, β ++ [.slice (some ⟨w.heap.size, 0, none⟩) n.toNat m.toNat], _, then_value hrun, .inl rfl,
            hi.push ((Below.refl _ _).alloc (Nat.le_refl _) _) rfl ?_ ?_, RelF_mono (PLe.refl _) (snoc_mono _) _ _ hf, ?_⟩
          · have hk : (β ++ [Value.slice (some ⟨w.heap.size, 0, none⟩) n.toNat m.toNat])[h.length]? = some (.slice (some ⟨w.heap.size, 0, none⟩) n.toNat m.toNat) := by
              rw [← hi.len]; simp
            by_cases hm0 : m.toNat = 0
            · left
              have : n.toNat = 0 := by omega
              rw [hm0, this] at hk
              exact ⟨_, by rw [hm0, this]; exact hk, by rw [this]; rfl⟩
            · right
              refine ⟨w.heap.size, m.toNat, _, by rw [hxl]; exact hk, hm0, hi.size, heap_alloc_new w _, by rw [hxl]; omega, by simp only [maxLen]; omega, size_madeCells _ _, ?_⟩
              rw [hxl, made_eq _ _ _ hT.hc]
              have : (List.replicate m.toNat zv'.cells.toList).flatten.take (n.toNat * e.cells) = (List.replicate n.toNat zv'.cells.toList).flatten := by
                have hsplit : m.toNat = n.toNat + (m.toNat - n.toNat) := by omega
                rw [hsplit, ← List.replicate_append_replicate, List.flatten_append, List.take_append_of_le_length (by simp [hT.hc]), List.take_of_length_le (by simp [hT.hc])]
              rw [this]
              exact rdL_replicate x0 _ hrv _
          · intro g hcl
            obtain ⟨n', cap', hz', hcl⟩ := hcl
            rw [← hi.len] at hcl
            simp at hcl
            omega
          · show (β ++ [_])[hlen h]? = _
            rw [hlen_eq, ← hi.len]
            simp
        · cases hr
      · cases hr
    · cases hr
  · cases hr

/-! ### store -/
theorem run_storeAt {t : TypeId} {n g off : Nat} {v : Value} {cur : Array Value} {e : TypeId} (hs : C.size t = some n) (hn : v.cells.size = n) (hh : w.heap[g]? = some (.cells cur e (0, 0))) (hle : off + n ≤ cur.size) (h1 : ∀ u ∈ v.cells.toList, u.oneCell' = true) :
    (Instr.storeAt t (.pointer (some ⟨g, off, none⟩)) v).run C.P w = .ok () (w.setRow g (cur.toList.take off ++ v.cells.toList ++ cur.toList.drop (off + v.cells.toList.length)).toArray) := by
  have hst := run_storeCells_at C.P g off e v.cells.toList 0 cur w hh (by simp; omega) h1
  simp only [Nat.add_zero] at hst
  simp [Instr.storeAt, Instr.sureAddr, storeVar, run_sizeOf hs, hn, hst]

/-- One of our own blocks has another content; nothing else turns. -/
theorem InvH.rewriteG {k g : Nat} {b b' : Blk} (hi : InvH B w0 Ψ β h w) (hk : h[k]? = some b) (hc : claims β k g b) (hgb : w.grownBy w' (some g))
    (hcl : ∀ g', claims β k g' b' → claims β k g' b) (hnew : BlkR B Ψ β w' k b') : InvH B w0 Ψ β (h.set k b') w' := by
  have hBg := (claims_lt (hi.blk k b hk) hc).1
  have at_ : ∀ {j : Nat} {b1 : Blk}, (h.set k b')[j]? = some b1 → (j = k ∧ b1 = b') ∨ (j ≠ k ∧ h[j]? = some b1) := by
    intro j b1 hj
    by_cases hjk : j = k
    · subst hjk
      rw [List.getElem?_set_self (by
        rcases Nat.lt_or_ge j h.length with h' | h'
        · exact h'
        · rw [List.getElem?_eq_none h'] at hk; cases hk)] at hj
      simp at hj
      exact .inl ⟨rfl, hj.symm⟩
    · rw [List.getElem?_set_ne (Ne.symm hjk)] at hj
      exact .inr ⟨hjk, hj⟩
  have notg : ∀ {j : Nat} {b1 : Blk}, j ≠ k → h[j]? = some b1 → ∀ g', claims β j g' b1 → some g' ≠ some g := fun hjk hj g' hc' e => hi.sep _ k _ b g hjk hj hk (by cases e; exact hc') hc
  refine ⟨hi.low.grown hgb hi.size (fun g' e => by cases e; exact hBg), Nat.le_trans hi.size hgb.size, fun ad v hv => ?_, by simp [hi.len], hi.one, fun j b1 hj => ?_, fun j b1 g' hj hc' ad had => ?_, fun i j bi bj g' hij hbi hbj hci hcj => ?_⟩
  · obtain ⟨h1, h2⟩ := hi.prom ad v hv
    refine ⟨h1, hgb.cell h2 (fun e => ?_)⟩
    simp at e
    rw [hi.free k b g hk hc ad e] at hv
    cases hv
  · rcases at_ hj with ⟨rfl, rfl⟩ | ⟨hjk, hj'⟩
    · exact hnew
    · have hb := hi.blk j b1 hj'
      cases b1 with
      | gone => trivial
      | cells cs =>
        obtain ⟨g', c, e', h1, h2, h3, h4⟩ := hb
        exact ⟨g', c, e', h1, (hgb.block g' (heap_lt h2) (notg hjk hj' g' h1)).trans h2, h3, h4⟩
      | grow tid e' xs' =>
        rcases hb with hb | ⟨g', cap, cur1, h1, h2, h3, h4, h5⟩
        · exact .inl hb
        · exact .inr ⟨g', cap, cur1, h1, h2, h3, (hgb.block g' (heap_lt h4) (notg hjk hj' g' ⟨_, _, h2, h1⟩)).trans h4, h5⟩
      | kmap es =>
        obtain ⟨g', ms, cl, h1, h2, h3, h4⟩ := hb
        exact ⟨g', ms, cl, h1, (hgb.block g' (heap_lt h2) (notg hjk hj' g' h1)).trans h2, h3, h4⟩
  · rcases at_ hj with ⟨rfl, rfl⟩ | ⟨hjk, hj'⟩
    · exact hi.free _ b g' hk (hcl g' hc') ad had
    · exact hi.free j b1 g' hj' hc' ad had
  · rcases at_ hbi with ⟨rfl, rfl⟩ | ⟨hik, hbi'⟩ <;> rcases at_ hbj with ⟨rfl, rfl⟩ | ⟨hjk, hbj'⟩
    · exact hij rfl
    · exact hi.sep _ j b bj g' hij hk hbj' (hcl g' hci) hcj
    · exact hi.sep i _ bi b g' hij hbi' hk hci (hcl g' hcj)
    · exact hi.sep i j bi bj g' hij hbi' hbj' hci hcj

theorem InvH.rewrite {k g : Nat} {b b' : Blk} {cur cur' : Array Value} {e : TypeId} (hi : InvH B w0 Ψ β h w) (hk : h[k]? = some b) (hc : claims β k g b) (hh : w.heap[g]? = some (.cells cur e (0, 0)))
    (hcl : ∀ g', claims β k g' b' → claims β k g' b) (hnew : BlkR B Ψ β (w.setRow g cur') k b') : InvH B w0 Ψ β (h.set k b') (w.setRow g cur') :=
  hi.rewriteG hk hc ⟨rfl, rfl, rfl, by simp, fun j _ hj => setRow_other w g j _ (fun e => hj (by rw [e]))⟩ hcl hnew

theorem store_ok {t : TypeId} {av xv : AV} {ad v : Value} {r : Out} {fs : List (List AV)} {acts : List Act} (hi : InvH B w0 Ψ β h w) (hf : RelF Ψ β fs acts) (ha : RelV Ψ β av ad) (hx : RelV Ψ β xv v)
    (hr : astore C h t av xv = some r) : EOp C B w0 Ψ w (do Instr.storeAt t ad v; pure .skip) r fs acts := by
  unfold astore at hr
  split at hr
  · -- a variable of our own
    rename_i k off
    split at hr
    · rename_i cs hg
      split at hr
      · rename_i l sz hc hsz
        split at hr
        · rename_i hb
          simp only [Bool.and_eq_true, Nat.beq_eq, Nat.ble_eq, listLen_eq] at hb
          simp at hr
          subst hr
          obtain ⟨g, c, e, hβ, rfl, hh, hB, hrel, h1⟩ := own_blk hi hg ha
          obtain ⟨hl, hl1⟩ := cellsOf'_rel hi.one hc hx
          have e1 := RelL_len _ _ hrel
          have e2 := RelL_len _ _ hl
          have hrun := run_storeAt (v := v) hsz (by rw [← Array.length_toList]; omega) hh (off := off) (by rw [← Array.length_toList]; omega) hl1
          refine ⟨.skip, undef, β, _, then_skip hrun, .inr ⟨rfl, rfl⟩, ?_, hf, rfl⟩
          simp only [hset_eq]
          refine hi.rewrite (hget_some hg (by simp)) (g := g) hβ hh (fun g' h' => h') ⟨g, _, e, hβ, setRow_heap w g c _ e _ hh, hB, ?_, ?_⟩
          · exact RelL_setCells hrel hl (by omega)
          · intro u hu
            simp only [List.mem_append] at hu
            rcases hu with (hu | hu) | hu
            · exact h1 u (List.mem_of_mem_take hu)
            · exact hl1 u hu
            · exact h1 u (List.mem_of_mem_drop hu)
        · cases hr
      · cases hr
    · cases hr
  · -- an element of an own slice
    rename_i k sz i
    split at hr
    · rename_i tid e xs hg
      split at hr
      · rename_i y n hy hsz
        split at hr
        · rename_i hb
          simp only [Bool.and_eq_true, Nat.beq_eq] at hb
          obtain ⟨⟨hn, hsz'⟩, hnr⟩ := hb
          simp at hr
          subst hr
          obtain ⟨g, c, cur, hβ, rfl, h0, hlt, hh, hlc, hcm, hcz, hB, hcs, hd⟩ := slp_cells hi hg ha (by omega)
          have hrefs : refs xv = [] := by
            have := noRefs_eq hnr
            simpa [refsA] using this
          have hrv := rv_cells (asD_rv (PLe.refl _) hy hx (by rw [hrefs]; exact Reading.nil))
          have hlv := reads_len e _ _ hrv
          have hmul : i.toNat * e.cells + e.cells ≤ xs.length * e.cells := by
            rw [← Nat.succ_mul]; exact Nat.mul_le_mul_right _ (by omega)
          have hmul2 : xs.length * e.cells ≤ c * e.cells := Nat.mul_le_mul_right _ hlc
          have hsze : sz = e.cells := by omega
          have hrun := run_storeAt (v := v) hsz (by rw [← Array.length_toList]; omega) hh (off := i.toNat * sz) (by rw [hsze]; omega) (reads_one e _ _ hrv)
          refine ⟨.skip, undef, β, _, then_skip hrun, .inr ⟨rfl, rfl⟩, ?_, hf, rfl⟩
          simp only [hset_eq]
          refine hi.rewrite (hget_some hg (by simp)) (g := g) ⟨_, _, hcz, hβ⟩ hh (fun g' h' => h') (.inr ⟨g, c, _, by simpa using hβ, hcz, hB, setRow_heap w g cur _ tid _ hh, by simpa using hlc, hcm, ?_, ?_⟩)
          · have hvs : v.cells.size = e.cells := by rw [← Array.length_toList]; exact hlv
            simp only [List.size_toArray, List.length_append, List.length_take, List.length_drop, Array.length_toList, hsze]
            omega
          · simp only [List.length_set, hsze]
            have := rdL_set (reads_len e) y _ hrv xs _ hd i.toNat hlt
            have e1 : (cur.toList.take (i.toNat * e.cells) ++ v.cells.toList ++ cur.toList.drop (i.toNat * e.cells + v.cells.toList.length)).take (xs.length * e.cells) =
                (cur.toList.take (xs.length * e.cells)).take (i.toNat * e.cells) ++ v.cells.toList ++ (cur.toList.take (xs.length * e.cells)).drop (i.toNat * e.cells + e.cells) := by
              have hcl : cur.toList.length = c * e.cells := by rw [Array.length_toList]; exact hcs
              rw [List.take_take, Nat.min_eq_left (by omega), hlv]
              have hta : (cur.toList.take (i.toNat * e.cells)).length = i.toNat * e.cells := by rw [List.length_take]; omega
              rw [List.append_assoc]
              have hsplit : xs.length * e.cells = (cur.toList.take (i.toNat * e.cells)).length + (v.cells.toList.length + (xs.length * e.cells - (i.toNat * e.cells + e.cells))) := by
                rw [hta, hlv]; omega
              conv => lhs; rw [hsplit, take_len_add, take_len_add]
              rw [List.append_assoc, List.drop_take]
            rw [e1]
            exact this
        · cases hr
      · cases hr
    · cases hr
  · cases hr

/-! ### Maps from integers to functions -/
theorem intMap_spec {t et : TypeId} (hm : intMap C t = some et) : ∃ kt, C.P.underlying t = some (.map kt et) ∧ C.P.underlying kt = some (.int .i64) := by
  unfold intMap at hm
  split at hm
  · rename_i kt et' hu
    split at hm
    · rename_i hk
      simp at hm
      subst hm
      exact ⟨kt, hu, hk⟩
    · cases hm
  · cases hm

theorem findNow_k (x : Int) : ∀ (es : List (Int × FuncId)) (l : List MapEntry) (i : Nat), l.map (fun e => (e.key, e.val)) = es.map (fun p => (Value.int .i64 p.1, fnV p.2)) →
    ∃ r, Instr.findNow (.int .i64) (.int .i64 x) l i = some r ∧ (notInK x es = true → r = none) ∧
      ∀ (k : AV → Prop) (z : AV), forkK x k z es → match r with | none => k z | some (_, v) => ∃ f, v = fnV f ∧ k (.fn f [])
  | [], l, i, h => by
    simp only [List.map_nil, List.map_eq_nil_iff] at h
    subst h
    exact ⟨none, rfl, fun _ => rfl, fun k z hk => hk⟩
  | (n, f) :: es, [], i, h => by simp at h
  | (n, f) :: es, e :: l, i, h => by
    simp only [List.map_cons, List.cons.injEq, Prod.mk.injEq] at h
    obtain ⟨⟨hk, hv⟩, hl⟩ := h
    by_cases hx : x = n
    · subst hx
      refine ⟨some (i, e.val), by simp [Instr.findNow, Instr.sameNow, hk], fun hn => by simp [notInK] at hn, fun k z hf => ⟨f, hv, hf.1 rfl⟩⟩
    · obtain ⟨r, h1, h2, h3⟩ := findNow_k x es l (i + 1) hl
      have hb : (x == n) = false := by simpa using hx
      refine ⟨r, by simp only [Instr.findNow, hk, Instr.sameNow, if_true, hb]; exact h1, fun hn => h2 ?_, fun k z hf => h3 k z (hf.2 hx)⟩
      simp [notInK] at hn
      exact hn.2

theorem kmap_at {k : Nat} {es : List (Int × FuncId)} {v : Value} (hi : InvH B w0 Ψ β h w) (hg : hget h k = .kmap es) (hv : RelV Ψ β (.sl k) v) :
    ∃ g ms cl, v = .map (some g) ∧ β[k]? = some (.map (some g)) ∧ w.heap[g]? = some (.map ms cl) ∧ B ≤ g ∧ ms.toList.map (fun e => (e.key, e.val)) = es.map (fun p => (Value.int .i64 p.1, fnV p.2)) := by
  obtain ⟨g, ms, cl, h1, h2, h3, h4⟩ := hi.blk k _ (hget_some hg (by simp))
  have hv : β[k]? = some v := hv
  rw [h1] at hv
  simp at hv
  exact ⟨g, ms, cl, hv.symm, h1, h2, h3, h4⟩

theorem makeMap_ok {t et : TypeId} {fs : List (List AV)} {acts : List Act} (hi : InvH B w0 Ψ β h w) (hf : RelF Ψ β fs acts) (hm : intMap C t = some et) :
    EOp C B w0 Ψ w (do pure (.value (← Instr.makeMap t none))) ⟨none, .sl (hlen h), h ++ [.kmap []], none⟩ fs acts := by
  have hn : (β ++ [Value.map (some w.heap.size)])[h.length]? = some (.map (some w.heap.size)) := by rw [← hi.len]; simp
  refine ⟨.value (.map (some w.heap.size)), _, β ++ [.map (some w.heap.size)], w.alloc (.map #[] 0), then_value rfl, .inl rfl, ?_, RelF_mono (PLe.refl _) (snoc_mono _) _ _ hf, ?_⟩
  · refine hi.push ((Below.refl _ _).alloc (Nat.le_refl _) _) rfl ⟨w.heap.size, #[], 0, hn, heap_alloc_new w _, hi.size, rfl⟩ (fun g hc => ?_)
    simp only [claims] at hc
    rw [hn] at hc
    simp at hc
    omega
  · show (β ++ [_])[hlen h]? = _
    rw [hlen_eq]; exact hn

theorem insert_ok {t : TypeId} {m key v : AV} {mv kv vv : Value} {r : Out} {fs : List (List AV)} {acts : List Act} (hi : InvH B w0 Ψ β h w) (hf : RelF Ψ β fs acts) (hm : RelV Ψ β m mv) (hk : RelV Ψ β key kv) (hv : RelV Ψ β v vv)
    (hr : ainsert C h t m key v = some r) : EOp C B w0 Ψ w (do Instr.mapUpdate t mv kv vv; pure .skip) r fs acts := by
  unfold ainsert at hr
  split at hr
  · rename_i et k n f him
    split at hr
    · rename_i es hg
      split at hr
      · rename_i hnot
        simp only [Option.some.injEq] at hr
        subst hr
        obtain ⟨kt, hu, hku⟩ := intMap_spec him
        obtain ⟨g, ms, cl, rfl, hβ, hh, hB, hes⟩ := kmap_at hi hg hm
        obtain ⟨rfl, hn⟩ := rv_int.1 hk
        obtain ⟨us, rfl, hus⟩ := hv
        simp only [RelL] at hus
        subst hus
        obtain ⟨r', hfind, hnone, _⟩ := findNow_k n es ms.toList 0 hes
        have := hnone hnot
        subst this
        refine ⟨.skip, undef, β, { w with heap := w.heap.setIfInBounds g (.map (ms.push { key := .int .i64 n, val := fnV f, born := cl }) (cl + 1)) }, ?_, .inr ⟨rfl, rfl⟩, ?_, hf, rfl⟩
        · exact then_skip (by simp [Instr.mapUpdate, run_underlying hu, MapKept.run_getObj_map hh, run_checkKey hku (k := .int .i64 n) rfl, run_findKey hku hfind, MapKept.run_setObj_map _ hh, Result.andThen, fnV])
        · simp only [hset_eq]
          have hlt := heap_lt hh
          refine hi.rewriteG (hget_some hg (by simp)) (g := g) hβ ⟨rfl, rfl, rfl, by simp, fun j _ hj => (MapKept.heap_set (o' := _) hh).2 j (fun e => hj (by rw [e]))⟩ (fun g' h' => h') ⟨g, _, _, hβ, (MapKept.heap_set hh).1, hB, ?_⟩
          simp [hes]
      · cases hr
    · cases hr
  · cases hr

/-- More is promised, of blocks from B on. -/
def Ext (B : Nat) (Ψ Ψ' : Pr) : Prop := PLe Ψ Ψ' ∧ ∀ ad v, Ψ' ad = some v → Ψ ad = some v ∨ B ≤ ad.block
theorem Ext.refl (B : Nat) (Ψ : Pr) : Ext B Ψ Ψ := ⟨PLe.refl _, fun _ _ h => .inl h⟩
theorem Ext.trans {B : Nat} {Ψ Ψ' Ψ'' : Pr} (h : Ext B Ψ Ψ') (h' : Ext B Ψ' Ψ'') : Ext B Ψ Ψ'' :=
  ⟨h.1.trans h'.1, fun ad v hv => (h'.2 ad v hv).elim (h.2 ad v) .inr⟩
theorem Step.ext {Ψ' : Pr} (hs : Step Ψ w Ψ' w') (hB : B ≤ w.heap.size) : Ext B Ψ Ψ' :=
  ⟨hs.le, fun ad v hv => (hs.new ad v hv).imp id fun h => Nat.le_trans hB h.1⟩

theorem hget_lt {l : List Blk} {k : Nat} {b : Blk} (h : l[k]? = some b) : k < l.length := by
  rcases Nat.lt_or_ge k l.length with h' | h'
  · exact h'
  · rw [List.getElem?_eq_none h'] at h; cases h

theorem grow_reading {Ψ' : Pr} (hi : InvH B w0 Ψ β h w) (hle : PLe Ψ Ψ') {k : Nat} {tid : TypeId} {e : Ty} {xs : List e.den} (hg : hget h k = .grow tid e xs)
    (hp : ∀ g n cap, cap ≠ 0 → β[k]? = some (.slice (some ⟨g, 0, none⟩) n cap) → ∀ i v, w.cell? ⟨g, i, none⟩ = some v → Ψ' ⟨g, i, none⟩ = some v) {u : Value} (hu : β[k]? = some u) : rv Ψ' (.arr e) xs u := by
  rcases hi.blk k _ (hget_some hg (by simp)) with ⟨ad, h1, rfl⟩ | ⟨g, cap, cur, h1, hz, hB, hh, hn, hcm, hcs, hd⟩
  · rw [hu] at h1
    simp at h1
    subst h1
    exact ⟨_, ⟨ad, 0, rfl, Nat.le_refl _, by simp [maxLen], .inl rfl⟩, rfl⟩
  · have hp' := hp g _ cap hz h1
    rw [hu] at h1
    simp at h1
    subst h1
    refine ⟨_, ⟨_, cap, rfl, hn, hcm, .inr ⟨_, rdL_mono (reads_mono hle e) _ _ hd, g, 0, rfl, fun j v hj => hp' _ v ?_⟩⟩, rfl⟩
    rw [cell_of_heap hh, Nat.zero_add]
    rw [List.getElem?_take] at hj
    split at hj
    · simpa using hj
    · cases hj

/-! ### Giving an own slice away -/
open Classical in
noncomputable def given (Ψ : Pr) (β : List Value) (w : World) (k : Nat) : Pr := fun ad =>
  if (∃ n cap, cap ≠ 0 ∧ β[k]? = some (.slice (some ⟨ad.block, 0, none⟩) n cap)) ∧ ad.spot = none then w.cell? ad else Ψ ad

theorem given_in {k g n cap : Nat} (hz : cap ≠ 0) (hβ : β[k]? = some (.slice (some ⟨g, 0, none⟩) n cap)) (i : Nat) : given Ψ β w k ⟨g, i, none⟩ = w.cell? ⟨g, i, none⟩ := by
  unfold given
  rw [if_pos ⟨⟨n, cap, hz, hβ⟩, rfl⟩]

theorem freeze_sound {s : St} (hi : InvH B w0 Ψ β s.heap w) (hf : RelF Ψ β (s.top :: s.below) As) (k : Nat) :
    ∃ Ψ', Ext B Ψ Ψ' ∧ InvH B w0 Ψ' β (s.freeze k).heap w ∧ RelF Ψ' β ((s.freeze k).top :: (s.freeze k).below) As ∧ Reading Ψ' β s.heap [k] ∧
      ∀ (j : Nat) (tid : TypeId) (e : Ty) (xs : List e.den), j ≠ k → hget s.heap j = .grow tid e xs → hget (s.freeze k).heap j = .grow tid e xs := by
  unfold St.freeze
  split
  · rename_i tid e xs hg
    have hk := hget_some hg (by simp)
    have hle : PLe Ψ (given Ψ β w k) := by
      intro ad v hv
      obtain ⟨h1, h2⟩ := hi.prom ad v hv
      unfold given
      split
      · exact h2
      · exact hv
    have hrd : ∀ u : Value, β[k]? = some u → rv (given Ψ β w k) (.arr e) xs u := fun u hu =>
      grow_reading hi hle hg (fun g n cap hz hβ i v hv => by rw [given_in hz hβ]; exact hv) hu
    have hptr : ∀ g : Nat, β[k]? = some (.pointer (some ⟨g, 0, none⟩)) → β[k]? = some (.pointer (some ⟨g, 0, none⟩)) := fun _ h => h
    have hget' : ∀ {j : Nat} {b : Blk}, ((subH k (.d (.arr e) xs) s.heap).set k .gone)[j]? = some b → (j = k ∧ b = .gone) ∨ (j ≠ k ∧ ∃ b', s.heap[j]? = some b' ∧ b = (match b' with | .cells cs => .cells (subL k (.d (.arr e) xs) cs) | b' => b')) := by
      intro j b hb
      by_cases hjk : j = k
      · subst hjk
        have hlt : j < (subH j (.d (.arr e) xs) s.heap).length := by rw [subH_len]; exact hget_lt hk
        rw [List.getElem?_set_self hlt] at hb
        simp at hb
        exact .inl ⟨rfl, hb.symm⟩
      · rw [List.getElem?_set_ne (Ne.symm hjk)] at hb
        exact .inr ⟨hjk, subH_get _ _ _ _ _ hb⟩
    have hcl : ∀ {j g : Nat} {b b' : Blk}, b = (match b' with | .cells cs => .cells (subL k (.d (.arr e) xs) cs) | b' => b') → claims β j g b → claims β j g b' := by
      intro j g b b' hb hc
      subst hb
      cases b' <;> exact hc
    have hclk : ∀ {g n cap : Nat}, cap ≠ 0 → β[k]? = some (.slice (some ⟨g, 0, none⟩) n cap) → claims β k g (.grow tid e xs) := fun hz hβ => ⟨_, _, hz, hβ⟩
    refine ⟨given Ψ β w k, ⟨hle, fun ad v hv => ?_⟩, ?_, ?_, ?_, ?_⟩
    · unfold given at hv
      split at hv
      · rename_i hc
        obtain ⟨⟨n, cap, hz, hβ⟩, _⟩ := hc
        exact .inr (claims_lt (hi.blk k _ hk) (hclk hz hβ)).1
      · exact .inl hv
    · show InvH B w0 (given Ψ β w k) β (hset (subH k (.d (.arr e) xs) s.heap) k .gone) w
      rw [hset_eq]
      refine ⟨hi.low, hi.size, fun ad v hv => ?_, by simp [subH_len, hi.len], hi.one, fun j b hb => ?_, fun j b g hb hc ad had => ?_, fun i j bi bj g hij hbi hbj hci hcj => ?_⟩
      · unfold given at hv
        split at hv
        · rename_i hc
          exact ⟨hc.2, hv⟩
        · exact hi.prom ad v hv
      · rcases hget' hb with ⟨_, rfl⟩ | ⟨hjk, b', hb', rfl⟩
        · trivial
        · have hB := hi.blk j _ hb'
          cases b' with
          | gone => trivial
          | cells cs =>
            obtain ⟨g, c, e', h1, h2, h3, h4, h5⟩ := hB
            exact ⟨g, c, e', h1, h2, h3, subL_rel k _ hle hrd (fun _ _ _ h => h) hptr _ _ h4, h5⟩
          | grow tid' e' xs' =>
            refine hB.imp id ?_
            rintro ⟨g, cap, cur, h1, h2, h3, h4, h5, h6, h7, h8⟩
            exact ⟨g, cap, cur, h1, h2, h3, h4, h5, h6, h7, rdL_mono (reads_mono hle e') _ _ h8⟩
          | kmap es => exact hB
      · rcases hget' hb with ⟨_, rfl⟩ | ⟨hjk, b', hb', hbe⟩
        · exact hc.elim
        · have hc' := hcl hbe hc
          unfold given
          split
          · rename_i hcond
            obtain ⟨⟨n, cap, hz, hβ⟩, _⟩ := hcond
            rw [had] at hβ
            exact (hi.sep j k _ _ g hjk hb' hk hc' (hclk hz hβ)).elim
          · exact hi.free j _ g hb' hc' ad had
      · rcases hget' hbi with ⟨_, rfl⟩ | ⟨_, bi', hbi', hbie⟩
        · exact hci.elim
        · rcases hget' hbj with ⟨_, rfl⟩ | ⟨_, bj', hbj', hbje⟩
          · exact hcj.elim
          · exact hi.sep i j _ _ g hij hbi' hbj' (hcl hbie hci) (hcl hbje hcj)
    · exact subF_rel k _ hle hrd (fun _ _ _ h => h) hptr (s.top :: s.below) As hf
    · intro k' hk' tid' e' xs' hg' u hu
      simp only [List.mem_singleton] at hk'
      subst hk'
      rw [hg] at hg'
      cases hg'
      exact hrd u hu
    · intro j tid' e' xs' hjk hg'
      show hget (hset (subH k (.d (.arr e) xs) s.heap) k .gone) j = _
      rw [hset_eq]
      have h1 := hget_some hg' (by simp)
      have h2 : (subH k (.d (.arr e) xs) s.heap)[j]? = some (.grow tid' e' xs') := by
        have hlt : j < (subH k (.d (.arr e) xs) s.heap).length := by rw [subH_len]; exact hget_lt h1
        have h3 := List.getElem?_eq_getElem hlt
        obtain ⟨b', hb', hbe⟩ := subH_get _ _ _ _ _ h3
        rw [h1] at hb'
        simp at hb'
        subst hb'
        rw [h3, hbe]
      exact hget_of (by rw [List.getElem?_set_ne (Ne.symm hjk)]; exact h2)
  · rename_i hng
    refine ⟨Ψ, Ext.refl _ _, hi, hf, fun k' hk' tid e xs hg u hu => ?_, fun _ _ _ _ _ h => h⟩
    simp only [List.mem_singleton] at hk'
    subst hk'
    exact absurd hg (hng _ _ _)
where
  hget_of : ∀ {h : List Blk} {j : Nat} {b : Blk}, h[j]? = some b → hget h j = b
    | [], _, _, hb => by simp at hb
    | b0 :: h, 0, _, hb => by simpa [hget] using hb
    | b0 :: h, j + 1, _, hb => by
      simp only [hget]
      exact hget_of (by simpa using hb)

/-- Every operation that is no call of a function. -/
theorem op_sound {o : Oper} {r : Out} {fs : List (List AV)} {acts : List Act} (hi : InvH B w0 Ψ β h w) (hf : RelF Ψ β fs acts) (hev : ∀ x ∈ o.op.operands, RelV Ψ β (ev fr x) (a.eval x))
    (hr : aop C fr h o.op = some r) (hp : ∀ p, r.need = some p → p) :
    ∃ n v Ψ' β' w', (execOp a.eval o).run C.P w = .ok n w' ∧ (n = .value v ∨ (n = .skip ∧ v = undef)) ∧ Ext B Ψ Ψ' ∧ InvH B w0 Ψ' β' (match r.kill with | none => r.heap | some k => subH k .junk r.heap) w' ∧
      RelF Ψ' β' (match r.kill with | none => fs | some k => subF k .junk fs) acts ∧ RelV Ψ' β' r.v v := by
  by_cases hn : neutral o.op = true
  · obtain ⟨h1, h2, v, Ψ', w', e1, e2, e3⟩ := neutral_sound hi hev hn hr hp
    rw [h1, h2]
    exact ⟨.value v, v, Ψ', β, w', e1, .inl rfl, e2.ext hi.size, hi.step e2, RelF_mono e2.le (fun _ _ h => h) _ _ hf, e3⟩
  · by_cases hbx : ∃ bt y r', o.op = .box bt y ∧ abox' C h bt (ev fr y) = some r'
    · obtain ⟨bt, y, r', ho, hb⟩ := hbx
      obtain ⟨dst, op, ty, pos, after, guard⟩ := o
      simp only at ho hev hr
      subst ho
      simp only [aop, hb, Option.some.injEq] at hr
      subst hr
      have hx := hev y (by simp [Op.operands])
      generalize ev fr y = av at hb hx
      unfold abox' at hb
      split at hb
      · rename_i u z
        split at hb
        · rename_i hc
          simp only [Bool.and_eq_true] at hc
          have := ok0_inv hb; subst this
          obtain ⟨cs, hcs, hv⟩ := hx
          rw [hc.2] at hv
          simp only [if_true] at hv
          have hst := step_block hi cs bt
          refine ⟨.value (.pointer (some ⟨w.heap.size, 0, none⟩)), _, _, β, _, ?_, .inl rfl, hst.ext hi.size, hi.step hst, RelF_mono hst.le (fun _ _ h => h) _ _ hf, ⟨w.heap.size, 0, cs, rfl, reads_mono hst.le u z cs hcs, fun j v' hj => ?_⟩⟩
          · simp [execOp, Instr.box, newVar, newRow, hv, Value.cells]
          · rw [withBlock_at]; simpa using hj
        · cases hb
      · cases hb
    have key : EOp C B w0 Ψ w (execOp a.eval o) r fs acts → ∃ n v Ψ' β' w', (execOp a.eval o).run C.P w = .ok n w' ∧ (n = .value v ∨ (n = .skip ∧ v = undef)) ∧ Ext B Ψ Ψ' ∧ InvH B w0 Ψ' β' (match r.kill with | none => r.heap | some k => subH k .junk r.heap) w' ∧
      RelF Ψ' β' (match r.kill with | none => fs | some k => subF k .junk fs) acts ∧ RelV Ψ' β' r.v v :=
      fun ⟨n, v, β', w', e1, e2, e3, e4, e5⟩ => ⟨n, v, Ψ, β', w', e1, e2, Ext.refl _ _, e3, e4, e5⟩
    apply key
    obtain ⟨dst, op, ty, pos, after, guard⟩ := o
    simp only at hev hn hr
    cases op <;> first | (simp [neutral] at hn; done) | (simp [aop] at hr; done) | skip
    case alloc t => exact alloc_ok hi hf hr
    case box t x =>
      have hnone : abox' C h t (ev fr x) = none := by
        cases hq : abox' C h t (ev fr x) with
        | none => rfl
        | some r' => exact absurd ⟨t, x, r', rfl, hq⟩ hbx
      simp only [aop, hnone] at hr
      exact box_ok hi hf (hev x (by simp [Op.operands])) hr
    case store t x y => exact store_ok hi hf (hev x (by simp [Op.operands])) (hev y (by simp [Op.operands])) hr
    case makeMap t res =>
      cases res with
      | some _ => simp [aop] at hr
      | none =>
        simp only [aop] at hr
        split at hr
        · rename_i et hm
          simp only [Option.some.injEq] at hr
          subst hr
          exact makeMap_ok hi hf hm
        · cases hr
    case insert t m kx v => exact insert_ok hi hf (hev m (by simp [Op.operands])) (hev kx (by simp [Op.operands])) (hev v (by simp [Op.operands])) hr
    case makeSlice t x y => exact make_ok hi hf (hev x (by simp [Op.operands])) (hev y (by simp [Op.operands])) hr hp
    case call c =>
      obtain ⟨callee, args, ats⟩ := c
      have hargs : ∀ x ∈ args.toList, RelV Ψ β (ev fr x) (a.eval x) := fun x hx => hev x (by simp only [Op.operands, Call.operands, Array.mem_append]; exact .inr (by simpa using hx))
      cases callee with
      | value f => simp [aop] at hr
      | invoke r m => simp [aop] at hr
      | builtin b =>
      have hrel := evs_rel (Ψ := Ψ) (β := β) args.toList hargs
      have hmap := map_list a.eval args
      have hr' : abuiltin C h b ats.toList (evs fr args.toList) = some r := hr
      generalize evs fr args.toList = l at *
      generalize args.toList.map a.eval = vs at *
      unfold abuiltin at hr'
      split at hr' <;> first | (simp [neutral] at hn; done) | (cases hr'; done) | skip
      · rename_i x y
        split at hr'
        · rename_i t tx hts
          obtain ⟨u, vs', rfl, hu, hl⟩ := hrel
          obtain ⟨v, vs'', rfl, hv, hl⟩ := hl
          simp only [RelL] at hl
          subst hl
          have hats : ats = #[t, tx] := by rw [← Array.toArray_toList (xs := ats), hts]
          subst hats
          obtain ⟨n, v', β', w', e1, e2, e3, e4, e5⟩ := append_ok (ty := ty) hi hf hu hv hr' hp
          refine ⟨n, v', β', w', ?_, e2, e3, e4, e5⟩
          rw [← e1]
          simp [execOp, resolve, invoke, builtin, hmap]
        · cases hr'

end Go.AM
