import Derived.Test.YtgneefndofeoaaaAme
namespace Go.AM
set_option linter.unusedVariables false
open Go.RowKit

variable {B : Nat} {w0 : World} {C : Ctx} {Ψ : Pr} {β : List Value} {h : List Blk} {w : World} {fr : List AV} {a : Act}

theorem run_indexAt {t tid : TypeId} {sz : Nat} (he : elemOf C t = some tid) (hs : C.size tid = some sz) {ad : Addr} {len cap : Nat} {k : IntKind} {i : Int} (h0 : 0 ≤ i) (h1 : i < len) :
    (Instr.indexAt t (.slice (some ad) len cap) (.int k i)).run C.P w = .ok (.pointer (some (ad.add (i.toNat * sz)))) w := by
  simp [Instr.indexAt, run_underlying (underlying_slice he), asIntOf, h0, h1, run_sizeOf hs]

theorem run_indexArr {t et : TypeId} {n sz : Nat} (ha : arrayOf C t = some (n, et)) (hs : C.size et = some sz) {ad : Addr} {k : IntKind} {i : Int} (h0 : 0 ≤ i) (h1 : i < n) :
    (Instr.indexAt t (.pointer (some ad)) (.int k i)).run C.P w = .ok (.pointer (some (ad.add (i.toNat * sz)))) w := by
  simp [Instr.indexAt, run_underlying (arrayOf_spec ha), asIntOf, Instr.sureAddr, h0, h1, run_sizeOf hs]

theorem indexArr_ok {t : TypeId} {av : AV} {v : Value} {k : IntKind} {i : Int} {r : Out} (hx : RelV Ψ β av v) (hr : aindexArr C h t av i = some r) (hp : ∀ p, r.need = some p → p) :
    r.heap = h ∧ r.kill = none ∧ NOk C Ψ β w (Instr.indexAt t v (.int k i)) r.v := by
  unfold aindexArr at hr
  split at hr
  · rename_i n et ha
    split at hr
    · rename_i sz hs
      split at hr
      · rename_i k' off
        have := okP_inv hr; subst this
        obtain ⟨h0, h1⟩ : (0 : Int) ≤ i ∧ i < (n : Int) := hp _ rfl
        obtain ⟨g, hβ, rfl⟩ := hx
        refine ⟨rfl, rfl, NOk.of_run (v := .pointer (some ⟨g, off + i.toNat * sz, none⟩)) ?_ ⟨g, hβ, rfl⟩⟩
        rw [run_indexArr ha hs h0 h1, Addr.add_lit]
      · rename_i m e xs
        split at hr
        · rename_i hc
          simp only [Bool.and_eq_true, Nat.beq_eq] at hc
          obtain ⟨hsz, rfl⟩ := hc
          have := okP_inv hr; subst this
          obtain ⟨h0, h1⟩ : (0 : Int) ≤ i ∧ i < (m : Int) := hp _ rfl
          obtain ⟨g, off, cs, rfl, ⟨hlen, hd⟩, hpr⟩ := hx
          have hlt : i.toNat < xs.length := by omega
          obtain ⟨us, hus, hget⟩ := rdL_get (reads_len e) _ _ hd i.toNat xs[i.toNat] (List.getElem?_eq_getElem hlt)
          have hD : xs.getD i.toNat (dflt e) = xs[i.toNat] := by simp [List.getD_eq_getElem?_getD, List.getElem?_eq_getElem hlt]
          refine ⟨rfl, rfl, NOk.of_run (v := .pointer (some ⟨g, off + i.toNat * sz, none⟩)) ?_ ⟨g, off + i.toNat * sz, us, rfl, by rw [hD]; exact hus, fun j u hj => ?_⟩⟩
          · rw [run_indexArr ha hs h0 h1, Addr.add_lit]
          · have := hpr _ _ (hget j u hj)
            rw [← hsz]
            rwa [← Nat.add_assoc] at this
        · cases hr
      · cases hr
    · cases hr
  · cases hr

theorem indexAddr_ok {t : TypeId} {av iv : AV} {v u : Value} {r : Out} (hi : InvH B w0 Ψ β h w) (hx : RelV Ψ β av v) (hu : RelV Ψ β iv u) (hr : aindexAddr C h t av iv = some r) (hp : ∀ p, r.need = some p → p) :
    r.heap = h ∧ r.kill = none ∧ NOk C Ψ β w (Instr.indexAt t v u) r.v := by
  unfold aindexAddr at hr
  split at hr
  · rename_i tid _ i0 he
    obtain ⟨i, rfl⟩ : ∃ i : Int, i = i0 := ⟨i0, rfl⟩
    obtain ⟨rfl, hik⟩ := rv_int.1 hu
    split at hr
    · rename_i sz hs
      split at hr
      · rename_i k
        split at hr
        · rename_i tid' e xs hg
          split at hr
          · rename_i hc
            have hsz : e.cells = sz := by simpa [Nat.beq_eq] using hc
            have := okP_inv hr; subst this
            obtain ⟨h0, h1⟩ : (0 : Int) ≤ i ∧ i < (xs.length : Int) := hp _ rfl
            have hv : β[k]? = some v := hx
            rcases hi.blk k _ (hget_some hg (by simp)) with ⟨ad, hβ, rfl⟩ | ⟨g, cap, cur, hβ, hz, hB, hh, hn, hcm, hcs, hd⟩
            · simp at h1
              omega
            · rw [hβ] at hv
              simp at hv
              subst hv
              refine ⟨rfl, rfl, NOk.of_run (v := .pointer (some ⟨g, i.toNat * sz, none⟩)) ?_ ⟨g, _, cap, hβ, h0, h1, rfl⟩⟩
              rw [run_indexAt he hs h0 h1, Addr.add_lit]
              simp
          · cases hr
        · cases hr
      · rename_i hnsl
        split at hr
        · rename_i e xs hl
          split at hr
          · rename_i hc
            have hsz : e.cells = sz := by simpa [Nat.beq_eq] using hc
            have := okP_inv hr; subst this
            obtain ⟨h0, h1⟩ : (0 : Int) ≤ i ∧ i < (xs.length : Int) := hp _ rfl
            obtain ⟨ad, cap, rfl, _, _, h3⟩ := rv_arr.1 (asList_rv hx hl (fun k e => hnsl k e))
            have hlt : i.toNat < xs.length := by omega
            rcases h3 with rfl | ⟨cells, hd, g, off, rfl, hc'⟩
            · simp at hlt
            · obtain ⟨us, hus, hget⟩ := rdL_get (reads_len e) _ _ hd i.toNat xs[i.toNat] (List.getElem?_eq_getElem hlt)
              have hD : xs.getD i.toNat (dflt e) = xs[i.toNat] := by simp [List.getD_eq_getElem?_getD, List.getElem?_eq_getElem hlt]
              refine ⟨rfl, rfl, NOk.of_run (v := .pointer (some ⟨g, off + i.toNat * sz, none⟩)) ?_ ⟨g, off + i.toNat * sz, us, rfl, by rw [hD]; exact hus, fun j u hj => ?_⟩⟩
              · rw [run_indexAt he hs h0 h1, Addr.add_lit]
              · have := hc' _ _ (hget j u hj)
                rw [← hsz]
                rwa [← Nat.add_assoc] at this
          · cases hr
        · cases hr
    · cases hr
  · rename_i i0 he
    obtain ⟨rfl, _⟩ := rv_int.1 hu
    exact indexArr_ok hx hr hp
  · cases hr

theorem strOf_get {l : List Int} (hl : ∀ c ∈ l, 0 ≤ c ∧ c ≤ 255) {i : Nat} (hi : i < l.length) : ∃ b, (strOf l)[i]? = some b ∧ (b.toNat : Int) = l.getD i 0 ∧ IntKind.u8.has (l.getD i 0) := by
  have hsz : i < (strOf l).size := by rw [strOf_size]; exact hi
  have h1 : l.getD i 0 = l[i] := by simp [List.getD_eq_getElem?_getD, List.getElem?_eq_getElem hi]
  have h2 := hl l[i] (List.getElem_mem hi)
  refine ⟨(strOf l)[i], by simp [hsz], ?_, ?_⟩
  · rw [h1]
    have : (strOf l)[i] = UInt8.ofNat l[i].toNat := by
      show (strOf l).data[i] = _
      simp [strOf]
    rw [this]
    simp
    omega
  · rw [h1]
    unfold IntKind.has
    simp [IntKind.min, IntKind.max, IntKind.bits, IntKind.signed]
    omega

theorem index_ok {t : TypeId} {av iv : AV} {v u : Value} {r : Out} (hx : RelV Ψ β av v) (hu : RelV Ψ β iv u) (hr : aindex C h t av iv = some r) (hp : ∀ p, r.need = some p → p) :
    r.heap = h ∧ r.kill = none ∧ NOk C Ψ β w (Instr.index t v u) r.v := by
  unfold aindex at hr
  split at hr
  · rename_i s _ i0 hut
    obtain ⟨i, rfl⟩ : ∃ i : Int, i = i0 := ⟨i0, rfl⟩
    obtain ⟨rfl, hik⟩ := rv_int.1 hu
    obtain ⟨rfl, hs, hs'⟩ := rv_str.1 hx
    have := okP_inv hr; subst this
    obtain ⟨h0, h1⟩ : (0 : Int) ≤ i ∧ i < (List.length (α := Int) s : Int) := hp _ rfl
    obtain ⟨b, hb, hbn, hk⟩ := strOf_get hs (i := i.toNat) (by omega)
    refine ⟨rfl, rfl, NOk.of_run (v := .int .u8 (s.getD i.toNat 0)) ?_ (rv_int.2 ⟨rfl, hk⟩)⟩
    rw [← hbn]
    simp [Instr.index, run_underlying hut, asIntOf, h0, hb]
  · cases hr

theorem extract_ok {av : AV} {v : Value} {i : Nat} {r : Out} (hx : RelV Ψ β av v) (hr : aextract h av i = some r) :
    r.heap = h ∧ r.kill = none ∧ r.need = none ∧ NOk C Ψ β w (Instr.extract v i) r.v := by
  unfold aextract at hr
  split at hr
  · rename_i cs
    split at hr
    · rename_i hc
      have := ok0_inv hr; subst this
      obtain ⟨vs, rfl, hl⟩ := hx
      obtain ⟨u, hu, hrel⟩ := RelL_get? _ _ hl i (by simp only [Nat.ble_eq, listLen_eq] at hc; omega)
      exact ⟨rfl, rfl, rfl, NOk.of_run (v := u) (by simp [Instr.extract, hu]) hrel⟩
    · cases hr
  · cases hr

theorem rdL_ints_inv {k : IntKind} : ∀ (l : List Int) (cs : List Value), rdL (reads Ψ (.int k)) l cs → cs = l.map (Value.int k) ∧ ∀ c ∈ l, k.has c
  | [], cs, h => by simp only [rdL] at h; subst h; simp
  | x :: l, cs, ⟨c, vs', e, ⟨hc, hk⟩, hl⟩ => by
    obtain ⟨h1, h2⟩ := rdL_ints_inv l vs' hl
    subst e hc h1
    refine ⟨rfl, fun c hm => ?_⟩
    rcases List.mem_cons.1 hm with rfl | hm
    · exact hk
    · exact h2 c hm

theorem u8_bounds {c : Int} (h : IntKind.u8.has c) : 0 ≤ c ∧ c ≤ 255 := by
  unfold IntKind.has at h
  simpa [IntKind.min, IntKind.max, IntKind.bits, IntKind.signed] using h

theorem convert_ok {src dst : TypeId} {av : AV} {v : Value} {r : Out} (hi : InvH B w0 Ψ β h w) (hx : RelV Ψ β av v) (hr : aconvert C h src dst av = some r) :
    r.heap = h ∧ r.kill = none ∧ r.need = none ∧ NOk C Ψ β w (convert src dst v) r.v := by
  unfold aconvert at hr
  split at hr
  · rename_i k0 k hsrc hdst
    split at hr
    · rename_i j n
      obtain ⟨rfl, hn⟩ := rv_int.1 hx
      have hrun : (convert src dst (.int j n)).run C.P w = .ok (.int k (k.wrap n)) w := by
        simp [convert, run_underlying hsrc, run_underlying hdst, Conv.intToInt]
      split at hr
      · have := ok0_inv hr; subst this
        exact ⟨rfl, rfl, rfl, NOk.of_run (by rw [hrun, wrap_has hn]) (rv_int.2 ⟨rfl, hn⟩)⟩
      · have := ok0_inv hr; subst this
        exact ⟨rfl, rfl, rfl, NOk.of_run hrun (rv_int.2 ⟨rfl, has_wrap _ _⟩)⟩
    · cases hr
  · rename_i et hsrc hdst
    split at hr
    · rename_i he
      have empty : ∀ ad cap, (convert src dst (.slice ad 0 cap)).run C.P w = .ok (.string (strOf [])) w := by
        intro ad cap
        rw [run_convert_bytes_string w src dst et ad 0 cap hsrc he hdst]
        cases ad with
        | none => simp [Conv.bytesToString]; rfl
        | some ad =>
          have hl : (loadCells ad 0).run C.P w = .ok (([] : List Int).map (Value.int .u8)).toArray w := run_loadCells_list w ad [] (by simp)
          rw [run_bytesToString w ad 0 cap [] hl]
          rfl
      have hnil : RelV Ψ β (.d .str []) (.string (strOf [])) := rv_str.2 ⟨rfl, by simp, by simp [maxLen]⟩
      split at hr
      · have := ok0_inv hr; subst this
        have hv : v = .slice none 0 0 := hx
        subst hv
        exact ⟨rfl, rfl, rfl, NOk.of_run (empty none 0) hnil⟩
      · split at hr
        · rename_i e xs hl
          split at hr
          · rename_i ys hc
            obtain ⟨hee, rfl⟩ := cast?_spec hc
            simp only [Ty.arr.injEq] at hee
            subst hee
            have := ok0_inv hr; subst this
            obtain ⟨ad, cap, rfl, h1, h2, h3⟩ := asList_rel hi hx hl
            rcases h3 with rfl | ⟨cells, g, off, hd, rfl, hcell⟩
            · exact ⟨rfl, rfl, rfl, NOk.of_run (empty ad cap) hnil⟩
            · obtain ⟨rfl, hk⟩ := rdL_ints_inv (Ψ := Ψ) xs _ hd
              refine ⟨rfl, rfl, rfl, NOk.of_run (v := .string (strOf xs)) ?_ (rv_str.2 ⟨rfl, fun c hc => u8_bounds (hk c hc), Nat.le_trans h1 h2⟩)⟩
              exact run_convert_bytes_arg w src et hsrc he g off xs.length cap xs rfl (fun i hi' => hcell i _ (by rw [List.getElem?_map, List.getElem?_eq_getElem hi']; simp [List.getD_eq_getElem?_getD, List.getElem?_eq_getElem hi'])) dst hdst
          · cases hr
        · cases hr
    · cases hr
  · cases hr

theorem arrayAt_ok {t : TypeId} {av : AV} {v : Value} {r : Out} (hx : RelV Ψ β av v) (hr : aarrayAt C h t av = some r) (hp : ∀ p, r.need = some p → p) :
    r.heap = h ∧ r.kill = none ∧ NOk C Ψ β w (Instr.arrayAt t v) r.v := by
  unfold aarrayAt at hr
  split at hr
  · rename_i n et ha
    split at hr
    · rename_i sz hs
      split at hr
      · cases hr
      · rename_i hnsl
        split at hr
        · rename_i e xs hl
          split at hr
          · rename_i hc
            simp only [Bool.and_eq_true, Nat.beq_eq, Nat.ble_eq] at hc
            obtain ⟨hsz, h1⟩ := hc
            have := okP_inv hr; subst this
            have hlen : (n : Int) ≤ xs.length := hp _ rfl
            obtain ⟨ad, cap, rfl, _, _, h3⟩ := rv_arr.1 (asList_rv hx hl (fun k e => hnsl k e))
            rcases h3 with rfl | ⟨cells, hd, g, off, rfl, hcell⟩
            · simp at hlen; omega
            · refine ⟨rfl, rfl, NOk.of_run (v := .pointer (some ⟨g, off, none⟩)) ?_ ⟨g, off, cells.take (n * e.cells), rfl, ⟨by simp; omega, rdL_take (reads_len e) _ _ n hd⟩, fun j u hj => hcell j u ?_⟩⟩
              · have : ¬ xs.length < n := by omega
                simp [Instr.arrayAt, run_underlying (arrayOf_spec ha), this]
              · rw [List.getElem?_take] at hj
                split at hj
                · exact hj
                · cases hj
          · cases hr
        · cases hr
    · cases hr
  · cases hr

theorem setCells_eq (cs : List AV) (off : Nat) (l : List AV) (hle : off + l.length ≤ cs.length) : setCells cs off l = cs.take off ++ l ++ cs.drop (off + l.length) := by
  induction l generalizing cs off with
  | nil => simp [setCells]
  | cons v l ih =>
    simp only [List.length_cons] at hle
    rw [setCells, ih _ _ (by rw [fset_eq, List.length_set]; omega), fset_eq]
    rw [List.take_set, List.drop_set]
    have h1 : (cs.take (off + 1)).set off v = cs.take off ++ [v] := by
      rw [List.set_eq_take_append_cons_drop, if_pos (by simp; omega)]
      simp [List.take_take]
    rw [h1, if_pos (by omega)]
    simp [List.append_assoc]
    congr 1
    omega

theorem RelL_setCells {cs l : List AV} {vs us : List Value} {off : Nat} (hr : RelL Ψ β cs vs) (hl : RelL Ψ β l us) (hle : off + l.length ≤ cs.length) :
    RelL Ψ β (setCells cs off l) (vs.take off ++ us ++ vs.drop (off + us.length)) := by
  rw [setCells_eq cs off l hle]
  have e := RelL_len _ _ hl
  rw [e]
  exact RelL_append _ _ _ _ (RelL_append _ _ _ _ (RelL_take _ _ _ hr) hl) (RelL_drop _ _ _ hr)

theorem splitD_rel : ∀ {t : Ty} {x : t.den} {l : List AV} {cs : List Value}, splitD t x = some l → reads Ψ t x cs → RelL Ψ β l cs
  | .pair a b, x, l, cs, hs, hr => by
    unfold splitD at hs
    split at hs
    · rename_i la ha
      split at hs
      · rename_i lb hb
        simp at hs
        subst hs
        obtain ⟨u, v, rfl, hu, hv⟩ := hr
        exact RelL_append _ _ _ _ (splitD_rel ha hu) (splitD_rel hb hv)
      · cases hs
    · cases hs
  | .unit, x, l, cs, hs, hr => by
    simp only [splitD, Option.some.injEq] at hs
    subst hs
    exact hr
  | .vec n e, x, l, cs, hs, hr => by
    unfold splitD at hs
    split at hs
    · rename_i hsm
      obtain ⟨h1, h2⟩ := small_spec hsm
      simp at hs
      subst hs
      obtain ⟨hlen, hd⟩ := hr
      have key : ∀ (m i : Nat) (cs : List Value), i + m = n → rdL (reads Ψ e) (List.drop i x) cs → RelL Ψ β (vecCells e x i m) cs := by
        intro m
        induction m with
        | zero =>
          intro i cs hi hd
          rw [List.drop_eq_nil_of_le (by omega)] at hd
          exact hd
        | succ m ih =>
          intro i cs hi hd
          have hlt : i < List.length x := by omega
          rw [List.drop_eq_getElem_cons hlt] at hd
          obtain ⟨c, vs', rfl, hc, hl⟩ := hd
          have hc1 := reads_len e _ _ hc
          rw [h1] at hc1
          obtain ⟨u, rfl⟩ := List.length_eq_one_iff.1 hc1
          refine ⟨u, vs', rfl, ⟨[u], ?_, by rw [h2]; rfl⟩, ih (i + 1) vs' (by omega) hl⟩
          have hD : List.getD x i (dflt e) = x[i] := by simp [List.getD_eq_getElem?_getD, List.getElem?_eq_getElem hlt]
          rw [hD]
          exact hc
      exact key n 0 cs (by omega) (by simpa using hd)
    · cases hs
  | .int k, x, l, cs, hs, hr => by
    simp only [splitD, Option.some.injEq] at hs
    subst hs
    obtain ⟨rfl, hk⟩ := hr
    exact ⟨_, [], rfl, rv_int.2 ⟨rfl, hk⟩, rfl⟩
  | .bool, x, l, cs, hs, hr => by
    simp only [splitD, Option.some.injEq] at hs
    subst hs
    simp only [reads] at hr
    subst hr
    exact ⟨_, [], rfl, rv_bool.2 rfl, rfl⟩
  | .str, x, l, cs, hs, hr => by
    simp only [splitD, Option.some.injEq] at hs
    subst hs
    obtain ⟨rfl, hk⟩ := hr
    exact ⟨_, [], rfl, rv_str.2 ⟨rfl, hk⟩, rfl⟩
  | .arr e, x, l, cs, hs, hr => by
    simp only [splitD, Option.some.injEq] at hs
    subst hs
    obtain ⟨ad, cap, rfl, hk⟩ := hr
    exact ⟨_, [], rfl, rv_arr.2 ⟨ad, cap, rfl, hk⟩, rfl⟩

/-- The cells of a value. -/
theorem cellsOf'_rel (hone : ∀ (k : Nat) (u : Value), β[k]? = some u → u.oneCell' = true) {av : AV} {v : Value} {l : List AV} (hc : cellsOf' av = some l) (hr : RelV Ψ β av v) : RelL Ψ β l v.cells.toList ∧ (∀ u ∈ v.cells.toList, u.oneCell' = true) := by
  have single : ∀ {av : AV} {v : Value}, RelV Ψ β av v → v.oneCell' = true → RelL Ψ β [av] v.cells.toList ∧ (∀ u ∈ v.cells.toList, u.oneCell' = true) := by
    intro av v hr h1
    have hv : v.cells = #[v] := by cases v <;> first | rfl | simp [Value.oneCell'] at h1
    rw [hv]
    exact ⟨⟨v, [], rfl, hr, rfl⟩, fun u hu => by simp at hu; subst hu; exact h1⟩
  cases av with
  | d t x =>
    simp only [cellsOf'] at hc
    obtain ⟨cs, hcs, e⟩ := hr
    cases ht : t.isAgg with
    | true =>
      rw [ht] at e; simp at e; subst e
      simp only [Value.cells]
      exact ⟨splitD_rel hc hcs, reads_one t _ _ hcs⟩
    | false =>
      rw [ht] at e; simp at e; subst e
      have h1 := reads_one t _ _ hcs v (by simp)
      have hv : v.cells = #[v] := by cases v <;> first | rfl | simp [Value.oneCell'] at h1
      rw [hv]
      exact ⟨splitD_rel hc hcs, fun u hu => by simp at hu; subst hu; exact h1⟩
  | agg cs =>
    simp only [cellsOf', cellsOf, Option.some.injEq] at hc
    subst hc
    obtain ⟨vs, rfl, hl, h1⟩ := hr
    simp only [Value.cells]
    exact ⟨hl, h1⟩
  | junk => simp [cellsOf', cellsOf] at hc
  | und => simp [cellsOf', cellsOf] at hc
  | tup cs => simp [cellsOf', cellsOf] at hc
  | tt => simp only [cellsOf', cellsOf, Option.some.injEq] at hc; subst hc; have : v = _ := hr; subst this; exact single rfl rfl
  | ff => simp only [cellsOf', cellsOf, Option.some.injEq] at hc; subst hc; have : v = _ := hr; subst this; exact single rfl rfl
  | nils => simp only [cellsOf', cellsOf, Option.some.injEq] at hc; subst hc; have : v = _ := hr; subst this; exact single rfl rfl
  | nilf => simp only [cellsOf', cellsOf, Option.some.injEq] at hc; subst hc; have : v = _ := hr; subst this; exact single rfl rfl
  | nilp => simp only [cellsOf', cellsOf, Option.some.injEq] at hc; subst hc; have : v = _ := hr; subst this; exact single rfl rfl
  | fs e xs => simp only [cellsOf', cellsOf, Option.some.injEq] at hc; subst hc; have hr' := hr; obtain ⟨ad, rfl, _⟩ := hr'; exact single hr rfl
  | fn f cs => simp only [cellsOf', cellsOf, Option.some.injEq] at hc; subst hc; have hr' := hr; obtain ⟨ad, rfl, _⟩ := hr'; exact single hr rfl
  | own k off => simp only [cellsOf', cellsOf, Option.some.injEq] at hc; subst hc; have hr' := hr; obtain ⟨ad, _, rfl⟩ := hr'; exact single hr rfl
  | slp k sz i => simp only [cellsOf', cellsOf, Option.some.injEq] at hc; subst hc; have hr' := hr; obtain ⟨_, _, _, _, _, _, rfl⟩ := hr'; exact single hr rfl
  | rp t x => simp only [cellsOf', cellsOf, Option.some.injEq] at hc; subst hc; have hr' := hr; obtain ⟨_, _, _, rfl, _⟩ := hr'; exact single hr rfl
  | sl k => simp only [cellsOf', cellsOf, Option.some.injEq] at hc; subst hc; exact single hr (hone k v hr)

/-! ### Aggregates -/
def setV (cs : List Value) (off : Nat) : List Value → List Value
  | [] => cs
  | v :: vs => setV (cs.set off v) (off + 1) vs

theorem setV_eq (cs : List Value) (off : Nat) (l : List Value) (hle : off + l.length ≤ cs.length) : setV cs off l = cs.take off ++ l ++ cs.drop (off + l.length) := by
  induction l generalizing cs off with
  | nil => simp [setV]
  | cons v l ih =>
    simp only [List.length_cons] at hle
    rw [setV, ih _ _ (by rw [List.length_set]; omega)]
    rw [List.take_set, List.drop_set]
    have h1 : (cs.take (off + 1)).set off v = cs.take off ++ [v] := by
      rw [List.set_eq_take_append_cons_drop, if_pos (by simp; omega)]
      simp [List.take_take]
    rw [h1, if_pos (by omega)]
    simp [List.append_assoc]
    congr 1
    omega

theorem fold_setV (off : Nat) : ∀ (l : List Value) (n : Nat) (cells : Array Value),
    ((l.zipIdx n).foldl (fun cs (p : Value × Nat) => cs.setIfInBounds (off + p.2) p.1) cells).toList = setV cells.toList (off + n) l
  | [], _, _ => rfl
  | v :: l, n, cells => by
    rw [List.zipIdx_cons, List.foldl_cons, fold_setV off l (n + 1)]
    simp [setV, Nat.add_assoc]

/-- Parts that are filled in, and their values. -/
def RelP (Ψ : Pr) (β : List Value) : List (Nat × AV) → List (Nat × Value) → Prop
  | [], ps => ps = []
  | (i, av) :: r, ps => ∃ v ps', ps = (i, v) :: ps' ∧ RelV Ψ β av v ∧ RelP Ψ β r ps'

theorem evParts_rel : ∀ (l : List (Nat × Operand)) (_ : ∀ p ∈ l, RelV Ψ β (ev fr p.2) (a.eval p.2)), RelP Ψ β (evParts fr l) (l.map fun (i, x) => (i, a.eval x))
  | [], _ => rfl
  | (i, x) :: l, hev => ⟨a.eval x, _, rfl, hev (i, x) (by simp), evParts_rel l fun p hp => hev p (by simp [hp])⟩

theorem fill_rel (hone : ∀ (k : Nat) (u : Value), β[k]? = some u → u.oneCell' = true) (place : Nat → Option (Nat × Nat)) : ∀ (parts : List (Nat × AV)) (ps : List (Nat × Value)) (cs out : List AV) (cells : Array Value),
    fillA place cs parts = some out → RelP Ψ β parts ps → RelL Ψ β cs cells.toList → (∀ u ∈ cells.toList, u.oneCell' = true) →
    ∃ arr, Instr.fill place cells ps = some arr ∧ RelL Ψ β out arr.toList ∧ (∀ u ∈ arr.toList, u.oneCell' = true)
  | [], ps, cs, out, cells, hf, hp, hr, h1 => by
    simp only [fillA, Option.some.injEq] at hf
    simp only [RelP] at hp
    subst hf hp
    exact ⟨cells, rfl, hr, h1⟩
  | (_, av) :: parts, _, cs, out, cells, hf, ⟨v, ps', rfl, hv, hp⟩, hr, h1 => by
    unfold fillA at hf
    split at hf
    · cases hf
    · rename_i off size hpl
      split at hf
      · cases hf
      · rename_i l hc
        split at hf
        · rename_i hb
          simp only [Bool.and_eq_true, Nat.beq_eq, Nat.ble_eq, listLen_eq] at hb
          obtain ⟨hb1, hb2⟩ := hb
          obtain ⟨hl, hl1⟩ := cellsOf'_rel hone hc hv
          have hlen := RelL_len _ _ hl
          have hcl := RelL_len _ _ hr
          have hvs : v.cells.size = size := by rw [← Array.length_toList]; omega
          have hcs : off + v.cells.size ≤ cells.size := by rw [← Array.length_toList (xs := cells)]; omega
          have hfold : (v.cells.zipIdx.foldl (fun cs (p : Value × Nat) => cs.setIfInBounds (off + p.2) p.1) cells).toList = cells.toList.take off ++ v.cells.toList ++ cells.toList.drop (off + v.cells.toList.length) := by
            rw [← setV_eq _ _ _ (by rw [Array.length_toList, Array.length_toList]; exact hcs)]
            have := fold_setV off v.cells.toList 0 cells
            rw [Nat.add_zero] at this
            rw [← this, ← Array.toList_zipIdx, Array.foldl_toList]
          obtain ⟨arr, ha, hrel, hone'⟩ := fill_rel hone place parts ps' _ out (v.cells.zipIdx.foldl (fun cs (p : Value × Nat) => cs.setIfInBounds (off + p.2) p.1) cells) hf hp
            (by rw [hfold]; exact RelL_setCells hr hl (by omega))
            (by
              rw [hfold]
              intro u hu
              simp only [List.mem_append] at hu
              rcases hu with (hu | hu) | hu
              · exact h1 u (List.mem_of_mem_take hu)
              · exact hl1 u hu
              · exact h1 u (List.mem_of_mem_drop hu))
          refine ⟨arr, ?_, hrel, hone'⟩
          unfold Instr.fill
          simp only [hpl]
          rw [if_neg (by simp; omega)]
          exact ha
        · cases hf

theorem zero_spec {t : TypeId} {z : AV} (hz : C.zero t = some z) : ∃ i v, C.P.info? t = some i ∧ i.zero = some v ∧ z = ofV v := by
  unfold Ctx.zero at hz
  split at hz
  · rename_i i hi
    split at hz
    · rename_i v hv
      exact ⟨i, v, hi, hv, by simpa using hz.symm⟩
    · cases hz
  · cases hz

theorem build_ok {t : TypeId} {parts : Array (Nat × Operand)} {r : Out} (hone : ∀ (k : Nat) (u : Value), β[k]? = some u → u.oneCell' = true) (hev : ∀ p ∈ parts.toList, RelV Ψ β (ev fr p.2) (a.eval p.2)) (hr : abuild C h t (evParts fr parts.toList) = some r) :
    r.heap = h ∧ r.kill = none ∧ r.need = none ∧ NOk C Ψ β w (Instr.build t (parts.map fun (i, x) => (i, a.eval x))) r.v := by
  unfold abuild at hr
  split at hr
  · rename_i fs hu
    split at hr
    · rename_i zs ps hz hps
      split at hr
      · rename_i cs hf
        have := ok0_inv hr; subst this
        obtain ⟨i, z, hi, hiz, hzv⟩ := zero_spec hz
        have hzr : RelV Ψ β (.agg zs) z := by rw [hzv]; exact ofV_rel z
        obtain ⟨vs, rfl, hl, h1⟩ := hzr
        obtain ⟨arr, ha, hrel, h1'⟩ := fill_rel hone _ _ _ _ _ vs.toArray hf (evParts_rel parts.toList hev) (by simpa using hl) (by simpa using h1)
        have hb : C.P.built t (parts.map fun (i, x) => (i, a.eval x)).toList = some arr := by
          unfold Program.built
          simp only [hi, hu, hiz]
          unfold placesOf at hps
          simp only [hps]
          simpa [Value.cells] using ha
        refine ⟨rfl, rfl, rfl, NOk.of_run (run_build w t _ arr hb) ⟨arr.toList, by simp, hrel, h1'⟩⟩
      · cases hr
    · cases hr
  · rename_i n et hu
    split at hr
    · rename_i zs sz hz hs
      split at hr
      · rename_i cs hf
        have := ok0_inv hr; subst this
        obtain ⟨i, z, hi, hiz, hzv⟩ := zero_spec hz
        obtain ⟨ie, hie, hsz⟩ := size_of hs
        have hzr : RelV Ψ β (.agg zs) z := by rw [hzv]; exact ofV_rel z
        obtain ⟨vs, rfl, hl, h1⟩ := hzr
        obtain ⟨arr, ha, hrel, h1'⟩ := fill_rel hone _ _ _ _ _ vs.toArray hf (evParts_rel parts.toList hev) (by simpa using hl) (by simpa using h1)
        have hb : C.P.built t (parts.map fun (i, x) => (i, a.eval x)).toList = some arr := by
          unfold Program.built
          simp only [hi, hu, hiz, hie, hsz]
          simpa [Value.cells] using ha
        refine ⟨rfl, rfl, rfl, NOk.of_run (run_build w t _ arr hb) ⟨arr.toList, by simp, hrel, h1'⟩⟩
      · cases hr
    · cases hr
  · cases hr

/-! ### Literals of slices -/
theorem Step.alloc (Ψ : Pr) (w : World) (c : Array Value) (t : TypeId) (Ψ' : Pr) (hle : PLe Ψ Ψ') (hnew : ∀ ad v, Ψ' ad = some v → Ψ ad = some v ∨ (ad.block = w.heap.size ∧ ad.spot = none ∧ c[ad.off]? = some v)) :
    Step Ψ w Ψ' (w.alloc (.cells c t)) where
  below := (Below.refl _ _).alloc (Nat.le_refl _) _
  le := hle
  new := fun ad v hv => (hnew ad v hv).imp id fun ⟨h1, h2, h3⟩ => ⟨by omega, h2, by
    obtain ⟨b, o, s⟩ := ad
    simp only at h1 h2 h3
    subst h1 h2
    rw [World.cell?_alloc_new]
    exact h3⟩

/-- Promises of a new block. -/
def withBlock (Ψ : Pr) (n : Nat) (c : List Value) : Pr := fun ad => if ad.block = n ∧ ad.spot = none then c[ad.off]? else Ψ ad

theorem withBlock_le {Ψ : Pr} {w : World} {c : List Value} (hp : ∀ ad v, Ψ ad = some v → ad.spot = none ∧ w.cell? ad = some v) : PLe Ψ (withBlock Ψ w.heap.size c) := by
  intro ad v hv
  unfold withBlock
  rw [if_neg]
  · exact hv
  · rintro ⟨hb, _⟩
    have := World.block_lt_of_cell? w ad (hp ad v hv).2
    omega

theorem withBlock_at {Ψ : Pr} {n : Nat} {c : List Value} (i : Nat) : withBlock Ψ n c ⟨n, i, none⟩ = c[i]? := by simp [withBlock]

theorem step_block (hi : InvH B w0 Ψ β h w) (c : List Value) (t : TypeId) : Step Ψ w (withBlock Ψ w.heap.size c) (w.alloc (.cells c.toArray t)) :=
  Step.alloc Ψ w c.toArray t _ (withBlock_le hi.prom) fun ad v hv => by
    unfold withBlock at hv
    split at hv
    · rename_i hc
      exact .inr ⟨hc.1, hc.2, by simpa using hv⟩
    · exact .inl hv

theorem rv_cells {t : Ty} {x : t.den} {v : Value} (hr : rv Ψ t x v) : reads Ψ t x v.cells.toList := by
  obtain ⟨cs, hc, e⟩ := hr
  cases ht : t.isAgg with
  | true => rw [ht] at e; simp at e; subst e; simpa [Value.cells] using hc
  | false =>
    rw [ht] at e; simp at e; subst e
    have h1 := reads_one t _ _ hc v (by simp)
    have hv : v.cells = #[v] := by cases v <;> first | rfl | simp [Value.oneCell'] at h1
    rw [hv]
    exact hc

theorem fill_all {e : Ty} : ∀ (xs : List e.den) (vs : List Value) (n : Nat) (parts : List (Nat × Value)) (cells : Array Value), parts.map (·.2) = vs → parts.map (·.1) = List.range' n vs.length →
    xs.length = vs.length → (∀ (i : Nat) (x : e.den) (v : Value), xs[i]? = some x → vs[i]? = some v → rv Ψ e x v) → (n + vs.length) * e.cells ≤ cells.size →
    ∃ arr us, Instr.fill (fun i => some (i * e.cells, e.cells)) cells parts = some arr ∧ rdL (reads Ψ e) xs us ∧ arr.toList = cells.toList.take (n * e.cells) ++ us ++ cells.toList.drop (n * e.cells + us.length)
  | [], [], n, parts, cells, hp, _, _, _, _ => by
    have : parts = [] := by simpa using hp
    subst this
    exact ⟨cells, [], rfl, rfl, by simp⟩
  | x :: xs, v :: vs, n, parts, cells, hp, hn, hl, hrv, hsz => by
    match parts, hp with
    | (i, v') :: parts, hp1 =>
    simp only [List.map_cons, List.cons.injEq] at hp1
    obtain ⟨rfl, hp1⟩ := hp1
    simp only [List.map_cons, List.length_cons, List.range'_succ, List.cons.injEq] at hn
    obtain ⟨rfl, hn⟩ := hn
    have hr := rv_cells (hrv 0 x v' rfl rfl)
    have hlen := reads_len e _ _ hr
    have hvs : v'.cells.size = e.cells := by rw [← hlen, Array.length_toList]
    simp only [List.length_cons] at hsz
    have hsz1 : i * e.cells + v'.cells.size ≤ cells.size := by
      rw [hvs]
      have : (i + 1) * e.cells ≤ (i + (vs.length + 1)) * e.cells := Nat.mul_le_mul_right _ (by omega)
      rw [Nat.succ_mul] at this
      omega
    have hfold : (v'.cells.zipIdx.foldl (fun cs (p : Value × Nat) => cs.setIfInBounds (i * e.cells + p.2) p.1) cells).toList = cells.toList.take (i * e.cells) ++ v'.cells.toList ++ cells.toList.drop (i * e.cells + v'.cells.toList.length) := by
      rw [← setV_eq _ _ _ (by rw [Array.length_toList, Array.length_toList]; exact hsz1)]
      have := fold_setV (i * e.cells) v'.cells.toList 0 cells
      rw [Nat.add_zero] at this
      rw [← this, ← Array.toList_zipIdx, Array.foldl_toList]
    have hsize : (v'.cells.zipIdx.foldl (fun cs (p : Value × Nat) => cs.setIfInBounds (i * e.cells + p.2) p.1) cells).size = cells.size := by
      rw [← Array.length_toList, hfold]
      simp
      omega
    obtain ⟨arr, us, h1, h2, h3⟩ := fill_all xs vs (i + 1) parts _ hp1 hn (by simpa using hl) (fun j x v hx hv => hrv (j + 1) x v (by simpa using hx) (by simpa using hv)) (by rw [hsize]; rw [show i + 1 + vs.length = i + (vs.length + 1) by omega]; exact hsz)
    refine ⟨arr, v'.cells.toList ++ us, ?_, ⟨_, us, rfl, hr, h2⟩, ?_⟩
    · unfold Instr.fill
      simp only []
      rw [if_neg (by simp [hvs]; omega)]
      exact h1
    · rw [h3, hfold]
      have e1 : (i + 1) * e.cells = i * e.cells + v'.cells.toList.length := by rw [Nat.succ_mul, hlen]
      have ht : (cells.toList.take (i * e.cells)).length = i * e.cells := by simp; omega
      rw [e1, List.append_assoc (cells.toList.take (i * e.cells)) v'.cells.toList]
      have k1 : (cells.toList.take (i * e.cells) ++ (v'.cells.toList ++ cells.toList.drop (i * e.cells + v'.cells.toList.length))).take (i * e.cells + v'.cells.toList.length) = cells.toList.take (i * e.cells) ++ v'.cells.toList := by
        conv => lhs; arg 1; rw [← ht]
        rw [take_len_add]
        simp
      have k2 : (cells.toList.take (i * e.cells) ++ (v'.cells.toList ++ cells.toList.drop (i * e.cells + v'.cells.toList.length))).drop (i * e.cells + v'.cells.toList.length + us.length) = cells.toList.drop (i * e.cells + (v'.cells.toList ++ us).length) := by
        conv => lhs; arg 1; rw [← ht]
        rw [Nat.add_assoc, drop_len_add, drop_len_add, List.drop_drop, List.length_append]
        congr 1
        omega
      rw [k1, k2]
      simp [List.append_assoc]

theorem partsOf_rel {e : Ty} : ∀ {avs : List AV} {vs : List Value} {xs : List e.den}, partsOf e h avs = some xs → RelL Ψ β avs vs → refsA avs = [] → xs.length = vs.length ∧ ∀ (i : Nat) (x : e.den) (v : Value), xs[i]? = some x → vs[i]? = some v → rv Ψ e x v
  | [], vs, xs, hp, hr, _ => by
    simp only [partsOf, Option.some.injEq] at hp
    simp only [RelL] at hr
    subst hp hr
    exact ⟨rfl, fun i x v hx => by simp at hx⟩
  | av :: avs, vs, xs, hp, hr, hn => by
    obtain ⟨v, vs', rfl, hv, hl⟩ := hr
    unfold partsOf at hp
    split at hp
    · rename_i y hy
      split at hp
      · rename_i ys hys
        simp at hp
        subst hp
        simp only [refsA, List.append_eq_nil_iff] at hn
        obtain ⟨h1, h2⟩ := partsOf_rel hys hl hn.2
        refine ⟨by simp [h1], fun i x u hx hu => ?_⟩
        cases i with
        | zero =>
          simp at hx hu
          subst hx hu
          exact asD_rv (PLe.refl _) hy hv (by rw [hn.1]; exact Reading.nil)
        | succ i => exact h2 i x u (by simpa using hx) (by simpa using hu)
      · cases hp
    · cases hp

theorem evs_rel : ∀ (l : List Operand) (_ : ∀ x ∈ l, RelV Ψ β (ev fr x) (a.eval x)), RelL Ψ β (evs fr l) (l.map a.eval)
  | [], _ => rfl
  | x :: l, hev => ⟨a.eval x, _, rfl, hev x (by simp), evs_rel l fun y hy => hev y (by simp [hy])⟩

theorem seconds_eq (l : List (Nat × Operand)) : seconds l = l.map (·.2) := by
  induction l with
  | nil => rfl
  | cons p l ih => obtain ⟨i, o⟩ := p; simp [seconds, ih]

theorem inOrder_eq : ∀ (n : Nat) (l : List (Nat × Operand)), inOrder n l = true → l.map (·.1) = List.range' n l.length
  | _, [], _ => rfl
  | n, (i, o) :: l, h => by
    simp only [inOrder, Bool.and_eq_true, Nat.beq_eq] at h
    simp [List.range'_succ, h.1, inOrder_eq (n + 1) l h.2]

theorem noRefs_eq {l : List AV} (h : noRefs l = true) : refsA l = [] := by
  unfold noRefs at h
  split at h
  · assumption
  · cases h

theorem buildSlice_ok {t : TypeId} {len : Nat} {parts : Array (Nat × Operand)} {r : Out} (hi : InvH B w0 Ψ β h w) (hev : ∀ p ∈ parts.toList, RelV Ψ β (ev fr p.2) (a.eval p.2)) (hr : abuildSlice C h t len parts.toList (evs fr (seconds parts.toList)) = some r) :
    r.heap = h ∧ r.kill = none ∧ r.need = none ∧ NOk C Ψ β w (Instr.buildSlice t len (parts.map fun (i, x) => (i, a.eval x))) r.v := by
  unfold abuildSlice at hr
  split at hr
  · rename_i tid he
    split at hr
    · rename_i e sz hty hsz
      split at hr
      · rename_i hc
        simp only [Bool.and_eq_true, Nat.beq_eq, Nat.ble_eq, listLen_eq] at hc
        obtain ⟨⟨⟨⟨⟨hec, hord⟩, hlen⟩, hbd⟩, hbd'⟩, hnr⟩ := hc
        subst hec
        split at hr
        · rename_i xs z hxs hz
          have := ok0_inv hr; subst this
          obtain ⟨i, zv, hi', hiz, _⟩ := zero_spec hz
          have hrel := evs_rel (Ψ := Ψ) (β := β) (fr := fr) (a := a) (seconds parts.toList) (fun x hx => by
            rw [seconds_eq] at hx
            obtain ⟨p, hp, rfl⟩ := List.mem_map.1 hx
            exact hev p hp)
          obtain ⟨hxl, hxr⟩ := partsOf_rel hxs hrel (noRefs_eq hnr)
          have hvl : ((seconds parts.toList).map a.eval).length = len := by rw [RelL_len _ _ hrel]; exact hlen
          have hpl : parts.toList.length = len := by rw [← hvl, seconds_eq]; simp
          -- whatever the fresh row holds
          have hfill : ∀ cells : Array Value, cells.size = len * e.cells → ∃ arr us, Instr.fill (fun i => some (i * e.cells, e.cells)) cells (parts.toList.map fun (i, x) => (i, a.eval x)) = some arr ∧ rdL (reads Ψ e) xs us ∧ arr.toList = us := by
            intro cells hcs
            obtain ⟨arr, us, h1, h2, h3⟩ := fill_all (Ψ := Ψ) xs ((seconds parts.toList).map a.eval) 0 (parts.toList.map fun (i, x) => (i, a.eval x)) cells (by rw [seconds_eq]; simp [Function.comp_def]) (by
              have := inOrder_eq 0 _ hord
              rw [hvl, ← hpl, ← this]
              simp [Function.comp_def]) hxl hxr (by rw [hvl, hcs]; simp)
            refine ⟨arr, us, h1, h2, ?_⟩
            rw [h3]
            have hul := rdL_len (reads_len e) _ _ h2
            rw [hxl, hvl] at hul
            rw [List.drop_of_length_le (by rw [Array.length_toList]; omega)]
            simp
          have hns : ¬ (len * e.cells > 2 ^ 24) := by omega
          obtain ⟨arr, us, h1, h2, h3⟩ := hfill ((Array.range (len * e.cells)).map ((if len * e.cells = 0 then #[] else zv.cells)[· % (if len * e.cells = 0 then #[] else zv.cells).size]!)) (by simp)
          have hrun : (Instr.buildSlice t len (parts.map fun (i, x) => (i, a.eval x))).run C.P w = .ok (.slice (some ⟨w.heap.size, 0, none⟩) len len) (w.alloc (.cells us.toArray tid)) := by
            have harr : arr = us.toArray := by rw [← h3]
            subst harr
            by_cases h0 : len * e.cells = 0
            · simp only [if_pos h0] at h1
              simp [Instr.buildSlice, run_underlying (underlying_slice he), run_sizeOf hsz, h0, newRow]
              rw [h0] at h1
              have hz0 : ∀ f : Nat → Value, (Array.range 0).map f = #[] := by intro f; simp [Array.range_zero']
              rw [hz0] at h1 ⊢
              rw [h1]
              simp
            · simp only [if_neg h0] at h1
              have hns' : ¬ (16777216 < len * e.cells) := by omega
              simp [Instr.buildSlice, run_underlying (underlying_slice he), run_sizeOf hsz, h0, newRow, zeroValue, typeInfo, hi', hiz, hns']
              rw [h1]
              simp
          have hus := rdL_len (reads_len e) _ _ h2
          refine ⟨rfl, rfl, rfl, _, _, _, hrun, step_block hi us tid, ⟨_, by rw [hxl, hvl], ?_⟩⟩
          refine rv_arr (β := β).2 ⟨_, _, by rw [hxl, hvl], by rw [hxl, hvl]; exact Nat.le_refl _, ?_, .inr ⟨us, rdL_mono (reads_mono (withBlock_le hi.prom) e) _ _ h2, w.heap.size, 0, rfl, fun j u hj => by rw [withBlock_at, Nat.zero_add]; exact hj⟩⟩
          simp only [maxLen]; omega
        · cases hr
      · cases hr
    · cases hr
  · cases hr

end Go.AM
