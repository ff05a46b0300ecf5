import Derived.Test.YtjppchomonpfgaaDf
import Derived.Test.YtjppchomonpfgaaDl1
import Derived.Test.YtjppchomonpfgaaDl2
import Derived.Test.YtjppchomonpfgaaDl4
import Derived.Test.YtjppchomonpfgaaDl5
import Derived.Test.YtjppchomonpfgaaDl6
namespace Go.Proofs.Ytjppchomonpfgaa
open Go.AM Go.PL
set_option linter.unusedVariables false
theorem sat_law1 : Sat Try.prog 3 (lawSp [BK, I, L, L]) := by
  refine sat_nf (C := EL) ssEL (fun x => law1_nf x.1 x.2.1 x.2.2.1 x.2.2.2) fun (⟨b, m, v, c⟩ : Book × Int × List Int × List Int) hk hp => ?_
  dsimp only
  have rfl_ : ∀ {α : Type} [DecidableEq α] (x : α), decide (x = x) = true := fun x => decide_eq_true rfl
  refine ⟨trivial, fun _ => ⟨trivial, rfl⟩, fun _ => ⟨fun _ => ⟨trivial, rfl⟩, fun l => ⟨trivial, trivial, fun h => absurd rfl (ndt h), fun _ => ⟨trivial, fun _ => ⟨trivial, rfl⟩, fun r => ?_⟩⟩⟩⟩
  have r := rt r
  have hb := (rightB_iff.1 r).1
  have l := df l
  exact ⟨⟨hb, by omega⟩, ⟨hb, by omega⟩, trivial, rfl, r, r, trivial, rfl_ _, rfl_ _, trivial, rfl_ _, r, r, rfl_ _⟩
theorem sat_law2 : Sat Try.prog 4 (lawSp [BK, I, L, L, I, I]) := by
  refine sat_nf (C := EL) ssEL (fun x => law2_nf x.1 x.2.1 x.2.2.1 x.2.2.2.1 x.2.2.2.2.1 x.2.2.2.2.2) fun (⟨b, m, v, q, key, res⟩ : Book × Int × List Int × List Int × Int × Int) hk hp => ?_
  dsimp only
  have rfl_ : ∀ {α : Type} [DecidableEq α] (x : α), decide (x = x) = true := fun x => decide_eq_true rfl
  refine ⟨trivial, fun _ => ⟨trivial, rfl⟩, fun r => ⟨fun _ => ⟨trivial, rfl⟩, fun k0 => ⟨fun _ => ⟨trivial, rfl⟩, fun k1 => ⟨fun _ => ⟨trivial, rfl⟩, fun r0 => ⟨fun _ => ⟨trivial, rfl⟩, fun r1 => ?_⟩⟩⟩⟩⟩
  have r := rt r
  obtain ⟨rv, rq⟩ := right_lt r
  have kk : keyP key := ⟨by have := df k0; omega, by have := df k1; show key ≤ 134217728; omega⟩
  have kr : keyP res := ⟨by have := df r0; omega, by have := df r1; show res ≤ 134217728; omega⟩
  have hs := sum_ok rq (encode_code (rightB_iff.1 rv).1 m v).1
  exact ⟨rq, rv, ⟨kk, kr⟩, ⟨kk, kr⟩, trivial, rfl, rq, trivial, rfl_ _, hs, hs, rfl_ _, rfl_ _, rfl_ _⟩
theorem sat_law4 : Sat Try.prog 5 (lawSp [BK, I, L, L]) := by
  refine sat_nf (C := EL) ssEL (fun x => law4_nf x.1 x.2.1 x.2.2.1 x.2.2.2) fun (⟨b, m, v, q⟩ : Book × Int × List Int × List Int) hk hp => ?_
  dsimp only
  refine ⟨trivial, fun _ => ⟨trivial, rfl⟩, fun r => ?_⟩
  have r := rt r
  obtain ⟨rv, rq⟩ := right_lt r
  obtain ⟨h1, h2, h3, h4, h5, h6⟩ := rightB_iff.1 r
  have hc := (encode_code h1 m v).1
  have hs := sum_key h1 h2 h6 hc
  have hr := resid_key h1 h2 h5
  have a1 := (right_stand rq hc).2
  have a2 := (right_stand rv hc).2
  have k1 := key_bound m a1
  have k2 := key_bound m a2
  have a3 : alikeB (standS b (encodeS b m v)) v = true := by
    obtain ⟨x1, x2, x3⟩ := alike_iff.1 a2
    exact alike_iff.2 ⟨x2, x1, by omega⟩
  have t := key_tri1 (m := m) a1 a3
  have a4 : alikeB q v = true := alike_iff.2 ⟨h4, h3, by omega⟩
  obtain ⟨s1, s2, s3⟩ := sm_of a4
  rw [hs, ← hr]
  rw [keyS_comm m (standS b (encodeS b m v)) v] at t
  exact ⟨rq, rv, sum_ok rq hc, rv, ⟨⟨by omega, by show _ ≤ (134217728 : Int); omega⟩, ⟨by omega, by show _ ≤ (134217728 : Int); omega⟩⟩, ⟨h2.1, h2.2, s1, s2, s3⟩, trivial, rfl, decide_eq_true t.1, decide_eq_true t.2⟩
theorem sat_law5 : Sat Try.prog 6 (lawSp [BK, I, L, L]) := by
  refine sat_nf (C := EL) ssEL (fun x => law5_nf x.1 x.2.1 x.2.2.1 x.2.2.2) fun (⟨b, m, q, c⟩ : Book × Int × List Int × List Int) hk hp => ?_
  dsimp only
  refine ⟨trivial, fun _ => ⟨trivial, rfl⟩, fun r => ⟨fun _ => ⟨trivial, rfl⟩, fun l => ?_⟩⟩
  have rq := rt r
  obtain ⟨h1, h2, h3, h4, h5, h6⟩ := rightB_iff.1 rq
  have l := df l
  refine ⟨⟨h1, by omega⟩, fun e => ⟨trivial, rfl, ?_⟩, fun e => ?_⟩
  · rw [decode_bad (ndt e)]
    rfl
  · obtain ⟨hc, hd⟩ := decode_ok (ndf e)
    rw [hd]
    obtain ⟨s1, s2, s3⟩ := stand_ok h1 hc
    obtain ⟨x1, x2, x3⟩ := sm_of (right_stand rq hc).2
    exact ⟨trivial, rfl, decide_eq_true s2, rq, sum_ok rq hc, ⟨h2.1, h2.2, x1, x2, x3⟩, decide_eq_true (sum_key h1 h2 h6 hc)⟩
theorem sat_law6 : Sat Try.prog 7 (lawSp [BK, I, L, L]) := by
  refine sat_nf (C := EL) ssEL (fun x => law6_nf x.1 x.2.1 x.2.2.1 x.2.2.2) fun (⟨b, m, v, c⟩ : Book × Int × List Int × List Int) hk hp => ?_
  dsimp only
  refine ⟨trivial, fun _ => ⟨trivial, rfl⟩, fun r => ⟨fun _ => ⟨trivial, rfl⟩, fun l => ?_⟩⟩
  have rv := rt r
  obtain ⟨h1, h2, h3, h4, h5, h6⟩ := rightB_iff.1 rv
  have l := df l
  have l8 := right_len rv
  obtain ⟨e1, e2, e3⟩ := encode_code h1 m v
  obtain ⟨s1, s2, s3⟩ := stand_ok h1 e1
  obtain ⟨x1, x2, x3⟩ := sm_of (right_stand rv e1).2
  have ed : decodeS b (encodeS b m v) = (standS b (encodeS b m v), 0) := dec_yes e1
  have yes : ∀ {p : Prop} [Decidable p], p → (!decide p) = false := fun h => by simp [h]
  rw [ed]
  refine ⟨rv, ⟨h1, by omega⟩, yes rfl, yes (by dsimp only; omega), ⟨h2.1, h2.2, x1, x2, x3⟩, rv, yes (resid_key h1 h2 h5), ⟨h1, by omega⟩, fun e => ⟨trivial, rfl⟩, fun e => ?_⟩
  obtain ⟨hc, hd⟩ := decode_ok (ndf e)
  rw [hd]
  obtain ⟨t1, t2, t3⟩ := stand_ok h1 hc
  obtain ⟨r1, r2⟩ := right_stand rv hc
  obtain ⟨y1, y2, y3⟩ := sm_of r2
  have z := resid_le r1 hc
  rw [(key_zero rfl).2 rfl] at z
  have z' := resid_nonneg b m (standS b c)
  exact ⟨trivial, rfl, decide_eq_true (by omega), ⟨h2.1, h2.2, y1, y2, y3⟩, rv, decide_eq_true (resid_le rv hc), r1, decide_eq_true (by omega)⟩
end Go.Proofs.Ytjppchomonpfgaa
