/- tomeref01.Same answers whether two byte slices hold the same bytes. Conditions: both slices are readable. -/
import Derived.Test.YtdbiggfnnhmpiaaTy
import Derived.Test.YtdbiggfnnhmpiaaHlData
namespace Go.Proofs.Ytdbiggfnnhmpiaa
open Go Go.HL

set_option maxRecDepth 10000 in
theorem same_any {h : Heap} {va vb : Value} {la lb : List UInt8} (ha : Bytes h va la) (hb : Bytes h vb lb) :
    HC Try.prog 15 #[va, vb] h (fun v h' => v = .bool (decide (la = lb)) ∧ h' = h) := by
  obtain ⟨a, n, c, rfl, _, hc1, hra⟩ := ha
  obtain ⟨a', n', c', rfl, _, hc2, hrb⟩ := hb
  have hla : la.length = n := by simpa using hra.len
  have hlb : lb.length = n' := by simpa using hrb.len
  refine HC.body (args := [_, _]) Try.func15 rfl (by kernel_rfl) 26 rfl rfl ?_
  refine HW.seq fun K1 hK1 => ?_
  refine HW.region ?_   -- region 0 ref.go:91
  refine HO.v (V.asB rfl) rfl 4 rfl rfl ?_
  refine HO.nil ?_
  refine hK1 _ _ ?_
  refine HW.seq fun K2 hK2 => ?_
  refine HW.seq fun K3 hK3 => ?_
  refine HW.region ?_   -- region 1 ref.go:92
  refine HO.v (V.mvS rfl) rfl 6 rfl rfl ?_
  refine HO.v (V.len rfl T.el30) rfl 7 rfl rfl ?_
  refine HO.v (V.mvS rfl) rfl 8 rfl rfl ?_
  refine HO.v (V.len rfl T.el30) rfl 9 rfl rfl ?_
  refine HO.v (V.neq rfl rfl rfl) rfl 10 rfl rfl ?_
  refine HO.nil ?_
  refine hK3 _ _ ?_
  refine HW.cond rfl (fun hc => ?_) (fun hc => ?_)
  · -- then
    refine HW.seq fun K4 hK4 => ?_
    refine HW.region ?_   -- region 2 ref.go:93
    refine HO.v (V.asB rfl) rfl 4 rfl rfl ?_
    refine HO.nil ?_
    refine hK4 _ _ ?_
    refine HW.ret ?_
    refine ⟨.bool false, Res.one rfl rfl, ?_, rfl⟩
    have hne := of_decide_eq_true hc
    have : la ≠ lb := fun e => hne (by rw [← hla, ← hlb, e])
    simp [this]
  have hnn := of_decide_eq_false hc
  have hnn' : n = n' := by omega
  subst hnn'
  refine HW.skip ?_
  refine hK2 _ _ ?_
  refine HW.seq fun K5 hK5 => ?_
  refine HW.seq fun K6 hK6 => ?_
  refine HW.region ?_   -- region 3 ref.go:95
  refine HO.v (V.asI rfl) rfl 5 rfl rfl ?_
  refine HO.nil ?_
  refine hK6 _ _ ?_
  refine HW.block ?_   -- block 0
  refine HW.loopm (fun m s h' => ∃ k : Nat, Has s [(0, .slice a n c), (1, .slice a' n c'), (5, .int .i64 k)] ∧ h' = h ∧ k ≤ n ∧ m = n - k ∧ la.take k = lb.take k) ?_ ?_
  · exact ⟨_, 0, ⟨rfl, rfl, rfl, trivial⟩, rfl, Nat.zero_le _, rfl, rfl⟩
  rintro m s h' ⟨k, hs, rfl, hk, rfl, hp⟩ J7 hJ7
  refine HW.frame hs fun τ => ?_
  refine HW.seq fun K8 hK8 => ?_
  refine HW.seq fun K9 hK9 => ?_
  refine HW.region ?_   -- region 4 ref.go:95
  refine HO.v (V.mvI rfl) rfl 11 rfl rfl ?_
  refine HO.v (V.mvS rfl) rfl 12 rfl rfl ?_
  refine HO.v (V.len rfl T.el30) rfl 13 rfl rfl ?_
  refine HO.v (V.lss rfl rfl rfl) rfl 14 rfl rfl ?_
  refine HO.nil ?_
  refine hK9 _ _ ?_
  refine HW.condr rfl (fun hc => ?_) (fun hc => ?_)
  · -- else
    have hkn := of_decide_eq_false hc
    refine HW.exit ?_
    refine hK5 _ _ ?_
    refine HW.seq fun K13 hK13 => ?_
    refine HW.region ?_   -- region 8 ref.go:100
    refine HO.v (V.asB rfl) rfl 4 rfl rfl ?_
    refine HO.nil ?_
    refine hK13 _ _ ?_
    refine HW.ret ?_
    refine ⟨.bool true, Res.one rfl rfl, ?_, rfl⟩
    have : la = lb := by
      have h1 : k = n := by omega
      rw [h1, List.take_of_length_le (by omega), List.take_of_length_le (by omega)] at hp
      exact hp
    simp [this]
  have hkn := of_decide_eq_true hc
  refine HW.skip ?_
  refine hK8 _ _ ?_
  refine HW.seq fun K10 hK10 => ?_
  refine HW.block ?_   -- block 1
  refine HW.seq fun K11 hK11 => ?_
  obtain ⟨b, o, rfl, hcell⟩ := hra.pos (by omega)
  obtain ⟨b', o', rfl, hcell'⟩ := hrb.pos (by omega)
  have e1 : (la.map bv)[k]? = some (bv la[k]) := map_at (by omega)
  have e2 : (lb.map bv)[k]? = some (bv lb[k]) := map_at (by omega)
  refine HW.quiet mixed (by kernel_rfl) ?_   -- region 6 ref.go:96
  refine HQ.v (V.mvS rfl) rfl 17 rfl rfl ?_
  refine HQ.v (V.mvI rfl) rfl 18 rfl rfl ?_
  refine HQ.v (V.indexAddr1 rfl rfl T.el30 T.sz5 (by omega)) rfl 19 rfl rfl ?_
  refine HQ.v (V.load rfl (load_one T.ag5 (v := bv la[k]) (hcell _ _ e1))) rfl 20 rfl rfl ?_
  refine HQ.v (V.mvS rfl) rfl 21 rfl rfl ?_
  refine HQ.v (V.mvI rfl) rfl 22 rfl rfl ?_
  refine HQ.v (V.indexAddr1 rfl rfl T.el30 T.sz5 (by omega)) rfl 23 rfl rfl ?_
  refine HQ.v (V.load rfl (load_one T.ag5 (v := bv lb[k]) (hcell' _ _ e2))) rfl 24 rfl rfl ?_
  refine HQ.v (V.neq rfl rfl rfl) rfl 25 rfl rfl ?_
  refine HQ.nil ?_
  refine hK11 _ _ ?_
  refine HW.cond rfl (fun hc => ?_) (fun hc => ?_)
  · -- then
    refine HW.seq fun K12 hK12 => ?_
    refine HW.region ?_   -- region 7 ref.go:97
    refine HO.v (V.asB rfl) rfl 4 rfl rfl ?_
    refine HO.nil ?_
    refine hK12 _ _ ?_
    refine HW.ret ?_
    refine ⟨.bool false, Res.one rfl rfl, ?_, rfl⟩
    have hne := of_decide_eq_true hc
    have : la ≠ lb := by rintro rfl; exact hne rfl
    simp [this]
  have heq := of_decide_eq_false hc
  have heq' : la[k] = lb[k] := by
    apply UInt8.toNat_inj.1
    omega
  refine HW.skip ?_
  refine hK10 _ _ ?_
  refine HW.region ?_   -- region 5 ref.go:95
  refine HO.v (V.mvI rfl) rfl 15 rfl rfl ?_
  refine HO.v (V.add rfl rfl (by omega)) rfl 16 rfl rfl ?_
  refine HO.v (V.asI rfl) rfl 5 rfl rfl ?_
  refine HO.nil ?_
  refine hJ7 _ _ _ ⟨k + 1, ⟨rfl, rfl, rfl, trivial⟩, rfl, by omega, rfl, ?_⟩ (by omega)
  rw [List.take_succ_eq_append_getElem (by omega), List.take_succ_eq_append_getElem (by omega), hp, heq']
end Go.Proofs.Ytdbiggfnnhmpiaa
