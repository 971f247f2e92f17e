/- slices.Index, slices.Clone, bytes.Clone and slices.Delete over the types that the cache uses. Conditions: lengths below a bound. -/
import Derived.Test.YtdbiggfnnhmpiaaCaRef2
namespace Go.Proofs.Ytdbiggfnnhmpiaa
open Go Go.HL

/-- Where a number first stands; -1: nowhere. -/
def ixOf (v : Int) : List Int → Int
  | [] => -1
  | x :: l => if x = v then 0 else (if ixOf v l < 0 then -1 else ixOf v l + 1)
theorem ixOf_none {v : Int} : ∀ {l : List Int}, v ∉ l → ixOf v l = -1
  | [], _ => rfl
  | x :: l, h => by
    simp only [List.mem_cons, not_or] at h
    unfold ixOf
    rw [if_neg (fun e => h.1 e.symm), ixOf_none h.2]; rfl
theorem ixOf_some {v : Int} : ∀ {l : List Int} {k : Nat} (hk : k < l.length), v ∉ l.take k → l[k] = v → ixOf v l = k
  | x :: l, 0, _, _, h => by simp at h; simp [ixOf, h]
  | x :: l, k + 1, hk, ha, h => by
    simp only [List.take_succ_cons, List.mem_cons, not_or] at ha
    have := ixOf_some (l := l) (k := k) (by simpa using hk) ha.2 (by simpa using h)
    unfold ixOf
    rw [if_neg (fun e => ha.1 e.symm), this, if_neg (by omega)]
    omega
theorem zc_int {n : Nat} : ∀ u ∈ (Builtin.zeroCells (Value.cells (.int .i64 0)) n).toList, u = .int .i64 0 := by
  intro u hu
  simp [Builtin.zeroCells, Value.cells] at hu
  obtain ⟨i, _, hi⟩ := hu
  rw [← hi]
  simp [Nat.mod_one]
theorem iv_ones (l : List Int) : ∀ u ∈ l.map iv, u.oneCell' = true := by
  intro u hu; obtain ⟨x, _, rfl⟩ := List.mem_map.1 hu; rfl
theorem bv_ones (l : List UInt8) : ∀ u ∈ l.map bv, u.oneCell' = true := by
  intro u hu; obtain ⟨x, _, rfl⟩ := List.mem_map.1 hu; rfl

set_option maxRecDepth 100000 in
theorem index_any {h : Heap} {a : Option Addr} {n c : Nat} {v : Int} {l : List Int} (hl : Sl h 1 (.slice a n c) (l.map iv)) :
    HC Try.prog 41 #[.slice a n c, .int .i64 v] h (fun r h' => r = .int .i64 (ixOf v l) ∧ h' = h) := by
  have hra := hl.cells
  have hcm := hl.bd
  have hla : l.length = n := by simpa using hra.len
  refine HC.body Try.func41 rfl (by kernel_rfl) 19 rfl rfl ?_
  refine HW.seq fun K1 hK1 => ?_
  refine HW.region ?_   -- region 0 slices.go:96
  refine HO.v (V.asI rfl) rfl 4 rfl rfl ?_
  refine HO.nil ?_
  refine hK1 _ _ ?_
  refine HW.seq fun K2 hK2 => ?_
  refine HW.seq fun K3 hK3 => ?_
  refine HW.region ?_   -- region 1 slices.go:97
  refine HO.v (V.mvS rfl) rfl 6 rfl rfl ?_
  refine HO.v (V.len rfl T.el31) rfl 7 rfl rfl ?_
  refine HO.v (V.mvI rfl) rfl 8 rfl rfl ?_
  refine HO.nil ?_
  refine hK3 _ _ ?_
  refine HW.block ?_   -- block 0
  refine HW.loopm (fun m s hh => ∃ k : Nat, Has s [(0, .slice a n c), (1, .int .i64 v), (7, .int .i64 n), (8, .int .i64 k)] ∧ hh = h ∧ k ≤ n ∧ m = n - k ∧ v ∉ l.take k) ?_ ?_
  · exact ⟨_, 0, ⟨rfl, rfl, rfl, rfl, trivial⟩, rfl, Nat.zero_le _, rfl, by simp⟩
  rintro m s hh ⟨k, hs, rfl, hk, rfl, hp⟩ J4 hJ4
  refine HW.frame hs fun τ => ?_
  refine HW.seq fun K5 hK5 => ?_
  refine HW.region ?_   -- region 2 slices.go:97
  refine HO.v (V.lss rfl rfl rfl) rfl 9 rfl rfl ?_
  refine HO.nil ?_
  refine hK5 _ _ ?_
  refine HW.seq fun K6 hK6 => ?_
  refine HW.condr rfl (fun hc => ?_) (fun hc => ?_)
  · -- else
    have hkn := of_decide_eq_false hc
    refine HW.exit ?_
    have hkn := of_decide_eq_false hc
    refine hK2 _ _ ?_
    refine HW.seq fun K7 hK7 => ?_
    refine HW.region ?_   -- region 7 slices.go:102
    refine HO.v (V.asI rfl) rfl 4 rfl rfl ?_
    refine HO.nil ?_
    refine hK7 _ _ ?_
    refine HW.ret ?_
    refine ⟨.int .i64 (-1), Res.one rfl rfl, (by have h1 : k = n := (by omega); rw [h1, List.take_of_length_le (by omega)] at hp; rw [ixOf_none hp]), rfl⟩
  refine HW.skip ?_
  refine hK6 _ _ ?_
  refine HW.seq fun K8 hK8 => ?_
  have hkn := of_decide_eq_true hc
  have hkl : k < l.length := by omega
  obtain ⟨b, o, rfl, hcell⟩ := hra.pos (by omega)
  refine HW.block ?_   -- block 1
  refine HW.seq fun K9 hK9 => ?_
  refine HW.region ?_   -- region 3 slices.go:97
  refine HO.v (V.mvI rfl) rfl 10 rfl rfl ?_
  refine HO.v (V.asI rfl) rfl 5 rfl rfl ?_
  refine HO.nil ?_
  refine hK9 _ _ ?_
  refine HW.seq fun K10 hK10 => ?_
  refine HW.region ?_   -- region 4 slices.go:98
  refine HO.v (V.mvI rfl) rfl 11 rfl rfl ?_
  refine HO.v (V.mvS rfl) rfl 12 rfl rfl ?_
  refine HO.v (V.mvI rfl) rfl 13 rfl rfl ?_
  refine HO.v (V.indexAddr1 rfl rfl T.el31 T.sz3 (by omega)) rfl 14 rfl rfl ?_
  refine HO.v (V.load rfl (load_one T.ag3 (v := iv l[k]) (hcell _ _ (map_at (by omega))))) rfl 15 rfl rfl ?_
  refine HO.v (V.eql rfl rfl rfl) rfl 16 rfl rfl ?_
  refine HO.nil ?_
  refine hK10 _ _ ?_
  refine HW.cond rfl (fun hc => ?_) (fun hc => ?_)
  · -- then
    refine HW.seq fun K11 hK11 => ?_
    refine HW.region ?_   -- region 5 slices.go:99
    refine HO.v (V.mvI rfl) rfl 17 rfl rfl ?_
    refine HO.v (V.asI rfl) rfl 4 rfl rfl ?_
    refine HO.nil ?_
    refine hK11 _ _ ?_
    refine HW.ret ?_
    refine ⟨.int .i64 k, Res.one rfl rfl, (by rw [ixOf_some (k := k) (by omega) hp (of_decide_eq_true hc).symm]), rfl⟩
  refine HW.skip ?_
  refine hK8 _ _ ?_
  refine HW.region ?_   -- region 6 slices.go:97
  refine HO.v (V.add rfl rfl (by omega)) rfl 18 rfl rfl ?_
  refine HO.v (V.mvI rfl) rfl 8 rfl rfl ?_
  refine HO.nil ?_
  refine hJ4 _ _ _ ⟨k + 1, ⟨rfl, rfl, rfl, rfl, trivial⟩, rfl, by omega, rfl, (by rw [take_next (by omega)]; have := of_decide_eq_false hc; simp only [List.mem_append, List.mem_singleton, not_or]; exact ⟨hp, this⟩)⟩ (by omega)

set_option maxRecDepth 100000 in
theorem cloneI_any {h : Heap} {a : Option Addr} {n c : Nat} {l : List Int} (hl : Sl h 1 (.slice a n c) (l.map iv)) (hN : l.length ≤ 1000000000000) :
    HC Try.prog 29 #[.slice a n c] h (fun r h' => Own h h' 1 3 r (l.map iv)) := by
  have hra := hl.cells
  have hla : l.length = n := by simpa using hra.len
  have hown : Own h (h.push (.cells #[] 3 (0, 0))) 1 3 (.slice (some ⟨h.size, 0, none⟩) 0 0) [] := Own.new (cs := #[]) (Ext.refl h) rfl (by omega)
  refine HC.body Try.func29 rfl (by kernel_rfl) 8 rfl rfl ?_
  refine HW.seq fun K1 hK1 => ?_
  refine HW.region ?_   -- region 0 slices.go:355
  refine HO.v (V.asS rfl) rfl 2 rfl rfl ?_
  refine HO.nil ?_
  refine hK1 _ _ ?_
  refine HW.seq fun K2 hK2 => ?_
  refine HW.seq fun K3 hK3 => ?_
  refine HW.region ?_   -- region 1 slices.go:357
  refine HO.v (V.mvS rfl) rfl 3 rfl rfl ?_
  refine HO.v (V.slEqNil rfl rfl T.el31) rfl 4 rfl rfl ?_
  refine HO.nil ?_
  refine hK3 _ _ ?_
  refine HW.cond rfl (fun hc => ?_) (fun hc => ?_)
  · -- then
    refine HW.seq fun K4 hK4 => ?_
    refine HW.region ?_   -- region 2 slices.go:358
    refine HO.v (V.asS rfl) rfl 2 rfl rfl ?_
    refine HO.nil ?_
    refine hK4 _ _ ?_
    refine HW.ret ?_
    refine ⟨.slice none 0 0, Res.one rfl rfl, (by cases a with | none => (have : n = 0 := (by cases Nat.eq_zero_or_pos n with | inl e => exact e | inr e => (obtain ⟨b, o, hb, _⟩ := hra.pos e; cases hb)); have : l = [] := List.eq_nil_of_length_eq_zero (by omega); subst this; exact Own.nil (Ext.refl h) _ _) | some _ => cases hc)⟩
  refine HW.skip ?_
  refine hK2 _ _ ?_
  refine HW.seq fun K5 hK5 => ?_
  refine HW.region ?_   -- region 3 slices.go:362
  refine HO.e (V.buildSlice [] (cs := #[]) T.el31 T.sz3 T.zr3 rfl rfl rfl trivial rfl) rfl 5 rfl rfl ?_
  refine HO.v (V.mvS rfl) rfl 6 rfl rfl ?_
  refine HO.a (V.append rfl rfl T.el31 T.sz3 T.by3 T.zr3 rfl hown.cap (hl.ext (Ext.push _ _)) (iv_ones l) (by simp; omega)) rfl 7 rfl rfl ?_
  rintro _ _ hap
  obtain ⟨ov, rfl⟩ := hap.cap.form
  refine HO.v (V.asS rfl) rfl 2 rfl rfl ?_
  refine HO.nil ?_
  refine hK5 _ _ ?_
  refine HW.ret ?_
  refine ⟨sv ov, Res.one rfl rfl, (by have := hown.app hap; simpa using this)⟩

set_option maxRecDepth 100000 in
theorem cloneB_any {h : Heap} {a : Option Addr} {n c : Nat} {l : List UInt8} (hl : Sl h 1 (.slice a n c) (l.map bv)) (hN : l.length ≤ 1000000000000) :
    HC Try.prog 27 #[.slice a n c] h (fun r h' => Own h h' 1 5 r (l.map bv)) := by
  have hra := hl.cells
  have hla : l.length = n := by simpa using hra.len
  have hown : Own h (h.push (.cells #[] 5 (0, 0))) 1 5 (.slice (some ⟨h.size, 0, none⟩) 0 0) [] := Own.new (cs := #[]) (Ext.refl h) rfl (by omega)
  refine HC.body Try.func27 rfl (by kernel_rfl) 8 rfl rfl ?_
  refine HW.seq fun K1 hK1 => ?_
  refine HW.region ?_   -- region 0 bytes.go:1391
  refine HO.v (V.asS rfl) rfl 2 rfl rfl ?_
  refine HO.nil ?_
  refine hK1 _ _ ?_
  refine HW.seq fun K2 hK2 => ?_
  refine HW.seq fun K3 hK3 => ?_
  refine HW.region ?_   -- region 1 bytes.go:1392
  refine HO.v (V.mvS rfl) rfl 3 rfl rfl ?_
  refine HO.v (V.slEqNil rfl rfl T.el30) rfl 4 rfl rfl ?_
  refine HO.nil ?_
  refine hK3 _ _ ?_
  refine HW.cond rfl (fun hc => ?_) (fun hc => ?_)
  · -- then
    refine HW.seq fun K4 hK4 => ?_
    refine HW.region ?_   -- region 2 bytes.go:1393
    refine HO.v (V.asS rfl) rfl 2 rfl rfl ?_
    refine HO.nil ?_
    refine hK4 _ _ ?_
    refine HW.ret ?_
    refine ⟨.slice none 0 0, Res.one rfl rfl, (by cases a with | none => (have : n = 0 := (by cases Nat.eq_zero_or_pos n with | inl e => exact e | inr e => (obtain ⟨b, o, hb, _⟩ := hra.pos e; cases hb)); have : l = [] := List.eq_nil_of_length_eq_zero (by omega); subst this; exact Own.nil (Ext.refl h) _ _) | some _ => cases hc)⟩
  refine HW.skip ?_
  refine hK2 _ _ ?_
  refine HW.seq fun K5 hK5 => ?_
  refine HW.region ?_   -- region 3 bytes.go:1395
  refine HO.e (V.buildSlice [] (cs := #[]) T.el30 T.sz5 T.zr5 rfl rfl rfl trivial rfl) rfl 5 rfl rfl ?_
  refine HO.v (V.mvS rfl) rfl 6 rfl rfl ?_
  refine HO.a (V.append rfl rfl T.el30 T.sz5 T.by5 T.zr5 rfl hown.cap (hl.ext (Ext.push _ _)) (bv_ones l) (by simp; omega)) rfl 7 rfl rfl ?_
  rintro _ _ hap
  obtain ⟨ov, rfl⟩ := hap.cap.form
  refine HO.v (V.asS rfl) rfl 2 rfl rfl ?_
  refine HO.nil ?_
  refine hK5 _ _ ?_
  refine HW.ret ?_
  refine ⟨sv ov, Res.one rfl rfl, (by have := hown.app hap; simpa using this)⟩

set_option maxRecDepth 100000 in
theorem delete_any {h : Heap} {a : Option Addr} {n c i j : Nat} {l : List Int} (hcap : Cap h 1 3 (.slice a n c) (l.map iv)) (hij : i ≤ j) (hj : j ≤ n) (hN : l.length ≤ 1000000000000) :
    HC Try.prog 42 #[.slice a n c, .int .i64 i, .int .i64 j] h (fun r h' => r = .slice a (n - (j - i)) c ∧ Cap h' 1 3 (.slice a (n - (j - i)) c) ((l.take i ++ l.drop j).map iv) ∧ Chg (blkC (.slice a n c)) h h') := by
  have hsl := hcap.sl
  have hra := hsl.cells
  have hcm := hsl.bd
  have hla : l.length = n := by simpa using hra.len
  have hnc : n ≤ c := hcap.le
  refine HC.body Try.func42 rfl (by kernel_rfl) 33 rfl rfl ?_
  refine HW.seq fun K1 hK1 => ?_
  refine HW.region ?_   -- region 0 slices.go:224
  refine HO.v (V.asS rfl) rfl 6 rfl rfl ?_
  refine HO.nil ?_
  refine hK1 _ _ ?_
  refine HW.seq fun K2 hK2 => ?_
  refine HW.region ?_   -- region 1 slices.go:225
  refine HO.v (V.mvS rfl) rfl 8 rfl rfl ?_
  refine HO.v (V.mvI rfl) rfl 9 rfl rfl ?_
  refine HO.v (V.mvI rfl) rfl 10 rfl rfl ?_
  refine HO.v (V.mvS rfl) rfl 11 rfl rfl ?_
  refine HO.v (V.len rfl T.el31) rfl 12 rfl rfl ?_
  refine HO.v (V.slice_lhm rfl rfl rfl rfl T.el31 T.sz3 (by omega) (by omega) (by omega)) rfl 13 rfl rfl ?_
  refine HO.nil ?_
  refine hK2 _ _ ?_
  refine HW.seq fun K3 hK3 => ?_
  refine HW.seq fun K4 hK4 => ?_
  refine HW.region ?_   -- region 2 slices.go:227
  refine HO.v (V.mvI rfl) rfl 14 rfl rfl ?_
  refine HO.v (V.mvI rfl) rfl 15 rfl rfl ?_
  refine HO.v (V.eql rfl rfl rfl) rfl 16 rfl rfl ?_
  refine HO.nil ?_
  refine hK4 _ _ ?_
  refine HW.cond rfl (fun hc => ?_) (fun hc => ?_)
  · -- then
    refine HW.seq fun K5 hK5 => ?_
    refine HW.region ?_   -- region 3 slices.go:228
    refine HO.v (V.mvS rfl) rfl 17 rfl rfl ?_
    refine HO.v (V.asS rfl) rfl 6 rfl rfl ?_
    refine HO.nil ?_
    refine hK5 _ _ ?_
    refine HW.ret ?_
    refine ⟨.slice a n c, Res.one rfl rfl, (by have := of_decide_eq_true hc; have e : i = j := (by omega); subst e; simp), (by have := of_decide_eq_true hc; have e : i = j := (by omega); subst e; simpa using hcap), Chg.refl _ _⟩
  refine HW.skip ?_
  refine hK3 _ _ ?_
  refine HW.seq fun K6 hK6 => ?_
  refine HW.region ?_   -- region 4 slices.go:231
  refine HO.v (V.mvS rfl) rfl 18 rfl rfl ?_
  refine HO.v (V.len rfl T.el31) rfl 19 rfl rfl ?_
  refine HO.v (V.asI rfl) rfl 7 rfl rfl ?_
  refine HO.nil ?_
  refine hK6 _ _ ?_
  refine HW.seq fun K7 hK7 => ?_
  have hne := of_decide_eq_false hc
  obtain ⟨b, o, rfl, _⟩ := hra.pos (by omega)
  have hcut := hsl.cut (l := j) (q := n - j) (by omega)
  have hij2 : i < j := by omega
  refine HW.tail 6 mixed (by kernel_rfl) ?_   -- region 5 slices.go:232
  simp only [List.take_succ_cons, List.take_zero, List.drop_succ_cons, List.drop_zero]
  refine HT.v (V.mvS rfl) rfl 20 rfl rfl ?_
  refine HT.v (V.mvI rfl) rfl 21 rfl rfl ?_
  refine HT.v (V.slice_h rfl rfl T.el31 T.sz3 (by omega)) rfl 22 rfl rfl ?_
  refine HT.v (V.mvS rfl) rfl 23 rfl rfl ?_
  refine HT.v (V.mvI rfl) rfl 24 rfl rfl ?_
  refine HT.v (V.slice_l rfl rfl T.el31 T.sz3 (by omega)) rfl 25 rfl rfl ?_
  refine HT.nil ?_
  refine HO.a (V.append rfl rfl T.el31 T.sz3 T.by3 T.zr3 rfl (hcap.pre (by omega)) hcut (fun u hu => iv_ones l u (List.mem_of_mem_drop (List.mem_of_mem_take hu))) (by simp; omega)) rfl 26 rfl rfl ?_
  rintro _ _ hap
  obtain rfl := hap.inplace (some ⟨b, o, none⟩) i c (n - (j - i)) rfl (by simp; omega) (by omega)
  obtain ⟨zs, hsub⟩ := hap.cap.sub (l := n - (j - i)) (q := j - i) (by omega) (by omega)
  rw [cutA_some (by omega), show j - i = (j - i - 1) + 1 by omega] at hsub
  refine HO.v (V.asS rfl) rfl 0 rfl rfl ?_
  refine HO.nil ?_
  refine hK7 _ _ ?_
  refine HW.seq fun K8 hK8 => ?_
  refine HW.region ?_   -- region 6 slices.go:233
  refine HO.v (V.mvS rfl) rfl 27 rfl rfl ?_
  refine HO.v (V.mvS rfl) rfl 28 rfl rfl ?_
  refine HO.v (V.len rfl T.el31) rfl 29 rfl rfl ?_
  refine HO.v (V.mvI rfl) rfl 30 rfl rfl ?_
  refine HO.v (V.slice_lh rfl rfl rfl T.el31 T.sz3 (by omega) (by omega)) rfl 31 rfl rfl ?_
  have hx31 : Value.slice (cutA (some ⟨b, o, none⟩) (n - (j - i)) c 1) (n - (n - (j - i))) (c - (n - (j - i))) = .slice (some ⟨b, o + (n - (j - i - 1 + 1)) * 1, none⟩) (j - i - 1 + 1) (c - (n - (j - i - 1 + 1))) := by rw [cutA_some (by omega)]; congr <;> omega
  refine HO.a0 (V.clear hx31 T.el31 T.zr3 rfl (fun u hu => by have : u = .int .i64 0 := zc_int u hu; subst this; rfl) hsub) rfl rfl ?_
  rintro _ _ ⟨_, ys, hst⟩
  refine HO.nil ?_
  refine hK8 _ _ ?_
  refine HW.seq fun K9 hK9 => ?_
  refine HW.region ?_   -- region 7 slices.go:234
  refine HO.v (V.mvS rfl) rfl 32 rfl rfl ?_
  refine HO.v (V.asS rfl) rfl 6 rfl rfl ?_
  refine HO.nil ?_
  refine hK9 _ _ ?_
  refine HW.ret ?_
  refine ⟨.slice (some ⟨b, o, none⟩) (n - (j - i)) c, Res.one rfl rfl, rfl, ?_, ?_⟩
  · have h1 := hap.cap.re hst.shape (fun b' o' j' v hb' hj' hv => hst.kept b' (o' + j') v hv (fun o2 n2 c2 e2 => by
      injection hb' with e; injection e with e3 e4; injection e2 with e5 e6 e7; injection e5 with e5; injection e5 with e8 e9
      left; omega))
    have e : (List.map iv l).take (i * 1) ++ List.take ((n - j) * 1) (List.drop (j * 1) (List.map iv l)) = (l.take i ++ l.drop j).map iv := by
      rw [Nat.mul_one, Nat.mul_one, Nat.mul_one, List.map_append, ← List.map_take, ← List.map_drop]
      congr 1
      exact List.take_of_length_le (by simp; omega)
    rw [e] at h1
    exact h1
  · refine (hap.chg.mono fun x _ hx => ?_).trans (hst.chg.mono fun x _ hx => ?_)
    · obtain ⟨o2, n2, c2, e2⟩ := hx; injection e2 with e5; injection e5 with e5; injection e5 with e8; subst e8; exact ⟨_, _, _, rfl⟩
    · obtain ⟨o2, n2, c2, e2⟩ := hx; injection e2 with e5; injection e5 with e5; injection e5 with e8; subst e8; exact ⟨_, _, _, rfl⟩

end Go.Proofs.Ytdbiggfnnhmpiaa
