/- The order of a cache: forget and touch. Conditions: lengths below a bound. -/
import Derived.Test.YtdbiggfnnhmpiaaCaLib
namespace Go.Proofs.Ytdbiggfnnhmpiaa
open Go Go.HL

theorem index_is {h : Heap} {a : Option Addr} {n c : Nat} {v z : Int} {l : List Int} (hz : z = ixOf v l) (hl : Sl h 1 (.slice a n c) (l.map iv)) :
    HC Try.prog 41 #[.slice a n c, .int .i64 v] h (fun r h' => r = .int .i64 z ∧ h' = h) := by
  subst hz; exact index_any hl
theorem ixOf_ge {v : Int} : ∀ {l : List Int}, 0 ≤ ixOf v l → ∃ k : Nat, ixOf v l = (k : Int) ∧ k < l.length ∧ l.take k ++ l.drop (k + 1) = l.erase v
  | [], h => by simp [ixOf] at h
  | x :: l, h => by
    unfold ixOf at h ⊢
    by_cases hx : x = v
    · subst hx; rw [if_pos rfl]; exact ⟨0, rfl, by simp, by simp⟩
    · rw [if_neg hx] at h ⊢
      by_cases hn : ixOf v l < 0
      · rw [if_pos hn] at h; omega
      · rw [if_neg hn] at h ⊢
        obtain ⟨k, h1, h2, h3⟩ := ixOf_ge (v := v) (l := l) (by omega)
        refine ⟨k + 1, by omega, by simpa using h2, ?_⟩
        rw [List.take_succ_cons, List.drop_succ_cons, List.cons_append, h3, List.erase_cons_tail (by simpa using hx)]
theorem ixOf_lt {v : Int} {l : List Int} (h : ixOf v l < 0) : v ∉ l := by
  intro hm
  obtain ⟨k, hk, hl⟩ := List.mem_iff_getElem.1 hm
  have : ∃ k, ∃ (hk : k < l.length), l[k] = v ∧ v ∉ l.take k := by
    obtain ⟨m, hm1, hm2⟩ := exists_least (p := fun k => ∃ (hk : k < l.length), l[k] = v) ⟨k, hk, hl⟩
    obtain ⟨h1, h2⟩ := hm1
    refine ⟨m, h1, h2, fun hx => ?_⟩
    obtain ⟨j, hj, hj2⟩ := List.mem_iff_getElem.1 hx
    simp at hj hj2
    exact absurd (hm2 j ⟨by omega, hj2⟩) (by omega)
  obtain ⟨k, hk, h1, h2⟩ := this
  rw [ixOf_some hk h2 h1] at h; omega
def TC : TypeId := 64
def TP : TypeId := 69
/-- What is left of the order's slice and of the cache's own block. -/
structure Ordr (h : Heap) (p : Nat) (rm mp : Value) (ov : SV) (xs : List Int) : Prop where
  hp : h[p]? = some (.cells #[sv ov, rm, mp] 64 (0, 0))
  ord : Cap h 1 3 (sv ov) (xs.map iv)
theorem Ordr.ne {h : Heap} {p : Nat} {rm mp : Value} {ov : SV} {xs : List Int} (r : Ordr h p rm mp ov xs) : ∀ b, blkC (sv ov) b → b ≠ p := fun b hb e => by
  subst e
  obtain ⟨cs, fz, h1⟩ := r.ord.blk hb
  rw [r.hp] at h1; injection h1 with h1; injection h1 with _ h1; cases h1
theorem Ordr.lt {h : Heap} {p : Nat} {rm mp : Value} {ov : SV} {xs : List Int} (r : Ordr h p rm mp ov xs) : p < h.size := block_lt r.hp
/-- What a call on the order leaves. -/
structure Turned (h : Heap) (p : Nat) (rm mp : Value) (ov : SV) (ys : List Int) (h' : Heap) (ov' : SV) : Prop where
  ordr : Ordr h' p rm mp ov' ys
  chg : Chg (fun b => b = p ∨ blkC (sv ov) b) h h'
  place : ∀ b, blkC (sv ov') b → blkC (sv ov) b ∨ h.size ≤ b

set_option maxRecDepth 100000 in
theorem forget_any {h : Heap} {p : Nat} {rm mp : Value} {ov : SV} {xs : List Int} {no : Int} (r : Ordr h p rm mp ov xs) (hN : xs.length ≤ 1000000000000) :
    HC Try.prog 37 #[.pointer (some ⟨p, 0, none⟩), .int .i64 no] h (fun v h' => ∃ ov', v = .tuple #[] ∧ Turned h p rm mp ov (xs.erase no) h' ov') := by
  obtain ⟨a, n, c⟩ := ov
  obtain ⟨z, hz⟩ : ∃ z, z = ixOf no xs := ⟨_, rfl⟩
  have hord : Cap h 1 3 (.slice a n c) (xs.map iv) := r.ord
  have hla : xs.length = n := by simpa using hord.sl.cells.len
  have hnc : n ≤ c := hord.le
  have hbd : c ≤ 9223372036854775807 := hord.bd
  refine HC.body Try.func37 rfl (by kernel_rfl) 24 rfl rfl ?_
  refine HW.seq fun K1 hK1 => ?_
  refine HW.region ?_   -- region 0 cache.go:29
  refine HO.v (V.mvP rfl) rfl 5 rfl rfl ?_
  refine HO.v (V.nilCheck rfl) rfl 6 rfl rfl ?_
  refine HO.v (V.fieldAddr rfl T.fd62_0) rfl 7 rfl rfl ?_
  refine HO.v (V.load rfl (load_one T.ag31 (v := sv (a, n, c)) (cell_of r.hp 0))) rfl 8 rfl rfl ?_
  refine HO.v (V.mvI rfl) rfl 9 rfl rfl ?_
  refine HO.c OpC.func rfl 10 rfl rfl (index_is hz hord.sl) ?_
  rintro _ _ ⟨rfl, rfl⟩
  refine HO.v (V.asI rfl) rfl 4 rfl rfl ?_
  refine HO.nil ?_
  refine hK1 _ _ ?_
  refine HW.seq fun K2 hK2 => ?_
  refine HW.region ?_   -- region 1 cache.go:29
  refine HO.v (V.mvI rfl) rfl 11 rfl rfl ?_
  refine HO.v (V.geq rfl rfl rfl) rfl 12 rfl rfl ?_
  refine HO.nil ?_
  refine hK2 _ _ ?_
  refine HW.condr rfl (fun hc => ?_) (fun hc => ?_)
  · -- else
    refine HW.skip ?_
    refine ⟨.tuple #[], Res.none rfl, (a, n, c), rfl, ⟨(by have h1 := of_decide_eq_false hc; rw [List.erase_of_not_mem (ixOf_lt (by omega))]; exact r), Chg.refl _ _, fun b hb => .inl hb⟩⟩
  have hge := of_decide_eq_true hc
  obtain ⟨k, hk1, hk2, hk3⟩ := ixOf_ge (v := no) (l := xs) (by omega)
  obtain rfl : z = (k : Int) := by omega
  refine HW.region ?_   -- region 2 cache.go:30
  refine HO.v (V.mvP rfl) rfl 13 rfl rfl ?_
  refine HO.v (V.mvP rfl) rfl 14 rfl rfl ?_
  refine HO.v (V.nilCheck rfl) rfl 15 rfl rfl ?_
  refine HO.v (V.fieldAddr rfl T.fd62_0) rfl 16 rfl rfl ?_
  refine HO.v (V.load rfl (load_one T.ag31 (v := sv (a, n, c)) (cell_of r.hp 0))) rfl 17 rfl rfl ?_
  refine HO.v (V.mvI rfl) rfl 18 rfl rfl ?_
  refine HO.v (V.mvI rfl) rfl 19 rfl rfl ?_
  refine HO.v (V.add rfl rfl (by omega)) rfl 20 rfl rfl ?_
  refine HO.c OpC.func rfl 21 rfl rfl (delete_any (n := n) (c := c) (i := k) (j := k + 1) hord (by omega) (by omega) hN) ?_
  rintro _ h2 ⟨rfl, hcap, hchg⟩
  refine HO.v (V.nilCheck rfl) rfl 22 rfl rfl ?_
  refine HO.v (V.fieldAddr rfl T.fd62_0) rfl 23 rfl rfl ?_
  have hb2 : h2[p]? = some (.cells #[sv (a, n, c), rm, mp] 64 (0, 0)) := hchg.block r.hp (fun hb => r.ne _ hb rfl)
  refine HO.u (V.storeS (cs' := #[sv (a, n - (k + 1 - k), c), rm, mp]) rfl rfl T.sz31 hb2 (by simp) (by simp) rfl) rfl rfl ?_
  refine HO.nil ?_
  refine ⟨.tuple #[], Res.none rfl, (a, n - (k + 1 - k), c), rfl, ⟨?_, ?_, ?_⟩⟩
  · refine ⟨hput_same hb2, ?_⟩
    rw [← hk3]
    exact hcap.chg (hput_chg _ _ _) (fun b hb e => r.ne b (by obtain ⟨o, n', c', hv⟩ := hb; injection hv with h1 h2 h3; subst h1; exact ⟨_, _, _, rfl⟩) e)
  · exact (hchg.mono fun x _ hx => .inr hx).trans ((hput_chg _ _ _).mono fun x _ hx => .inl hx)
  · intro b hb
    left
    obtain ⟨o, n', c', hv⟩ := hb; injection hv with h1 h2 h3; subst h1; exact ⟨_, _, _, rfl⟩

set_option maxRecDepth 100000 in
theorem touch_any {h : Heap} {p : Nat} {rm mp : Value} {ov : SV} {xs : List Int} {no : Int} (r : Ordr h p rm mp ov xs) (hN : xs.length ≤ 1000000000) :
    HC Try.prog 26 #[.pointer (some ⟨p, 0, none⟩), .int .i64 no] h (fun v h' => ∃ ov', v = .tuple #[] ∧ Turned h p rm mp ov (xs.erase no ++ [no]) h' ov') := by
  refine HC.body Try.func26 rfl (by kernel_rfl) 17 rfl rfl ?_
  refine HW.seq fun K1 hK1 => ?_
  refine HW.region ?_   -- region 0 cache.go:23
  refine HO.v (V.mvP rfl) rfl 4 rfl rfl ?_
  refine HO.v (V.mvI rfl) rfl 5 rfl rfl ?_
  refine HO.c OpC.func rfl 6 rfl rfl (forget_any r (by omega)) ?_
  rintro _ h1 ⟨ov1, rfl, t1⟩
  refine HO.nil ?_
  refine hK1 _ _ ?_
  refine HW.region ?_   -- region 1 cache.go:24
  refine HO.v (V.mvP rfl) rfl 7 rfl rfl ?_
  refine HO.v (V.mvP rfl) rfl 8 rfl rfl ?_
  refine HO.v (V.nilCheck rfl) rfl 9 rfl rfl ?_
  refine HO.v (V.fieldAddr rfl T.fd62_0) rfl 10 rfl rfl ?_
  refine HO.v (V.load rfl (load_one T.ag31 (v := sv ov1) (cell_of t1.ordr.hp 0))) rfl 11 rfl rfl ?_
  refine HO.v (V.mvI rfl) rfl 12 rfl rfl ?_
  refine HO.e (V.buildSlice [.tmp 12] (cs := #[.int .i64 no]) T.el31 T.sz3 T.zr3 rfl rfl rfl ⟨rfl, trivial⟩ rfl) rfl 13 rfl rfl ?_
  refine HO.a (V.append rfl rfl T.el31 T.sz3 T.by3 T.zr3 rfl (t1.ordr.ord.ext (Ext.push _ _)) (sl_new (n := 1) rfl (by omega)) (iv_one no) (by have := List.length_erase_le (a := no) (l := xs); simp; omega)) rfl 14 rfl rfl ?_
  rintro _ h2 hap
  obtain ⟨ov2, rfl⟩ := hap.cap.form
  have hb2 := hap.chg.block (push_other t1.ordr.hp) (fun hb => t1.ordr.ne _ hb rfl)
  refine HO.v (V.nilCheck rfl) rfl 15 rfl rfl ?_
  refine HO.v (V.fieldAddr rfl T.fd62_0) rfl 16 rfl rfl ?_
  refine HO.u (V.storeS (cs' := #[sv ov2, rm, mp]) rfl rfl T.sz31 hb2 (by simp) (by simp) rfl) rfl rfl ?_
  refine HO.nil ?_
  refine ⟨.tuple #[], Res.none rfl, ov2, rfl, ⟨?_, ?_, ?_⟩⟩
  · refine ⟨hput_same hb2, ?_⟩
    have := hap.cap.chg (hput_chg _ p #[sv ov2, rm, mp]) (fun b hb e => by
      subst e
      obtain ⟨cs, fz, h1⟩ := hap.cap.blk hb
      rw [hb2] at h1; injection h1 with h1; injection h1 with _ h1; cases h1)
    simpa [iv] using this
  · have c1 : Chg (fun b => b = p ∨ blkC (sv ov) b) h h2 := (t1.chg.trans (Ext.push h1 _).to).trans' hap.chg (fun b hb hk => by
      rcases t1.place b hk with hk | hk
      · exact .inr hk
      · omega)
    exact c1.trans ((hput_chg _ _ _).mono fun x _ hx => .inl hx)
  · intro b hb
    rcases hap.place b hb with hb | hb
    · exact t1.place b hb
    · right
      have := t1.chg.size
      simp at hb; omega

end Go.Proofs.Ytdbiggfnnhmpiaa
