/- slices.Reverse over ints and the method Pages of a cache. Conditions: the cache is well laid. -/
import Derived.Test.YtdbiggfnnhmpiaaCaImp4
namespace Go.Proofs.Ytdbiggfnnhmpiaa
open Go Go.HL

theorem Cap.at1 {h : Heap} {e : TypeId} {b o n c : Nat} {xs : List Int} (r : Cap h 1 e (.slice (some ⟨b, o, none⟩) n c) (xs.map iv)) {i : Nat} (hi : i < xs.length) : cell h b (o + i) = some (.int .i64 xs[i]) := by
  have hl := r.sl.cells.len
  obtain ⟨b', o', he, hc⟩ := r.sl.cells.pos (by simp at hl; omega)
  injection he with he; injection he with h1 h2; subst h1 h2
  exact hc i _ (by simp [hi, iv])
/-- A list whose outer k and k are turned about. -/
structure Rv (l zs : List Int) (k : Nat) : Prop where
  len : zs.length = l.length
  two : 2 * k ≤ l.length
  out : ∀ t, t < l.length → (t < k ∨ l.length - 1 - k < t) → zs[t]? = l[l.length - 1 - t]?
  mid : ∀ t, k ≤ t → t ≤ l.length - 1 - k → zs[t]? = l[t]?
theorem Rv.zero (l : List Int) : Rv l l 0 := ⟨rfl, by omega, fun t h1 h2 => by omega, fun _ _ _ => rfl⟩
theorem Rv.next {l zs : List Int} {k : Nat} (r : Rv l zs k) {j : Nat} (hj : j + 1 + k = l.length) (hk : k < j) (h1 : k < zs.length) (h2 : j < zs.length) : Rv l ((zs.set k zs[j]).set j zs[k]) (k + 1) := by
  have hl := r.len
  have e1 : some zs[j] = l[l.length - 1 - k]? := by rw [show l.length - 1 - k = j by omega, ← r.mid j (by omega) (by omega)]; simp [h2]
  have e2 : some zs[k] = l[l.length - 1 - j]? := by rw [show l.length - 1 - j = k by omega, ← r.mid k (by omega) (by omega)]; simp [h1]
  refine ⟨by simp [hl], by omega, fun t ht ho => ?_, fun t h3 h4 => ?_⟩
  · rw [List.getElem?_set, List.getElem?_set]
    by_cases hjt : j = t
    · subst hjt; rw [if_pos rfl, if_pos (by simp; omega), e2]
    · rw [if_neg hjt]
      by_cases hkt : k = t
      · subst hkt; rw [if_pos rfl, if_pos h1, e1]
      · rw [if_neg hkt, r.out t ht (by omega)]
  · rw [List.getElem?_set, List.getElem?_set, if_neg (by omega), if_neg (by omega)]
    exact r.mid t (by omega) (by omega)
theorem Rv.done {l zs : List Int} {k : Nat} (r : Rv l zs k) (h : l.length ≤ 2 * k + 1) : zs = l.reverse := by
  have hl := r.len
  apply List.ext_getElem?
  intro t
  by_cases ht : t < l.length
  · rw [List.getElem?_reverse ht]
    by_cases ho : t < k ∨ l.length - 1 - k < t
    · exact r.out t ht ho
    · have := r.two
      rw [r.mid t (by omega) (by omega)]; congr 1; omega
  · rw [List.getElem?_eq_none (by omega), List.getElem?_eq_none (by simp; omega)]

set_option maxRecDepth 100000 in
theorem reverse_any {h : Heap} {a : Option Addr} {n c : Nat} {l : List Int} (hcap : Cap h 1 3 (.slice a n c) (l.map iv)) :
    HC Try.prog 30 #[.slice a n c] h (fun r h' => r = .tuple #[] ∧ Cap h' 1 3 (.slice a n c) (l.reverse.map iv) ∧ Chg (blkC (.slice a n c)) h h') := by
  have hle := hcap.le
  have hbd := hcap.bd
  have hln : l.length = n := by simpa using hcap.sl.cells.len
  refine HC.body Try.func30 rfl (by kernel_rfl) 28 rfl rfl ?_
  refine HW.seq fun K1 hK1 => ?_
  refine HW.region ?_   -- region 0 slices.go:484
  refine HO.v (V.mvS rfl) rfl 4 rfl rfl ?_
  refine HO.v (V.len rfl T.el31) rfl 5 rfl rfl ?_
  refine HO.v (V.sub rfl rfl (by omega)) rfl 6 rfl rfl ?_
  refine HO.v (V.asI rfl) rfl 2 rfl rfl ?_
  refine HO.v (V.asI rfl) rfl 3 rfl rfl ?_
  refine HO.nil ?_
  refine hK1 _ _ ?_
  refine HW.block ?_   -- block 0
  have htwo0 := hln
  refine HW.loopm (fun m s hh => ∃ k : Nat, Has s [(0, .slice a n c), (2, .int .i64 k), (3, .int .i64 ((n : Int) - 1 - k))] ∧ (∃ zs : List Int, Cap hh 1 3 (.slice a n c) (zs.map iv) ∧ Chg (blkC (.slice a n c)) h hh ∧ Rv l zs k) ∧ m = n - k) ?_ ?_
  · exact ⟨_, 0, ⟨rfl, rfl, (by show Value.int _ _ = Value.int _ _; congr 1; omega), trivial⟩, ⟨l, hcap, Chg.refl _ _, Rv.zero l⟩, rfl⟩
  rintro m s hh ⟨k, hs, ⟨zs, hz, hch, hrv⟩, rfl⟩ J2 hJ2
  refine HW.frame hs fun τ => ?_
  refine HW.seq fun K3 hK3 => ?_
  refine HW.seq fun K4 hK4 => ?_
  refine HW.region ?_   -- region 1 slices.go:484
  refine HO.v (V.mvI rfl) rfl 7 rfl rfl ?_
  refine HO.v (V.mvI rfl) rfl 8 rfl rfl ?_
  refine HO.v (V.lss rfl rfl rfl) rfl 9 rfl rfl ?_
  refine HO.nil ?_
  refine hK4 _ _ ?_
  refine HW.condr rfl (fun hc => ?_) (fun hc => ?_)
  · -- else
    refine HW.exit ?_
    refine ⟨.tuple #[], Res.none rfl, rfl, (by have h1 := of_decide_eq_false hc; rw [← hrv.done (by omega)]; exact hz), hch⟩
  refine HW.skip ?_
  refine hK3 _ _ ?_
  refine HW.seq fun K5 hK5 => ?_
  have hlt := of_decide_eq_true hc
  have htwo := hrv.two
  have hzl := hrv.len
  obtain ⟨j, hj⟩ : ∃ j : Nat, (n : Int) - 1 - k = j := ⟨n - 1 - k, by omega⟩
  have hj1 : j + 1 + k = l.length := by omega
  have hkj : k < j := by omega
  have hk2 : k < zs.length := by omega
  have hj2 : j < zs.length := by omega
  obtain ⟨b, o, rfl, _⟩ := hz.sl.cells.pos (by omega)
  rw [hj]
  refine HW.block ?_   -- block 1
  refine HW.any 13 (fun fl h => cond fl True (Cap h 1 3 (.slice (some ⟨b, o, none⟩) n c) (zs.map iv))) mixed ?_   -- region 3 slices.go:485 (16 operations)
  have hS : Cap hh 1 3 (.slice (some ⟨b, o, none⟩) n c) (zs.map iv) := hz
  refine HA.p 0 rfl (by kernel_rfl) (by kernel_rfl) (by kernel_rfl) rfl rfl 14 rfl rfl (fl := false) (by kernel_rfl) hS (fun _ => V.mvS rfl) ?_
  refine HA.p 1 rfl (by kernel_rfl) (by kernel_rfl) (by kernel_rfl) rfl rfl 15 rfl rfl (fl := false) (by kernel_rfl) hS (fun _ => V.mvI rfl) ?_
  refine HA.p 2 rfl (by kernel_rfl) (by kernel_rfl) (by kernel_rfl) rfl rfl 16 rfl rfl (fl := false) (by kernel_rfl) hS (fun _ => V.mvS rfl) ?_
  refine HA.p 3 rfl (by kernel_rfl) (by kernel_rfl) (by kernel_rfl) rfl rfl 17 rfl rfl (fl := false) (by kernel_rfl) hS (fun _ => V.mvI rfl) ?_
  refine HA.p 4 rfl (by kernel_rfl) (by kernel_rfl) (by kernel_rfl) rfl rfl 18 rfl rfl (fl := false) (by kernel_rfl) hS (fun _ => V.mvS rfl) ?_
  refine HA.p 5 rfl (by kernel_rfl) (by kernel_rfl) (by kernel_rfl) rfl rfl 19 rfl rfl (fl := false) (by kernel_rfl) hS (fun _ => V.mvI rfl) ?_
  refine HA.p 6 rfl (by kernel_rfl) (by kernel_rfl) (by kernel_rfl) rfl rfl 20 rfl rfl (fl := false) (by kernel_rfl) hS (fun _ => V.indexAddr1 rfl rfl T.el31 T.sz3 (by omega)) ?_
  have hg : ∀ h', Cap h' 1 3 (.slice (some ⟨b, o, none⟩) n c) (zs.map iv) → LoadIs Try.prog h' 3 ⟨b, o + (j : Int).toNat, none⟩ (.int .i64 (zs[j]'hj2)) := fun h' hS => load_one T.ag3 (Cap.at1 hS hj2)
  have hg2 : ∀ h', Cap h' 1 3 (.slice (some ⟨b, o, none⟩) n c) (zs.map iv) → LoadIs Try.prog h' 3 ⟨b, o + (k : Int).toNat, none⟩ (.int .i64 (zs[k]'hk2)) := fun h' hS => load_one T.ag3 (Cap.at1 hS hk2)
  refine HA.v 7 (v := .int .i64 (zs[j]'hj2)) rfl (by kernel_rfl) (by kernel_rfl) (by kernel_rfl) rfl rfl 21 rfl rfl (fl := false) (by kernel_rfl) hS (by kernel_rfl) (fun h' hS => V.load rfl (hg h' hS)) ?_
  refine HA.p 8 rfl (by kernel_rfl) (by kernel_rfl) (by kernel_rfl) rfl rfl 22 rfl rfl (fl := false) (by kernel_rfl) hS (fun _ => V.mvS rfl) ?_
  refine HA.p 9 rfl (by kernel_rfl) (by kernel_rfl) (by kernel_rfl) rfl rfl 23 rfl rfl (fl := false) (by kernel_rfl) hS (fun _ => V.mvI rfl) ?_
  refine HA.p 10 rfl (by kernel_rfl) (by kernel_rfl) (by kernel_rfl) rfl rfl 24 rfl rfl (fl := false) (by kernel_rfl) hS (fun _ => V.indexAddr1 rfl rfl T.el31 T.sz3 (by omega)) ?_
  refine HA.v 11 (v := .int .i64 (zs[k]'hk2)) rfl (by kernel_rfl) (by kernel_rfl) (by kernel_rfl) rfl rfl 25 rfl rfl (fl := false) (by kernel_rfl) hS (by kernel_rfl) (fun h' hS => V.load rfl (hg2 h' hS)) ?_
  refine HA.p 12 rfl (by kernel_rfl) (by kernel_rfl) (by kernel_rfl) rfl rfl 26 rfl rfl (fl := false) (by kernel_rfl) hS (fun _ => V.indexAddr1 rfl rfl T.el31 T.sz3 (by omega)) ?_
  refine HA.one 13 (by kernel_rfl) ?_
  refine Up.ur rfl rfl rfl (V.storeCI rfl rfl T.sz3 hS (by omega)) (fl := true) (by kernel_rfl) ?_
  rintro h1 s1
  refine ⟨trivial, ?_⟩
  refine HA.p 14 rfl (by kernel_rfl) (by kernel_rfl) (by kernel_rfl) rfl rfl 27 rfl rfl (fl := true) (by kernel_rfl) trivial (fun _ => V.indexAddr1 rfl rfl T.el31 T.sz3 (by omega)) ?_
  refine HA.one 15 (by kernel_rfl) ?_
  refine Up.ur rfl rfl rfl (V.storeCI rfl rfl T.sz3 s1.cap (by omega)) (fl := true) (by kernel_rfl) ?_
  rintro h2 s2
  refine ⟨trivial, ?_⟩
  refine HA.done (by kernel_rfl) ?_
  refine hK5 _ _ ?_
  refine HW.region ?_   -- region 2 slices.go:484
  refine HO.v (V.mvI rfl) rfl 10 rfl rfl ?_
  refine HO.v (V.add rfl rfl (by omega)) rfl 11 rfl rfl ?_
  refine HO.v (V.mvI rfl) rfl 12 rfl rfl ?_
  refine HO.v (V.sub rfl rfl (by omega)) rfl 13 rfl rfl ?_
  refine HO.v (V.asI rfl) rfl 2 rfl rfl ?_
  refine HO.v (V.asI rfl) rfl 3 rfl rfl ?_
  refine HO.nil ?_
  refine hJ2 _ _ _ ⟨k + 1, ⟨rfl, rfl, (by show Value.int _ _ = Value.int _ _; congr 1; omega), trivial⟩, ⟨_, ?_, ?_, hrv.next hj1 hkj hk2 hj2⟩, rfl⟩ (by omega)
  · have := s2.cap
    simpa [List.map_set, iv] using this
  · refine hch.trans ((s1.chg.trans s2.chg).mono fun x _ hx => ?_)
    subst hx
    exact ⟨o, n, c, rfl⟩

set_option maxRecDepth 100000 in
theorem pages_any {h : Heap} {F : Nat → Prop} {p : Nat} {room : Int} {L : List AP} (r : CRep h F p room L) :
    HC Try.prog 11 #[ptr p] h (fun v h' => Own h h' 1 3 v ((nos L).map iv)) := by
  obtain ⟨m, ov, ks, q, r⟩ := r
  refine HC.body Try.func11 rfl (by kernel_rfl) 15 rfl rfl ?_
  refine HW.seq fun K1 hK1 => ?_
  refine HW.region ?_   -- region 0 cache.go:129
  refine HO.v (V.asS rfl) rfl 2 rfl rfl ?_
  refine HO.nil ?_
  refine hK1 _ _ ?_
  refine HW.seq fun K2 hK2 => ?_
  refine HW.seq fun K3 hK3 => ?_
  refine HW.region ?_   -- region 1 cache.go:130
  refine HO.v (V.mvP rfl) rfl 4 rfl rfl ?_
  refine HO.v (V.ptrEqNil rfl rfl T.pt23) rfl 5 rfl rfl ?_
  refine HO.nil ?_
  refine hK3 _ _ ?_
  refine HW.cond rfl (fun hc => ?_) (fun hc => ?_)
  · -- then
    refine HW.seq fun K4 hK4 => ?_
    refine HW.region ?_   -- region 2 cache.go:131
    refine HO.v (V.asS rfl) rfl 2 rfl rfl ?_
    refine HO.nil ?_
    refine hK4 _ _ ?_
    refine HW.ret ?_
    refine ⟨.slice none 0 0, Res.one rfl rfl, (by simp at hc)⟩
  refine HW.skip ?_
  refine hK2 _ _ ?_
  refine HW.seq fun K5 hK5 => ?_
  refine HW.region ?_   -- region 3 cache.go:133
  refine HO.v (V.mvP rfl) rfl 6 rfl rfl ?_
  refine HO.v (V.nilCheck rfl) rfl 7 rfl rfl ?_
  refine HO.v (V.fieldAddr rfl T.fd64_0) rfl 8 rfl rfl ?_
  refine HO.v (V.fieldAddr rfl T.fd62_0) rfl 9 rfl rfl ?_
  refine HO.v (V.load rfl (load_one T.ag31 (v := sv ov) (cell_of r.hp 0))) rfl 10 rfl rfl ?_
  refine HO.c OpC.func rfl 11 rfl rfl (cloneI_any r.od.ord.sl (by have := r.len; simp [nos]; omega)) ?_
  rintro _ h1 ow
  obtain ⟨rb, rfl⟩ := ow.cap.form
  refine HO.v (V.asS rfl) rfl 3 rfl rfl ?_
  refine HO.nil ?_
  refine hK5 _ _ ?_
  refine HW.seq fun K6 hK6 => ?_
  refine HW.region ?_   -- region 4 cache.go:134
  refine HO.v (V.mvS rfl) rfl 12 rfl rfl ?_
  refine HO.c OpC.func rfl 13 rfl rfl (reverse_any ow.cap) ?_
  rintro _ h2 ⟨rfl, hcap, hchg⟩
  refine HO.nil ?_
  refine hK6 _ _ ?_
  refine HW.seq fun K7 hK7 => ?_
  refine HW.region ?_   -- region 5 cache.go:135
  refine HO.v (V.mvS rfl) rfl 14 rfl rfl ?_
  refine HO.v (V.asS rfl) rfl 2 rfl rfl ?_
  refine HO.nil ?_
  refine hK7 _ _ ?_
  refine HW.ret ?_
  refine ⟨sv rb, Res.one rfl rfl, ?_⟩
  rw [List.reverse_reverse] at hcap
  exact ⟨hcap, ow.ext.trans' hchg fun b hb hk => absurd (ow.fresh b hk) (by omega), ow.fresh⟩

end Go.Proofs.Ytdbiggfnnhmpiaa
