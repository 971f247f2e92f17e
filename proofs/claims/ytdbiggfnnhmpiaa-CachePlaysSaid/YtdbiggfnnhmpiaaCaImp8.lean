/- The method Drop of a cache, and what the methods answer for a nil cache. Conditions: the cache is well laid, lengths below a bound. -/
import Derived.Test.YtdbiggfnnhmpiaaCaImp7
namespace Go.Proofs.Ytdbiggfnnhmpiaa
open Go Go.HL

def dr (s : List Int) (L : List AP) : List AP := L.filter fun x => decide (x.no ∉ s)
theorem dr_nil (L : List AP) : dr [] L = L := by unfold dr; simp
theorem dr_app (s : List Int) (no : Int) (L : List AP) : rid no (dr s L) = dr (s ++ [no]) L := by
  unfold rid dr
  rw [List.filter_filter]
  apply List.filter_congr
  intro x _
  by_cases h1 : x.no ∈ s <;> by_cases h2 : x.no = no <;> simp [h1, h2]
theorem ints_lt {h : Heap} {v : Value} {l : List Int} (hl : Sl h 1 v (l.map iv)) : ∀ b, blk v b → b < h.size := fun b hb => by
  obtain ⟨o, n, c, rfl, hn⟩ := hb
  have hll := hl.cells.len
  obtain ⟨b', o', he, hc⟩ := hl.cells.pos hn
  injection he with he; injection he with e1 e2; subst e1 e2
  have hl0 : 0 < l.length := by simp at hll; omega
  exact cell_lt (hc 0 (iv l[0]) (by simp [hl0]))
theorem Step.refl (F : Nat → Prop) (h : Heap) : Step F h F h := ⟨Chg.refl _ _, fun _ hb => .inl hb⟩
theorem Step.ext {F F' : Nat → Prop} {h h1 h2 : Heap} (e : Ext h h1) (s : Step F h1 F' h2) : Step F h F' h2 :=
  ⟨e.to.trans s.chg, fun b hb => (s.place b hb).imp id fun k => Nat.le_trans e.size k⟩
theorem blk_blkC {v : Value} {b : Nat} (h : blk v b) : blkC v b := let ⟨o, n, c, e, _⟩ := h; ⟨o, n, c, e⟩

set_option maxRecDepth 100000 in
theorem dropl_any {h : Heap} {F : Nat → Prop} {p : Nat} {room : Int} {L : List AP} (r : CRep h F p room L) {lv : SV} {l : List Int} (hl : Sl h 1 (sv lv) (l.map iv)) (hN : l.length ≤ 1000000000) (hd : ∀ b, blk (sv lv) b → ¬ F b) :
    HC Try.prog 22 #[ptr p, sv lv] h (fun v h' => ∃ F', v = .tuple #[] ∧ CRep h' F' p room (dr (if l = [] then (nos L).reverse else l) L) ∧ Step F h F' h') := by
  obtain ⟨mb, ov, ks, q, r⟩ := r
  obtain ⟨ll, hll⟩ : ∃ ll, ll = if l = [] then (nos L).reverse else l := ⟨_, rfl⟩
  have hln : l.length = lv.2.1 := by
    obtain ⟨a, n, c⟩ := lv
    have hl' : Sl h 1 (.slice a n c) (l.map iv) := hl
    simpa using hl'.cells.len
  have hlb : ll.length ≤ 1000000000 := by
    subst hll
    by_cases e : l = []
    · rw [if_pos e]; have := r.len; simp [nos]; omega
    · rw [if_neg e]; exact hN
  rw [← hll]
  refine HC.body Try.func22 rfl (by kernel_rfl) 27 rfl rfl ?_
  refine HW.seq fun K1 hK1 => ?_
  refine HW.seq fun K2 hK2 => ?_
  refine HW.region ?_   -- region 0 cache.go:117
  refine HO.v (V.mvP rfl) rfl 6 rfl rfl ?_
  refine HO.v (V.ptrEqNil rfl rfl T.pt23) rfl 7 rfl rfl ?_
  refine HO.nil ?_
  refine hK2 _ _ ?_
  refine HW.cond rfl (fun hc => ?_) (fun hc => ?_)
  · -- then
    refine HW.ret ?_
    refine ⟨.tuple #[], Res.none rfl, (by simp at hc)⟩
  refine HW.skip ?_
  refine hK1 _ _ ?_
  refine HW.seqc (fun s hh => ∃ lv2 : SV, Has s [(0, ptr p), (1, sv lv2)] ∧ Ext h hh ∧ Sl hh 1 (sv lv2) (ll.map iv) ∧ ∀ b, blk (sv lv2) b → ¬ F b) ?_ ?_
  ·
    refine HW.seq fun K4 hK4 => ?_
    refine HW.region ?_   -- region 1 cache.go:120
    refine HO.v (V.mvS rfl) rfl 8 rfl rfl ?_
    refine HO.v (V.len rfl T.el31) rfl 9 rfl rfl ?_
    refine HO.v (V.eql rfl rfl rfl) rfl 10 rfl rfl ?_
    refine HO.nil ?_
    refine hK4 _ _ ?_
    refine HW.condr rfl (fun hc => ?_) (fun hc => ?_)
    · -- else
      refine HW.skip ?_
      refine ⟨lv, ⟨rfl, rfl, trivial⟩, Ext.refl _, (by rw [hll, if_neg (fun e => by have h1 := of_decide_eq_false hc; rw [e] at hln; simp at hln; omega)]; exact hl), hd⟩
    refine HW.region ?_   -- region 2 cache.go:121
    refine HO.v (V.mvP rfl) rfl 11 rfl rfl ?_
    refine HO.v (V.nilCheck rfl) rfl 12 rfl rfl ?_
    refine HO.v (V.fieldAddr rfl T.fd64_0) rfl 13 rfl rfl ?_
    refine HO.v (V.fieldAddr rfl T.fd62_0) rfl 14 rfl rfl ?_
    refine HO.v (V.load rfl (load_one T.ag31 (v := sv ov) (cell_of r.hp 0))) rfl 15 rfl rfl ?_
    refine HO.c OpC.func rfl 16 rfl rfl (cloneI_any r.od.ord.sl (by have := r.len; simp [nos]; omega)) ?_
    rintro _ h1 ow
    obtain ⟨g, rfl⟩ := ow.cap.form
    refine HO.v (V.asS rfl) rfl 1 rfl rfl ?_
    refine HO.nil ?_
    refine ⟨g, ⟨rfl, rfl, trivial⟩, ow.ext, (by rw [hll, if_pos (List.length_eq_zero_iff.1 (by have h1 := of_decide_eq_true hc; omega))]; exact ow.sl), fun b hb f => by have h2 := ow.fresh b (blk_blkC hb); have := r.lt b f; omega⟩
  rintro s hh1 ⟨⟨a, n, c⟩, hs, x1, hl2, hd2⟩
  have hl3 : Sl hh1 1 (.slice a n c) (ll.map iv) := hl2
  have hnl : ll.length = n := by simpa using hl3.cells.len
  refine HW.frame hs fun τ => ?_
  refine HW.seq fun K5 hK5 => ?_
  refine HW.region ?_   -- region 3 cache.go:123
  refine HO.v (V.mvS rfl) rfl 17 rfl rfl ?_
  refine HO.v (V.len rfl T.el31) rfl 18 rfl rfl ?_
  refine HO.v (V.mvI rfl) rfl 19 rfl rfl ?_
  refine HO.nil ?_
  refine hK5 _ _ ?_
  refine HW.block ?_   -- block 0
  refine HW.loopm (fun m s hh => ∃ k : Nat, Has s [(0, ptr p), (17, .slice a n c), (18, .int .i64 n), (19, .int .i64 k)] ∧ ∃ Fk, CRep hh Fk p room (dr (ll.take k) L) ∧ Sl hh 1 (.slice a n c) (ll.map iv) ∧ Step F hh1 Fk hh ∧ (∀ b, blk (.slice a n c) b → ¬ Fk b) ∧ k ≤ n ∧ m = n - k) ?_ ?_
  · exact ⟨_, 0, ⟨rfl, rfl, rfl, rfl, trivial⟩, F, ⟨mb, ov, ks, q, (by rw [List.take_zero, dr_nil]; exact r.chg x1 fun _ _ f => f)⟩, hl2, Step.refl _ _, hd2, by omega, rfl⟩
  rintro m s hh ⟨k, hs, Fk, ⟨mk, ovk, ksk, qk, rk⟩, hlk, stk, hdk, hkn, rfl⟩ J6 hJ6
  refine HW.frame hs fun τ => ?_
  refine HW.seq fun K7 hK7 => ?_
  refine HW.region ?_   -- region 4 cache.go:123
  refine HO.v (V.lss rfl rfl rfl) rfl 20 rfl rfl ?_
  refine HO.nil ?_
  refine hK7 _ _ ?_
  refine HW.seq fun K8 hK8 => ?_
  refine HW.condr rfl (fun hc => ?_) (fun hc => ?_)
  · -- else
    refine HW.exit ?_
    refine ⟨.tuple #[], Res.none rfl, Fk, rfl, ⟨mk, ovk, ksk, qk, (by have h1 := of_decide_eq_false hc; rw [List.take_of_length_le (by omega)] at rk; exact rk)⟩, Step.ext x1 stk⟩
  refine HW.skip ?_
  refine hK8 _ _ ?_
  refine HW.seq fun K9 hK9 => ?_
  have hkn' := of_decide_eq_true hc
  have hk2 : k < ll.length := by omega
  have htk : ll.take (k + 1) = ll.take k ++ [ll[k]] := take_next hk2
  obtain ⟨b, o, rfl, hcell⟩ := hlk.cells.pos (by omega)
  refine HW.block ?_   -- block 1
  refine HW.seq fun K10 hK10 => ?_
  refine HW.region ?_   -- region 5 cache.go:123
  refine HO.v (V.indexAddr1 rfl rfl T.el31 T.sz3 (by omega)) rfl 21 rfl rfl ?_
  refine HO.v (V.load rfl (load_one T.ag3 (v := iv ll[k]) (hcell k _ (by simp [hk2])))) rfl 22 rfl rfl ?_
  refine HO.v (V.asI rfl) rfl 5 rfl rfl ?_
  refine HO.nil ?_
  refine hK10 _ _ ?_
  refine HW.region ?_   -- region 6 cache.go:124
  refine HO.v (V.mvP rfl) rfl 23 rfl rfl ?_
  refine HO.v (V.mvI rfl) rfl 24 rfl rfl ?_
  refine HO.c OpC.func rfl 25 rfl rfl (drop_in rk ll[k]) ?_
  rintro _ h3 ⟨ov3, rfl, r3, ch3⟩
  refine HO.nil ?_
  refine hK9 _ _ ?_
  refine HW.region ?_   -- region 7 cache.go:123
  refine HO.v (V.add rfl rfl (by omega)) rfl 26 rfl rfl ?_
  refine HO.v (V.mvI rfl) rfl 19 rfl rfl ?_
  refine HO.nil ?_
  refine hJ6 _ _ _ ⟨k + 1, ⟨rfl, rfl, rfl, rfl, trivial⟩, wd Fk hh.size h3.size, ⟨mk, ov3, _, qk, (by rw [htk, ← dr_app]; exact r3)⟩, ?_, ?_, ?_, by omega, rfl⟩ (by omega)
  · refine hlk.chg ch3 fun b hb g => hdk b hb ?_
    rcases g with rfl | rfl | g
    · exact rk.mp.own
    · exact rk.fp
    · exact rk.fo b g
  · refine stk.trans ⟨ch3.mono fun b _ g => ?_, fun b hb => hb.imp id fun h => h.1⟩
    rcases g with rfl | rfl | g
    · exact rk.mp.own
    · exact rk.fp
    · exact rk.fo b g
  · rintro b hb (g | g)
    · exact hdk b hb g
    · have := ints_lt hlk b hb; omega

set_option maxRecDepth 100000 in
theorem get_nil {h : Heap} (no : Int) :
    HC Try.prog 9 #[.pointer none, .int .i64 no] h (fun v h' => v = .tuple #[.slice none 0 0, .bool false] ∧ h' = h) := by
  refine HC.body Try.func9 rfl (by kernel_rfl) 32 rfl rfl ?_
  refine HW.seq fun K1 hK1 => ?_
  refine HW.region ?_   -- region 0 cache.go:50
  refine HO.v (V.asS rfl) rfl 4 rfl rfl ?_
  refine HO.v (V.asB rfl) rfl 5 rfl rfl ?_
  refine HO.nil ?_
  refine hK1 _ _ ?_
  refine HW.seq fun K2 hK2 => ?_
  refine HW.seq fun K3 hK3 => ?_
  refine HW.region ?_   -- region 1 cache.go:51
  refine HO.v (V.mvP rfl) rfl 6 rfl rfl ?_
  refine HO.v (V.ptrEqNil rfl rfl T.pt23) rfl 7 rfl rfl ?_
  refine HO.v (V.mvB rfl) rfl 8 rfl rfl ?_
  refine HO.spl (fun hb2 => ?_) (fun hb2 => ?_)
  · -- true
    refine HO.no rfl 9 rfl rfl ?_
    refine HO.no rfl 10 rfl rfl ?_
    refine HO.no rfl 11 rfl rfl ?_
    refine HO.no rfl 12 rfl rfl ?_
    refine HO.no rfl 13 rfl rfl ?_
    refine HO.no rfl 14 rfl rfl ?_
    refine HO.no rfl 15 rfl rfl ?_
    refine HO.v (V.pick_t rfl rfl) rfl 16 rfl rfl ?_
    refine HO.nil ?_
    refine hK3 _ _ ?_
    refine HW.cond_t rfl ?_
    refine HW.seq fun K4 hK4 => ?_
    refine HW.region ?_   -- region 2 cache.go:52
    refine HO.v (V.asS rfl) rfl 4 rfl rfl ?_
    refine HO.v (V.asB rfl) rfl 5 rfl rfl ?_
    refine HO.nil ?_
    refine hK4 _ _ ?_
    refine HW.ret ?_
    refine ⟨.tuple #[.slice none 0 0, .bool false], Res.two rfl rfl rfl, rfl, rfl⟩
  · simp at hb2

set_option maxRecDepth 100000 in
theorem put_nil {h : Heap} (no : Int) (b : SV) (d : Bool) :
    HC Try.prog 10 #[.pointer none, .int .i64 no, sv b, .bool d] h (fun v h' => v = .slice none 0 0 ∧ h' = h) := by
  refine HC.body Try.func10 rfl (by kernel_rfl) 87 rfl rfl ?_
  refine HW.seq fun K1 hK1 => ?_
  refine HW.region ?_   -- region 0 cache.go:59
  refine HO.v (V.asS rfl) rfl 8 rfl rfl ?_
  refine HO.nil ?_
  refine hK1 _ _ ?_
  refine HW.seq fun K2 hK2 => ?_
  refine HW.seq fun K3 hK3 => ?_
  refine HW.region ?_   -- region 1 cache.go:60
  refine HO.v (V.mvP rfl) rfl 12 rfl rfl ?_
  refine HO.v (V.ptrEqNil rfl rfl T.pt23) rfl 13 rfl rfl ?_
  refine HO.v (V.mvB rfl) rfl 14 rfl rfl ?_
  refine HO.spl (fun hb2 => ?_) (fun hb2 => ?_)
  · -- true
    refine HO.no rfl 15 rfl rfl ?_
    refine HO.no rfl 16 rfl rfl ?_
    refine HO.v (V.pick_t rfl rfl) rfl 17 rfl rfl ?_
    refine HO.nil ?_
    refine hK3 _ _ ?_
    refine HW.cond_t rfl ?_
    refine HW.seq fun K4 hK4 => ?_
    refine HW.region ?_   -- region 2 cache.go:61
    refine HO.v (V.asS rfl) rfl 8 rfl rfl ?_
    refine HO.nil ?_
    refine hK4 _ _ ?_
    refine HW.ret ?_
    refine ⟨.slice none 0 0, Res.one rfl rfl, rfl, rfl⟩
  · simp at hb2

set_option maxRecDepth 100000 in
theorem copy_nil {h : Heap} :
    HC Try.prog 14 #[.pointer none] h (fun v h' => v = .pointer none ∧ h' = h) := by
  refine HC.body Try.func14 rfl (by kernel_rfl) 49 rfl rfl ?_
  refine HW.seq fun K1 hK1 => ?_
  refine HW.region ?_   -- region 0 cache.go:139
  refine HO.v (V.asP rfl) rfl 2 rfl rfl ?_
  refine HO.nil ?_
  refine hK1 _ _ ?_
  refine HW.seq fun K2 hK2 => ?_
  refine HW.seq fun K3 hK3 => ?_
  refine HW.region ?_   -- region 1 cache.go:140
  refine HO.v (V.mvP rfl) rfl 6 rfl rfl ?_
  refine HO.v (V.ptrEqNil rfl rfl T.pt23) rfl 7 rfl rfl ?_
  refine HO.nil ?_
  refine hK3 _ _ ?_
  refine HW.cond rfl (fun hc => ?_) (fun hc => ?_)
  · -- then
    refine HW.seq fun K4 hK4 => ?_
    refine HW.region ?_   -- region 2 cache.go:141
    refine HO.v (V.asP rfl) rfl 2 rfl rfl ?_
    refine HO.nil ?_
    refine hK4 _ _ ?_
    refine HW.ret ?_
    refine ⟨.pointer none, Res.one rfl rfl, rfl, rfl⟩
  simp at hc

set_option maxRecDepth 100000 in
theorem pages_nil {h : Heap} :
    HC Try.prog 11 #[.pointer none] h (fun v h' => v = .slice none 0 0 ∧ h' = h) := by
  refine HC.body Try.func11 rfl (by kernel_rfl) 15 rfl rfl ?_
  refine HW.seq fun K1 hK1 => ?_
  refine HW.region ?_   -- region 0 cache.go:129
  refine HO.v (V.asS rfl) rfl 2 rfl rfl ?_
  refine HO.nil ?_
  refine hK1 _ _ ?_
  refine HW.seq fun K2 hK2 => ?_
  refine HW.seq fun K3 hK3 => ?_
  refine HW.region ?_   -- region 1 cache.go:130
  refine HO.v (V.mvP rfl) rfl 4 rfl rfl ?_
  refine HO.v (V.ptrEqNil rfl rfl T.pt23) rfl 5 rfl rfl ?_
  refine HO.nil ?_
  refine hK3 _ _ ?_
  refine HW.cond rfl (fun hc => ?_) (fun hc => ?_)
  · -- then
    refine HW.seq fun K4 hK4 => ?_
    refine HW.region ?_   -- region 2 cache.go:131
    refine HO.v (V.asS rfl) rfl 2 rfl rfl ?_
    refine HO.nil ?_
    refine hK4 _ _ ?_
    refine HW.ret ?_
    refine ⟨.slice none 0 0, Res.one rfl rfl, rfl, rfl⟩
  simp at hc

set_option maxRecDepth 100000 in
theorem dirty_nil {h : Heap} :
    HC Try.prog 12 #[.pointer none] h (fun v h' => v = .slice none 0 0 ∧ h' = h) := by
  refine HC.body Try.func12 rfl (by kernel_rfl) 42 rfl rfl ?_
  refine HW.seq fun K1 hK1 => ?_
  refine HW.region ?_   -- region 0 cache.go:102
  refine HO.v (V.asS rfl) rfl 2 rfl rfl ?_
  refine HO.nil ?_
  refine hK1 _ _ ?_
  refine HW.seq fun K2 hK2 => ?_
  refine HW.seq fun K3 hK3 => ?_
  refine HW.region ?_   -- region 1 cache.go:103
  refine HO.v (V.mvP rfl) rfl 7 rfl rfl ?_
  refine HO.v (V.ptrEqNil rfl rfl T.pt23) rfl 8 rfl rfl ?_
  refine HO.nil ?_
  refine hK3 _ _ ?_
  refine HW.cond rfl (fun hc => ?_) (fun hc => ?_)
  · -- then
    refine HW.seq fun K4 hK4 => ?_
    refine HW.region ?_   -- region 2 cache.go:104
    refine HO.v (V.asS rfl) rfl 2 rfl rfl ?_
    refine HO.nil ?_
    refine hK4 _ _ ?_
    refine HW.ret ?_
    refine ⟨.slice none 0 0, Res.one rfl rfl, rfl, rfl⟩
  simp at hc

end Go.Proofs.Ytdbiggfnnhmpiaa
