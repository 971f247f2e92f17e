/- The method Put of a cache. Conditions: the cache is well laid, lengths below a bound. -/
import Derived.Test.YtdbiggfnnhmpiaaCaImp3
namespace Go.Proofs.Ytdbiggfnnhmpiaa
open Go Go.HL

theorem Step.trans {F F1 F2 : Nat → Prop} {h h1 h2 : Heap} (x : Step F h F1 h1) (y : Step F1 h1 F2 h2) : Step F h F2 h2 :=
  ⟨x.chg.trans' y.chg fun b hb hk => by
    rcases x.place b hk with hk | hk
    · exact hk
    · omega, fun b hb => by
    rcases y.place b hb with hk | hk
    · exact x.place b hk
    · exact .inr (Nat.le_trans x.chg.size hk)⟩
theorem CIn.hpage {h : Heap} {F : Nat → Prop} {p m : Nat} {ov : SV} {room : Int} {L : List AP} {ks : List Int} {q : Int → Nat} (r : CIn h F p m ov room L ks q) {x : AP} (hx : x ∈ L) :
    ∃ b : SV, h[q x.no]? = some (.cells #[sv b, .bool x.d] 69 (0, 0)) ∧ Cap h 1 5 (sv b) (x.b.map bv) ∧ ∀ j, blkC (sv b) j → F j := (r.mp.pg x hx).cells
theorem told_no {x : AP} (h : x.d = false) : toldL (some x) = [] := by simp [toldL, h]
theorem told_yes {x : AP} (h : x.d = true) : toldL (some x) = [⟨x.no, 0, x.b⟩] := by simp [toldL, h]
theorem putL1_len (no : Int) (b : List UInt8) (d : Bool) (L : List AP) : (putL1 no b d L).length ≤ L.length + 1 := by
  have := rid_len no L
  simp [putL1]; omega

set_option maxRecDepth 100000 in
theorem put_any {h : Heap} {F : Nat → Prop} {p : Nat} {room : Int} {L : List AP} (r : CRep h F p room L) (hlen : L.length ≤ 100000000) (no : Int) {bs : SV} {l : List UInt8} (hb : Sl h 1 (sv bs) (l.map bv)) (hbl : l.length ≤ 1000000) (d : Bool) (hrm : 1 ≤ room) :
    HC Try.prog 10 #[ptr p, .int .i64 no, sv bs, .bool d] h (fun v h' => ∃ F', CRep h' F' p room (putL room no l d L) ∧ Step F h F' h' ∧ Frames h' v (putA room no l d L)) := by
  obtain ⟨m, ov, ks, q, r⟩ := r
  obtain ⟨dd, hdd⟩ : ∃ dd, dd = (d || wasD no L) := ⟨_, rfl⟩
  refine HC.body Try.func10 rfl (by kernel_rfl) 87 rfl rfl ?_
  refine HW.seq fun K1 hK1 => ?_
  refine HW.region ?_   -- region 0 cache.go:59
  refine HO.v (V.asS rfl) rfl 8 rfl rfl ?_
  refine HO.nil ?_
  refine hK1 _ _ ?_
  refine HW.seq fun K2 hK2 => ?_
  refine HW.seq fun K3 hK3 => ?_
  refine HW.region ?_   -- region 1 cache.go:60
  refine HO.v (V.mvP rfl) rfl 12 rfl rfl ?_
  refine HO.v (V.ptrEqNil rfl rfl T.pt23) rfl 13 rfl rfl ?_
  refine HO.v (V.mvB rfl) rfl 14 rfl rfl ?_
  refine HO.spl (fun hb2 => ?_) (fun hb2 => ?_)
  · -- true
    refine HO.no rfl 15 rfl rfl ?_
    refine HO.no rfl 16 rfl rfl ?_
    refine HO.v (V.pick_t rfl rfl) rfl 17 rfl rfl ?_
    refine HO.nil ?_
    refine hK3 _ _ ?_
    refine HW.cond_t rfl ?_
    refine HW.seq fun K4 hK4 => ?_
    refine HW.region ?_   -- region 2 cache.go:61
    refine HO.v (V.asS rfl) rfl 8 rfl rfl ?_
    refine HO.nil ?_
    refine hK4 _ _ ?_
    refine HW.ret ?_
    refine ⟨.slice none 0 0, Res.one rfl rfl, (by simp at hb2)⟩
  · -- false
    refine HO.v (V.mvI rfl) rfl 15 rfl rfl ?_
    refine HO.v (V.lss rfl rfl rfl) rfl 16 rfl rfl ?_
    refine HO.v (V.pick_f rfl rfl) rfl 17 rfl rfl ?_
    refine HO.nil ?_
    refine hK3 _ _ ?_
    refine HW.cond rfl (fun hc => ?_) (fun hc => ?_)
    · -- then
      refine HW.seq fun K5 hK5 => ?_
      refine HW.region ?_   -- region 2 cache.go:61
      refine HO.v (V.asS rfl) rfl 8 rfl rfl ?_
      refine HO.nil ?_
      refine hK5 _ _ ?_
      refine HW.ret ?_
      refine ⟨.slice none 0 0, Res.one rfl rfl, F, (by unfold putL; rw [if_pos (of_decide_eq_true hc)]; exact ⟨m, ov, ks, q, r⟩), ⟨Chg.refl _ _, fun b hb => .inl hb⟩, (by unfold putA; rw [if_pos (of_decide_eq_true hc)]; exact Frames.nil _)⟩
    refine HW.skip ?_
    refine hK2 _ _ ?_
    refine HW.seqc (fun s hh => Has s [(0, ptr p), (1, .int .i64 no), (2, sv bs), (3, .bool dd)] ∧ h = hh) ?_ ?_   -- the ways meet
    ·
      refine HW.seq fun K7 hK7 => ?_
      refine HW.region ?_   -- region 3 cache.go:63
      refine HO.v (V.mvP rfl) rfl 18 rfl rfl ?_
      refine HO.v (V.nilCheck rfl) rfl 19 rfl rfl ?_
      refine HO.v (V.fieldAddr rfl T.fd64_2) rfl 20 rfl rfl ?_
      refine HO.v (V.load rfl (load_one T.ag60 (v := .map (some m)) (cell_of r.hp 2))) rfl 21 rfl rfl ?_
      refine HO.v (V.mvI rfl) rfl 22 rfl rfl ?_
      refine HO.v (V.lookupE (KV.int .i64) rfl rfl r.mp.map T.mp60 (inB_iff T.in3) T.zr65 (r.mp.get no)) rfl 23 rfl rfl ?_
      refine HO.v (V.asP rfl) rfl 9 rfl rfl ?_
      refine HO.nil ?_
      refine hK7 _ _ ?_
      refine HW.seq fun K8 hK8 => ?_
      refine HW.region ?_   -- region 4 cache.go:63
      refine HO.v (V.mvP rfl) rfl 24 rfl rfl ?_
      refine HO.v (V.ptrNeNil rfl rfl T.pt65) rfl 25 rfl rfl ?_
      refine HO.nil ?_
      refine hK8 _ _ ?_
      refine HW.condr rfl (fun hc => ?_) (fun hc => ?_)
      · -- else
        refine HW.skip ?_
        have hn : hit no L = none := by simpa using hc
        obtain rfl : d = dd := by subst hdd; unfold wasD; rw [hn]; simp
        refine ⟨⟨rfl, rfl, rfl, rfl, trivial⟩, rfl⟩
      refine HW.region ?_   -- region 5 cache.go:64
      refine HO.v (V.mvB rfl) rfl 26 rfl rfl ?_
      refine HO.v (V.mvB rfl) rfl 27 rfl rfl ?_
      refine HO.spl (fun hb1 => ?_) (fun hb1 => ?_)
      · -- true
        refine HO.no rfl 28 rfl rfl ?_
        refine HO.no rfl 29 rfl rfl ?_
        refine HO.no rfl 30 rfl rfl ?_
        refine HO.no rfl 31 rfl rfl ?_
        refine HO.v (V.pick_t rfl rfl) rfl 32 rfl rfl ?_
        refine HO.v (V.asB rfl) rfl 3 rfl rfl ?_
        refine HO.nil ?_
        obtain rfl : true = dd := by subst hdd hb1; simp
        refine ⟨⟨rfl, rfl, rfl, rfl, trivial⟩, rfl⟩
      · -- false
        have hx : ∃ x, hit no L = some x := by
          cases e : hit no L with
          | some x => exact ⟨x, rfl⟩
          | none => rw [e] at hc; simp at hc
        obtain ⟨x, hx⟩ := hx
        obtain ⟨hxm, hxn⟩ := hit_some hx
        obtain ⟨pb, hq, _⟩ := r.hpage hxm
        rw [hxn] at hq
        rw [hx]
        refine HO.v (V.mvP rfl) rfl 28 rfl rfl ?_
        refine HO.v (V.nilCheck rfl) rfl 29 rfl rfl ?_
        refine HO.v (V.fieldAddr rfl T.fd69_1) rfl 30 rfl rfl ?_
        refine HO.v (V.load rfl (load_one T.ag4 (v := .bool x.d) (cell_of hq 1))) rfl 31 rfl rfl ?_
        refine HO.v (V.pick_f rfl rfl) rfl 32 rfl rfl ?_
        refine HO.v (V.asB rfl) rfl 3 rfl rfl ?_
        refine HO.nil ?_
        obtain rfl : x.d = dd := by subst hdd hb1; unfold wasD; rw [hx]; simp
        refine ⟨⟨rfl, rfl, rfl, rfl, trivial⟩, rfl⟩
    rintro s hh ⟨hs, rfl⟩
    refine HW.frame hs fun τ => ?_
    refine HW.seq fun K9 hK9 => ?_
    refine HW.any 10 (fun fl h => cond fl True (h[p]? = some (.cells #[sv ov, .int .i64 room, .map (some m)] 64 (0, 0)))) mixed ?_   -- region 6 cache.go:66 (11 operations)
    have hS : h[p]? = some (.cells #[sv ov, .int .i64 room, .map (some m)] 64 (0, 0)) := r.hp
    refine HA.p 0 rfl (by kernel_rfl) (by kernel_rfl) (by kernel_rfl) rfl rfl 33 rfl rfl (fl := false) (by kernel_rfl) hS (fun _ => V.mvP rfl) ?_
    refine HA.p 1 rfl (by kernel_rfl) (by kernel_rfl) (by kernel_rfl) rfl rfl 34 rfl rfl (fl := false) (by kernel_rfl) hS (fun _ => V.nilCheck rfl) ?_
    refine HA.p 2 rfl (by kernel_rfl) (by kernel_rfl) (by kernel_rfl) rfl rfl 35 rfl rfl (fl := false) (by kernel_rfl) hS (fun _ => V.fieldAddr rfl T.fd64_2) ?_
    refine HA.v 3 rfl (by kernel_rfl) (by kernel_rfl) (by kernel_rfl) rfl rfl 36 rfl rfl (fl := false) (by kernel_rfl) hS (by kernel_rfl) (fun _ hS => V.load rfl (load_one T.ag60 (v := .map (some m)) (cell_of hS 2))) ?_
    refine HA.p 4 rfl (by kernel_rfl) (by kernel_rfl) (by kernel_rfl) rfl rfl 37 rfl rfl (fl := false) (by kernel_rfl) hS (fun _ => V.mvI rfl) ?_
    refine HA.p 5 rfl (by kernel_rfl) (by kernel_rfl) (by kernel_rfl) rfl rfl 38 rfl rfl (fl := false) (by kernel_rfl) hS (fun _ => V.mvS rfl) ?_
    refine HA.p 7 rfl (by kernel_rfl) (by kernel_rfl) (by kernel_rfl) rfl rfl 40 rfl rfl (fl := false) (by kernel_rfl) hS (fun _ => V.mvB rfl) ?_
    refine HA.one 6 (by kernel_rfl) ?_
    refine Up.c rfl rfl 39 rfl rfl OpC.func (cloneB_any hb (by omega)) (fl := false) (by kernel_rfl) ?_
    rintro _ h1 ow
    have hSn : h1[p]? = some (.cells #[sv ov, .int .i64 room, .map (some m)] 64 (0, 0)) := ow.ext.block r.hp (fun f => f)
    refine ⟨hSn, ?_⟩
    replace hS := hSn
    obtain ⟨rb, rfl⟩ := ow.cap.form
    refine HA.p 8 rfl (by kernel_rfl) (by kernel_rfl) (by kernel_rfl) rfl rfl 41 rfl rfl (fl := false) (by kernel_rfl) hS (fun _ => V.build (cs := #[sv rb, .bool dd]) T.zr69 T.pl69 rfl) ?_
    refine HA.one 9 (by kernel_rfl) ?_
    have hSn : (h1.push (.cells #[sv rb, .bool dd] 69 (0, 0)))[p]? = some (.cells #[sv ov, .int .i64 room, .map (some m)] 64 (0, 0)) := push_other hS
    refine Up.e rfl rfl 42 rfl rfl (V.boxA rfl) (fl := false) (by kernel_rfl) hSn ?_
    replace hS := hSn
    refine HA.one 10 (by kernel_rfl) ?_
    have e2 : Ext h (h1.push (.cells #[sv rb, .bool dd] 69 (0, 0))) := ow.ext.trans (Ext.push _ _)
    refine Up.ur rfl rfl rfl (V.mapUpdate (KV.int .i64) V.sbI rfl rfl rfl (r.mp.map.ext e2) T.mp60 (inB_iff T.in3)) (fl := true) (by kernel_rfl) ?_
    rintro h3 pu
    refine ⟨trivial, ?_⟩
    refine HA.done (by kernel_rfl) ?_
    refine hK9 _ _ ?_
    refine HW.seq fun K10 hK10 => ?_
    have c3 : CMap h3 (fun b => F b ∨ h.size ≤ b) m (putL1 no l d L) (kput ks no) (fput q no h1.size) := by
      have c2 : CMap (h1.push (.cells #[sv rb, .bool dd] 69 (0, 0))) F m L ks q := r.mp.chg e2 (fun _ g _ => g.elim) fun _ f => f
      have hp : PgAt (h1.push (.cells #[sv rb, .bool dd] 69 (0, 0))) (fun b => F b ∨ h.size ≤ b) h1.size ⟨no, l, dd⟩ := ⟨⟨rb, push_same _ _, ow.cap.ext (Ext.push _ _), fun j hj => .inr (ow.fresh j hj)⟩, .inr ow.ext.size⟩
      have := c2.put hp (fun y hy e => by
        have h1 := r.lt _ (r.mp.pg y hy).own
        have h2 := ow.ext.size
        omega) (fun b f => .inl f) pu
      unfold putL1; rw [← hdd]; exact this
    have hsz : h.size ≤ h3.size := by have h1 := e2.size; have h2 := pu.size; omega
    have hc3 : Chg (fun b => b = m) h h3 := e2.to.trans pu.chg
    have o3 : Ordr h3 p (.int .i64 room) (.map (some m)) ov (nos L).reverse := r.od.chg hc3 r.ne_p r.ne_o
    refine HW.region ?_   -- region 7 cache.go:67
    refine HO.v (V.mvP rfl) rfl 43 rfl rfl ?_
    refine HO.v (V.nilCheck rfl) rfl 44 rfl rfl ?_
    refine HO.v (V.fieldAddr rfl T.fd64_0) rfl 45 rfl rfl ?_
    refine HO.v (V.mvI rfl) rfl 46 rfl rfl ?_
    refine HO.c OpC.func rfl 47 rfl rfl (touch_any o3 (by have := r.len; simp [nos]; omega)) ?_
    rintro _ h4 ⟨ov1, rfl, t⟩
    refine HO.nil ?_
    refine hK10 _ _ ?_
    have o4 : Ordr h4 p (.int .i64 room) (.map (some m)) ov1 (nos (putL1 no l d L)).reverse := by
      have := t.ordr
      have e := order_touch (x := ⟨no, l, d || wasD no L⟩) r.mp.nd
      rw [e] at this; exact this
    have c4 : CMap h4 (fun b => F b ∨ h.size ≤ b) m (putL1 no l d L) (kput ks no) (fput q no h1.size) := c3.chg t.chg (fun b g _ => by
      rcases g with rfl | hb
      · exact .inl ⟨_, _, o3.hp⟩
      · exact .inr (o3.ord.blk hb)) fun _ f => f
    have i4 := CIn.mk' c4 o4 (.inl r.fp) (fun b hb => (t.place b hb).imp (r.fo b) fun h => Nat.le_trans hsz h) (by have h1 := putL1_len no l d L; omega) (fun y hy => by
      rcases List.mem_cons.1 hy with rfl | hy
      · exact hbl
      · exact r.sm y (mem_rid.1 hy).1)
    have st4 : Step F h (fun b => (F b ∨ h.size ≤ b) ∧ b < h4.size) h4 := ⟨(hc3.mono fun b _ hb => by subst hb; exact r.mp.own).trans' t.chg fun b _ hb => by
      rcases hb with rfl | hb
      · exact r.fp
      · exact r.fo b hb, fun b hb => hb.1⟩
    have hno : ¬ no < 1 := of_decide_eq_false hc
    have hol : ov1.2.1 = (putL1 no l d L).length := by
      obtain ⟨a, n, c⟩ := ov1
      have ho : Cap h4 1 3 (.slice a n c) ((nos (putL1 no l d L)).reverse.map iv) := o4.ord
      have := ho.sl.cells.len
      simpa [nos] using this.symm
    refine HW.seq fun K11 hK11 => ?_
    refine HW.seq fun K12 hK12 => ?_
    refine HW.quiet mixed (by kernel_rfl) ?_   -- region 8 cache.go:68
    refine HQ.v (V.mvP rfl) rfl 48 rfl rfl ?_
    refine HQ.v (V.nilCheck rfl) rfl 49 rfl rfl ?_
    refine HQ.v (V.fieldAddr rfl T.fd64_0) rfl 50 rfl rfl ?_
    refine HQ.v (V.fieldAddr rfl T.fd62_0) rfl 51 rfl rfl ?_
    refine HQ.v (V.load rfl (load_one T.ag31 (v := sv ov1) (cell_of t.ordr.hp 0))) rfl 52 rfl rfl ?_
    refine HQ.v (V.len rfl T.el31) rfl 53 rfl rfl ?_
    refine HQ.v (V.mvP rfl) rfl 54 rfl rfl ?_
    refine HQ.v (V.nilCheck rfl) rfl 55 rfl rfl ?_
    refine HQ.v (V.fieldAddr rfl T.fd64_1) rfl 56 rfl rfl ?_
    refine HQ.v (V.load rfl (load_one T.ag3 (v := .int .i64 room) (cell_of t.ordr.hp 1))) rfl 57 rfl rfl ?_
    refine HQ.v (V.leq rfl rfl rfl) rfl 58 rfl rfl ?_
    refine HQ.nil ?_
    refine hK12 _ _ ?_
    refine HW.cond rfl (fun hc => ?_) (fun hc => ?_)
    · -- then
      refine HW.seq fun K13 hK13 => ?_
      have hle : ((putL1 no l d L).length : Int) ≤ room := by have := of_decide_eq_true hc; omega
      refine HW.region ?_   -- region 9 cache.go:69
      refine HO.v (V.asS rfl) rfl 8 rfl rfl ?_
      refine HO.nil ?_
      refine hK13 _ _ ?_
      refine HW.ret ?_
      refine ⟨.slice none 0 0, Res.one rfl rfl, _, (by unfold putL; rw [if_neg hno, if_pos hle]; exact ⟨m, ov1, _, _, i4⟩), st4, (by unfold putA; rw [if_neg hno, if_pos hle]; exact Frames.nil _)⟩
    refine HW.skip ?_
    refine hK11 _ _ ?_
    refine HW.seq fun K14 hK14 => ?_
    have hgt : ¬ ((putL1 no l d L).length : Int) ≤ room := by have := of_decide_eq_false hc; omega
    obtain ⟨x, hlast⟩ : ∃ x, (putL1 no l d L).getLast? = some x := by
      cases e : (putL1 no l d L).getLast? with
      | some x => exact ⟨x, rfl⟩
      | none => rw [List.getLast?_eq_none_iff] at e; simp [putL1] at e
    have hxm : x ∈ putL1 no l d L := List.mem_of_getLast? hlast
    obtain ⟨pb, hq, hpb, hpf⟩ := i4.hpage hxm
    have hhx : hit x.no (putL1 no l d L) = some x := by
      obtain ⟨y, hy⟩ := hit_mem (List.mem_map.2 ⟨x, hxm, rfl⟩ : x.no ∈ nos (putL1 no l d L))
      rw [hy, nos_inj i4.mp.nd (hit_some hy).1 hxm (hit_some hy).2]
    obtain ⟨oa, on, oc⟩ := ov1
    have hoc0 : Cap h4 1 3 (.slice oa on oc) ((nos (putL1 no l d L)).reverse.map iv) := o4.ord
    have hol' : on = (putL1 no l d L).length := hol
    obtain ⟨ob, oo, rfl, hoc⟩ := hoc0.sl.cells.pos (by rw [hol']; simp [putL1])
    have hx0 : ((nos (putL1 no l d L)).reverse.map iv)[0]? = some (.int .i64 x.no) := by
      obtain ⟨M, hM⟩ := List.getLast?_eq_some_iff.1 hlast
      rw [hM]; simp [nos, iv]
    refine HW.region ?_   -- region 10 cache.go:71
    refine HO.v (V.mvP rfl) rfl 59 rfl rfl ?_
    refine HO.v (V.nilCheck rfl) rfl 60 rfl rfl ?_
    refine HO.v (V.fieldAddr rfl T.fd64_0) rfl 61 rfl rfl ?_
    refine HO.v (V.fieldAddr rfl T.fd62_0) rfl 62 rfl rfl ?_
    refine HO.v (V.load rfl (load_one T.ag31 (v := sv (some ⟨ob, oo, none⟩, on, oc)) (cell_of t.ordr.hp 0))) rfl 63 rfl rfl ?_
    refine HO.v (V.indexAddr1 rfl rfl T.el31 T.sz3 (by omega)) rfl 64 rfl rfl ?_
    refine HO.v (V.load rfl (load_one T.ag3 (v := .int .i64 x.no) (hoc 0 _ hx0))) rfl 65 rfl rfl ?_
    refine HO.v (V.asI rfl) rfl 10 rfl rfl ?_
    refine HO.nil ?_
    refine hK14 _ _ ?_
    refine HW.seq fun K15 hK15 => ?_
    refine HW.region ?_   -- region 11 cache.go:72
    refine HO.v (V.mvP rfl) rfl 66 rfl rfl ?_
    refine HO.v (V.nilCheck rfl) rfl 67 rfl rfl ?_
    refine HO.v (V.fieldAddr rfl T.fd64_2) rfl 68 rfl rfl ?_
    refine HO.v (V.load rfl (load_one T.ag60 (v := .map (some m)) (cell_of t.ordr.hp 2))) rfl 69 rfl rfl ?_
    refine HO.v (V.mvI rfl) rfl 70 rfl rfl ?_
    refine HO.v (V.lookupE (KV.int .i64) rfl rfl i4.mp.map (v := ptr (fput q no h1.size x.no)) T.mp60 (inB_iff T.in3) T.zr65 ((i4.mp.get x.no).trans (by rw [hhx]; rfl))) rfl 71 rfl rfl ?_
    refine HO.v (V.asP rfl) rfl 11 rfl rfl ?_
    refine HO.nil ?_
    refine hK15 _ _ ?_
    refine HW.seq fun K16 hK16 => ?_
    refine HW.region ?_   -- region 12 cache.go:73
    refine HO.v (V.mvP rfl) rfl 72 rfl rfl ?_
    refine HO.v (V.mvI rfl) rfl 73 rfl rfl ?_
    refine HO.c OpC.func rfl 74 rfl rfl (drop_in i4 x.no) ?_
    rintro _ h5 ⟨ov5, rfl, i5, chg5⟩
    refine HO.nil ?_
    refine hK16 _ _ ?_
    have hk5 : ∀ b, (b = m ∨ b = p ∨ blkC (sv (some ⟨ob, oo, none⟩, on, oc)) b) → isT h4 b 69 ∨ isT h4 b 5 → False := fun b hb ht => by
      rcases hb with rfl | hb
      · obtain ⟨es, cl, h1, _⟩ := i4.mp.map
        rcases ht with ⟨cs, fz, h2⟩ | ⟨cs, fz, h2⟩ <;> (rw [h1] at h2; injection h2 with h2; cases h2)
      · rcases i4.kind b hb with h1 | h1 <;> rcases ht with h2 | h2 <;> exact absurd (h1.eq h2) (by decide)
    have hq5 : h5[fput q no h1.size x.no]? = some (.cells #[sv pb, .bool x.d] 69 (0, 0)) := chg5.block hq fun hb => hk5 _ hb (.inl ⟨_, _, hq⟩)
    have hpb5 : Cap h5 1 5 (sv pb) (x.b.map bv) := hpb.chg chg5 fun j hj hb => hk5 _ hb (.inr (hpb.blk hj))
    have st5 := st4.trans (F2 := wd (fun b => (F b ∨ h.size ≤ b) ∧ b < h4.size) h4.size h5.size) ⟨chg5.mono fun b _ hb => by
      rcases hb with rfl | rfl | hb
      · exact i4.mp.own
      · exact i4.fp
      · exact i4.fo b hb, fun b hb => hb.imp id fun h => h.1⟩
    refine HW.seq fun K17 hK17 => ?_
    refine HW.seq fun K18 hK18 => ?_
    refine HW.region ?_   -- region 13 cache.go:74
    refine HO.v (V.mvP rfl) rfl 75 rfl rfl ?_
    refine HO.v (V.nilCheck rfl) rfl 76 rfl rfl ?_
    refine HO.v (V.fieldAddr rfl T.fd69_1) rfl 77 rfl rfl ?_
    refine HO.v (V.load rfl (load_one T.ag4 (v := .bool x.d) (cell_of hq5 1))) rfl 78 rfl rfl ?_
    refine HO.v (V.not rfl) rfl 79 rfl rfl ?_
    refine HO.nil ?_
    refine hK18 _ _ ?_
    refine HW.cond rfl (fun hc => ?_) (fun hc => ?_)
    · -- then
      refine HW.seq fun K19 hK19 => ?_
      refine HW.region ?_   -- region 14 cache.go:75
      refine HO.v (V.asS rfl) rfl 8 rfl rfl ?_
      refine HO.nil ?_
      refine hK19 _ _ ?_
      refine HW.ret ?_
      refine ⟨.slice none 0 0, Res.one rfl rfl, _, (by unfold putL; rw [if_neg hno, if_neg hgt, ← drop_last i4.mp.nd hlast]; exact ⟨m, ov5, _, _, i5⟩), st5, (by unfold putA; rw [if_neg hno, if_neg hgt, hlast, told_no (by simpa using hc)]; exact Frames.nil _)⟩
    refine HW.skip ?_
    refine hK17 _ _ ?_
    refine HW.seq fun K20 hK20 => ?_
    refine HW.region ?_   -- region 15 cache.go:77
    refine HO.v (V.mvI rfl) rfl 80 rfl rfl ?_
    refine HO.v (V.mvP rfl) rfl 81 rfl rfl ?_
    refine HO.v (V.nilCheck rfl) rfl 82 rfl rfl ?_
    refine HO.v (V.fieldAddr rfl T.fd69_0) rfl 83 rfl rfl ?_
    refine HO.v (V.load rfl (load_one T.ag30 (v := sv pb) (cell_of hq5 0))) rfl 84 rfl rfl ?_
    refine HO.v (V.build (cs := #[.int .i64 x.no, .int .i64 0, sv pb]) T.zr39 T.pl39 rfl) rfl 85 rfl rfl ?_
    refine HO.e (V.buildSlice [.tmp 85] (cs := #[.int .i64 x.no, .int .i64 0, sv pb]) T.el36 T.sz39 T.zr39 rfl rfl rfl ⟨rfl, trivial⟩ rfl) rfl 86 rfl rfl ?_
    refine HO.v (V.asS rfl) rfl 8 rfl rfl ?_
    refine HO.nil ?_
    refine hK20 _ _ ?_
    refine HW.ret ?_
    refine ⟨.slice (some ⟨h5.size, 0, none⟩) 1 1, Res.one rfl rfl, _, (by unfold putL; rw [if_neg hno, if_neg hgt, ← drop_last i4.mp.nd hlast]; exact ⟨m, ov5, _, _, i5.chg (Ext.push _ _) fun _ _ f => f⟩), ⟨st5.chg.trans' (Ext.push _ _) fun _ _ f => f.elim, st5.place⟩, ?_⟩
    have hd : x.d = true := by simpa using hc
    unfold putA; rw [if_neg hno, if_neg hgt, hlast, told_yes hd]
    refine ⟨[⟨x.no, 0, pb⟩], sl_new (n := 1) rfl (by omega), All2.cons ⟨rfl, rfl, ?_⟩ All2.nil⟩
    exact hpb5.sl.ext (Ext.push _ _)

end Go.Proofs.Ytdbiggfnnhmpiaa
