/- The method Copy of a cache. Conditions: the cache is well laid. -/
import Derived.Test.YtdbiggfnnhmpiaaCaImp5
import Derived.Test.YtdbiggfnnhmpiaaHlIter
namespace Go.Proofs.Ytdbiggfnnhmpiaa
open Go Go.HL

theorem CMap.empty {h : Heap} {F : Nat → Prop} {m : Nat} (hb : h[m]? = some (.map #[] 0)) (hf : F m) : CMap h F m [] [] fun _ => 0 :=
  ⟨MapT.new hb, fun k => by simp [nos], by simp [nos], fun x hx => by simp at hx, fun x hx => by simp at hx, hf⟩
theorem CMap.ext' {h h' : Heap} {F G : Nat → Prop} {m : Nat} {L : List AP} {ks : List Int} {q : Int → Nat} (r : CMap h F m L ks q) (c : Chg G h h') (hg : ∀ b, F b → ¬ G b) : CMap h' F m L ks q := r.chg c (fun b g f => absurd g (hg b f)) fun _ f => f
theorem erase_len {α : Type} {l : List α} {i : Nat} {p : α} (h : l[i]? = some p) : (l.eraseIdx i).length + 1 = l.length := by
  have := (List.getElem?_eq_some_iff.1 h).1
  rw [List.length_eraseIdx_of_lt this]; omega
theorem mem_erase {α : Type} {l : List α} {i : Nat} {p x : α} (h : l[i]? = some p) (hx : x ∈ l) : x = p ∨ x ∈ l.eraseIdx i := by
  obtain ⟨hi, he⟩ := List.getElem?_eq_some_iff.1 h
  have e : l = l.take i ++ p :: l.drop (i + 1) := by rw [← he]; simp
  rw [List.eraseIdx_eq_take_drop_succ]
  rw [e] at hx
  rcases List.mem_append.1 hx with hx | hx
  · exact .inr (List.mem_append.2 (.inl hx))
  · rcases List.mem_cons.1 hx with hx | hx
    · exact .inl hx
    · exact .inr (List.mem_append.2 (.inr hx))
/-- What the copy has, and what is still to be put in. -/
structure Half (L M : List AP) (todo : List (Int × Value)) (q : Int → Nat) : Prop where
  all : ∀ x ∈ L, x ∈ M ∨ x.no ∈ todo.map (·.1)
  sub : ∀ x ∈ M, x ∈ L
  keys : ∀ p ∈ todo, ∃ k, k ∈ nos L ∧ p = (k, ptr (q k))
theorem Half.next {L M : List AP} {todo : List (Int × Value)} {q : Int → Nat} (r : Half L M todo q) (hn : (nos L).Nodup) {i : Nat} {x : AP} (hx : x ∈ L) (hi : todo[i]? = some (x.no, ptr (q x.no))) : Half L (x :: rid x.no M) (todo.eraseIdx i) q := by
  refine ⟨fun y hy => ?_, fun y hy => ?_, fun p hp => r.keys p (List.mem_of_mem_eraseIdx hp)⟩
  · by_cases e : y.no = x.no
    · exact .inl (by rw [nos_inj hn hy hx e]; exact List.mem_cons_self)
    · rcases r.all y hy with h | h
      · exact .inl (List.mem_cons_of_mem _ (mem_rid.2 ⟨h, e⟩))
      · right
        obtain ⟨p, hp, hpe⟩ := List.mem_map.1 h
        rcases mem_erase hi hp with rfl | hp
        · exact absurd hpe.symm e
        · exact List.mem_map.2 ⟨p, hp, hpe⟩
  · rcases List.mem_cons.1 hy with rfl | hy
    · exact hx
    · exact r.sub y (mem_rid.1 hy).1
theorem Half.done {L M : List AP} {q : Int → Nat} (r : Half L M [] q) : ∀ x, x ∈ L ↔ x ∈ M := fun x => ⟨fun h => (r.all x h).elim id fun h => by simp at h, r.sub x⟩

set_option maxRecDepth 100000 in
theorem copy_any {h : Heap} {F : Nat → Prop} {p : Nat} {room : Int} {L : List AP} (r : CRep h F p room L) :
    HC Try.prog 14 #[ptr p] h (fun v h' => ∃ p' F', v = ptr p' ∧ CRep h' F' p' room L ∧ Ext h h' ∧ ∀ b, F' b → h.size ≤ b) := by
  obtain ⟨mb, ov, ks, q, r⟩ := r
  refine HC.body Try.func14 rfl (by kernel_rfl) 49 rfl rfl ?_
  refine HW.seq fun K1 hK1 => ?_
  refine HW.region ?_   -- region 0 cache.go:139
  refine HO.v (V.asP rfl) rfl 2 rfl rfl ?_
  refine HO.nil ?_
  refine hK1 _ _ ?_
  refine HW.seq fun K2 hK2 => ?_
  refine HW.seq fun K3 hK3 => ?_
  refine HW.region ?_   -- region 1 cache.go:140
  refine HO.v (V.mvP rfl) rfl 6 rfl rfl ?_
  refine HO.v (V.ptrEqNil rfl rfl T.pt23) rfl 7 rfl rfl ?_
  refine HO.nil ?_
  refine hK3 _ _ ?_
  refine HW.cond rfl (fun hc => ?_) (fun hc => ?_)
  · -- then
    refine HW.seq fun K4 hK4 => ?_
    refine HW.region ?_   -- region 2 cache.go:141
    refine HO.v (V.asP rfl) rfl 2 rfl rfl ?_
    refine HO.nil ?_
    refine hK4 _ _ ?_
    refine HW.ret ?_
    refine ⟨.pointer none, Res.one rfl rfl, (by simp at hc)⟩
  refine HW.skip ?_
  refine hK2 _ _ ?_
  refine HW.seqc (fun s hh => ∃ (p2 m2 : Nat) (o2 : SV), Has s [(0, ptr p), (3, ptr p2)] ∧ Ordr hh p2 (.int .i64 room) (.map (some m2)) o2 (nos L).reverse ∧ hh[m2]? = some (.map #[] 0) ∧ Ext h hh ∧ h.size ≤ p2 ∧ h.size ≤ m2 ∧ ∀ b, blkC (sv o2) b → h.size ≤ b) ?_ ?_
  ·
    refine HW.any 15 (fun fl h => h[p]? = some (.cells #[sv ov, .int .i64 room, .map (some mb)] 64 (0, 0)) ∧ Cap h 1 3 (sv ov) ((nos L).reverse.map iv)) mixed ?_   -- region 3 cache.go:143 (15 operations)
    have hS : h[p]? = some (.cells #[sv ov, .int .i64 room, .map (some mb)] 64 (0, 0)) ∧ Cap h 1 3 (sv ov) ((nos L).reverse.map iv) := ⟨r.hp, r.od.ord⟩
    refine HA.p 0 rfl (by kernel_rfl) (by kernel_rfl) (by kernel_rfl) rfl rfl 8 rfl rfl (fl := false) (by kernel_rfl) hS (fun _ => V.mvP rfl) ?_
    refine HA.p 1 rfl (by kernel_rfl) (by kernel_rfl) (by kernel_rfl) rfl rfl 9 rfl rfl (fl := false) (by kernel_rfl) hS (fun _ => V.nilCheck rfl) ?_
    refine HA.p 2 rfl (by kernel_rfl) (by kernel_rfl) (by kernel_rfl) rfl rfl 10 rfl rfl (fl := false) (by kernel_rfl) hS (fun _ => V.fieldAddr rfl T.fd64_0) ?_
    refine HA.p 3 rfl (by kernel_rfl) (by kernel_rfl) (by kernel_rfl) rfl rfl 11 rfl rfl (fl := false) (by kernel_rfl) hS (fun _ => V.fieldAddr rfl T.fd62_0) ?_
    refine HA.w 4 rfl (by kernel_rfl) (by kernel_rfl) (by kernel_rfl) rfl rfl 12 rfl rfl (fl := false) (by kernel_rfl) hS (fun _ _ hS => V.load rfl (load_one T.ag31 (v := sv ov) (cell_of hS.1 0))) ?_
    refine HA.p 7 rfl (by kernel_rfl) (by kernel_rfl) (by kernel_rfl) rfl rfl 15 rfl rfl (fl := false) (by kernel_rfl) hS (fun _ => V.mvP rfl) ?_
    refine HA.p 8 rfl (by kernel_rfl) (by kernel_rfl) (by kernel_rfl) rfl rfl 16 rfl rfl (fl := false) (by kernel_rfl) hS (fun _ => V.nilCheck rfl) ?_
    refine HA.p 9 rfl (by kernel_rfl) (by kernel_rfl) (by kernel_rfl) rfl rfl 17 rfl rfl (fl := false) (by kernel_rfl) hS (fun _ => V.fieldAddr rfl T.fd64_1) ?_
    refine HA.w 10 rfl (by kernel_rfl) (by kernel_rfl) (by kernel_rfl) rfl rfl 18 rfl rfl (fl := false) (by kernel_rfl) hS (fun _ _ hS => V.load rfl (load_one T.ag3 (v := .int .i64 room) (cell_of hS.1 1))) ?_
    refine HA.two 5 11 (by kernel_rfl) ?_ ?_    -- effects side by side
    ·
      refine Up.c rfl rfl 13 rfl rfl OpC.func (cloneI_any hS.2.sl (by have := r.len; simp [nos]; omega)) (fl := false) (by kernel_rfl) ?_
      rintro _ h1 ow
      have hSn : h1[p]? = some (.cells #[sv ov, .int .i64 room, .map (some mb)] 64 (0, 0)) ∧ Cap h1 1 3 (sv ov) ((nos L).reverse.map iv) := ⟨ow.ext.block r.hp fun f => f, r.od.ord.ext ow.ext⟩
      refine ⟨hSn, ?_⟩
      replace hS := hSn
      obtain ⟨rb, rfl⟩ := ow.cap.form
      refine HA.p 6 rfl (by kernel_rfl) (by kernel_rfl) (by kernel_rfl) rfl rfl 14 rfl rfl (fl := false) (by kernel_rfl) hS (fun _ => V.build (cs := #[sv rb]) T.zr62 T.pl62 rfl) ?_
      refine HA.one 11 (by kernel_rfl) ?_
      have hSn : (h1.push (.map #[] 0))[p]? = some (.cells #[sv ov, .int .i64 room, .map (some mb)] 64 (0, 0)) ∧ Cap (h1.push (.map #[] 0)) 1 3 (sv ov) ((nos L).reverse.map iv) := ⟨push_other hS.1, hS.2.ext (Ext.push _ _)⟩
      refine Up.e rfl rfl 19 rfl rfl (V.makeMap) (fl := false) (by kernel_rfl) hSn ?_
      replace hS := hSn
      refine HA.p 12 rfl (by kernel_rfl) (by kernel_rfl) (by kernel_rfl) rfl rfl 20 rfl rfl (fl := false) (by kernel_rfl) hS (fun _ => V.build (cs := #[sv rb, .int .i64 room, .map (some h1.size)]) T.zr64 T.pl64 rfl) ?_
      refine HA.one 13 (by kernel_rfl) ?_
      have hSn : ((h1.push (.map #[] 0)).push (.cells #[sv rb, .int .i64 room, .map (some h1.size)] 64 (0, 0)))[p]? = some (.cells #[sv ov, .int .i64 room, .map (some mb)] 64 (0, 0)) ∧ Cap ((h1.push (.map #[] 0)).push (.cells #[sv rb, .int .i64 room, .map (some h1.size)] 64 (0, 0))) 1 3 (sv ov) ((nos L).reverse.map iv) := ⟨push_other hS.1, hS.2.ext (Ext.push _ _)⟩
      refine Up.e rfl rfl 21 rfl rfl (V.boxA rfl) (fl := false) (by kernel_rfl) hSn ?_
      replace hS := hSn
      refine HA.p 14 rfl (by kernel_rfl) (by kernel_rfl) (by kernel_rfl) rfl rfl 3 rfl rfl (fl := false) (by kernel_rfl) hS (fun _ => V.asP rfl) ?_
      refine HA.done (by kernel_rfl) ?_
      refine ⟨_, h1.size, rb, ⟨rfl, rfl, trivial⟩, ⟨push_same _ _, (ow.cap.ext (Ext.push _ _)).ext (Ext.push _ _)⟩, push_other (push_same _ _), (ow.ext.trans (Ext.push _ _)).trans (Ext.push _ _), (ow.ext.trans (Ext.push _ _)).size, ow.ext.size, ow.fresh⟩
    ·
      have hSn : (h.push (.map #[] 0))[p]? = some (.cells #[sv ov, .int .i64 room, .map (some mb)] 64 (0, 0)) ∧ Cap (h.push (.map #[] 0)) 1 3 (sv ov) ((nos L).reverse.map iv) := ⟨push_other hS.1, hS.2.ext (Ext.push _ _)⟩
      refine Up.e rfl rfl 19 rfl rfl (V.makeMap) (fl := false) (by kernel_rfl) hSn ?_
      replace hS := hSn
      refine HA.one 5 (by kernel_rfl) ?_
      refine Up.c rfl rfl 13 rfl rfl OpC.func (cloneI_any hS.2.sl (by have := r.len; simp [nos]; omega)) (fl := false) (by kernel_rfl) ?_
      rintro _ h2 ow
      have hSn : (h2)[p]? = some (.cells #[sv ov, .int .i64 room, .map (some mb)] 64 (0, 0)) ∧ Cap (h2) 1 3 (sv ov) ((nos L).reverse.map iv) := ⟨ow.ext.block hS.1 fun f => f, hS.2.ext ow.ext⟩
      refine ⟨hSn, ?_⟩
      replace hS := hSn
      obtain ⟨rb, rfl⟩ := ow.cap.form
      refine HA.p 6 rfl (by kernel_rfl) (by kernel_rfl) (by kernel_rfl) rfl rfl 14 rfl rfl (fl := false) (by kernel_rfl) hS (fun _ => V.build (cs := #[sv rb]) T.zr62 T.pl62 rfl) ?_
      refine HA.p 12 rfl (by kernel_rfl) (by kernel_rfl) (by kernel_rfl) rfl rfl 20 rfl rfl (fl := false) (by kernel_rfl) hS (fun _ => V.build (cs := #[sv rb, .int .i64 room, .map (some h.size)]) T.zr64 T.pl64 rfl) ?_
      refine HA.one 13 (by kernel_rfl) ?_
      have hSn : (h2.push (.cells #[sv rb, .int .i64 room, .map (some h.size)] 64 (0, 0)))[p]? = some (.cells #[sv ov, .int .i64 room, .map (some mb)] 64 (0, 0)) ∧ Cap (h2.push (.cells #[sv rb, .int .i64 room, .map (some h.size)] 64 (0, 0))) 1 3 (sv ov) ((nos L).reverse.map iv) := ⟨push_other hS.1, hS.2.ext (Ext.push _ _)⟩
      refine Up.e rfl rfl 21 rfl rfl (V.boxA rfl) (fl := false) (by kernel_rfl) hSn ?_
      replace hS := hSn
      refine HA.p 14 rfl (by kernel_rfl) (by kernel_rfl) (by kernel_rfl) rfl rfl 3 rfl rfl (fl := false) (by kernel_rfl) hS (fun _ => V.asP rfl) ?_
      refine HA.done (by kernel_rfl) ?_
      refine ⟨_, h.size, rb, ⟨rfl, rfl, trivial⟩, ⟨push_same _ _, ow.cap.ext (Ext.push _ _)⟩, push_other (ow.ext.block (push_same _ _) fun f => f), ((Ext.push _ _).trans ow.ext).trans (Ext.push _ _), ((Ext.push h (.map #[] 0)).trans ow.ext).size, Nat.le_refl _, fun b hb => Nat.le_trans (Ext.push h (.map #[] 0)).size (ow.fresh b hb)⟩
  rintro s hh1 ⟨p2, m2, o2, hs, or1, hm2, x1, hp2, hm2s, ho2⟩
  refine HW.frame hs fun τ => ?_
  refine HW.seq fun K6 hK6 => ?_
  refine HW.seq fun K7 hK7 => ?_
  refine HW.region ?_   -- region 4 cache.go:144
  refine HO.v (V.mvP rfl) rfl 22 rfl rfl ?_
  refine HO.v (V.nilCheck rfl) rfl 23 rfl rfl ?_
  refine HO.v (V.fieldAddr rfl T.fd64_2) rfl 24 rfl rfl ?_
  refine HO.v (V.load rfl (load_one T.ag60 (v := .map (some mb)) (cell_of (x1.block r.hp fun f => f) 2))) rfl 25 rfl rfl ?_
  refine HO.a (V.range (kv := Value.int .i64) rfl (r.mp.map.ext x1) T.mp60) rfl 26 rfl rfl ?_
  rintro _ h2 ⟨rfl, hit, hext, hitsz⟩
  refine HO.nil ?_
  refine hK7 _ _ ?_
  have hit0 := hit
  have x2 := x1.trans hext
  refine HW.block ?_   -- block 0
  refine HW.loopm (fun m s hh => ∃ k : Nat, Has s [(3, ptr p2), (26, ptr hh1.size)] ∧ ∃ M ks2 q2 todo, Iter (Value.int .i64) hh hh1.size mb (ks.map fun k => (k, ptr (q k))) todo ∧ Half L M todo q ∧ CMap hh (fun b => h.size ≤ b ∧ b ≠ hh1.size) m2 M ks2 q2 ∧ Ordr hh p2 (.int .i64 room) (.map (some m2)) o2 (nos L).reverse ∧ Ext h hh ∧ hh1.size < hh.size ∧ m = todo.length) ?_ ?_
  · exact ⟨_, 0, ⟨rfl, rfl, trivial⟩, [], [], (fun _ => 0), _, hit, ⟨fun x hx => .inr (by rw [List.map_map]; exact List.mem_map.2 ⟨x.no, (r.mp.mem _).2 (List.mem_map.2 ⟨x, hx, rfl⟩), rfl⟩), (fun x hx => by simp at hx), fun p hp => by obtain ⟨k, hk, rfl⟩ := List.mem_map.1 hp; exact ⟨k, (r.mp.mem k).1 hk, rfl⟩⟩, CMap.empty (hext.block hm2 fun f => f) ⟨hm2s, fun e => by have := block_lt hm2; omega⟩, or1.chg hext (fun f => f) (fun _ _ f => f), x1.trans hext, by omega, rfl⟩
  rintro m s hh ⟨k, hs, M, ks2, q2, todo, hit, hhalf, hcm, hor, x2, hsz2, rfl⟩ J8 hJ8
  refine HW.frame hs fun τ => ?_
  refine HW.seq fun K9 hK9 => ?_
  refine HW.region ?_   -- region 5 cache.go:144
  refine HO.a (V.next rfl hit) rfl 27 rfl rfl ?_
  rintro _ h3 ⟨vs, bn, rfl, hv0, hnx⟩
  refine HO.v (V.extract rfl hv0) rfl 28 rfl rfl ?_
  refine HO.nil ?_
  refine hK9 _ _ ?_
  refine HW.seq fun K10 hK10 => ?_
  refine HW.condr rfl (fun hc => ?_) (fun hc => ?_)
  · -- else
    have htd : todo = [] := by
      rcases hnx with ⟨_, h1, _⟩ | ⟨h1, _⟩
      · exact h1
      · rw [h1] at hc; cases hc
    obtain rfl : h3 = hh := by
      rcases hnx with ⟨_, _, h1⟩ | ⟨h1, _⟩
      · exact h1
      · rw [h1] at hc; cases hc
    subst htd
    refine HW.exit ?_
    refine hK6 _ _ ?_
    refine HW.seq fun K11 hK11 => ?_
    refine HW.region ?_   -- region 8 cache.go:147
    refine HO.v (V.mvP rfl) rfl 48 rfl rfl ?_
    refine HO.v (V.asP rfl) rfl 2 rfl rfl ?_
    refine HO.nil ?_
    refine hK11 _ _ ?_
    refine HW.ret ?_
    refine ⟨ptr p2, Res.one rfl rfl, p2, _, rfl, ⟨m2, o2, ks2, q2, CIn.mk' (F := fun b => h.size ≤ b) ((hcm.chg (Chg.refl none_ _) (fun _ g _ => g.elim) (fun _ f => f.1)).same hhalf.done r.mp.nd) hor hp2 ho2 r.len r.sm⟩, x2, fun b hb => hb.1⟩
  refine HW.skip ?_
  refine hK10 _ _ ?_
  obtain ⟨i, pr, st⟩ : ∃ i pr, MStep (Value.int .i64) hh hh1.size mb (ks.map fun k => (k, ptr (q k))) todo i pr h3 := by
    rcases hnx with ⟨h1, _⟩ | ⟨_, h1⟩
    · rw [h1] at hc; cases hc
    · exact h1
  obtain ⟨key, hkey, rfl⟩ := hhalf.keys _ (List.mem_of_getElem? st.at')
  obtain ⟨x, hxm, rfl⟩ := List.mem_map.1 hkey
  have hlen := erase_len st.at'
  have hne2 : ∀ b, h.size ≤ b ∧ b ≠ hh1.size → ¬ b = hh1.size := fun b hb => hb.2
  have cm3 : CMap h3 (fun b => h.size ≤ b ∧ b ≠ hh1.size) m2 M ks2 q2 := hcm.ext' st.chg hne2
  have or3 : Ordr h3 p2 (.int .i64 room) (.map (some m2)) o2 (nos L).reverse := hor.chg st.chg (fun e => by
    have h1 := hor.hp
    obtain ⟨si, se, c0, h2⟩ := hit.it
    rw [e, h2] at h1; injection h1 with h1; cases h1) (fun b hb e => by
    obtain ⟨cs, fz, h1⟩ := hor.ord.blk hb
    obtain ⟨si, se, c0, h2⟩ := hit.it
    rw [e, h2] at h1; injection h1 with h1; cases h1)
  have hs1 := x1.size
  have x3 : Ext h h3 := x2.trans' st.chg fun b hb e => by omega
  obtain ⟨pb, hq0, hpb0, _⟩ := r.hpage hxm
  have hq := x3.block hq0 fun f => f
  have hpb := hpb0.ext x3
  refine HW.block ?_   -- block 1
  refine HW.seq fun K12 hK12 => ?_
  refine HW.region ?_   -- region 6 cache.go:144
  refine HO.v (V.entry rfl st.cur) rfl 29 rfl rfl ?_
  refine HO.v (V.extract rfl rfl) rfl 30 rfl rfl ?_
  refine HO.v (V.extract rfl rfl) rfl 31 rfl rfl ?_
  refine HO.v (V.asI rfl) rfl 4 rfl rfl ?_
  refine HO.v (V.asP rfl) rfl 5 rfl rfl ?_
  refine HO.nil ?_
  refine hK12 _ _ ?_
  refine HW.any 16 (fun fl h => cond fl True (h[p2]? = some (.cells #[sv o2, .int .i64 room, .map (some m2)] 64 (0, 0)) ∧ h[q x.no]? = some (.cells #[sv pb, .bool x.d] 69 (0, 0)))) mixed ?_   -- region 7 cache.go:145 (17 operations)
  have hS : (h3)[p2]? = some (.cells #[sv o2, .int .i64 room, .map (some m2)] 64 (0, 0)) ∧ (h3)[q x.no]? = some (.cells #[sv pb, .bool x.d] 69 (0, 0)) := ⟨or3.hp, hq⟩
  refine HA.p 0 rfl (by kernel_rfl) (by kernel_rfl) (by kernel_rfl) rfl rfl 32 rfl rfl (fl := false) (by kernel_rfl) hS (fun _ => V.mvP rfl) ?_
  refine HA.p 1 rfl (by kernel_rfl) (by kernel_rfl) (by kernel_rfl) rfl rfl 33 rfl rfl (fl := false) (by kernel_rfl) hS (fun _ => V.nilCheck rfl) ?_
  refine HA.p 2 rfl (by kernel_rfl) (by kernel_rfl) (by kernel_rfl) rfl rfl 34 rfl rfl (fl := false) (by kernel_rfl) hS (fun _ => V.fieldAddr rfl T.fd64_2) ?_
  refine HA.v 3 rfl (by kernel_rfl) (by kernel_rfl) (by kernel_rfl) rfl rfl 35 rfl rfl (fl := false) (by kernel_rfl) hS (by kernel_rfl) (fun _ hS => V.load rfl (load_one T.ag60 (v := .map (some m2)) (cell_of hS.1 2))) ?_
  refine HA.p 4 rfl (by kernel_rfl) (by kernel_rfl) (by kernel_rfl) rfl rfl 36 rfl rfl (fl := false) (by kernel_rfl) hS (fun _ => V.mvI rfl) ?_
  refine HA.p 5 rfl (by kernel_rfl) (by kernel_rfl) (by kernel_rfl) rfl rfl 37 rfl rfl (fl := false) (by kernel_rfl) hS (fun _ => V.mvP rfl) ?_
  refine HA.p 6 rfl (by kernel_rfl) (by kernel_rfl) (by kernel_rfl) rfl rfl 38 rfl rfl (fl := false) (by kernel_rfl) hS (fun _ => V.nilCheck rfl) ?_
  refine HA.p 7 rfl (by kernel_rfl) (by kernel_rfl) (by kernel_rfl) rfl rfl 39 rfl rfl (fl := false) (by kernel_rfl) hS (fun _ => V.fieldAddr rfl T.fd69_0) ?_
  refine HA.v 8 rfl (by kernel_rfl) (by kernel_rfl) (by kernel_rfl) rfl rfl 40 rfl rfl (fl := false) (by kernel_rfl) hS (by kernel_rfl) (fun _ hS => V.load rfl (load_one T.ag30 (v := sv pb) (cell_of hS.2 0))) ?_
  refine HA.p 10 rfl (by kernel_rfl) (by kernel_rfl) (by kernel_rfl) rfl rfl 42 rfl rfl (fl := false) (by kernel_rfl) hS (fun _ => V.mvP rfl) ?_
  refine HA.p 11 rfl (by kernel_rfl) (by kernel_rfl) (by kernel_rfl) rfl rfl 43 rfl rfl (fl := false) (by kernel_rfl) hS (fun _ => V.nilCheck rfl) ?_
  refine HA.p 12 rfl (by kernel_rfl) (by kernel_rfl) (by kernel_rfl) rfl rfl 44 rfl rfl (fl := false) (by kernel_rfl) hS (fun _ => V.fieldAddr rfl T.fd69_1) ?_
  refine HA.v 13 rfl (by kernel_rfl) (by kernel_rfl) (by kernel_rfl) rfl rfl 45 rfl rfl (fl := false) (by kernel_rfl) hS (by kernel_rfl) (fun _ hS => V.load rfl (load_one T.ag4 (v := .bool x.d) (cell_of hS.2 1))) ?_
  refine HA.one 9 (by kernel_rfl) ?_
  refine Up.c rfl rfl 41 rfl rfl OpC.func (cloneB_any hpb.sl (by have := r.sm x hxm; omega)) (fl := false) (by kernel_rfl) ?_
  rintro _ h4 ow
  have hSn : (h4)[p2]? = some (.cells #[sv o2, .int .i64 room, .map (some m2)] 64 (0, 0)) ∧ (h4)[q x.no]? = some (.cells #[sv pb, .bool x.d] 69 (0, 0)) := ⟨ow.ext.block hS.1 fun f => f, ow.ext.block hS.2 fun f => f⟩
  refine ⟨hSn, ?_⟩
  replace hS := hSn
  obtain ⟨rb, rfl⟩ := ow.cap.form
  refine HA.p 14 rfl (by kernel_rfl) (by kernel_rfl) (by kernel_rfl) rfl rfl 46 rfl rfl (fl := false) (by kernel_rfl) hS (fun _ => V.build (cs := #[sv rb, .bool x.d]) T.zr69 T.pl69 rfl) ?_
  refine HA.one 15 (by kernel_rfl) ?_
  have hSn : (h4.push (.cells #[sv rb, .bool x.d] 69 (0, 0)))[p2]? = some (.cells #[sv o2, .int .i64 room, .map (some m2)] 64 (0, 0)) ∧ (h4.push (.cells #[sv rb, .bool x.d] 69 (0, 0)))[q x.no]? = some (.cells #[sv pb, .bool x.d] 69 (0, 0)) := ⟨push_other hS.1, push_other hS.2⟩
  refine Up.e rfl rfl 47 rfl rfl (V.boxA rfl) (fl := false) (by kernel_rfl) hSn ?_
  replace hS := hSn
  refine HA.one 16 (by kernel_rfl) ?_
  have e4 : Ext h3 (h4.push (.cells #[sv rb, .bool x.d] 69 (0, 0))) := ow.ext.trans (Ext.push _ _)
  refine Up.ur rfl rfl rfl (V.mapUpdate (KV.int .i64) V.sbI rfl rfl rfl (cm3.map.ext e4) T.mp60 (inB_iff T.in3)) (fl := true) (by kernel_rfl) ?_
  rintro h5 pu
  refine ⟨trivial, ?_⟩
  refine HA.done (by kernel_rfl) ?_
  have hs3 := st.size
  have hs4 := ow.ext.size
  have cm5 : CMap h5 (fun b => h.size ≤ b ∧ b ≠ hh1.size) m2 (x :: rid x.no M) (kput ks2 x.no) (fput q2 x.no h4.size) := by
    have hp : PgAt (h4.push (.cells #[sv rb, .bool x.d] 69 (0, 0))) (fun b => h.size ≤ b ∧ b ≠ hh1.size) h4.size x := ⟨⟨rb, push_same _ _, ow.cap.ext (Ext.push _ _), fun j hj => by have := ow.fresh j hj; omega⟩, by omega⟩
    refine (cm3.ext' e4 fun _ _ f => f).put hp (fun y hy e => ?_) (fun b f => f) pu
    obtain ⟨_, h2, _⟩ := (cm3.pg y hy).cells
    have := block_lt h2
    omega
  have hsz5 := pu.size
  have hps : (h4.push (.cells #[sv rb, .bool x.d] 69 (0, 0))).size = h4.size + 1 := by simp
  refine hJ8 _ _ _ ⟨k + 1, ⟨rfl, rfl, trivial⟩, _, _, _, _, ?_, hhalf.next r.mp.nd hxm st.at', cm5, ?_, ?_, ?_, rfl⟩ (by omega)
  · have h1 := (st.iter.chg e4 (fun f => f) fun f => f)
    have hm := cm3.map.ext e4
    have hmne : m2 ≠ mb := fun e => by have := r.mp.map.lt; omega
    have hmne2 : m2 ≠ hh1.size := cm3.own.2
    exact h1.chg pu.chg (fun e => hmne2 e.symm) fun e => hmne e.symm
  · refine (or3.chg e4 (fun f => f) fun _ _ f => f).chg pu.chg (fun e => ?_) fun b hb e => ?_
    · subst e
      obtain ⟨es, cl, h1, _⟩ := cm3.map
      have := or3.hp
      rw [h1] at this; injection this with this; cases this
    · subst e
      obtain ⟨es, cl, h1, _⟩ := cm3.map
      obtain ⟨cs, fz, h2⟩ := or3.ord.blk hb
      rw [h1] at h2; injection h2 with h2; cases h2
  · exact (x3.trans e4).trans' pu.chg fun b hb e => by omega
  · omega

end Go.Proofs.Ytdbiggfnnhmpiaa
