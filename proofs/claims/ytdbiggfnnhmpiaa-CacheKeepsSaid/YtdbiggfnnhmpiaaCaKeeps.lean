/- The call of CacheKeeps returns true and turns nothing old. Conditions: the calls of the input are readable. -/
import Derived.Test.YtdbiggfnnhmpiaaCaKeepPure
import Derived.Test.YtdbiggfnnhmpiaaCaSmall
import Derived.Test.YtdbiggfnnhmpiaaHlArr
namespace Go.Proofs.Ytdbiggfnnhmpiaa
open Go Go.HL

theorem bno_back {z : Int} (h : 0 ≤ z ∧ z ≤ 255) : ((bno z).toNat : Int) = z := by
  unfold bno
  simp
  omega
theorem Frames.arr {h h' : Heap} {v : Value} {A : List AFr} {t : TypeId} {b : Nat} {l l2 : List Int} (r : Frames h v A) (ha : Arr h t b l) (p : ArrPut h t b l2 h') : Frames h' v A := by
  obtain ⟨fl, h1, h2⟩ := r
  have hint : ∀ o x, HL.cell h b o = some x → ∃ z, x = .int .i64 z := fun o x hx => by
    rw [cell_of ha] at hx
    have : x ∈ l.map (Value.int .i64) := List.mem_of_getElem? (by simpa using hx)
    obtain ⟨z, _, rfl⟩ := List.mem_map.1 this
    exact ⟨z, rfl⟩
  refine ⟨fl, h1.chg p.chg fun j hj e => ?_, h2.1, fun i hi1 hi2 => ?_⟩
  · subst e
    obtain ⟨o, n, c, rfl, hn⟩ := hj
    have hl := h1.cells.1
    rw [flat_len fr_len] at hl
    obtain ⟨b', o', he, hc⟩ := h1.cells.pos hn
    injection he with he; injection he with e1 e2; subst e1 e2
    have hc2 := cell_at fr_len (i := 0) (j := 2) (v := sv (fl[0]'(by omega)).b) hc (by omega) rfl
    obtain ⟨z, hz⟩ := hint _ _ hc2
    cases hz
  · have h3 := h2.2 i hi1 hi2
    refine ⟨h3.page, h3.commit, Sl.chg p.chg h3.b fun j hj e => ?_⟩
    subst e
    obtain ⟨o, n, c, hv, hn⟩ := hj
    have hb : Sl h 1 (sv fl[i].b) (A[i].b.map bv) := h3.b
    rw [hv] at hb
    have hl := hb.cells.len
    obtain ⟨b', o', he, hc⟩ := hb.cells.pos hn
    injection he with he; injection he with e1 e2; subst e1 e2
    have hl0 : 0 < A[i].b.length := by simp at hl; omega
    have hc2 := hc 0 (bv (A[i].b)[0]) (by simp [hl0])
    obtain ⟨z, hz⟩ := hint _ _ hc2
    cases hz
/-- A frame that came out of the cache, as the law reads it: its page and its one byte. -/
theorem frame_at {h : Heap} {v : SV} {A : List AFr} {k : Nat} (r : Frames h (sv v) A) (hk : k < A.length) {pg : Int} {u : UInt8} (hA : A[k] = ⟨pg, 0, [u]⟩) :
    ∃ b o n c bb bo bc, v = (some ⟨b, o, none⟩, n, c) ∧ n = A.length ∧ cell h b (o + k * 3 + 0) = some (.int .i64 pg) ∧ cell h b (o + k * 3 + 2) = some (.slice (some ⟨bb, bo, none⟩) 1 bc) ∧ cell h bb (bo + 0) = some (.int .u8 u.toNat) := by
  have hlen := r.len
  obtain ⟨l, h1, h2⟩ := r
  obtain ⟨a, n, c⟩ := v
  have h3 : Sl h 3 (.slice a n c) (l.flatMap fr) := h1
  have hkl : k < l.length := by rw [h2.1]; exact hk
  obtain ⟨b, o, rfl, hc⟩ := h3.cells.pos (show 0 < n by have : n = A.length := hlen; omega)
  have h4 := h2.2 k hkl hk
  rw [hA] at h4
  have hb : Sl h 1 (sv l[k].b) ([u].map bv) := h4.b
  obtain ⟨⟨ba, bn, bc⟩, hbe⟩ : ∃ x : SV, x = l[k].b := ⟨_, rfl⟩
  rw [← hbe] at hb
  have hb' : Sl h 1 (.slice ba bn bc) ([u].map bv) := hb
  have hbn : bn = 1 := by have := hb'.cells.len; simpa using this.symm
  subst hbn
  obtain ⟨bb, bo, rfl, hbc⟩ := hb'.cells.pos (by omega)
  refine ⟨b, o, n, c, bb, bo, bc, rfl, hlen, cell_at fr_len hc hkl ?_, cell_at fr_len hc hkl ?_, hbc 0 _ rfl⟩
  · show some (Value.int .i64 l[k].page) = _
    rw [h4.page]
  · show some (sv l[k].b) = _
    rw [← hbe]

set_option maxRecDepth 100000 in
theorem keeps_any {h : Heap} {room : UInt8} {lv : SV} {M : List AOp} (hM : Ops h (sv lv) M) :
    HC Try.prog 3 #[bv room, sv lv] h (fun v h' => v = .bool true ∧ Ext h h') := by
  obtain ⟨a, n, c⟩ := lv
  obtain ⟨os, hs0, hall⟩ := id hM
  have hs1 : Sl h 5 (.slice a n c) (os.flatMap opc) := hs0
  have hon : os.length = n := by have := hs1.cells.1; rw [flat_len opc_len] at this; omega
  have hMl := hall.1
  have hnb := hs1.bd
  obtain ⟨N, hN0⟩ : ∃ N, N = room.toNat % 8 + 1 := ⟨_, rfl⟩
  have hN : (room.toNat : Int) % 8 + 1 = (N : Int) := by omega
  refine HC.body Try.func3 rfl (by kernel_rfl) 246 rfl rfl ?_
  refine HW.seq fun K1 hK1 => ?_
  refine HW.region ?_   -- region 0 law.go:104
  refine HO.v (V.asB rfl) rfl 4 rfl rfl ?_
  refine HO.nil ?_
  refine hK1 _ _ ?_
  refine HW.seq fun K2 hK2 => ?_
  refine HW.region ?_   -- region 1 law.go:105
  refine HO.v (V.mvI rfl) rfl 16 rfl rfl ?_
  refine HO.v (V.rem rfl rfl (by omega)) rfl 17 rfl rfl ?_
  refine HO.v (V.convE rfl T.in3 T.in5 (b := (room.toNat : Int) % 8) (IntWalk.i64_in _ (by omega))) rfl 18 rfl rfl ?_
  refine HO.v (V.add rfl rfl (by omega)) rfl 19 rfl rfl ?_
  rw [hN]
  refine HO.c OpC.func rfl 20 rfl rfl new_any ?_
  rintro _ h1 hn1
  rcases hn1 with ⟨hbad, _⟩ | ⟨_, p, F1, rfl, r1, e1, f1⟩
  · exact absurd ⟨by omega, by omega⟩ hbad
  refine HO.v (V.mvU rfl) rfl 15 rfl rfl ?_
  refine HO.v (V.extract rfl rfl) rfl 21 rfl rfl ?_
  refine HO.v (V.extract rfl rfl) rfl 22 rfl rfl ?_
  refine HO.v (V.asP rfl) rfl 5 rfl rfl ?_
  refine HO.v (V.asI rfl) rfl 6 rfl rfl ?_
  refine HO.nil ?_
  refine hK2 _ _ ?_
  refine HW.seq fun K3 hK3 => ?_
  refine HW.seq fun K4 hK4 => ?_
  refine HW.region ?_   -- region 2 law.go:106
  refine HO.v (V.mvP rfl) rfl 23 rfl rfl ?_
  refine HO.v (V.ptrEqNil rfl rfl T.pt23) rfl 24 rfl rfl ?_
  refine HO.v (V.mvB rfl) rfl 25 rfl rfl ?_
  refine HO.spl (fun hb2 => (by simp at hb2)) (fun hb2 => ?_)
  refine HO.v (V.mvI rfl) rfl 26 rfl rfl ?_
  refine HO.v (V.neq rfl rfl rfl) rfl 27 rfl rfl ?_
  refine HO.v (V.pick_f rfl rfl) rfl 28 rfl rfl ?_
  refine HO.v (V.mvB rfl) rfl 29 rfl rfl ?_
  refine HO.spl (fun hb6 => (by simp at hb6)) (fun hb6 => ?_)
  refine HO.v (V.mvS rfl) rfl 30 rfl rfl ?_
  refine HO.c OpC.func rfl 31 rfl rfl (small_any (lv := (a, n, c)) (hM.ext e1)) ?_
  rintro _ h1b ⟨bb, rfl, hfew, e1b⟩
  obtain rfl := e1b.symm
  refine HO.v (V.not rfl) rfl 32 rfl rfl ?_
  refine HO.v (V.pick_f rfl rfl) rfl 33 rfl rfl ?_
  refine HO.nil ?_
  refine hK4 _ _ ?_
  refine HW.cond rfl (fun hc => ?_) (fun hc => ?_)
  · -- then
    refine HW.seq fun K5 hK5 => ?_
    refine HW.region ?_   -- region 3 law.go:107
    refine HO.c OpC.func rfl 34 rfl rfl live_any ?_
    rintro _ h2 ⟨rfl, x2⟩
    refine HO.v (V.mvB rfl) rfl 35 rfl rfl ?_
    refine HO.spl (fun hb1 => ?_) (fun hb1 => (by simp at hb1))
    refine HO.v (V.mvP rfl) rfl 36 rfl rfl ?_
    refine HO.v (V.ptrNeNil rfl rfl T.pt23) rfl 37 rfl rfl ?_
    refine HO.v (V.pick_t rfl rfl) rfl 38 rfl rfl ?_
    refine HO.v (V.asB rfl) rfl 4 rfl rfl ?_
    refine HO.nil ?_
    refine hK5 _ _ ?_
    refine HW.ret ?_
    refine ⟨.bool true, Res.one rfl rfl, rfl, e1.trans x2⟩
  refine HW.skip ?_
  refine hK3 _ _ ?_
  refine HW.seq fun K6 hK6 => ?_
  have hf : Few M := hfew (by cases bb <;> simp_all)
  have hn100 : n ≤ 100 := by have := hf.1; omega
  refine HW.region ?_   -- region 4 law.go:109
  refine HO.e (V.alloc T.zr29 rfl) rfl 7 rfl rfl ?_
  refine HO.e (V.alloc T.zr29 rfl) rfl 8 rfl rfl ?_
  refine HO.nil ?_
  refine hK6 _ _ ?_
  refine HW.seq fun K7 hK7 => ?_
  refine HW.seq fun K8 hK8 => ?_
  refine HW.region ?_   -- region 5 law.go:110
  refine HO.v (V.asI rfl) rfl 9 rfl rfl ?_
  refine HO.nil ?_
  refine hK8 _ _ ?_
  refine HW.block ?_   -- block 0
  refine HW.loopm (fun m s hh => ∃ (k bp bt : Nat), Has s [(0, .int .u8 room.toNat), (1, .slice a n c), (5, ptr p), (7, ptr bp), (8, ptr bt), (9, .int .i64 k)] ∧ ∃ F L P U, CRep hh F p N L ∧ Kp k N L P U ∧ Arr hh 29 bp P ∧ Arr hh 29 bt U ∧ Ext h hh ∧ (∀ b, F b → h.size ≤ b) ∧ ¬ F bp ∧ ¬ F bt ∧ bp ≠ bt ∧ h.size ≤ bp ∧ h.size ≤ bt ∧ k ≤ n ∧ m = n - k) ?_ ?_
  · exact ⟨_, 0, _, _, ⟨rfl, rfl, rfl, rfl, rfl, rfl, trivial⟩, F1, [], List.replicate 16 0, List.replicate 16 0, (r1.ext (Ext.push _ _)).ext (Ext.push _ _), Kp.zero N, push_other (push_same _ _), push_same _ _, (e1.trans (Ext.push _ _)).trans (Ext.push _ _), f1, (fun f => Nat.lt_irrefl _ (r1.lt _ f)), (fun f => by have h2 := r1.lt _ f; rw [Array.size_push] at h2; omega), (by simp), e1.size, (by have := e1.size; simp; omega), by omega, rfl⟩
  rintro m s hA ⟨k, bp, bt, hs, F, L, P, U, r, kp, hP, hT, xA, fA, nfp, nft, hne, hbp, hbt, hkn, rfl⟩ J9 hJ9
  refine HW.frame hs fun τ => ?_
  refine HW.seq fun K10 hK10 => ?_
  refine HW.seq fun K11 hK11 => ?_
  refine HW.region ?_   -- region 6 law.go:110
  refine HO.v (V.mvI rfl) rfl 39 rfl rfl ?_
  refine HO.v (V.mvS rfl) rfl 40 rfl rfl ?_
  refine HO.v (V.len rfl T.el22) rfl 41 rfl rfl ?_
  refine HO.v (V.lss rfl rfl rfl) rfl 42 rfl rfl ?_
  refine HO.nil ?_
  refine hK11 _ _ ?_
  refine HW.condr rfl (fun hc => ?_) (fun hc => ?_)
  · -- else
    refine HW.exit ?_
    refine hK7 _ _ ?_
    refine HW.seq fun K12 hK12 => ?_
    have hrange : ∀ x ∈ nos L, -9223372036854775808 ≤ x ∧ x ≤ 9223372036854775807 := fun x hx => by
      obtain ⟨y, hy, hyx⟩ := List.mem_map.1 hx
      obtain ⟨_, q, z, t, h1, h2, _⟩ := kp.pg y hy
      have h3 := (List.getElem?_eq_some_iff.1 h2).1
      rw [kp.lp] at h3
      omega
    refine HW.region ?_   -- region 23 law.go:131
    refine HO.v (V.mvP rfl) rfl 156 rfl rfl ?_
    refine HO.c OpC.func rfl 157 rfl rfl (dirty_any r hrange) ?_
    rintro _ h3 ⟨S, hS, hso, hfr, x3⟩
    obtain ⟨d3, rfl⟩ := hfr.form
    rw [kp.frames hS] at hfr
    have hdl : d3.2.1 = S.length := by have := hfr.len; simpa using this
    have hSN : S.length ≤ 8 := by
      have h1 := hS.length_eq
      have h2 := kp.len
      simp [nos] at h1
      omega
    refine HO.v (V.asS rfl) rfl 13 rfl rfl ?_
    refine HO.nil ?_
    refine hK12 _ _ ?_
    refine HW.seq fun K13 hK13 => ?_
    refine HW.seq fun K14 hK14 => ?_
    refine HW.region ?_   -- region 24 law.go:132
    refine HO.v (V.asI rfl) rfl 14 rfl rfl ?_
    refine HO.nil ?_
    refine hK14 _ _ ?_
    refine HW.block ?_   -- block 4
    refine HW.loopm (fun m s hh => ∃ (k : Nat) (T2 : List Int), Has s [(7, ptr bp), (8, ptr bt), (13, sv d3), (14, .int .i64 k)] ∧ Frames hh (sv d3) (S.map fun k => ⟨k, 0, [bno (P.getD (k - 1).toNat 0)]⟩) ∧ Kd S k P T2 ∧ Arr hh 29 bp P ∧ Arr hh 29 bt T2 ∧ Ext h hh ∧ k ≤ S.length ∧ m = S.length - k) ?_ ?_
    · exact ⟨_, 0, U, ⟨rfl, rfl, rfl, rfl, trivial⟩, hfr, kp.last hS, hP.ext x3, hT.ext x3, xA.trans x3, by omega, rfl⟩
    rintro m s hB ⟨k, T2, hs, hfr, kd, hP, hT, hx, hkS, rfl⟩ J15 hJ15
    refine HW.frame hs fun τ => ?_
    refine HW.seq fun K16 hK16 => ?_
    refine HW.seq fun K17 hK17 => ?_
    refine HW.region ?_   -- region 25 law.go:132
    refine HO.v (V.mvI rfl) rfl 158 rfl rfl ?_
    refine HO.v (V.mvS rfl) rfl 159 rfl rfl ?_
    refine HO.v (V.len rfl T.el36) rfl 160 rfl rfl ?_
    refine HO.v (V.lss rfl rfl rfl) rfl 161 rfl rfl ?_
    refine HO.nil ?_
    refine hK17 _ _ ?_
    refine HW.condr rfl (fun hc => ?_) (fun hc => ?_)
    · -- else
      refine HW.exit ?_
      refine hK13 _ _ ?_
      refine HW.seq fun K18 hK18 => ?_
      have hTP : T2 = P := by
        have h1 := of_decide_eq_false hc
        have h2 : k = S.length := by omega
        rw [h2] at kd
        exact kd.fin
      have hTl := kd.lt
      have hPl := kd.lp
      refine HW.region ?_   -- region 30 law.go:138
      refine HO.c OpC.func rfl 240 rfl rfl live_any ?_
      rintro _ h5 ⟨rfl, x5⟩
      refine HO.v (V.mvB rfl) rfl 241 rfl rfl ?_
      refine HO.spl (fun hb1 => ?_) (fun hb1 => (by simp at hb1))
      refine HO.v (V.load rfl (load_agg (T2.map (Value.int .i64)) T.ag29 (by rw [List.length_map, hTl]; exact T.sz29) (hT.ext x5).cells)) rfl 242 rfl rfl ?_
      refine HO.v (V.load rfl (load_agg (P.map (Value.int .i64)) T.ag29 (by rw [List.length_map, hPl]; exact T.sz29) (hP.ext x5).cells)) rfl 243 rfl rfl ?_
      refine HO.v (V.arEql rfl rfl T.ar29 T.in3 T.ag3 T.sz3 (by kernel_rfl) (by kernel_rfl) hTl hPl (decide_eq_true hTP)) rfl 244 rfl rfl ?_
      refine HO.v (V.pick_t rfl rfl) rfl 245 rfl rfl ?_
      refine HO.v (V.asB rfl) rfl 4 rfl rfl ?_
      refine HO.nil ?_
      refine hK18 _ _ ?_
      refine HW.ret ?_
      refine ⟨.bool true, Res.one rfl rfl, rfl, hx.trans x5⟩
    refine HW.skip ?_
    refine hK16 _ _ ?_
    refine HW.seq fun K19 hK19 => ?_
    have hk2 : k < S.length := by have := of_decide_eq_true hc; omega
    obtain ⟨y, hy, hyn⟩ := List.mem_map.1 ((hS.mem_iff).1 (List.getElem_mem hk2))
    obtain ⟨_, qy, z0, _, hq0, _⟩ := kp.pg y hy
    have hSk : S[k] = (qy : Int) + 1 := by rw [← hyn, hq0]
    obtain ⟨z, t, hPz, hTz, htz⟩ := kd.rest qy (by rw [List.drop_eq_getElem_cons hk2, hSk]; exact List.mem_cons_self)
    have hzr := kp.pr qy z hPz
    have hzb := bno_back (z := z) (by omega)
    have hql := (List.getElem?_eq_some_iff.1 hPz)
    have hqt := (List.getElem?_eq_some_iff.1 hTz)
    have hq16 : qy < 16 := by have := hql.1; rw [kd.lp] at this; exact this
    have hcp : HL.cell hB bp (0 + qy) = some (.int .i64 z) := by rw [hP.cell hql.1, hql.2]
    have hct : HL.cell hB bt (0 + qy) = some (.int .i64 t) := by rw [hT.cell hqt.1, hqt.2]
    have hTl := kd.lt
    have hPl := kd.lp
    obtain ⟨b, o, n3, c3, bb, bo, bc, rfl, hn3, hc0, hc2, hc3⟩ := frame_at hfr (k := k) (pg := (qy : Int) + 1) (u := bno z) (by simpa using hk2) (by
      rw [List.getElem_map, hSk]
      have e : ((qy : Int) + 1 - 1).toNat = qy := by omega
      rw [e, List.getD, hPz]; rfl)
    have hn3' : n3 = S.length := by simpa using hn3
    have hqy1 : (qy : Int) + 1 - 1 = qy := by omega
    refine HW.block ?_   -- block 5
    refine HW.seq fun K20 hK20 => ?_
    refine HW.seq fun K21 hK21 => ?_
    refine HW.quiet mixed (by kernel_rfl) ?_   -- region 27 law.go:133
    refine HQ.v (V.mvS rfl) rfl 164 rfl rfl ?_
    refine HQ.v (V.mvI rfl) rfl 165 rfl rfl ?_
    refine HQ.v (V.indexAddr rfl rfl T.el36 T.sz39 (by omega)) rfl 166 rfl rfl ?_
    refine HQ.v (V.fieldAddr rfl T.fd39_0) rfl 167 rfl rfl ?_
    refine HQ.v (V.load rfl (load_one T.ag3 (v := .int .i64 ((qy : Int) + 1)) hc0)) rfl 168 rfl rfl ?_
    refine HQ.v (V.lss rfl rfl rfl) rfl 169 rfl rfl ?_
    refine HQ.v (V.mvB rfl) rfl 170 rfl rfl ?_
    refine HQ.spl (fun hb6 => (by have := of_decide_eq_true hb6; omega)) (fun hb6 => ?_)
    refine HQ.v (V.mvS rfl) rfl 171 rfl rfl ?_
    refine HQ.v (V.mvI rfl) rfl 172 rfl rfl ?_
    refine HQ.v (V.indexAddr rfl rfl T.el36 T.sz39 (by omega)) rfl 173 rfl rfl ?_
    refine HQ.v (V.fieldAddr rfl T.fd39_0) rfl 174 rfl rfl ?_
    refine HQ.v (V.load rfl (load_one T.ag3 (v := .int .i64 ((qy : Int) + 1)) hc0)) rfl 175 rfl rfl ?_
    refine HQ.v (V.gtr rfl rfl rfl) rfl 176 rfl rfl ?_
    refine HQ.v (V.pick_f rfl rfl) rfl 177 rfl rfl ?_
    refine HQ.v (V.mvB rfl) rfl 178 rfl rfl ?_
    refine HQ.spl (fun hb14 => (by have := of_decide_eq_true hb14; omega)) (fun hb14 => ?_)
    refine HQ.v (V.mvS rfl) rfl 179 rfl rfl ?_
    refine HQ.v (V.mvI rfl) rfl 180 rfl rfl ?_
    refine HQ.v (V.indexAddr rfl rfl T.el36 T.sz39 (by omega)) rfl 181 rfl rfl ?_
    refine HQ.v (V.fieldAddr rfl T.fd39_2) rfl 182 rfl rfl ?_
    refine HQ.v (V.load rfl (load_one T.ag30 (v := .slice (some ⟨bb, bo, none⟩) 1 bc) hc2)) rfl 183 rfl rfl ?_
    refine HQ.v (V.len rfl T.el30) rfl 184 rfl rfl ?_
    refine HQ.v (V.neq rfl rfl rfl) rfl 185 rfl rfl ?_
    refine HQ.v (V.pick_f rfl rfl) rfl 186 rfl rfl ?_
    refine HQ.v (V.mvB rfl) rfl 187 rfl rfl ?_
    refine HQ.spl (fun hb23 => (by simp at hb23)) (fun hb23 => ?_)
    refine HQ.v (V.mvS rfl) rfl 188 rfl rfl ?_
    refine HQ.v (V.mvI rfl) rfl 189 rfl rfl ?_
    refine HQ.v (V.indexAddr rfl rfl T.el36 T.sz39 (by omega)) rfl 190 rfl rfl ?_
    refine HQ.v (V.fieldAddr rfl T.fd39_2) rfl 191 rfl rfl ?_
    refine HQ.v (V.load rfl (load_one T.ag30 (v := .slice (some ⟨bb, bo, none⟩) 1 bc) hc2)) rfl 192 rfl rfl ?_
    refine HQ.v (V.indexAddr1 rfl rfl T.el30 T.sz5 (by omega)) rfl 193 rfl rfl ?_
    refine HQ.v (V.load rfl (load_one T.ag5 (v := .int .u8 (bno z).toNat) hc3)) rfl 194 rfl rfl ?_
    refine HQ.v (V.convE rfl T.in3 T.in5 (b := ((bno z).toNat : Int)) (IntWalk.i64_in _ (by omega))) rfl 195 rfl rfl ?_
    refine HQ.v (V.mvS rfl) rfl 196 rfl rfl ?_
    refine HQ.v (V.mvI rfl) rfl 197 rfl rfl ?_
    refine HQ.v (V.indexAddr rfl rfl T.el36 T.sz39 (by omega)) rfl 198 rfl rfl ?_
    refine HQ.v (V.fieldAddr rfl T.fd39_0) rfl 199 rfl rfl ?_
    refine HQ.v (V.load rfl (load_one T.ag3 (v := .int .i64 ((qy : Int) + 1)) hc0)) rfl 200 rfl rfl ?_
    refine HQ.v (V.sub rfl rfl (by omega)) rfl 201 rfl rfl ?_
    rw [hqy1]
    refine HQ.v (V.indexA rfl rfl T.ar29 T.sz3 (by omega)) rfl 202 rfl rfl ?_
    refine HQ.v (V.load rfl (load_one T.ag3 (v := .int .i64 z) hcp)) rfl 203 rfl rfl ?_
    refine HQ.v (V.neq rfl rfl rfl) rfl 204 rfl rfl ?_
    refine HQ.v (V.pick_f rfl rfl) rfl 205 rfl rfl ?_
    refine HQ.v (V.mvB rfl) rfl 206 rfl rfl ?_
    refine HQ.spl (fun hb42 => (by have := of_decide_eq_true hb42; omega)) (fun hb42 => ?_)
    refine HQ.v (V.mvS rfl) rfl 207 rfl rfl ?_
    refine HQ.v (V.mvI rfl) rfl 208 rfl rfl ?_
    refine HQ.v (V.indexAddr rfl rfl T.el36 T.sz39 (by omega)) rfl 209 rfl rfl ?_
    refine HQ.v (V.fieldAddr rfl T.fd39_0) rfl 210 rfl rfl ?_
    refine HQ.v (V.load rfl (load_one T.ag3 (v := .int .i64 ((qy : Int) + 1)) hc0)) rfl 211 rfl rfl ?_
    refine HQ.v (V.sub rfl rfl (by omega)) rfl 212 rfl rfl ?_
    rw [hqy1]
    refine HQ.v (V.indexA rfl rfl T.ar29 T.sz3 (by omega)) rfl 213 rfl rfl ?_
    refine HQ.v (V.load rfl (load_one T.ag3 (v := .int .i64 t) hct)) rfl 214 rfl rfl ?_
    refine HQ.v (V.mvS rfl) rfl 215 rfl rfl ?_
    refine HQ.v (V.mvI rfl) rfl 216 rfl rfl ?_
    refine HQ.v (V.indexAddr rfl rfl T.el36 T.sz39 (by omega)) rfl 217 rfl rfl ?_
    refine HQ.v (V.fieldAddr rfl T.fd39_0) rfl 218 rfl rfl ?_
    refine HQ.v (V.load rfl (load_one T.ag3 (v := .int .i64 ((qy : Int) + 1)) hc0)) rfl 219 rfl rfl ?_
    refine HQ.v (V.sub rfl rfl (by omega)) rfl 220 rfl rfl ?_
    rw [hqy1]
    refine HQ.v (V.indexA rfl rfl T.ar29 T.sz3 (by omega)) rfl 221 rfl rfl ?_
    refine HQ.v (V.load rfl (load_one T.ag3 (v := .int .i64 z) hcp)) rfl 222 rfl rfl ?_
    refine HQ.v (V.eql rfl rfl rfl) rfl 223 rfl rfl ?_
    refine HQ.v (V.pick_f rfl rfl) rfl 224 rfl rfl ?_
    refine HQ.nil ?_
    refine hK21 _ _ ?_
    refine HW.cond rfl (fun hc => ?_) (fun hc => ?_)
    · -- then
      refine HW.seq fun K22 hK22 => ?_
      refine HW.region ?_   -- region 28 law.go:134
      refine HO.v (V.asB rfl) rfl 4 rfl rfl ?_
      refine HO.nil ?_
      refine hK22 _ _ ?_
      refine HW.ret ?_
      refine ⟨.bool false, Res.one rfl rfl, (by exfalso; have := of_decide_eq_true hc; omega)⟩
    refine HW.skip ?_
    refine hK20 _ _ ?_
    refine HW.tail 15 mixed (by kernel_rfl) ?_   -- region 29 law.go:136
    simp only [List.take_succ_cons, List.take_zero, List.drop_succ_cons, List.drop_zero]
    refine HT.v (V.mvS rfl) rfl 225 rfl rfl ?_
    refine HT.v (V.mvI rfl) rfl 226 rfl rfl ?_
    refine HT.v (V.indexAddr rfl rfl T.el36 T.sz39 (by omega)) rfl 227 rfl rfl ?_
    refine HT.v (V.fieldAddr rfl T.fd39_0) rfl 228 rfl rfl ?_
    refine HT.v (V.load rfl (load_one T.ag3 (v := .int .i64 ((qy : Int) + 1)) hc0)) rfl 229 rfl rfl ?_
    refine HT.v (V.sub rfl rfl (by omega)) rfl 230 rfl rfl ?_
    refine HT.v (V.mvS rfl) rfl 231 rfl rfl ?_
    refine HT.v (V.mvI rfl) rfl 232 rfl rfl ?_
    refine HT.v (V.indexAddr rfl rfl T.el36 T.sz39 (by omega)) rfl 233 rfl rfl ?_
    refine HT.v (V.fieldAddr rfl T.fd39_0) rfl 234 rfl rfl ?_
    refine HT.v (V.load rfl (load_one T.ag3 (v := .int .i64 ((qy : Int) + 1)) hc0)) rfl 235 rfl rfl ?_
    refine HT.v (V.sub rfl rfl (by omega)) rfl 236 rfl rfl ?_
    rw [hqy1]
    refine HT.v (V.indexA rfl rfl T.ar29 T.sz3 (by omega)) rfl 237 rfl rfl ?_
    refine HT.v (V.load rfl (load_one T.ag3 (v := .int .i64 z) hcp)) rfl 238 rfl rfl ?_
    refine HT.v (V.indexA rfl rfl T.ar29 T.sz3 (by omega)) rfl 239 rfl rfl ?_
    refine HT.nil ?_
    refine HO.ur (V.storeArr rfl rfl T.sz3 hT (by omega)) rfl rfl ?_
    rintro h5 pt5
    refine HO.nil ?_
    refine hK19 _ _ ?_
    refine HW.region ?_   -- region 26 law.go:132
    refine HO.v (V.mvI rfl) rfl 162 rfl rfl ?_
    refine HO.v (V.add rfl rfl (by omega)) rfl 163 rfl rfl ?_
    refine HO.v (V.asI rfl) rfl 14 rfl rfl ?_
    refine HO.nil ?_
    refine hJ15 _ _ _ ⟨k + 1, T2.set qy z, ⟨rfl, rfl, rfl, rfl, trivial⟩, hfr.arr hT pt5, kd.next hk2 hSk hPz, hP.chg pt5.chg hne, pt5.arr, hx.trans' pt5.chg (fun b2 hb2 e => by omega), by omega, rfl⟩ (by omega)
  refine HW.skip ?_
  refine hK10 _ _ ?_
  refine HW.seq fun K23 hK23 => ?_
  have hko : k < os.length := by have := of_decide_eq_true hc; omega
  have hkM : k < M.length := by omega
  have hopl := (hs1.ext xA)
  obtain ⟨ab, ao, rfl, hcell⟩ := hopl.cells.pos (by omega)
  refine HW.block ?_   -- block 1
  refine HW.seq fun K24 hK24 => ?_
  refine HW.region ?_   -- region 8 law.go:111
  refine HO.v (V.asI rfl) rfl 10 rfl rfl ?_
  refine HO.nil ?_
  refine hK24 _ _ ?_
  refine HW.seqc (fun s hh => ∃ q : Nat, Has s [(0, .int .u8 room.toNat), (1, .slice (some ⟨ab, ao, none⟩) n c), (5, ptr p), (7, ptr bp), (8, ptr bt), (9, .int .i64 k), (10, .int .i64 ((q : Int) + 1))] ∧ q < 16 ∧ hA = hh) ?_ ?_
  ·
    refine HW.seq fun K26 hK26 => ?_
    refine HW.region ?_   -- region 9 law.go:112
    refine HO.v (V.mvS rfl) rfl 45 rfl rfl ?_
    refine HO.v (V.mvI rfl) rfl 46 rfl rfl ?_
    refine HO.v (V.indexAddr rfl rfl T.el22 T.sz33 (by omega)) rfl 47 rfl rfl ?_
    refine HO.v (V.fieldAddr rfl T.fd33_1) rfl 48 rfl rfl ?_
    refine HO.v (V.load rfl (load_one T.ag3 (v := .int .i64 os[k].no) (cell_at opc_len hcell hko rfl))) rfl 49 rfl rfl ?_
    refine HO.v (V.geq rfl rfl rfl) rfl 50 rfl rfl ?_
    refine HO.nil ?_
    refine hK26 _ _ ?_
    refine HW.condr rfl (fun hc => ?_) (fun hc => ?_)
    · -- else
      refine HW.skip ?_
      refine ⟨0, ⟨rfl, rfl, rfl, rfl, rfl, rfl, rfl, trivial⟩, by omega, rfl⟩
    have hno0 := of_decide_eq_true hc
    refine HW.region ?_   -- region 10 law.go:113
    refine HO.v (V.mvS rfl) rfl 51 rfl rfl ?_
    refine HO.v (V.mvI rfl) rfl 52 rfl rfl ?_
    refine HO.v (V.indexAddr rfl rfl T.el22 T.sz33 (by omega)) rfl 53 rfl rfl ?_
    refine HO.v (V.fieldAddr rfl T.fd33_1) rfl 54 rfl rfl ?_
    refine HO.v (V.load rfl (load_one T.ag3 (v := .int .i64 os[k].no) (cell_at opc_len hcell hko rfl))) rfl 55 rfl rfl ?_
    refine HO.v (V.rem rfl rfl (by omega)) rfl 56 rfl rfl ?_
    refine HO.v (V.add rfl rfl (by omega)) rfl 57 rfl rfl ?_
    refine HO.v (V.asI rfl) rfl 10 rfl rfl ?_
    refine HO.nil ?_
    refine ⟨(os[k].no % 16).toNat, ⟨rfl, rfl, rfl, rfl, rfl, rfl, (by show Value.int _ _ = Value.int _ _; congr 1; omega), trivial⟩, by omega, rfl⟩
  rintro s hh ⟨q, hs, hq16, rfl⟩
  refine HW.frame hs fun τ => ?_
  refine HW.seq fun K27 hK27 => ?_
  refine HW.seq fun K28 hK28 => ?_
  refine HW.region ?_   -- region 11 law.go:115
  refine HO.v (V.mvS rfl) rfl 58 rfl rfl ?_
  refine HO.v (V.mvI rfl) rfl 59 rfl rfl ?_
  refine HO.v (V.indexAddr rfl rfl T.el22 T.sz33 (by omega)) rfl 60 rfl rfl ?_
  refine HO.v (V.fieldAddr rfl T.fd33_0) rfl 61 rfl rfl ?_
  refine HO.v (V.load rfl (load_one T.ag5 (v := .int .u8 os[k].kind.toNat) (cell_at opc_len hcell hko rfl))) rfl 62 rfl rfl ?_
  refine HO.v (V.rem rfl rfl (by omega)) rfl 63 rfl rfl ?_
  refine HO.v (V.eql rfl rfl rfl) rfl 64 rfl rfl ?_
  refine HO.nil ?_
  refine hK28 _ _ ?_
  refine HW.cond rfl (fun hc => ?_) (fun hc => ?_)
  · -- then
    refine HW.seq fun K29 hK29 => ?_
    refine HW.region ?_   -- region 12 law.go:116
    refine HO.v (V.mvP rfl) rfl 65 rfl rfl ?_
    refine HO.v (V.mvI rfl) rfl 66 rfl rfl ?_
    refine HO.c OpC.func rfl 67 rfl rfl (get_any r ((q : Int) + 1)) ?_
    rintro _ h2 ⟨g, F2, rfl, r2, s2, _, _⟩
    refine HO.nil ?_
    refine hK29 _ _ ?_
    refine HW.exit ?_
    refine hK23 _ _ ?_
    refine HW.region ?_   -- region 7 law.go:110
    refine HO.v (V.mvI rfl) rfl 43 rfl rfl ?_
    refine HO.v (V.add rfl rfl (by omega)) rfl 44 rfl rfl ?_
    refine HO.v (V.asI rfl) rfl 9 rfl rfl ?_
    refine HO.nil ?_
    have x2 := s2.above xA fA
    refine hJ9 _ _ _ ⟨k + 1, bp, bt, ⟨rfl, rfl, rfl, rfl, rfl, rfl, trivial⟩, F2, _, P, U, r2, (kp.get _).mono (by omega), hP.chg s2.chg nfp, hT.chg s2.chg nft, x2.1, x2.2, s2.out hP.lt nfp, s2.out hT.lt nft, hne, hbp, hbt, by omega, rfl⟩ (by omega)
  refine HW.skip ?_
  refine hK27 _ _ ?_
  refine HW.seq fun K30 hK30 => ?_
  refine HW.region ?_   -- region 13 law.go:119
  refine HO.v (V.mvI rfl) rfl 68 rfl rfl ?_
  refine HO.v (V.sub rfl rfl (by omega)) rfl 69 rfl rfl ?_
  have hqi : (q : Int) + 1 - 1 = q := by omega
  rw [hqi]
  have hPl0 := kp.lp
  refine HO.v (V.mvI rfl) rfl 70 rfl rfl ?_
  refine HO.v (V.add rfl rfl (by omega)) rfl 71 rfl rfl ?_
  refine HO.v (V.indexA rfl rfl T.ar29 T.sz3 (by omega)) rfl 72 rfl rfl ?_
  refine HO.ur (V.storeArr rfl rfl T.sz3 hP (by omega)) rfl rfl ?_
  rintro h2 pt
  refine HO.nil ?_
  refine hK30 _ _ ?_
  refine HW.seq fun K31 hK31 => ?_
  have r2 := r.chg pt.chg fun b hb e => nfp (e ▸ hb)
  have xP : Ext h h2 := xA.trans' pt.chg fun b hb e => by omega
  have hlenL := kp.len
  refine HW.region ?_   -- region 14 law.go:120
  refine HO.v (V.mvP rfl) rfl 73 rfl rfl ?_
  refine HO.v (V.mvI rfl) rfl 74 rfl rfl ?_
  refine HO.v (V.mvI rfl) rfl 75 rfl rfl ?_
  refine HO.v (V.add rfl rfl (by omega)) rfl 76 rfl rfl ?_
  refine HO.v (V.convE rfl T.in5 T.in3 (b := ((bno ((k : Int) + 1)).toNat : Int)) (byte_of (by omega))) rfl 77 rfl rfl ?_
  refine HO.e (V.buildSlice [.tmp 77] (cs := #[.int .u8 ((bno ((k : Int) + 1)).toNat : Int)]) T.el30 T.sz5 T.zr5 rfl rfl rfl ⟨rfl, trivial⟩ rfl) rfl 78 rfl rfl ?_
  refine HO.c OpC.func rfl 79 rfl rfl (put_any (r2.ext (Ext.push _ _)) (by omega) ((q : Int) + 1) (bs := (some ⟨h2.size, 0, none⟩, 1, 1)) (l := [bno ((k : Int) + 1)]) (sl_new (n := 1) rfl (by omega)) (by simp) true (by omega)) ?_
  rintro _ h4 ⟨F4, r4, s4, f4⟩
  obtain ⟨a4, rfl⟩ := f4.form
  have x4 := s4.above (xP.trans (Ext.push _ _)) fA
  have hkput := kp.put hq16
  have hP2 : Arr (h2.push (.cells #[.int .u8 ((bno ((k : Int) + 1)).toNat : Int)] 5 (0, 0))) 29 bp (P.set q ((k : Int) + 1)) := pt.arr.ext (Ext.push _ _)
  have hT2 : Arr (h2.push (.cells #[.int .u8 ((bno ((k : Int) + 1)).toNat : Int)] 5 (0, 0))) 29 bt U := (hT.chg pt.chg (Ne.symm hne)).ext (Ext.push _ _)
  have nfp4 := s4.out hP2.lt nfp
  have nft4 := s4.out hT2.lt nft
  have hP4 := hP2.chg s4.chg nfp
  have hT4 := hT2.chg s4.chg nft
  obtain ⟨A, hA⟩ : ∃ A, A = putA N ((q : Int) + 1) [bno ((k : Int) + 1)] true L := ⟨_, rfl⟩
  obtain ⟨L2, hL2⟩ : ∃ L2, L2 = putL N ((q : Int) + 1) [bno ((k : Int) + 1)] true L := ⟨_, rfl⟩
  rw [← hA] at f4
  rw [← hL2] at r4
  rw [← hA, ← hL2] at hkput
  have hal := f4.len
  have hA1 : A.length ≤ 1 := by rcases hkput with ⟨h1, _⟩ | ⟨qy, z, h1, _⟩ <;> rw [h1] <;> simp
  have hinit : 0 = A.length → Kp (k + 1) N L2 (P.set q ((k : Int) + 1)) U := fun e => by
    rcases hkput with ⟨_, h1⟩ | ⟨qy, z, h1, _⟩
    · exact h1
    · rw [h1] at e; simp at e
  refine HO.v (V.asS rfl) rfl 11 rfl rfl ?_
  refine HO.nil ?_
  refine hK31 _ _ ?_
  refine HW.seq fun K32 hK32 => ?_
  refine HW.seq fun K33 hK33 => ?_
  refine HW.region ?_   -- region 15 law.go:121
  refine HO.v (V.asI rfl) rfl 12 rfl rfl ?_
  refine HO.nil ?_
  refine hK33 _ _ ?_
  refine HW.block ?_   -- block 2
  refine HW.loopm (fun m s hh => ∃ (j : Nat) (T2 : List Int), Has s [(0, .int .u8 room.toNat), (1, .slice (some ⟨ab, ao, none⟩) n c), (5, ptr p), (7, ptr bp), (8, ptr bt), (9, .int .i64 k), (11, sv a4), (12, .int .i64 j)] ∧ CRep hh F4 p N L2 ∧ Arr hh 29 bp (P.set q ((k : Int) + 1)) ∧ Arr hh 29 bt T2 ∧ Ext h hh ∧ (j < A.length → T2 = U ∧ hh = h4) ∧ (j = A.length → Kp (k + 1) N L2 (P.set q ((k : Int) + 1)) T2) ∧ j ≤ A.length ∧ m = A.length - j) ?_ ?_
  · exact ⟨_, 0, U, ⟨rfl, rfl, rfl, rfl, rfl, rfl, rfl, rfl, trivial⟩, r4, hP4, hT4, x4.1, (fun _ => ⟨rfl, rfl⟩), hinit, by omega, rfl⟩
  rintro m s hB ⟨j, T2, hs, rB, hPB, hTB, hx, hj0, hj1, hjA, rfl⟩ J34 hJ34
  refine HW.frame hs fun τ => ?_
  refine HW.seq fun K35 hK35 => ?_
  refine HW.seq fun K36 hK36 => ?_
  refine HW.region ?_   -- region 16 law.go:121
  refine HO.v (V.mvI rfl) rfl 80 rfl rfl ?_
  refine HO.v (V.mvS rfl) rfl 81 rfl rfl ?_
  refine HO.v (V.len rfl T.el36) rfl 82 rfl rfl ?_
  refine HO.v (V.lss rfl rfl rfl) rfl 83 rfl rfl ?_
  refine HO.nil ?_
  refine hK36 _ _ ?_
  refine HW.condr rfl (fun hc => ?_) (fun hc => ?_)
  · -- else
    refine HW.exit ?_
    refine hK32 _ _ ?_
    refine HW.seq fun K37 hK37 => ?_
    have hje : j = A.length := by have := of_decide_eq_false hc; omega
    have hkp2 := hj1 hje
    have hl2 := hkp2.len
    refine HW.region ?_   -- region 21 law.go:127
    refine HO.v (V.mvS rfl) rfl 143 rfl rfl ?_
    refine HO.v (V.len rfl T.el36) rfl 144 rfl rfl ?_
    refine HO.v (V.gtr rfl rfl rfl) rfl 145 rfl rfl ?_
    refine HO.v (V.mvB rfl) rfl 146 rfl rfl ?_
    refine HO.spl (fun hb3 => (by have := of_decide_eq_true hb3; omega)) (fun hb3 => ?_)
    refine HO.v (V.mvP rfl) rfl 147 rfl rfl ?_
    refine HO.c OpC.func rfl 148 rfl rfl (pages_any rB) ?_
    rintro _ h6 ow6
    obtain ⟨w6, rfl⟩ := ow6.cap.form
    have hw6 : w6.2.1 = L2.length := by
      obtain ⟨wa, wn, wc⟩ := w6
      have h1 : Sl h6 1 (.slice wa wn wc) ((nos L2).map iv) := ow6.sl
      have := h1.cells.len
      simpa [nos] using this.symm
    refine HO.v (V.len rfl T.el31) rfl 149 rfl rfl ?_
    refine HO.v (V.mvI rfl) rfl 150 rfl rfl ?_
    refine HO.v (V.rem rfl rfl (by omega)) rfl 151 rfl rfl ?_
    refine HO.v (V.convE rfl T.in3 T.in5 (b := (room.toNat : Int) % 8) (IntWalk.i64_in _ (by omega))) rfl 152 rfl rfl ?_
    refine HO.v (V.add rfl rfl (by omega)) rfl 153 rfl rfl ?_
    refine HO.v (V.gtr rfl rfl rfl) rfl 154 rfl rfl ?_
    refine HO.v (V.pick_f rfl rfl) rfl 155 rfl rfl ?_
    refine HO.nil ?_
    refine hK37 _ _ ?_
    refine HW.cond rfl (fun hc => ?_) (fun hc => ?_)
    · -- then
      refine HW.seq fun K38 hK38 => ?_
      refine HW.region ?_   -- region 22 law.go:128
      refine HO.v (V.asB rfl) rfl 4 rfl rfl ?_
      refine HO.nil ?_
      refine hK38 _ _ ?_
      refine HW.ret ?_
      refine ⟨.bool false, Res.one rfl rfl, (by exfalso; have := of_decide_eq_true hc; omega)⟩
    refine HW.skip ?_
    refine hK23 _ _ ?_
    refine HW.region ?_   -- region 7 law.go:110
    refine HO.v (V.mvI rfl) rfl 43 rfl rfl ?_
    refine HO.v (V.add rfl rfl (by omega)) rfl 44 rfl rfl ?_
    refine HO.v (V.asI rfl) rfl 9 rfl rfl ?_
    refine HO.nil ?_
    refine hJ9 _ _ _ ⟨k + 1, bp, bt, ⟨rfl, rfl, rfl, rfl, rfl, rfl, trivial⟩, F4, L2, P.set q ((k : Int) + 1), T2, rB.ext ow6.ext, hkp2, hPB.ext ow6.ext, hTB.ext ow6.ext, hx.trans ow6.ext, x4.2, nfp4, nft4, hne, hbp, hbt, by omega, rfl⟩ (by omega)
  refine HW.skip ?_
  refine hK35 _ _ ?_
  refine HW.seq fun K39 hK39 => ?_
  have hjl : j < A.length := by have := of_decide_eq_true hc; omega
  have hj00 : j = 0 := by omega
  obtain ⟨rfl, rfl⟩ := hj0 hjl
  obtain ⟨qy, z, hAe, hqy16, hPz, hz0, hz1, hkpd⟩ : ∃ (qy : Nat) (z : Int), A = [⟨(qy : Int) + 1, 0, [bno z]⟩] ∧ qy < 16 ∧ (P.set q ((k : Int) + 1))[qy]? = some z ∧ 0 ≤ z ∧ z ≤ k + 1 ∧ Kp (k + 1) N L2 (P.set q ((k : Int) + 1)) (T2.set qy z) := by
    rcases hkput with ⟨h1, _⟩ | h1
    · rw [h1] at hjl; simp at hjl
    · exact h1
  have hzb := bno_back (z := z) (by omega)
  have hql := (List.getElem?_eq_some_iff.1 hPz)
  have hcp : HL.cell hB bp (0 + qy) = some (.int .i64 z) := by rw [hPB.cell hql.1, hql.2]
  have hTl : T2.length = 16 := kp.lt
  have hPl2 : (P.set q ((k : Int) + 1)).length = 16 := by rw [List.length_set]; exact kp.lp
  obtain ⟨b, o, n3, c3, bb, bo, bc, rfl, hn3, hc0, hc2, hc3⟩ := frame_at f4 (k := j) (pg := (qy : Int) + 1) (u := bno z) hjl (by simp [hAe])
  have hqy1 : (qy : Int) + 1 - 1 = qy := by omega
  refine HW.block ?_   -- block 3
  refine HW.seq fun K40 hK40 => ?_
  refine HW.seq fun K41 hK41 => ?_
  refine HW.quiet mixed (by kernel_rfl) ?_   -- region 18 law.go:122
  refine HQ.v (V.mvS rfl) rfl 86 rfl rfl ?_
  refine HQ.v (V.mvI rfl) rfl 87 rfl rfl ?_
  refine HQ.v (V.indexAddr rfl rfl T.el36 T.sz39 (by omega)) rfl 88 rfl rfl ?_
  refine HQ.v (V.fieldAddr rfl T.fd39_0) rfl 89 rfl rfl ?_
  refine HQ.v (V.load rfl (load_one T.ag3 (v := .int .i64 ((qy : Int) + 1)) hc0)) rfl 90 rfl rfl ?_
  refine HQ.v (V.lss rfl rfl rfl) rfl 91 rfl rfl ?_
  refine HQ.v (V.mvB rfl) rfl 92 rfl rfl ?_
  refine HQ.spl (fun hb6 => (by have := of_decide_eq_true hb6; omega)) (fun hb6 => ?_)
  refine HQ.v (V.mvS rfl) rfl 93 rfl rfl ?_
  refine HQ.v (V.mvI rfl) rfl 94 rfl rfl ?_
  refine HQ.v (V.indexAddr rfl rfl T.el36 T.sz39 (by omega)) rfl 95 rfl rfl ?_
  refine HQ.v (V.fieldAddr rfl T.fd39_0) rfl 96 rfl rfl ?_
  refine HQ.v (V.load rfl (load_one T.ag3 (v := .int .i64 ((qy : Int) + 1)) hc0)) rfl 97 rfl rfl ?_
  refine HQ.v (V.gtr rfl rfl rfl) rfl 98 rfl rfl ?_
  refine HQ.v (V.pick_f rfl rfl) rfl 99 rfl rfl ?_
  refine HQ.v (V.mvB rfl) rfl 100 rfl rfl ?_
  refine HQ.spl (fun hb14 => (by have := of_decide_eq_true hb14; omega)) (fun hb14 => ?_)
  refine HQ.v (V.mvS rfl) rfl 101 rfl rfl ?_
  refine HQ.v (V.mvI rfl) rfl 102 rfl rfl ?_
  refine HQ.v (V.indexAddr rfl rfl T.el36 T.sz39 (by omega)) rfl 103 rfl rfl ?_
  refine HQ.v (V.fieldAddr rfl T.fd39_2) rfl 104 rfl rfl ?_
  refine HQ.v (V.load rfl (load_one T.ag30 (v := .slice (some ⟨bb, bo, none⟩) 1 bc) hc2)) rfl 105 rfl rfl ?_
  refine HQ.v (V.len rfl T.el30) rfl 106 rfl rfl ?_
  refine HQ.v (V.neq rfl rfl rfl) rfl 107 rfl rfl ?_
  refine HQ.v (V.pick_f rfl rfl) rfl 108 rfl rfl ?_
  refine HQ.v (V.mvB rfl) rfl 109 rfl rfl ?_
  refine HQ.spl (fun hb23 => (by simp at hb23)) (fun hb23 => ?_)
  refine HQ.v (V.mvS rfl) rfl 110 rfl rfl ?_
  refine HQ.v (V.mvI rfl) rfl 111 rfl rfl ?_
  refine HQ.v (V.indexAddr rfl rfl T.el36 T.sz39 (by omega)) rfl 112 rfl rfl ?_
  refine HQ.v (V.fieldAddr rfl T.fd39_2) rfl 113 rfl rfl ?_
  refine HQ.v (V.load rfl (load_one T.ag30 (v := .slice (some ⟨bb, bo, none⟩) 1 bc) hc2)) rfl 114 rfl rfl ?_
  refine HQ.v (V.indexAddr1 rfl rfl T.el30 T.sz5 (by omega)) rfl 115 rfl rfl ?_
  refine HQ.v (V.load rfl (load_one T.ag5 (v := .int .u8 (bno z).toNat) hc3)) rfl 116 rfl rfl ?_
  refine HQ.v (V.convE rfl T.in3 T.in5 (b := ((bno z).toNat : Int)) (IntWalk.i64_in _ (by omega))) rfl 117 rfl rfl ?_
  refine HQ.v (V.mvS rfl) rfl 118 rfl rfl ?_
  refine HQ.v (V.mvI rfl) rfl 119 rfl rfl ?_
  refine HQ.v (V.indexAddr rfl rfl T.el36 T.sz39 (by omega)) rfl 120 rfl rfl ?_
  refine HQ.v (V.fieldAddr rfl T.fd39_0) rfl 121 rfl rfl ?_
  refine HQ.v (V.load rfl (load_one T.ag3 (v := .int .i64 ((qy : Int) + 1)) hc0)) rfl 122 rfl rfl ?_
  refine HQ.v (V.sub rfl rfl (by omega)) rfl 123 rfl rfl ?_
  rw [hqy1]
  refine HQ.v (V.indexA rfl rfl T.ar29 T.sz3 (by omega)) rfl 124 rfl rfl ?_
  refine HQ.v (V.load rfl (load_one T.ag3 (v := .int .i64 z) hcp)) rfl 125 rfl rfl ?_
  refine HQ.v (V.neq rfl rfl rfl) rfl 126 rfl rfl ?_
  refine HQ.v (V.pick_f rfl rfl) rfl 127 rfl rfl ?_
  refine HQ.nil ?_
  refine hK41 _ _ ?_
  refine HW.cond rfl (fun hc => ?_) (fun hc => ?_)
  · -- then
    refine HW.seq fun K42 hK42 => ?_
    refine HW.region ?_   -- region 19 law.go:123
    refine HO.v (V.asB rfl) rfl 4 rfl rfl ?_
    refine HO.nil ?_
    refine hK42 _ _ ?_
    refine HW.ret ?_
    refine ⟨.bool false, Res.one rfl rfl, (by exfalso; have := of_decide_eq_true hc; omega)⟩
  refine HW.skip ?_
  refine hK40 _ _ ?_
  refine HW.tail 15 mixed (by kernel_rfl) ?_   -- region 20 law.go:125
  simp only [List.take_succ_cons, List.take_zero, List.drop_succ_cons, List.drop_zero]
  refine HT.v (V.mvS rfl) rfl 128 rfl rfl ?_
  refine HT.v (V.mvI rfl) rfl 129 rfl rfl ?_
  refine HT.v (V.indexAddr rfl rfl T.el36 T.sz39 (by omega)) rfl 130 rfl rfl ?_
  refine HT.v (V.fieldAddr rfl T.fd39_0) rfl 131 rfl rfl ?_
  refine HT.v (V.load rfl (load_one T.ag3 (v := .int .i64 ((qy : Int) + 1)) hc0)) rfl 132 rfl rfl ?_
  refine HT.v (V.sub rfl rfl (by omega)) rfl 133 rfl rfl ?_
  refine HT.v (V.mvS rfl) rfl 134 rfl rfl ?_
  refine HT.v (V.mvI rfl) rfl 135 rfl rfl ?_
  refine HT.v (V.indexAddr rfl rfl T.el36 T.sz39 (by omega)) rfl 136 rfl rfl ?_
  refine HT.v (V.fieldAddr rfl T.fd39_0) rfl 137 rfl rfl ?_
  refine HT.v (V.load rfl (load_one T.ag3 (v := .int .i64 ((qy : Int) + 1)) hc0)) rfl 138 rfl rfl ?_
  refine HT.v (V.sub rfl rfl (by omega)) rfl 139 rfl rfl ?_
  rw [hqy1]
  refine HT.v (V.indexA rfl rfl T.ar29 T.sz3 (by omega)) rfl 140 rfl rfl ?_
  refine HT.v (V.load rfl (load_one T.ag3 (v := .int .i64 z) hcp)) rfl 141 rfl rfl ?_
  refine HT.v (V.indexA rfl rfl T.ar29 T.sz3 (by omega)) rfl 142 rfl rfl ?_
  refine HT.nil ?_
  refine HO.ur (V.storeArr rfl rfl T.sz3 hTB (by omega)) rfl rfl ?_
  rintro h5 pt5
  refine HO.nil ?_
  refine hK39 _ _ ?_
  refine HW.region ?_   -- region 17 law.go:121
  refine HO.v (V.mvI rfl) rfl 84 rfl rfl ?_
  refine HO.v (V.add rfl rfl (by omega)) rfl 85 rfl rfl ?_
  refine HO.v (V.asI rfl) rfl 12 rfl rfl ?_
  refine HO.nil ?_
  refine hJ34 _ _ _ ⟨j + 1, T2.set qy z, ⟨rfl, rfl, rfl, rfl, rfl, rfl, rfl, rfl, trivial⟩, rB.chg pt5.chg (fun b2 hb2 e => nft4 (e ▸ hb2)), hPB.chg pt5.chg hne, pt5.arr, hx.trans' pt5.chg (fun b2 hb2 e => by omega), (fun e => by omega), (fun _ => hkpd), by omega, rfl⟩ (by omega)

end Go.Proofs.Ytdbiggfnnhmpiaa
