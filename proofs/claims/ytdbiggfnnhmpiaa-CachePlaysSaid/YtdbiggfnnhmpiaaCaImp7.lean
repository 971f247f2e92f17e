/- The method Clean of a cache. Conditions: the cache is well laid, lengths below a bound. -/
import Derived.Test.YtdbiggfnnhmpiaaCaImp6
namespace Go.Proofs.Ytdbiggfnnhmpiaa
open Go Go.HL

/-- Pages of some numbers, made not dirty. -/
def cl (s : List Int) (L : List AP) : List AP := L.map fun x => if x.no ∈ s then ⟨x.no, x.b, false⟩ else x
theorem cl_no {s : List Int} {x : AP} : (if x.no ∈ s then ⟨x.no, x.b, false⟩ else x : AP).no = x.no := by by_cases h : x.no ∈ s <;> simp [h]
theorem cl_b {s : List Int} {x : AP} : (if x.no ∈ s then ⟨x.no, x.b, false⟩ else x : AP).b = x.b := by by_cases h : x.no ∈ s <;> simp [h]
theorem nos_cl (s : List Int) (L : List AP) : nos (cl s L) = nos L := by
  unfold nos cl
  rw [List.map_map]
  exact List.map_congr_left fun x _ => cl_no
theorem cl_nil (L : List AP) : cl [] L = L := by unfold cl; simp
theorem cl_app (s t : List Int) (L : List AP) : cl t (cl s L) = cl (s ++ t) L := by
  unfold cl
  rw [List.map_map]
  refine List.map_congr_left fun x _ => ?_
  by_cases h1 : x.no ∈ s <;> by_cases h2 : x.no ∈ t <;> simp [h1, h2]
theorem cl_not {no : Int} {L : List AP} (h : no ∉ nos L) : cl [no] L = L := by
  unfold cl
  have : ∀ x ∈ L, (if x.no ∈ [no] then ⟨x.no, x.b, false⟩ else x : AP) = id x := fun x hx => by
    rw [if_neg]; rfl
    simp only [List.mem_singleton]
    exact fun e => h (List.mem_map.2 ⟨x, hx, e⟩)
  rw [List.map_congr_left this, List.map_id]
theorem mem_cl {s : List Int} {L : List AP} {y : AP} : y ∈ cl s L ↔ ∃ x ∈ L, (if x.no ∈ s then ⟨x.no, x.b, false⟩ else x : AP) = y := by unfold cl; simp
theorem CIn.clean {h : Heap} {F : Nat → Prop} {p m : Nat} {ov : SV} {room : Int} {L : List AP} {ks : List Int} {q : Int → Nat} (r : CIn h F p m ov room L ks q) {x : AP} (hx : x ∈ L) {pb : SV} (hq : h[q x.no]? = some (.cells #[sv pb, .bool x.d] 69 (0, 0))) :
    CIn (hput h (q x.no) #[sv pb, .bool false]) F p m ov room (cl [x.no] L) ks q := by
  have hch : Chg (fun b => b = q x.no) h (hput h (q x.no) #[sv pb, .bool false]) := hput_chg _ _ _
  have hT : isT h (q x.no) 69 := ⟨_, _, hq⟩
  have hbytes : ∀ {b : SV} {l : List UInt8}, Cap h 1 5 (sv b) (l.map bv) → Cap (hput h (q x.no) #[sv pb, .bool false]) 1 5 (sv b) (l.map bv) := fun hb => hb.chg hch fun j hj e => by
    subst e
    exact absurd (hT.eq (hb.blk hj)) (by decide)
  refine ⟨⟨r.mp.map.chg hch fun e => ?_, fun k => by rw [nos_cl]; exact r.mp.mem k, by rw [nos_cl]; exact r.mp.nd, fun y hy => ?_, fun y hy z hz e => ?_, r.mp.own⟩, ?_, r.fp, r.fo, fun b hb => by rw [hput_size]; exact r.lt b hb, by unfold cl; rw [List.length_map]; exact r.len, fun y hy => ?_⟩
  · obtain ⟨es, c, h1, _⟩ := r.mp.map
    rw [e, hq] at h1; injection h1 with h1; cases h1
  · obtain ⟨z, hz, rfl⟩ := mem_cl.1 hy
    obtain ⟨⟨b, h1, h2, h3⟩, h4⟩ := r.mp.pg z hz
    by_cases e : z.no = x.no
    · obtain rfl := nos_inj r.mp.nd hz hx e
      rw [if_pos (by simp)]
      rw [h1] at hq; injection hq with hq; injection hq with hq; injection hq with hq; simp at hq
      have hqb : b = pb := Prod.ext hq.1 (Prod.ext hq.2.1 hq.2.2)
      subst hqb
      exact ⟨⟨b, hput_same h1, hbytes h2, h3⟩, h4⟩
    · rw [if_neg (by simpa using e)]
      refine ⟨⟨b, hch.block h1 fun e2 => e (r.mp.inj z hz x hx e2), hbytes h2, h3⟩, h4⟩
  · obtain ⟨y', hy', rfl⟩ := mem_cl.1 hy
    obtain ⟨z', hz', rfl⟩ := mem_cl.1 hz
    rw [cl_no, cl_no] at *
    exact r.mp.inj y' hy' z' hz' e
  · rw [nos_cl]
    refine r.od.chg hch (fun e => ?_) fun b hb e => ?_
    · rw [← e] at hT
      have h1 : isT h p 64 := ⟨_, _, r.hp⟩
      exact absurd (h1.eq hT) (by decide)
    · subst e
      exact absurd (hT.eq (r.od.ord.blk hb)) (by decide)
  · obtain ⟨z, hz, rfl⟩ := mem_cl.1 hy
    rw [cl_b]; exact r.sm z hz
/-- A page's block is no block of numbers. -/
theorem ints_page {h : Heap} {v : Value} {l : List Int} (hl : Sl h 1 v (l.map iv)) {q : Nat} {pb : SV} {d : Bool} (hq : h[q]? = some (.cells #[sv pb, .bool d] 69 (0, 0))) : ∀ b, blk v b → b ≠ q := fun b hb e => by
  subst e
  obtain ⟨o, n, c, rfl, hn⟩ := hb
  have hll := hl.cells.len
  obtain ⟨b', o', he, hc⟩ := hl.cells.pos hn
  injection he with he; injection he with e1 e2; subst e1 e2
  have hl0 : 0 < l.length := by simp at hll; omega
  have := hc 0 (iv l[0]) (by simp [hl0])
  rw [cell_of hq] at this
  rcases o with _ | _ | o
  · simp [iv] at this
  · simp [iv] at this
  · simp at this

set_option maxRecDepth 100000 in
theorem clean_any {h : Heap} {F : Nat → Prop} {p : Nat} {room : Int} {L : List AP} (r : CRep h F p room L) {lv : SV} {l : List Int} (hl : Sl h 1 (sv lv) (l.map iv)) (hN : l.length ≤ 1000000000) :
    HC Try.prog 20 #[ptr p, sv lv] h (fun v h' => v = .tuple #[] ∧ CRep h' F p room (cl (if l = [] then (nos L).reverse else l) L) ∧ Chg F h h') := by
  obtain ⟨mb, ov, ks, q, r⟩ := r
  obtain ⟨ll, hll⟩ : ∃ ll, ll = if l = [] then (nos L).reverse else l := ⟨_, rfl⟩
  have hln : l.length = lv.2.1 := by
    obtain ⟨a, n, c⟩ := lv
    have hl' : Sl h 1 (.slice a n c) (l.map iv) := hl
    simpa using hl'.cells.len
  have hlb : ll.length ≤ 1000000000 := by
    subst hll
    by_cases e : l = []
    · rw [if_pos e]; have := r.len; simp [nos]; omega
    · rw [if_neg e]; exact hN
  rw [← hll]
  refine HC.body Try.func20 rfl (by kernel_rfl) 35 rfl rfl ?_
  refine HW.seq fun K1 hK1 => ?_
  refine HW.seq fun K2 hK2 => ?_
  refine HW.region ?_   -- region 0 cache.go:88
  refine HO.v (V.mvP rfl) rfl 7 rfl rfl ?_
  refine HO.v (V.ptrEqNil rfl rfl T.pt23) rfl 8 rfl rfl ?_
  refine HO.nil ?_
  refine hK2 _ _ ?_
  refine HW.cond rfl (fun hc => ?_) (fun hc => ?_)
  · -- then
    refine HW.ret ?_
    refine ⟨.tuple #[], Res.none rfl, (by simp at hc)⟩
  refine HW.skip ?_
  refine hK1 _ _ ?_
  refine HW.seqc (fun s hh => ∃ lv2 : SV, Has s [(0, ptr p), (1, sv lv2)] ∧ h = hh ∧ Sl h 1 (sv lv2) (ll.map iv)) ?_ ?_
  ·
    refine HW.seq fun K4 hK4 => ?_
    refine HW.region ?_   -- region 1 cache.go:91
    refine HO.v (V.mvS rfl) rfl 9 rfl rfl ?_
    refine HO.v (V.len rfl T.el31) rfl 10 rfl rfl ?_
    refine HO.v (V.eql rfl rfl rfl) rfl 11 rfl rfl ?_
    refine HO.nil ?_
    refine hK4 _ _ ?_
    refine HW.condr rfl (fun hc => ?_) (fun hc => ?_)
    · -- else
      refine HW.skip ?_
      refine ⟨lv, ⟨rfl, rfl, trivial⟩, rfl, by rw [hll, if_neg (fun e => by have h1 := of_decide_eq_false hc; rw [e] at hln; simp at hln; omega)]; exact hl⟩
    refine HW.region ?_   -- region 2 cache.go:92
    refine HO.v (V.mvP rfl) rfl 12 rfl rfl ?_
    refine HO.v (V.nilCheck rfl) rfl 13 rfl rfl ?_
    refine HO.v (V.fieldAddr rfl T.fd64_0) rfl 14 rfl rfl ?_
    refine HO.v (V.fieldAddr rfl T.fd62_0) rfl 15 rfl rfl ?_
    refine HO.v (V.load rfl (load_one T.ag31 (v := sv ov) (cell_of r.hp 0))) rfl 16 rfl rfl ?_
    refine HO.v (V.asS rfl) rfl 1 rfl rfl ?_
    refine HO.nil ?_
    refine ⟨ov, ⟨rfl, rfl, trivial⟩, rfl, by rw [hll, if_pos (List.length_eq_zero_iff.1 (by have h1 := of_decide_eq_true hc; omega))]; exact r.od.ord.sl⟩
  rintro s hh ⟨⟨a, n, c⟩, hs, rfl, hl2⟩
  have hl3 : Sl h 1 (.slice a n c) (ll.map iv) := hl2
  have hnl : ll.length = n := by simpa using hl3.cells.len
  refine HW.frame hs fun τ => ?_
  refine HW.seq fun K5 hK5 => ?_
  refine HW.region ?_   -- region 3 cache.go:94
  refine HO.v (V.mvS rfl) rfl 17 rfl rfl ?_
  refine HO.v (V.len rfl T.el31) rfl 18 rfl rfl ?_
  refine HO.v (V.mvI rfl) rfl 19 rfl rfl ?_
  refine HO.nil ?_
  refine hK5 _ _ ?_
  refine HW.block ?_   -- block 0
  refine HW.loopm (fun m s hh => ∃ k : Nat, Has s [(0, ptr p), (17, .slice a n c), (18, .int .i64 n), (19, .int .i64 k)] ∧ CIn hh F p mb ov room (cl (ll.take k) L) ks q ∧ Sl hh 1 (.slice a n c) (ll.map iv) ∧ Chg F h hh ∧ k ≤ n ∧ m = n - k) ?_ ?_
  · exact ⟨_, 0, ⟨rfl, rfl, rfl, rfl, trivial⟩, (by rw [List.take_zero, cl_nil]; exact r), hl2, Chg.refl _ _, by omega, rfl⟩
  rintro m s hh ⟨k, hs, rk, hlk, chk, hkn, rfl⟩ J6 hJ6
  refine HW.frame hs fun τ => ?_
  refine HW.seq fun K7 hK7 => ?_
  refine HW.region ?_   -- region 4 cache.go:94
  refine HO.v (V.lss rfl rfl rfl) rfl 20 rfl rfl ?_
  refine HO.nil ?_
  refine hK7 _ _ ?_
  refine HW.seq fun K8 hK8 => ?_
  refine HW.condr rfl (fun hc => ?_) (fun hc => ?_)
  · -- else
    refine HW.exit ?_
    refine ⟨.tuple #[], Res.none rfl, rfl, ⟨mb, ov, ks, q, (by have h1 := of_decide_eq_false hc; rw [List.take_of_length_le (by omega)] at rk; exact rk)⟩, chk⟩
  refine HW.skip ?_
  refine hK8 _ _ ?_
  refine HW.seq fun K9 hK9 => ?_
  have hkn' := of_decide_eq_true hc
  have hk2 : k < ll.length := by omega
  have htk : ll.take (k + 1) = ll.take k ++ [ll[k]] := take_next hk2
  obtain ⟨b, o, rfl, hcell⟩ := hlk.cells.pos (by omega)
  refine HW.block ?_   -- block 1
  refine HW.seq fun K10 hK10 => ?_
  refine HW.region ?_   -- region 5 cache.go:94
  refine HO.v (V.indexAddr1 rfl rfl T.el31 T.sz3 (by omega)) rfl 21 rfl rfl ?_
  refine HO.v (V.load rfl (load_one T.ag3 (v := iv ll[k]) (hcell k _ (by simp [hk2])))) rfl 22 rfl rfl ?_
  refine HO.v (V.asI rfl) rfl 5 rfl rfl ?_
  refine HO.nil ?_
  refine hK10 _ _ ?_
  refine HW.seq fun K11 hK11 => ?_
  refine HW.region ?_   -- region 6 cache.go:95
  refine HO.v (V.mvP rfl) rfl 23 rfl rfl ?_
  refine HO.v (V.nilCheck rfl) rfl 24 rfl rfl ?_
  refine HO.v (V.fieldAddr rfl T.fd64_2) rfl 25 rfl rfl ?_
  refine HO.v (V.load rfl (load_one T.ag60 (v := .map (some mb)) (cell_of rk.hp 2))) rfl 26 rfl rfl ?_
  refine HO.v (V.mvI rfl) rfl 27 rfl rfl ?_
  refine HO.v (V.lookupE (KV.int .i64) rfl rfl rk.mp.map T.mp60 (inB_iff T.in3) T.zr65 (rk.mp.get ll[k])) rfl 28 rfl rfl ?_
  refine HO.v (V.asP rfl) rfl 6 rfl rfl ?_
  refine HO.nil ?_
  refine hK11 _ _ ?_
  refine HW.seq fun K12 hK12 => ?_
  refine HW.region ?_   -- region 7 cache.go:95
  refine HO.v (V.mvP rfl) rfl 29 rfl rfl ?_
  refine HO.v (V.ptrNeNil rfl rfl T.pt65) rfl 30 rfl rfl ?_
  refine HO.nil ?_
  refine hK12 _ _ ?_
  refine HW.condr rfl (fun hc => ?_) (fun hc => ?_)
  · -- else
    refine HW.skip ?_
    refine hK9 _ _ ?_
    refine HW.region ?_   -- region 9 cache.go:94
    refine HO.v (V.add rfl rfl (by omega)) rfl 34 rfl rfl ?_
    refine HO.v (V.mvI rfl) rfl 19 rfl rfl ?_
    refine HO.nil ?_
    refine hJ6 _ _ _ ⟨k + 1, ⟨rfl, rfl, rfl, rfl, trivial⟩, (by rw [htk, ← cl_app, cl_not (fun hm => by obtain ⟨x, hx⟩ := hit_mem hm; rw [hx] at hc; simp at hc)]; exact rk), hlk, chk, by omega, rfl⟩ (by omega)
  have hx : ∃ x, hit ll[k] (cl (ll.take k) L) = some x := by
    cases e : hit ll[k] (cl (ll.take k) L) with
    | some x => exact ⟨x, rfl⟩
    | none => rw [e] at hc; simp at hc
  obtain ⟨x, hx⟩ := hx
  obtain ⟨hxm, hxn⟩ := hit_some hx
  obtain ⟨pb, hq', _⟩ := rk.hpage hxm
  have hq := hq'
  rw [hxn] at hq
  rw [hx]
  refine HW.region ?_   -- region 8 cache.go:96
  refine HO.v (V.mvP rfl) rfl 31 rfl rfl ?_
  refine HO.v (V.nilCheck rfl) rfl 32 rfl rfl ?_
  refine HO.v (V.fieldAddr rfl T.fd69_1) rfl 33 rfl rfl ?_
  refine HO.u (V.storeB (cs' := #[sv pb, .bool false]) rfl rfl T.sz4 hq (by simp) (by simp) rfl) rfl rfl ?_
  refine HO.nil ?_
  refine hK9 _ _ ?_
  refine HW.region ?_   -- region 9 cache.go:94
  refine HO.v (V.add rfl rfl (by omega)) rfl 34 rfl rfl ?_
  refine HO.v (V.mvI rfl) rfl 19 rfl rfl ?_
  refine HO.nil ?_
  refine hJ6 _ _ _ ⟨k + 1, ⟨rfl, rfl, rfl, rfl, trivial⟩, (by rw [htk, ← cl_app, ← hxn]; exact rk.clean hxm hq'), hlk.chg (hput_chg _ _ _) (ints_page hlk hq), chk.trans ((hput_chg _ _ _).mono fun b _ hb => by rw [hb, ← hxn]; exact (rk.mp.pg x hxm).own), by omega, rfl⟩ (by omega)

end Go.Proofs.Ytdbiggfnnhmpiaa
