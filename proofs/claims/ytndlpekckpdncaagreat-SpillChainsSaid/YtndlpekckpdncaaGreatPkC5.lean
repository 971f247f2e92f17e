/- The method Put of a cache. Conditions: the cache is well laid, lengths below a bound. slices.Reverse over ints and the method Pages of a cache. Conditions: the cache is well laid. The method Clean of a cache. Conditions: the cache is well laid, lengths below a bound. The method Drop of a cache, and what the methods answer for a nil cache. Conditions: the cache is well laid, lengths below a bound. The pager that logs ahead, in memory: its box, its maps, its cache and its disk as one item that turns; what is told of its cache alone. Conditions: those that each fact names. Calls through an interface, interface values, and closures, in few words. Conditions: those that each fact names. A store in memory: its box, its map of pages, its savepoints, and a pager of whatever make, as one item that is told by the document's state. Conditions: those that each fact names. The pager that logs ahead in plain terms: its calls, and what ties it to memory. Conditions: those that each fact names. The store's inner functions: what is wrong with it, how many pages there are, a page is read, put, cut off. Conditions: those that each names. Any head is encoded. Conditions: numbers of 64 bits. What a store's functions make of the document's state. Conditions: those that each fact names. The store's calls, told by the document's state. Conditions: the store is in order. Calls of the store where it is known what comes. Conditions: those that each fact names. Free pages in plain terms: the chain of trunks, a page taken, a page given. Conditions: those that each fact names. Scopes without jumps. Functions with one deferred call: the rules of code until it is laid, and what is done behind a return. Conditions: those that each rule names. -/
import Derived.Test.YtndlpekckpdncaaGreatPkC4
import Derived.Defers
import Derived.Scope
set_option maxRecDepth 100000
set_option maxHeartbeats 2000000
set_option linter.all false
namespace Go.Proofs.YtndlpekckpdncaaGreat
open Go Go.HL
theorem Step.trans {F F1 F2:Nat→Prop} {h h1 h2:Heap} (x:Step F h F1 h1) (y:Step F1 h1 F2 h2):Step F h F2 h2:=
 ⟨x.chg.trans' y.chg fun b hb hk=>by
  rcases x.place b hk with hk | hk
  ·exact hk
  ·omega,fun b hb=>by
  rcases y.place b hb with hk | hk
  ·exact x.place b hk
  ·exact .inr (Nat.le_trans x.chg.size hk)⟩
theorem CIn.hpage {h:Heap} {F:Nat→Prop} {p m:Nat} {ov:SV} {room:Int} {L:List AP} {ks:List Int} {q:Int→Nat} (r:CIn h F p m ov room L ks q) {x:AP} (hx:x∈L) :
  ∃b:SV,h[q x.no]? = some (.cells #[sv b,.bool x.d] 341 (0,0))∧Cap h 1 5 (sv b) (x.b.map bv)∧∀j,blkC (sv b) j→F j:=(r.mp.pg x hx).cells
theorem told_no {x:AP} (h:x.d=false):toldL (some x)=[]:=by simp [toldL,h]
theorem told_yes {x:AP} (h:x.d=true):toldL (some x)=[⟨x.no,0,x.b⟩]:=by simp [toldL,h]
theorem putL1_len (no:Int) (b:List UInt8) (d:Bool) (L:List AP):(putL1 no b d L).length≤L.length+1:=by
 have:=rid_len no L;simp [putL1];omega
theorem put_any {h:Heap} {F:Nat→Prop} {p:Nat} {room:Int} {L:List AP} (r:CRep h F p room L) (hlen:L.length≤100000000) (no:Int) {bs:SV} {l:List UInt8} (hb:Sl h 1 (sv bs) (l.map bv)) (hbl:l.length≤1000000) (d:Bool) (hrm:1≤room) :
  HC Tryz.prog 288 #[ptr p,.int .i64 no,sv bs,.bool d] h (fun v h'=>∃F',CRep h' F' p room (putL room no l d L)∧Step F h F' h'∧Frames h' v (putA room no l d L)):=by
 obtain ⟨m,ov,ks,q,r⟩:=r;obtain ⟨dd,hdd⟩:∃dd,dd=(d || wasD no L):=⟨_,rfl⟩;refine HC.body Tryz.func288 rfl (by kernel_rfl) 87 rfl rfl ?_;refine HW.seq fun K1 hK1=>?_;refine HW.region ?_;refine HO.v (V.asS rfl) rfl 8 rfl rfl ?_;refine HO.nil ?_;refine hK1 _ _ ?_;refine HW.seq fun K2 hK2=>?_;refine HW.seq fun K3 hK3=>?_;refine HW.region ?_;refine HO.v (V.mvP rfl) rfl 12 rfl rfl ?_;refine HO.v (V.ptrEqNil rfl rfl T.pt194) rfl 13 rfl rfl ?_;refine HO.v (V.mvB rfl) rfl 14 rfl rfl ?_;refine HO.spl (fun hb2=>?_) (fun hb2=>?_)
 ·
  refine HO.no rfl 15 rfl rfl ?_;refine HO.no rfl 16 rfl rfl ?_;refine HO.v (V.pick_t rfl rfl) rfl 17 rfl rfl ?_;refine HO.nil ?_;refine hK3 _ _ ?_;refine HW.cond_t rfl ?_;refine HW.seq fun K4 hK4=>?_;refine HW.region ?_;refine HO.v (V.asS rfl) rfl 8 rfl rfl ?_;refine HO.nil ?_;refine hK4 _ _ ?_;refine HW.ret ?_;refine ⟨.slice none 0 0,Res.one rfl rfl,(by simp at hb2)⟩
 ·
  refine HO.v (V.mvI rfl) rfl 15 rfl rfl ?_;refine HO.v (V.lss rfl rfl rfl) rfl 16 rfl rfl ?_;refine HO.v (V.pick_f rfl rfl) rfl 17 rfl rfl ?_;refine HO.nil ?_;refine hK3 _ _ ?_;refine HW.cond rfl (fun hc=>?_) (fun hc=>?_)
  ·
   refine HW.seq fun K5 hK5=>?_;refine HW.region ?_;refine HO.v (V.asS rfl) rfl 8 rfl rfl ?_;refine HO.nil ?_;refine hK5 _ _ ?_;refine HW.ret ?_;refine ⟨.slice none 0 0,Res.one rfl rfl,F,(by unfold putL;rw [if_pos (of_decide_eq_true hc)];exact ⟨m,ov,ks,q,r⟩),⟨Chg.refl _ _,fun b hb=>.inl hb⟩,(by unfold putA;rw [if_pos (of_decide_eq_true hc)];exact Frames.nil _)⟩
  refine HW.skip ?_;refine hK2 _ _ ?_;refine HW.seqc (fun s hh=>Has s [(0,ptr p),(1,.int .i64 no),(2,sv bs),(3,.bool dd)]∧h=hh) ?_ ?_
  ·
   refine HW.seq fun K7 hK7=>?_;refine HW.region ?_;refine HO.v (V.mvP rfl) rfl 18 rfl rfl ?_;refine HO.v (V.nilCheck rfl) rfl 19 rfl rfl ?_;refine HO.v (V.fieldAddr rfl T.fd249_2) rfl 20 rfl rfl ?_;refine HO.v (V.load rfl (load_one T.ag245 (v:=.map (some m)) (cell_of r.hp 2))) rfl 21 rfl rfl ?_;refine HO.v (V.mvI rfl) rfl 22 rfl rfl ?_;refine HO.v (V.lookupE (KV.int .i64) rfl rfl r.mp.map T.mp245 (inB_iff T.in3) T.zr339 (r.mp.get no)) rfl 23 rfl rfl ?_;refine HO.v (V.asP rfl) rfl 9 rfl rfl ?_;refine HO.nil ?_;refine hK7 _ _ ?_;refine HW.seq fun K8 hK8=>?_;refine HW.region ?_;refine HO.v (V.mvP rfl) rfl 24 rfl rfl ?_;refine HO.v (V.ptrNeNil rfl rfl T.pt339) rfl 25 rfl rfl ?_;refine HO.nil ?_;refine hK8 _ _ ?_;refine HW.condr rfl (fun hc=>?_) (fun hc=>?_)
   ·
    refine HW.skip ?_;have hn:hit no L=none:=by simpa using hc
    obtain rfl:d=dd:=by subst hdd;unfold wasD;rw [hn];simp
    refine ⟨⟨rfl,rfl,rfl,rfl,trivial⟩,rfl⟩
   refine HW.region ?_;refine HO.v (V.mvB rfl) rfl 26 rfl rfl ?_;refine HO.v (V.mvB rfl) rfl 27 rfl rfl ?_;refine HO.spl (fun hb1=>?_) (fun hb1=>?_)
   ·
    refine HO.no rfl 28 rfl rfl ?_;refine HO.no rfl 29 rfl rfl ?_;refine HO.no rfl 30 rfl rfl ?_;refine HO.no rfl 31 rfl rfl ?_;refine HO.v (V.pick_t rfl rfl) rfl 32 rfl rfl ?_;refine HO.v (V.asB rfl) rfl 3 rfl rfl ?_;refine HO.nil ?_;obtain rfl:true=dd:=by subst hdd hb1;simp
    refine ⟨⟨rfl,rfl,rfl,rfl,trivial⟩,rfl⟩
   ·
    have hx:∃x,hit no L=some x:=by
     cases e:hit no L with
     | some x=>exact ⟨x,rfl⟩
     | none=>rw [e] at hc;simp at hc
    obtain ⟨x,hx⟩:=hx;obtain ⟨hxm,hxn⟩:=hit_some hx;obtain ⟨pb,hq,_⟩:=r.hpage hxm;rw [hxn] at hq;rw [hx];refine HO.v (V.mvP rfl) rfl 28 rfl rfl ?_;refine HO.v (V.nilCheck rfl) rfl 29 rfl rfl ?_;refine HO.v (V.fieldAddr rfl T.fd341_1) rfl 30 rfl rfl ?_;refine HO.v (V.load rfl (load_one T.ag4 (v:=.bool x.d) (cell_of hq 1))) rfl 31 rfl rfl ?_;refine HO.v (V.pick_f rfl rfl) rfl 32 rfl rfl ?_;refine HO.v (V.asB rfl) rfl 3 rfl rfl ?_;refine HO.nil ?_;obtain rfl:x.d=dd:=by subst hdd hb1;unfold wasD;rw [hx];simp
    refine ⟨⟨rfl,rfl,rfl,rfl,trivial⟩,rfl⟩
  rintro s hh ⟨hs,rfl⟩;refine HW.frame hs fun τ=>?_;refine HW.seq fun K9 hK9=>?_;refine HW.any 10 (fun fl h=>cond fl True (h[p]? = some (.cells #[sv ov,.int .i64 room,.map (some m)] 249 (0,0)))) mixed ?_;have hS:h[p]? = some (.cells #[sv ov,.int .i64 room,.map (some m)] 249 (0,0)):=r.hp;refine HA.p 0 rfl (by kernel_rfl) (by kernel_rfl) (by kernel_rfl) rfl rfl 33 rfl rfl (fl:=false) (by kernel_rfl) hS (fun _=>V.mvP rfl) ?_;refine HA.p 1 rfl (by kernel_rfl) (by kernel_rfl) (by kernel_rfl) rfl rfl 34 rfl rfl (fl:=false) (by kernel_rfl) hS (fun _=>V.nilCheck rfl) ?_;refine HA.p 2 rfl (by kernel_rfl) (by kernel_rfl) (by kernel_rfl) rfl rfl 35 rfl rfl (fl:=false) (by kernel_rfl) hS (fun _=>V.fieldAddr rfl T.fd249_2) ?_;refine HA.v 3 rfl (by kernel_rfl) (by kernel_rfl) (by kernel_rfl) rfl rfl 36 rfl rfl (fl:=false) (by kernel_rfl) hS (by kernel_rfl) (fun _ hS=>V.load rfl (load_one T.ag245 (v:=.map (some m)) (cell_of hS 2))) ?_;refine HA.p 4 rfl (by kernel_rfl) (by kernel_rfl) (by kernel_rfl) rfl rfl 37 rfl rfl (fl:=false) (by kernel_rfl) hS (fun _=>V.mvI rfl) ?_;refine HA.p 5 rfl (by kernel_rfl) (by kernel_rfl) (by kernel_rfl) rfl rfl 38 rfl rfl (fl:=false) (by kernel_rfl) hS (fun _=>V.mvS rfl) ?_;refine HA.p 7 rfl (by kernel_rfl) (by kernel_rfl) (by kernel_rfl) rfl rfl 40 rfl rfl (fl:=false) (by kernel_rfl) hS (fun _=>V.mvB rfl) ?_;refine HA.one 6 (by kernel_rfl) ?_;refine Up.c rfl rfl 39 rfl rfl OpC.func (cloneB_any hb (by omega)) (fl:=false) (by kernel_rfl) ?_;rintro _ h1 ow;have hSn:h1[p]? = some (.cells #[sv ov,.int .i64 room,.map (some m)] 249 (0,0)):=ow.ext.block r.hp (fun f=>f);refine ⟨hSn,?_⟩;replace hS:=hSn;obtain ⟨rb,rfl⟩:=ow.cap.form;refine HA.p 8 rfl (by kernel_rfl) (by kernel_rfl) (by kernel_rfl) rfl rfl 41 rfl rfl (fl:=false) (by kernel_rfl) hS (fun _=>V.build (cs:=#[sv rb,.bool dd]) T.zr341 T.pl341 rfl) ?_;refine HA.one 9 (by kernel_rfl) ?_;have hSn:(h1.push (.cells #[sv rb,.bool dd] 341 (0,0)))[p]? = some (.cells #[sv ov,.int .i64 room,.map (some m)] 249 (0,0)):=push_other hS;refine Up.e rfl rfl 42 rfl rfl (V.boxA rfl) (fl:=false) (by kernel_rfl) hSn ?_;replace hS:=hSn;refine HA.one 10 (by kernel_rfl) ?_;have e2:Ext h (h1.push (.cells #[sv rb,.bool dd] 341 (0,0))):=ow.ext.trans (Ext.push _ _);refine Up.ur rfl rfl rfl (V.mapUpdate (KV.int .i64) V.sbI rfl rfl rfl (r.mp.map.ext e2) T.mp245 (inB_iff T.in3)) (fl:=true) (by kernel_rfl) ?_;rintro h3 pu;refine ⟨trivial,?_⟩;refine HA.done (by kernel_rfl) ?_;refine hK9 _ _ ?_;refine HW.seq fun K10 hK10=>?_;have c3:CMap h3 (fun b=>F b∨h.size≤b) m (putL1 no l d L) (kput ks no) (fput q no h1.size):=by
   have c2:CMap (h1.push (.cells #[sv rb,.bool dd] 341 (0,0))) F m L ks q:=r.mp.chg e2 (fun _ g _=>g.elim) fun _ f=>f;have hp:PgAt (h1.push (.cells #[sv rb,.bool dd] 341 (0,0))) (fun b=>F b∨h.size≤b) h1.size ⟨no,l,dd⟩:=⟨⟨rb,push_same _ _,ow.cap.ext (Ext.push _ _),fun j hj=>.inr (ow.fresh j hj)⟩,.inr ow.ext.size⟩;have:=c2.put hp (fun y hy e=>by
    have h1:=r.lt _ (r.mp.pg y hy).own;have h2:=ow.ext.size;omega) (fun b f=>.inl f) pu
   unfold putL1;rw [←hdd];exact this
  have hsz:h.size≤h3.size:=by have h1:=e2.size;have h2:=pu.size;omega
  have hc3:Chg (fun b=>b=m) h h3:=e2.to.trans pu.chg;have o3:Ordr h3 p (.int .i64 room) (.map (some m)) ov (nos L).reverse:=r.od.chg hc3 r.ne_p r.ne_o;refine HW.region ?_;refine HO.v (V.mvP rfl) rfl 43 rfl rfl ?_;refine HO.v (V.nilCheck rfl) rfl 44 rfl rfl ?_;refine HO.v (V.fieldAddr rfl T.fd249_0) rfl 45 rfl rfl ?_;refine HO.v (V.mvI rfl) rfl 46 rfl rfl ?_;refine HO.c OpC.func rfl 47 rfl rfl (touch_any o3 (by have:=r.len;simp [nos];omega)) ?_;rintro _ h4 ⟨ov1,rfl,t⟩;refine HO.nil ?_;refine hK10 _ _ ?_;have o4:Ordr h4 p (.int .i64 room) (.map (some m)) ov1 (nos (putL1 no l d L)).reverse:=by
   have:=t.ordr;have e:=order_touch (x:=⟨no,l,d || wasD no L⟩) r.mp.nd;rw [e] at this;exact this
  have c4:CMap h4 (fun b=>F b∨h.size≤b) m (putL1 no l d L) (kput ks no) (fput q no h1.size):=c3.chg t.chg (fun b g _=>by
   rcases g with rfl | hb
   ·exact .inl ⟨_,_,o3.hp⟩
   ·exact .inr (o3.ord.blk hb)) fun _ f=>f
  have i4:=CIn.mk' c4 o4 (.inl r.fp) (fun b hb=>(t.place b hb).imp (r.fo b) fun h=>Nat.le_trans hsz h) (by have h1:=putL1_len no l d L;omega) (fun y hy=>by
   rcases List.mem_cons.1 hy with rfl | hy
   ·exact hbl
   ·exact r.sm y (mem_rid.1 hy).1)
  have st4:Step F h (fun b=>(F b∨h.size≤b)∧b<h4.size) h4:=⟨(hc3.mono fun b _ hb=>by subst hb;exact r.mp.own).trans' t.chg fun b _ hb=>by
   rcases hb with rfl | hb
   ·exact r.fp
   ·exact r.fo b hb,fun b hb=>hb.1⟩
  have hno:¬no<1:=of_decide_eq_false hc;have hol:ov1.2.1=(putL1 no l d L).length:=by
   obtain ⟨a,n,c⟩:=ov1;have ho:Cap h4 1 3 (.slice a n c) ((nos (putL1 no l d L)).reverse.map iv):=o4.ord;have:=ho.sl.cells.len;simpa [nos] using this.symm
  refine HW.seq fun K11 hK11=>?_;refine HW.seq fun K12 hK12=>?_;refine HW.quiet mixed (by kernel_rfl) ?_;refine HQ.v (V.mvP rfl) rfl 48 rfl rfl ?_;refine HQ.v (V.nilCheck rfl) rfl 49 rfl rfl ?_;refine HQ.v (V.fieldAddr rfl T.fd249_0) rfl 50 rfl rfl ?_;refine HQ.v (V.fieldAddr rfl T.fd247_0) rfl 51 rfl rfl ?_;refine HQ.v (V.load rfl (load_one T.ag24 (v:=sv ov1) (cell_of t.ordr.hp 0))) rfl 52 rfl rfl ?_;refine HQ.v (V.len rfl T.el24) rfl 53 rfl rfl ?_;refine HQ.v (V.mvP rfl) rfl 54 rfl rfl ?_;refine HQ.v (V.nilCheck rfl) rfl 55 rfl rfl ?_;refine HQ.v (V.fieldAddr rfl T.fd249_1) rfl 56 rfl rfl ?_;refine HQ.v (V.load rfl (load_one T.ag3 (v:=.int .i64 room) (cell_of t.ordr.hp 1))) rfl 57 rfl rfl ?_;refine HQ.v (V.leq rfl rfl rfl) rfl 58 rfl rfl ?_;refine HQ.nil ?_;refine hK12 _ _ ?_;refine HW.cond rfl (fun hc=>?_) (fun hc=>?_)
  ·
   refine HW.seq fun K13 hK13=>?_;have hle:((putL1 no l d L).length:Int)≤room:=by have:=of_decide_eq_true hc;omega
   refine HW.region ?_;refine HO.v (V.asS rfl) rfl 8 rfl rfl ?_;refine HO.nil ?_;refine hK13 _ _ ?_;refine HW.ret ?_;refine ⟨.slice none 0 0,Res.one rfl rfl,_,(by unfold putL;rw [if_neg hno,if_pos hle];exact ⟨m,ov1,_,_,i4⟩),st4,(by unfold putA;rw [if_neg hno,if_pos hle];exact Frames.nil _)⟩
  refine HW.skip ?_;refine hK11 _ _ ?_;refine HW.seq fun K14 hK14=>?_;have hgt:¬((putL1 no l d L).length:Int)≤room:=by have:=of_decide_eq_false hc;omega
  obtain ⟨x,hlast⟩:∃x,(putL1 no l d L).getLast? = some x:=by
   cases e:(putL1 no l d L).getLast? with
   | some x=>exact ⟨x,rfl⟩
   | none=>rw [List.getLast?_eq_none_iff] at e;simp [putL1] at e
  have hxm:x∈putL1 no l d L:=List.mem_of_getLast? hlast;obtain ⟨pb,hq,hpb,hpf⟩:=i4.hpage hxm;have hhx:hit x.no (putL1 no l d L)=some x:=by
   obtain ⟨y,hy⟩:=hit_mem (List.mem_map.2 ⟨x,hxm,rfl⟩:x.no∈nos (putL1 no l d L));rw [hy,nos_inj i4.mp.nd (hit_some hy).1 hxm (hit_some hy).2]
  obtain ⟨oa,on,oc⟩:=ov1;have hoc0:Cap h4 1 3 (.slice oa on oc) ((nos (putL1 no l d L)).reverse.map iv):=o4.ord;have hol':on=(putL1 no l d L).length:=hol;obtain ⟨ob,oo,rfl,hoc⟩:=hoc0.sl.cells.pos (by rw [hol'];simp [putL1]);have hx0:((nos (putL1 no l d L)).reverse.map iv)[0]? = some (.int .i64 x.no):=by
   obtain ⟨M,hM⟩:=List.getLast?_eq_some_iff.1 hlast;rw [hM];simp [nos,iv]
  refine HW.region ?_;refine HO.v (V.mvP rfl) rfl 59 rfl rfl ?_;refine HO.v (V.nilCheck rfl) rfl 60 rfl rfl ?_;refine HO.v (V.fieldAddr rfl T.fd249_0) rfl 61 rfl rfl ?_;refine HO.v (V.fieldAddr rfl T.fd247_0) rfl 62 rfl rfl ?_;refine HO.v (V.load rfl (load_one T.ag24 (v:=sv (some ⟨ob,oo,none⟩,on,oc)) (cell_of t.ordr.hp 0))) rfl 63 rfl rfl ?_;refine HO.v (V.indexAddr1 rfl rfl T.el24 T.sz3 (by omega)) rfl 64 rfl rfl ?_;refine HO.v (V.load rfl (load_one T.ag3 (v:=.int .i64 x.no) (hoc 0 _ hx0))) rfl 65 rfl rfl ?_;refine HO.v (V.asI rfl) rfl 10 rfl rfl ?_;refine HO.nil ?_;refine hK14 _ _ ?_;refine HW.seq fun K15 hK15=>?_;refine HW.region ?_;refine HO.v (V.mvP rfl) rfl 66 rfl rfl ?_;refine HO.v (V.nilCheck rfl) rfl 67 rfl rfl ?_;refine HO.v (V.fieldAddr rfl T.fd249_2) rfl 68 rfl rfl ?_;refine HO.v (V.load rfl (load_one T.ag245 (v:=.map (some m)) (cell_of t.ordr.hp 2))) rfl 69 rfl rfl ?_;refine HO.v (V.mvI rfl) rfl 70 rfl rfl ?_;refine HO.v (V.lookupE (KV.int .i64) rfl rfl i4.mp.map (v:=ptr (fput q no h1.size x.no)) T.mp245 (inB_iff T.in3) T.zr339 ((i4.mp.get x.no).trans (by rw [hhx];rfl))) rfl 71 rfl rfl ?_;refine HO.v (V.asP rfl) rfl 11 rfl rfl ?_;refine HO.nil ?_;refine hK15 _ _ ?_;refine HW.seq fun K16 hK16=>?_;refine HW.region ?_;refine HO.v (V.mvP rfl) rfl 72 rfl rfl ?_;refine HO.v (V.mvI rfl) rfl 73 rfl rfl ?_;refine HO.c OpC.func rfl 74 rfl rfl (drop_in i4 x.no) ?_;rintro _ h5 ⟨ov5,rfl,i5,chg5⟩;refine HO.nil ?_;refine hK16 _ _ ?_;have hk5:∀b,(b=m∨b=p∨blkC (sv (some ⟨ob,oo,none⟩,on,oc)) b)→isT h4 b 341∨isT h4 b 5→False:=fun b hb ht=>by
   rcases hb with rfl | hb
   ·obtain ⟨es,cl,h1,_⟩:=i4.mp.map;rcases ht with ⟨cs,fz,h2⟩ | ⟨cs,fz,h2⟩<;>(rw [h1] at h2;injection h2 with h2;cases h2)
   ·rcases i4.kind b hb with h1 | h1<;>rcases ht with h2 | h2<;>exact absurd (h1.eq h2) (by decide)
  have hq5:h5[fput q no h1.size x.no]? = some (.cells #[sv pb,.bool x.d] 341 (0,0)):=chg5.block hq fun hb=>hk5 _ hb (.inl ⟨_,_,hq⟩);have hpb5:Cap h5 1 5 (sv pb) (x.b.map bv):=hpb.chg chg5 fun j hj hb=>hk5 _ hb (.inr (hpb.blk hj));have st5:=st4.trans (F2:=wd (fun b=>(F b∨h.size≤b)∧b<h4.size) h4.size h5.size) ⟨chg5.mono fun b _ hb=>by
   rcases hb with rfl | rfl | hb
   ·exact i4.mp.own
   ·exact i4.fp
   ·exact i4.fo b hb,fun b hb=>hb.imp id fun h=>h.1⟩
  refine HW.seq fun K17 hK17=>?_;refine HW.seq fun K18 hK18=>?_;refine HW.region ?_;refine HO.v (V.mvP rfl) rfl 75 rfl rfl ?_;refine HO.v (V.nilCheck rfl) rfl 76 rfl rfl ?_;refine HO.v (V.fieldAddr rfl T.fd341_1) rfl 77 rfl rfl ?_;refine HO.v (V.load rfl (load_one T.ag4 (v:=.bool x.d) (cell_of hq5 1))) rfl 78 rfl rfl ?_;refine HO.v (V.not rfl) rfl 79 rfl rfl ?_;refine HO.nil ?_;refine hK18 _ _ ?_;refine HW.cond rfl (fun hc=>?_) (fun hc=>?_)
  ·
   refine HW.seq fun K19 hK19=>?_;refine HW.region ?_;refine HO.v (V.asS rfl) rfl 8 rfl rfl ?_;refine HO.nil ?_;refine hK19 _ _ ?_;refine HW.ret ?_;refine ⟨.slice none 0 0,Res.one rfl rfl,_,(by unfold putL;rw [if_neg hno,if_neg hgt,←drop_last i4.mp.nd hlast];exact ⟨m,ov5,_,_,i5⟩),st5,(by unfold putA;rw [if_neg hno,if_neg hgt,hlast,told_no (by simpa using hc)];exact Frames.nil _)⟩
  refine HW.skip ?_;refine hK17 _ _ ?_;refine HW.seq fun K20 hK20=>?_;refine HW.region ?_;refine HO.v (V.mvI rfl) rfl 80 rfl rfl ?_;refine HO.v (V.mvP rfl) rfl 81 rfl rfl ?_;refine HO.v (V.nilCheck rfl) rfl 82 rfl rfl ?_;refine HO.v (V.fieldAddr rfl T.fd341_0) rfl 83 rfl rfl ?_;refine HO.v (V.load rfl (load_one T.ag44 (v:=sv pb) (cell_of hq5 0))) rfl 84 rfl rfl ?_;refine HO.v (V.build (cs:=#[.int .i64 x.no,.int .i64 0,sv pb]) T.zr277 T.pl277 rfl) rfl 85 rfl rfl ?_;refine HO.e (V.buildSlice [.tmp 85] (cs:=#[.int .i64 x.no,.int .i64 0,sv pb]) T.el252 T.sz277 T.zr277 rfl rfl rfl ⟨rfl,trivial⟩ rfl) rfl 86 rfl rfl ?_;refine HO.v (V.asS rfl) rfl 8 rfl rfl ?_;refine HO.nil ?_;refine hK20 _ _ ?_;refine HW.ret ?_;refine ⟨.slice (some ⟨h5.size,0,none⟩) 1 1,Res.one rfl rfl,_,(by unfold putL;rw [if_neg hno,if_neg hgt,←drop_last i4.mp.nd hlast];exact ⟨m,ov5,_,_,i5.chg (Ext.push _ _) fun _ _ f=>f⟩),⟨st5.chg.trans' (Ext.push _ _) fun _ _ f=>f.elim,st5.place⟩,?_⟩;have hd:x.d=true:=by simpa using hc
  unfold putA;rw [if_neg hno,if_neg hgt,hlast,told_yes hd];refine ⟨[⟨x.no,0,pb⟩],sl_new (n:=1) rfl (by omega),All2.cons ⟨rfl,rfl,?_⟩ All2.nil⟩;exact hpb5.sl.ext (Ext.push _ _)
theorem Cap.at1 {h:Heap} {e:TypeId} {b o n c:Nat} {xs:List Int} (r:Cap h 1 e (.slice (some ⟨b,o,none⟩) n c) (xs.map iv)) {i:Nat} (hi:i<xs.length):cell h b (o+i)=some (.int .i64 xs[i]):=by
 have hl:=r.sl.cells.len;obtain ⟨b',o',he,hc⟩:=r.sl.cells.pos (by simp at hl;omega);injection he with he;injection he with h1 h2;subst h1 h2;exact hc i _ (by simp [hi,iv])
structure Rv (l zs:List Int) (k:Nat):Prop where
 len:zs.length=l.length
 two:2*k≤l.length
 out:∀t,t<l.length→(t<k∨l.length-1-k<t)→zs[t]? = l[l.length-1-t]?
 mid:∀t,k≤t→t≤l.length-1-k→zs[t]? = l[t]?
theorem Rv.zero (l:List Int):Rv l l 0:=⟨rfl,by omega,fun t h1 h2=>by omega,fun _ _ _=>rfl⟩
theorem Rv.next {l zs:List Int} {k:Nat} (r:Rv l zs k) {j:Nat} (hj:j+1+k=l.length) (hk:k<j) (h1:k<zs.length) (h2:j<zs.length):Rv l ((zs.set k zs[j]).set j zs[k]) (k+1):=by
 have hl:=r.len;have e1:some zs[j]=l[l.length-1-k]?:=by rw [show l.length-1-k=j by omega,←r.mid j (by omega) (by omega)];simp [h2]
 have e2:some zs[k]=l[l.length-1-j]?:=by rw [show l.length-1-j=k by omega,←r.mid k (by omega) (by omega)];simp [h1]
 refine ⟨by simp [hl],by omega,fun t ht ho=>?_,fun t h3 h4=>?_⟩
 ·rw [List.getElem?_set,List.getElem?_set];by_cases hjt:j=t
  ·subst hjt;rw [if_pos rfl,if_pos (by simp;omega),e2]
  ·rw [if_neg hjt];by_cases hkt:k=t
   ·subst hkt;rw [if_pos rfl,if_pos h1,e1]
   ·rw [if_neg hkt,r.out t ht (by omega)]
 ·rw [List.getElem?_set,List.getElem?_set,if_neg (by omega),if_neg (by omega)];exact r.mid t (by omega) (by omega)
theorem Rv.done {l zs:List Int} {k:Nat} (r:Rv l zs k) (h:l.length≤2*k+1):zs=l.reverse:=by
 have hl:=r.len;apply List.ext_getElem?;intro t;by_cases ht:t<l.length
 ·rw [List.getElem?_reverse ht];by_cases ho:t<k∨l.length-1-k<t
  ·exact r.out t ht ho
  ·have:=r.two;rw [r.mid t (by omega) (by omega)];congr 1;omega
 ·rw [List.getElem?_eq_none (by omega),List.getElem?_eq_none (by simp;omega)]
theorem reverse_any {h:Heap} {a:Option Addr} {n c:Nat} {l:List Int} (hcap:Cap h 1 3 (.slice a n c) (l.map iv)) :
  HC Tryz.prog 315 #[.slice a n c] h (fun r h'=>r=.tuple #[]∧Cap h' 1 3 (.slice a n c) (l.reverse.map iv)∧Chg (blkC (.slice a n c)) h h'):=by
 have hle:=hcap.le;have hbd:=hcap.bd;have hln:l.length=n:=by simpa using hcap.sl.cells.len
 refine HC.body Tryz.func315 rfl (by kernel_rfl) 28 rfl rfl ?_;refine HW.seq fun K1 hK1=>?_;refine HW.region ?_;refine HO.v (V.mvS rfl) rfl 4 rfl rfl ?_;refine HO.v (V.len rfl T.el24) rfl 5 rfl rfl ?_;refine HO.v (V.sub rfl rfl (by omega)) rfl 6 rfl rfl ?_;refine HO.v (V.asI rfl) rfl 2 rfl rfl ?_;refine HO.v (V.asI rfl) rfl 3 rfl rfl ?_;refine HO.nil ?_;refine hK1 _ _ ?_;refine HW.block ?_;have htwo0:=hln;refine HW.loopm (fun m s hh=>∃k:Nat,Has s [(0,.slice a n c),(2,.int .i64 k),(3,.int .i64 ((n:Int)-1-k))]∧(∃zs:List Int,Cap hh 1 3 (.slice a n c) (zs.map iv)∧Chg (blkC (.slice a n c)) h hh∧Rv l zs k)∧m=n-k) ?_ ?_
 ·exact ⟨_,0,⟨rfl,rfl,(by show Value.int _ _=Value.int _ _;congr 1;omega),trivial⟩,⟨l,hcap,Chg.refl _ _,Rv.zero l⟩,rfl⟩
 rintro m s hh ⟨k,hs,⟨zs,hz,hch,hrv⟩,rfl⟩ J2 hJ2;refine HW.frame hs fun τ=>?_;refine HW.seq fun K3 hK3=>?_;refine HW.seq fun K4 hK4=>?_;refine HW.region ?_;refine HO.v (V.mvI rfl) rfl 7 rfl rfl ?_;refine HO.v (V.mvI rfl) rfl 8 rfl rfl ?_;refine HO.v (V.lss rfl rfl rfl) rfl 9 rfl rfl ?_;refine HO.nil ?_;refine hK4 _ _ ?_;refine HW.condr rfl (fun hc=>?_) (fun hc=>?_)
 ·
  refine HW.exit ?_;refine ⟨.tuple #[],Res.none rfl,rfl,(by have h1:=of_decide_eq_false hc;rw [←hrv.done (by omega)];exact hz),hch⟩
 refine HW.skip ?_;refine hK3 _ _ ?_;refine HW.seq fun K5 hK5=>?_;have hlt:=of_decide_eq_true hc;have htwo:=hrv.two;have hzl:=hrv.len;obtain ⟨j,hj⟩:∃j:Nat,(n:Int)-1-k=j:=⟨n-1-k,by omega⟩;have hj1:j+1+k=l.length:=by omega
 have hkj:k<j:=by omega
 have hk2:k<zs.length:=by omega
 have hj2:j<zs.length:=by omega
 obtain ⟨b,o,rfl,_⟩:=hz.sl.cells.pos (by omega);rw [hj];refine HW.block ?_;refine HW.any 13 (fun fl h=>cond fl True (Cap h 1 3 (.slice (some ⟨b,o,none⟩) n c) (zs.map iv))) mixed ?_;have hS:Cap hh 1 3 (.slice (some ⟨b,o,none⟩) n c) (zs.map iv):=hz;refine HA.p 0 rfl (by kernel_rfl) (by kernel_rfl) (by kernel_rfl) rfl rfl 14 rfl rfl (fl:=false) (by kernel_rfl) hS (fun _=>V.mvS rfl) ?_;refine HA.p 1 rfl (by kernel_rfl) (by kernel_rfl) (by kernel_rfl) rfl rfl 15 rfl rfl (fl:=false) (by kernel_rfl) hS (fun _=>V.mvI rfl) ?_;refine HA.p 2 rfl (by kernel_rfl) (by kernel_rfl) (by kernel_rfl) rfl rfl 16 rfl rfl (fl:=false) (by kernel_rfl) hS (fun _=>V.mvS rfl) ?_;refine HA.p 3 rfl (by kernel_rfl) (by kernel_rfl) (by kernel_rfl) rfl rfl 17 rfl rfl (fl:=false) (by kernel_rfl) hS (fun _=>V.mvI rfl) ?_;refine HA.p 4 rfl (by kernel_rfl) (by kernel_rfl) (by kernel_rfl) rfl rfl 18 rfl rfl (fl:=false) (by kernel_rfl) hS (fun _=>V.mvS rfl) ?_;refine HA.p 5 rfl (by kernel_rfl) (by kernel_rfl) (by kernel_rfl) rfl rfl 19 rfl rfl (fl:=false) (by kernel_rfl) hS (fun _=>V.mvI rfl) ?_;refine HA.p 6 rfl (by kernel_rfl) (by kernel_rfl) (by kernel_rfl) rfl rfl 20 rfl rfl (fl:=false) (by kernel_rfl) hS (fun _=>V.indexAddr1 rfl rfl T.el24 T.sz3 (by omega)) ?_;have hg:∀h',Cap h' 1 3 (.slice (some ⟨b,o,none⟩) n c) (zs.map iv)→LoadIs Tryz.prog h' 3 ⟨b,o+(j:Int).toNat,none⟩ (.int .i64 (zs[j]'hj2)):=fun h' hS=>load_one T.ag3 (Cap.at1 hS hj2);have hg2:∀h',Cap h' 1 3 (.slice (some ⟨b,o,none⟩) n c) (zs.map iv)→LoadIs Tryz.prog h' 3 ⟨b,o+(k:Int).toNat,none⟩ (.int .i64 (zs[k]'hk2)):=fun h' hS=>load_one T.ag3 (Cap.at1 hS hk2);refine HA.v 7 (v:=.int .i64 (zs[j]'hj2)) rfl (by kernel_rfl) (by kernel_rfl) (by kernel_rfl) rfl rfl 21 rfl rfl (fl:=false) (by kernel_rfl) hS (by kernel_rfl) (fun h' hS=>V.load rfl (hg h' hS)) ?_;refine HA.p 8 rfl (by kernel_rfl) (by kernel_rfl) (by kernel_rfl) rfl rfl 22 rfl rfl (fl:=false) (by kernel_rfl) hS (fun _=>V.mvS rfl) ?_;refine HA.p 9 rfl (by kernel_rfl) (by kernel_rfl) (by kernel_rfl) rfl rfl 23 rfl rfl (fl:=false) (by kernel_rfl) hS (fun _=>V.mvI rfl) ?_;refine HA.p 10 rfl (by kernel_rfl) (by kernel_rfl) (by kernel_rfl) rfl rfl 24 rfl rfl (fl:=false) (by kernel_rfl) hS (fun _=>V.indexAddr1 rfl rfl T.el24 T.sz3 (by omega)) ?_;refine HA.v 11 (v:=.int .i64 (zs[k]'hk2)) rfl (by kernel_rfl) (by kernel_rfl) (by kernel_rfl) rfl rfl 25 rfl rfl (fl:=false) (by kernel_rfl) hS (by kernel_rfl) (fun h' hS=>V.load rfl (hg2 h' hS)) ?_;refine HA.p 12 rfl (by kernel_rfl) (by kernel_rfl) (by kernel_rfl) rfl rfl 26 rfl rfl (fl:=false) (by kernel_rfl) hS (fun _=>V.indexAddr1 rfl rfl T.el24 T.sz3 (by omega)) ?_;refine HA.one 13 (by kernel_rfl) ?_;refine Up.ur rfl rfl rfl (V.storeCI rfl rfl T.sz3 hS (by omega)) (fl:=true) (by kernel_rfl) ?_;rintro h1 s1;refine ⟨trivial,?_⟩;refine HA.p 14 rfl (by kernel_rfl) (by kernel_rfl) (by kernel_rfl) rfl rfl 27 rfl rfl (fl:=true) (by kernel_rfl) trivial (fun _=>V.indexAddr1 rfl rfl T.el24 T.sz3 (by omega)) ?_;refine HA.one 15 (by kernel_rfl) ?_;refine Up.ur rfl rfl rfl (V.storeCI rfl rfl T.sz3 s1.cap (by omega)) (fl:=true) (by kernel_rfl) ?_;rintro h2 s2;refine ⟨trivial,?_⟩;refine HA.done (by kernel_rfl) ?_;refine hK5 _ _ ?_;refine HW.region ?_;refine HO.v (V.mvI rfl) rfl 10 rfl rfl ?_;refine HO.v (V.add rfl rfl (by omega)) rfl 11 rfl rfl ?_;refine HO.v (V.mvI rfl) rfl 12 rfl rfl ?_;refine HO.v (V.sub rfl rfl (by omega)) rfl 13 rfl rfl ?_;refine HO.v (V.asI rfl) rfl 2 rfl rfl ?_;refine HO.v (V.asI rfl) rfl 3 rfl rfl ?_;refine HO.nil ?_;refine hJ2 _ _ _ ⟨k+1,⟨rfl,rfl,(by show Value.int _ _=Value.int _ _;congr 1;omega),trivial⟩,⟨_,?_,?_,hrv.next hj1 hkj hk2 hj2⟩,rfl⟩ (by omega)
 ·have:=s2.cap;simpa [List.map_set,iv] using this
 ·refine hch.trans ((s1.chg.trans s2.chg).mono fun x _ hx=>?_);subst hx;exact ⟨o,n,c,rfl⟩
theorem pages_any {h:Heap} {F:Nat→Prop} {p:Nat} {room:Int} {L:List AP} (r:CRep h F p room L) :
  HC Tryz.prog 309 #[ptr p] h (fun v h'=>Own h h' 1 3 v ((nos L).map iv)):=by
 obtain ⟨m,ov,ks,q,r⟩:=r;refine HC.body Tryz.func309 rfl (by kernel_rfl) 15 rfl rfl ?_;refine HW.seq fun K1 hK1=>?_;refine HW.region ?_;refine HO.v (V.asS rfl) rfl 2 rfl rfl ?_;refine HO.nil ?_;refine hK1 _ _ ?_;refine HW.seq fun K2 hK2=>?_;refine HW.seq fun K3 hK3=>?_;refine HW.region ?_;refine HO.v (V.mvP rfl) rfl 4 rfl rfl ?_;refine HO.v (V.ptrEqNil rfl rfl T.pt194) rfl 5 rfl rfl ?_;refine HO.nil ?_;refine hK3 _ _ ?_;refine HW.cond rfl (fun hc=>?_) (fun hc=>?_)
 ·
  refine HW.seq fun K4 hK4=>?_;refine HW.region ?_;refine HO.v (V.asS rfl) rfl 2 rfl rfl ?_;refine HO.nil ?_;refine hK4 _ _ ?_;refine HW.ret ?_;refine ⟨.slice none 0 0,Res.one rfl rfl,(by simp at hc)⟩
 refine HW.skip ?_;refine hK2 _ _ ?_;refine HW.seq fun K5 hK5=>?_;refine HW.region ?_;refine HO.v (V.mvP rfl) rfl 6 rfl rfl ?_;refine HO.v (V.nilCheck rfl) rfl 7 rfl rfl ?_;refine HO.v (V.fieldAddr rfl T.fd249_0) rfl 8 rfl rfl ?_;refine HO.v (V.fieldAddr rfl T.fd247_0) rfl 9 rfl rfl ?_;refine HO.v (V.load rfl (load_one T.ag24 (v:=sv ov) (cell_of r.hp 0))) rfl 10 rfl rfl ?_;refine HO.c OpC.func rfl 11 rfl rfl (cloneI_any r.od.ord.sl (by have:=r.len;simp [nos];omega)) ?_;rintro _ h1 ow;obtain ⟨rb,rfl⟩:=ow.cap.form;refine HO.v (V.asS rfl) rfl 3 rfl rfl ?_;refine HO.nil ?_;refine hK5 _ _ ?_;refine HW.seq fun K6 hK6=>?_;refine HW.region ?_;refine HO.v (V.mvS rfl) rfl 12 rfl rfl ?_;refine HO.c OpC.func rfl 13 rfl rfl (reverse_any ow.cap) ?_;rintro _ h2 ⟨rfl,hcap,hchg⟩;refine HO.nil ?_;refine hK6 _ _ ?_;refine HW.seq fun K7 hK7=>?_;refine HW.region ?_;refine HO.v (V.mvS rfl) rfl 14 rfl rfl ?_;refine HO.v (V.asS rfl) rfl 2 rfl rfl ?_;refine HO.nil ?_;refine hK7 _ _ ?_;refine HW.ret ?_;refine ⟨sv rb,Res.one rfl rfl,?_⟩;rw [List.reverse_reverse] at hcap;exact ⟨hcap,ow.ext.trans' hchg fun b hb hk=>absurd (ow.fresh b hk) (by omega),ow.fresh⟩
def cl (s:List Int) (L:List AP):List AP:=L.map fun x=>if x.no∈s then ⟨x.no,x.b,false⟩ else x
theorem cl_no {s:List Int} {x:AP} : (if x.no∈s then ⟨x.no,x.b,false⟩ else x:AP).no=x.no:=by by_cases h:x.no∈s<;>simp [h]
theorem cl_b {s:List Int} {x:AP} : (if x.no∈s then ⟨x.no,x.b,false⟩ else x:AP).b=x.b:=by by_cases h:x.no∈s<;>simp [h]
theorem nos_cl (s:List Int) (L:List AP):nos (cl s L)=nos L:=by
 unfold nos cl;rw [List.map_map];exact List.map_congr_left fun x _=>cl_no
theorem cl_nil (L:List AP):cl [] L=L:=by unfold cl;simp
theorem cl_app (s t:List Int) (L:List AP):cl t (cl s L)=cl (s++t) L:=by
 unfold cl;rw [List.map_map];refine List.map_congr_left fun x _=>?_;by_cases h1:x.no∈s<;>by_cases h2:x.no∈t<;>simp [h1,h2]
theorem cl_not {no:Int} {L:List AP} (h:no∉nos L):cl [no] L=L:=by
 unfold cl;have:∀x∈L,(if x.no∈[no] then ⟨x.no,x.b,false⟩ else x:AP)=id x:=fun x hx=>by
  rw [if_neg];rfl;simp only [List.mem_singleton];exact fun e=>h (List.mem_map.2 ⟨x,hx,e⟩)
 rw [List.map_congr_left this,List.map_id]
theorem mem_cl {s:List Int} {L:List AP} {y:AP} : y∈cl s L↔∃x∈L,(if x.no∈s then ⟨x.no,x.b,false⟩ else x:AP)=y:=by unfold cl;simp
theorem CIn.clean {h:Heap} {F:Nat→Prop} {p m:Nat} {ov:SV} {room:Int} {L:List AP} {ks:List Int} {q:Int→Nat} (r:CIn h F p m ov room L ks q) {x:AP} (hx:x∈L) {pb:SV} (hq:h[q x.no]? = some (.cells #[sv pb,.bool x.d] 341 (0,0))) :
  CIn (hput h (q x.no) #[sv pb,.bool false]) F p m ov room (cl [x.no] L) ks q:=by
 have hch:Chg (fun b=>b=q x.no) h (hput h (q x.no) #[sv pb,.bool false]):=hput_chg _ _ _;have hT:isT h (q x.no) 341:=⟨_,_,hq⟩;have hbytes:∀ {b:SV} {l:List UInt8},Cap h 1 5 (sv b) (l.map bv)→Cap (hput h (q x.no) #[sv pb,.bool false]) 1 5 (sv b) (l.map bv):=fun hb=>hb.chg hch fun j hj e=>by
  subst e;exact absurd (hT.eq (hb.blk hj)) (by decide)
 refine ⟨⟨r.mp.map.chg hch fun e=>?_,fun k=>by rw [nos_cl];exact r.mp.mem k,by rw [nos_cl];exact r.mp.nd,fun y hy=>?_,fun y hy z hz e=>?_,r.mp.own⟩,?_,r.fp,r.fo,fun b hb=>by rw [hput_size];exact r.lt b hb,by unfold cl;rw [List.length_map];exact r.len,fun y hy=>?_⟩
 ·obtain ⟨es,c,h1,_⟩:=r.mp.map;rw [e,hq] at h1;injection h1 with h1;cases h1
 ·obtain ⟨z,hz,rfl⟩:=mem_cl.1 hy;obtain ⟨⟨b,h1,h2,h3⟩,h4⟩:=r.mp.pg z hz;by_cases e:z.no=x.no
  ·obtain rfl:=nos_inj r.mp.nd hz hx e;rw [if_pos (by simp)];rw [h1] at hq;injection hq with hq;injection hq with hq;injection hq with hq;simp at hq;have hqb:b=pb:=Prod.ext hq.1 (Prod.ext hq.2.1 hq.2.2);subst hqb;exact ⟨⟨b,hput_same h1,hbytes h2,h3⟩,h4⟩
  ·rw [if_neg (by simpa using e)];refine ⟨⟨b,hch.block h1 fun e2=>e (r.mp.inj z hz x hx e2),hbytes h2,h3⟩,h4⟩
 ·obtain ⟨y',hy',rfl⟩:=mem_cl.1 hy;obtain ⟨z',hz',rfl⟩:=mem_cl.1 hz;rw [cl_no,cl_no] at *;exact r.mp.inj y' hy' z' hz' e
 ·rw [nos_cl];refine r.od.chg hch (fun e=>?_) fun b hb e=>?_
  ·rw [←e] at hT;have h1:isT h p 249:=⟨_,_,r.hp⟩;exact absurd (h1.eq hT) (by decide)
  ·subst e;exact absurd (hT.eq (r.od.ord.blk hb)) (by decide)
 ·obtain ⟨z,hz,rfl⟩:=mem_cl.1 hy;rw [cl_b];exact r.sm z hz
theorem ints_page {h:Heap} {v:Value} {l:List Int} (hl:Sl h 1 v (l.map iv)) {q:Nat} {pb:SV} {d:Bool} (hq:h[q]? = some (.cells #[sv pb,.bool d] 341 (0,0))):∀b,blk v b→b≠q:=fun b hb e=>by
 subst e;obtain ⟨o,n,c,rfl,hn⟩:=hb;have hll:=hl.cells.len;obtain ⟨b',o',he,hc⟩:=hl.cells.pos hn;injection he with he;injection he with e1 e2;subst e1 e2;have hl0:0<l.length:=by simp at hll;omega
 have:=hc 0 (iv l[0]) (by simp [hl0]);rw [cell_of hq] at this;rcases o with _ | _ | o
 ·simp [iv] at this
 ·simp [iv] at this
 ·simp at this
theorem clean_any {h:Heap} {F:Nat→Prop} {p:Nat} {room:Int} {L:List AP} (r:CRep h F p room L) {lv:SV} {l:List Int} (hl:Sl h 1 (sv lv) (l.map iv)) (hN:l.length≤1000000000) :
  HC Tryz.prog 306 #[ptr p,sv lv] h (fun v h'=>v=.tuple #[]∧CRep h' F p room (cl (if l=[] then (nos L).reverse else l) L)∧Chg F h h'):=by
 obtain ⟨mb,ov,ks,q,r⟩:=r;obtain ⟨ll,hll⟩:∃ll,ll=if l=[] then (nos L).reverse else l:=⟨_,rfl⟩
 have hln:l.length=lv.2.1:=by
  obtain ⟨a,n,c⟩:=lv;have hl':Sl h 1 (.slice a n c) (l.map iv):=hl;simpa using hl'.cells.len
 have hlb:ll.length≤1000000000:=by
  subst hll;by_cases e:l=[]
  ·rw [if_pos e];have:=r.len;simp [nos];omega
  ·rw [if_neg e];exact hN
 rw [←hll];refine HC.body Tryz.func306 rfl (by kernel_rfl) 35 rfl rfl ?_;refine HW.seq fun K1 hK1=>?_;refine HW.seq fun K2 hK2=>?_;refine HW.region ?_;refine HO.v (V.mvP rfl) rfl 7 rfl rfl ?_;refine HO.v (V.ptrEqNil rfl rfl T.pt194) rfl 8 rfl rfl ?_;refine HO.nil ?_;refine hK2 _ _ ?_;refine HW.cond rfl (fun hc=>?_) (fun hc=>?_)
 ·
  refine HW.ret ?_;refine ⟨.tuple #[],Res.none rfl,(by simp at hc)⟩
 refine HW.skip ?_;refine hK1 _ _ ?_;refine HW.seqc (fun s hh=>∃lv2:SV,Has s [(0,ptr p),(1,sv lv2)]∧h=hh∧Sl h 1 (sv lv2) (ll.map iv)) ?_ ?_
 ·
  refine HW.seq fun K4 hK4=>?_;refine HW.region ?_;refine HO.v (V.mvS rfl) rfl 9 rfl rfl ?_;refine HO.v (V.len rfl T.el24) rfl 10 rfl rfl ?_;refine HO.v (V.eql rfl rfl rfl) rfl 11 rfl rfl ?_;refine HO.nil ?_;refine hK4 _ _ ?_;refine HW.condr rfl (fun hc=>?_) (fun hc=>?_)
  ·
   refine HW.skip ?_;refine ⟨lv,⟨rfl,rfl,trivial⟩,rfl,by rw [hll,if_neg (fun e=>by have h1:=of_decide_eq_false hc;rw [e] at hln;simp at hln;omega)];exact hl⟩
  refine HW.region ?_;refine HO.v (V.mvP rfl) rfl 12 rfl rfl ?_;refine HO.v (V.nilCheck rfl) rfl 13 rfl rfl ?_;refine HO.v (V.fieldAddr rfl T.fd249_0) rfl 14 rfl rfl ?_;refine HO.v (V.fieldAddr rfl T.fd247_0) rfl 15 rfl rfl ?_;refine HO.v (V.load rfl (load_one T.ag24 (v:=sv ov) (cell_of r.hp 0))) rfl 16 rfl rfl ?_;refine HO.v (V.asS rfl) rfl 1 rfl rfl ?_;refine HO.nil ?_;refine ⟨ov,⟨rfl,rfl,trivial⟩,rfl,by rw [hll,if_pos (List.length_eq_zero_iff.1 (by have h1:=of_decide_eq_true hc;omega))];exact r.od.ord.sl⟩
 rintro s hh ⟨⟨a,n,c⟩,hs,rfl,hl2⟩;have hl3:Sl h 1 (.slice a n c) (ll.map iv):=hl2;have hnl:ll.length=n:=by simpa using hl3.cells.len
 refine HW.frame hs fun τ=>?_;refine HW.seq fun K5 hK5=>?_;refine HW.region ?_;refine HO.v (V.mvS rfl) rfl 17 rfl rfl ?_;refine HO.v (V.len rfl T.el24) rfl 18 rfl rfl ?_;refine HO.v (V.mvI rfl) rfl 19 rfl rfl ?_;refine HO.nil ?_;refine hK5 _ _ ?_;refine HW.block ?_;refine HW.loopm (fun m s hh=>∃k:Nat,Has s [(0,ptr p),(17,.slice a n c),(18,.int .i64 n),(19,.int .i64 k)]∧CIn hh F p mb ov room (cl (ll.take k) L) ks q∧Sl hh 1 (.slice a n c) (ll.map iv)∧Chg F h hh∧k≤n∧m=n-k) ?_ ?_
 ·exact ⟨_,0,⟨rfl,rfl,rfl,rfl,trivial⟩,(by rw [List.take_zero,cl_nil];exact r),hl2,Chg.refl _ _,by omega,rfl⟩
 rintro m s hh ⟨k,hs,rk,hlk,chk,hkn,rfl⟩ J6 hJ6;refine HW.frame hs fun τ=>?_;refine HW.seq fun K7 hK7=>?_;refine HW.region ?_;refine HO.v (V.lss rfl rfl rfl) rfl 20 rfl rfl ?_;refine HO.nil ?_;refine hK7 _ _ ?_;refine HW.seq fun K8 hK8=>?_;refine HW.condr rfl (fun hc=>?_) (fun hc=>?_)
 ·
  refine HW.exit ?_;refine ⟨.tuple #[],Res.none rfl,rfl,⟨mb,ov,ks,q,(by have h1:=of_decide_eq_false hc;rw [List.take_of_length_le (by omega)] at rk;exact rk)⟩,chk⟩
 refine HW.skip ?_;refine hK8 _ _ ?_;refine HW.seq fun K9 hK9=>?_;have hkn':=of_decide_eq_true hc;have hk2:k<ll.length:=by omega
 have htk:ll.take (k+1)=ll.take k++[ll[k]]:=take_next hk2;obtain ⟨b,o,rfl,hcell⟩:=hlk.cells.pos (by omega);refine HW.block ?_;refine HW.seq fun K10 hK10=>?_;refine HW.region ?_;refine HO.v (V.indexAddr1 rfl rfl T.el24 T.sz3 (by omega)) rfl 21 rfl rfl ?_;refine HO.v (V.load rfl (load_one T.ag3 (v:=iv ll[k]) (hcell k _ (by simp [hk2])))) rfl 22 rfl rfl ?_;refine HO.v (V.asI rfl) rfl 5 rfl rfl ?_;refine HO.nil ?_;refine hK10 _ _ ?_;refine HW.seq fun K11 hK11=>?_;refine HW.region ?_;refine HO.v (V.mvP rfl) rfl 23 rfl rfl ?_;refine HO.v (V.nilCheck rfl) rfl 24 rfl rfl ?_;refine HO.v (V.fieldAddr rfl T.fd249_2) rfl 25 rfl rfl ?_;refine HO.v (V.load rfl (load_one T.ag245 (v:=.map (some mb)) (cell_of rk.hp 2))) rfl 26 rfl rfl ?_;refine HO.v (V.mvI rfl) rfl 27 rfl rfl ?_;refine HO.v (V.lookupE (KV.int .i64) rfl rfl rk.mp.map T.mp245 (inB_iff T.in3) T.zr339 (rk.mp.get ll[k])) rfl 28 rfl rfl ?_;refine HO.v (V.asP rfl) rfl 6 rfl rfl ?_;refine HO.nil ?_;refine hK11 _ _ ?_;refine HW.seq fun K12 hK12=>?_;refine HW.region ?_;refine HO.v (V.mvP rfl) rfl 29 rfl rfl ?_;refine HO.v (V.ptrNeNil rfl rfl T.pt339) rfl 30 rfl rfl ?_;refine HO.nil ?_;refine hK12 _ _ ?_;refine HW.condr rfl (fun hc=>?_) (fun hc=>?_)
 ·
  refine HW.skip ?_;refine hK9 _ _ ?_;refine HW.region ?_;refine HO.v (V.add rfl rfl (by omega)) rfl 34 rfl rfl ?_;refine HO.v (V.mvI rfl) rfl 19 rfl rfl ?_;refine HO.nil ?_;refine hJ6 _ _ _ ⟨k+1,⟨rfl,rfl,rfl,rfl,trivial⟩,(by rw [htk,←cl_app,cl_not (fun hm=>by obtain ⟨x,hx⟩:=hit_mem hm;rw [hx] at hc;simp at hc)];exact rk),hlk,chk,by omega,rfl⟩ (by omega)
 have hx:∃x,hit ll[k] (cl (ll.take k) L)=some x:=by
  cases e:hit ll[k] (cl (ll.take k) L) with
  | some x=>exact ⟨x,rfl⟩
  | none=>rw [e] at hc;simp at hc
 obtain ⟨x,hx⟩:=hx;obtain ⟨hxm,hxn⟩:=hit_some hx;obtain ⟨pb,hq',_⟩:=rk.hpage hxm;have hq:=hq';rw [hxn] at hq;rw [hx];refine HW.region ?_;refine HO.v (V.mvP rfl) rfl 31 rfl rfl ?_;refine HO.v (V.nilCheck rfl) rfl 32 rfl rfl ?_;refine HO.v (V.fieldAddr rfl T.fd341_1) rfl 33 rfl rfl ?_;refine HO.u (V.storeB (cs':=#[sv pb,.bool false]) rfl rfl T.sz4 hq (by simp) (by simp) rfl) rfl rfl ?_;refine HO.nil ?_;refine hK9 _ _ ?_;refine HW.region ?_;refine HO.v (V.add rfl rfl (by omega)) rfl 34 rfl rfl ?_;refine HO.v (V.mvI rfl) rfl 19 rfl rfl ?_;refine HO.nil ?_;refine hJ6 _ _ _ ⟨k+1,⟨rfl,rfl,rfl,rfl,trivial⟩,(by rw [htk,←cl_app,←hxn];exact rk.clean hxm hq'),hlk.chg (hput_chg _ _ _) (ints_page hlk hq),chk.trans ((hput_chg _ _ _).mono fun b _ hb=>by rw [hb,←hxn];exact (rk.mp.pg x hxm).own),by omega,rfl⟩ (by omega)
def dr (s:List Int) (L:List AP):List AP:=L.filter fun x=>decide (x.no∉s)
theorem dr_nil (L:List AP):dr [] L=L:=by unfold dr;simp
theorem dr_app (s:List Int) (no:Int) (L:List AP):rid no (dr s L)=dr (s++[no]) L:=by
 unfold rid dr;rw [List.filter_filter];apply List.filter_congr;intro x _;by_cases h1:x.no∈s<;>by_cases h2:x.no=no<;>simp [h1,h2]
theorem ints_lt {h:Heap} {v:Value} {l:List Int} (hl:Sl h 1 v (l.map iv)):∀b,blk v b→b<h.size:=fun b hb=>by
 obtain ⟨o,n,c,rfl,hn⟩:=hb;have hll:=hl.cells.len;obtain ⟨b',o',he,hc⟩:=hl.cells.pos hn;injection he with he;injection he with e1 e2;subst e1 e2;have hl0:0<l.length:=by simp at hll;omega
 exact cell_lt (hc 0 (iv l[0]) (by simp [hl0]))
theorem Step.refl (F:Nat→Prop) (h:Heap):Step F h F h:=⟨Chg.refl _ _,fun _ hb=>.inl hb⟩
theorem Step.ext {F F':Nat→Prop} {h h1 h2:Heap} (e:Ext h h1) (s:Step F h1 F' h2):Step F h F' h2:=
 ⟨e.to.trans s.chg,fun b hb=>(s.place b hb).imp id fun k=>Nat.le_trans e.size k⟩
theorem blk_blkC {v:Value} {b:Nat} (h:blk v b):blkC v b:=let ⟨o,n,c,e,_⟩:=h;⟨o,n,c,e⟩
theorem dropl_any {h:Heap} {F:Nat→Prop} {p:Nat} {room:Int} {L:List AP} (r:CRep h F p room L) {lv:SV} {l:List Int} (hl:Sl h 1 (sv lv) (l.map iv)) (hN:l.length≤1000000000) (hd:∀b,blk (sv lv) b→¬F b) :
  HC Tryz.prog 286 #[ptr p,sv lv] h (fun v h'=>∃F',v=.tuple #[]∧CRep h' F' p room (dr (if l=[] then (nos L).reverse else l) L)∧Step F h F' h'):=by
 obtain ⟨mb,ov,ks,q,r⟩:=r;obtain ⟨ll,hll⟩:∃ll,ll=if l=[] then (nos L).reverse else l:=⟨_,rfl⟩
 have hln:l.length=lv.2.1:=by
  obtain ⟨a,n,c⟩:=lv;have hl':Sl h 1 (.slice a n c) (l.map iv):=hl;simpa using hl'.cells.len
 have hlb:ll.length≤1000000000:=by
  subst hll;by_cases e:l=[]
  ·rw [if_pos e];have:=r.len;simp [nos];omega
  ·rw [if_neg e];exact hN
 rw [←hll];refine HC.body Tryz.func286 rfl (by kernel_rfl) 27 rfl rfl ?_;refine HW.seq fun K1 hK1=>?_;refine HW.seq fun K2 hK2=>?_;refine HW.region ?_;refine HO.v (V.mvP rfl) rfl 6 rfl rfl ?_;refine HO.v (V.ptrEqNil rfl rfl T.pt194) rfl 7 rfl rfl ?_;refine HO.nil ?_;refine hK2 _ _ ?_;refine HW.cond rfl (fun hc=>?_) (fun hc=>?_)
 ·
  refine HW.ret ?_;refine ⟨.tuple #[],Res.none rfl,(by simp at hc)⟩
 refine HW.skip ?_;refine hK1 _ _ ?_;refine HW.seqc (fun s hh=>∃lv2:SV,Has s [(0,ptr p),(1,sv lv2)]∧Ext h hh∧Sl hh 1 (sv lv2) (ll.map iv)∧∀b,blk (sv lv2) b→¬F b) ?_ ?_
 ·
  refine HW.seq fun K4 hK4=>?_;refine HW.region ?_;refine HO.v (V.mvS rfl) rfl 8 rfl rfl ?_;refine HO.v (V.len rfl T.el24) rfl 9 rfl rfl ?_;refine HO.v (V.eql rfl rfl rfl) rfl 10 rfl rfl ?_;refine HO.nil ?_;refine hK4 _ _ ?_;refine HW.condr rfl (fun hc=>?_) (fun hc=>?_)
  ·
   refine HW.skip ?_;refine ⟨lv,⟨rfl,rfl,trivial⟩,Ext.refl _,(by rw [hll,if_neg (fun e=>by have h1:=of_decide_eq_false hc;rw [e] at hln;simp at hln;omega)];exact hl),hd⟩
  refine HW.region ?_;refine HO.v (V.mvP rfl) rfl 11 rfl rfl ?_;refine HO.v (V.nilCheck rfl) rfl 12 rfl rfl ?_;refine HO.v (V.fieldAddr rfl T.fd249_0) rfl 13 rfl rfl ?_;refine HO.v (V.fieldAddr rfl T.fd247_0) rfl 14 rfl rfl ?_;refine HO.v (V.load rfl (load_one T.ag24 (v:=sv ov) (cell_of r.hp 0))) rfl 15 rfl rfl ?_;refine HO.c OpC.func rfl 16 rfl rfl (cloneI_any r.od.ord.sl (by have:=r.len;simp [nos];omega)) ?_;rintro _ h1 ow;obtain ⟨g,rfl⟩:=ow.cap.form;refine HO.v (V.asS rfl) rfl 1 rfl rfl ?_;refine HO.nil ?_;refine ⟨g,⟨rfl,rfl,trivial⟩,ow.ext,(by rw [hll,if_pos (List.length_eq_zero_iff.1 (by have h1:=of_decide_eq_true hc;omega))];exact ow.sl),fun b hb f=>by have h2:=ow.fresh b (blk_blkC hb);have:=r.lt b f;omega⟩
 rintro s hh1 ⟨⟨a,n,c⟩,hs,x1,hl2,hd2⟩;have hl3:Sl hh1 1 (.slice a n c) (ll.map iv):=hl2;have hnl:ll.length=n:=by simpa using hl3.cells.len
 refine HW.frame hs fun τ=>?_;refine HW.seq fun K5 hK5=>?_;refine HW.region ?_;refine HO.v (V.mvS rfl) rfl 17 rfl rfl ?_;refine HO.v (V.len rfl T.el24) rfl 18 rfl rfl ?_;refine HO.v (V.mvI rfl) rfl 19 rfl rfl ?_;refine HO.nil ?_;refine hK5 _ _ ?_;refine HW.block ?_;refine HW.loopm (fun m s hh=>∃k:Nat,Has s [(0,ptr p),(17,.slice a n c),(18,.int .i64 n),(19,.int .i64 k)]∧∃Fk,CRep hh Fk p room (dr (ll.take k) L)∧Sl hh 1 (.slice a n c) (ll.map iv)∧Step F hh1 Fk hh∧(∀b,blk (.slice a n c) b→¬Fk b)∧k≤n∧m=n-k) ?_ ?_
 ·exact ⟨_,0,⟨rfl,rfl,rfl,rfl,trivial⟩,F,⟨mb,ov,ks,q,(by rw [List.take_zero,dr_nil];exact r.chg x1 fun _ _ f=>f)⟩,hl2,Step.refl _ _,hd2,by omega,rfl⟩
 rintro m s hh ⟨k,hs,Fk,⟨mk,ovk,ksk,qk,rk⟩,hlk,stk,hdk,hkn,rfl⟩ J6 hJ6;refine HW.frame hs fun τ=>?_;refine HW.seq fun K7 hK7=>?_;refine HW.region ?_;refine HO.v (V.lss rfl rfl rfl) rfl 20 rfl rfl ?_;refine HO.nil ?_;refine hK7 _ _ ?_;refine HW.seq fun K8 hK8=>?_;refine HW.condr rfl (fun hc=>?_) (fun hc=>?_)
 ·
  refine HW.exit ?_;refine ⟨.tuple #[],Res.none rfl,Fk,rfl,⟨mk,ovk,ksk,qk,(by have h1:=of_decide_eq_false hc;rw [List.take_of_length_le (by omega)] at rk;exact rk)⟩,Step.ext x1 stk⟩
 refine HW.skip ?_;refine hK8 _ _ ?_;refine HW.seq fun K9 hK9=>?_;have hkn':=of_decide_eq_true hc;have hk2:k<ll.length:=by omega
 have htk:ll.take (k+1)=ll.take k++[ll[k]]:=take_next hk2;obtain ⟨b,o,rfl,hcell⟩:=hlk.cells.pos (by omega);refine HW.block ?_;refine HW.seq fun K10 hK10=>?_;refine HW.region ?_;refine HO.v (V.indexAddr1 rfl rfl T.el24 T.sz3 (by omega)) rfl 21 rfl rfl ?_;refine HO.v (V.load rfl (load_one T.ag3 (v:=iv ll[k]) (hcell k _ (by simp [hk2])))) rfl 22 rfl rfl ?_;refine HO.v (V.asI rfl) rfl 5 rfl rfl ?_;refine HO.nil ?_;refine hK10 _ _ ?_;refine HW.region ?_;refine HO.v (V.mvP rfl) rfl 23 rfl rfl ?_;refine HO.v (V.mvI rfl) rfl 24 rfl rfl ?_;refine HO.c OpC.func rfl 25 rfl rfl (drop_in rk ll[k]) ?_;rintro _ h3 ⟨ov3,rfl,r3,ch3⟩;refine HO.nil ?_;refine hK9 _ _ ?_;refine HW.region ?_;refine HO.v (V.add rfl rfl (by omega)) rfl 26 rfl rfl ?_;refine HO.v (V.mvI rfl) rfl 19 rfl rfl ?_;refine HO.nil ?_;refine hJ6 _ _ _ ⟨k+1,⟨rfl,rfl,rfl,rfl,trivial⟩,wd Fk hh.size h3.size,⟨mk,ov3,_,qk,(by rw [htk,←dr_app];exact r3)⟩,?_,?_,?_,by omega,rfl⟩ (by omega)
 ·refine hlk.chg ch3 fun b hb g=>hdk b hb ?_;rcases g with rfl | rfl | g
  ·exact rk.mp.own
  ·exact rk.fp
  ·exact rk.fo b g
 ·refine stk.trans ⟨ch3.mono fun b _ g=>?_,fun b hb=>hb.imp id fun h=>h.1⟩;rcases g with rfl | rfl | g
  ·exact rk.mp.own
  ·exact rk.fp
  ·exact rk.fo b g
 ·rintro b hb (g | g)
  ·exact hdk b hb g
  ·have:=ints_lt hlk b hb;omega
def COk (S:Nat→Option (List UInt8)) (x:AP):Prop:=1≤x.no∧S (x.no-1).toNat=some x.b
structure CSt (h:Heap) (c:Nat) (F:Nat→Prop) (S:Nat→Option (List UInt8)) (room:Int) (L:List AP):Prop where
 rep:CRep h F c room L
 r1:1≤room
 r2:room≤1048576
 len:(L.length:Int)≤room
 ok:∀x∈L,COk S x
@[reducible] def cacI (c:Nat) (F:Nat→Prop) (S:Nat→Option (List UInt8)):Itm:=⟨fun h=>∃room L,CSt h c F S room L,F,fun _ _ _ cg d ⟨room,L,q⟩=>⟨room,L,⟨q.rep.chg cg d,q.r1,q.r2,q.len,q.ok⟩⟩⟩
theorem Step.hp {h h':Heap} {F F':Nat→Prop} {it:Itm} {x:Itm} (hx:x.p h) (hlt:∀j,x.F j→j<h.size) (hF:x.F=F) (s:Step F h F' h') (hp:it.p h') (hit:∀j,it.F j→j<h'.size) (hF':it.F=F'):Hp h x.F [it] [] h':=
 ⟨by rw [hF];exact s.chg,fun i hi=>by
  rw [List.mem_singleton.1 hi];refine ⟨hp,fun j hj=>⟨hit j hj,?_⟩⟩;rw [hF] at *;exact s.place j (by rw [←hF'];exact hj),by simp,List.pairwise_singleton _ _,by simp⟩
section
variable {h:Heap} {c:Nat} {F:Nat→Prop} {S S':Nat→Option (List UInt8)} {no:Int} {l:List UInt8}
theorem getL_mem {L:List AP} {x:AP} (hx:x∈getL no L):x∈L:=by
 unfold getL at hx;split at hx
 ·rename_i y hy;rcases List.mem_cons.1 hx with rfl | hx
  ·exact (hit_some hy).1
  ·exact (mem_rid.1 hx).1
 ·exact hx
theorem getL_len {L:List AP} (hn:(nos L).Nodup):(getL no L).length≤L.length:=by
 unfold getL;split
 ·rename_i y hy;have h1:=hit_some hy;have h2:=order_touch (x:=y) hn;have h3:=congrArg List.length h2;have h4:y.no∈(nos L).reverse:=by rw [List.mem_reverse];exact List.mem_map.2 ⟨y,h1.1,rfl⟩
  rw [List.length_append,List.length_erase_of_mem h4,List.length_reverse,List.length_reverse] at h3;have h5:0<(nos L).length:=List.length_pos_of_mem (List.mem_reverse.1 h4);simp only [nos,List.length_map,List.length_cons,List.length_nil] at h3 h5;rw [h1.2] at h3;simp only [List.length_cons];omega
 ·exact Nat.le_refl _
theorem cget_any (hc:(cacI c F S).p h) :
  HC Tryz.prog 287 #[.pointer (some ⟨c,0,none⟩),.int .i64 no] h (fun v h'=>∃F',(∃a c' l,v=.tuple #[.slice a l.length c',.bool true]∧1≤no∧S (no-1).toNat=some l∧Hp h (cacI c F S).F [capI 1 5 (a,l.length,c') (l.map bv),cacI c F' S] [] h')∨
   (∃a n m,v=.tuple #[.slice a n m,.bool false]∧Hp h (cacI c F S).F [cacI c F' S] [] h')):=by
 obtain ⟨room,L,q⟩:=hc;refine (get_any q.rep no).mono fun v h' ⟨g,F',hv,hr,hs,hcap,hg⟩=>⟨F',?_⟩;have q':CSt h' c F' S room (getL no L):=⟨hr,q.r1,q.r2,by have:=getL_len (no:=no) q.rep.nd;have:=q.len;omega,fun x hx=>q.ok x (getL_mem hx)⟩;have o1:Hp h (cacI c F S).F [cacI c F' S] [] h':=Step.hp (x:=cacI c F S) (it:=cacI c F' S) ⟨room,L,q⟩ q.rep.lt rfl hs ⟨room,_,q'⟩ hr.lt rfl;cases hh:hit no L with
 | none=>obtain ⟨ga,gn,gc⟩:=g;exact .inr ⟨ga,gn,gc,by rw [hv,hh];rfl,o1⟩
 | some x=>
  have h1:=hit_some hh;have h2:=q.ok x h1.1;have h3:gotL no L=x.b:=by unfold gotL;rw [hh];rfl
  rw [h3] at hcap;obtain ⟨a,n,c'⟩:=g;have hn:n=x.b.length:=Cap.lenB hcap;subst hn;refine .inl ⟨a,c',x.b,by rw [hv,hh];rfl,by rw [←h1.2];exact h2.1,by rw [←h1.2];exact h2.2,⟨o1.chg,fun i hi=>?_,by simp,?_,by simp⟩⟩
  ·rcases List.mem_cons.1 hi with rfl | hi
   ·exact ⟨hcap,fun j hj=>⟨hcap.lt hj,.inr (hg j hj).1⟩⟩
   ·exact o1.m i hi
  ·exact List.pairwise_cons.2 ⟨fun b hb j hj=>by rw [List.mem_singleton.1 hb];exact (hg j hj).2,List.pairwise_singleton _ _⟩
theorem cput_any {a:Option Addr} {n:Nat} {Fb Eb:Nat→Prop} (hc:(cacI c F S).p h) (hb:RdL h Fb Eb (a,l.length,n) l) (hn:1≤no) (hs:S (no-1).toNat=some l) (hbl:l.length≤1000000) :
  HC Tryz.prog 288 #[.pointer (some ⟨c,0,none⟩),.int .i64 no,.slice a l.length n,.bool false] h (fun v h'=>∃F',Hp h (cacI c F S).F [cacI c F' S] [] h'):=by
 obtain ⟨room,L,q⟩:=hc;refine (put_any q.rep (by have:=q.len;have:=q.r2;omega) no (bs:=(a,l.length,n)) hb.by hbl false q.r1).mono fun v h' ⟨F',hr,hst,_⟩=>⟨F',?_⟩;have hlen:=q.len;have e1:∀x∈putL1 no l false L,COk S x:=fun x hx=>by
  rcases List.mem_cons.1 hx with rfl | hx
  ·exact ⟨hn,hs⟩
  ·exact q.ok x (mem_rid.1 hx).1
 have e2:=putL1_len no l false L;have e3:(∀x∈putL room no l false L,COk S x)∧((putL room no l false L).length:Int)≤room:=by
  unfold putL;rw [if_neg (by omega)];split
  ·rename_i h9;exact ⟨e1,h9⟩
  ·exact ⟨fun x hx=>e1 x (List.dropLast_subset _ hx),by rw [List.length_dropLast];omega⟩
 have q':CSt h' c F' S room (putL room no l false L):=⟨hr,q.r1,q.r2,e3.2,e3.1⟩;exact Step.hp (x:=cacI c F S) (it:=cacI c F' S) ⟨room,L,q⟩ q.rep.lt rfl hst ⟨room,_,q'⟩ hr.lt rfl
theorem cdrop_any {a:Option Addr} {n:Nat} {Fb Eb:Nat→Prop} {ks:List Int} (hc:(cacI c F S).p h) (hb:RdL h Fb Eb (a,ks.length,n) ks) (hN:ks.length≤1000000000) (hd:∀j,Fb j→¬F j) (hS:ks≠[]→∀i:Nat,((i:Int)+1)∉ks→∀l,S i=some l→S' i=some l) :
    HC Tryz.prog 286 #[.pointer (some ⟨c,0,none⟩),.slice a ks.length n] h (fun v h'=>∃F',v=.tuple #[]∧Hp h (cacI c F S).F [cacI c F' S'] [] h'):=by
  obtain ⟨room,L,q⟩:=hc;refine (dropl_any q.rep (lv:=(a,ks.length,n)) hb.ints hN ?_).mono fun v h' ⟨F',hv,hr,hst⟩=>⟨F',hv,?_⟩
  · rintro j ⟨o,n',c',hv,hpos⟩;injection hv with h1 h2 h3;replace h1:a=_:=h1;replace h2:ks.length=_:=h2;have hz:0<ks.length:=by omega
    obtain ⟨b,o',e,hb2⟩:=hb.pos hz;replace e:a=some ⟨b,o',none⟩:=e;rw [h1] at e;injection e with e;injection e with e1 e2;subst e1;exact hd _ hb2
  have hlen:(dr (if ks=[] then (nos L).reverse else ks) L).length≤L.length:=List.length_filter_le _ _;have q':CSt h' c F' S' room (dr (if ks=[] then (nos L).reverse else ks) L):=⟨hr,q.r1,q.r2,by have:=q.len;omega,fun x hx=>by
    unfold dr at hx;have h1:=List.mem_filter.1 hx;have h2:=h1.2;simp only [decide_eq_true_eq] at h2;by_cases h3:ks=[]
    · rw [if_pos h3,List.mem_reverse] at h2;exact absurd (List.mem_map.2 ⟨x,h1.1,rfl⟩) h2
    · rw [if_neg h3] at h2;have h4:=q.ok x h1.1
      exact ⟨h4.1, hS h3 _ (by have e : (((x.no - 1).toNat : Int) + 1) = x.no := by have := h4.1; omega
                               rw [e];exact h2) _ h4.2⟩⟩
  exact Step.hp (x:=cacI c F S) (it:=cacI c F' S') ⟨room,L,q⟩ q.rep.lt rfl hst ⟨room,_,q'⟩ hr.lt rfl
end
theorem cnewA_any {h:Heap} {room:Int} (S:Nat→Option (List UInt8)) :
  HC Tryz.prog 133 #[.int .i64 room] h (fun v h'=>(¬(1≤room∧room≤1048576)∧v=.tuple #[.pointer none,.int .i64 1]∧Ext h h')∨
   ((1≤room∧room≤1048576)∧∃c F,v=.tuple #[.pointer (some ⟨c,0,none⟩),.int .i64 0]∧Ext h h'∧(cacI c F S).p h'∧∀j,F j→Nw h h' j)):=by
 refine (cnew_any (h:=h) (room:=room)).mono fun v h' q=>?_;rcases q with ⟨h1,h2,h3⟩ | ⟨h1,p,F,hv,hr,hx,hn⟩
 ·exact .inl ⟨h1,h2,by rw [h3];exact Ext.refl _⟩
 ·exact .inr ⟨h1,p,F,hv,hx,⟨room,[],hr,h1.1,h1.2,by simp;omega,by simp⟩,fun j hj=>⟨hn j hj,hr.lt j hj⟩⟩
structure RB where
 a:Option Addr
 c:Nat
 l:List UInt8
structure RA where
 fr:Nat
 nd:Nat
 link:Nat
 am:Nat
 at_:List (Int × Nat)
 in_:Bool
 many:Nat
 bm:Option Nat
 bs:List (Int × RB)
 d:Nat
 rd:RD
 size:Nat
 sure:Nat
 c:Nat
 cF:Nat→Prop
 S:Nat→Option (List UInt8)
 dark:Bool
def iv' (n:Nat):Value:=.int .i64 (n:Int)
def atE (l:List (Int × Nat)):List (Int × Value):=l.map fun p=>(p.1,iv' p.2)
def bsV (x:RB):Value:=.slice x.a x.l.length x.c
def bsE (l:List (Int × RB)):List (Int × Value):=l.map fun p=>(p.1,bsV p.2)
def nowI (bm:Option Nat) (bs:List (Int × RB)):Itm:=match bm with
 | none=>anyI none_ (fun _=>True) (fun _ _ _ _ _ _=>trivial)
 | some m=>mapI (Value.int .i64) m (bsE bs)
def Pbs (h:Heap) (E:Nat→Prop) (bs:List (Int × RB)):Prop:=∀x∈bs,RdL h E E (x.2.a,x.2.l.length,x.2.c) x.2.l
@[reducible] def pbsI (E:Nat→Prop) (bs:List (Int × RB)):Itm:=⟨fun h=>Pbs h E bs,E,fun _ _ _ c d b x hx=>(b x hx).st c d d⟩
section
variable {h h':Heap} {E E':Nat→Prop} {bs:List (Int × RB)} {k:Int} {x:RB}
theorem Pbs.get (b:Pbs h E bs) (hg:mget bs k=some x):RdL h E E (x.a,x.l.length,x.c) x.l:=b _ (mget_mem hg)
theorem Pbs.mono (hE:∀j,E j→E' j) (b:Pbs h E bs):Pbs h E' bs:=fun x hx=>(b x hx).mono hE hE
theorem Pbs.nil:Pbs h E []:=fun x hx=>by cases hx
theorem Pbs.put (b:Pbs h E bs) (hx:RdL h E E (x.a,x.l.length,x.c) x.l):Pbs h E (mput bs k x):=fun y hy=>by
 rcases mem_mput hy with rfl | hy
 ·exact hx
 ·exact b y hy
end
end Go.Proofs.YtndlpekckpdncaaGreat
namespace Go.HL
open Go Go.Proofs.YtndlpekckpdncaaGreat
section
variable {h0 h h':Heap} {D G:Nat→Prop} {M R:List Itm} {p:Nat} {r r':RA} {E E':Nat→Prop}
theorem Hp.nowNil {bs:List (Int × RB)} (ok:Hp h0 D M R h):Hp h0 D (nowI none bs::M) R h:=ok.newM (Ext.refl _) _ trivial (fun _ f=>f.elim)
theorem Hp.pbsPut {Q:Nat→Prop} {bs:List (Int × RB)} {k:Int} {a:Option Addr} {c:Nat} {l:List UInt8} (ok:Hp h0 D (capI 1 5 (a,l.length,c) (l.map bv)::M) (pbsI Q bs::R) h):Hp h0 D M (pbsI (fun j=>Q j∨blkC (sv (a,l.length,c)) j) (mput bs k ⟨a,c,l⟩)::R) h:=by
 have o:Hp h0 D M (rdI (blkC (sv (a,l.length,c))) none_ (a,l.length,c) l::pbsI Q bs::R) h:=ok.frzB rfl;have o2:=o.or (r:=pbsI Q bs) (r':=rdI (blkC (sv (a,l.length,c))) none_ (a,l.length,c) l) (by simp) (by simp) (pbsI (fun j=>Q j∨blkC (sv (a,l.length,c)) j) (mput bs k ⟨a,c,l⟩))
  (Pbs.put (Pbs.mono (fun j h=>.inl h) o.r1) ((show RdL h (blkC (sv (a,l.length,c))) none_ (a,l.length,c) l from o.r0).mono (fun j h=>.inr h) (fun j f=>f.elim))) (fun j h=>h.imp id .inl)
 exact o2.sub (by simp;intro a h;exact .inr (.inr (.inr h)))
theorem Hp.pbsPutN {Q:Nat→Prop} {bs:List (Int × RB)} {k:Int} {a:Option Addr} {n c:Nat} {l:List UInt8} (hn:n=l.length) (ok:Hp h0 D (capI 1 5 (a,n,c) (l.map bv)::M) (pbsI Q bs::R) h):Hp h0 D M (pbsI (fun j=>Q j∨blkC (sv (a,n,c)) j) (mput bs k ⟨a,c,l⟩)::R) h:=by
 subst hn;exact ok.pbsPut
theorem Hp.pbsNil {Q:Nat→Prop} {bs:List (Int × RB)} (ok:Hp h0 D M (pbsI Q bs::R) h):Hp h0 D M (pbsI Q []::R) h:=(ok.d0 (pbsI Q []) Pbs.nil).sub (by simp;intro a h;exact .inr (.inr h))
theorem Hp.nowSome {m:Nat} {bs:List (Int × RB)} (ok:Hp h0 D (nowI (some m) bs::M) R h):Hp h0 D (mapI (Value.int .i64) m (bsE bs)::M) R h:=ok
theorem Hp.liftN {a:Itm} {l:List Itm} (ok:Hp h0 D (a::M) R h) (q:Hp h a.F l [] h'):Hp h0 D (l++M) R h':=
 Hp.unstar (ok.lift1 (b:=starI l) (Hp.star (M:=[]) (by simpa using q)))
theorem Hp.lift2 {a b c:Itm} (ok:Hp h0 D (a::M) R h) (q:Hp h a.F [b,c] [] h'):Hp h0 D (b::c::M) R h':=ok.liftN q
end
open Go
theorem OpC.inv {P:Program} {s:Slots} {h:Heap} {d:Option Tmp} {ty t:TypeId} {pos name:String} {af:Array Edge} {g:Option (Nat × Bool)} {x:Operand} {xs:Array Operand} {ts:Array TypeId} {f:FuncId} {v rv:Value} {args:List Value} (hm:∀w:World,(method (P.types.size+Made.depth) t v name).run P w=.ok (f,rv) w) (hx:ev s x=.iface t v:=by exact rfl) (ha:rv::xs.toList.map (ev s)=args:=by exact rfl) :
  OpC P ⟨d,.call ⟨.invoke x name,xs,ts⟩,ty,pos,af,g⟩ s h f args.toArray:=fun w _ hc=>by
 subst ha;obtain ⟨fn,h1,h2,h3⟩:=hc;have h2' : ¬ fn.name = "runtime.NumGoroutine" := by simpa using h2
 have h3':¬fn.body=none:=by intro e;simp [e] at h3
 have hm':=hm w;have h0:((#[Value.iface t v]:Array Value)++xs.map (ev s))[0]? = some (.iface t v):=by simp [Array.getElem?_append]
 have e0:(xs.map (ev s)).extract 0 xs.size=xs.map (ev s):=by simp
 have ea:(#[rv]:Array Value)++xs.map (ev s)=(rv::xs.toList.map (ev s)).toArray:=by apply Array.ext';simp
 simp [execOp,resolve,invoke,callMethod,hx,h0,e0,hm',callFunc,h1,h2',h3',ea]
def ifB (P:Program) (t:TypeId):Option Bool:=(P.underlying t).map fun | .interface _=>true | _=>false
theorem OpV.mkI {P:Program} {s:Slots} {h:Heap} {d:Option Tmp} {ty t:TypeId} {pos:String} {af:Array Edge} {g:Option (Nat × Bool)} {x:Operand} {v:Value} (ht:ifB P t=some false) (hx:ev s x=v:=by exact rfl):OpV P ⟨d,.makeInterface t x,ty,pos,af,g⟩ s h (.iface t v):=fun w _=>by
 unfold ifB at ht;cases hu:P.underlying t with
 | none=>rw [hu] at ht;cases ht
 | some u=>
  rw [hu] at ht;cases u<;>first | (simp at ht;done) | simp [execOp,Instr.makeInterface,run_underlying hu,hx]
theorem OpV.mvIf {P:Program} {s:Slots} {h:Heap} {d:Option Tmp} {ty t:TypeId} {pos:String} {af:Array Edge} {g:Option (Nat × Bool)} {x:Operand} {v:Value} (hx:ev s x=.iface t v:=by exact rfl):OpV P ⟨d,.move x,ty,pos,af,g⟩ s h (.iface t v):=V.mvv hx
open Go.Proofs.YtndlpekckpdncaaGreat
section
variable {h0 h h':Heap} {D:Nat→Prop} {M R:List Itm}
theorem Hp.locL (l:List Itm) (ok:Hp h0 D (l++M) R h):Hp h (starI l).F l R h:=by
 have o:=Hp.star ok;refine ⟨Chg.refl _ _,fun i hi=>⟨(ok.m i (List.mem_append_left _ hi)).1,fun j hj=>⟨((ok.m i (List.mem_append_left _ hi)).2 j hj).1,.inl ⟨i,hi,hj⟩⟩⟩,ok.r,(List.pairwise_append.1 ok.mm).1,fun a ha b hb=>ok.mr a (List.mem_append_left _ ha) b hb⟩
theorem Hp.liftL (l:List Itm) {l':List Itm} (ok:Hp h0 D (l++M) R h) (q:Hp h (starI l).F l' [] h'):Hp h0 D (l'++M) R h':=
 Hp.unstar ((Hp.star ok).lift1 (b:=starI l') (Hp.star (M:=[]) (by simpa using q)))
variable {i0 i1 i2 i3 i4 i5 i6:Itm}
theorem Hp.lc1 (ok:Hp h0 D (i0::M) R h):Hp h (starI [i0]).F [i0] R h:=Hp.locL [i0] ok
theorem Hp.lf1 {l':List Itm} (ok:Hp h0 D (i0::M) R h) (q:Hp h (starI [i0]).F l' [] h'):Hp h0 D (l'++M) R h':=Hp.liftL [i0] ok q
theorem Hp.lc2 (ok:Hp h0 D (i0::i1::M) R h):Hp h (starI [i0,i1]).F [i0,i1] R h:=Hp.locL [i0,i1] ok
theorem Hp.lf2 {l':List Itm} (ok:Hp h0 D (i0::i1::M) R h) (q:Hp h (starI [i0,i1]).F l' [] h'):Hp h0 D (l'++M) R h':=Hp.liftL [i0,i1] ok q
theorem Hp.lc3 (ok:Hp h0 D (i0::i1::i2::M) R h):Hp h (starI [i0,i1,i2]).F [i0,i1,i2] R h:=Hp.locL [i0,i1,i2] ok
theorem Hp.lf3 {l':List Itm} (ok:Hp h0 D (i0::i1::i2::M) R h) (q:Hp h (starI [i0,i1,i2]).F l' [] h'):Hp h0 D (l'++M) R h':=Hp.liftL [i0,i1,i2] ok q
theorem Hp.lc4 (ok:Hp h0 D (i0::i1::i2::i3::M) R h):Hp h (starI [i0,i1,i2,i3]).F [i0,i1,i2,i3] R h:=Hp.locL [i0,i1,i2,i3] ok
theorem Hp.lf4 {l':List Itm} (ok:Hp h0 D (i0::i1::i2::i3::M) R h) (q:Hp h (starI [i0,i1,i2,i3]).F l' [] h'):Hp h0 D (l'++M) R h':=Hp.liftL [i0,i1,i2,i3] ok q
theorem Hp.lc5 (ok:Hp h0 D (i0::i1::i2::i3::i4::M) R h):Hp h (starI [i0,i1,i2,i3,i4]).F [i0,i1,i2,i3,i4] R h:=Hp.locL [i0,i1,i2,i3,i4] ok
theorem Hp.lf5 {l':List Itm} (ok:Hp h0 D (i0::i1::i2::i3::i4::M) R h) (q:Hp h (starI [i0,i1,i2,i3,i4]).F l' [] h'):Hp h0 D (l'++M) R h':=Hp.liftL [i0,i1,i2,i3,i4] ok q
theorem Hp.lc6 (ok:Hp h0 D (i0::i1::i2::i3::i4::i5::M) R h):Hp h (starI [i0,i1,i2,i3,i4,i5]).F [i0,i1,i2,i3,i4,i5] R h:=Hp.locL [i0,i1,i2,i3,i4,i5] ok
theorem Hp.lf6 {l':List Itm} (ok:Hp h0 D (i0::i1::i2::i3::i4::i5::M) R h) (q:Hp h (starI [i0,i1,i2,i3,i4,i5]).F l' [] h'):Hp h0 D (l'++M) R h':=Hp.liftL [i0,i1,i2,i3,i4,i5] ok q
end
end Go.HL
namespace Go.Proofs.YtndlpekckpdncaaGreat
open Go Go.HL
@[reducible] def pv (p:Nat):Value:=.pointer (some ⟨p,0,none⟩)
structure Pgr where
 α:Type
 it:Nat→(Nat→Prop)→α→Itm
 sure:α→List (List UInt8)
 tid:TypeId
 fPages:FuncId
 fRead:FuncId
 mPages : ∀ (p : Nat) (w : World), (method (Tryz.prog.types.size + Made.depth) tid (pv p) "Pages").run Tryz.prog w = .ok (fPages, pv p) w
 mRead : ∀ (p : Nat) (w : World), (method (Tryz.prog.types.size + Made.depth) tid (pv p) "Read").run Tryz.prog w = .ok (fRead, pv p) w
 cPages:∀ {h:Heap} {p:Nat} {F:Nat→Prop} {a:α},(it p F a).p h→HC Tryz.prog fPages #[pv p] h (fun v h'=>v=.int .i64 ((sure a).length:Int)∧h'=h)
 cRead:∀ {h:Heap} {p:Nat} {F:Nat→Prop} {a:α} {no:Int} {b:List UInt8},Hp h (it p F a).F [it p F a] [] h→1≤no→(sure a)[(no-1).toNat]? = some b→
  HC Tryz.prog fRead #[pv p,.int .i64 no] h (fun v h'=>∃F' a' x c,v=.tuple #[.slice x b.length c,.int .i64 0]∧sure a'=sure a∧Hp h (it p F a).F [capI 1 5 (x,b.length,c) (b.map bv),it p F' a'] [] h')
structure RSv where
 many:Nat
 m:Nat
 ov:List (Int × RB)
def RSv.cells (x:RSv):List Value:=[.int .i64 (x.many:Int),.map (some x.m)]
structure RS (α:Type) where
 p:Nat
 lg:Option Addr
 z:Nat
 in_:Bool
 many:Nat
 om:Option Nat
 ov:List (Int × RB)
 sa:Option Addr
 sc:Nat
 sv:List RSv
 pF:Nat→Prop
 a:α
@[reducible] def sboxI (G:Pgr) (s:Nat) (r:RS G.α):Itm:=boxI s 123 [.iface G.tid (pv r.p),.pointer r.lg,.int .i64 (r.z:Int),.bool r.in_,.int .i64 (r.many:Int),.map r.om,.slice r.sa r.sv.length r.sc,.bool false]
@[reducible] def scapI {α:Type} (r:RS α):Itm:=capI 2 120 (r.sa,r.sv.length,r.sc) (r.sv.flatMap RSv.cells)
def Svs (h:Heap) (E:Nat→Prop) (sv:List RSv):Prop:=∀x∈sv,MapT (Value.int .i64) h x.m (bsE x.ov)∧E x.m∧Pbs h E x.ov
@[reducible] def svsI (E:Nat→Prop) (sv:List RSv):Itm:=⟨fun h=>Svs h E sv,E,fun _ _ _ c d b x hx=>⟨(b x hx).1.chg c (d _ (b x hx).2.1),(b x hx).2.1,fun y hy=>((b x hx).2.2 y hy).st c d d⟩⟩
def stL (G:Pgr) (s:Nat) (r:RS G.α):List Itm:=[sboxI G s r,nowI r.om r.ov,scapI r,G.it r.p r.pF r.a]
def stF (G:Pgr) (s:Nat) (r:RS G.α):Nat→Prop:=(starI (stL G s r)).F
structure SVw (G:Pgr) (r:RS G.α) (w:St):Prop where
 z:r.z=w.z
 in_:r.in_=w.in_
 sure:G.sure r.a=w.sure
 now:w.in_=true→(∃m,r.om=some m)∧VW RB.l r.ov r.many w.sure w.now
 out:w.in_=false→r.om=none∧r.many=0∧r.ov=[]∧r.sv=[]
 sv:All2 (fun (x:RSv) S=>VW RB.l x.ov x.many w.sure S) r.sv w.saves
 ok:StOk w
structure DsP (G:Pgr) (h:Heap) (s:Nat) (F:Nat→Prop) (w:St) (r:RS G.α) (E:Nat→Prop):Prop where
 co:(starI (stL G s r)).p h
 b:Pbs h E r.ov
 v:Svs h E r.sv
 f:∀j,stF G s r j→F j
 e:∀j,E j→F j
 ne:∀j,stF G s r j→¬E j
 V:SVw G r w
@[reducible] def dsI (G:Pgr) (s:Nat) (F:Nat→Prop) (w:St):Itm:=⟨fun h=>∃r E,DsP G h s F w r E,F,fun _ _ _ c g ⟨r,E,q⟩=>⟨r,E,(starI (stL G s r)).st _ _ _ c (fun j hj=>g j (q.f j hj)) q.co,(pbsI E r.ov).st _ _ _ c (fun j hj=>g j (q.e j hj)) q.b,(svsI E r.sv).st _ _ _ c (fun j hj=>g j (q.e j hj)) q.v,q.f,q.e,q.ne,q.V⟩⟩
section
variable {G:Pgr} {h h' h0:Heap} {s:Nat} {F D E E':Nat→Prop} {w w':St} {r r':RS G.α} {M R:List Itm}
theorem ds_ok (ok:(dsI G s F w).p h):StOk w:=let ⟨_,_,q⟩:=ok;q.V.ok
theorem ds_box (ok:(dsI G s F w).p h):∃r:RS G.α,SVw G r w∧(sboxI G s r).p h∧(G.it r.p r.pF r.a).p h:=by
 obtain ⟨r,E,q⟩:=ok;exact ⟨r,q.V,q.co.1 (sboxI G s r) (by simp [stL]),q.co.1 (G.it r.p r.pF r.a) (by simp [stL])⟩
theorem ds_open (ok:Hp h F [dsI G s F w] R h):∃r E,SVw G r w∧Hp h (stF G s r) [sboxI G s r,nowI r.om r.ov,scapI r,G.it r.p r.pF r.a] (pbsI E r.ov::svsI E r.sv::R) h∧(∀j,stF G s r j→F j)∧∀j,E j→F j:=by
 obtain ⟨r,E,q⟩:=ok.m0;have hl:=(ok.m (dsI G s F w) (by simp)).2;have o:Hp h (stF G s r) [starI (stL G s r)] (pbsI E r.ov::svsI E r.sv::R) h:=by
  refine ⟨Chg.refl _ _,fun i hi=>by rw [List.mem_singleton.1 hi];exact ⟨q.co,fun j hj=>⟨(hl j (q.f j hj)).1,.inl hj⟩⟩,fun i hi=>?_,List.pairwise_singleton _ _,fun a ha b hb=>?_⟩
  ·rcases List.mem_cons.1 hi with rfl | hi
   ·exact ⟨q.b,fun j hj=>(hl j (q.e j hj)).1⟩
   rcases List.mem_cons.1 hi with rfl | hi
   ·exact ⟨q.v,fun j hj=>(hl j (q.e j hj)).1⟩
   ·exact ok.r i hi
  ·rw [List.mem_singleton.1 ha];rcases List.mem_cons.1 hb with rfl | hb
   ·exact q.ne
   rcases List.mem_cons.1 hb with rfl | hb
   ·exact q.ne
   ·exact fun j hj=>ok.mr (dsI G s F w) (by simp) b hb j (q.f j hj)
 exact ⟨r,E,q.V,Hp.unstar o,q.f,q.e⟩
theorem ds_close (q:Hp h D (sboxI G s r'::nowI r'.om r'.ov::scapI r'::G.it r'.p r'.pF r'.a::M) (pbsI E' r'.ov::svsI E' r'.sv::R) h') (hD:∀j,D j→F j) (hE:∀j,E' j→F j∨h.size≤j) (V:SVw G r' w'):Hp h F (dsI G s (fun j=>stF G s r' j∨E' j) w'::M) [] h':=by
 have q:Hp h D (starI (stL G s r')::M) (pbsI E' r'.ov::svsI E' r'.sv::R) h':=Hp.star (l:=stL G s r') q;have hm:=List.pairwise_cons.1 q.mm;refine ⟨q.chg.mono fun j _=>hD j,fun i hi=>?_,by simp,List.pairwise_cons.2 ⟨fun b hb j hj hb2=>?_,hm.2⟩,by simp⟩
 ·rcases List.mem_cons.1 hi with rfl | hi
  ·refine ⟨⟨r',E',q.m0,(q.r (pbsI E' r'.ov) (by simp)).1,(q.r (svsI E' r'.sv) (by simp)).1,fun j hj=>.inl hj,fun j hj=>.inr hj,q.mr (starI (stL G s r')) (by simp) (pbsI E' r'.ov) (by simp),V⟩,fun j hj=>?_⟩;rcases hj with hj | hj
   ·have:=(q.m _ List.mem_cons_self).2 j hj;exact ⟨this.1,this.2.imp (hD j) id⟩
   ·exact ⟨(q.r _ List.mem_cons_self).2 j hj,hE j hj⟩
  ·have:=q.m i (List.mem_cons_of_mem _ hi);exact ⟨this.1,fun j hj=>⟨(this.2 j hj).1,(this.2 j hj).2.imp (hD j) id⟩⟩
 ·rcases hj with hj | hj
  ·exact hm.1 b hb j hj hb2
  ·exact q.mr b (List.mem_cons_of_mem _ hb) _ List.mem_cons_self j hb2 hj
end
open Go Go.HL
def frK (now:List (List UInt8)) (ns:List Nat) (k:Nat):Fr:=⟨((ns.getD k 0+1:Nat):Int),((if k+1=ns.length then now.length else 0:Nat):Int),now.getD (ns.getD k 0) []⟩
theorem frK_at {now:List (List UInt8)} {ns:List Nat} {k:Nat} (hk:k<ns.length):(frmsN now ns)[k]'(by rw [frmsN_len];exact hk)=frK now ns k:=by
 rw [frmsN_at hk];have e:ns.getD k 0=ns[k]:=by simp [hk]
 unfold frmN frK;rw [e];by_cases h:k+1=ns.length<;>simp [h]
def pgL (ns:List Nat):List Int:=ns.map fun (i:Nat)=>(i:Int)+1
theorem pgL_len {ns:List Nat} : (pgL ns).length=ns.length:=List.length_map _
theorem pgL_at {ns:List Nat} {k:Nat} (hk:k<(pgL ns).length):(pgL ns)[k]=((ns.getD k 0+1:Nat):Int):=by
 have hk2:k<ns.length:=by rw [pgL_len] at hk;exact hk
 have e:ns.getD k 0=ns[k]:=by simp [hk2]
 rw [e];simp [pgL]
theorem atsN_K {size:Nat} {m:List (Int × Nat)} {e k:Nat} {l:List Nat} (hk:k<l.length):atsN size m e (l.take (k+1))=mput (atsN size m e (l.take k)) ((l.getD k 0+1:Nat):Int) (e+k*(16+size)+16):=by
 rw [atsN_snoc hk];have e:l.getD k 0=l[k]:=by simp [hk]
 rw [e];rfl
def hdOk (b:List UInt8) (size:Nat):Bool:=decide ((decN b).2=0∧(decN b).1.size=size)
def NowOk (bs:List (Int × RB)) (sure:List (List UInt8)) (i:Nat) (l:List UInt8):Prop:=
 match mget bs ((i:Int)+1) with
 | some x=>x.l=l
 | none=>sure[i]? = some l
theorem Pbs.rd {h:Heap} {Q:Nat→Prop} {bs:List (Int × RB)} {k:Int} {x:RB} {l:List UInt8} (b:Pbs h Q bs) (hg:mget bs k=some x) (hl:x.l=l):RdL h Q Q (match mget bs k with | some x=>x.a | none=>none,match mget bs k with | some x=>x.l.length | none=>0,match mget bs k with | some x=>x.c | none=>0) l:=by
 rw [hg];subst hl;exact b.get hg
def bsA (bs:List (Int × RB)) (k:Int):Option Addr:=match mget bs k with | some x=>x.a | none=>none
def bsN (bs:List (Int × RB)) (k:Int):Nat:=match mget bs k with | some x=>x.l.length | none=>0
def bsC (bs:List (Int × RB)) (k:Int):Nat:=match mget bs k with | some x=>x.c | none=>0
theorem bs_get {bs:List (Int × RB)} {k:Int} : (aget (bsE bs) k).getD (.slice none 0 0)=.slice (bsA bs k) (bsN bs k) (bsC bs k):=by
 unfold bsE;rw [aget_mp (f:=bsV)];unfold bsA bsN bsC bsV;cases mget bs k<;>rfl
theorem bs_is {bs:List (Int × RB)} {k:Int} : (aget (bsE bs) k).isSome=(mget bs k).isSome:=by
 unfold bsE;rw [aget_mp (f:=bsV)];cases mget bs k<;>rfl
theorem at_get {l:List (Int × Nat)} {k:Int} : (aget (atE l) k).getD (.int .i64 0)=.int .i64 (((mget l k).getD 0:Nat):Int):=by
 unfold atE;rw [aget_mp (f:=iv')];cases mget l k<;>rfl
theorem at_is {l:List (Int × Nat)} {k:Int} : (aget (atE l) k).isSome=(mget l k).isSome:=by
 unfold atE;rw [aget_mp (f:=iv')];cases mget l k<;>rfl
section
variable {A:Ah}
variable {no:Int} {b:List UInt8}
variable {r:RA}
theorem bs_put {bs:List (Int × RB)} {k:Int} {x:RB} : aput (bsE bs) k (bsV x)=bsE (mput bs k x):=aput_mp (f:=bsV)
theorem bs_del {bs:List (Int × RB)} {k:Int} : adel (bsE bs) k=bsE (mdel bs k):=adel_mp (f:=bsV)
theorem at_put {l:List (Int × Nat)} {k:Int} {n:Nat} : aput (atE l) k (.int .i64 (n:Int))=atE (mput l k n):=aput_mp (f:=iv')
theorem at_del {l:List (Int × Nat)} {k:Int} : adel (atE l) k=atE (mdel l k):=adel_mp (f:=iv')
def delR (bs:List (Int × RB)) (n k:Int):List (Int × RB):=bs.filter fun x=>decide (¬(n<x.1∧x.1<k))
theorem delR_0 {bs:List (Int × RB)} {n:Int} : delR bs n (n+1)=bs:=List.filter_eq_self.2 fun x _=>by simp;omega
theorem delR_s {bs:List (Int × RB)} {n k:Int} (h:n+1≤k):mdel (delR bs n k) k=delR bs n (k+1):=by
 unfold mdel delR;rw [List.filter_filter];apply List.filter_congr;intro x _;rw [←Bool.decide_and,decide_eq_decide];omega
theorem mget_delR {bs:List (Int × RB)} {n k key:Int} (h:¬(n<key∧key<k)):mget (delR bs n k) key=mget bs key:=by
 induction bs with
 | nil=>rfl
 | cons p l ih=>
  unfold delR at ih⊢;by_cases h1:n<p.1∧p.1<k
  ·rw [List.filter_cons_of_neg (by simp;omega),ih,mget_cons,if_neg];intro e;rw [e] at h1;exact h h1
  ·rw [List.filter_cons_of_pos (by exact decide_eq_true h1),mget_cons,mget_cons,ih]
structure GrowI (bs bj:List (Int × RB)) (many size:Nat) (k:Int):Prop where
 old:∀key:Int,key≤many→mget bj key=mget bs key
 new:∀key:Int,many<key→key<k→∃x,mget bj key=some x∧x.l=List.replicate size 0
 keys:∀x∈bj,x∈bs∨((many:Int)<x.1∧x.1<k)
theorem GrowI.nil {bs:List (Int × RB)} {many size:Nat} : GrowI bs bs many size ((many:Int)+1):=⟨fun _ _=>rfl,fun _ h1 h2=>by omega,fun _ h=>.inl h⟩
theorem GrowI.step {bs bj:List (Int × RB)} {many size:Nat} {k:Int} {x:RB} (g:GrowI bs bj many size k) (hk:(many:Int)+1≤k) (hx:x.l=List.replicate size 0):GrowI bs (mput bj k x) many size (k+1):=by
 refine ⟨fun key h=>?_,fun key h1 h2=>?_,fun y hy=>?_⟩
 ·rw [mget_mput,if_neg (by omega),g.old key h]
 ·rw [mget_mput];by_cases h3:key=k
  ·exact ⟨x,if_pos h3,hx⟩
  ·rw [if_neg h3];exact g.new key h1 (by omega)
 ·rcases mem_mput hy with rfl | h1
  ·exact .inr ⟨by simp only;omega,by simp only;omega⟩
  ·exact (g.keys y h1).imp id fun h=>⟨h.1,by omega⟩
theorem Pbs.sub {h:Heap} {Q:Nat→Prop} {bs b2:List (Int × RB)} (b:Pbs h Q bs) (hs:∀x∈b2,x∈bs):Pbs h Q b2:=fun x hx=>b x (hs x hx)
theorem delR_sub {bs:List (Int × RB)} {n k:Int} : ∀x∈delR bs n k,x∈bs:=fun _ hx=>(List.mem_filter.1 hx).1
end
theorem okSz_cases {n:Nat} (h:okSz n=true):n=256∨n=512∨n=1024∨n=2048∨n=4096:=by
 unfold okSz at h;simp at h;omega
end Go.Proofs.YtndlpekckpdncaaGreat
namespace Go.HL
open Go
theorem OpV.quoI {P:Program} {s:Slots} {h:Heap} {d:Option Tmp} {t u ty:TypeId} {x y:Operand} {pos:String} {af:Array Edge} {g:Option (Nat × Bool)} {a b:Nat} (hx:ev s x=.int .i64 (a:Nat):=by exact rfl) (hy:ev s y=.int .i64 (b:Nat):=by exact rfl) (hr:a≤9223372036854775807∧1≤b:=by omega):OpV P ⟨d,.binOp .quo t x y u,ty,pos,af,g⟩ s h (.int .i64 ((a / b:Nat):Int)):=by
 rw [Int.natCast_ediv];exact OpV.quo hx hy (by omega)
end Go.HL
namespace Go.Proofs.YtndlpekckpdncaaGreat
open Go Go.HL
def wthE (b:Bool):Nat:=if b=true then 0 else 10
theorem wthE_t {b:Bool} (h:b=true):wthE b=0:=if_pos h
theorem wthE_f {b:Bool} (h:¬b=true):wthE b=10:=if_neg h
theorem wthE_n {b:Bool} (h:¬(wthE b:Int)≠0):b=true:=by
 cases b
 ·exact absurd (by decide) h
 ·rfl
theorem wthE_y {b:Bool} (h:(wthE b:Int)≠0):b=false:=by
 cases b
 ·rfl
 ·exact absurd rfl h
theorem bsE_put {ov:List (Int × RB)} {k:Int} {x:RB} : aput (bsE ov) k (bsV x)=bsE (mput ov k x):=aput_mp
theorem bsE_del {ov:List (Int × RB)} {k:Int} : adel (bsE ov) k=bsE (mdel ov k):=adel_mp
theorem susable_any {G:Pgr} {h:Heap} {so:Nat} {r:RS G.α} (hb:(sboxI G so r).p h) :
  HC Tryz.prog 69 #[.pointer (some ⟨so,0,none⟩)] h (fun v h'=>v=.int .i64 0∧h'=h):=by
 refine HC.go Tryz.func69 11 ?_;refine .s<|.z .asI<|.nil<|.seq<|.block fun K0 hK0=>.s<|.z .mvP<|.z (.pEqS T.pt27)<|.z .asB<|.nil<|.cf<|.s<|.z .mvP<|.z .nil<|.z (.fa T.fd123_6)<|.z (.ldx T.ag4 hb)<|.z .asB<|.nil<|.cf<|.skip<|.end<|hK0 _ _<|.s<|.z .asI<|.nil<|.ret ⟨.int .i64 0,Res.one rfl rfl,⟨rfl,rfl⟩⟩
theorem swithin_any {G:Pgr} {h:Heap} {so:Nat} {r:RS G.α} {i:Bool} (hb:(sboxI G so r).p h) (hi:r.in_=i) :
  HC Tryz.prog 82 #[.pointer (some ⟨so,0,none⟩)] h (fun v h'=>v=.int .i64 (wthE i:Int)∧h'=h):=by
 refine HC.go Tryz.func82 14 ?_;refine .s<|.z .asI<|.nil<|.seq<|.s<|.z .mvP<|.k 5 .func (susable_any (G:=G) (r:=r) hb)<|.z .asI<|.nil<|.s<|.z .mvI<|.z .neq<|.nil<|.cf<|.skip<|.seq<|.s<|.z .mvP<|.z .nil<|.z (.fa T.fd123_3)<|.z (.ldx T.ag4 hb)<|.z .not<|.nil<|.cond (fun C1=>?_) (fun C1=>?_)
 ·
  refine .s<|.z .asI<|.nil<|.ret ⟨.int .i64 10,Res.one rfl rfl,⟨by rw [wthE_f (by rw [←hi];simpa using C1)];rfl,rfl⟩⟩
 refine .skip<|.s<|.z .asI<|.nil<|.ret ⟨.int .i64 0,Res.one rfl rfl,⟨by rw [wthE_t (by rw [←hi];simpa using C1)];rfl,rfl⟩⟩
theorem spages_any {G:Pgr} {h:Heap} {so:Nat} {r:RS G.α} {i:Bool} {m k:Nat} (hb:(sboxI G so r).p h) (hp:(G.it r.p r.pF r.a).p h) (h1:r.in_=i) (h2:r.many=m) (h3:(G.sure r.a).length=k) :
  HC Tryz.prog 70 #[.pointer (some ⟨so,0,none⟩)] h (fun v h'=>v=.int .i64 ((if i=true then m else k:Nat):Int)∧h'=h):=by
 refine HC.go Tryz.func70 17 ?_;refine .s<|.z .asI<|.nil<|.seq<|.s<|.z .mvP<|.z .nil<|.z (.fa T.fd123_3)<|.z (.ldx T.ag4 hb)<|.nil<|.cond (fun C0=>?_) (fun C0=>?_)
 ·
  refine .s<|.z .mvP<|.z .nil<|.z (.fa T.fd123_4)<|.z (.fa T.fd120_0)<|.z (.ldx T.ag3 hb)<|.z .asI<|.nil<|.ret ⟨.int .i64 (r.many:Int),Res.one rfl rfl,⟨by rw [if_pos (h1▸C0),h2],rfl⟩⟩
 refine .skip<|.s<|.z .mvP<|.z .nil<|.z (.fa T.fd123_0)<|.z (.ldx T.ag116 hb)<|.k 16 (.inv (G.mPages _)) (G.cPages (F:=r.pF) (a:=r.a) hp)<|.z .asI<|.nil<|.ret ⟨.int .i64 ((G.sure r.a).length:Int),Res.one rfl rfl,⟨by rw [if_neg (by rw [←h1,C0];decide),h3],rfl⟩⟩
theorem stold_any {G:Pgr} {h:Heap} {so:Nat} {r:RS G.α} (hb:(sboxI G so r).p h) :
  HC Tryz.prog 101 #[.pointer (some ⟨so,0,none⟩),.int .i64 0] h (fun v h'=>v=.int .i64 0∧h'=h):=by
 refine HC.go Tryz.func101 11 ?_;refine .s<|.z .asI<|.nil<|.seq<|.s<|.z .mvI<|.z .eql<|.nil<|.cf<|.skip<|.s<|.z .mvI<|.z .asI<|.nil<|.ret ⟨.int .i64 0,Res.one rfl rfl,⟨rfl,rfl⟩⟩
theorem sread_any {G:Pgr} {h:Heap} {so:Nat} {r:RS G.α} {E:Nat→Prop} {no:Int} {b:List UInt8} (ok:Hp h (starI [G.it r.p r.pF r.a,sboxI G so r,nowI r.om r.ov]).F [G.it r.p r.pF r.a,sboxI G so r,nowI r.om r.ov] [pbsI E r.ov] h) (hno:1≤no) (hbl:b.length≤1000000) (hb:r.in_=true→∃mb,r.om=some mb) (h1:r.in_=true→∀x,mget r.ov no=some x→x.l=b) (h2:r.in_=false∨mget r.ov no=none→(G.sure r.a)[(no-1).toNat]? = some b) :
  HC Tryz.prog 71 #[.pointer (some ⟨so,0,none⟩),.int .i64 no] h (fun v h'=>∃F' a' x c,v=.tuple #[.slice x b.length c,.int .i64 0]∧G.sure a'=G.sure r.a∧Hp h (starI [G.it r.p r.pF r.a,sboxI G so r,nowI r.om r.ov]).F [capI 1 5 (x,b.length,c) (b.map bv),G.it r.p F' a',sboxI G so r,nowI r.om r.ov] [] h'):=by
 obtain ⟨p,lg,z,in_,many,om,ov,sa,sc,svl,pF,ga⟩:=r;dsimp only at ok hb h1 h2⊢;refine HC.go Tryz.func71 40 ?_;refine .s<|.z .asS<|.z .asI<|.nil<|.seq<|.s<|.z .mvP<|.z .nil<|.z (.fa T.fd123_3)<|.z (.ldx T.ag4 ok.m1)<|.nil<|.cond (fun C0=>?_) (fun C0=>?_)
 ·
  obtain ⟨m,rfl⟩:=hb C0;have ok:=Hp.nowSome (ok.n2);refine .s<|.z .mvP<|.z .nil<|.z (.fa T.fd123_4)<|.z (.fa T.fd120_1)<|.z (.ldx T.ag118 ok.m2)<|.z .mvI<|.z (.lk2 (KV.int .i64) no (v:=.slice (bsA ov no) (bsN ov no) (bsC ov no)) T.mp118 (inB_iff T.in3) T.zr44 ok.m0 (by exact bs_get) (by exact bs_is))<|.z .mvU<|.z .ex<|.z .ex<|.z .asS<|.z .asB<|.nil<|.s<|.z .mvB<|.nil<|.cond (fun C1=>?_) (fun C1=>?_)
  ·
   obtain ⟨x,hx⟩:=Option.isSome_iff_exists.1 C1;have hxl:=h1 C0 x hx;have ok:=ok.d0 (rdI E E (bsA ov no,bsN ov no,bsC ov no) b) (Pbs.rd ok.r0 hx hxl) (fun _ h=>h.elim id id);obtain hbn:bsN ov no=b.length:=ok.r0.n;rw [hbn] at ok⊢;refine .s<|.z .mvS<|.c' 26 .func (bclone_any (a:=(bsA ov no)) (c:=(bsC ov no)) (l:=b) ok.r0 (by omega)) ?_;rintro _ η1 own;obtain ⟨ya1,yc1,rfl⟩:=own.formB;have ok:=ok.own own;refine .z .asS<|.z .asI<|.nil<|.ret ⟨.tuple #[.slice ya1 ((b).length) yc1,.int .i64 0],Res.two rfl rfl rfl,⟨pF,ga,ya1,yc1,rfl,rfl,(ok.n1.n3.n3.n3).e0⟩⟩
  have h3:=h2 (.inr (by simpa using C1));refine .skip<|.s<|.z .mvP<|.z .nil<|.z (.fa T.fd123_0)<|.z (.ldx T.ag116 ok.m2)<|.z .mvI<|.c' 33 (.inv (G.mRead _)) (G.cRead (p:=p) (F:=pF) (a:=ga) (no:=no) (b:=b) (ok.n1).loc0 hno h3) ?_;rintro _ η2 ⟨Fg1,ag1,xg1,cg1,rfl,hsg1,q⟩;have ok:=(ok.n1).lift2 q;refine .z .mvU<|.z .ex<|.z .ex<|.z .asS<|.z .asI<|.nil<|.s<|.z .mvS<|.z .mvP<|.z .mvI<|.k 39 .func (stold_any (G:=G) (r:=(⟨p,lg,z,in_,many,(some m),ov,sa,sc,svl,Fg1,ag1⟩:RS G.α)) ok.m3)<|.z .asS<|.z .asI<|.nil<|.ret ⟨.tuple #[.slice xg1 b.length cg1,.int .i64 0],Res.two rfl rfl rfl,⟨Fg1,ag1,xg1,cg1,rfl,hsg1,(ok.n2.n3.n3.n3).e0⟩⟩
 have h3:=h2 (.inl (by simpa using C0));refine .skip<|.s<|.z .mvP<|.z .nil<|.z (.fa T.fd123_0)<|.z (.ldx T.ag116 ok.m1)<|.z .mvI<|.c' 33 (.inv (G.mRead _)) (G.cRead (p:=p) (F:=pF) (a:=ga) (no:=no) (b:=b) (ok).loc0 hno h3) ?_;rintro _ η3 ⟨Fg2,ag2,xg2,cg2,rfl,hsg2,q⟩;have ok:=(ok).lift2 q;refine .z .mvU<|.z .ex<|.z .ex<|.z .asS<|.z .asI<|.nil<|.s<|.z .mvS<|.z .mvP<|.z .mvI<|.k 39 .func (stold_any (G:=G) (r:=(⟨p,lg,z,in_,many,om,ov,sa,sc,svl,Fg2,ag2⟩:RS G.α)) ok.m2)<|.z .asS<|.z .asI<|.nil<|.ret ⟨.tuple #[.slice xg2 b.length cg2,.int .i64 0],Res.two rfl rfl rfl,⟨Fg2,ag2,xg2,cg2,rfl,hsg2,(ok).e0⟩⟩
theorem sput_any {G:Pgr} {h:Heap} {so mb:Nat} {r:RS G.α} {a:Option Addr} {c:Nat} {l:List UInt8} {no:Nat} (ok:Hp h (starI [sboxI G so r,mapI (Value.int .i64) mb (bsE r.ov)]).F [sboxI G so r,mapI (Value.int .i64) mb (bsE r.ov)] [] h) (hm:r.om=some mb) :
  HC Tryz.prog 83 #[.pointer (some ⟨so,4,none⟩),.int .i64 (no:Int),.slice a l.length c] h (fun v h'=>v=.tuple #[]∧Hp h (starI [sboxI G so r,mapI (Value.int .i64) mb (bsE r.ov)]).F [sboxI G so ({ r with many:=max r.many no,ov:=mput r.ov (no:Int) ⟨a,c,l⟩ }),mapI (Value.int .i64) mb (bsE (mput r.ov (no:Int) ⟨a,c,l⟩))] [] h'):=by
 obtain ⟨p,lg,z,in_,many,om,ov,sa,sc,svl,pF,ga⟩:=r;dsimp only at ok hm⊢;subst hm;refine HC.go Tryz.func83 21 ?_;refine .s<|.z .mvP<|.z .nil<|.z (.fa T.fd120_1)<|.z (.ldx T.ag118 ok.m0)<|.z .mvI<|.z .mvS<|.ur' (.mpu (KV.int .i64) V.sbI (no:Int) (v:=.slice a l.length c) T.mp118 (inB_iff T.in3) ok.n1) ?_;rintro η1 ok;rw [show (Value.slice a l.length c:Value)=bsV ⟨a,c,l⟩ from rfl,bsE_put] at ok;refine .nil ?_;refine .r<|.z .mvP<|.z .mvP<|.z .nil<|.z (.fa T.fd120_0)<|.z (.ldx T.ag3 ok.m1)<|.z .mvI<|.z .maxn<|.z .nil<|.z (.fa T.fd120_0)<|.ur' (.stI T.sz3 ok.n1) ?_;rintro η2 ⟨ok,cg⟩;refine .nil ?_;refine .end<|⟨.tuple #[],Res.none rfl,⟨rfl,ok⟩⟩
theorem bsE_some {l:List (Int × RB)} {i:Nat} {p:Int × Value} (h:(bsE l)[i]? = some p):∃q,l[i]? = some q∧(q.1,bsV q.2)=p:=by
 unfold bsE at h;rw [List.getElem?_map] at h;cases hq:l[i]? with
 | none=>rw [hq] at h;cases h
 | some q=>rw [hq] at h;injection h with h;exact ⟨q,rfl,h⟩
theorem bsE_erase {l:List (Int × RB)} {i:Nat} : (bsE l).eraseIdx i=bsE (l.eraseIdx i):=(map_erase _ _ _).symm
theorem erase_memR {td:List (Int × RB)} {i:Nat} {p q:Int × RB} (hp:p∈td) (hq:td[i]? = some q) (hne:p≠q):p∈td.eraseIdx i:=by
 rw [List.mem_eraseIdx_iff_getElem?];obtain ⟨j,hj⟩:=List.mem_iff_getElem?.1 hp;refine ⟨j,fun e=>?_,hj⟩;subst e;rw [hj] at hq;injection hq with hq;exact hne hq
theorem filt_del {L:List (Int × RB)} {c k:Int} (h:c<k):(mdel L k).filter (fun p=>decide (p.1≤c))=L.filter fun p=>decide (p.1≤c):=by
 unfold mdel;rw [List.filter_filter];refine List.filter_congr fun p _=>?_;by_cases h1:p.1≤c
 ·have:p.1≠k:=by omega
  simp [h1,this]
 ·simp [h1]
theorem scut_any {G:Pgr} {h:Heap} {so mb n:Nat} {r:RS G.α} (ok:Hp h (starI [sboxI G so r,mapI (Value.int .i64) mb (bsE r.ov)]).F [sboxI G so r,mapI (Value.int .i64) mb (bsE r.ov)] [] h) (hm:r.om=some mb) :
  HC Tryz.prog 99 #[.pointer (some ⟨so,4,none⟩),.int .i64 (n:Int)] h (fun v h'=>v=.tuple #[]∧Hp h (starI [sboxI G so r,mapI (Value.int .i64) mb (bsE r.ov)]).F [sboxI G so ({ r with many:=n,ov:=r.ov.filter fun p=>decide (p.1≤(n:Int)) }),mapI (Value.int .i64) mb (bsE (r.ov.filter fun p=>decide (p.1≤(n:Int))))] [] h'):=by
 obtain ⟨p,lg,z,in_,many,om,ov,sa,sc,svl,pF,ga⟩:=r;dsimp only at ok hm⊢;subst hm;refine HC.go Tryz.func99 26 ?_;refine .seq<|.s<|.z .mvP<|.z .nil<|.z (.fa T.fd120_1)<|.z (.ldx T.ag118 ok.m0)<|.a' 9 (.rng T.mp118 ok.n1) ?_;rintro _ η1 ⟨ib1,rfl,ok⟩;refine .nil ?_;refine .block fun K0 hK0=>.loop (fun m s hh=>∃(L td:List (Int × RB)),Has s [(0,.pointer (some ⟨so,4,none⟩)),(1,.int .i64 (n:Int)),(9,.pointer (some ⟨ib1,0,none⟩))]∧Hp h (starI [sboxI G so ((⟨p,lg,z,in_,many,some mb,ov,sa,sc,svl,pF,ga⟩:RS G.α)),mapI (Value.int .i64) mb (bsE ov)]).F [itI (Value.int .i64) ib1 mb (bsE L) (bsE td),boxI so 123 [.iface G.tid (.pointer (some ⟨p,0,none⟩)),.pointer lg,.int .i64 (z:Int),.bool in_,.int .i64 (many:Int),.map (some mb),.slice sa svl.length sc,.bool false]] [] hh∧L.filter (fun p:Int × RB=>decide (p.1≤(n:Int)))=ov.filter (fun p:Int × RB=>decide (p.1≤(n:Int)))∧(∀p∈L,p.1≤(n:Int)∨p∈td)∧m=td.length) ?_ ?_
 ·exact ⟨_,ov,ov,⟨rfl,rfl,rfl,trivial⟩,ok.n1.n1,rfl,fun p h=>.inr h,rfl⟩
 rintro _ _ η2 ⟨L,td,hs,ok,hLf,hLt,rfl⟩ J0 hJ0;refine .frame hs fun τ=>?_;refine .s<|.a' 10 (.nxt ok) ?_;rintro _ η3 (⟨hnil,rfl,ok⟩ | ⟨ipq1,pq1,hpq1,rfl,ok⟩)
 ·
  have htd:td=[]:=by simpa [bsE] using hnil
  have hLe:L=ov.filter (fun p:Int × RB=>decide (p.1≤(n:Int))):=by rw [←hLf];exact (List.filter_eq_self.2 fun p hp=>decide_eq_true ((hLt p hp).resolve_right (by rw [htd];simp))).symm
  have ok:=ok.itm;rw [hLe] at ok;refine .z .ex<|.nil<|.seq<|.cf<|.exit<|hK0 _ _<|.r<|.z .mvP<|.z .mvI<|.z .nil<|.z (.fa T.fd120_0)<|.ur' (.stI T.sz3 ok.n1) ?_;rintro η4 ⟨ok,cg⟩;refine .nil ?_;refine .end<|⟨.tuple #[],Res.none rfl,⟨rfl,ok⟩⟩
 obtain ⟨q,hq,hpe⟩:=bsE_some hpq1;have hk1:pq1.1=q.1:=by rw [←hpe]
 rw [bsE_erase] at ok;refine .z .ex<|.nil<|.seq<|.ct<|.skip<|.block fun K1 hK1=>.s<|.z (.ent (ok.m0).2)<|.z .ex<|.z .asI<|.nil<|.s<|.z .mvI<|.z .mvI<|.z .gtr<|.nil<|.cd (fun C1=>?_) (fun C1=>?_)
 ·
  refine .r<|.z .mvP<|.z .nil<|.z (.fa T.fd120_1)<|.z (.ldx T.ag118 ok.m1)<|.z .mvI<|.a0' (.delC (KV.int .i64) T.mp118 (inB_iff T.in3) ok) ?_;rintro _ η5 ⟨rfl,ok⟩;rw [hk1,bsE_del] at ok;refine .nil ?_;refine .end<|hK1 _ _<|.end<|hJ0 _ _ _ ⟨mdel L q.1,td.eraseIdx ipq1,⟨rfl,rfl,rfl,trivial⟩,ok.n1.n1,by rw [filt_del (by omega)];exact hLf,fun p hp=>(hLt p (List.mem_filter.1 hp).1).imp id fun h=>erase_memR h hq (fun e=>by have:=(List.mem_filter.1 hp).2;rw [e] at this;simp at this),rfl⟩ (by rw [List.length_eraseIdx_of_lt (List.getElem?_eq_some_iff.1 hq).1];have:=(List.getElem?_eq_some_iff.1 hq).1;omega)
 have ok:=(ok).itc;refine .skip<|.end<|hK1 _ _<|.end<|hJ0 _ _ _ ⟨L,td.eraseIdx ipq1,⟨rfl,rfl,rfl,trivial⟩,ok.n1.n1,hLf,fun p hp=>(hLt p hp).elim .inl fun h=>(Classical.em (p=q)).elim (fun e=>.inl (by rw [e];omega)) fun e=>.inr (erase_memR h hq e),rfl⟩ (by rw [List.length_eraseIdx_of_lt (List.getElem?_eq_some_iff.1 hq).1];have:=(List.getElem?_eq_some_iff.1 hq).1;omega)
def i64N (z:Int):Prop:=-9223372036854775808≤z∧z≤9223372036854775807
structure HdIn (H:Hd):Prop where
 a:i64N H.size
 b:i64N H.pages
 c:i64N H.free
 d:i64N H.many
 e:i64N H.cookie
 f:i64N H.version
theorem encB_any {h:Heap} {z0 z1 z2 z3 z4 z5:Int} (h0:i64N z0) (h1:i64N z1) (h2:i64N z2) (h3:i64N z3) (h4:i64N z4) (h5:i64N z5) (hc:¬ChkP ⟨z0,z1,z2,z3,z4,z5⟩):HC Tryz.prog 98 #[.agg #[.int .i64 z0,.int .i64 z1,.int .i64 z2,.int .i64 z3,.int .i64 z4,.int .i64 z5]] h (fun v h'=>v=.tuple #[.slice none 0 0,.int .i64 1]∧Ext h h'):=by
 have ok:=Hp.nil h none_;refine HC.go Tryz.func98 12 ?_;refine .s<|.a' 1 (.bxA (cs:=[.int .i64 z0,.int .i64 z1,.int .i64 z2,.int .i64 z3,.int .i64 z4,.int .i64 z5]) ok) ?_;rintro _ η1 ⟨pb1,rfl,ok,xe⟩;refine .z .asS<|.z .asI<|.nil<|.seq<|.s<|.z (.ldb T.ag38 ok.m0 T.sz38)<|.c' 6 .func (check_any (z0:=z0) (z1:=z1) (z2:=z2) (z3:=z3) (z4:=z4) (z5:=z5) h0 h1 h2 h3 h4 h5) ?_;rintro _ η2 ⟨rfl,hx⟩;have ok:=ok.ext hx;refine .z .asI<|.nil<|.s<|.z .mvI<|.z .neq<|.nil<|.cd (fun C0=>?_) (fun C0=>?_)
 ·
  refine .s<|.z .mvI<|.z .asS<|.z .asI<|.nil<|.ret ⟨.tuple #[.slice none 0 0,.int .i64 (chkC ⟨z0,z1,z2,z3,z4,z5⟩:Int)],Res.two rfl rfl rfl,⟨by rw [chk_n hc];rfl,ok.chg⟩⟩
 exact absurd (by rw [chk_n hc];decide) C0
theorem encG_any {h:Heap} {n0 n1 n2 n3 n4 n5:Nat} (h0:n0<4294967296) (h1:n1<4294967296) (h2:n2<4294967296) (h3:n3<4294967296) (h4:n4<4294967296) (h5:n5<4294967296) (hc:ChkP ⟨((n0:Nat):Int),((n1:Nat):Int),((n2:Nat):Int),((n3:Nat):Int),((n4:Nat):Int),((n5:Nat):Int)⟩):HC Tryz.prog 98 #[.agg #[.int .i64 (n0:Int),.int .i64 (n1:Int),.int .i64 (n2:Int),.int .i64 (n3:Int),.int .i64 (n4:Int),.int .i64 (n5:Int)]] h (fun v h'=>∃w,v=.tuple #[w,.int .i64 0]∧Own h h' 1 5 w ((hdB [n0,n1,n2,n3,n4,n5]).map bv)):=by
 have ok:=Hp.nil h none_;refine HC.go Tryz.func98 12 ?_;refine .s<|.a' 1 (.bxA (cs:=[.int .i64 (n0:Int),.int .i64 (n1:Int),.int .i64 (n2:Int),.int .i64 (n3:Int),.int .i64 (n4:Int),.int .i64 (n5:Int)]) ok) ?_;rintro _ η1 ⟨pb1,rfl,ok,xe⟩;refine .z .asS<|.z .asI<|.nil<|.seq<|.s<|.z (.ldb T.ag38 ok.m0 T.sz38)<|.c' 6 .func (check_any (z0:=(n0:Int)) (z1:=(n1:Int)) (z2:=(n2:Int)) (z3:=(n3:Int)) (z4:=(n4:Int)) (z5:=(n5:Int)) (by omega) (by omega) (by omega) (by omega) (by omega) (by omega)) ?_;rintro _ η2 ⟨rfl,hx⟩;have ok:=ok.ext hx;refine .z .asI<|.nil<|.s<|.z .mvI<|.z .neq<|.nil<|.cd (fun C0=>?_) (fun C0=>?_)
 ·
  exact absurd (by rw [chk_y hc];rfl) C0
 refine .skip<|.s<|.z (.ldb T.ag38 ok.m0 T.sz38)<|.c' 11 .func (hbytes_any (n0:=n0) (n1:=n1) (n2:=n2) (n3:=n3) (n4:=n4) (n5:=n5) (by omega) (by omega) (by omega) (by omega) (by omega) (by omega)) ?_;rintro _ η3 own;obtain ⟨ya1,yc1,rfl⟩:=own.formB;have ok:=ok.own own;refine .z .asS<|.z .asI<|.nil<|.ret ⟨.tuple #[.slice ya1 ((hdB [n0,n1,n2,n3,n4,n5]).length) yc1,.int .i64 0],Res.two rfl rfl rfl,⟨_,rfl,(ok).toOwn⟩⟩
theorem encN_any {h:Heap} {H:Hd} (hr:HdIn H):HC Tryz.prog 98 #[H.val] h (fun v h'=>(¬ChkP H∧v=.tuple #[.slice none 0 0,.int .i64 1]∧Ext h h')∨(ChkP H∧∃w,v=.tuple #[w,.int .i64 0]∧Own h h' 1 5 w (H.enc.map bv))):=by
 by_cases hc:ChkP H
 ·have h0:=okZ_cases hc.1;have h1:=hc.2.1;have h2:=hc.2.2.1;have h3:=hc.2.2.2;obtain ⟨a,b,c,d,e,f⟩:=H;simp only at h0 h1 h2 h3;obtain ⟨a,rfl⟩:∃n:Nat,a=(n:Int):=⟨a.toNat,by omega⟩;obtain ⟨b,rfl⟩:∃n:Nat,b=(n:Int):=⟨b.toNat,by omega⟩;have hcb:0≤c∧c<4294967296:=by
   by_cases h:d=0
   ·have:=h2.2.2.1 h;omega
   ·have:=h2.2.2.2 (by omega);omega
  obtain ⟨c,rfl⟩:∃n:Nat,c=(n:Int):=⟨c.toNat,by omega⟩;obtain ⟨d,rfl⟩:∃n:Nat,d=(n:Int):=⟨d.toNat,by omega⟩;obtain ⟨e,rfl⟩:∃n:Nat,e=(n:Int):=⟨e.toNat,by omega⟩;obtain ⟨f,rfl⟩:∃n:Nat,f=(n:Int):=⟨f.toNat,by omega⟩;have hdb:d<4294967296:=by have:=h1.2.1;have:=h2.2.1;omega
  have heb:e<4294967296:=by have:=h3.1.2;omega
  have hfb:f<4294967296:=by have:=h3.2.2;omega
  exact (encG_any (n0:=a) (n1:=b) (n2:=c) (n3:=d) (n4:=e) (n5:=f) (by omega) (by omega) (by omega) hdb heb hfb hc).mono fun v h' q=>.inr ⟨hc,q⟩
 ·exact (encB_any hr.a hr.b hr.c hr.d hr.e hr.f hc).mono fun v h' q=>.inl ⟨hc,q⟩
section
variable {G:Pgr} {r:RS G.α} {w:St} (V:SVw G r w)
include V
theorem SVw.pgs:(if r.in_=true then r.many else (G.sure r.a).length)=w.pgs.length:=by
 unfold St.pgs;rw [V.in_];split
 ·rename_i h;exact (V.now h).2.len.symm
 ·rw [V.sure]
theorem SVw.pgk:PgsK w.z w.pgs:=by
 unfold St.pgs;split
 ·exact V.ok.now
 ·exact V.ok.sure
theorem SVw.zc:w.z=256∨w.z=512∨w.z=1024∨w.z=2048∨w.z=4096:=okSz_c V.ok.z
theorem SVw.few:w.pgs.length≤65536:=by
 have h1:=V.pgk.many;have h2:=V.zc;have h3:w.pgs.length*256≤w.pgs.length*w.z:=Nat.mul_le_mul_left _ (by omega);omega
theorem SVw.nowfew:w.now.length≤65536:=by
 have h1:=V.ok.now.many;have h2:=V.zc;have h3:w.now.length*256≤w.now.length*w.z:=Nat.mul_le_mul_left _ (by omega);omega
theorem SVw.many (h:w.in_=true):r.many=w.now.length:=(V.now h).2.len.symm
theorem SVw.page {no:Int} (h1:1≤no) (h2:no≤(w.pgs.length:Int)):(w.pgs.getD (no-1).toNat []).length=w.z∧(r.in_=true→∃mb,r.om=some mb)∧(r.in_=true→∀x,mget r.ov no=some x→x.l=w.pgs.getD (no-1).toNat [])∧(r.in_=false∨mget r.ov no=none→(G.sure r.a)[(no-1).toNat]? = some (w.pgs.getD (no-1).toNat [])):=by
 have hi:(no-1).toNat<w.pgs.length:=by omega
 have hk:(((no-1).toNat:Nat):Int)+1=no:=by omega
 have hg:w.pgs[(no-1).toNat]? = some (w.pgs.getD (no-1).toNat []):=by rw [List.getD_eq_getElem?_getD,List.getElem?_eq_getElem hi];rfl
 have hin:=V.in_;refine ⟨V.pgk.len _ (List.mem_of_getElem? hg),fun h=>(V.now (by rw [←hin];exact h)).1,fun h x hx=>?_,fun h=>?_⟩
 ·have hw:w.in_=true:=by rw [←hin];exact h
  have hn:=(V.now hw).2;have hp:w.pgs=w.now:=by unfold St.pgs;rw [if_pos hw]
  rw [hp] at hg hi⊢;have:=hn.sm (no-1).toNat x (by rw [←hn.len];exact hi) (by rw [hk];exact hx);rw [hg] at this;injection this with this;exact this.symm
 ·rw [V.sure];cases hw:w.in_ with
  | false=>
   have hp:w.pgs=w.sure:=by unfold St.pgs;rw [if_neg (by rw [hw];decide)]
   rw [hp] at hg⊢;exact hg
  | true=>
   have hn:=(V.now hw).2;have hp:w.pgs=w.now:=by unfold St.pgs;rw [if_pos hw]
   rw [hp] at hg hi⊢;have:=hn.nn (no-1).toNat (by rw [←hn.len];exact hi) (by rw [hk];exact h.elim (fun h=>by rw [hin,hw] at h;cases h) id);rw [←this.2];exact hg
theorem SVw.pg {F:Nat→Prop} {a:G.α} (h:G.sure a=G.sure r.a):SVw G { r with pF:=F,a:=a } w:=⟨V.z,V.in_,h.trans V.sure,V.now,V.out,V.sv,V.ok⟩
theorem SVw.begin (hi:w.in_=false) {m:Nat} : SVw G { r with in_:=true,many:=(G.sure r.a).length,om:=some m,ov:=[] } { w with in_:=true,now:=w.sure,saves:=[] }:=by
 have ho:=V.out hi;refine ⟨V.z,rfl,V.sure,fun _=>⟨⟨m,rfl⟩,by rw [V.sure];exact VW.begin⟩,fun h=>(by cases h),?_,⟨V.ok.z,V.ok.sure,V.ok.sure,by simp,by simp,fun h=>by cases h⟩⟩;show All2 _ r.sv [];rw [ho.2.2.2];exact All2.nil
theorem SVw.put (hi:w.in_=true) {no:Nat} {x:RB} {now':List (List UInt8)} {many':Nat} {ov':List (Int × RB)} (hv:VW RB.l ov' many' w.sure now') (hk:PgsK w.z now'):SVw G { r with many:=many',ov:=ov' } { w with now:=now' }:=
 ⟨V.z,V.in_,V.sure,fun h=>⟨(V.now h).1,hv⟩,fun h=>(by rw [hi] at h;cases h),V.sv,⟨V.ok.z,V.ok.sure,hk,V.ok.saves,V.ok.few,fun h=>by rw [hi] at h;cases h⟩⟩
theorem SVw.write (hi:w.in_=true) {no:Nat} {x:RB} (h2:2≤no) (h3:no≤w.now.length+1) (h4:w.now≠[]) (h5:x.l.length=w.z) (h6:no*w.z≤16777216):SVw G { r with many:=max r.many no,ov:=mput r.ov (no:Int) x } { w with now:=wth w.now no x.l }:=by
 have hn:=(V.now hi).2;exact V.put hi (no:=no) (x:=x) (hn.put (by omega) (by rw [←hn.len];exact h3)) (V.ok.now.wth h5 (by omega) h3 h6 (fun h=>h.elim (fun h=>by omega) fun h=>absurd h h4))
theorem SVw.setHead (hi:w.in_=true) {H:Hd} {x:RB} {n:Nat} (hc:ChkP H) (hz:H.size=(w.z:Int)) (hn:H.pages=(n:Int)) (hp:n≤max 1 w.now.length) (hx:x.l=pg1 w.z H):SVw G { r with many:=n,ov:=(mput r.ov 1 x).filter fun p=>decide (p.1≤(n:Int)) } { w with now:=(Go.Proofs.YtndlpekckpdncaaGreat.wth w.now 1 (pg1 w.z H)).take n }:=by
 have hv:=(V.now hi).2;have h1:=hv.put (no:=1) (x:=x) (Nat.le_refl _) (by omega);have h2:=h1.cut (n:=n) (by rw [←hv.len,Nat.max_comm];exact hp);rw [hx] at h2;have hz2:=V.zc;exact V.put hi (no:=1) (x:=x) h2 ((V.ok.now.wth (pg1_len V.ok.z) (Nat.le_refl _) (by omega) (by omega) (fun _=>hok_pg1 hc hz)).take n)
end
theorem _root_.Go.HL.Hp.putNew {h0 h:Heap} {D F:Nat→Prop} {M R:List Itm} {a:Itm} (ok:Hp h0 D (a::M) R h) (hf:∀j,D j→F j):∀j,a.F j→F j∨h0.size≤j:=fun j hj=>((ok.m a List.mem_cons_self).2 j hj).2.imp (hf j) id
theorem Svs.mono {h:Heap} {E E':Nat→Prop} {sv:List RSv} (hE:∀j,E j→E' j) (b:Svs h E sv):Svs h E' sv:=fun x hx=>⟨(b x hx).1,hE _ (b x hx).2.1,(b x hx).2.2.mono hE⟩
theorem Pbs.filt {h:Heap} {E:Nat→Prop} {bs:List (Int × RB)} {f:Int × RB→Bool} (b:Pbs h E bs):Pbs h E (bs.filter f):=fun x hx=>b x (List.mem_filter.1 hx).1
theorem _root_.Go.HL.Hp.svsNil {h0 h:Heap} {D:Nat→Prop} {M R:List Itm} {E:Nat→Prop} {sv:List RSv} (ok:Hp h0 D M (svsI E sv::R) h):Hp h0 D M (svsI E []::R) h:=(ok.d0 (svsI E []) (fun _ h=>by cases h)).sub (by simp;intro a h;exact .inr (.inr h))
section
variable {w:St}
theorem St.read_no {no:Int} (h:no<1∨(w.pgs.length:Int)<no):w.read no=([],1):=if_pos h
theorem St.read_ok {no:Int} (h1:1≤no) (h2:no≤(w.pgs.length:Int)):w.read no=(w.pgs.getD (no-1).toNat [],0):=if_neg (by omega)
theorem St.head_0 (h:w.pgs.length=0):w.head=hd0:=if_pos (List.eq_nil_of_length_eq_zero h)
theorem St.head_n (h:w.pgs.length≠0):w.head = { (decN (w.pgs.getD 0 [])).1 with size:=(w.z:Int),pages:=(w.pgs.length:Int) }:=by
 unfold St.head;rw [if_neg (fun e=>h (by rw [e];rfl))];rw [headD_get,List.getD_eq_getElem?_getD]
theorem St.begin_10 (h:w.in_=true):w.begin_=(w,10):=if_pos h
theorem St.begin_0 (h:w.in_=false):w.begin_=({ w with in_:=true,now:=w.sure,saves:=[] },0):=by unfold St.begin_;rw [if_neg (by rw [h];decide)]
theorem St.write_10 {no:Int} {b:List UInt8} (h:w.in_=false):w.write no b=(w,10):=if_pos h
theorem St.write_1 {no:Int} {b:List UInt8} (h:w.in_=true) (h2:no<2∨(w.now.length:Int)+1<no∨w.now=[]∨b.length≠w.z):w.write no b=(w,1):=by unfold St.write;rw [if_neg (by rw [h];decide),if_pos h2]
theorem St.write_5 {no:Int} {b:List UInt8} (h:w.in_=true) (h2:¬(no<2∨(w.now.length:Int)+1<no∨w.now=[]∨b.length≠w.z)) (h3:1048576<no∨16777216<no*(w.z:Int)):w.write no b=(w,5):=by unfold St.write;rw [if_neg (by rw [h];decide),if_neg h2,if_pos h3]
theorem St.write_0 {no:Nat} {b:List UInt8} (h:w.in_=true) (h2:¬((no:Int)<2∨(w.now.length:Int)+1<(no:Int)∨w.now=[]∨b.length≠w.z)) (h3:¬(1048576<(no:Int)∨16777216<(no:Int)*(w.z:Int))):w.write (no:Int) b=({ w with now:=wth w.now no b },0):=by unfold St.write;rw [if_neg (by rw [h];decide),if_neg h2,if_neg h3];rfl
theorem St.setHead_10 {H:Hd} (h:w.in_=false):w.setHead H=(w,10):=if_pos h
theorem St.setHead_1 {H:Hd} (h:w.in_=true) (h2:¬ChkP H∨H.size≠(w.z:Int)∨max 1 (w.now.length:Int)<H.pages):w.setHead H=(w,1):=by unfold St.setHead;rw [if_neg (by rw [h];decide),if_pos h2]
theorem St.setHead_0 {H:Hd} {n:Nat} (h:w.in_=true) (h2:¬(¬ChkP H∨H.size≠(w.z:Int)∨max 1 (w.now.length:Int)<H.pages)) (hn:H.pages=(n:Int)):w.setHead H=({ w with now:=(wth w.now 1 (pg1 w.z H)).take n },0):=by unfold St.setHead;rw [if_neg (by rw [h];decide),if_neg h2,hn];rfl
end
open Go Go.HL
theorem sSize_any {G:Pgr} {h:Heap} {so:Nat} {F:Nat→Prop} {w:St} (hd:(dsI G so F w).p h) :
  HC Tryz.prog 28 #[.pointer (some ⟨so,0,none⟩)] h (fun v h'=>v=.int .i64 (w.z:Int)∧h'=h):=by
 obtain ⟨r,V,hb,hp⟩:=ds_box hd;refine HC.go Tryz.func28 9 ?_;refine .s<|.z .asI<|.nil<|.seq<|.s<|.z .mvP<|.z (.pEqS T.pt27)<|.nil<|.cf<|.skip<|.s<|.z .mvP<|.z .nil<|.z (.fa T.fd123_2)<|.z (.ldx T.ag3 hb)<|.z .asI<|.nil<|.ret ⟨.int .i64 (r.z:Int),Res.one rfl rfl,⟨by rw [V.z],rfl⟩⟩
theorem sIn_any {G:Pgr} {h:Heap} {so:Nat} {F:Nat→Prop} {w:St} (hd:(dsI G so F w).p h) :
  HC Tryz.prog 41 #[.pointer (some ⟨so,0,none⟩)] h (fun v h'=>v=.bool w.in_∧h'=h):=by
 obtain ⟨r,V,hb,hp⟩:=ds_box hd;refine HC.go Tryz.func41 12 ?_;refine .s<|.z .asB<|.nil<|.s<|.z .mvP<|.k 4 .func (susable_any (G:=G) (r:=r) hb)<|.z .eql<|.z .mvB<|.z .mvP<|.z .nil<|.z (.fa T.fd123_3)<|.z (.ldx T.ag4 hb)<|.z .pkt<|.z .asB<|.nil<|.ret ⟨.bool r.in_,Res.one rfl rfl,⟨by rw [V.in_],rfl⟩⟩
theorem sRead_any {G:Pgr} {h:Heap} {so:Nat} {F:Nat→Prop} {w:St} {no:Int} (ok:Hp h F [dsI G so F w] [] h) :
  HC Tryz.prog 22 #[.pointer (some ⟨so,0,none⟩),.int .i64 no] h (fun v h'=>∃F' x c,v=.tuple #[.slice x (w.read no).1.length c,.int .i64 ((w.read no).2:Int)]∧Hp h F [capI 1 5 (x,(w.read no).1.length,c) ((w.read no).1.map bv),dsI G so F' w] [] h'):=by
 obtain ⟨r,E,V,ok,hf,he⟩:=ds_open ok;have hzc:=V.zc;have hfew:=V.few;have hnf:=V.nowfew;obtain ⟨p,lg,z,in_,many,om,ov,sa,sc,svl,pF,ga⟩:=r;dsimp only at ok hf;generalize stF G so _=DF at ok hf;obtain rfl:z=w.z:=V.z;obtain rfl:in_=w.in_:=V.in_;have hpgs:(if w.in_=true then many else (G.sure ga).length)=w.pgs.length:=V.pgs;have ok:Hp h DF [boxI so 123 [.iface G.tid (.pointer (some ⟨p,0,none⟩)),.pointer lg,.int .i64 (w.z:Int),.bool w.in_,.int .i64 (many:Int),.map om,.slice sa svl.length sc,.bool false],nowI om ov,capI 2 120 (sa,svl.length,sc) (svl.flatMap RSv.cells),G.it p pF ga] [pbsI E ov,svsI E svl] h:=ok;have hsz0:=ok.chg.size;refine HC.go Tryz.func22 25 ?_;refine .s<|.z .asS<|.z .asI<|.nil<|.seq<|.s<|.z .mvP<|.k 8 .func (susable_any (G:=G) (r:=(⟨p,lg,w.z,w.in_,many,om,ov,sa,sc,svl,pF,ga⟩:RS G.α)) ok.m0)<|.z .asI<|.nil<|.s<|.z .mvI<|.z .neq<|.nil<|.cf<|.skip<|.seq<|.s<|.z .mvI<|.z .lss<|.z .mvB<|.sd (fun G14=>?_) (fun G14=>?_)
 ·
  refine .y<|.y<|.y<|.y<|.z .pkt<|.nil<|.ct<|.s<|.z .asS<|.z .asI<|.nil ?_;have ok:=ok.nilC (k:=1) (e:=5);refine .ret ⟨.tuple #[.slice none 0 0,.int .i64 1],Res.two rfl rfl rfl,⟨_,_,_,by rw [St.read_no (by omega)];rfl,by rw [St.read_no (by omega)];exact Hp.n1 (ds_close (r':=(⟨p,lg,w.z,w.in_,many,om,ov,sa,sc,svl,pF,ga⟩:RS G.α)) (E':=E) (ok.n4.n4.n4.n4.f1.f1) hf (fun j hj=>.inl (he j hj)) V)⟩⟩
 refine .z .mvI<|.z .mvP<|.k 17 .func (spages_any (G:=G) (r:=(⟨p,lg,w.z,w.in_,many,om,ov,sa,sc,svl,pF,ga⟩:RS G.α)) (i:=w.in_) (m:=many) (k:=(G.sure ga).length) ok.m0 ok.m3 rfl rfl rfl)<|.z .gtr<|.z .pkf<|.nil<|.cd (fun C1=>?_) (fun C1=>?_)
 ·
  refine .s<|.z .asS<|.z .asI<|.nil ?_;have ok:=ok.nilC (k:=1) (e:=5);refine .ret ⟨.tuple #[.slice none 0 0,.int .i64 1],Res.two rfl rfl rfl,⟨_,_,_,by rw [St.read_no (by omega)];rfl,by rw [St.read_no (by omega)];exact Hp.n1 (ds_close (r':=(⟨p,lg,w.z,w.in_,many,om,ov,sa,sc,svl,pF,ga⟩:RS G.α)) (E':=E) (ok.n4.n4.n4.n4.f1.f1) hf (fun j hj=>.inl (he j hj)) V)⟩⟩
 obtain ⟨hbl,hb,h1,h2⟩:=V.page (no:=no) (by omega) (by omega);refine .skip<|.s<|.z .mvP<|.z .mvI<|.c' 22 .func (sread_any (G:=G) (r:=(⟨p,lg,w.z,w.in_,many,om,ov,sa,sc,svl,pF,ga⟩:RS G.α)) (E:=E) (no:=no) (b:=(w.pgs.getD (no-1).toNat [])) ((Hp.lc3 (ok.n1.n1.n3)).e1) (by omega) (by omega) hb h1 h2) ?_;rintro _ η1 ⟨Fs1,as1,xs1,cs1,rfl,hss1,q⟩;have ok:=Hp.lf3 (ok.n1.n1.n3) q;refine .z .ex<|.z .ex<|.z .asS<|.z .asI<|.nil<|.ret ⟨.tuple #[.slice xs1 ((w.pgs.getD (no-1).toNat []).length) cs1,.int .i64 0],Res.two rfl rfl rfl,⟨_,_,_,by rw [St.read_ok (by omega) (by omega)];rfl,by rw [St.read_ok (by omega) (by omega)];exact Hp.n1 (ds_close (r':=(⟨p,lg,w.z,w.in_,many,om,ov,sa,sc,svl,Fs1,as1⟩:RS G.α)) (E':=E) (ok.n1.n4.n4.n4.f1.f1) hf (fun j hj=>.inl (he j hj)) (V.pg hss1))⟩⟩
theorem sHead_any {G:Pgr} {h:Heap} {so:Nat} {F:Nat→Prop} {w:St} (ok:Hp h F [dsI G so F w] [] h) :
  HC Tryz.prog 18 #[.pointer (some ⟨so,0,none⟩)] h (fun v h'=>∃F',v=w.head.val∧Hp h F [dsI G so F' w] [] h'):=by
 obtain ⟨r,E,V,ok,hf,he⟩:=ds_open ok;have hzc:=V.zc;have hfew:=V.few;have hnf:=V.nowfew;obtain ⟨p,lg,z,in_,many,om,ov,sa,sc,svl,pF,ga⟩:=r;dsimp only at ok hf;generalize stF G so _=DF at ok hf;obtain rfl:z=w.z:=V.z;obtain rfl:in_=w.in_:=V.in_;have hpgs:(if w.in_=true then many else (G.sure ga).length)=w.pgs.length:=V.pgs;have ok:Hp h DF [boxI so 123 [.iface G.tid (.pointer (some ⟨p,0,none⟩)),.pointer lg,.int .i64 (w.z:Int),.bool w.in_,.int .i64 (many:Int),.map om,.slice sa svl.length sc,.bool false],nowI om ov,capI 2 120 (sa,svl.length,sc) (svl.flatMap RSv.cells),G.it p pF ga] [pbsI E ov,svsI E svl] h:=ok;have hsz0:=ok.chg.size;refine HC.go Tryz.func18 38 ?_;refine .s<|.a' 2 (.alA T.zr38 ok) ?_;rintro _ η1 ⟨pb1,rfl,ok,xe⟩;refine .nil ?_;refine .seq<|.s<|.z .mvP<|.k 8 .func (susable_any (G:=G) (r:=(⟨p,lg,w.z,w.in_,many,om,ov,sa,sc,svl,pF,ga⟩:RS G.α)) ok.m1)<|.z .neq<|.z .mvB<|.z .mvP<|.k 12 .func (spages_any (G:=G) (r:=(⟨p,lg,w.z,w.in_,many,om,ov,sa,sc,svl,pF,ga⟩:RS G.α)) (i:=w.in_) (m:=many) (k:=(G.sure ga).length) ok.m1 ok.m4 rfl rfl rfl)<|.z .eql<|.z .pkf<|.nil<|.cd (fun C0=>?_) (fun C0=>?_)
 ·
  refine .s<|.z (.bd #[.int .i64 0,.int .i64 0,.int .i64 0,.int .i64 0,.int .i64 0,.int .i64 0] T.zr38 T.pl38 rfl)<|.ur' (.stW (vs:=[.int .i64 0,.int .i64 0,.int .i64 0,.int .i64 0,.int .i64 0,.int .i64 0]) T.sz38 ok (oneL rfl)) ?_;rintro η2 ⟨ok,cg⟩;refine .nil ?_;refine .ret ⟨.agg #[.int .i64 0,.int .i64 0,.int .i64 0,.int .i64 0,.int .i64 0,.int .i64 0],Res.many (vs:=[.agg #[.int .i64 0,.int .i64 0,.int .i64 0,.int .i64 0,.int .i64 0,.int .i64 0]]) rfl ⟨⟨_,rfl,load_ag T.ag38 ok.m0 T.sz38⟩,trivial⟩ rfl,⟨_,by rw [St.head_0 (by omega)];rfl,(ds_close (r':=(⟨p,lg,w.z,w.in_,many,om,ov,sa,sc,svl,pF,ga⟩:RS G.α)) (E':=E) (ok.n4.n4.n4.n4.f1.f1.k4) hf (fun j hj=>.inl (he j hj)) V)⟩⟩
 obtain ⟨hbl,hb,h1,h2⟩:=V.page (no:=1) (by omega) (by omega);refine .skip<|.s<|.z .mvP<|.c' 18 .func (sread_any (G:=G) (r:=(⟨p,lg,w.z,w.in_,many,om,ov,sa,sc,svl,pF,ga⟩:RS G.α)) (E:=E) (no:=1) (b:=(w.pgs.getD 0 [])) ((Hp.lc3 (ok.n2.n2.n4)).e1) (by omega) (show (w.pgs.getD 0 []).length≤1000000 from Nat.le_trans (Nat.le_of_eq hbl) (by omega)) hb h1 h2) ?_;rintro _ η3 ⟨Fs1,as1,xs1,cs1,rfl,hss1,q⟩;have ok:=Hp.lf3 (ok.n2.n2.n4) q;refine .z .mvU<|.z .ex<|.z .ex<|.z .asS<|.z .asI<|.nil<|.seq<|.s<|.z .mvI<|.z .neq<|.nil<|.cf<|.skip<|.s<|.z .mvS<|.c' 26 .func (dec_any (a:=xs1) (c:=cs1) (l:=(w.pgs.getD 0 [])) (RdL.ofCapB (v:=(xs1,(w.pgs.getD 0 []).length,cs1)) (l:=(w.pgs.getD 0 [])) ok.m0)) ?_;rintro _ η4 ⟨rfl,hx⟩;rw [show (decN (w.pgs.getD 0 [])).1.val=.agg #[.int .i64 (decN (w.pgs.getD 0 [])).1.size,.int .i64 (decN (w.pgs.getD 0 [])).1.pages,.int .i64 (decN (w.pgs.getD 0 [])).1.free,.int .i64 (decN (w.pgs.getD 0 [])).1.many,.int .i64 (decN (w.pgs.getD 0 [])).1.cookie,.int .i64 (decN (w.pgs.getD 0 [])).1.version] from rfl];have ok:=ok.ext hx;refine .z .mvU<|.z .ex<|.z .ex<|.a' 5 (.alA T.zr38 ok) ?_;rintro _ η5 ⟨pb2,rfl,ok,xe⟩;refine .ur' (.stW (vs:=[.int .i64 ((decN (w.pgs.getD 0 [])).1.size),.int .i64 ((decN (w.pgs.getD 0 [])).1.pages),.int .i64 ((decN (w.pgs.getD 0 [])).1.free),.int .i64 ((decN (w.pgs.getD 0 [])).1.many),.int .i64 ((decN (w.pgs.getD 0 [])).1.cookie),.int .i64 ((decN (w.pgs.getD 0 [])).1.version)]) T.sz38 ok (oneL rfl)) ?_;rintro η6 ⟨ok,cg⟩;refine .z .asI<|.nil<|.seq<|.a 7 (fun fl hh=>cond fl True (Hp h DF [boxI pb2 38 [.int .i64 ((decN (w.pgs.getD 0 [])).1.size),.int .i64 ((decN (w.pgs.getD 0 [])).1.pages),.int .i64 ((decN (w.pgs.getD 0 [])).1.free),.int .i64 ((decN (w.pgs.getD 0 [])).1.many),.int .i64 ((decN (w.pgs.getD 0 [])).1.cookie),.int .i64 ((decN (w.pgs.getD 0 [])).1.version)],capI 1 5 (xs1,(w.pgs.getD 0 []).length,cs1) ((w.pgs.getD 0 []).map bv),G.it p Fs1 as1,boxI so 123 [.iface G.tid (.pointer (some ⟨p,0,none⟩)),.pointer lg,.int .i64 (w.z:Int),.bool w.in_,.int .i64 (many:Int),.map om,.slice sa svl.length sc,.bool false],nowI om ov,boxI pb1 38 [.int .i64 0,.int .i64 0,.int .i64 0,.int .i64 0,.int .i64 0,.int .i64 0],capI 2 120 (sa,svl.length,sc) (svl.flatMap RSv.cells)] [pbsI E ov,svsI E svl] hh)) mixed ?_;have hS:=ok;refine .g 0 false rfl 29 hS (fun _=>.mvP)<|.g 1 false rfl 30 hS (fun _=>.nil)<|.g 2 false rfl 31 hS (fun _=>.fa T.fd123_2)<|.l 3 false rfl 32 hS (fun _ hS=>.ldx T.ag3 hS.m3)<|.g 4 false rfl 33 hS (fun _=>.mvP)<|.g 6 false rfl 35 hS (fun _=>.fa T.fd38_0)<|.o1 5<|.k false rfl 34 .func (spages_any (G:=G) (r:=(⟨p,lg,w.z,w.in_,many,om,ov,sa,sc,svl,Fs1,as1⟩:RS G.α)) (i:=w.in_) (m:=many) (k:=(G.sure as1).length) ok.m3 ok.m2 rfl rfl rfl) hS<|.o1 7<|.ur' true rfl (.stI T.sz3 ok) ?_;rintro η7 ⟨ok,cg⟩;refine ⟨trivial,?_⟩;refine .g 8 true rfl 36 trivial (fun _=>.fa T.fd38_1)<|.o1 9<|.ur' true rfl (.stI T.sz3 ok) ?_;rintro η8 ⟨ok,cg⟩;refine ⟨trivial,?_⟩;refine .e ?_;refine .s<|.z (.ldb T.ag38 ok.m0 T.sz38)<|.ur' (.stW (vs:=[.int .i64 (w.z:Int),.int .i64 (((if w.in_=true then many else (G.sure as1).length):Nat):Int),.int .i64 ((decN (w.pgs.getD 0 [])).1.free),.int .i64 ((decN (w.pgs.getD 0 [])).1.many),.int .i64 ((decN (w.pgs.getD 0 [])).1.cookie),.int .i64 ((decN (w.pgs.getD 0 [])).1.version)]) T.sz38 ok.n5 (oneL rfl)) ?_;rintro η9 ⟨ok,cg⟩;refine .nil ?_;refine .ret ⟨.agg #[.int .i64 (w.z:Int),.int .i64 (((if w.in_=true then many else (G.sure as1).length):Nat):Int),.int .i64 ((decN (w.pgs.getD 0 [])).1.free),.int .i64 ((decN (w.pgs.getD 0 [])).1.many),.int .i64 ((decN (w.pgs.getD 0 [])).1.cookie),.int .i64 ((decN (w.pgs.getD 0 [])).1.version)],Res.many (vs:=[.agg #[.int .i64 (w.z:Int),.int .i64 (((if w.in_=true then many else (G.sure as1).length):Nat):Int),.int .i64 ((decN (w.pgs.getD 0 [])).1.free),.int .i64 ((decN (w.pgs.getD 0 [])).1.many),.int .i64 ((decN (w.pgs.getD 0 [])).1.cookie),.int .i64 ((decN (w.pgs.getD 0 [])).1.version)]]) rfl ⟨⟨_,rfl,load_ag T.ag38 ok.m0 T.sz38⟩,trivial⟩ rfl,⟨_,by rw [St.head_n (by omega),hss1,hpgs];rfl,(ds_close (r':=(⟨p,lg,w.z,w.in_,many,om,ov,sa,sc,svl,Fs1,as1⟩:RS G.α)) (E':=E) (ok.n3.n6.n6.n6.f1.f1.k4) hf (fun j hj=>.inl (he j hj)) (V.pg hss1))⟩⟩
theorem sBegin_any {G:Pgr} {h:Heap} {so:Nat} {F:Nat→Prop} {w:St} (ok:Hp h F [dsI G so F w] [] h) :
  HC Tryz.prog 45 #[.pointer (some ⟨so,0,none⟩)] h (fun v h'=>∃F',v=.int .i64 ((w.begin_).2:Int)∧Hp h F [dsI G so F' (w.begin_).1] [] h'):=by
 obtain ⟨r,E,V,ok,hf,he⟩:=ds_open ok;have hzc:=V.zc;have hfew:=V.few;have hnf:=V.nowfew;obtain ⟨p,lg,z,in_,many,om,ov,sa,sc,svl,pF,ga⟩:=r;dsimp only at ok hf;generalize stF G so _=DF at ok hf;obtain rfl:z=w.z:=V.z;obtain rfl:in_=w.in_:=V.in_;have hpgs:(if w.in_=true then many else (G.sure ga).length)=w.pgs.length:=V.pgs;have ok:Hp h DF [boxI so 123 [.iface G.tid (.pointer (some ⟨p,0,none⟩)),.pointer lg,.int .i64 (w.z:Int),.bool w.in_,.int .i64 (many:Int),.map om,.slice sa svl.length sc,.bool false],nowI om ov,capI 2 120 (sa,svl.length,sc) (svl.flatMap RSv.cells),G.it p pF ga] [pbsI E ov,svsI E svl] h:=ok;have hsz0:=ok.chg.size;refine HC.go Tryz.func45 26 ?_;refine .s<|.z .asI<|.nil<|.seq<|.s<|.z .mvP<|.k 5 .func (susable_any (G:=G) (r:=(⟨p,lg,w.z,w.in_,many,om,ov,sa,sc,svl,pF,ga⟩:RS G.α)) ok.m0)<|.z .asI<|.nil<|.s<|.z .mvI<|.z .neq<|.nil<|.cf<|.skip<|.seq<|.s<|.z .mvP<|.z .nil<|.z (.fa T.fd123_3)<|.z (.ldx T.ag4 ok.m0)<|.nil<|.cond (fun C1=>?_) (fun C1=>?_)
 ·
  refine .s<|.z .asI<|.nil<|.ret ⟨.int .i64 10,Res.one rfl rfl,⟨_,by rw [St.begin_10 C1];rfl,by rw [St.begin_10 C1];exact (ds_close (r':=(⟨p,lg,w.z,w.in_,many,om,ov,sa,sc,svl,pF,ga⟩:RS G.α)) (E':=E) (ok.f1.f1) hf (fun j hj=>.inl (he j hj)) V)⟩⟩
 refine .skip<|.s<|.z .mvP<|.z .mvP<|.z .mvP<|.z .nil<|.z (.fa T.fd123_0)<|.z (.ldx T.ag116 ok.m0)<|.k 19 (.inv (G.mPages _)) (G.cPages (F:=pF) (a:=ga) ok.m3)<|.a' 20 (.mkm (Value.int .i64) ok) ?_;rintro _ η1 ⟨mb1,rfl,ok⟩;refine .z (.bd #[.int .i64 ((G.sure ga).length:Int),.map (some mb1)] T.zr120 T.pl120 rfl)<|.z .nil<|.z (.fa T.fd123_3)<|.ur' (.stB T.sz4 ok.n1) ?_;rintro η2 ⟨ok,cg⟩;refine .z .nil<|.z (.fa T.fd123_4)<|.ur' (.stA (vs:=[.int .i64 ((G.sure ga).length:Int),.map (some mb1)]) T.sz120 ok (oneL rfl)) ?_;rintro η3 ⟨ok,cg⟩;refine .nil ?_;refine .s<|.z .asI<|.nil ?_;have ok:=Hp.pbsNil (ok);refine .ret ⟨.int .i64 0,Res.one rfl rfl,⟨_,by rw [St.begin_0 (by simpa using C1)];rfl,by rw [St.begin_0 (by simpa using C1)];exact (ds_close (r':=(⟨p,lg,w.z,true,(G.sure ga).length,(some mb1),[],sa,sc,svl,pF,ga⟩:RS G.α)) (E':=E) (ok.n4.n4.n3.n3.f1.f1.k4) hf (fun j hj=>.inl (he j hj)) (V.begin (by simpa using C1)))⟩⟩
theorem send_any {G:Pgr} {h:Heap} {so:Nat} {r:RS G.α} (ok:Hp h (sboxI G so r).F [sboxI G so r] [] h) :
  HC Tryz.prog 103 #[.pointer (some ⟨so,0,none⟩)] h (fun v h'=>v=.tuple #[]∧Hp h (sboxI G so r).F [sboxI G so { r with in_:=false,many:=0,om:=none,ov:=[],sa:=none,sc:=0,sv:=[] }] [] h'):=by
 refine HC.go Tryz.func103 12 ?_;refine .r<|.z .mvP<|.z .mvP<|.z .mvP<|.z (.bd #[.int .i64 0,.map none] T.zr120 T.pl120 rfl)<|.z .nil<|.z (.fa T.fd123_3)<|.ur' (.stB T.sz4 ok) ?_;rintro η1 ⟨ok,cg⟩;refine .z .nil<|.z (.fa T.fd123_4)<|.ur' (.stA (vs:=[.int .i64 0,.map none]) T.sz120 ok (oneL rfl)) ?_;rintro η2 ⟨ok,cg⟩;refine .z .nil<|.z (.fa T.fd123_5)<|.ur' (.stS T.sz121 ok) ?_;rintro η3 ⟨ok,cg⟩;refine .nil ?_;refine .end<|⟨.tuple #[],Res.none rfl,⟨rfl,ok⟩⟩
theorem sSetHead_any {G:Pgr} {h:Heap} {so:Nat} {F:Nat→Prop} {w:St} {H:Hd} (ok:Hp h F [dsI G so F w] [] h) (hr:HdIn H) :
  HC Tryz.prog 46 #[.pointer (some ⟨so,0,none⟩),H.val] h (fun v h'=>∃F',v=.int .i64 ((w.setHead H).2:Int)∧Hp h F [dsI G so F' (w.setHead H).1] [] h'):=by
 obtain ⟨r,E,V,ok,hf,he⟩:=ds_open ok;have hzc:=V.zc;have hfew:=V.few;have hnf:=V.nowfew;obtain ⟨p,lg,z,in_,many,om,ov,sa,sc,svl,pF,ga⟩:=r;dsimp only at ok hf;generalize stF G so _=DF at ok hf;obtain rfl:z=w.z:=V.z;obtain rfl:in_=w.in_:=V.in_;have hpgs:(if w.in_=true then many else (G.sure ga).length)=w.pgs.length:=V.pgs;have ok:Hp h DF [boxI so 123 [.iface G.tid (.pointer (some ⟨p,0,none⟩)),.pointer lg,.int .i64 (w.z:Int),.bool w.in_,.int .i64 (many:Int),.map om,.slice sa svl.length sc,.bool false],nowI om ov,capI 2 120 (sa,svl.length,sc) (svl.flatMap RSv.cells),G.it p pF ga] [pbsI E ov,svsI E svl] h:=ok;have hsz0:=ok.chg.size;refine HC.go Tryz.func46 59 ?_;refine .s<|.a' 3 (.bxA (cs:=[.int .i64 H.size,.int .i64 H.pages,.int .i64 H.free,.int .i64 H.many,.int .i64 H.cookie,.int .i64 H.version]) ok) ?_;rintro _ η1 ⟨pb1,rfl,ok,xe⟩;refine .z .asI<|.nil<|.seq<|.s<|.z .mvP<|.k 9 .func (swithin_any (G:=G) (r:=(⟨p,lg,w.z,w.in_,many,om,ov,sa,sc,svl,pF,ga⟩:RS G.α)) (i:=w.in_) ok.m1 rfl)<|.z .asI<|.nil<|.s<|.z .mvI<|.z .neq<|.nil<|.cd (fun C0=>?_) (fun C0=>?_)
 ·
  have hw:w.in_=false:=wthE_y C0;refine .s<|.z .mvI<|.z .asI<|.nil<|.ret ⟨.int .i64 ((wthE w.in_):Int),Res.one rfl rfl,⟨_,by rw [St.setHead_10 hw,wthE_f (by rw [hw];decide)],by rw [St.setHead_10 hw];exact (ds_close (r':=(⟨p,lg,w.z,w.in_,many,om,ov,sa,sc,svl,pF,ga⟩:RS G.α)) (E':=E) (ok.n4.n4.n4.n4.f1.f1.k4) hf (fun j hj=>.inl (he j hj)) V)⟩⟩
 have hw:w.in_=true:=wthE_n C0;have hmany:many=w.now.length:=V.many hw;refine .skip<|.s<|.z (.ldb T.ag38 ok.m0 T.sz38)<|.c' 15 .func (encN_any (H:=H) hr) ?_;rintro _ η2 (⟨hck,rfl,hx⟩ | ⟨hck,yw,rfl,own⟩)
 ·
  have ok:=ok.ext hx;refine .z .mvU<|.z .ex<|.z .ex<|.z .asS<|.z .asI<|.nil<|.seq<|.seq<|.q (hm:=mixed)<|.z .mvI<|.z .neq<|.z .mvB<|.y<|.y<|.y<|.y<|.y<|.y<|.y<|.z .pkt<|.z .mvB<|.y<|.y<|.y<|.y<|.y<|.y<|.y<|.y<|.y<|.z .pkt<|.nil<|.ct<|.s<|.z .asI<|.nil<|.ret ⟨.int .i64 1,Res.one rfl rfl,⟨_,by rw [St.setHead_1 hw (by first | exact .inl hck | exact .inr (.inl (by omega)) | exact .inr (.inr (by omega)))];rfl,by rw [St.setHead_1 hw (by first | exact .inl hck | exact .inr (.inl (by omega)) | exact .inr (.inr (by omega)))];exact (ds_close (r':=(⟨p,lg,w.z,w.in_,many,om,ov,sa,sc,svl,pF,ga⟩:RS G.α)) (E':=E) (ok.n4.n4.n4.n4.f1.f1.k4) hf (fun j hj=>.inl (he j hj)) V)⟩⟩
 obtain ⟨ya1,yc1,rfl⟩:=own.formB;have ok:=ok.own own;refine .z .mvU<|.z .ex<|.z .ex<|.z .asS<|.z .asI<|.nil<|.seq<|.seq<|.q (hm:=mixed)<|.z .mvI<|.z .neq<|.z .mvB<|.z (.fa T.fd38_0)<|.z (.ldx T.ag3 ok.m1)<|.z .mvP<|.z .nil<|.z (.fa T.fd123_2)<|.z (.ldx T.ag3 ok.m2)<|.z .neq<|.z .pkf<|.z .mvB<|.sd (fun G29=>?_) (fun G29=>?_)
 ·
  refine .y<|.y<|.y<|.y<|.y<|.y<|.y<|.y<|.y<|.z .pkt<|.nil<|.ct<|.s<|.z .asI<|.nil<|.ret ⟨.int .i64 1,Res.one rfl rfl,⟨_,by rw [St.setHead_1 hw (by first | exact .inl hck | exact .inr (.inl (by omega)) | exact .inr (.inr (by omega)))];rfl,by rw [St.setHead_1 hw (by first | exact .inl hck | exact .inr (.inl (by omega)) | exact .inr (.inr (by omega)))];exact (ds_close (r':=(⟨p,lg,w.z,w.in_,many,om,ov,sa,sc,svl,pF,ga⟩:RS G.α)) (E':=E) (ok.n5.n5.n5.n5.f1.f1.k4) hf (fun j hj=>.inl (he j hj)) V)⟩⟩
 refine .z (.fa T.fd38_1)<|.z (.ldx T.ag3 ok.m1)<|.z .mvP<|.z .nil<|.z (.fa T.fd123_4)<|.z (.fa T.fd120_0)<|.z (.ldx T.ag3 ok.m2)<|.z .max2<|.z .gtr<|.z .pkf<|.nil<|.cd (fun C1=>?_) (fun C1=>?_)
 ·
  refine .s<|.z .asI<|.nil<|.ret ⟨.int .i64 1,Res.one rfl rfl,⟨_,by rw [St.setHead_1 hw (by first | exact .inl hck | exact .inr (.inl (by omega)) | exact .inr (.inr (by omega)))];rfl,by rw [St.setHead_1 hw (by first | exact .inl hck | exact .inr (.inl (by omega)) | exact .inr (.inr (by omega)))];exact (ds_close (r':=(⟨p,lg,w.z,w.in_,many,om,ov,sa,sc,svl,pF,ga⟩:RS G.α)) (E':=E) (ok.n5.n5.n5.n5.f1.f1.k4) hf (fun j hj=>.inl (he j hj)) V)⟩⟩
 obtain ⟨n,hn⟩:∃n:Nat,H.pages=(n:Int):=⟨H.pages.toNat,by have:=hck.2.1.1;omega⟩;rw [hn] at ok⊢;obtain ⟨mb,rfl⟩:=(V.now hw).1;have ok:=Hp.nowSome (ok.n3);refine .skip<|.seq<|.a 13 (fun fl hh=>cell hh so 2=some (.int .i64 (w.z:Int))) mixed ?_;have hS:=(at_box (o:=2) ok.m3 rfl:cell _ so 2=some (.int .i64 (w.z:Int)));refine .g 0 false rfl 40 hS (fun _=>.mvP)<|.g 1 false rfl 41 hS (fun _=>.nil)<|.g 2 false rfl 42 hS (fun _=>.fa T.fd123_4)<|.g 3 false rfl 43 hS (fun _=>.mvS)<|.g 4 false rfl 44 hS (fun _=>.mvP)<|.g 5 false rfl 45 hS (fun _=>.nil)<|.g 6 false rfl 46 hS (fun _=>.fa T.fd123_2)<|.lw 7 false rfl 47 hS (fun _ _ hS=>.ld T.ag3 hS)<|.g 8 false rfl 48 hS (fun _=>.mvS)<|.g 9 false rfl 49 hS (fun _=>.len T.el44)<|.g 10 false rfl 50 hS (fun _=>.sub (hr:=(by rw [enc_len];omega)))<|.o1 11<|.a' false rfl 51 (.apz (z:=((w.z:Int)-(((H.enc).length:Nat):Int))) (w.z-64) T.el44 T.in3 T.sz5 T.by5 T.zr5 ok.n1 (by rw [enc_len];omega) (by rw [enc_len];omega)) ?_;rintro _ η3 ⟨ya2,yc2,rfl,ok⟩;refine ⟨(at_box (o:=2) ok.m3 rfl:cell _ so 2=some (.int .i64 (w.z:Int))),?_⟩;have hS:=(at_box (o:=2) ok.m3 rfl:cell _ so 2=some (.int .i64 (w.z:Int)));refine .o1 12<|.c' false rfl 52 .func (sput_any (G:=G) (r:=(⟨p,lg,w.z,w.in_,many,(some mb),ov,sa,sc,svl,pF,ga⟩:RS G.α)) (mb:=mb) (a:=ya2) (c:=yc2) (l:=((H.enc)++List.replicate (w.z-64) 0)) (no:=1) (Hp.lc2 (ok.n1.n3)).e0 (by rfl)) ?_;rintro _ η4 ⟨rfl,q⟩;have ok:=Hp.lf2 (ok.n1.n3) q;have hnb:=Hp.putNew (ok.n2) hf;have ok:=Hp.pbsPut (k:=(1:Int)) (ok.n2);have ok:=ok.d0 (svsI (fun j=>E j∨blkC (sv (ya2,((H.enc)++List.replicate (w.z-64) 0).length,yc2)) j) svl) (Svs.mono (E:=E) (E':=(fun j=>E j∨blkC (sv (ya2,((H.enc)++List.replicate (w.z-64) 0).length,yc2)) j)) (fun j h=>Or.inl h) ok.r1) (fun _ h=>h);refine ⟨(at_box (o:=2) ok.m0 rfl:cell _ so 2=some (.int .i64 (w.z:Int))),?_⟩;have hS:=(at_box (o:=2) ok.m0 rfl:cell _ so 2=some (.int .i64 (w.z:Int)));refine .e ?_;refine .seq<|.t 5 mixed ?_;simp only [List.take_succ_cons,List.take_zero,List.drop_succ_cons,List.drop_zero];refine .z .mvP<|.z .nil<|.z (.fa T.fd123_4)<|.z (.fa T.fd38_1)<|.z (.ldx T.ag3 ok.m2)<|.nil ?_;refine .c' 58 .func (scut_any (G:=G) (r:=(⟨p,lg,w.z,w.in_,(max many 1),(some mb),(mput ov (1:Int) ⟨ya2,yc2,((H.enc)++List.replicate (w.z-64) 0)⟩),sa,sc,svl,pF,ga⟩:RS G.α)) (mb:=mb) (n:=n) (Hp.lc2 (ok)).e0 (by rfl)) ?_;rintro _ η5 ⟨rfl,q⟩;have ok:=Hp.lf2 (ok) q;have ok:=ok.d1 (pbsI (fun j=>E j∨blkC (sv (ya2,((H.enc)++List.replicate (w.z-64) 0).length,yc2)) j) (((mput ov (1:Int) ⟨ya2,yc2,((H.enc)++List.replicate (w.z-64) 0)⟩)).filter fun p=>decide (p.1≤(n:Int)))) (Pbs.filt ok.r1) (fun _ h=>h);refine .nil ?_;refine .s<|.z .asI<|.nil ?_;have hno:¬(¬ChkP H∨H.size≠(w.z:Int)∨max 1 (w.now.length:Int)<H.pages):=by rintro (h | h | h);exact h hck;exact h (by omega);omega
 refine .ret ⟨.int .i64 0,Res.one rfl rfl,⟨_,by rw [St.setHead_0 hw hno hn];rfl,by rw [St.setHead_0 hw hno hn];exact (ds_close (r':=(⟨p,lg,w.z,w.in_,n,(some mb),(((mput ov (1:Int) ⟨ya2,yc2,((H.enc)++List.replicate (w.z-64) 0)⟩)).filter fun p=>decide (p.1≤(n:Int))),sa,sc,svl,pF,ga⟩:RS G.α)) (E':=(fun j=>E j∨blkC (sv (ya2,((H.enc)++List.replicate (w.z-64) 0).length,yc2)) j)) (ok.n4.n4.n3.n3.f1.f1.k4) hf (fun j hj=>hj.elim (fun hj=>.inl (he j hj)) (hnb j)) (V.setHead hw (x:=⟨ya2,yc2,((H.enc)++List.replicate (w.z-64) 0)⟩) hck (by omega) hn (by omega) rfl))⟩⟩
theorem sWrite_any {G:Pgr} {h:Heap} {so:Nat} {F:Nat→Prop} {w:St} {no:Int} {a:Option Addr} {c:Nat} {l:List UInt8} {F2 E2:Nat→Prop} (ok:Hp h F [dsI G so F w] [rdI F2 E2 (a,l.length,c) l] h) (hl:l.length≤1000000000) :
  HC Tryz.prog 29 #[.pointer (some ⟨so,0,none⟩),.int .i64 no,.slice a l.length c] h (fun v h'=>∃F',v=.int .i64 ((w.write no l).2:Int)∧Hp h F [dsI G so F' (w.write no l).1] [] h'):=by
 obtain ⟨r,E,V,ok,hf,he⟩:=ds_open ok;have hzc:=V.zc;have hfew:=V.few;have hnf:=V.nowfew;obtain ⟨p,lg,z,in_,many,om,ov,sa,sc,svl,pF,ga⟩:=r;dsimp only at ok hf;generalize stF G so _=DF at ok hf;obtain rfl:z=w.z:=V.z;obtain rfl:in_=w.in_:=V.in_;have hpgs:(if w.in_=true then many else (G.sure ga).length)=w.pgs.length:=V.pgs;have ok:Hp h DF [boxI so 123 [.iface G.tid (.pointer (some ⟨p,0,none⟩)),.pointer lg,.int .i64 (w.z:Int),.bool w.in_,.int .i64 (many:Int),.map om,.slice sa svl.length sc,.bool false],nowI om ov,capI 2 120 (sa,svl.length,sc) (svl.flatMap RSv.cells),G.it p pF ga] [pbsI E ov,svsI E svl,rdI F2 E2 (a,l.length,c) l] h:=ok;have hsz0:=ok.chg.size;have hlc:=ok.r2.c;have hlm:=ok.r2.m;simp only at hlc hlm;refine HC.go Tryz.func29 62 ?_;refine .s<|.z .asI<|.nil<|.seq<|.s<|.z .mvP<|.k 9 .func (swithin_any (G:=G) (r:=(⟨p,lg,w.z,w.in_,many,om,ov,sa,sc,svl,pF,ga⟩:RS G.α)) (i:=w.in_) ok.m0 rfl)<|.z .asI<|.nil<|.s<|.z .mvI<|.z .neq<|.nil<|.cd (fun C0=>?_) (fun C0=>?_)
 ·
  have hw:w.in_=false:=wthE_y C0;refine .s<|.z .mvI<|.z .asI<|.nil<|.ret ⟨.int .i64 ((wthE w.in_):Int),Res.one rfl rfl,⟨_,by rw [St.write_10 hw,wthE_f (by rw [hw];decide)],by rw [St.write_10 hw];exact (ds_close (r':=(⟨p,lg,w.z,w.in_,many,om,ov,sa,sc,svl,pF,ga⟩:RS G.α)) (E':=E) (ok.f1.f1) hf (fun j hj=>.inl (he j hj)) V)⟩⟩
 have hw:w.in_=true:=wthE_n C0;have hmany:many=w.now.length:=V.many hw;refine .skip<|.seq<|.block fun K0 hK0=>.s<|.z .mvI<|.z .lss<|.z .mvB<|.sd (fun G16=>?_) (fun G16=>?_)
 ·
  refine .y<|.y<|.y<|.y<|.y<|.y<|.z .pkt<|.z .mvB<|.y<|.y<|.y<|.y<|.y<|.y<|.y<|.y<|.z .pkt<|.z .mvB<|.y<|.y<|.y<|.y<|.y<|.y<|.y<|.z .pkt<|.z .asB<|.nil<|.ct<|.s<|.z .asI<|.nil ?_;have hbad:no<2∨(w.now.length:Int)+1<no∨w.now=[]∨l.length≠w.z:=by
   first
   | exact .inl (by omega)
   | exact .inr (.inl (by omega))
   | exact .inr (.inr (.inl (List.eq_nil_of_length_eq_zero (by omega))))
   | exact .inr (.inr (.inr (by omega)))
  refine .ret ⟨.int .i64 1,Res.one rfl rfl,⟨_,by rw [St.write_1 hw hbad];rfl,by rw [St.write_1 hw hbad];exact (ds_close (r':=(⟨p,lg,w.z,w.in_,many,om,ov,sa,sc,svl,pF,ga⟩:RS G.α)) (E':=E) (ok.f1.f1) hf (fun j hj=>.inl (he j hj)) V)⟩⟩
 refine .z .mvP<|.z .nil<|.z (.fa T.fd123_4)<|.z (.fa T.fd120_0)<|.z (.ldx T.ag3 ok.m0)<|.z .lss<|.z .pkf<|.z .mvB<|.sd (fun G24=>?_) (fun G24=>?_)
 ·
  refine .y<|.y<|.y<|.y<|.y<|.y<|.y<|.y<|.z .pkt<|.z .mvB<|.y<|.y<|.y<|.y<|.y<|.y<|.y<|.z .pkt<|.z .asB<|.nil<|.ct<|.s<|.z .asI<|.nil ?_;have hbad:no<2∨(w.now.length:Int)+1<no∨w.now=[]∨l.length≠w.z:=by
   first
   | exact .inl (by omega)
   | exact .inr (.inl (by omega))
   | exact .inr (.inr (.inl (List.eq_nil_of_length_eq_zero (by omega))))
   | exact .inr (.inr (.inr (by omega)))
  refine .ret ⟨.int .i64 1,Res.one rfl rfl,⟨_,by rw [St.write_1 hw hbad];rfl,by rw [St.write_1 hw hbad];exact (ds_close (r':=(⟨p,lg,w.z,w.in_,many,om,ov,sa,sc,svl,pF,ga⟩:RS G.α)) (E':=E) (ok.f1.f1) hf (fun j hj=>.inl (he j hj)) V)⟩⟩
 refine .z .mvI<|.z .mvP<|.z .nil<|.z (.fa T.fd123_4)<|.z (.fa T.fd120_0)<|.z (.ldx T.ag3 ok.m0)<|.z (.addI (b:=1))<|.z .gtr<|.z .pkf<|.z .mvB<|.sd (fun G34=>?_) (fun G34=>?_)
 ·
  refine .y<|.y<|.y<|.y<|.y<|.y<|.y<|.z .pkt<|.z .asB<|.nil<|.ct<|.s<|.z .asI<|.nil ?_;have hbad:no<2∨(w.now.length:Int)+1<no∨w.now=[]∨l.length≠w.z:=by
   first
   | exact .inl (by omega)
   | exact .inr (.inl (by omega))
   | exact .inr (.inr (.inl (List.eq_nil_of_length_eq_zero (by omega))))
   | exact .inr (.inr (.inr (by omega)))
  refine .ret ⟨.int .i64 1,Res.one rfl rfl,⟨_,by rw [St.write_1 hw hbad];rfl,by rw [St.write_1 hw hbad];exact (ds_close (r':=(⟨p,lg,w.z,w.in_,many,om,ov,sa,sc,svl,pF,ga⟩:RS G.α)) (E':=E) (ok.f1.f1) hf (fun j hj=>.inl (he j hj)) V)⟩⟩
 refine .z .mvS<|.z (.len T.el44)<|.z .mvP<|.z .nil<|.z (.fa T.fd123_2)<|.z (.ldx T.ag3 ok.m0)<|.z .neq<|.z .pkf<|.z .asB<|.nil<|.cd (fun C1=>?_) (fun C1=>?_)
 ·
  refine .s<|.z .asI<|.nil ?_;have hbad:no<2∨(w.now.length:Int)+1<no∨w.now=[]∨l.length≠w.z:=by
   first
   | exact .inl (by omega)
   | exact .inr (.inl (by omega))
   | exact .inr (.inr (.inl (List.eq_nil_of_length_eq_zero (by omega))))
   | exact .inr (.inr (.inr (by omega)))
  refine .ret ⟨.int .i64 1,Res.one rfl rfl,⟨_,by rw [St.write_1 hw hbad];rfl,by rw [St.write_1 hw hbad];exact (ds_close (r':=(⟨p,lg,w.z,w.in_,many,om,ov,sa,sc,svl,pF,ga⟩:RS G.α)) (E':=E) (ok.f1.f1) hf (fun j hj=>.inl (he j hj)) V)⟩⟩
 have hgood:¬(no<2∨(w.now.length:Int)+1<no∨w.now=[]∨l.length≠w.z):=by
  rintro (h | h | h | h)
  ·omega
  ·omega
  ·rw [h] at hmany;simp at hmany;omega
  ·omega
 obtain ⟨k,rfl⟩:∃k:Nat,no=(k:Int):=⟨no.toNat,by omega⟩;refine .s<|.z .mvI<|.z .gtr<|.z .mvB<|.sd (fun G46=>?_) (fun G46=>?_)
 ·
  refine .y<|.y<|.y<|.y<|.y<|.y<|.y<|.z .pkt<|.z .asB<|.nil<|.ct<|.s<|.z .asI<|.nil<|.ret ⟨.int .i64 5,Res.one rfl rfl,⟨_,by rw [St.write_5 hw hgood (by first | exact .inl (by omega) | exact .inr (by omega))];rfl,by rw [St.write_5 hw hgood (by first | exact .inl (by omega) | exact .inr (by omega))];exact (ds_close (r':=(⟨p,lg,w.z,w.in_,many,om,ov,sa,sc,svl,pF,ga⟩:RS G.α)) (E':=E) (ok.f1.f1) hf (fun j hj=>.inl (he j hj)) V)⟩⟩
 have hmz:=pg_mul (x:=(k:Int)) (s:=w.z) (by omega) (by omega) (by omega);refine .z .mvI<|.z .mvP<|.z .nil<|.z (.fa T.fd123_2)<|.z (.ldx T.ag3 ok.m0)<|.z .mulI<|.z .gtr<|.z .pkf<|.z .asB<|.nil<|.cd (fun C2=>?_) (fun C2=>?_)
 ·
  refine .s<|.z .asI<|.nil<|.ret ⟨.int .i64 5,Res.one rfl rfl,⟨_,by rw [St.write_5 hw hgood (by first | exact .inl (by omega) | exact .inr (by omega))];rfl,by rw [St.write_5 hw hgood (by first | exact .inl (by omega) | exact .inr (by omega))];exact (ds_close (r':=(⟨p,lg,w.z,w.in_,many,om,ov,sa,sc,svl,pF,ga⟩:RS G.α)) (E':=E) (ok.f1.f1) hf (fun j hj=>.inl (he j hj)) V)⟩⟩
 have hgd:¬(1048576<(k:Int)∨16777216<(k:Int)*(w.z:Int)):=by rintro (h | h)<;>omega
 obtain ⟨mb,rfl⟩:=(V.now hw).1;have ok:=Hp.nowSome (ok.n1);refine .skip<|.end<|hK0 _ _<|.seq<|.a 5 (fun fl hh=>cond fl True (Hp h DF [] [] hh)) mixed ?_;have hS:=ok.k0.tR.tR.tR;refine .g 0 false rfl 55 hS (fun _=>.mvP)<|.g 1 false rfl 56 hS (fun _=>.nil)<|.g 2 false rfl 57 hS (fun _=>.fa T.fd123_4)<|.g 3 false rfl 58 hS (fun _=>.mvI)<|.g 4 false rfl 59 hS (fun _=>.mvS)<|.o1 5<|.c' true rfl 60 .func (bclone_any (a:=a) (c:=c) (l:=l) ok.r2 (by omega)) ?_;rintro _ η1 own;obtain ⟨ya1,yc1,rfl⟩:=own.formB;have ok:=ok.own own;refine ⟨trivial,?_⟩;refine .o1 6<|.c' true rfl 61 .func (sput_any (G:=G) (r:=(⟨p,lg,w.z,w.in_,many,(some mb),ov,sa,sc,svl,pF,ga⟩:RS G.α)) (mb:=mb) (a:=ya1) (c:=yc1) (l:=l) (no:=k) (Hp.lc2 (ok.n1.n2)).e0 (by rfl)) ?_;rintro _ η2 ⟨rfl,q⟩;have ok:=Hp.lf2 (ok.n1.n2) q;have hnb:=Hp.putNew (ok.n2) hf;have ok:=Hp.pbsPut (k:=(k:Int)) (ok.n2);have ok:=ok.d0 (svsI (fun j=>E j∨blkC (sv (ya1,(l).length,yc1)) j) svl) (Svs.mono (E:=E) (E':=(fun j=>E j∨blkC (sv (ya1,(l).length,yc1)) j)) (fun j h=>Or.inl h) ok.r1) (fun _ h=>h);refine ⟨trivial,?_⟩;refine .e ?_;refine .s<|.z .asI<|.nil ?_;have hkz:k*w.z≤16777216:=by have h2:((k*w.z:Nat):Int)=(k:Int)*(w.z:Int):=Int.natCast_mul _ _;omega
 refine .ret ⟨.int .i64 0,Res.one rfl rfl,⟨_,by rw [St.write_0 hw hgood hgd];rfl,by rw [St.write_0 hw hgood hgd];exact (ds_close (r':=(⟨p,lg,w.z,w.in_,(max many k),(some mb),(mput ov (k:Int) ⟨ya1,yc1,l⟩),sa,sc,svl,pF,ga⟩:RS G.α)) (E':=(fun j=>E j∨blkC (sv (ya1,(l).length,yc1)) j)) (ok.f1) hf (fun j hj=>hj.elim (fun hj=>.inl (he j hj)) (hnb j)) (V.write hw (no:=k) (x:=⟨ya1,yc1,l⟩) (by omega) (by omega) (fun h=>hgood (.inr (.inr (.inl h)))) (Classical.byContradiction fun h=>hgood (.inr (.inr (.inr h)))) hkz))⟩⟩
end Go.Proofs.YtndlpekckpdncaaGreat
namespace Go.HL
open Go
theorem Hp.locW {h0 h:Heap} {D:Nat→Prop} {M R:List Itm} {x:Itm} {e:TypeId} {a:Option Addr} {c:Nat} {l:List UInt8} (ok:Hp h0 D (x::capI 1 e (a,l.length,c) (l.map bv)::M) R h):Hp h x.F [x] [rdI (blkC (sv (a,l.length,c))) none_ (a,l.length,c) l] h:=
 (ok.k2.n1.frzB (l:=l) rfl).loc1
end Go.HL
namespace Go.Proofs.YtndlpekckpdncaaGreat
open Go Go.HL
theorem St.pgk {w:St} (k:StOk w):PgsK w.z w.pgs:=by
 unfold St.pgs;split
 ·exact k.now
 ·exact k.sure
theorem St.page_len {w:St} (k:StOk w) {no:Int} (h1:1≤no) (h2:no≤(w.pgs.length:Int)):(w.pgs.getD (no-1).toNat []).length=w.z:=by
 have hi:(no-1).toNat<w.pgs.length:=by omega
 rw [List.getD_eq_getElem?_getD,List.getElem?_eq_getElem hi];exact (St.pgk k).len _ (List.getElem_mem hi)
theorem St.few {w:St} (k:StOk w):w.pgs.length≤65536:=by
 have h1:=(St.pgk k).many;have h2:=okSz_c k.z;have h3:w.pgs.length*256≤w.pgs.length*w.z:=Nat.mul_le_mul_left _ (by omega);omega
theorem sReadOk_any {G:Pgr} {h:Heap} {so:Nat} {F:Nat→Prop} {w:St} {no:Int} {b:List UInt8} (ok:Hp h F [dsI G so F w] [] h) (h1:1≤no) (h2:no≤(w.pgs.length:Int)) (hb:b=w.pgs.getD (no-1).toNat []:=by exact rfl) :
  HC Tryz.prog 22 #[.pointer (some ⟨so,0,none⟩),.int .i64 no] h (fun v h'=>∃F' x c,v=.tuple #[.slice x b.length c,.int .i64 0]∧b.length=w.z∧Hp h F [capI 1 5 (x,b.length,c) (b.map bv),dsI G so F' w] [] h'):=by
 have k:=ds_ok ok.m0;subst hb;refine (sRead_any ok).mono fun v h' ⟨F',x,c,hv,q⟩=>?_;rw [St.read_ok h1 h2] at hv q;exact ⟨F',x,c,hv,St.page_len k h1 h2,q⟩
theorem sWriteC_any {G:Pgr} {h0 h:Heap} {D:Nat→Prop} {M R:List Itm} {so:Nat} {F:Nat→Prop} {w:St} {no:Int} {a:Option Addr} {n c:Nat} {l:List UInt8} (ok:Hp h0 D (dsI G so F w::capI 1 5 (a,n,c) (l.map bv)::M) R h) (hl:l.length≤1000000000) :
  HC Tryz.prog 29 #[.pointer (some ⟨so,0,none⟩),.int .i64 no,.slice a n c] h (fun v h'=>∃F',v=.int .i64 ((w.write no l).2:Int)∧Hp h F [dsI G so F' (w.write no l).1] [] h'):=by
 obtain rfl:n=l.length:=ok.n1.lenB;exact sWrite_any ok.locW hl
theorem dec_chk (l:List UInt8):(decN l).1=hd0∨ChkP (decN l).1:=by
 unfold decN;split
 ·exact .inl rfl
 split
 ·exact .inl rfl
 split
 ·rename_i h;exact .inr h.1
 ·exact .inl rfl
structure HdR (H:Hd):Prop where
 size:0≤H.size∧H.size≤4096
 pages:0≤H.pages∧H.pages≤65536
 free:0≤H.free∧H.free≤1048576
 many:0≤H.many∧H.many≤1048576
 cookie:0≤H.cookie∧H.cookie≤2147483647
 version:0≤H.version∧H.version≤2147483647
theorem St.head_r {w:St} (k:StOk w):HdR w.head:=by
 have hz:=okSz_c k.z;have hf:=St.few k;by_cases h:w.pgs.length=0
 ·rw [St.head_0 h];exact ⟨by decide,by decide,by decide,by decide,by decide,by decide⟩
 ·rw [St.head_n h];rcases dec_chk (w.pgs.getD 0 []) with e | c
  ·rw [e];exact ⟨⟨by simp only;omega,by simp only;omega⟩,⟨by simp only;omega,by simp only;omega⟩,show (0:Int)≤0∧(0:Int)≤1048576 by decide,show (0:Int)≤0∧(0:Int)≤1048576 by decide,show (0:Int)≤0∧(0:Int)≤2147483647 by decide,show (0:Int)≤0∧(0:Int)≤2147483647 by decide⟩
  ·have h2:=c.2.2.1;have hf:0≤(decN (w.pgs.getD 0 [])).1.free∧(decN (w.pgs.getD 0 [])).1.free≤1048576:=by
    have h1:=c.2.1;by_cases h:(decN (w.pgs.getD 0 [])).1.many=0
    ·have:=h2.2.2.1 h;omega
    ·have:=h2.2.2.2 (by omega);omega
   exact ⟨⟨by simp only;omega,by simp only;omega⟩,⟨by simp only;omega,by simp only;omega⟩,hf,⟨h2.1,by have:=h2.2.1;have:=c.2.1;show (decN (w.pgs.getD 0 [])).1.many≤_;omega⟩,c.2.2.2.1,c.2.2.2.2⟩
theorem dec_many {w:St} (h:w.head.many=0):w.head.free=0:=by
 by_cases h0:w.pgs.length=0
 ·rw [St.head_0 h0];rfl
 ·rw [St.head_n h0] at h⊢;rcases dec_chk (w.pgs.getD 0 []) with e | c
  ·rw [e];rfl
  ·exact c.2.2.1.2.2.1 h
theorem St.head_pages {w:St} : w.head.pages=(w.pgs.length:Int):=by
 by_cases h:w.pgs.length=0
 ·rw [St.head_0 h,h];rfl
 ·rw [St.head_n h]
def frOk (N:Nat) (out:List Int) (no:Int):Bool:=decide (2≤no∧no≤(N:Int)∧no∉out)
def frIn (N:Nat):List Int→List Int→Option (List Int)
 | [],out=>some out
 | no::l,out=>if frOk N out no=true then frIn N l (out++[no]) else none
def frNums (b:List UInt8):List Int:=(List.range (rdN b 4 4)).map fun i=>((rdN b (8+4*i) 4:Nat):Int)
def frGo (P:List (List UInt8)) (rm:Nat):Nat→Int→List Int→Option (List Int)
 | 0,_,_=>none
 | f+1,at_,out=>if at_=0 then some out else if frOk P.length out at_=false then none else
  if rm<rdN (P.getD (at_-1).toNat []) 4 4 then none else
  (frIn P.length (frNums (P.getD (at_-1).toNat [])) (out++[at_])).bind (frGo P rm f ((rdN (P.getD (at_-1).toNat []) 0 4:Nat):Int))
def frAll (w:St):Option (List Int):=(frGo w.pgs ((w.z-8) / 4) (w.pgs.length+1) w.head.free []).bind fun l=>if (l.length:Int)=w.head.many then some l else none
def frL (w:St):List Int:=(frAll w).getD []
def frC (w:St):Nat:=if (frAll w).isSome=true then 0 else 14
def frOp (w:St):List Int × Nat:=if w.in_=false then ([],10) else if w.pgs.length=0 then ([],4) else (frL w,frC w)
def put4 (l:List UInt8) (p n:Nat):List UInt8:=l.take p++fixedN n 4++l.drop (p+4)
def hdd (w:St) (free many:Int):St × Nat:=w.setHead { w.head with free:=free,many:=many }
def zer (z:Nat):List UInt8:=List.replicate z 0
def frGrow (w:St):St × Int × Nat:=
 if 16777216 / (w.z:Int)<(w.pgs.length:Int)+1 then (w,0,5) else
 if (w.write ((w.pgs.length:Int)+1) (zer w.z)).2≠0 then ((w.write ((w.pgs.length:Int)+1) (zer w.z)).1,0,(w.write ((w.pgs.length:Int)+1) (zer w.z)).2) else
 ((hdd (w.write ((w.pgs.length:Int)+1) (zer w.z)).1 0 0).1,(w.pgs.length:Int)+1,(hdd (w.write ((w.pgs.length:Int)+1) (zer w.z)).1 0 0).2)
def tkA (w:St):List UInt8:=w.pgs.getD (w.head.free-1).toNat []
def tkN (w:St):Nat:=rdN (tkA w) 4 4
def tkNo (w:St):Int:=if 0<tkN w then ((rdN (tkA w) (8+4*(tkN w-1)) 4:Nat):Int) else w.head.free
def tkFr (w:St):Int:=if 0<tkN w then w.head.free else ((rdN (tkA w) 0 4:Nat):Int)
def tkW (w:St):St × Nat:=if 0<tkN w then w.write w.head.free (put4 (put4 (tkA w) (8+4*(tkN w-1)) 0) 4 (tkN w-1)) else (w,0)
def toldF (x:St × Int × Nat):St × Int × Nat:=(x.1,if x.2.2=0 then x.2.1 else 0,x.2.2)
def tkZ (w:St):St × Nat:=(tkW w).1.write (tkNo w) (zer w.z)
def tkH (w:St):St × Nat:=hdd (tkZ w).1 (tkFr w) (w.head.many-1)
def takeF (w:St):St × Int × Nat:=if (frOp w).2≠0 then (w,0,(frOp w).2) else if (frOp w).1=[] then toldF (frGrow w) else
 if (tkW w).2≠0 then ((tkW w).1,0,(tkW w).2) else if (tkZ w).2≠0 then ((tkZ w).1,0,(tkZ w).2) else toldF ((tkH w).1,tkNo w,(tkH w).2)
def gvA (w:St) (no:Int):St × Nat:=w.write w.head.free (put4 (put4 (tkA w) (8+4*tkN w) no.toNat) 4 (tkN w+1))
def gvB (w:St) (no:Int):St × Nat:=w.write no (put4 (zer w.z) 0 w.head.free.toNat)
def thenH (x:St × Nat) (free many:Int):St × Nat:=if x.2≠0 then x else hdd x.1 free many
def giveF (w:St) (no:Int):St × Nat:=if w.in_=true∧0<w.pgs.length∧(no<2∨(w.pgs.length:Int)<no) then (w,1) else if (frOp w).2≠0 then (w,(frOp w).2) else if no∈(frOp w).1 then (w,7) else
 if w.head.free≠0∧tkN w<(w.z-8) / 4 then thenH (gvA w no) w.head.free (w.head.many+1) else thenH (gvB w no) no (w.head.many+1)
section
variable {N:Nat} {out:List Int} {no:Int} {l:List UInt8}
theorem frIn_nil:frIn N [] out=some out:=rfl
theorem frIn_ok {r:List Int} (h:frOk N out no=true):frIn N (no::r) out=frIn N r (out++[no]):=if_pos h
theorem frIn_no {r:List Int} (h:frOk N out no=false):frIn N (no::r) out=none:=if_neg (by rw [h];decide)
theorem rdN_lt {l:List UInt8} {p:Nat} : rdN l p 4<4294967296:=rdN_lt4 l p
theorem frNums_len:(frNums l).length=rdN l 4 4:=by simp [frNums]
theorem frNums_drop {i:Nat} (h:i<rdN l 4 4):(frNums l).drop i=((rdN l (8+4*i) 4:Nat):Int)::(frNums l).drop (i+1):=by
 rw [List.drop_eq_getElem_cons (by rw [frNums_len];exact h)];simp [frNums]
theorem put4_len {p n:Nat} (h:p+4≤l.length):(put4 l p n).length=l.length:=by
 unfold put4;simp [fixedN_len];omega
end
section
variable {P:List (List UInt8)} {rm f:Nat} {a:Int} {out:List Int}
theorem frGo_0:frGo P rm (f+1) 0 out=some out:=by unfold frGo;rfl
theorem frGo_bad (h0:a≠0) (h:frOk P.length out a=false):frGo P rm (f+1) a out=none:=by unfold frGo;rw [if_neg h0,if_pos h]
theorem frGo_many (h0:a≠0) (h:frOk P.length out a=true) (h2:rm<rdN (P.getD (a-1).toNat []) 4 4):frGo P rm (f+1) a out=none:=by unfold frGo;rw [if_neg h0,if_neg (by rw [h];decide),if_pos h2]
theorem frGo_in (h0:a≠0) (h:frOk P.length out a=true) (h2:¬rm<rdN (P.getD (a-1).toNat []) 4 4):frGo P rm (f+1) a out=(frIn P.length (frNums (P.getD (a-1).toNat [])) (out++[a])).bind (frGo P rm f ((rdN (P.getD (a-1).toNat []) 0 4:Nat):Int)):=by
 conv=>lhs;unfold frGo
 rw [if_neg h0,if_neg (by rw [h];decide),if_neg h2]
end
theorem frGo_1 {P:List (List UInt8)} {rm f:Nat} {a:Int} {out l:List Int} (h:frGo P rm (f+1) a out=some l) (hl:l≠out):a≠0∧frOk P.length out a=true∧¬rm<rdN (P.getD (a-1).toNat []) 4 4:=by
 by_cases h0:a=0
 ·subst h0;rw [frGo_0] at h;injection h with h;exact absurd h.symm hl
 cases hk:frOk P.length out a with
 | false=>rw [frGo_bad h0 hk] at h;cases h
 | true=>
  refine ⟨h0,rfl,fun h2=>?_⟩;rw [frGo_many h0 hk h2] at h;cases h
theorem frAll_1 {w:St} {l:List Int} (h:frAll w=some l) (hl:l≠[]):2≤w.head.free∧w.head.free≤(w.pgs.length:Int)∧tkN w≤(w.z-8) / 4:=by
 unfold frAll at h;cases hg:frGo w.pgs ((w.z-8) / 4) (w.pgs.length+1) w.head.free [] with
 | none=>rw [hg] at h;cases h
 | some l'=>
  rw [hg] at h;have h2:(if (l'.length:Int)=w.head.many then some l' else none)=some l:=h;split at h2
  ·injection h2 with h2;subst h2;obtain ⟨_,h4,h5⟩:=frGo_1 hg hl;have h6:2≤w.head.free∧w.head.free≤(w.pgs.length:Int)∧w.head.free∉[]:=of_decide_eq_true h4;exact ⟨h6.1,h6.2.1,Nat.le_of_not_lt h5⟩
  ·cases h2
theorem frOp_0 {w:St} (h:(frOp w).2=0):w.in_=true∧w.pgs.length≠0∧frAll w=some (frOp w).1:=by
 unfold frOp at h⊢;split at h
 ·cases h
 split at h
 ·cases h
 rename_i h1 h2;rw [if_neg h1,if_neg h2];refine ⟨by simpa using h1,h2,?_⟩;have h3:frC w=0:=h;unfold frC at h3;cases ha:frAll w with
 | none=>rw [ha] at h3;cases h3
 | some l=>show some l=some (frL w);unfold frL;rw [ha];rfl
structure Met (N:Nat) (out:List Int):Prop where
 nd:out.Nodup
 rg:∀k∈out,2≤k∧k≤(N:Int)
section
variable {N:Nat} {out:List Int} {no:Int}
theorem Met.nil:Met N []:=⟨.nil,by simp⟩
theorem Met.snoc (m:Met N out) (h:frOk N out no=true):Met N (out++[no]):=by
 have h1:2≤no∧no≤(N:Int)∧no∉out:=of_decide_eq_true h;refine ⟨List.nodup_append.2 ⟨m.nd,by simp,fun a ha b hb e=>h1.2.2 (by rw [List.mem_singleton.1 hb] at e;exact e▸ha)⟩,fun k hk=>?_⟩;rcases List.mem_append.1 hk with hk | hk
 ·exact m.rg k hk
 ·rw [List.mem_singleton.1 hk];exact ⟨h1.1,h1.2.1⟩
theorem Met.len (m:Met N out):out.length<N+1:=by
 have h3:(0::out.map Int.toNat).length≤(List.range (N+1)).length:=by
  refine List.Nodup.length_le_of_subset (List.nodup_cons.2 ⟨fun hk=>?_,?_⟩) fun k hk=>?_
  ·obtain ⟨x,hx,e⟩:=List.mem_map.1 hk;have:=m.rg x hx;omega
  ·unfold List.Nodup;rw [List.pairwise_map];exact List.Pairwise.imp_of_mem (fun ha hb h e=>h (by have:=m.rg _ ha;have:=m.rg _ hb;omega)) m.nd
  ·rcases List.mem_cons.1 hk with rfl | hk
   ·rw [List.mem_range];omega
   ·obtain ⟨x,hx,rfl⟩:=List.mem_map.1 hk;have:=m.rg x hx;rw [List.mem_range];omega
 rw [List.length_cons,List.length_map,List.length_range] at h3;omega
end
theorem frIn_met {N:Nat} : ∀ {r out o:List Int},Met N out→frIn N r out=some o→Met N o
 | [],out,o,m,h=>by rw [frIn_nil] at h;injection h with h;exact h▸m
 | no::r,out,o,m,h=>by
  cases hk:frOk N out no with
  | false=>rw [frIn_no hk] at h;cases h
  | true=>rw [frIn_ok hk] at h;exact frIn_met (m.snoc hk) h
theorem frGo_met {P:List (List UInt8)} {rm:Nat} : ∀(f:Nat) (a:Int) (out:List Int) {l:List Int},Met P.length out→frGo P rm f a out=some l→Met P.length l
 | 0,_,_,_,_,h=>by unfold frGo at h;cases h
 | f+1,a,out,l,m,h=>by
  by_cases h0:a=0
  ·subst h0;rw [frGo_0] at h;injection h with h;exact h▸m
  cases hk:frOk P.length out a with
  | false=>rw [frGo_bad h0 hk] at h;cases h
  | true=>
   by_cases h2:rm<rdN (P.getD (a-1).toNat []) 4 4
   ·rw [frGo_many h0 hk h2] at h;cases h
   ·rw [frGo_in h0 hk h2] at h;cases hi:frIn P.length (frNums (P.getD (a-1).toNat [])) (out++[a]) with
    | none=>rw [hi] at h;cases h
    | some o=>rw [hi] at h;exact frGo_met f _ _ (frIn_met (m.snoc hk) hi) h
end Go.Proofs.YtndlpekckpdncaaGreat
namespace Go.HL
open Go
def dcl (f:FuncId) (args:Array Value):Deferred:={ target:=.fn (.func f) #[],args:=args }
def HCD (P:Program) (f:FuncId) (args:Array Value) (h:Heap) (R:Value→Heap→Prop):Prop:=
 Callable P f∧∀E w u,At E h w→CallsD P f args u w fun e u' w'=>u'=u∧∃v h',e=.returned v∧At E h' w'∧R v h'
theorem HCD.body {P:Program} {f:FuncId} {fn:Func} {c:Code} {args:List Value} {h:Heap} {R:Value→Heap→Prop} (hf:P.funcs[f]? = some fn) (hb:fn.body=some c)
  (hname : (fn.name == "runtime.NumGoroutine") = false) (n : Nat) (hn : fn.ntmps = n) (hsz : Nat.ble args.length n = true) (hc : HW none P n c (fin P fn R) (lst args) h) : HCD P f args.toArray h R :=
 ⟨⟨fn,hf,hname,by simp [hb]⟩,fun _ _ _ at'=>callsD_of_wp hf hb (wp_body n hn hsz hc at')⟩
theorem HCD.go {P:Program} {f:FuncId} {fn:Func} {c:Code} {args:List Value} {h:Heap} {R:Value→Heap→Prop} (hf:P.funcs[f]? = some fn) (n:Nat) (hc:HS none P n [c] (fin P fn R) (lst args) h) (hb:fn.body=some c:=by exact rfl)
  (hname : (fn.name == "runtime.NumGoroutine") = false := by first | exact rfl | kernel_rfl) (hn : fn.ntmps = n := by exact rfl) (hsz : Nat.ble args.length n = true := by exact rfl) : HCD P f args.toArray h R :=
 HCD.body hf hb hname n hn hsz (HW.mono hc fun e s h q=>by cases e<;>exact q)
abbrev PD:=List Deferred→Exit→Slots→Heap→Prop
def LiftD (E:Env) (n:Nat) (Q:PD) (e:Exit) (a:Act) (w:World):Prop:=∃ds s h,Rel ds n s a∧At E h w∧Q ds e s h
def WD (P:Program) (n:Nat) (c:Code) (Q:PD) (s:Slots) (h:Heap):Prop:=∀E a w,E.ds=[]→Rel [] n s a→At E h w→c.wp P (LiftD E n Q) a w
def nxtD (P:Program) (n:Nat) (k:List Code) (Q:PD) (H:Slots→Heap→Prop):PD
 | [],.normal,s,h=>H s h
 | d::ds,.normal,s,h=>HS none P n k (Q (d::ds)) s h
 | ds,e,s,h=>Q ds e s h
def HSD (P:Program) (n:Nat):List Code→PD→Slots→Heap→Prop
 | [],Q,s,h=>Q [] .normal s h
 | c::k,Q,s,h=>WD P n c (nxtD P n k Q (HSD P n k Q)) s h
section
variable {P:Program} {n:Nat} {Q:PD} {s:Slots} {h:Heap} {k:List Code} {E:Env}
theorem At.ds {w:World} (at':At E h w) (ds:List Deferred):At { E with ds:=ds } h w:=⟨at'.heap,at'.os,at'.tape,at'.output⟩
theorem At.of_ds {w:World} {ds:List Deferred} (at':At { E with ds:=ds } h w):At E h w:=⟨at'.heap,at'.os,at'.tape,at'.output⟩
theorem HSD.seq {a b:Code} (hk:HSD P n (a::b::k) Q s h):HSD P n (.seq a b::k) Q s h:=by
 intro E a0 w hE r at';refine wp_seq (wp_mono (hk E a0 w hE r at') ?_);rintro e a' w' ⟨ds,s',h',r',at2,q⟩;cases e with
 | normal=>
  cases ds with
  | nil=>exact q E a' w' hE r' at2
  | cons d ds=>
   refine wp_mono (wpIn_wide.1 (q { E with ds:=d::ds } a' w' r' (at2.ds _))) ?_;rintro e a'' w'' ⟨s2,h2,r2,at3,q2⟩;refine ⟨d::ds,s2,h2,r2,at3.of_ds,?_⟩;cases e<;>exact q2
 | exit id=>exact ⟨ds,s',h',r',at2,by cases ds<;>exact q⟩
 | goto l=>exact ⟨ds,s',h',r',at2,by cases ds<;>exact q⟩
 | ret=>exact ⟨ds,s',h',r',at2,by cases ds<;>exact q⟩
 | panic c=>exact ⟨ds,s',h',r',at2,by cases ds<;>exact q⟩
 | outgrown=>exact ⟨ds,s',h',r',at2,by cases ds<;>exact q⟩
theorem HSD.lift {c:Code} (hx:HS none P n [c] (thn (HSD P n k Q) (Q [])) s h):HSD P n (c::k) Q s h:=by
 intro E a w hE r at';refine wp_mono (wpIn_wide.1 (hx E a w (hE▸r) at')) ?_;rintro e a' w' ⟨s',h',r',at2,q⟩;refine ⟨[],s',h',hE▸r',at2,?_⟩;cases e<;>exact q
theorem HSD.on {Q':Exit→Slots→Heap→Prop} (hk:HSD P n k Q s h):thn (HSD P n k Q) Q' .normal s h:=hk
def HOD (P:Program) (n:Nat) (ops:Array Oper) (l:List Oper) (K:Deferred→Slots→Heap→Prop) (s:Slots) (h:Heap):Prop:=
 ∀E a w,E.ds=[]→Rel [] n s a→At E h w→wpList P ops (fun e a' w'=>e=.normal∧∃d s' h',Rel [d] n s' a'∧At E h' w'∧K d s' h') l a w
theorem HSD.rd {id:Nat} {l:List Oper} (hk:HOD P n l.toArray l (fun d s h=>HS none P n k (Q [d]) s h) s h):HSD P n (.region id l.toArray false::k) Q s h:=by
 intro E a w hE r at';refine wp_mono (wp_region_lit (hk E a w hE r at')) ?_;rintro e a' w' ⟨rfl,d,s',h',r',at2,q⟩;exact ⟨[d],s',h',r',at2,q⟩
variable {ops:Array Oper} {l:List Oper} {o:Oper} {K:Deferred→Slots→Heap→Prop}
theorem HOD.w (d:Nat) {v:Value} (hv:OpV P o s h v) (hk:HOD P n ops l K (upd s d v) h) (hw:wants ops o s=true:=by exact rfl) (hd:o.dst=some d:=by exact rfl) (hn:Nat.blt d n=true:=by exact rfl):HOD P n ops (o::l) K s h:=by
 intro E a w hE r at';unfold wpList;rw [r.wanted,hw,if_pos rfl];refine .inl ?_;unfold Oper.wp;rw [r.eval',hv w at'.heap];simp only [Oper.upon,hd];exact hk E _ w hE (r.put v hn) at'
theorem HOD.z {op:Op} {ty:TypeId} {pos:String} {af:Array Edge} {g:Option (Nat × Bool)} {d:Nat} {v:Value} (hv:OpV P ⟨some d,op,ty,pos,af,g⟩ s h v) (hk:HOD P n ops l K (upd s d v) h) (hw:wants ops ⟨some d,op,ty,pos,af,g⟩ s=true:=by exact rfl) (hn:Nat.blt d n=true:=by exact rfl):HOD P n ops (⟨some d,op,ty,pos,af,g⟩::l) K s h:=HOD.w d hv hk hw rfl hn
theorem HOD.df {f:FuncId} {xs:Array Operand} {ts:Array TypeId} {ty:TypeId} {pos:String} {af:Array Edge} {g:Option (Nat × Bool)} {args:List Value} (hx:xs.toList.map (ev s)=args) (hk:K (dcl f args.toArray) s h) (hw:wants ops ⟨none,.defer ⟨.value (.func f),xs,ts⟩,ty,pos,af,g⟩ s=true:=by exact rfl):HOD P n ops [⟨none,.defer ⟨.value (.func f),xs,ts⟩,ty,pos,af,g⟩] K s h:=by
 intro E a w hE r at';unfold wpList;rw [r.wanted,hw,if_pos rfl];refine .inl ?_;have e:xs.map a.eval=args.toArray:=by rw [r.eval',←hx];apply Array.ext';simp
 have hr:(execOp a.eval ⟨none,.defer ⟨.value (.func f),xs,ts⟩,ty,pos,af,g⟩).run P w=.ok (.defer (dcl f args.toArray)) w:=by
  have ef:a.eval (.func f)=.func (.func f) #[] #[]:=rfl;unfold execOp;simp [resolve,Deferred.ofValue,ef,dcl,e]
 unfold Oper.wp;rw [hr];simp only [Oper.upon,wpList];exact ⟨by trivial,_,s,h,⟨by simpa [Act.put] using r.size,fun i=>by simpa [Act.put] using r.get i,by simp [Act.put,r.defers]⟩,at',hk⟩
end
def finD (P:Program) (fn:Func) (R:Value→Heap→Prop):PD
 | [],.normal,s,h | [],.ret,s,h=>∃v,Res P fn s h v∧R v h
 | [d],.normal,s,h | [d],.ret,s,h=>∃f args Rm,d=dcl f args∧HCD P f args h Rm∧∀v' h',Rm v' h'→∃v,Res P fn s h' v∧R v h'
 | _,_,_,_=>False
theorem leavesD {P:Program} {fn:Func} {R:Value→Heap→Prop} {s:Slots} {h:Heap} {n:Nat} {E:Env} {a:Act} {w:World} {ds:List Deferred} (r:Rel ds n s a) (at':At E h w) (q:finD P fn R ds .ret s h):Leaves P fn a.tmps (fun e w'=>∃v h',e=.returned v∧At E h' w'∧R v h') a.defers .returning w:=by
 rw [r.defers]
 match ds,q with
 | [],⟨v,hv,hR⟩=>exact ⟨v,hv _ _ r.get at'.heap,v,h,rfl,at',hR⟩
 | [d],⟨f,args,Rm,hd,⟨hc,hcd⟩,hk⟩=>
  subst hd;refine ⟨by simp,.func f,#[],f,args,rfl,?_,?_⟩
  ·obtain ⟨fn',hf,hb,hbody⟩:=hc;have h2' : ¬ fn'.name = "runtime.NumGoroutine" := by simpa using hb
   have h3':¬fn'.body=none:=by intro e;simp [e] at hbody
   simp [dcl,invoke,callFunc,hf,h2',h3']
  ·refine (hcd E w .returning at').mono ?_;rintro e u' w' ⟨rfl,v',h',rfl,at2,hRm⟩;obtain ⟨v,hv,hR⟩:=hk v' h' hRm;exact ⟨v,hv _ _ r.get at2.heap,v,h',rfl,at2,hR⟩
theorem HC.goD {P:Program} {f:FuncId} {fn:Func} {c:Code} {args:List Value} {h:Heap} {R:Value→Heap→Prop} (hf:P.funcs[f]? = some fn) (n:Nat) (hc:HSD P n [c] (finD P fn R) (lst args) h) (hb:fn.body=some c:=by exact rfl)
  (hname : (fn.name == "runtime.NumGoroutine") = false := by first | exact rfl | kernel_rfl) (hn : fn.ntmps = n := by exact rfl) (hsz : Nat.ble args.length n = true := by exact rfl) : HC P f args.toArray h R := by
 have hsz:=Nat.le_of_ble_eq_true hsz;refine ⟨⟨fn,hf,hname,by simp [hb]⟩,fun E w at'=>calls_of_wp_defers hf hb ?_⟩;subst hn;refine wp_mono (hc { E with ds:=[] } _ w rfl ⟨by simp;omega,fun i=>?_,rfl⟩ (at'.ds _)) ?_
 ·rw [←lst_getD];simp only [Array.getD_eq_getD_getElem?,Array.getElem?_append,List.getD_eq_getElem?_getD];by_cases hi:i<args.length
  ·simp [hi]
  ·simp only [List.size_toArray,hi,if_false];rw [List.getElem?_eq_none (by omega)];by_cases hj:i-args.length<fn.ntmps-args.length
   ·rw [Array.getElem?_replicate,if_pos hj];rfl
   ·rw [Array.getElem?_replicate,if_neg hj]
 ·rintro e a' w' ⟨ds,s',h',r',at2,q⟩;have at3:At E h' w':=at2.of_ds;cases e with
  | normal=>
   have q2:finD P fn R ds .ret s' h':=by
    match ds,q with
    | [],q=>exact q
    | [d],q=>exact q
    | _::_::_,q=>exact q
   exact leavesD r' at3 q2
  | ret=>exact leavesD r' at3 (by cases ds<;>exact q)
  | exit id=>cases ds with
   | nil=>exact q
   | cons d ds=>cases ds<;>exact q
  | goto l=>cases ds with
   | nil=>exact q
   | cons d ds=>cases ds<;>exact q
  | panic c=>cases ds with
   | nil=>exact False.elim q
   | cons d ds=>cases ds<;>exact False.elim q
  | outgrown=>cases ds with
   | nil=>exact False.elim q
   | cons d ds=>cases ds<;>exact False.elim q
end Go.HL
