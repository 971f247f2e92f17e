/- The contracts of maps.Keys, slices.Sorted and slices.Sort, laid at this program by the kit. Conditions: none. maps.Keys and slices.Sorted over the cache's map, at a seat where they serve a map of frames too. Conditions: the keys are ints of 64 bits. The method Put of a cache: what goes is read in the cache's own blocks. Conditions: as CaImp4's. The method Dirty of a cache. Conditions: the cache is well laid, its numbers are ints of 64 bits. The pager that keeps a journal, in plain terms: what each of its functions does to the disk, the cache and its own state. Conditions: those that each fact names. The pager that keeps a journal, its small parts: a file removed for good, the journal and its mark removed, the file's length. Conditions: the disk is in order. The pager that keeps a journal: the journal's pages are laid over the file. Conditions: the disk is in order; the frames' pages are in their range. Journals: sizes, beginnings and entries, of the program and of the document. Conditions: the slices are readable, numbers in their ranges. The program's Scan of a journal. Conditions: the bytes are readable. The pager that keeps a journal, in memory: its box, the map of what is kept, and its disk as one item that turns (the core); the cache beside it. Conditions: those that each fact names. The pager that keeps a journal: pages are written to its file; a commit's work on the disk, in plain terms. Conditions: those that each fact names. The pager that keeps a journal and its pages: what ties them, and that each part of a call keeps it. Conditions: those that each fact names. The pager that keeps a journal: a page is put into the cache; the dirty pages that are unlike the file's. Conditions: the pager is in order. The calls of the pager that keeps a journal, in plain terms: what they make of its pages, and of its file. Conditions: those that each fact names. Pagers of either make, opened on a new disk: nothing is in them. Conditions: the size and the room may be. A store is opened on a new disk, with either pager. Conditions: the size and the room may be. A page's bytes of a number; numbers among others; rows of numbers that are the same. Conditions: few. A store with so many pages, in a transaction, and the document's beside it. Conditions: the size and the room may be. Pages that are read, as rows of bytes. Conditions: none. What pages say of a chain, by the document; all pages of a store; whole numbers that are the same. Conditions: the store is in order. The contracts of maps.Keys, slices.Sorted and slices.Sort, laid at this program by the kit. Conditions: none. The store's savepoints. Conditions: the store is in order. A deed with a store; all pages that it tells; pages that are the same. Conditions: the store is in order. A disk whose power stays on: what its files have, in plain terms. Conditions: those that each fact names. The pager that keeps a journal, on a disk whose power stays on: how it lies in memory, and what holds of it. Conditions: those that each fact names. The pager that logs ahead, its power on: how it lies in memory, where its pages stand. Conditions: none. -/
import Derived.Test.YtndlpekckpdncaaGreatPkK6
import Derived.Shelf.SlIterI.Nil
import Derived.Shelf.SortM.Plain
import Derived.Shelf.SortM.SortNone
import Derived.Ground.GgzProg
import Derived.Ground.SlgmProg
import Derived.Test.YtndlpekckpdncaaGreatProg
import Derived.Shelf.SlMaps.Clone
import Derived.Ground.SlmcProg
set_option maxRecDepth 100000
set_option maxHeartbeats 2000000
set_option linter.all false
namespace Go.Proofs
open Go.Shelf
def Tryz.keysC_ren:Go.Shelf.Ren:=⟨fun | 7=>319 | 10=>320 | n=>n,fun | 23=>245 | 26=>3 | 3=>339 | 28=>217 | 0=>0 | 27=>216 | 33=>49 | 4=>4 | n=>n,fun | n=>n⟩
theorem Tryz.keysC:Go.Proofs.SlLaysZI.n7 Tryz.prog Tryz.keysC_ren:={
 mixed:=by kernel_rfl
 f7:=⟨Tryz.f319.name,by decide,Tryz.func319.trans (congrArg some (by kernel_rfl))⟩
 f10:=⟨Tryz.f320.name,by decide,Tryz.func320.trans (congrArg some (by kernel_rfl))⟩
 t0:=Tryz.underlying0
 a0:=Tryz.isAgg0
 z0:=Tryz.sizeOf0
 v0:=Tryz.zeroValue0
 t4:=Tryz.underlying4
 a4:=Tryz.isAgg4
 z4:=Tryz.sizeOf4
 v4:=Tryz.zeroValue4
 t23:=Tryz.underlying245
 a23:=Tryz.isAgg245
 z23:=Tryz.sizeOf245
 v23:=Tryz.zeroValue245
 t26:=Tryz.underlying3
 a26:=Tryz.isAgg3
 z26:=Tryz.sizeOf3
 v26:=Tryz.zeroValue3
 t27:=Tryz.underlying216
 a27:=Tryz.isAgg216
 z27:=Tryz.sizeOf216
 v27:=Tryz.zeroValue216
 t28:=Tryz.underlying217
 a28:=Tryz.isAgg217
 z28:=Tryz.sizeOf217
 v28:=Tryz.zeroValue217
 t33:=Tryz.underlying49
 a33:=Tryz.isAgg49
 z33:=Tryz.sizeOf49
 v33:=Tryz.zeroValue49 }
end Go.Proofs
namespace Go.Proofs.YtndlpekckpdncaaGreat
open Go Go.HL Go.RowKit Go.Maps Go.Sort Go.Shelf Go.MapKept
theorem ckeys_any {h:Heap} {mb:Nat} : HC Tryz.prog 319 #[.map (some mb)] h (fun v h'=>v=.func (.func 320) #[] #[ptr h.size]∧h'=h.push (.cells #[.map (some mb)] 245 (0,0))):=
 HC.of_calls ⟨_,Tryz.func319,by decide,rfl⟩ fun w hw=>(callsIn_wide.1 (AnyZI.keys_in Tryz.keysC Fence.wide 5 trivial rfl (some mb) w)).mono fun e w' ⟨h1,h2⟩=>by
  subst h2 hw;exact ⟨_,h1,(RowKit.Below.refl _ w).alloc (Nat.le_refl _) _,rfl,rfl⟩
theorem csorted_any {h:Heap} {mb:Nat} {ks:List Int} {f:Int→Value} (hm:MapT (Value.int .i64) h mb (ks.map fun k=>(k,f k))) (hr:∀k∈ks,-9223372036854775808≤k∧k≤9223372036854775807) (hl:ks.length≤1000000000000) :
  HC Tryz.prog 144 #[.func (.func 320) #[] #[ptr h.size]] (h.push (.cells #[.map (some mb)] 245 (0,0)))
   (fun v h'=>∃S:List Int,S.Perm ks∧S.Pairwise (·≤·)∧Own (h.push (.cells #[.map (some mb)] 245 (0,0))) h' 1 3 v (S.map iv)):=
 HC.of_calls ⟨_,Tryz.func144,by decide,rfl⟩ fun w hw=>by
  have hsz:w.heap.size=h.size+1:=by rw [hw];simp
  obtain ⟨nn,D,hown,hD,hK⟩:=owns_keys hm hr hl (w:=w) (by rw [hw,Array.getElem?_push,if_neg (by have:=hm.lt;omega)]);have hseq:SeqGives Fence.wide 2 Tryz.prog 320 #[.pointer (some ⟨h.size,0,none⟩)] encZ (fun ss=>ss.Perm (intKeys D)) (Maps.size D) w:=
   AnyZI.keys_gives (ρ:=Tryz.keysC_ren) { Tryz.keysC with } Fence.wide _ trivial rfl (by omega) h.size mb nn D w (by omega) (by rw [cell?_eq,hw];exact cell_of (push_same _ _) 0) hown
  have cS:=AnyZI.sorted_in Tryz.sortedA Fence.wide 5 trivial trivial trivial trivial rfl (by omega) (sorts_in _) (enters_of Tryz.func68 (by kernel_rfl) rfl) 320 #[.pointer (some ⟨h.size,0,none⟩)] trivial (enters_of Tryz.func320 (by kernel_rfl) rfl) _ (Maps.size D) (by show _≤9223372036854775807;omega) (by omega) w hseq;refine (callsIn_wide.1 cS).mono fun e w' ⟨v,ss,h1,h2,h3,h4,h5⟩=>⟨v,h1,by rw [←hw];exact h5,ss.mergeSort (fun x y=>decide (x≤y)),?_,?_,?_⟩
  ·exact (List.mergeSort_perm _ _).trans (h2.trans hK)
  ·have:=List.pairwise_mergeSort (le:=fun x y:Int=>decide (x≤y)) (fun a b c h1 h2=>by simp at h1 h2⊢;omega) (fun a b=>by simp;omega) ss;exact this.imp fun h=>by simpa using h
  ·have hx:Ext w.heap w'.heap:=Ext.of_below rfl h5;rw [←hw];have hml:(ss.mergeSort fun x y=>decide (x≤y)).length=ss.length:=List.length_mergeSort _;rcases h3.2 with ⟨rfl,hz⟩ | ⟨g,cap,cur,rfl,hg,hgb,hnc,hcm,hcs,hct⟩
   ·have hs0:ss=[]:=List.length_eq_zero_iff.1 hz;subst hs0;rw [List.mergeSort_nil];exact Own.nil hx _ _
   ·refine ⟨⟨_,_,_,rfl,hnc,hcm,by simp,.inr ⟨g,0,cur,(0,0),rfl,hgb,by simp;omega,fzOk_zero _,?_⟩⟩,hx,fun b hb=>?_⟩
    ·rw [List.drop_zero];exact hct
    ·obtain ⟨o,n,c,e⟩:=hb;injection e with e;injection e with e;injection e with e;subst e;exact hg
def AFr.fr (x:AFr):Fr:=⟨x.page,x.commit,x.b⟩
def FrIn (h:Heap) (G:Nat→Prop) (v:Value) (L:List AFr):Prop:=∃x:SV,v=sv x∧RdL h G G x (L.map AFr.fr)
theorem FrIn.nil {h:Heap} {G:Nat→Prop} : FrIn h G (.slice none 0 0) []:=⟨(none,0,0),rfl,RdL.nil _ _ _⟩
theorem put_anyF {h:Heap} {F:Nat→Prop} {p:Nat} {room:Int} {L:List AP} (r:CRep h F p room L) (hlen:L.length≤100000000) (no:Int) {bs:SV} {l:List UInt8} (hb:Sl h 1 (sv bs) (l.map bv)) (hbl:l.length≤1000000) (d:Bool) (hrm:1≤room) :
  HC Tryz.prog 288 #[ptr p,.int .i64 no,sv bs,.bool d] h (fun v h'=>∃F',CRep h' F' p room (putL room no l d L)∧Step F h F' h'∧FrIn h' F' v (putA room no l d L)):=by
 obtain ⟨m,ov,ks,q,r⟩:=r;obtain ⟨dd,hdd⟩:∃dd,dd=(d || wasD no L):=⟨_,rfl⟩;refine HC.body Tryz.func288 rfl (by kernel_rfl) 87 rfl rfl ?_;refine HW.seq fun K1 hK1=>?_;refine HW.region ?_;refine HO.v (V.asS rfl) rfl 8 rfl rfl ?_;refine HO.nil ?_;refine hK1 _ _ ?_;refine HW.seq fun K2 hK2=>?_;refine HW.seq fun K3 hK3=>?_;refine HW.region ?_;refine HO.v (V.mvP rfl) rfl 12 rfl rfl ?_;refine HO.v (V.ptrEqNil rfl rfl T.pt194) rfl 13 rfl rfl ?_;refine HO.v (V.mvB rfl) rfl 14 rfl rfl ?_;refine HO.spl (fun hb2=>?_) (fun hb2=>?_)
 ·
  refine HO.no rfl 15 rfl rfl ?_;refine HO.no rfl 16 rfl rfl ?_;refine HO.v (V.pick_t rfl rfl) rfl 17 rfl rfl ?_;refine HO.nil ?_;refine hK3 _ _ ?_;refine HW.cond_t rfl ?_;refine HW.seq fun K4 hK4=>?_;refine HW.region ?_;refine HO.v (V.asS rfl) rfl 8 rfl rfl ?_;refine HO.nil ?_;refine hK4 _ _ ?_;refine HW.ret ?_;refine ⟨.slice none 0 0,Res.one rfl rfl,(by simp at hb2)⟩
 ·
  refine HO.v (V.mvI rfl) rfl 15 rfl rfl ?_;refine HO.v (V.lss rfl rfl rfl) rfl 16 rfl rfl ?_;refine HO.v (V.pick_f rfl rfl) rfl 17 rfl rfl ?_;refine HO.nil ?_;refine hK3 _ _ ?_;refine HW.cond rfl (fun hc=>?_) (fun hc=>?_)
  ·
   refine HW.seq fun K5 hK5=>?_;refine HW.region ?_;refine HO.v (V.asS rfl) rfl 8 rfl rfl ?_;refine HO.nil ?_;refine hK5 _ _ ?_;refine HW.ret ?_;refine ⟨.slice none 0 0,Res.one rfl rfl,F,(by unfold putL;rw [if_pos (of_decide_eq_true hc)];exact ⟨m,ov,ks,q,r⟩),⟨Chg.refl _ _,fun b hb=>.inl hb⟩,(by unfold putA;rw [if_pos (of_decide_eq_true hc)];exact FrIn.nil)⟩
  refine HW.skip ?_;refine hK2 _ _ ?_;refine HW.seqc (fun s hh=>Has s [(0,ptr p),(1,.int .i64 no),(2,sv bs),(3,.bool dd)]∧h=hh) ?_ ?_
  ·
   refine HW.seq fun K7 hK7=>?_;refine HW.region ?_;refine HO.v (V.mvP rfl) rfl 18 rfl rfl ?_;refine HO.v (V.nilCheck rfl) rfl 19 rfl rfl ?_;refine HO.v (V.fieldAddr rfl T.fd249_2) rfl 20 rfl rfl ?_;refine HO.v (V.load rfl (load_one T.ag245 (v:=.map (some m)) (cell_of r.hp 2))) rfl 21 rfl rfl ?_;refine HO.v (V.mvI rfl) rfl 22 rfl rfl ?_;refine HO.v (V.lookupE (KV.int .i64) rfl rfl r.mp.map T.mp245 (inB_iff T.in3) T.zr339 (r.mp.get no)) rfl 23 rfl rfl ?_;refine HO.v (V.asP rfl) rfl 9 rfl rfl ?_;refine HO.nil ?_;refine hK7 _ _ ?_;refine HW.seq fun K8 hK8=>?_;refine HW.region ?_;refine HO.v (V.mvP rfl) rfl 24 rfl rfl ?_;refine HO.v (V.ptrNeNil rfl rfl T.pt339) rfl 25 rfl rfl ?_;refine HO.nil ?_;refine hK8 _ _ ?_;refine HW.condr rfl (fun hc=>?_) (fun hc=>?_)
   ·
    refine HW.skip ?_;have hn:hit no L=none:=by simpa using hc
    obtain rfl:d=dd:=by subst hdd;unfold wasD;rw [hn];simp
    refine ⟨⟨rfl,rfl,rfl,rfl,trivial⟩,rfl⟩
   refine HW.region ?_;refine HO.v (V.mvB rfl) rfl 26 rfl rfl ?_;refine HO.v (V.mvB rfl) rfl 27 rfl rfl ?_;refine HO.spl (fun hb1=>?_) (fun hb1=>?_)
   ·
    refine HO.no rfl 28 rfl rfl ?_;refine HO.no rfl 29 rfl rfl ?_;refine HO.no rfl 30 rfl rfl ?_;refine HO.no rfl 31 rfl rfl ?_;refine HO.v (V.pick_t rfl rfl) rfl 32 rfl rfl ?_;refine HO.v (V.asB rfl) rfl 3 rfl rfl ?_;refine HO.nil ?_;obtain rfl:true=dd:=by subst hdd hb1;simp
    refine ⟨⟨rfl,rfl,rfl,rfl,trivial⟩,rfl⟩
   ·
    have hx:∃x,hit no L=some x:=by
     cases e:hit no L with
     | some x=>exact ⟨x,rfl⟩
     | none=>rw [e] at hc;simp at hc
    obtain ⟨x,hx⟩:=hx;obtain ⟨hxm,hxn⟩:=hit_some hx;obtain ⟨pb,hq,_⟩:=r.hpage hxm;rw [hxn] at hq;rw [hx];refine HO.v (V.mvP rfl) rfl 28 rfl rfl ?_;refine HO.v (V.nilCheck rfl) rfl 29 rfl rfl ?_;refine HO.v (V.fieldAddr rfl T.fd341_1) rfl 30 rfl rfl ?_;refine HO.v (V.load rfl (load_one T.ag4 (v:=.bool x.d) (cell_of hq 1))) rfl 31 rfl rfl ?_;refine HO.v (V.pick_f rfl rfl) rfl 32 rfl rfl ?_;refine HO.v (V.asB rfl) rfl 3 rfl rfl ?_;refine HO.nil ?_;obtain rfl:x.d=dd:=by subst hdd hb1;unfold wasD;rw [hx];simp
    refine ⟨⟨rfl,rfl,rfl,rfl,trivial⟩,rfl⟩
  rintro s hh ⟨hs,rfl⟩;refine HW.frame hs fun τ=>?_;refine HW.seq fun K9 hK9=>?_;refine HW.any 10 (fun fl h=>cond fl True (h[p]? = some (.cells #[sv ov,.int .i64 room,.map (some m)] 249 (0,0)))) mixed ?_;have hS:h[p]? = some (.cells #[sv ov,.int .i64 room,.map (some m)] 249 (0,0)):=r.hp;refine HA.p 0 rfl (by kernel_rfl) (by kernel_rfl) (by kernel_rfl) rfl rfl 33 rfl rfl (fl:=false) (by kernel_rfl) hS (fun _=>V.mvP rfl) ?_;refine HA.p 1 rfl (by kernel_rfl) (by kernel_rfl) (by kernel_rfl) rfl rfl 34 rfl rfl (fl:=false) (by kernel_rfl) hS (fun _=>V.nilCheck rfl) ?_;refine HA.p 2 rfl (by kernel_rfl) (by kernel_rfl) (by kernel_rfl) rfl rfl 35 rfl rfl (fl:=false) (by kernel_rfl) hS (fun _=>V.fieldAddr rfl T.fd249_2) ?_;refine HA.v 3 rfl (by kernel_rfl) (by kernel_rfl) (by kernel_rfl) rfl rfl 36 rfl rfl (fl:=false) (by kernel_rfl) hS (by kernel_rfl) (fun _ hS=>V.load rfl (load_one T.ag245 (v:=.map (some m)) (cell_of hS 2))) ?_;refine HA.p 4 rfl (by kernel_rfl) (by kernel_rfl) (by kernel_rfl) rfl rfl 37 rfl rfl (fl:=false) (by kernel_rfl) hS (fun _=>V.mvI rfl) ?_;refine HA.p 5 rfl (by kernel_rfl) (by kernel_rfl) (by kernel_rfl) rfl rfl 38 rfl rfl (fl:=false) (by kernel_rfl) hS (fun _=>V.mvS rfl) ?_;refine HA.p 7 rfl (by kernel_rfl) (by kernel_rfl) (by kernel_rfl) rfl rfl 40 rfl rfl (fl:=false) (by kernel_rfl) hS (fun _=>V.mvB rfl) ?_;refine HA.one 6 (by kernel_rfl) ?_;refine Up.c rfl rfl 39 rfl rfl OpC.func (cloneB_any hb (by omega)) (fl:=false) (by kernel_rfl) ?_;rintro _ h1 ow;have hSn:h1[p]? = some (.cells #[sv ov,.int .i64 room,.map (some m)] 249 (0,0)):=ow.ext.block r.hp (fun f=>f);refine ⟨hSn,?_⟩;replace hS:=hSn;obtain ⟨rb,rfl⟩:=ow.cap.form;refine HA.p 8 rfl (by kernel_rfl) (by kernel_rfl) (by kernel_rfl) rfl rfl 41 rfl rfl (fl:=false) (by kernel_rfl) hS (fun _=>V.build (cs:=#[sv rb,.bool dd]) T.zr341 T.pl341 rfl) ?_;refine HA.one 9 (by kernel_rfl) ?_;have hSn:(h1.push (.cells #[sv rb,.bool dd] 341 (0,0)))[p]? = some (.cells #[sv ov,.int .i64 room,.map (some m)] 249 (0,0)):=push_other hS;refine Up.e rfl rfl 42 rfl rfl (V.boxA rfl) (fl:=false) (by kernel_rfl) hSn ?_;replace hS:=hSn;refine HA.one 10 (by kernel_rfl) ?_;have e2:Ext h (h1.push (.cells #[sv rb,.bool dd] 341 (0,0))):=ow.ext.trans (Ext.push _ _);refine Up.ur rfl rfl rfl (V.mapUpdate (KV.int .i64) V.sbI rfl rfl rfl (r.mp.map.ext e2) T.mp245 (inB_iff T.in3)) (fl:=true) (by kernel_rfl) ?_;rintro h3 pu;refine ⟨trivial,?_⟩;refine HA.done (by kernel_rfl) ?_;refine hK9 _ _ ?_;refine HW.seq fun K10 hK10=>?_;have c3:CMap h3 (fun b=>F b∨h.size≤b) m (putL1 no l d L) (kput ks no) (fput q no h1.size):=by
   have c2:CMap (h1.push (.cells #[sv rb,.bool dd] 341 (0,0))) F m L ks q:=r.mp.chg e2 (fun _ g _=>g.elim) fun _ f=>f;have hp:PgAt (h1.push (.cells #[sv rb,.bool dd] 341 (0,0))) (fun b=>F b∨h.size≤b) h1.size ⟨no,l,dd⟩:=⟨⟨rb,push_same _ _,ow.cap.ext (Ext.push _ _),fun j hj=>.inr (ow.fresh j hj)⟩,.inr ow.ext.size⟩;have:=c2.put hp (fun y hy e=>by
    have h1:=r.lt _ (r.mp.pg y hy).own;have h2:=ow.ext.size;omega) (fun b f=>.inl f) pu
   unfold putL1;rw [←hdd];exact this
  have hsz:h.size≤h3.size:=by have h1:=e2.size;have h2:=pu.size;omega
  have hc3:Chg (fun b=>b=m) h h3:=e2.to.trans pu.chg;have o3:Ordr h3 p (.int .i64 room) (.map (some m)) ov (nos L).reverse:=r.od.chg hc3 r.ne_p r.ne_o;refine HW.region ?_;refine HO.v (V.mvP rfl) rfl 43 rfl rfl ?_;refine HO.v (V.nilCheck rfl) rfl 44 rfl rfl ?_;refine HO.v (V.fieldAddr rfl T.fd249_0) rfl 45 rfl rfl ?_;refine HO.v (V.mvI rfl) rfl 46 rfl rfl ?_;refine HO.c OpC.func rfl 47 rfl rfl (touch_any o3 (by have:=r.len;simp [nos];omega)) ?_;rintro _ h4 ⟨ov1,rfl,t⟩;refine HO.nil ?_;refine hK10 _ _ ?_;have o4:Ordr h4 p (.int .i64 room) (.map (some m)) ov1 (nos (putL1 no l d L)).reverse:=by
   have:=t.ordr;have e:=order_touch (x:=⟨no,l,d || wasD no L⟩) r.mp.nd;rw [e] at this;exact this
  have c4:CMap h4 (fun b=>F b∨h.size≤b) m (putL1 no l d L) (kput ks no) (fput q no h1.size):=c3.chg t.chg (fun b g _=>by
   rcases g with rfl | hb
   ·exact .inl ⟨_,_,o3.hp⟩
   ·exact .inr (o3.ord.blk hb)) fun _ f=>f
  have i4:=CIn.mk' c4 o4 (.inl r.fp) (fun b hb=>(t.place b hb).imp (r.fo b) fun h=>Nat.le_trans hsz h) (by have h1:=putL1_len no l d L;omega) (fun y hy=>by
   rcases List.mem_cons.1 hy with rfl | hy
   ·exact hbl
   ·exact r.sm y (mem_rid.1 hy).1)
  have st4:Step F h (fun b=>(F b∨h.size≤b)∧b<h4.size) h4:=⟨(hc3.mono fun b _ hb=>by subst hb;exact r.mp.own).trans' t.chg fun b _ hb=>by
   rcases hb with rfl | hb
   ·exact r.fp
   ·exact r.fo b hb,fun b hb=>hb.1⟩
  have hno:¬no<1:=of_decide_eq_false hc;have hol:ov1.2.1=(putL1 no l d L).length:=by
   obtain ⟨a,n,c⟩:=ov1;have ho:Cap h4 1 3 (.slice a n c) ((nos (putL1 no l d L)).reverse.map iv):=o4.ord;have:=ho.sl.cells.len;simpa [nos] using this.symm
  refine HW.seq fun K11 hK11=>?_;refine HW.seq fun K12 hK12=>?_;refine HW.quiet mixed (by kernel_rfl) ?_;refine HQ.v (V.mvP rfl) rfl 48 rfl rfl ?_;refine HQ.v (V.nilCheck rfl) rfl 49 rfl rfl ?_;refine HQ.v (V.fieldAddr rfl T.fd249_0) rfl 50 rfl rfl ?_;refine HQ.v (V.fieldAddr rfl T.fd247_0) rfl 51 rfl rfl ?_;refine HQ.v (V.load rfl (load_one T.ag24 (v:=sv ov1) (cell_of t.ordr.hp 0))) rfl 52 rfl rfl ?_;refine HQ.v (V.len rfl T.el24) rfl 53 rfl rfl ?_;refine HQ.v (V.mvP rfl) rfl 54 rfl rfl ?_;refine HQ.v (V.nilCheck rfl) rfl 55 rfl rfl ?_;refine HQ.v (V.fieldAddr rfl T.fd249_1) rfl 56 rfl rfl ?_;refine HQ.v (V.load rfl (load_one T.ag3 (v:=.int .i64 room) (cell_of t.ordr.hp 1))) rfl 57 rfl rfl ?_;refine HQ.v (V.leq rfl rfl rfl) rfl 58 rfl rfl ?_;refine HQ.nil ?_;refine hK12 _ _ ?_;refine HW.cond rfl (fun hc=>?_) (fun hc=>?_)
  ·
   refine HW.seq fun K13 hK13=>?_;have hle:((putL1 no l d L).length:Int)≤room:=by have:=of_decide_eq_true hc;omega
   refine HW.region ?_;refine HO.v (V.asS rfl) rfl 8 rfl rfl ?_;refine HO.nil ?_;refine hK13 _ _ ?_;refine HW.ret ?_;refine ⟨.slice none 0 0,Res.one rfl rfl,_,(by unfold putL;rw [if_neg hno,if_pos hle];exact ⟨m,ov1,_,_,i4⟩),st4,(by unfold putA;rw [if_neg hno,if_pos hle];exact FrIn.nil)⟩
  refine HW.skip ?_;refine hK11 _ _ ?_;refine HW.seq fun K14 hK14=>?_;have hgt:¬((putL1 no l d L).length:Int)≤room:=by have:=of_decide_eq_false hc;omega
  obtain ⟨x,hlast⟩:∃x,(putL1 no l d L).getLast? = some x:=by
   cases e:(putL1 no l d L).getLast? with
   | some x=>exact ⟨x,rfl⟩
   | none=>rw [List.getLast?_eq_none_iff] at e;simp [putL1] at e
  have hxm:x∈putL1 no l d L:=List.mem_of_getLast? hlast;obtain ⟨pb,hq,hpb,hpf⟩:=i4.hpage hxm;have hhx:hit x.no (putL1 no l d L)=some x:=by
   obtain ⟨y,hy⟩:=hit_mem (List.mem_map.2 ⟨x,hxm,rfl⟩:x.no∈nos (putL1 no l d L));rw [hy,nos_inj i4.mp.nd (hit_some hy).1 hxm (hit_some hy).2]
  obtain ⟨oa,on,oc⟩:=ov1;have hoc0:Cap h4 1 3 (.slice oa on oc) ((nos (putL1 no l d L)).reverse.map iv):=o4.ord;have hol':on=(putL1 no l d L).length:=hol;obtain ⟨ob,oo,rfl,hoc⟩:=hoc0.sl.cells.pos (by rw [hol'];simp [putL1]);have hx0:((nos (putL1 no l d L)).reverse.map iv)[0]? = some (.int .i64 x.no):=by
   obtain ⟨M,hM⟩:=List.getLast?_eq_some_iff.1 hlast;rw [hM];simp [nos,iv]
  refine HW.region ?_;refine HO.v (V.mvP rfl) rfl 59 rfl rfl ?_;refine HO.v (V.nilCheck rfl) rfl 60 rfl rfl ?_;refine HO.v (V.fieldAddr rfl T.fd249_0) rfl 61 rfl rfl ?_;refine HO.v (V.fieldAddr rfl T.fd247_0) rfl 62 rfl rfl ?_;refine HO.v (V.load rfl (load_one T.ag24 (v:=sv (some ⟨ob,oo,none⟩,on,oc)) (cell_of t.ordr.hp 0))) rfl 63 rfl rfl ?_;refine HO.v (V.indexAddr1 rfl rfl T.el24 T.sz3 (by omega)) rfl 64 rfl rfl ?_;refine HO.v (V.load rfl (load_one T.ag3 (v:=.int .i64 x.no) (hoc 0 _ hx0))) rfl 65 rfl rfl ?_;refine HO.v (V.asI rfl) rfl 10 rfl rfl ?_;refine HO.nil ?_;refine hK14 _ _ ?_;refine HW.seq fun K15 hK15=>?_;refine HW.region ?_;refine HO.v (V.mvP rfl) rfl 66 rfl rfl ?_;refine HO.v (V.nilCheck rfl) rfl 67 rfl rfl ?_;refine HO.v (V.fieldAddr rfl T.fd249_2) rfl 68 rfl rfl ?_;refine HO.v (V.load rfl (load_one T.ag245 (v:=.map (some m)) (cell_of t.ordr.hp 2))) rfl 69 rfl rfl ?_;refine HO.v (V.mvI rfl) rfl 70 rfl rfl ?_;refine HO.v (V.lookupE (KV.int .i64) rfl rfl i4.mp.map (v:=ptr (fput q no h1.size x.no)) T.mp245 (inB_iff T.in3) T.zr339 ((i4.mp.get x.no).trans (by rw [hhx];rfl))) rfl 71 rfl rfl ?_;refine HO.v (V.asP rfl) rfl 11 rfl rfl ?_;refine HO.nil ?_;refine hK15 _ _ ?_;refine HW.seq fun K16 hK16=>?_;refine HW.region ?_;refine HO.v (V.mvP rfl) rfl 72 rfl rfl ?_;refine HO.v (V.mvI rfl) rfl 73 rfl rfl ?_;refine HO.c OpC.func rfl 74 rfl rfl (drop_in i4 x.no) ?_;rintro _ h5 ⟨ov5,rfl,i5,chg5⟩;refine HO.nil ?_;refine hK16 _ _ ?_;have hk5:∀b,(b=m∨b=p∨blkC (sv (some ⟨ob,oo,none⟩,on,oc)) b)→isT h4 b 341∨isT h4 b 5→False:=fun b hb ht=>by
   rcases hb with rfl | hb
   ·obtain ⟨es,cl,h1,_⟩:=i4.mp.map;rcases ht with ⟨cs,fz,h2⟩ | ⟨cs,fz,h2⟩<;>(rw [h1] at h2;injection h2 with h2;cases h2)
   ·rcases i4.kind b hb with h1 | h1<;>rcases ht with h2 | h2<;>exact absurd (h1.eq h2) (by decide)
  have hq5:h5[fput q no h1.size x.no]? = some (.cells #[sv pb,.bool x.d] 341 (0,0)):=chg5.block hq fun hb=>hk5 _ hb (.inl ⟨_,_,hq⟩);have hpb5:Cap h5 1 5 (sv pb) (x.b.map bv):=hpb.chg chg5 fun j hj hb=>hk5 _ hb (.inr (hpb.blk hj));have st5:=st4.trans (F2:=wd (fun b=>(F b∨h.size≤b)∧b<h4.size) h4.size h5.size) ⟨chg5.mono fun b _ hb=>by
   rcases hb with rfl | rfl | hb
   ·exact i4.mp.own
   ·exact i4.fp
   ·exact i4.fo b hb,fun b hb=>hb.imp id fun h=>h.1⟩
  refine HW.seq fun K17 hK17=>?_;refine HW.seq fun K18 hK18=>?_;refine HW.region ?_;refine HO.v (V.mvP rfl) rfl 75 rfl rfl ?_;refine HO.v (V.nilCheck rfl) rfl 76 rfl rfl ?_;refine HO.v (V.fieldAddr rfl T.fd341_1) rfl 77 rfl rfl ?_;refine HO.v (V.load rfl (load_one T.ag4 (v:=.bool x.d) (cell_of hq5 1))) rfl 78 rfl rfl ?_;refine HO.v (V.not rfl) rfl 79 rfl rfl ?_;refine HO.nil ?_;refine hK18 _ _ ?_;refine HW.cond rfl (fun hc=>?_) (fun hc=>?_)
  ·
   refine HW.seq fun K19 hK19=>?_;refine HW.region ?_;refine HO.v (V.asS rfl) rfl 8 rfl rfl ?_;refine HO.nil ?_;refine hK19 _ _ ?_;refine HW.ret ?_;refine ⟨.slice none 0 0,Res.one rfl rfl,_,(by unfold putL;rw [if_neg hno,if_neg hgt,←drop_last i4.mp.nd hlast];exact ⟨m,ov5,_,_,i5⟩),st5,(by unfold putA;rw [if_neg hno,if_neg hgt,hlast,told_no (by simpa using hc)];exact FrIn.nil)⟩
  refine HW.skip ?_;refine hK17 _ _ ?_;refine HW.seq fun K20 hK20=>?_;refine HW.region ?_;refine HO.v (V.mvI rfl) rfl 80 rfl rfl ?_;refine HO.v (V.mvP rfl) rfl 81 rfl rfl ?_;refine HO.v (V.nilCheck rfl) rfl 82 rfl rfl ?_;refine HO.v (V.fieldAddr rfl T.fd341_0) rfl 83 rfl rfl ?_;refine HO.v (V.load rfl (load_one T.ag44 (v:=sv pb) (cell_of hq5 0))) rfl 84 rfl rfl ?_;refine HO.v (V.build (cs:=#[.int .i64 x.no,.int .i64 0,sv pb]) T.zr277 T.pl277 rfl) rfl 85 rfl rfl ?_;refine HO.e (V.buildSlice [.tmp 85] (cs:=#[.int .i64 x.no,.int .i64 0,sv pb]) T.el252 T.sz277 T.zr277 rfl rfl rfl ⟨rfl,trivial⟩ rfl) rfl 86 rfl rfl ?_;refine HO.v (V.asS rfl) rfl 8 rfl rfl ?_;refine HO.nil ?_;refine hK20 _ _ ?_;refine HW.ret ?_;have i6:CIn (h5.push (.cells #[.int .i64 x.no,.int .i64 0,sv pb] 277 (0,0))) (fun b=>wd (fun b=>(F b∨h.size≤b)∧b<h4.size) h4.size h5.size b∨b=h5.size) p m ov5 room _ _ _:=
   ⟨i5.mp.chg (G:=none_) (Ext.push _ _) (fun _ f=>f.elim) fun _ f=>.inl f,i5.od.chg (G:=none_) (Ext.push _ _) (fun f=>f) fun _ _ f=>f,.inl i5.fp,fun b hb=>.inl (i5.fo b hb),fun b hb=>by
    rw [Array.size_push];rcases hb with hb | rfl
    ·have:=i5.lt b hb;omega
    ·omega,i5.len,i5.sm⟩
  refine ⟨.slice (some ⟨h5.size,0,none⟩) 1 1,Res.one rfl rfl,_,(by unfold putL;rw [if_neg hno,if_neg hgt,←drop_last i4.mp.nd hlast];exact ⟨m,ov5,_,_,i6⟩),⟨st5.chg.trans' (Ext.push _ _) fun _ _ f=>f.elim,fun b hb=>Or.elim (show wd (fun b=>(F b∨h.size≤b)∧b<h4.size) h4.size h5.size b∨b=h5.size from hb) (st5.place b) fun e=>.inr (by have:=st5.chg.size;omega)⟩,?_⟩;have hd:x.d=true:=by simpa using hc
  unfold putA;rw [if_neg hno,if_neg hgt,hlast,told_yes hd];refine ⟨(some ⟨h5.size,0,none⟩,1,1),rfl,rfl,Nat.le_refl _,by simp,fun _=>⟨h5.size,0,rfl,.inr rfl,fun i hi=>?_⟩⟩;obtain rfl:i=0:=by simp at hi;omega
  refine ⟨[.int .i64 x.no,.int .i64 0,sv pb],⟨pb,rfl,(RdL.of_cap1 (f:=bv) (x:=pb) (l:=x.b) (E:=none_) rfl (fun _ _ _=>rfl) (hpb5.ext (Ext.push _ _))).mono (fun j hj=>.inl (.inl (hpf j hj))) (fun _ f=>f.elim)⟩,fun j v hj=>?_⟩;rw [Nat.zero_mul,Nat.zero_add];exact cell_of (push_same _ _) j |>.trans (by simpa using hj)
theorem ints_cell {h:Heap} {a:Option Addr} {n c:Nat} {l:List Int} (r:Sl h 1 (.slice a n c) (l.map iv)) {j:Nat} (hj:j<l.length):∃b o,a=some ⟨b,o,none⟩∧cell h b (o+j)=some (.int .i64 l[j]):=by
 have hl:=r.cells.len;obtain ⟨b,o,rfl,hc⟩:=r.cells.pos (by simp at hl;omega);exact ⟨b,o,rfl,hc j _ (by simp [hj,iv])⟩
def dirty1 (L:List AP) (k:Int):List AFr:=toldL (hit k L)
def dirtyS (S:List Int) (L:List AP):List AFr:=S.flatMap (dirty1 L)
structure FrCap (h:Heap) (f:CFr) (x:AFr):Prop where
 page:f.page=x.page
 commit:f.commit=x.commit
 b:Cap h 1 5 (sv f.b) (x.b.map bv)
theorem FrCap.chg {F:Nat→Prop} {h h':Heap} {f:CFr} {x:AFr} (r:FrCap h f x) (c:Chg F h h') (hf:∀b,F b→isT h b 5→False):FrCap h' f x:=
 ⟨r.page,r.commit,r.b.chg c fun b hb g=>by
  obtain ⟨cs,fz,h1⟩:=r.b.blk hb;exact hf b g ⟨cs,fz,h1⟩⟩
structure FrNw (h0 h:Heap) (f:CFr) (x:AFr):Prop where
 is:FrCap h f x
 nw:∀j,blkC (sv f.b) j→h0.size≤j
theorem FrNw.in {h0 h:Heap} {v:SV} {fl:List CFr} {L:List AFr} (hx:Ext h0 h) (c:Cap h 3 277 (sv v) (fl.flatMap fr)) (hv:∀j,blkC (sv v) j→h0.size≤j) (hall:All2 (FrNw h0 h) fl L):FrIn h (Nw h0 h) (sv v) L:=by
 refine ⟨v,rfl,(RdL.of_cap (α:=Fr) (E:=Nw h0 h) (css:=fl.map fr) (by rw [←List.flatMap_def];exact c) ⟨by simp [hall.1],fun i h1 h2=>?_⟩).mono (fun j hj=>⟨hv j hj,c.lt hj⟩) (fun _ h=>h)⟩;have q:=hall.2 i (by simpa using h1) (by simpa using h2);rw [List.getElem_map,List.getElem_map];refine ⟨(fl[i]'(by simpa using h1)).b,by simp only [fr,AFr.fr,q.is.page,q.is.commit];rfl,(RdL.of_cap1 (f:=bv) (E:=none_) rfl (fun _ _ _=>rfl) q.is.b).mono (fun j hj=>⟨q.nw j hj,q.is.b.lt hj⟩) (fun _ f=>f.elim)⟩
theorem dirty_next {S:List Int} {L:List AP} {k:Nat} (h:k<S.length):dirtyS (S.take (k+1)) L=dirtyS (S.take k) L++dirty1 L S[k]:=by
 unfold dirtyS;rw [take_next h,List.flatMap_append];simp
theorem dirty_len (S:List Int) (L:List AP):(dirtyS S L).length≤S.length:=by
 unfold dirtyS;induction S with
 | nil=>simp
 | cons a s ih=>
  rw [List.flatMap_cons,List.length_append];have:(dirty1 L a).length≤1:=by
   unfold dirty1 toldL;split
   ·split<;>simp
   ·simp
  simp only [List.length_cons];omega
theorem dirty_any {h:Heap} {F:Nat→Prop} {p:Nat} {room:Int} {L:List AP} (r:CRep h F p room L) (hr:∀k∈nos L,-9223372036854775808≤k∧k≤9223372036854775807) :
  HC Tryz.prog 316 #[ptr p] h (fun v h'=>∃S:List Int,S.Perm (nos L)∧S.Pairwise (·≤·)∧FrIn h' (Nw h h') v (dirtyS S L)∧Ext h h'):=by
 obtain ⟨mb,ov,ks,q,r⟩:=r;have hkp:ks.Perm (nos L):=(List.perm_ext_iff_of_nodup r.mp.keys r.mp.nd).2 r.mp.mem;have hkl:ks.length≤1000000000000:=by rw [hkp.length_eq];have:=r.len;simp [nos];omega
 refine HC.body Tryz.func316 rfl (by kernel_rfl) 42 rfl rfl ?_;refine HW.seq fun K1 hK1=>?_;refine HW.region ?_;refine HO.v (V.asS rfl) rfl 2 rfl rfl ?_;refine HO.nil ?_;refine hK1 _ _ ?_;refine HW.seq fun K2 hK2=>?_;refine HW.seq fun K3 hK3=>?_;refine HW.region ?_;refine HO.v (V.mvP rfl) rfl 7 rfl rfl ?_;refine HO.v (V.ptrEqNil rfl rfl T.pt194) rfl 8 rfl rfl ?_;refine HO.nil ?_;refine hK3 _ _ ?_;refine HW.cond rfl (fun hc=>?_) (fun hc=>?_)
 ·
  refine HW.seq fun K4 hK4=>?_;refine HW.region ?_;refine HO.v (V.asS rfl) rfl 2 rfl rfl ?_;refine HO.nil ?_;refine hK4 _ _ ?_;refine HW.ret ?_;refine ⟨.slice none 0 0,Res.one rfl rfl,(by simp at hc)⟩
 refine HW.skip ?_;refine hK2 _ _ ?_;refine HW.seq fun K5 hK5=>?_;refine HW.region ?_;refine HO.v (V.asS rfl) rfl 3 rfl rfl ?_;refine HO.nil ?_;refine hK5 _ _ ?_;refine HW.seq fun K6 hK6=>?_;refine HW.seq fun K7 hK7=>?_;refine HW.region ?_;refine HO.v (V.mvP rfl) rfl 9 rfl rfl ?_;refine HO.v (V.nilCheck rfl) rfl 10 rfl rfl ?_;refine HO.v (V.fieldAddr rfl T.fd249_2) rfl 11 rfl rfl ?_;refine HO.v (V.load rfl (load_one T.ag245 (v:=.map (some mb)) (cell_of r.hp 2))) rfl 12 rfl rfl ?_;refine HO.c OpC.func rfl 13 rfl rfl ckeys_any ?_;rintro _ _ ⟨rfl,rfl⟩;refine HO.c OpC.func rfl 14 rfl rfl (csorted_any r.mp.map (fun k hk=>hr k ((r.mp.mem k).1 hk)) hkl) ?_;rintro _ h1 ⟨S,hp0,hsort,ow⟩;obtain ⟨⟨sa,sn,sc⟩,rfl⟩:=ow.cap.form;have hperm:=hp0.trans hkp;have x1:=(Ext.push h (.cells #[.map (some mb)] 245 (0,0))).trans ow.ext;have hsl:Sl h1 1 (.slice sa sn sc) (S.map iv):=ow.sl;have hSn:S.length=sn:=by simpa using hsl.cells.len
 have hSl:S.length≤100000001:=by rw [hperm.length_eq];have:=r.len;simpa [nos] using this
 refine HO.v (V.len rfl T.el24) rfl 15 rfl rfl ?_;refine HO.v (V.mvI rfl) rfl 16 rfl rfl ?_;refine HO.nil ?_;refine hK7 _ _ ?_;refine HW.block ?_;refine HW.loopm (fun m s hh=>∃(k:Nat) (wv:SV),Has s [(0,ptr p),(3,sv wv),(14,.slice sa sn sc),(15,.int .i64 sn),(16,.int .i64 k)]∧(∃fl,Own h1 hh 3 277 (sv wv) (fl.flatMap fr)∧All2 (FrNw h hh) fl (dirtyS (S.take k) L))∧k≤sn∧m=sn-k) ?_ ?_
 ·exact ⟨_,0,(none,0,0),⟨rfl,rfl,rfl,rfl,rfl,trivial⟩,⟨[],Own.nil (Ext.refl _) _ _,All2.nil⟩,by omega,rfl⟩
 rintro m s hh ⟨k,wv,hs,⟨fl,owf,hall⟩,hkn,rfl⟩ J8 hJ8;refine HW.frame hs fun τ=>?_;refine HW.seq fun K9 hK9=>?_;refine HW.region ?_;refine HO.v (V.lss rfl rfl rfl) rfl 17 rfl rfl ?_;refine HO.nil ?_;refine hK9 _ _ ?_;refine HW.seq fun K10 hK10=>?_;refine HW.condr rfl (fun hc=>?_) (fun hc=>?_)
 ·
  refine HW.exit ?_;refine hK6 _ _ ?_;refine HW.seq fun K11 hK11=>?_;refine HW.region ?_;refine HO.v (V.mvS rfl) rfl 41 rfl rfl ?_;refine HO.v (V.asS rfl) rfl 2 rfl rfl ?_;refine HO.nil ?_;refine hK11 _ _ ?_;refine HW.ret ?_;refine ⟨sv wv,Res.one rfl rfl,S,hperm,hsort,(by have h1:=of_decide_eq_false hc;rw [List.take_of_length_le (by omega)] at hall;exact FrNw.in (x1.trans owf.ext) owf.cap (fun j hj=>Nat.le_trans x1.size (owf.fresh j hj)) hall),x1.trans owf.ext⟩
 refine HW.skip ?_;refine hK10 _ _ ?_;refine HW.seq fun K12 hK12=>?_;have hk2:k<S.length:=by have:=of_decide_eq_true hc;omega
 have rH:=r.chg (x1.trans owf.ext) fun _ _ f=>f;have hnx:=dirty_next (L:=L) hk2;obtain ⟨b,o,rfl,hcel⟩:=ints_cell (hsl.ext owf.ext) hk2;obtain ⟨x,hx⟩:=hit_mem ((hperm.mem_iff).1 (List.getElem_mem hk2));obtain ⟨hxm,hxn⟩:=hit_some hx;obtain ⟨pb,hq,hpb,_⟩:=rH.hpage hxm;rw [hxn] at hq;refine HW.block ?_;refine HW.seq fun K13 hK13=>?_;refine HW.region ?_;refine HO.v (V.indexAddr1 rfl rfl T.el24 T.sz3 (by omega)) rfl 18 rfl rfl ?_;refine HO.v (V.load rfl (load_one T.ag3 (v:=.int .i64 S[k]) hcel)) rfl 19 rfl rfl ?_;refine HO.v (V.asI rfl) rfl 5 rfl rfl ?_;refine HO.nil ?_;refine hK13 _ _ ?_;refine HW.seq fun K14 hK14=>?_;refine HW.region ?_;refine HO.v (V.mvP rfl) rfl 20 rfl rfl ?_;refine HO.v (V.nilCheck rfl) rfl 21 rfl rfl ?_;refine HO.v (V.fieldAddr rfl T.fd249_2) rfl 22 rfl rfl ?_;refine HO.v (V.load rfl (load_one T.ag245 (v:=.map (some mb)) (cell_of rH.hp 2))) rfl 23 rfl rfl ?_;refine HO.v (V.mvI rfl) rfl 24 rfl rfl ?_;refine HO.v (V.lookupE (KV.int .i64) rfl rfl rH.mp.map (v:=ptr (q S[k])) T.mp245 (inB_iff T.in3) T.zr339 ((rH.mp.get S[k]).trans (by rw [hx];rfl))) rfl 25 rfl rfl ?_;refine HO.v (V.asP rfl) rfl 6 rfl rfl ?_;refine HO.nil ?_;refine hK14 _ _ ?_;refine HW.seq fun K15 hK15=>?_;refine HW.region ?_;refine HO.v (V.mvP rfl) rfl 26 rfl rfl ?_;refine HO.v (V.nilCheck rfl) rfl 27 rfl rfl ?_;refine HO.v (V.fieldAddr rfl T.fd341_1) rfl 28 rfl rfl ?_;refine HO.v (V.load rfl (load_one T.ag4 (v:=.bool x.d) (cell_of hq 1))) rfl 29 rfl rfl ?_;refine HO.nil ?_;refine hK15 _ _ ?_;refine HW.condr rfl (fun hc=>?_) (fun hc=>?_)
 ·
  refine HW.skip ?_;refine hK12 _ _ ?_;refine HW.region ?_;refine HO.v (V.add rfl rfl (by omega)) rfl 40 rfl rfl ?_;refine HO.v (V.mvI rfl) rfl 16 rfl rfl ?_;refine HO.nil ?_;refine hJ8 _ _ _ ⟨k+1,wv,⟨rfl,rfl,rfl,rfl,rfl,trivial⟩,⟨fl,owf,(by rw [hnx];unfold dirty1;rw [hx,told_no hc,List.append_nil];exact hall)⟩,by omega,rfl⟩ (by omega)
 refine HW.region ?_;refine HO.v (V.mvS rfl) rfl 30 rfl rfl ?_;refine HO.v (V.mvI rfl) rfl 31 rfl rfl ?_;refine HO.v (V.mvP rfl) rfl 32 rfl rfl ?_;refine HO.v (V.nilCheck rfl) rfl 33 rfl rfl ?_;refine HO.v (V.fieldAddr rfl T.fd341_0) rfl 34 rfl rfl ?_;refine HO.v (V.load rfl (load_one T.ag44 (v:=sv pb) (cell_of hq 0))) rfl 35 rfl rfl ?_;refine HO.c OpC.func rfl 36 rfl rfl (cloneB_any hpb.sl (by have:=r.sm x hxm;omega)) ?_;rintro _ h3 owb;obtain ⟨rb,rfl⟩:=owb.cap.form;refine HO.v (V.build (cs:=#[.int .i64 S[k],.int .i64 0,sv rb]) T.zr277 T.pl277 rfl) rfl 37 rfl rfl ?_;refine HO.e (V.buildSlice [.tmp 37] (cs:=#[.int .i64 S[k],.int .i64 0,sv rb]) T.el252 T.sz277 T.zr277 rfl rfl rfl ⟨rfl,trivial⟩ rfl) rfl 38 rfl rfl ?_;have e4:Ext hh (h3.push (.cells #[.int .i64 S[k],.int .i64 0,sv rb] 277 (0,0))):=owb.ext.trans (Ext.push _ _);have ow4:=owf.push e4;have hfit:((fl.flatMap fr).length+(fr ⟨S[k],0,rb⟩).length)*(39+1)≤140737488355328:=by
  have h1:=hall.1;have h2:=dirty_len (S.take k) L;have h3:(S.take k).length≤S.length:=by simp;omega
  have h4:(fl.flatMap fr).length=fl.length*3:=flat_len fr_len fl;have h5:(fr ⟨S[k],0,rb⟩).length=3:=rfl;omega
 refine HO.a (V.append rfl rfl T.el252 T.sz277 T.by277 T.zr277 rfl ow4.cap (sl_new (n:=1) rfl (by omega)) (fr_one ⟨S[k],0,rb⟩) hfit) rfl 39 rfl rfl ?_;rintro _ h5 hap;obtain ⟨w2,rfl⟩:=hap.cap.form;have ow5:=ow4.app hap;refine HO.v (V.asS rfl) rfl 3 rfl rfl ?_;refine HO.nil ?_;refine hK12 _ _ ?_;refine HW.region ?_;refine HO.v (V.add rfl rfl (by omega)) rfl 40 rfl rfl ?_;refine HO.v (V.mvI rfl) rfl 16 rfl rfl ?_;refine HO.nil ?_;refine hJ8 _ _ _ ⟨k+1,w2,⟨rfl,rfl,rfl,rfl,rfl,trivial⟩,⟨fl++[⟨S[k],0,rb⟩],?_,?_⟩,by omega,rfl⟩ (by omega)
 ·rw [List.flatMap_append];simpa using ow5
 ·rw [hnx];unfold dirty1;rw [hx,told_yes hc];have hty:∀j,blkC (sv wv) j→isT (h3.push (.cells #[.int .i64 S[k],.int .i64 0,sv rb] 277 (0,0))) j 5→False:=fun j hj ht=>by
   have h1:isT (h3.push (.cells #[.int .i64 S[k],.int .i64 0,sv rb] 277 (0,0))) j 277:=ow4.cap.blk hj;exact absurd (h1.eq ht) (by decide)
  refine All2.append (hall.mono fun f y h=>⟨(h.is.chg e4 fun _ g _=>g.elim).chg hap.chg hty,h.nw⟩) (All2.cons ?_ All2.nil);exact ⟨FrCap.chg ⟨hxn.symm,rfl,owb.cap.ext (Ext.push _ _)⟩ hap.chg hty,fun j hj=>Nat.le_trans (x1.trans owf.ext).size (owb.fresh j hj)⟩
def nJ:List UInt8:=[116,111,109,101,46,98,97,99,107]
def mostB (size:Nat):Nat:=16777188 / (size+8)
structure Bk where
 dk:Dk
 size:Nat
 room:Int
 L:List AP
 in_:Bool
 now:Nat
 valid:Nat
 begun:Bool
 nonce:Nat
 kept:List Int
 marked:Nat
 sure:Nat
 bytes:Nat
 broken:Bool
def dirtyB (L:List AP):List AFr:=dirtyS ((nos L).mergeSort fun a b=>decide (a≤b)) L
section
variable {d:Dk} {n:List UInt8}
theorem size_f (h:(sizeN d n).2=false):d.dark=true∨thereN d n=false:=by
 unfold sizeN at h;split at h
 ·assumption
 ·cases h
theorem size_t (h:(sizeN d n).2=true):d.dark=false∧thereN d n=true:=by
 unfold sizeN at h;split at h
 ·cases h
 ·rename_i h1;exact ⟨by cases hd:d.dark<;>simp [hd] at h1⊢,by cases ht:thereN d n<;>simp [ht] at h1⊢⟩
theorem rem_dark (hn:1≤n.length∧n.length≤32) (h:d.dark=true):removeN d n=(d,13):=by
 have h1:wrongN d n []=13:=by unfold wrongN;rw [if_neg (by rintro (h | h | ⟨z,hz,_⟩)<;>first | omega | cases hz),if_pos h]
 unfold removeN;rw [h1];rfl
theorem rem_none (hn:1≤n.length∧n.length≤32) (h:d.dark=false) (ht:thereN d n=false):removeN d n=(d,4):=by
 have h1:wrongN d n []=0:=by unfold wrongN;rw [if_neg (by rintro (h | h | ⟨z,hz,_⟩)<;>first | omega | cases hz),if_neg (by simp [h])]
 unfold removeN;rw [h1];simp [ht]
theorem rem_there (h:thereN d n=true):(removeN d n).2≠4:=by
 unfold removeN wrongN doN powerN
 repeat' split
 all_goals first | (simp_all;done) | (simp only;omega)
theorem bgone_1 (hn:1≤n.length∧n.length≤32) (h:d.dark=true):goneN d n=(d,13):=by unfold goneN;rw [rem_dark hn h];rfl
theorem bgone_2 (hn:1≤n.length∧n.length≤32) (h:(sizeN d n).2=false) (hd:d.dark=false):goneN d n=(d,0):=by
 unfold goneN;rw [rem_none hn hd ((size_f h).resolve_left (by simp [hd]))];rfl
theorem bgone_3 (h:(removeN d n).2=0):goneN d n=syncN (removeN d n).1 n:=if_pos h
theorem bgone_4 (h:(sizeN d n).2=true) (h1:(removeN d n).2≠0):goneN d n=removeN d n:=by
 unfold goneN;rw [if_neg h1,if_neg (rem_there (size_t h).2)]
end
theorem bgone_any {h:Heap} {d:Nat} {n:List UInt8} {r:RD} {E:Nat→Prop} (ok:Hp h (dskI d r).F [dskI d r] [bysI E r.fs] h) (hk:DkOk r.abs) (hcg:r.chg<900000000) (hn:1≤n.length∧n.length≤32) :
  HC Tryz.prog 215 #[.pointer (some ⟨d,0,none⟩),.string (BA n)] h (fun v h'=>∃r' E',v=.int .i64 ((goneN r.abs n).2:Int)∧r'.abs=(goneN r.abs n).1∧DUp h h' d r r' E E'):=by
 refine HC.go Tryz.func215 27 ?_;refine .seq<|.r<|.z .asI<|.nil ?_;refine .seq<|.seq<|.r<|.z .mvP<|.z .mvT<|.k 11 .func (size_anyD (d:=d) (r:=r) (n:=n) (ok.m0))<|.z .mvU<|.z .ex<|.z .ex<|.z .asI<|.z .asB<|.nil ?_;refine .seq<|.r<|.z .mvB<|.z .not<|.nil ?_;refine .cond (fun C0=>?_) (fun C0=>?_)
 ·
  have hs0:(sizeN r.abs n).2=false:=by simpa using C0
  refine .seq<|.seq<|.r<|.z .mvP<|.k 17 .func (dark_any (d:=d) (r:=r) (dsk_parts (ok.m0)).1)<|.nil ?_;refine .cond (fun C1=>?_) (fun C1=>?_)
  ·
   refine .seq<|.r<|.z .asI<|.nil ?_;refine .ret ⟨.int .i64 13,Res.one rfl rfl,⟨r,E,(by rw [bgone_1 hn (show r.abs.dark=true from C1)];rfl),(by rw [bgone_1 hn (show r.abs.dark=true from C1)]),((ok).k1.e1).up (fun _ h=>Or.inl h)⟩⟩
  refine .skip<|.seq<|.r<|.z .asI<|.nil ?_;refine .ret ⟨.int .i64 0,Res.one rfl rfl,⟨r,E,(by rw [bgone_2 hn hs0 (show r.dark=false by simpa using C1)];rfl),(by rw [bgone_2 hn hs0 (show r.dark=false by simpa using C1)]),((ok).k1.e1).up (fun _ h=>Or.inl h)⟩⟩
 have hs0:(sizeN r.abs n).2=true:=by simpa using C0
 refine .skip<|.seq<|.seq<|.r<|.z .mvP<|.z .mvT<|.c' 20 .func (remove_any (d:=d) (r:=r) (E:=E) (n:=n) (ok).loc1 hk (by omega)) ?_;rintro _ η1 ⟨rw1,Ew1,rfl,haw1,upw1⟩;have hzw1:=(ok).chg.size;have ok:=(ok).dsk (d:=d) (r:=r) upw1;have hkw1:DkOk rw1.abs:=by rw [haw1];exact (hk).remove
 have hcw1:rw1.chg≤r.chg+1:=Int.le_trans (Int.le_of_eq (congrArg Dk.chg haw1)) remove_chg;have hnw1:=fun j hj=>(upw1.new j hj).elim ((fun _ h=>Or.inl h) j) fun h1=>Or.inr (Nat.le_trans hzw1 h1);refine .z .asI<|.nil ?_;refine .seq<|.r<|.z .mvI<|.z .neq<|.nil ?_;refine .cd (fun C2=>?_) (fun C2=>?_)
 ·
  refine .seq<|.r<|.z .mvI<|.z .asI<|.nil ?_;refine .ret ⟨.int .i64 ((removeN r.abs n).2:Int),Res.one rfl rfl,⟨rw1,Ew1,(by rw [bgone_4 hs0 (by omega)]),(by rw [bgone_4 hs0 (by omega)];exact haw1),((ok).k1.e1).up hnw1⟩⟩
 refine .skip<|.seq<|.r<|.z .mvP<|.z .mvT<|.c' 26 .func (sync_any (d:=d) (r:=rw1) (E:=Ew1) (n:=n) (ok).loc1 hkw1 (by omega)) ?_;rintro _ η2 ⟨rw2,Ew2,rfl,haw2,upw2⟩;have hzw2:=(ok).chg.size;have ok:=(ok).dsk (d:=d) (r:=rw1) upw2;have hkw2:DkOk rw2.abs:=by rw [haw2];exact (hkw1).sync
 have hcw2:rw2.chg≤rw1.chg+1:=Int.le_trans (Int.le_of_eq (congrArg Dk.chg haw2)) sync_chg;have hnw2:=fun j hj=>(upw2.new j hj).elim (hnw1 j) fun h1=>Or.inr (Nat.le_trans hzw2 h1);refine .z .asI<|.nil ?_;refine .ret ⟨.int .i64 ((syncN rw1.abs n).2:Int),Res.one rfl rfl,⟨rw2,Ew2,(by rw [bgone_3 (by omega),haw1]),(by rw [bgone_3 (by omega),←haw1];exact haw2),((ok).k1.e1).up hnw2⟩⟩
theorem most_any {h:Heap} {n:Nat} (hn:n≤16777216) :
  HC Tryz.prog 184 #[.int .i64 (n:Int)] h (fun v h'=>v=.int .i64 ((mostB n:Nat):Int)∧h'=h):=by
 refine HC.go Tryz.func184 6 ?_;refine .seq<|.r<|.z .asI<|.nil ?_;refine .seq<|.r<|.z .mvI<|.z (.addI (b:=8))<|.z (.quoI (a:=16777188) (b:=(n+8)))<|.z .asI<|.nil ?_;refine .ret ⟨.int .i64 ((16777188 / (n+8):Nat):Int),Res.one rfl rfl,⟨rfl,rfl⟩⟩
open Go Go.HL
def setE (s:List Int):List (Int × Value):=s.map fun k=>(k,.bool true)
theorem setE_get {s:List Int} {k:Int} : (aget (setE s) k).getD (.bool false)=.bool (decide (k∈s)):=by
 induction s with
 | nil=>rfl
 | cons a s ih=>
  unfold setE aget at ih⊢;rw [List.map_cons,List.find?_cons];by_cases h:a=k
  ·simp [h]
  ·have h2:¬k=a:=fun e=>h e.symm;simpa [h,h2] using ih
theorem setE_put {s:List Int} {k:Int} (h:k∉s):aput (setE s) k (.bool true)=setE (s++[k]):=by
 induction s with
 | nil=>rfl
 | cons a s ih=>
  have h1:¬a=k:=fun e=>h (by simp [e]);have h2:=ih fun hs=>h (List.mem_cons_of_mem _ hs);unfold setE at h2⊢;simp only [List.map_cons,List.cons_append,aput,if_neg h1];rw [h2]
theorem jright_any {h:Heap} {z:Int} (hz : -9223372036854775808≤z∧z≤9223372036854775807) :
  HC Tryz.prog 231 #[.int .i64 z] h (fun v h'=>v=.bool (okZ z)∧h'=h):=by
 refine HC.go Tryz.func231 16 ?_;refine .seq<|.r<|.z .asB<|.nil ?_;refine .seq<|.r<|.z .mvI<|.z .geq<|.z .mvB<|.sd (fun G5=>?_) (fun G5=>?_)
 ·
  refine .z .mvI<|.z .leq<|.z .pkt<|.z .mvB<|.sd (fun G9=>?_) (fun G9=>?_)
  ·
   obtain ⟨q,rfl⟩:∃q:Nat,z=(q:Int):=⟨z.toNat,by omega⟩;have hq:=and_pow q (by omega) (by omega);refine .z .mvI<|.z .mvI<|.z .sub<|.z (.bandI q (q-1))<|.z .eql<|.z .pkt<|.z .asB<|.nil ?_;refine .ret ⟨.bool (decide ((((q &&& (q-1)):Nat):Int)=0)),Res.one rfl rfl,⟨by first | exact congrArg _ (by unfold okZ;rw [decide_eq_decide];omega) | exact congrArg _ (by unfold okZ;exact (decide_eq_false (by omega)).symm) | exact congrArg _ (by unfold okZ;exact (decide_eq_true (by omega)).symm),rfl⟩⟩
  refine .y<|.y<|.y<|.y<|.y<|.z .pkf<|.z .asB<|.nil ?_;refine .ret ⟨.bool false,Res.one rfl rfl,⟨by first | exact congrArg _ (by unfold okZ;rw [decide_eq_decide];omega) | exact congrArg _ (by unfold okZ;exact (decide_eq_false (by omega)).symm) | exact congrArg _ (by unfold okZ;exact (decide_eq_true (by omega)).symm),rfl⟩⟩
 refine .y<|.y<|.z .pkf<|.z .mvB<|.y<|.y<|.y<|.y<|.y<|.z .pkf<|.z .asB<|.nil ?_;refine .ret ⟨.bool false,Res.one rfl rfl,⟨by first | exact congrArg _ (by unfold okZ;rw [decide_eq_decide];omega) | exact congrArg _ (by unfold okZ;exact (decide_eq_false (by omega)).symm) | exact congrArg _ (by unfold okZ;exact (decide_eq_true (by omega)).symm),rfl⟩⟩
theorem jstart0_any {h:Heap} {n k s:Nat} (hn:n<4294967296) (hk:k<4294967296) (hs:s<18446744073709551616) :
  HC Tryz.prog 232 #[.int .u64 (n:Int),.int .u64 (k:Int),.int .u64 (s:Int)] h (fun v h'=>Own h h' 1 5 v ((jheadN n k s).map bv)):=by
 have ok:=Hp.nil h none_;refine HC.go Tryz.func232 26 ?_;refine .seq<|.r<|.z .asS<|.nil ?_;refine .seq<|.r<|.a' 8 (.lit [.const (.int .u8 116),.const (.int .u8 111),.const (.int .u8 109),.const (.int .u8 101),.const (.int .u8 32),.const (.int .u8 106),.const (.int .u8 110),.const (.int .u8 108)] (cs:=[.int .u8 116,.int .u8 111,.int .u8 109,.int .u8 101,.int .u8 32,.int .u8 106,.int .u8 110,.int .u8 108]) T.el44 T.sz5 T.zr5 ok ⟨rfl,rfl,rfl,rfl,rfl,rfl,rfl,rfl,trivial⟩) ?_;rintro _ η1 ⟨pb1,rfl,ok,xe⟩;have ok:=ok.cx (ys:=([116,111,109,101,32,106,110,108]:List UInt8).map bv) rfl;refine .a' 9 (.cvL T.el44 T.in5 ok) ?_;rintro _ η2 ⟨rfl,ok,cg⟩;refine .z .mvI<|.c' 11 .func (fixed_any (n:=n) (size:=4) (by omega) (by omega) (by omega)) ?_;rintro _ η3 own;obtain ⟨ya1,yc1,rfl⟩:=own.formB;have ok:=ok.own own;refine .z .mvI<|.c' 13 .func (fixed_any (n:=k) (size:=4) (by omega) (by omega) (by omega)) ?_;rintro _ η4 own;obtain ⟨ya2,yc2,rfl⟩:=own.formB;have ok:=ok.own own;refine .z .mvI<|.c' 15 .func (fixed_any (n:=s) (size:=8) (by omega) (by omega) (by omega)) ?_;rintro _ η5 own;obtain ⟨ya3,yc3,rfl⟩:=own.formB;have ok:=ok.own own;refine .a' 16 (.lit [.tmp 9,.tmp 11,.tmp 13,.tmp 15] (cs:=[.slice (some ⟨pb1,0,none⟩) 8 8,.slice ya1 ((fixedN n 4).length) yc1,.slice ya2 ((fixedN k 4).length) yc2,.slice ya3 ((fixedN s 8).length) yc3]) T.el28 T.sz44 T.zr44 ok ⟨rfl,rfl,rfl,rfl,trivial⟩) ?_;rintro _ η6 ⟨pb2,rfl,ok,xe⟩;refine .c' 17 .func (njoin_any (a:=some ⟨pb2,0,none⟩) (c:=4) (L:=[[116,111,109,101,32,106,110,108],(fixedN n 4),(fixedN k 4),(fixedN s 8)]) (RdL.rows (v:=(some ⟨pb2,0,none⟩,4,4)) (xs:=[(some ⟨pb1,0,none⟩,8,8),(ya1,(fixedN n 4).length,yc1),(ya2,(fixedN k 4).length,yc2),(ya3,(fixedN s 8).length,yc3)]) (ls:=[[116,111,109,101,32,106,110,108],(fixedN n 4),(fixedN k 4),(fixedN s 8)]) ok.m0 ⟨⟨_,_,(RdL.ofCapB (v:=(some ⟨pb1,0,none⟩,8,8)) (l:=[116,111,109,101,32,106,110,108]) ok.m4)⟩,⟨_,_,(RdL.ofCapB (v:=(ya1,(fixedN n 4).length,yc1)) (l:=(fixedN n 4)) ok.m3)⟩,⟨_,_,(RdL.ofCapB (v:=(ya2,(fixedN k 4).length,yc2)) (l:=(fixedN k 4)) ok.m2)⟩,⟨_,_,(RdL.ofCapB (v:=(ya3,(fixedN s 8).length,yc3)) (l:=(fixedN s 8)) ok.m1)⟩,trivial⟩) (by simp [fixedN_len]<;>omega)) ?_;rintro _ η7 own;obtain ⟨ya4,yc4,rfl⟩:=own.formB;have ok:=ok.own own;refine .z .asS<|.nil ?_;refine .seq<|.r<|.z .mvS<|.z .mvS<|?_;have hsm:=sumN_lt ([([[116,111,109,101,32,106,110,108],(fixedN n 4),(fixedN k 4),(fixedN s 8)]).flatten]).flatten;refine .a' 20 (.lit [.tmp 19] (cs:=[.slice ya4 ((([[116,111,109,101,32,106,110,108],(fixedN n 4),(fixedN k 4),(fixedN s 8)]).flatten).length) yc4]) T.el28 T.sz44 T.zr44 ok ⟨rfl,trivial⟩) ?_;rintro _ η8 ⟨pb3,rfl,ok,xe⟩;refine .c' 21 .func (sum_any (a:=some ⟨pb3,0,none⟩) (c:=1) (L:=[([[116,111,109,101,32,106,110,108],(fixedN n 4),(fixedN k 4),(fixedN s 8)]).flatten]) (RdL.rows (v:=(some ⟨pb3,0,none⟩,1,1)) (xs:=[(ya4,(([[116,111,109,101,32,106,110,108],(fixedN n 4),(fixedN k 4),(fixedN s 8)]).flatten).length,yc4)]) (ls:=[([[116,111,109,101,32,106,110,108],(fixedN n 4),(fixedN k 4),(fixedN s 8)]).flatten]) ok.m0 ⟨⟨_,_,(RdL.ofCapB (v:=(ya4,(([[116,111,109,101,32,106,110,108],(fixedN n 4),(fixedN k 4),(fixedN s 8)]).flatten).length,yc4)) (l:=(([[116,111,109,101,32,106,110,108],(fixedN n 4),(fixedN k 4),(fixedN s 8)]).flatten)) ok.m1)⟩,trivial⟩)) ?_;rintro _ η9 ⟨rfl,hx⟩;have ok:=ok.ext hx;refine .z (.cvs T.in130 T.in89 (M:=18446744073709551616) rfl rfl)<|.c' 23 .func (fixed_any (n:=(sumN ([([[116,111,109,101,32,106,110,108],(fixedN n 4),(fixedN k 4),(fixedN s 8)]).flatten]).flatten)) (size:=4) (by omega) (by omega) (by omega)) ?_;rintro _ η10 own;obtain ⟨ya5,yc5,rfl⟩:=own.formB;have ok:=ok.own own;refine .a' 24 (.lit [.tmp 18,.tmp 23] (cs:=[.slice ya4 ((([[116,111,109,101,32,106,110,108],(fixedN n 4),(fixedN k 4),(fixedN s 8)]).flatten).length) yc4,.slice ya5 ((fixedN (sumN ([([[116,111,109,101,32,106,110,108],(fixedN n 4),(fixedN k 4),(fixedN s 8)]).flatten]).flatten) 4).length) yc5]) T.el28 T.sz44 T.zr44 ok ⟨rfl,rfl,trivial⟩) ?_;rintro _ η11 ⟨pb4,rfl,ok,xe⟩;refine .c' 25 .func (njoin_any (a:=some ⟨pb4,0,none⟩) (c:=2) (L:=[([[116,111,109,101,32,106,110,108],(fixedN n 4),(fixedN k 4),(fixedN s 8)]).flatten,(fixedN (sumN ([([[116,111,109,101,32,106,110,108],(fixedN n 4),(fixedN k 4),(fixedN s 8)]).flatten]).flatten) 4)]) (RdL.rows (v:=(some ⟨pb4,0,none⟩,2,2)) (xs:=[(ya4,(([[116,111,109,101,32,106,110,108],(fixedN n 4),(fixedN k 4),(fixedN s 8)]).flatten).length,yc4),(ya5,(fixedN (sumN ([([[116,111,109,101,32,106,110,108],(fixedN n 4),(fixedN k 4),(fixedN s 8)]).flatten]).flatten) 4).length,yc5)]) (ls:=[([[116,111,109,101,32,106,110,108],(fixedN n 4),(fixedN k 4),(fixedN s 8)]).flatten,(fixedN (sumN ([([[116,111,109,101,32,106,110,108],(fixedN n 4),(fixedN k 4),(fixedN s 8)]).flatten]).flatten) 4)]) ok.m0 ⟨⟨_,_,(RdL.ofCapB (v:=(ya4,(([[116,111,109,101,32,106,110,108],(fixedN n 4),(fixedN k 4),(fixedN s 8)]).flatten).length,yc4)) (l:=(([[116,111,109,101,32,106,110,108],(fixedN n 4),(fixedN k 4),(fixedN s 8)]).flatten)) ok.m3)⟩,⟨_,_,(RdL.ofCapB (v:=(ya5,(fixedN (sumN ([([[116,111,109,101,32,106,110,108],(fixedN n 4),(fixedN k 4),(fixedN s 8)]).flatten]).flatten) 4).length,yc5)) (l:=(fixedN (sumN ([([[116,111,109,101,32,106,110,108],(fixedN n 4),(fixedN k 4),(fixedN s 8)]).flatten]).flatten) 4)) ok.m1)⟩,trivial⟩) (by simp [fixedN_len]<;>omega)) ?_;rintro _ η12 own;obtain ⟨ya6,yc6,rfl⟩:=own.formB;have ok:=ok.own own;refine .z .asS<|.nil ?_;refine .ret ⟨.slice ya6 ((([([[116,111,109,101,32,106,110,108],(fixedN n 4),(fixedN k 4),(fixedN s 8)]).flatten,(fixedN (sumN ([([[116,111,109,101,32,106,110,108],(fixedN n 4),(fixedN k 4),(fixedN s 8)]).flatten]).flatten) 4)]).flatten).length) yc6,Res.one rfl rfl,by have:=ok.toOwn;simpa [jheadN,jfrontN,jsign] using this⟩
theorem jstart_any {h:Heap} {n k s:Nat} (hn:n<4294967296) (hk:k<4294967296) (hs:s<18446744073709551616) :
  HC Tryz.prog 212 #[.int .i64 (n:Int),.int .i64 (k:Int),.int .u64 (s:Int)] h (fun v h'=>(okJ n k=false∧v=.tuple #[.slice none 0 0,.int .i64 1]∧Ext h h')∨(okJ n k=true∧∃w,v=.tuple #[w,.int .i64 0]∧Own h h' 1 5 w ((jheadN n k s).map bv))):=by
 have ok:=Hp.nil h none_;refine HC.go Tryz.func212 31 ?_;refine .seq<|.r<|.z .asS<|.z .asI<|.nil ?_;refine .seq<|.seq<|.r<|.z .mvI<|.k 9 .func (jright_any (z:=(n:Int)) (by omega))<|.z .not<|.z .mvB<|.spl (fun G11=>?_) (fun G11=>?_)
 ·
  have hz:okZ (n:Int)=false:=by simpa using G11
  refine .y<|.y<|.z .pkt<|.z .mvB<|.y<|.y<|.z .pkt<|.z .mvB<|.y<|.y<|.y<|.y<|.z .pkt<|.nil ?_;refine .ct<|.seq<|.r<|.z .asS<|.z .asI<|.nil ?_;refine .ret ⟨.tuple #[.slice none 0 0,.int .i64 1],Res.two rfl rfl rfl,.inl ⟨by first | exact okJ_1 hz | exact okJ_2 (by omega) | exact okJ_3 (by omega) | exact okJ_3 (fun h9=>by have:=(okZ_quo (k:=k) hz).2 h9;omega),rfl,ok.chg⟩⟩
 have hz:okZ (n:Int)=true:=by simpa using G11
 refine .z .mvI<|.z .lss<|.z .pkf<|.z .mvB<|.sd (fun G15=>?_) (fun G15=>?_)
 ·
  refine .y<|.y<|.z .pkt<|.z .mvB<|.y<|.y<|.y<|.y<|.z .pkt<|.nil ?_;refine .ct<|.seq<|.r<|.z .asS<|.z .asI<|.nil ?_;refine .ret ⟨.tuple #[.slice none 0 0,.int .i64 1],Res.two rfl rfl rfl,.inl ⟨by first | exact okJ_1 hz | exact okJ_2 (by omega) | exact okJ_3 (by omega) | exact okJ_3 (fun h9=>by have:=(okZ_quo (k:=k) hz).2 h9;omega),rfl,ok.chg⟩⟩
 refine .z .mvI<|.z .gtr<|.z .pkf<|.z .mvB<|.sd (fun G19=>?_) (fun G19=>?_)
 ·
  refine .y<|.y<|.y<|.y<|.z .pkt<|.nil ?_;refine .ct<|.seq<|.r<|.z .asS<|.z .asI<|.nil ?_;refine .ret ⟨.tuple #[.slice none 0 0,.int .i64 1],Res.two rfl rfl rfl,.inl ⟨by first | exact okJ_1 hz | exact okJ_2 (by omega) | exact okJ_3 (by omega) | exact okJ_3 (fun h9=>by have:=(okZ_quo (k:=k) hz).2 h9;omega),rfl,ok.chg⟩⟩
 refine .z .mvI<|.z .mvI<|?_;have hmul:=okZ_mul (n:=n) (k:=k) hz (by omega);refine .z .mulI<|.z .gtr<|.z .pkf<|.nil ?_;refine .cd (fun C0=>?_) (fun C0=>?_)
 ·
  refine .seq<|.r<|.z .asS<|.z .asI<|.nil ?_;refine .ret ⟨.tuple #[.slice none 0 0,.int .i64 1],Res.two rfl rfl rfl,.inl ⟨by first | exact okJ_1 hz | exact okJ_2 (by omega) | exact okJ_3 (by omega) | exact okJ_3 (fun h9=>by have:=(okZ_quo (k:=k) hz).2 h9;omega),rfl,ok.chg⟩⟩
 refine .skip<|.seq<|.r<|.z .mvI<|.z (.cvs T.in130 T.in3 (M:=18446744073709551616) rfl rfl)<|.z .mvI<|.z (.cvs T.in130 T.in3 (M:=18446744073709551616) rfl rfl)<|.z .mvI<|.c' 30 .func (jstart0_any (n:=n) (k:=k) (s:=s) (by omega) (by omega) (by omega)) ?_;rintro _ η1 own;obtain ⟨ya1,yc1,rfl⟩:=own.formB;have ok:=ok.own own;refine .z .asS<|.z .asI<|.nil ?_;refine .ret ⟨.tuple #[.slice ya1 ((jheadN n k s).length) yc1,.int .i64 0],Res.two rfl rfl rfl,.inr ⟨okJ_t hz (by omega) (by first | omega | exact (okZ_quo hz).1 (by omega)),_,rfl,by have:=ok.toOwn;simpa [jheadN,jfrontN,jsign] using this⟩⟩
theorem jfoot_any {h:Heap} {F E:Nat→Prop} {s:Nat} {a:Option Addr} {c:Nat} {l:List UInt8} (hs:s<18446744073709551616) (hl:RdL h F E (a,l.length,c) l) :
  HC Tryz.prog 213 #[.int .u64 (s:Int),.slice a l.length c] h (fun v h'=>Own h h' 1 5 v ((jfootN s l).map bv)):=by
 have hc2:=hl.m;have hc1:l.length≤c:=hl.c;simp only at hc2;have ok:=(Hp.nil h none_).arg hl;refine HC.go Tryz.func213 12 ?_;refine .seq<|.r<|.z .asS<|.nil ?_;refine .seq<|.r<|.z .mvI<|.c' 6 .func (fixed_any (n:=s) (size:=8) (by omega) (by omega) (by omega)) ?_;rintro _ η1 own;obtain ⟨ya1,yc1,rfl⟩:=own.formB;have ok:=ok.own own;refine .z .mvS<|.a' 8 (.lit [.tmp 6,.tmp 7] (cs:=[.slice ya1 ((fixedN s 8).length) yc1,.slice a l.length c]) T.el28 T.sz44 T.zr44 ok ⟨rfl,rfl,trivial⟩) ?_;rintro _ η2 ⟨pb1,rfl,ok,xe⟩;have hsm:=sumN_lt ([fixedN s 8,l]).flatten;refine .c' 9 .func (sum_any (a:=some ⟨pb1,0,none⟩) (c:=2) (L:=[(fixedN s 8),l]) (RdL.rows (v:=(some ⟨pb1,0,none⟩,2,2)) (xs:=[(ya1,(fixedN s 8).length,yc1),(a,l.length,c)]) (ls:=[(fixedN s 8),l]) ok.m0 ⟨⟨_,_,(RdL.ofCapB (v:=(ya1,(fixedN s 8).length,yc1)) (l:=(fixedN s 8)) ok.m1)⟩,⟨_,_,ok.r0⟩,trivial⟩)) ?_;rintro _ η3 ⟨rfl,hx⟩;have ok:=ok.ext hx;refine .z (.cvs T.in130 T.in89 (M:=18446744073709551616) rfl rfl)<|.c' 11 .func (fixed_any (n:=(sumN ([(fixedN s 8),l]).flatten)) (size:=4) (by omega) (by omega) (by omega)) ?_;rintro _ η4 own;obtain ⟨ya2,yc2,rfl⟩:=own.formB;have ok:=ok.own own;refine .z .asS<|.nil ?_;refine .ret ⟨.slice ya2 ((fixedN (sumN ([(fixedN s 8),l]).flatten) 4).length) yc2,Res.one rfl rfl,by have:=ok.toOwn;simpa [jfootN] using this⟩
theorem jentry_any {h:Heap} {F E:Nat→Prop} {s:Nat} {z1 z2:Int} {a:Option Addr} {c:Nat} {l:List UInt8} (hs:s<18446744073709551616) (hN:l.length≤10000000) (hl:RdL h F E (a,l.length,c) l) :
  HC Tryz.prog 317 #[.int .u64 (s:Int),.agg #[.int .i64 z1,.int .i64 z2,.slice a l.length c]] h (fun v h'=>(okE ⟨z1,z2,l⟩=false∧v=.tuple #[.slice none 0 0,.int .i64 1]∧Ext h h')∨(okE ⟨z1,z2,l⟩=true∧∃w,v=.tuple #[w,.int .i64 0]∧Own h h' 1 5 w ((jputN s z1.toNat l).map bv))):=by
 have hc2:=hl.m;have hc1:l.length≤c:=hl.c;simp only at hc2;have ok:=(Hp.nil h none_).arg hl;refine HC.go Tryz.func317 41 ?_;refine .seq<|.r<|.a' 3 (.bxA (cs:=[.int .i64 z1,.int .i64 z2,.slice a l.length c]) ok) ?_;rintro _ η1 ⟨pb1,rfl,ok,xe⟩;refine .z .asS<|.z .asI<|.nil ?_;refine .seq<|.seq<|.r<|.z (.fa T.fd277_0)<|.z (.ldx T.ag3 ok.m0)<|.z .lss<|.z .mvB<|.sd (fun G10=>?_) (fun G10=>?_)
 ·
  refine .y<|.y<|.y<|.z .pkt<|.z .mvB<|.y<|.y<|.y<|.z .pkt<|.z .mvB<|.y<|.y<|.y<|.y<|.y<|.z .pkt<|.nil ?_;refine .ct<|.seq<|.r<|.z .asS<|.z .asI<|.nil ?_;refine .ret ⟨.tuple #[.slice none 0 0,.int .i64 1],Res.two rfl rfl rfl,.inl ⟨by first | exact okE_1 (by omega) | exact okE_2 (by simpa using C0),rfl,ok.chg⟩⟩
 refine .z (.fa T.fd277_0)<|.z (.ldx T.ag3 ok.m0)<|.z .gtr<|.z .pkf<|.z .mvB<|.sd (fun G15=>?_) (fun G15=>?_)
 ·
  refine .y<|.y<|.y<|.z .pkt<|.z .mvB<|.y<|.y<|.y<|.y<|.y<|.z .pkt<|.nil ?_;refine .ct<|.seq<|.r<|.z .asS<|.z .asI<|.nil ?_;refine .ret ⟨.tuple #[.slice none 0 0,.int .i64 1],Res.two rfl rfl rfl,.inl ⟨by first | exact okE_1 (by omega) | exact okE_2 (by simpa using C0),rfl,ok.chg⟩⟩
 refine .z (.fa T.fd277_1)<|.z (.ldx T.ag3 ok.m0)<|.z .neq<|.z .pkf<|.z .mvB<|.sd (fun G20=>?_) (fun G20=>?_)
 ·
  refine .y<|.y<|.y<|.y<|.y<|.z .pkt<|.nil ?_;refine .ct<|.seq<|.r<|.z .asS<|.z .asI<|.nil ?_;refine .ret ⟨.tuple #[.slice none 0 0,.int .i64 1],Res.two rfl rfl rfl,.inl ⟨by first | exact okE_1 (by omega) | exact okE_2 (by simpa using C0),rfl,ok.chg⟩⟩
 refine .z (.fa T.fd277_2)<|.z (.ldx T.ag44 ok.m0)<|.z (.len T.el44)<|.k 24 .func (jright_any (z:=(l.length:Int)) (by omega))<|.z .not<|.z .pkf<|.nil ?_;refine .cond (fun C0=>?_) (fun C0=>?_)
 ·
  refine .seq<|.r<|.z .asS<|.z .asI<|.nil ?_;refine .ret ⟨.tuple #[.slice none 0 0,.int .i64 1],Res.two rfl rfl rfl,.inl ⟨by first | exact okE_1 (by omega) | exact okE_2 (by simpa using C0),rfl,ok.chg⟩⟩
 refine .skip<|.seq<|?_;obtain ⟨p,rfl⟩:∃p:Nat,z1=(p:Int):=⟨z1.toNat,by omega⟩;refine .a 9 (fun fl hh=>Hp h none_ [boxI pb1 277 [.int .i64 (p:Int),.int .i64 z2,.slice a l.length c]] [rdI (fun j=>F j∧j<h.size) (fun j=>E j∧j<h.size) (a,l.length,c) l] hh) mixed ?_;have hS:=ok;refine .g 0 false rfl 27 hS (fun _=>.fa T.fd277_0)<|.lw 1 false rfl 28 hS (fun _ _ hS=>.ldx T.ag3 hS.m0)<|.g 2 false rfl 29 hS (fun _=>.cvs T.in130 T.in3 (M:=18446744073709551616) rfl rfl)<|.g 4 false rfl 31 hS (fun _=>.fa T.fd277_2)<|.lw 5 false rfl 32 hS (fun _ _ hS=>.ldx T.ag44 hS.m0)<|.o1 3<|.c' false rfl 30 .func (fixed_any (n:=p) (size:=4) (by omega) (by omega) (by omega)) ?_;rintro _ η2 own;obtain ⟨ya1,yc1,rfl⟩:=own.formB;have ok:=ok.own own;refine ⟨ok.n1.k1,?_⟩;have hS:=ok.n1.k1;refine .o1 6<|.a' false rfl 33 (.lit [.tmp 30,.tmp 32] (cs:=[.slice ya1 ((fixedN p 4).length) yc1,.slice a l.length c]) T.el28 T.sz44 T.zr44 ok ⟨rfl,rfl,trivial⟩) ?_;rintro _ η3 ⟨pb2,rfl,ok,xe⟩;refine ⟨ok.n2.k1,?_⟩;have hS:=ok.n2.k1;refine .o1 7<|.c' false rfl 34 .func (njoin_any (a:=some ⟨pb2,0,none⟩) (c:=2) (L:=[(fixedN p 4),l]) (RdL.rows (v:=(some ⟨pb2,0,none⟩,2,2)) (xs:=[(ya1,(fixedN p 4).length,yc1),(a,l.length,c)]) (ls:=[(fixedN p 4),l]) ok.m0 ⟨⟨_,_,(RdL.ofCapB (v:=(ya1,(fixedN p 4).length,yc1)) (l:=(fixedN p 4)) ok.m1)⟩,⟨_,_,ok.r0⟩,trivial⟩) (by simp [fixedN_len,jfootN]<;>omega)) ?_;rintro _ η4 own;obtain ⟨ya2,yc2,rfl⟩:=own.formB;have ok:=ok.own own;refine ⟨ok.n3.k1,?_⟩;have hS:=ok.n3.k1;refine .g 8 false rfl 6 hS (fun _=>.asS)<|.e ?_;refine .seq<|.r<|.z .mvS<|.z .mvI<|.z .mvS<|.c' 38 .func (jfoot_any (s:=s) (by omega) (a:=ya2) (c:=yc2) (l:=([(fixedN p 4),l]).flatten) (RdL.ofCapB (v:=(ya2,(([(fixedN p 4),l]).flatten).length,yc2)) (l:=(([(fixedN p 4),l]).flatten)) ok.m0)) ?_;rintro _ η5 own;obtain ⟨ya3,yc3,rfl⟩:=own.formB;have ok:=ok.own own;refine .a' 39 (.lit [.tmp 35,.tmp 38] (cs:=[.slice ya2 ((([(fixedN p 4),l]).flatten).length) yc2,.slice ya3 ((jfootN s (([(fixedN p 4),l]).flatten)).length) yc3]) T.el28 T.sz44 T.zr44 ok ⟨rfl,rfl,trivial⟩) ?_;rintro _ η6 ⟨pb3,rfl,ok,xe⟩;refine .c' 40 .func (njoin_any (a:=some ⟨pb3,0,none⟩) (c:=2) (L:=[([(fixedN p 4),l]).flatten,(jfootN s (([(fixedN p 4),l]).flatten))]) (RdL.rows (v:=(some ⟨pb3,0,none⟩,2,2)) (xs:=[(ya2,(([(fixedN p 4),l]).flatten).length,yc2),(ya3,(jfootN s (([(fixedN p 4),l]).flatten)).length,yc3)]) (ls:=[([(fixedN p 4),l]).flatten,(jfootN s (([(fixedN p 4),l]).flatten))]) ok.m0 ⟨⟨_,_,(RdL.ofCapB (v:=(ya2,(([(fixedN p 4),l]).flatten).length,yc2)) (l:=(([(fixedN p 4),l]).flatten)) ok.m2)⟩,⟨_,_,(RdL.ofCapB (v:=(ya3,(jfootN s (([(fixedN p 4),l]).flatten)).length,yc3)) (l:=(jfootN s (([(fixedN p 4),l]).flatten))) ok.m1)⟩,trivial⟩) (by simp [fixedN_len,jfootN]<;>omega)) ?_;rintro _ η7 own;obtain ⟨ya4,yc4,rfl⟩:=own.formB;have ok:=ok.own own;refine .z .asS<|.z .asI<|.nil ?_;refine .ret ⟨.tuple #[.slice ya4 ((([([(fixedN p 4),l]).flatten,(jfootN s (([(fixedN p 4),l]).flatten))]).flatten).length) yc4,.int .i64 0],Res.two rfl rfl rfl,.inr ⟨okE_t (by simpa using C0) (by omega),_,rfl,by have:=ok.toOwn;simpa [jputN,jbodyN,jfootN] using this⟩⟩
theorem okJ_le {n k:Nat} (h:okJ n k=true):n≤4096∧k≤1048576∧n*k≤16777216∧okSz n=true:=by
 simp only [okJ,Bool.and_eq_true,decide_eq_true_eq] at h;have:=h.1;simp only [okSz,Bool.or_eq_true,beq_iff_eq] at this;exact ⟨by omega,h.2.1,h.2.2,h.1⟩
@[reducible] def cacL (c:Nat) (F:Nat→Prop) (room:Int) (L:List AP):Itm:=⟨fun h=>CRep h F c room L,F,fun _ _ _ cg d q=>q.chg cg d⟩
theorem lpage {L:List AP} {no:Int} {x:AP} (h:hit no L=some x):gotL no L=x.b:=by unfold gotL;rw [h];rfl
section
variable {h:Heap} {c:Nat} {F:Nat→Prop} {room:Int} {L:List AP} {no:Int} {l:List UInt8}
theorem lget_any (q:CRep h F c room L) :
  HC Tryz.prog 287 #[.pointer (some ⟨c,0,none⟩),.int .i64 no] h (fun v h'=>∃F',(∃a c' x,v=.tuple #[.slice a x.b.length c',.bool true]∧hit no L=some x∧Hp h F [capI 1 5 (a,x.b.length,c') (x.b.map bv),cacL c F' room (getL no L)] [] h')∨
   (∃a n m,v=.tuple #[.slice a n m,.bool false]∧hit no L=none∧Hp h F [cacL c F' room (getL no L)] [] h')):=by
 refine (get_any q no).mono fun v h' ⟨g,F',hv,hr,hs,hcap,hg⟩=>⟨F',?_⟩;have o1:Hp h F [cacL c F' room (getL no L)] [] h':=Step.hp (x:=cacL c F room L) (it:=cacL c F' room (getL no L)) q q.lt rfl hs hr hr.lt rfl;cases hh:hit no L with
 | none=>obtain ⟨ga,gn,gc⟩:=g;exact .inr ⟨ga,gn,gc,by rw [hv,hh];rfl,rfl,o1⟩
 | some x=>
  rw [lpage hh] at hcap;obtain ⟨a,n,c'⟩:=g;have hn:n=x.b.length:=Cap.lenB hcap;subst hn;refine .inl ⟨a,c',x,by rw [hv,hh];rfl,rfl,⟨o1.chg,fun i hi=>?_,by simp,?_,by simp⟩⟩
  ·rcases List.mem_cons.1 hi with rfl | hi
   ·exact ⟨hcap,fun j hj=>⟨hcap.lt hj,.inr (hg j hj).1⟩⟩
   ·exact o1.m i hi
  ·exact List.pairwise_cons.2 ⟨fun b hb j hj=>by rw [List.mem_singleton.1 hb];exact (hg j hj).2,List.pairwise_singleton _ _⟩
theorem lput_any {a:Option Addr} {n:Nat} {Fb Eb:Nat→Prop} {d:Bool} (q:CRep h F c room L) (hb:RdL h Fb Eb (a,l.length,n) l) (hbl:l.length≤1000000) (hr:1≤room) (hlen:L.length≤100000000) :
  HC Tryz.prog 288 #[.pointer (some ⟨c,0,none⟩),.int .i64 no,.slice a l.length n,.bool d] h (fun v h'=>∃F',Hp h F [cacL c F' room (putL room no l d L)] [] h'∧FrIn h' F' v (putA room no l d L)):=
 (put_anyF q hlen no (bs:=(a,l.length,n)) hb.by hbl d hr).mono fun v h' ⟨F',hr,hst,hf⟩=>⟨F',Step.hp (x:=cacL c F room L) (it:=cacL c F' room (putL room no l d L)) q q.lt rfl hst hr hr.lt rfl,hf⟩
end
structure RK where
 in_:Bool
 now:Nat
 valid:Nat
 begun:Bool
 nonce:Nat
 km:Option Nat
 kept:List Int
 marked:Nat
 d:Nat
 rd:RD
 size:Nat
 c:Nat
 sure:Nat
 bytes:Nat
 broken:Bool
def kepI (km:Option Nat) (kept:List Int):Itm:=match km with
 | none=>anyI none_ (fun _=>True) (fun _ _ _ _ _ _=>trivial)
 | some m=>mapI (Value.int .i64) m (setE kept)
end Go.Proofs.YtndlpekckpdncaaGreat
namespace Go.HL
open Go Go.Proofs.YtndlpekckpdncaaGreat
section
variable {h0 h h':Heap} {D G:Nat→Prop} {M R:List Itm} {p:Nat} {r r':RK} {E E':Nat→Prop}
theorem Hp.kepNil {kept:List Int} (ok:Hp h0 D M R h):Hp h0 D (kepI none kept::M) R h:=ok.newM (Ext.refl _) _ trivial (fun _ f=>f.elim)
theorem Hp.kepSome {m:Nat} {kept:List Int} (ok:Hp h0 D (kepI (some m) kept::M) R h):Hp h0 D (mapI (Value.int .i64) m (setE kept)::M) R h:=ok
end
end Go.HL
namespace Go.Proofs.YtndlpekckpdncaaGreat
open Go Go.HL
section
variable {A:Bk} {s:List (List UInt8)} {cur:Option (List UInt8)}
theorem dirtyS_sub {S:List Int} {L:List AP} : ((dirtyS S L).map (·.page)).Sublist S:=by
 induction S with
 | nil=>exact .slnil
 | cons k S ih=>
  unfold dirtyS at ih⊢;rw [List.flatMap_cons,List.map_append];have h:((dirty1 L k).map (·.page)).Sublist [k]:=by
   unfold dirty1 toldL;cases hh:hit k L with
   | none=>simp
   | some x=>
    have:=(hit_some hh).2;by_cases hd:x.d=true
    ·simp only [hd,if_true,List.map_cons,List.map_nil,this];exact List.Sublist.refl _
    ·simp [hd]
  exact h.append ih
theorem dirtyB_perm {L:List AP} : ((nos L).mergeSort fun a b=>decide (a≤b)).Perm (nos L):=List.mergeSort_perm _ _
end
open Go Go.HL
theorem getD_set {P:List (List UInt8)} {k i:Nat} {b:List UInt8} (hk:k<P.length):(P.set k b).getD i []=if i=k then b else P.getD i []:=by
 rw [List.getD_eq_getElem?_getD,List.getElem?_set,List.getD_eq_getElem?_getD];by_cases h:k=i
 ·subst h;simp [hk]
 ·rw [if_neg h,if_neg fun e=>h e.symm]
theorem set_same {P:List (List UInt8)} {k:Nat} (hk:k<P.length):P.set k (P.getD k [])=P:=by
 have:P.getD k []=P[k]:=by simp [hk]
 rw [this];simp
theorem hit_of {L:List AP} (hn:(nos L).Nodup) {x:AP} (hx:x∈L):hit x.no L=some x:=by
 obtain ⟨y,hy⟩:=hit_mem (List.mem_map.2 ⟨x,hx,rfl⟩:x.no∈nos L);rw [hy,nos_inj hn (hit_some hy).1 hx (hit_some hy).2]
theorem bgetL_mem {L:List AP} (hn:(nos L).Nodup) {no:Int} {y:AP} : y∈getL no L↔y∈L:=by
 unfold getL;cases h:hit no L with
 | none=>exact Iff.rfl
 | some x=>
  have:=touch_mem hn (hit_some h).1 y;rw [(hit_some h).2] at this;exact this
theorem bgetL_nd {L:List AP} (hn:(nos L).Nodup) {no:Int} : (nos (getL no L)).Nodup:=by
 unfold getL;cases h:hit no L with
 | none=>exact hn
 | some x=>have:=nd_touch (x:=x) hn;rw [(hit_some h).2] at this;exact this
theorem put_cases {L:List AP} {room no:Int} {b:List UInt8} {d:Bool} (hno:1≤no) (hr:1≤room):∃ev:Option AP,putL1 no b d L=putL room no b d L++ev.toList∧putA room no b d L=toldL ev∧(∀x,ev=some x→x∈rid no L)∧(((putL1 no b d L).length:Int)≤room+1→((putL room no b d L).length:Int)≤room):=by
 have eL:putL room no b d L=if ((putL1 no b d L).length:Int)≤room then putL1 no b d L else (putL1 no b d L).dropLast:=if_neg (by omega)
 have eA:putA room no b d L=if ((putL1 no b d L).length:Int)≤room then [] else toldL (putL1 no b d L).getLast?:=if_neg (by omega)
 rw [eL,eA];by_cases h:((putL1 no b d L).length:Int)≤room
 ·rw [if_pos h,if_pos h];exact ⟨none,by simp,rfl,fun x h=>(by cases h),fun _=>h⟩
 ·rw [if_neg h,if_neg h];have hl:(putL1 no b d L).length=(rid no L).length+1:=by simp [putL1]
  have hrn:rid no L≠[]:=fun e=>by rw [e] at hl;simp at hl;omega
  obtain ⟨x,hx⟩:∃x,(putL1 no b d L).getLast? = some x:=by
   cases e:(putL1 no b d L).getLast? with
   | some x=>exact ⟨x,rfl⟩
   | none=>rw [List.getLast?_eq_none_iff] at e;simp [putL1] at e
  obtain ⟨M,hM⟩:=List.getLast?_eq_some_iff.1 hx;refine ⟨some x,by rw [hM];simp,by rw [hx],fun y hy=>?_,fun h2=>by rw [List.length_dropLast];omega⟩;cases hy
  cases M with
  | nil=>
   have:=congrArg List.length hM;rw [hl] at this;simp at this;exact absurd this hrn
  | cons m M=>
   have h3:(⟨no,b,d || wasD no L⟩::rid no L:List AP)=m::(M++[x]):=hM;injection h3 with _ h3;rw [h3];simp
section
variable {A:Bk} {s P:List (List UInt8)} {no:Nat} {b:List UInt8} {d:Bool}
theorem wasD_of {L:List AP} (hn:(nos L).Nodup) {no:Int} (h:wasD no L=false):∀x∈L,x.no=no→x.d=false:=fun x hx e=>by
 have:=hit_of hn hx;rw [e] at this;unfold wasD at h;rw [this] at h;exact h
end
open Go Go.HL
theorem srt_uniq:∀ {a b:List Int},a.Perm b→a.Pairwise (·≤·)→b.Pairwise (·≤·)→a=b
 | [],b,p,_,_=>(List.nil_perm.1 p).symm
 | x::a,[],p,_,_=>absurd p.length_eq (by simp)
 | x::a,y::b,p,ha,hb=>by
  have h1:=List.pairwise_cons.1 ha;have h2:=List.pairwise_cons.1 hb;have e:x=y:=by
   rcases List.mem_cons.1 (p.mem_iff.1 List.mem_cons_self) with e | e
   ·exact e
   ·rcases List.mem_cons.1 (p.symm.mem_iff.1 List.mem_cons_self) with f | f
    ·exact f.symm
    ·have:=h2.1 x e;have:=h1.1 y f;omega
  subst e;rw [srt_uniq ((List.perm_cons x).1 p) h1.2 h2.2]
theorem dirty_srt {S:List Int} {L:List AP} (hp:S.Perm (nos L)) (hs:S.Pairwise (·≤·)):dirtyS S L=dirtyB L:=by
 unfold dirtyB;rw [srt_uniq (hp.trans dirtyB_perm.symm) hs ((List.pairwise_mergeSort (le:=fun a b=>decide (a≤b)) (fun a b c h1 h2=>by simp only [decide_eq_true_eq] at *;omega) (fun a b=>by simp only [Bool.or_eq_true,decide_eq_true_eq];omega) (nos L)).imp fun h=>of_decide_eq_true h)]
theorem dirtyB_len {L:List AP} : (dirtyB L).length≤L.length:=by
 have:=dirtyS_sub (S:=(nos L).mergeSort fun a b=>decide (a≤b)) (L:=L);have h1:=this.length_le;rw [List.length_map,List.length_mergeSort] at h1;simpa [nos,dirtyB] using h1
def unG (l:List AFr) (O:List Nat):List AFr:=O.map fun i=>l.getD i ⟨0,0,[]⟩
theorem unG_fr {l:List AFr} {O:List Nat} (h:∀i∈O,i<l.length):O.map (frN (l.map AFr.fr))=(unG l O).map AFr.fr:=by
 unfold unG;rw [List.map_map];exact List.map_congr_left fun i hi=>by have:=h i hi;simp [frN,this]
theorem _root_.Go.HL.Hp.idxR {h0 h:Heap} {D F E:Nat→Prop} {M R:List Itm} {x y:SV} {l:List Fr} {xa:Nat→Option Addr} {xc:Nat→Nat} {O:List Nat} (ok:Hp h0 D (capI 3 277 y (O.flatMap (vfN l xa xc))::M) (frsI F E x l xa xc::R) h) (hO:∀i∈O,i<l.length) :
  Hp h0 D M (rdI (fun j=>blkC (sv y) j∨E j) (fun j=>blkC (sv y) j∨E j) y (O.map (frN l))::frsI F E x l xa xc::R) h:=by
 have hc:=ok.m0;have hf:=ok.r0;have hrd:RdL h (blkC (sv y)) E y (O.map (frN l)):=RdL.of_cap (α:=Fr) (E:=E) (css:=O.map (vfN l xa xc)) (by rw [←List.flatMap_def];exact hc) ⟨by simp,fun i h1 h2=>by
  simp only [List.length_map] at h1;simp only [List.getElem_map];exact ⟨(xa O[i],_,xc O[i]),rfl,hf.b _ (hO _ (List.getElem_mem h1))⟩⟩
 have ok2:=(ok.frz).or (r:=capI 3 277 y (O.flatMap (vfN l xa xc))) (r':=frsI F E x l xa xc) List.mem_cons_self (List.mem_cons_of_mem _ List.mem_cons_self) (rdI (fun j=>blkC (sv y) j∨E j) (fun j=>blkC (sv y) j∨E j) y (O.map (frN l))) (hrd.mono (fun _ h=>.inl h) (fun _ h=>.inr h)) (fun j hj=>(hj.elim id id).elim .inl fun h=>.inr (.inr h));exact ok2.sub fun i hi=>by
  rcases List.mem_cons.1 hi with rfl | hi
  ·exact List.mem_cons_self
  ·exact List.mem_cons_of_mem _ (List.mem_cons_of_mem _ hi)
section
variable {A:Bk} {s P:List (List UInt8)} {no:Nat} {b:List UInt8}
def rszP (P:List (List UInt8)) (n z:Nat):List (List UInt8):=P.take n++List.replicate (n-P.length) (List.replicate z 0)
theorem rszP_len {n z:Nat} : (rszP P n z).length=n:=by unfold rszP;simp;omega
theorem rszP_get {n z i:Nat} (h:i<n):(rszP P n z).getD i []=if i<P.length then P.getD i [] else List.replicate z 0:=by
 unfold rszP;rw [List.getD_eq_getElem?_getD,List.getD_eq_getElem?_getD];by_cases g:i<P.length
 ·rw [if_pos g,List.getElem?_append_left (by rw [List.length_take];omega),List.getElem?_take_of_lt h]
 ·rw [if_neg g,List.getElem?_append_right (by rw [List.length_take];omega),List.length_take,List.getElem?_replicate_of_lt (by omega)];rfl
end
open Go Go.HL
section
variable {h:Heap} {d:Nat} {F:Nat→Prop} {n:List UInt8} (ok:Hp h F [dgI d F newN] [] h)
include ok
theorem nsize_any:HC Tryz.prog 136 #[.pointer (some ⟨d,0,none⟩),.string (BA n)] h (fun v h'=>v=.tuple #[.int .i64 0,.bool false]∧h'=h):=dgsize_any ok
theorem ndark_any:HC Tryz.prog 135 #[.pointer (some ⟨d,0,none⟩)] h (fun v h'=>v=.bool false∧h'=h):=dgdark_any ok
end
theorem ngone_any {h:Heap} {d:Nat} {n:List UInt8} {F:Nat→Prop} (ok:Hp h F [dgI d F newN] [] h) :
  HC Tryz.prog 215 #[.pointer (some ⟨d,0,none⟩),.string (BA n)] h (fun v h'=>v=.int .i64 0∧h'=h):=by
 refine HC.go Tryz.func215 27 ?_;refine .seq<|.r<|.z .asI<|.nil ?_;refine .seq<|.seq<|.r<|.z .mvP<|.z .mvT<|.k 11 .func (nsize_any (n:=n) (ok).loc0)<|.z .mvU<|.z .ex<|.z .ex<|.z .asI<|.z .asB<|.nil ?_;refine .seq<|.r<|.z .mvB<|.z .not<|.nil ?_;refine .ct<|.seq<|.seq<|.r<|.z .mvP<|.k 17 .func (ndark_any (ok).loc0)<|.nil ?_;refine .cf<|.skip<|.seq<|.r<|.z .asI<|.nil ?_;refine .ret ⟨.int .i64 0,Res.one rfl rfl,⟨rfl,rfl⟩⟩
theorem nover_any {h:Heap} {d:Nat} {F:Nat→Prop} (ok:Hp h F [dgI d F newN] [] h) :
  HC Tryz.prog 183 #[.pointer (some ⟨d,0,none⟩)] h (fun v h'=>v=.int .i64 0∧h'=h):=by
 refine HC.go Tryz.func183 11 ?_;refine .seq<|.r<|.z .asI<|.nil ?_;refine .seq<|.seq<|.r<|.z .mvP<|.k 5 .func (ngone_any (n:=nM) (ok).loc0)<|.z .asI<|.nil ?_;refine .seq<|.r<|.z .mvI<|.z .neq<|.nil ?_;refine .cf<|.skip<|.seq<|.r<|.z .mvP<|.k 10 .func (ngone_any (n:=nJ) (ok).loc0)<|.z .asI<|.nil ?_;refine .ret ⟨.int .i64 0,Res.one rfl rfl,⟨rfl,rfl⟩⟩
theorem nheal_any {h:Heap} {d:Nat} {F:Nat→Prop} (ok:Hp h F [dgI d F newN] [] h) :
  HC Tryz.prog 140 #[.pointer (some ⟨d,0,none⟩)] h (fun v h'=>v=.int .i64 0∧h'=h):=by
 refine HC.go Tryz.func140 65 ?_;refine .seq<|.r<|.z .asI<|.nil ?_;refine .seq<|.seq<|.r<|.z .mvP<|.k 14 .func (nsize_any (n:=nM) (ok).loc0)<|.z .mvU<|.z .ex<|.z .ex<|.z .asI<|.z .asB<|.nil ?_;refine .seq<|.r<|.z .mvB<|.z .mvB<|.y<|.y<|.z .pkf<|.nil ?_;refine .cf<|.skip<|.seq<|.seq<|.r<|.z .mvP<|.k 62 .func (ndark_any (ok).loc0)<|.nil ?_;refine .cf<|.skip<|.seq<|.r<|.z .mvP<|.k 64 .func (nover_any (ok).loc0)<|.z .asI<|.nil ?_;refine .ret ⟨.int .i64 0,Res.one rfl rfl,⟨rfl,rfl⟩⟩
theorem nlook_any {h:Heap} {d:Nat} {z:Int} {F:Nat→Prop} (ok:Hp h F [dgI d F newN] [] h) :
  HC Tryz.prog 141 #[.pointer (some ⟨d,0,none⟩),.int .i64 z] h (fun v h'=>v=.tuple #[.int .i64 0,.int .i64 0]∧h'=h):=by
 refine HC.go Tryz.func141 58 ?_;refine .seq<|.r<|.z .asI<|.z .asI<|.nil ?_;refine .seq<|.r<|.z .mvP<|.k 13 .func (nsize_any (n:=nT) (ok).loc0)<|.z .mvU<|.z .ex<|.z .ex<|.z .asI<|.z .asB<|.nil ?_;refine .seq<|.seq<|.r<|.z .mvB<|.z .not<|.z .mvB<|.y<|.y<|.z .pkt<|.nil ?_;refine .ct<|.seq<|.r<|.z .asI<|.z .asI<|.nil ?_;refine .ret ⟨.tuple #[.int .i64 0,.int .i64 0],Res.two rfl rfl rfl,⟨rfl,rfl⟩⟩
theorem nright_any {h:Heap} {z:Nat} (hz:okSz z=true):HC Tryz.prog 132 #[.int .i64 (z:Int)] h (fun v h'=>v=.bool true∧h'=h):=by
 have hzc:=okSz_c hz;refine (aright_any (z:=(z:Int)) (by omega)).mono fun v h' q=>?_;rw [show okZ (z:Int)=true from decide_eq_true (by omega)] at q;exact q
open Go Go.HL
def newS (z:Nat):St:=⟨z,[],false,[],[]⟩
theorem newS_ok {z:Nat} (hz:okSz z=true):StOk (newS z):=⟨hz,.nil,.nil,by simp [newS],by simp [newS],fun _=>⟨rfl,rfl⟩⟩
theorem ds_new {G:Pgr} {h h':Heap} {F pF:Nat→Prop} {s p z:Nat} {lg:Option Addr} {a:G.α} (ha:G.sure a=[]) (hz:okSz z=true) (ok:Hp h F [boxI s 123 [.iface G.tid (pv p),.pointer lg,.int .i64 (z:Int),.bool false,.int .i64 0,.map none,.slice none 0 0,.bool false],G.it p pF a] [] h'):∃F',Hp h F [dsI G s F' (newS z)] [] h':=by
 have o:=(((ok.nowNil (bs:=[])).nilC (k:=2) (e:=120)).dE (svsI none_ []) (fun x h=>by cases h) (fun _ f=>f)).dE (pbsI none_ []) Pbs.nil (fun _ f=>f);have V:SVw G (⟨p,lg,z,false,0,none,[],none,0,[],pF,a⟩:RS G.α) (newS z):=⟨rfl,rfl,ha,fun h=>(by cases h),fun _=>⟨rfl,rfl,rfl,rfl⟩,All2.nil,newS_ok hz⟩;exact ⟨_,ds_close (F:=F) (D:=F) (h:=h) (r':=(⟨p,lg,z,false,0,none,[],none,0,[],pF,a⟩:RS G.α)) (E':=none_) (M:=[]) (R:=[]) (o.n2.n2.n1) (fun _ h=>h) (fun _ f=>f.elim) V⟩
def lcg (x:Nat):Nat:=(x*1664525+1013904223)%4294967296
def lcgs (x:Nat):Nat→Nat
 | 0=>x
 | i+1=>lcg (lcgs x i)
def byteG (x:Nat):UInt8:=UInt8.ofNat (x / 16777216)
def pageG (z seed:Nat):List UInt8:=(List.range z).map fun i=>byteG (lcgs (seed+1) (i+1))
theorem pageG_len {z seed:Nat} : (pageG z seed).length=z:=by simp [pageG]
theorem lcg_lt {x:Nat} : lcg x<4294967296:=Nat.mod_lt _ (by decide)
theorem lcgs_lt {x i:Nat} (h:x<4294967296):lcgs x i<4294967296:=by cases i with | zero=>exact h | succ i=>exact lcg_lt
theorem byteG_nat {x:Nat} (h:x<4294967296):(byteG x).toNat=x / 16777216:=by
 unfold byteG;rw [UInt8.toNat_ofNat'];exact Nat.mod_eq_of_lt (by omega)
theorem set_bvG {bs:List UInt8} {i:Nat} {x:UInt8} : (bs.map bv).set i (.int .u8 ((x.toNat:Nat):Int))=(bs.set i x).map bv:=by rw [List.map_set];rfl
theorem take_setS {bs:List UInt8} {i:Nat} {x:UInt8} (h:i<bs.length):(bs.set i x).take (i+1)=bs.take i++[x]:=by
 rw [List.take_succ_eq_append_getElem (by simpa using h),List.take_set_of_le (Nat.le_refl i),List.getElem_set_self]
theorem page15_any {h:Heap} {z seed:Nat} (hz:z≤1000000) (hs1:seed<256) :
  HC Tryz.prog 65 #[.int .i64 (z:Int),.int .u8 (seed:Int)] h (fun v h'=>Own h h' 1 5 v ((pageG z seed).map bv)):=by
 have ok:=Hp.nil h none_;refine HC.go Tryz.func65 29 ?_;refine .seq<|.r<|.z .asS<|.nil ?_;refine .seq<|.r<|.z .mvI<|.a' 9 (.mks z z T.el44 T.sz5 T.by5 T.zr5 ok) ?_;rintro _ η1 ⟨pb1,rfl,ok,xe⟩;have ok:=ok.cx (ys:=(List.replicate z (0:UInt8)).map bv) (zeros8 _);refine .z .asS<|.nil ?_;refine .seq<|.r<|.z .mvI<|.z (.cvs T.in89 T.in5 (M:=4294967296) rfl rfl)<|.z (.addn (M:=4294967296) rfl rfl (b:=1))<|?_;rw [show ((seed+1)%4294967296)=(lcgs (seed+1) 0) from by show _=seed+1;omega];refine .z .asI<|.nil ?_;refine .seq<|.seq<|.r<|.z .mvS<|.z (.len T.el44)<|.z .mvI<|.nil ?_;refine .block fun K0 hK0=>.loop (fun m s hh=>∃(i:Nat) (bs:List UInt8),Has s [(5,.slice (some ⟨pb1,0,none⟩) z z),(6,.int .u32 ((lcgs (seed+1) i:Nat):Int)),(14,.int .i64 (z:Int)),(15,.int .i64 (i:Int))]∧Hp h none_ [capI 1 5 (some ⟨pb1,0,none⟩,z,z) (bs.map bv)] [] hh∧i≤z∧bs.length=z∧bs.take i=((List.range i).map fun j=>byteG (lcgs (seed+1) (j+1)))∧m=z-i) ?_ ?_
 ·exact ⟨_,0,List.replicate z 0,⟨rfl,rfl,rfl,rfl,trivial⟩,(ok).k1,Nat.zero_le _,List.length_replicate,rfl,rfl⟩
 rintro _ _ η2 ⟨i,bs,hs,ok,hi,hbl,hbs,rfl⟩ J0 hJ0;refine .frame hs fun τ=>?_;refine .seq<|.r<|.z .lss<|.nil ?_;refine .seq<|.cdr (fun C0=>?_) (fun C0=>?_)
 ·
  refine .exit<|hK0 _ _<|.seq<|.r<|.z .mvS<|.z .asS<|.nil ?_;refine .ret ⟨.slice (some ⟨pb1,0,none⟩) z z,Res.one rfl rfl,(by rw [show pageG z seed=bs from by unfold pageG;rw [show z=i by omega,←hbs,List.take_of_length_le (by omega)]];exact (ok).toOwn)⟩
 have hlt:=lcgs_lt (x:=seed+1) (i:=i) (by omega);have hlt2:=lcgs_lt (x:=seed+1) (i:=i+1) (by omega);refine .skip<|.seq<|.block fun K1 hK1=>.seq<|.r<|.z .mvI<|.z .asI<|.nil ?_;refine .seq<|.r<|.z .mvI<|.z (.muln (M:=4294967296) rfl rfl (b:=1664525))<|.z (.addn (M:=4294967296) rfl rfl (b:=1013904223))<|?_;rw [show (((((lcgs (seed+1) i)*1664525)%4294967296)+1013904223)%4294967296)=(lcgs (seed+1) (i+1)) from by show _=lcg _;unfold lcg;omega];refine .z .asI<|.nil ?_;refine .r<|.z .mvS<|.z .mvI<|.z .mvI<|.z (.shrn (M:=4294967296) rfl (b:=24))<|.z (.cvm T.in5 T.in89 (M:=256) rfl rfl)<|?_;rw [show (((lcgs (seed+1) (i+1)) / 2 ^ 24)%256)=(byteG (lcgs (seed+1) (i+1))).toNat from by rw [byteG_nat (lcgs_lt (by omega))];have:=lcgs_lt (x:=seed+1) (i:=i+1) (by omega);omega];refine .z (.ix1 i T.el44 T.sz5)<|.ur' (.sxI (q:=i) T.sz5 ok) ?_;rintro η3 ⟨ok,cg⟩;refine .nil ?_;refine .end<|hK1 _ _<|?_;have ok:=ok.cx (ys:=(bs.set i (byteG (lcgs (seed+1) (i+1)))).map bv) set_bvG;refine .r<|.z (.addI (b:=1))<|.z .mvI<|.nil ?_;refine .end<|hJ0 _ _ _ ⟨i+1,(bs.set i (byteG (lcgs (seed+1) (i+1)))),⟨rfl,rfl,rfl,rfl,trivial⟩,(ok).k1,by omega,by simp [hbl],by rw [List.range_succ,List.map_append,←hbs];exact take_setS (by omega),rfl⟩ (by omega)
end Go.Proofs.YtndlpekckpdncaaGreat
namespace Go.HL
open Go Go.Proofs.YtndlpekckpdncaaGreat
theorem Hp.addM15 {h0 h h':Heap} {D:Nat→Prop} {M R:List Itm} {a:Itm} (ok:Hp h0 D M R h) (q:Hp h none_ [a] [] h'):Hp h0 D (a::M) R h':=
 ok.newM q.chg a q.m0 fun j hj=>by
  have h1:=(q.m a List.mem_cons_self).2 j hj;exact ⟨h1.2.elim (fun f=>f.elim) id,h1.1⟩
end Go.HL
namespace Go.Proofs.YtndlpekckpdncaaGreat
open Go Go.HL
section
variable {f:FuncId} {args:Array Value} {h:Heap} {F:Nat→Prop} {G:Pgr} {so c:Nat} {w':St} {ci n:Int}
theorem ansE {x:St × Nat} (q:HC Tryz.prog f args h (fun v h'=>∃F',v=.int .i64 ((x.2:Nat):Int)∧Hp h F [dsI G so F' x.1] [] h')) (e:x=(w',c)) (hc:((c:Nat):Int)=ci):HC Tryz.prog f args h (fun v h'=>∃F',v=.int .i64 ci∧Hp h F [dsI G so F' w'] [] h'):=by subst e hc;exact q
end
def opB (z:Nat):St:=⟨z,[],true,[],[]⟩
def hd1 (z:Nat):Hd:=⟨(z:Int),1,0,0,0,0⟩
def opL (z j:Nat):List (List UInt8):=pg1 z (hd1 z)::(List.range j).map fun i=>pageG z (i+2)
def opV (z j:Nat):St:=⟨z,[],true,opL z j,[]⟩
theorem chk_hd1 {z:Nat} (hz:okSz z=true):ChkP (hd1 z):=by
 have:=okSz_c hz;refine ⟨decide_eq_true (by show (z:Int)=256∨(z:Int)=512∨(z:Int)=1024∨(z:Int)=2048∨(z:Int)=4096;omega),⟨by show (1:Int)≤1;omega,by show (1:Int)≤1048576;omega,by show (z:Int)*1≤16777216;omega⟩,⟨by show (0:Int)≤0;omega,by show (0:Int)<1;omega,fun _=>rfl,fun h=>absurd h (by show ¬(0:Int)<0;omega)⟩,⟨by show (0:Int)≤0;omega,by show (0:Int)≤2147483647;omega⟩,by show (0:Int)≤0;omega,by show (0:Int)≤2147483647;omega⟩
theorem hd1_in {z:Nat} (hz:okSz z=true):HdIn (⟨(z:Int),1,0,0,0,0⟩:Hd):=by
 have:=okSz_c hz;refine ⟨?_,?_,?_,?_,?_,?_⟩<;>(unfold i64N;dsimp only;omega)
theorem op_begin {z:Nat} : St.begin_ (newS z)=(opB z,0):=rfl
theorem op_head {z:Nat} (hz:okSz z=true):St.setHead (opB z) (⟨(z:Int),1,0,0,0,0⟩:Hd)=(opV z 0,0):=
 St.setHead_0 (w:=opB z) (n:=1) rfl (by rintro (h | h | h);exact h (chk_hd1 hz);exact h rfl;exact absurd h (by show ¬(max 1 ((0:Nat):Int)<1);decide)) rfl
open Go Go.HL
theorem PgB.rows {h:Heap} {E:Nat→Prop} {x:SV} {l:List RB} (r:PgB h E x l):RdL h E E x (pgs l):=by
 obtain ⟨a,n,c⟩:=x;have hn:n=l.length:=r.n;refine ⟨by rw [pgs_len];exact r.n,r.m.1,r.m.2,fun hp=>?_⟩;rw [pgs_len] at hp;obtain ⟨b,o,rfl,hE⟩:=r.pos (by omega);refine ⟨b,o,rfl,hE,fun i hi=>?_⟩;have hil:i<l.length:=by rwa [pgs_len] at hi
 refine ⟨[.slice l[i].a l[i].l.length l[i].c],⟨(l[i].a,l[i].l.length,l[i].c),rfl,by rw [pgs_at hil];exact r.by' _ (List.getElem_mem hil)⟩,fun j v hj=>?_⟩;have hj0:j=0:=by have:=(List.getElem?_eq_some_iff.1 hj).1;simpa using this
 subst hj0;have:=sl_at1 RB.cells_len r.sl hil (v:=v) hj;simpa [Rep.k] using this
end Go.Proofs.YtndlpekckpdncaaGreat
namespace Go.HL
open Go
theorem Hp.liftE {h0 h h':Heap} {D:Nat→Prop} {M R:List Itm} {a a' x:Itm} (ok:Hp h0 D (a::M) R h) (q:Hp h a.F [a'] [x] h') (hx:∀j,x.F j→a.F j∨h.size≤j):Hp h0 D (a'::M) (x::R) h':=by
 have o:=ok.upd q.chg (fun _ x=>x) a' q.m0 fun j hj=>by
  have h1:=(q.m _ List.mem_cons_self).2 j hj;exact h1.2.imp id fun h=>⟨h,h1.1⟩
 refine ⟨o.chg,o.m,fun i hi=>?_,o.mm,fun m hm z hz j hj hj2=>?_⟩
 ·rcases List.mem_cons.1 hi with rfl | hi
  ·exact q.r _ (by simp)
  ·exact o.r i hi
 ·rcases List.mem_cons.1 hz with rfl | hz
  ·rcases List.mem_cons.1 hm with rfl | hm
   ·exact q.mr _ (by simp) _ (by simp) j hj hj2
   ·rcases hx j hj2 with h1 | h1
    ·exact (List.pairwise_cons.1 ok.mm).1 m hm j h1 hj
    ·have:=((ok.m m (List.mem_cons_of_mem _ hm)).2 j hj).1;omega
  ·exact o.mr m hm z hz j hj hj2
theorem Hp.ownE {h0 h:Heap} {D:Nat→Prop} {M R:List Itm} {a:Itm} (ok:Hp h0 D (a::M) R h):∀j,a.F j→D j∨h0.size≤j:=fun j hj=>((ok.m a List.mem_cons_self).2 j hj).2
end Go.HL
namespace Go.Proofs.YtndlpekckpdncaaGreat
open Go Go.HL
theorem pg_all5 {α:Type} {l:List α} {k:Nat} (h1:k≤l.length) (h:l.length≤k):l.take k=l:=List.take_of_length_le h
theorem pg_step5 {P:List (List UInt8)} {ol:List RB} {k:Nat} {x:RB} (h:pgs ol=P.take k) (hk:k<P.length) (hx:x.l=P.getD k []):pgs (ol++[x])=P.take (k+1):=by
 rw [pgs_snoc,h,List.take_succ_eq_append_getElem hk,hx];congr 2;simp [hk]
theorem _root_.Go.HL.Hp.pgRows {h0 h:Heap} {D Eo:Nat→Prop} {M R:List Itm} {e:TypeId} {a:Option Addr} {c:Nat} {l:List RB} {P:List (List UInt8)} (ok:Hp h0 D (capI 1 e (a,l.length,c) (l.flatMap RB.cells)::M) (pbyI Eo l::R) h) (hP:pgs l=P):Hp h0 D M (rdI (fun j=>blkC (sv (a,l.length,c)) j∨Eo j) (fun j=>blkC (sv (a,l.length,c)) j∨Eo j) (a,l.length,c) P::R) h:=by
 have o:=ok.frz;subst hP;have o2:=o.or (r:=capI 1 e (a,l.length,c) (l.flatMap RB.cells)) (r':=pbyI Eo l) (by simp) (by simp) (rdI (fun j=>blkC (sv (a,l.length,c)) j∨Eo j) (fun j=>blkC (sv (a,l.length,c)) j∨Eo j) (a,l.length,c) (pgs l)) (PgB.rows (PgB.of o.r0 o.r1 (fun j h=>.inl h) (fun j h=>.inr h))) (fun j h=>h.elim id id);exact o2.sub (by simp;intro a h;exact .inr (.inr (.inr h)))
end Go.Proofs.YtndlpekckpdncaaGreat
namespace Go.Proofs
open Go.Shelf
def Tryz.cloneE_ren:Go.Shelf.Ren:=⟨fun | 5=>147 | 7=>191 | n=>n,fun | 23=>118 | 25=>3 | 3=>44 | 4=>4 | 20=>20 | n=>n,fun | n=>n⟩
theorem Tryz.cloneE:Go.Proofs.SlLaysW.n5 Tryz.prog Tryz.cloneE_ren:={
 mixed:=by kernel_rfl
 f5:=⟨Tryz.f147.name,by decide,Tryz.func147.trans (congrArg some (by kernel_rfl))⟩
 f7:=Tryz.func191.trans (congrArg some (by kernel_rfl))
 t4:=Tryz.underlying4
 a4:=Tryz.isAgg4
 z4:=Tryz.sizeOf4
 v4:=Tryz.zeroValue4
 t20:=Tryz.underlying20
 a20:=Tryz.isAgg20
 z20:=Tryz.sizeOf20
 v20:=Tryz.zeroValue20
 t23:=Tryz.underlying118
 a23:=Tryz.isAgg118
 z23:=Tryz.sizeOf118
 v23:=Tryz.zeroValue118 }
end Go.Proofs
namespace Go.HL
open Go
section
variable {h0 h h':Heap} {D:Nat→Prop} {M R:List Itm} {a b:Itm}
theorem Hp.asR (ok:Hp h0 D (a::M) R h):Hp h none_ [] [a] h:=⟨Chg.refl _ _,by simp,fun i hi=>by rw [List.mem_singleton.1 hi];exact ⟨ok.m0,fun j hj=>((ok.m a List.mem_cons_self).2 j hj).1⟩,.nil,by simp⟩
theorem Hp.asR' (ok:Hp h0 D M (a::R) h):Hp h none_ [] [a] h:=⟨Chg.refl _ _,by simp,fun i hi=>by rw [List.mem_singleton.1 hi];exact ok.r a List.mem_cons_self,.nil,by simp⟩
theorem Hp.newQ (ok:Hp h0 D M R h) (q:Hp h none_ [b] [] h'):Hp h0 D (b::M) R h':=
 ok.newM q.chg b q.m0 fun j hj=>⟨((q.m b List.mem_cons_self).2 j hj).2.elim (fun f=>f.elim) id,((q.m b List.mem_cons_self).2 j hj).1⟩
end
end Go.HL
namespace Go.Proofs.YtndlpekckpdncaaGreat
open Go Go.HL
theorem mclone_any {h:Heap} {mb:Nat} {l:List (Int × Value)} (ok:Hp h none_ [] [mapI (Value.int .i64) mb l] h):HC Tryz.prog 147 #[.map (some mb)] h (fun v h'=>∃m,v=.map (some m)∧Hp h none_ [mapI (Value.int .i64) m l] [] h'):=
 HC.of_calls ⟨_,Tryz.func147,by decide,rfl⟩ fun w hw=>by
  obtain ⟨es,cl,hb,he,hs⟩:=ok.r0;refine (AnyW.maps_Clone Tryz.cloneE mb es cl w (by rw [hw];exact hb)).mono fun e w' ⟨h1,h2⟩=>?_;subst h2 hw;refine ⟨_,h1,(RowKit.Below.refl _ w).alloc (Nat.le_refl _) _,w.heap.size,rfl,?_⟩;have hx:Ext w.heap (w.heap.push (.map es cl)):=Ext.push _ _;refine (Hp.nil w.heap none_).newM hx (mapI (Value.int .i64) w.heap.size l) ⟨es,cl,push_same _ _,he,hs⟩ fun j hj=>?_;obtain rfl:j=w.heap.size:=hj;exact ⟨Nat.le_refl _,by simp⟩
theorem scopied_any {h:Heap} {many mb:Nat} {l:List (Int × Value)} (ok:Hp h none_ [] [mapI (Value.int .i64) mb l] h) :
  HC Tryz.prog 104 #[.agg #[.int .i64 (many:Int),.map (some mb)]] h (fun v h'=>∃m,v=.agg #[.int .i64 (many:Int),.map (some m)]∧Hp h none_ [mapI (Value.int .i64) m l] [] h'):=by
 refine HC.go Tryz.func104 8 ?_;refine .seq<|.r<|.a' 1 (.bxA (cs:=[.int .i64 (many:Int),.map (some mb)]) ok) ?_;rintro _ η1 ⟨pb1,rfl,ok,xe⟩;refine .a' 2 (.alA T.zr120 ok) ?_;rintro _ η2 ⟨pb2,rfl,ok,xe⟩;refine .nil ?_;refine .seq<|.r<|.z (.fa T.fd120_1)<|.z (.ldx T.ag118 ok.m1)<|.c' 5 .func (mclone_any (l:=l) ((ok).asR')) ?_;rintro _ η3 ⟨mw1,rfl,q⟩;have ok:=(ok).newQ q;refine .z (.fa T.fd120_1)<|.ur' (.stM T.sz118 ok.n2) ?_;rintro η4 ⟨ok,cg⟩;refine .nil ?_;refine .seq<|.r<|.z (.ldb T.ag120 ok.m0 T.sz120)<|.ur' (.stW (vs:=[.int .i64 (many:Int),.map (some mw1)]) T.sz120 ok.n2 (oneL rfl)) ?_;rintro η5 ⟨ok,cg⟩;refine .nil ?_;refine .ret ⟨.agg #[.int .i64 (many:Int),.map (some mw1)],Res.many (vs:=[.agg #[.int .i64 (many:Int),.map (some mw1)]]) rfl ⟨⟨_,rfl,load_ag T.ag120 ok.m0 T.sz120⟩,trivial⟩ rfl,⟨mw1,rfl,(ok.n2).k1.e0⟩⟩
section
variable {h0 h:Heap} {D:Nat→Prop} {M R:List Itm}
theorem _root_.Go.HL.Hp.svsPut {E:Nat→Prop} {sv:List RSv} {ov:List (Int × RB)} {m many:Nat} (ok:Hp h0 D (mapI (Value.int .i64) m (bsE ov)::M) (svsI E sv::pbsI E ov::R) h):Hp h0 D M (svsI (fun j=>E j∨j=m) (sv++[⟨many,m,ov⟩])::pbsI (fun j=>E j∨j=m) ov::R) h:=by
 have o:=ok.frz;have o1:=o.or (r:=pbsI E ov) (r':=mapI (Value.int .i64) m (bsE ov)) (by simp) (by simp) (pbsI (fun j=>E j∨j=m) ov) (Pbs.mono (fun j h=>.inl h) o.r2) (fun j h=>h.imp id id);have o2:=o1.or (r:=svsI E sv) (r':=mapI (Value.int .i64) m (bsE ov)) (by simp) (by simp) (svsI (fun j=>E j∨j=m) (sv++[⟨many,m,ov⟩])) (fun x hx=>by
  rcases List.mem_append.1 hx with hx | hx
  ·exact Svs.mono (E:=E) (E':=fun j=>E j∨j=m) (fun j h=>Or.inl h) o1.r2 x hx
  ·rw [List.mem_singleton.1 hx];exact ⟨o1.r1,.inr rfl,o1.r0⟩) (fun j h=>h.imp id id)
 exact o2.sub (by simp only [List.mem_cons];rintro a (h | h | h)<;>simp [h])
theorem svF_len:∀l:List RSv,(l.flatMap RSv.cells).length=2*l.length
 | []=>rfl
 | x::l=>by rw [List.flatMap_cons,List.length_append,RSv.cells_len,svF_len l,List.length_cons];omega
theorem svF_take:∀(l:List RSv) (k:Nat),(l.flatMap RSv.cells).take (k*2)=(l.take k).flatMap RSv.cells
 | [],k=>by simp
 | x::l,0=>by simp
 | x::l,k+1=>by
  rw [List.flatMap_cons,List.take_succ_cons,List.flatMap_cons,←svF_take l k,show (k+1)*2=(x.cells).length+k*2 by rw [RSv.cells_len];omega,List.take_length_add_append]
theorem _root_.Go.HL.Hp.svTake {e:TypeId} {a:Option Addr} {c k:Nat} {l:List RSv} (ok:Hp h0 D (capI 2 e (a,l.length,c) (l.flatMap RSv.cells)::M) R h) (hk:k≤l.length):Hp h0 D (capI 2 e (a,k,c) ((l.take k).flatMap RSv.cells)::M) R h:=
 ok.re _ (by have h1:=Cap.pre ok.m0 hk;rwa [svF_take] at h1) fun j hj=>by
  obtain ⟨o,n,c2,e2⟩:=hj;injection e2 with e3 e4 e5;exact ⟨o,l.length,c,by rw [←e3]⟩
theorem svF_get:∀ {l:List RSv} {i:Nat} (hi:i<l.length) {j:Nat},j<2→(l.flatMap RSv.cells)[i*2+j]? = (l[i]).cells[j]?
 | x::l,0,_,j,hj=>by rw [List.flatMap_cons,List.getElem?_append_left (by rw [RSv.cells_len];omega)];congr 1;omega
 | x::l,i+1,hi,j,hj=>by
  rw [List.flatMap_cons,List.getElem?_append_right (by rw [RSv.cells_len];omega),RSv.cells_len,show (i+1)*2+j-2=i*2+j by omega,svF_get (l:=l) (i:=i) (by simpa using hi) hj];rfl
theorem Cap.rsv {e:TypeId} {b o n c:Nat} {l:List RSv} (r:Cap h 2 e (.slice (some ⟨b,o,none⟩) n c) (l.flatMap RSv.cells)) {i:Nat} (hi:i<l.length):∀(j:Nat) (v:Value),[Value.int .i64 ((l[i]).many:Int),.map (some (l[i]).m)][j]? = some v→cell h b (o+i*2+j)=some v:=fun j v hv=>by
 obtain ⟨a',n',c',hv',h1,h2,h3,h4⟩:=r;injection hv' with e1 e2 e3;subst e1 e2 e3;rcases h4 with ⟨h5,_⟩ | ⟨b',o',cs,fz,h5,hb,hs,hfz,hx⟩
 ·cases h5
 ·injection h5 with h5;injection h5 with h6 h7;subst h6 h7;rw [svF_len] at h3;have hj:j<2:=by
   rcases Nat.lt_or_ge j 2 with h | h
   ·exact h
   ·rw [List.getElem?_eq_none (by simpa using h)] at hv;cases hv
  rw [cell_of hb,←Array.getElem?_toList];have h8:((cs.toList.drop o).take (n*2))[i*2+j]? = (l.flatMap RSv.cells)[i*2+j]?:=by rw [hx]
  rw [svF_get hi hj,List.getElem?_take_of_lt (by omega),List.getElem?_drop] at h8;rw [show o+i*2+j=o+(i*2+j) by omega,h8];exact hv
theorem Cap.lnS {e:TypeId} {a:Option Addr} {n c:Nat} {l:List RSv} (r:Cap h 2 e (.slice a n c) (l.flatMap RSv.cells)):n=l.length:=by
 obtain ⟨a',n',c',hv,_,_,h3,_⟩:=r;injection hv with _ h2 _;rw [svF_len] at h3;omega
end
section
variable {G:Pgr} {r:RS G.α} {w:St} (V:SVw G r w)
include V
theorem SVw.save (hi:w.in_=true) (hf:w.saves.length<16) {sa:Option Addr} {sc m:Nat} : SVw G { r with sa:=sa,sc:=sc,sv:=r.sv++[⟨r.many,m,r.ov⟩] } { w with saves:=w.saves++[w.now] }:=
 ⟨V.z,V.in_,V.sure,V.now,fun h=>(by rw [hi] at h;cases h),V.sv.append (All2.cons (V.now hi).2 .nil),⟨V.ok.z,V.ok.sure,V.ok.now,fun l hl=>(List.mem_append.1 hl).elim (V.ok.saves l) fun h=>by rw [List.mem_singleton.1 h];exact V.ok.now,by simp;omega,fun h=>by rw [hi] at h;cases h⟩⟩
theorem SVw.release (hi:w.in_=true) {sa:Option Addr} {sc n:Nat} : SVw G { r with sa:=sa,sc:=sc,sv:=r.sv.take n } { w with saves:=w.saves.take n }:=
 ⟨V.z,V.in_,V.sure,V.now,fun h=>(by rw [hi] at h;cases h),V.sv.take n,⟨V.ok.z,V.ok.sure,V.ok.now,fun l hl=>V.ok.saves l (List.mem_of_mem_take hl),by show (w.saves.take n).length≤16;rw [List.length_take];have:=V.ok.few;omega,fun h=>by rw [hi] at h;cases h⟩⟩
theorem SVw.back (hi:w.in_=true) {sa:Option Addr} {sc n m:Nat} (hn:n<r.sv.length):SVw G { r with many:=(r.sv[n]).many,om:=some m,ov:=(r.sv[n]).ov,sa:=sa,sc:=sc,sv:=r.sv.take (n+1) } { w with now:=w.saves.getD n [],saves:=w.saves.take (n+1) }:=by
 have hn2:n<w.saves.length:=by rw [←V.sv.1];exact hn
 have e:w.saves.getD n []=w.saves[n]:=by rw [List.getD_eq_getElem?_getD,List.getElem?_eq_getElem hn2];rfl
 refine ⟨V.z,V.in_,V.sure,fun _=>⟨⟨m,rfl⟩,by rw [e];exact V.sv.2 n hn hn2⟩,fun h=>(by rw [hi] at h;cases h),V.sv.take _,⟨V.ok.z,V.ok.sure,by rw [e];exact V.ok.saves _ (List.getElem_mem hn2),fun l hl=>V.ok.saves l (List.mem_of_mem_take hl),by show (w.saves.take (n+1)).length≤16;rw [List.length_take];have:=V.ok.few;omega,fun h=>by rw [hi] at h;cases h⟩⟩
end
section
variable {w:St}
theorem St.save_10 (h:w.in_=false):w.save=(w,10):=if_pos h
theorem St.save_5 (h:w.in_=true) (h2:16≤w.saves.length):w.save=(w,5):=by unfold St.save;rw [if_neg (by rw [h];decide),if_pos h2]
theorem St.save_0 (h:w.in_=true) (h2:w.saves.length<16):w.save=({ w with saves:=w.saves++[w.now] },0):=by unfold St.save;rw [if_neg (by rw [h];decide),if_neg (by omega)]
def savE (i:Bool) (k:Nat) (n:Int):Nat:=if i=false then 10 else if n<0∨(k:Int)≤n then 1 else 0
theorem savE_0 {i:Bool} {k:Nat} {n:Int} (h:¬(savE i k n:Int)≠0):i=true∧0≤n∧n<k:=by
 unfold savE at h;cases i
 ·rw [if_pos rfl] at h;exact absurd (by decide) h
 ·by_cases h2:n<0∨(k:Int)≤n
  ·rw [if_neg (by decide),if_pos h2] at h;exact absurd (by decide) h
  ·exact ⟨rfl,by omega,by omega⟩
theorem St.back_e {n:Int} (h:(savE w.in_ w.saves.length n:Int)≠0):w.back n=(w,savE w.in_ w.saves.length n):=by
 unfold St.back savE at *;split
 ·rfl
 ·split
  ·rfl
  ·rename_i h1 h2;rw [if_neg h1,if_neg h2] at h;exact absurd rfl h
theorem St.back_0 {n:Nat} (h:w.in_=true) (h2:n<w.saves.length):w.back n=({ w with now:=w.saves.getD n [],saves:=w.saves.take (n+1) },0):=by unfold St.back;rw [if_neg (by rw [h];decide),if_neg (by omega)];rfl
theorem St.release_e {n:Int} (h:(savE w.in_ w.saves.length n:Int)≠0):w.release n=(w,savE w.in_ w.saves.length n):=by
 unfold St.release savE at *;split
 ·rfl
 ·split
  ·rfl
  ·rename_i h1 h2;rw [if_neg h1,if_neg h2] at h;exact absurd rfl h
theorem St.release_0 {n:Nat} (h:w.in_=true) (h2:n<w.saves.length):w.release n=({ w with saves:=w.saves.take n },0):=by unfold St.release;rw [if_neg (by rw [h];decide),if_neg (by omega)];rfl
end
theorem sSave_any {G:Pgr} {h:Heap} {so:Nat} {F:Nat→Prop} {w:St} (ok:Hp h F [dsI G so F w] [] h) :
  HC Tryz.prog 49 #[.pointer (some ⟨so,0,none⟩)] h (fun v h'=>∃F',v=.int .i64 ((w.save).2:Int)∧Hp h F [dsI G so F' (w.save).1] [] h'):=by
 obtain ⟨r,E,V,ok,hf,he⟩:=ds_open ok;have hzc:=V.zc;have hfew:=V.few;have hnf:=V.nowfew;obtain ⟨p,lg,z,in_,many,om,ov,sa,sc,svl,pF,ga⟩:=r;dsimp only at ok hf;generalize stF G so _=DF at ok hf;obtain rfl:z=w.z:=V.z;obtain rfl:in_=w.in_:=V.in_;have hpgs:(if w.in_=true then many else (G.sure ga).length)=w.pgs.length:=V.pgs;have ok:Hp h DF [boxI so 123 [.iface G.tid (.pointer (some ⟨p,0,none⟩)),.pointer lg,.int .i64 (w.z:Int),.bool w.in_,.int .i64 (many:Int),.map om,.slice sa svl.length sc,.bool false],nowI om ov,capI 2 120 (sa,svl.length,sc) (svl.flatMap RSv.cells),G.it p pF ga] [pbsI E ov,svsI E svl] h:=ok;have hsz0:=ok.chg.size;have hsvl:svl.length=w.saves.length:=V.sv.1;refine HC.go Tryz.func49 29 ?_;refine .seq<|.r<|.z .asI<|.nil ?_;refine .seq<|.seq<|.r<|.z .mvP<|.k 5 .func (swithin_any (G:=G) (r:=(⟨p,lg,w.z,w.in_,many,om,ov,sa,sc,svl,pF,ga⟩:RS G.α)) (i:=w.in_) ok.m0 rfl)<|.z .asI<|.nil ?_;refine .seq<|.r<|.z .mvI<|.z .neq<|.nil ?_;refine .cd (fun C0=>?_) (fun C0=>?_)
 ·
  have hw:w.in_=false:=wthE_y C0;refine .seq<|.r<|.z .mvI<|.z .asI<|.nil ?_;refine .ret ⟨.int .i64 ((wthE w.in_):Int),Res.one rfl rfl,⟨_,by rw [St.save_10 hw,wthE_f (by rw [hw];decide)],by rw [St.save_10 hw];exact (ds_close (r':=(⟨p,lg,w.z,w.in_,many,om,ov,sa,sc,svl,pF,ga⟩:RS G.α)) (E':=E) (ok.f1.f1) hf (fun j hj=>.inl (he j hj)) V)⟩⟩
 have hw:w.in_=true:=wthE_n C0;have hmany:many=w.now.length:=V.many hw;refine .skip<|.seq<|.seq<|.r<|.z .mvP<|.z .nil<|.z (.fa T.fd123_5)<|.z (.ldx T.ag121 ok.m0)<|.z (.len T.el121)<|.z .geq<|.nil ?_;refine .cd (fun C1=>?_) (fun C1=>?_)
 ·
  refine .seq<|.r<|.z .asI<|.nil ?_;refine .ret ⟨.int .i64 5,Res.one rfl rfl,⟨_,by rw [St.save_5 hw (by omega)];rfl,by rw [St.save_5 hw (by omega)];exact (ds_close (r':=(⟨p,lg,w.z,w.in_,many,om,ov,sa,sc,svl,pF,ga⟩:RS G.α)) (E':=E) (ok.f1.f1) hf (fun j hj=>.inl (he j hj)) V)⟩⟩
 have hsl:=V.sv.1;dsimp only at hsl;obtain ⟨mb,rfl⟩:=(V.now hw).1;have ok:=Hp.nowSome (ok.n1);refine .skip<|.seq<|.a 14 (fun fl hh=>cond fl True (Hp h DF [mapI (Value.int .i64) mb (bsE ov),boxI so 123 [.iface G.tid (.pointer (some ⟨p,0,none⟩)),.pointer lg,.int .i64 (w.z:Int),.bool w.in_,.int .i64 (many:Int),.map (some mb),.slice sa svl.length sc,.bool false],G.it p pF ga] [pbsI E ov,svsI E svl] hh)) mixed ?_;have hS:=ok.n3.n2.n2.k3;refine .g 0 false rfl 15 hS (fun _=>.mvP)<|.g 1 false rfl 16 hS (fun _=>.mvP)<|.g 2 false rfl 17 hS (fun _=>.nil)<|.g 3 false rfl 18 hS (fun _=>.fa T.fd123_5)<|.l 4 false rfl 19 hS (fun _ hS=>.ldx T.ag121 hS.m1)<|.g 5 false rfl 20 hS (fun _=>.mvP)<|.g 6 false rfl 21 hS (fun _=>.nil)<|.g 7 false rfl 22 hS (fun _=>.fa T.fd123_4)<|.l 8 false rfl 23 hS (fun _ hS=>.ldc (vs:=[.int .i64 (many:Int),.map (some mb)]) T.ag120 (at_part (o:=4) (n:=2) hS.m1) T.sz120)<|.o1 9<|.c' false rfl 24 .func (scopied_any (many:=many) (l:=bsE ov) ((ok).asR)) ?_;rintro _ η1 ⟨mw1,rfl,q⟩;have ok:=(ok).newQ q;refine ⟨ok.n4.n3.n3.k3,?_⟩;have hS:=ok.n4.n3.n3.k3;refine .o1 10<|.a' false rfl 25 (.lit [.tmp 24] (cs:=[.int .i64 (many:Int),.map (some mw1)]) T.el121 T.sz120 T.zr120 ok ⟨rfl,trivial⟩) ?_;rintro _ η2 ⟨pb1,rfl,ok,xe⟩;refine ⟨ok.n5.n4.n4.k3,?_⟩;have hS:=ok.n5.n4.n4.k3;refine .o1 11<|.a' false rfl 26 (.app (news:=[.int .i64 (many:Int),.map (some mw1)]) T.el121 T.sz120 T.by120 T.zr120 ok.n4 (ok.n4.m1).sl (oneL rfl) (by rw [svF_len];simp only [List.length_cons,List.length_nil];omega)) ?_;rintro _ η3 ⟨ya1,yn1,yc1,rfl,ok,ap⟩;refine ⟨ok.n5.n5.n5.k3,?_⟩;have hS:=ok.n5.n5.n5.k3;refine .g 12 false rfl 27 hS (fun _=>.nil)<|.g 13 false rfl 28 hS (fun _=>.fa T.fd123_5)<|.o1 14<|.ur' true rfl (.stS T.sz121 ok.n4) ?_;rintro η4 ⟨ok,cg⟩;refine ⟨trivial,?_⟩;refine .e ?_;refine .seq<|.r<|.z .asI<|.nil ?_;have hnb:=Hp.putNew (ok.n3) hf;have ok:=Hp.svsPut (many:=many) (ok.n3.f1);rw [show svl.flatMap RSv.cells++[.int .i64 (many:Int),.map (some mw1)]=(svl++[(⟨many,mw1,ov⟩:RSv)]).flatMap RSv.cells by rw [List.flatMap_append];rfl] at ok;obtain rfl:yn1=(svl++[(⟨many,mw1,ov⟩:RSv)]).length:=Cap.lnS (ok.n1).m0;refine .ret ⟨.int .i64 0,Res.one rfl rfl,⟨_,by rw [St.save_0 hw (by omega)];rfl,by rw [St.save_0 hw (by omega)];exact (ds_close (r':=(⟨p,lg,w.z,w.in_,many,(some mb),ov,ya1,yc1,(svl++[(⟨many,mw1,ov⟩:RSv)]),pF,ga⟩:RS G.α)) (E':=(fun j=>E j∨j=mw1)) (ok.n4.n2.n4.n3.f1.k4) hf (fun j hj=>hj.elim (fun hj=>.inl (he j hj)) (fun hj=>hnb j hj)) (V.save hw (by omega)))⟩⟩
theorem ssaved_any {G:Pgr} {h:Heap} {so:Nat} {r:RS G.α} (hb:(sboxI G so r).p h) {i:Bool} {k:Nat} {n:Int} (hi:r.in_=i) (hk:r.sv.length=k) :
  HC Tryz.prog 105 #[.pointer (some ⟨so,0,none⟩),.int .i64 n] h (fun v h'=>v=.int .i64 (savE i k n:Int)∧h'=h):=by
 have hsm:=hk;refine HC.go Tryz.func105 22 ?_;refine .seq<|.r<|.z .asI<|.nil ?_;refine .seq<|.seq<|.r<|.z .mvP<|.k 7 .func (swithin_any (G:=G) (r:=r) (i:=r.in_) hb rfl)<|.z .asI<|.nil ?_;refine .seq<|.r<|.z .mvI<|.z .neq<|.nil ?_;refine .cd (fun C0=>?_) (fun C0=>?_)
 ·
  refine .seq<|.r<|.z .mvI<|.z .asI<|.nil ?_;refine .ret ⟨.int .i64 ((wthE r.in_):Int),Res.one rfl rfl,(by unfold savE;rw [if_pos (by rw [←hi];exact wthE_y C0),wthE_f (by rw [wthE_y C0];decide)];exact ⟨rfl,rfl⟩)⟩
 refine .skip<|.seq<|.seq<|.r<|.z .mvI<|.z .lss<|.z .mvB<|.sd (fun G13=>?_) (fun G13=>?_)
 ·
  refine .y<|.y<|.y<|.y<|.y<|.y<|.y<|.z .pkt<|.nil ?_;refine .ct<|.seq<|.r<|.z .asI<|.nil ?_;refine .ret ⟨.int .i64 1,Res.one rfl rfl,⟨by unfold savE;rw [if_neg (by rw [←hi,wthE_n C0];decide),if_pos (by omega)];try rfl,rfl⟩⟩
 refine .z .mvI<|.z .mvP<|.z .nil<|.z (.fa T.fd123_5)<|.z (.ldx T.ag121 hb)<|.z (.len T.el121)<|.z .geq<|.z .pkf<|.nil ?_;refine .cd (fun C1=>?_) (fun C1=>?_)
 ·
  refine .seq<|.r<|.z .asI<|.nil ?_;refine .ret ⟨.int .i64 1,Res.one rfl rfl,⟨by unfold savE;rw [if_neg (by rw [←hi,wthE_n C0];decide),if_pos (by omega)];try rfl,rfl⟩⟩
 refine .skip<|.seq<|.r<|.z .asI<|.nil ?_;refine .ret ⟨.int .i64 0,Res.one rfl rfl,⟨by unfold savE;rw [if_neg (by rw [←hi,wthE_n C0];decide),if_neg (by omega)];try rfl,rfl⟩⟩
theorem sRelease_any {G:Pgr} {h:Heap} {so:Nat} {F:Nat→Prop} {w:St} {n:Int} (ok:Hp h F [dsI G so F w] [] h) :
  HC Tryz.prog 94 #[.pointer (some ⟨so,0,none⟩),.int .i64 n] h (fun v h'=>∃F',v=.int .i64 ((w.release n).2:Int)∧Hp h F [dsI G so F' (w.release n).1] [] h'):=by
 obtain ⟨r,E,V,ok,hf,he⟩:=ds_open ok;have hzc:=V.zc;have hfew:=V.few;have hnf:=V.nowfew;obtain ⟨p,lg,z,in_,many,om,ov,sa,sc,svl,pF,ga⟩:=r;dsimp only at ok hf;generalize stF G so _=DF at ok hf;obtain rfl:z=w.z:=V.z;obtain rfl:in_=w.in_:=V.in_;have hpgs:(if w.in_=true then many else (G.sure ga).length)=w.pgs.length:=V.pgs;have ok:Hp h DF [boxI so 123 [.iface G.tid (.pointer (some ⟨p,0,none⟩)),.pointer lg,.int .i64 (w.z:Int),.bool w.in_,.int .i64 (many:Int),.map om,.slice sa svl.length sc,.bool false],nowI om ov,capI 2 120 (sa,svl.length,sc) (svl.flatMap RSv.cells),G.it p pF ga] [pbsI E ov,svsI E svl] h:=ok;have hsz0:=ok.chg.size;have hsvl:svl.length=w.saves.length:=V.sv.1;have hscl:svl.length≤sc:=Cap.le ok.m2;have hscb:sc≤9223372036854775807:=Cap.bd ok.m2;refine HC.go Tryz.func94 21 ?_;refine .seq<|.r<|.z .asI<|.nil ?_;refine .seq<|.seq<|.r<|.z .mvP<|.z .mvI<|.k 8 .func (ssaved_any (G:=G) (r:=(⟨p,lg,w.z,w.in_,many,om,ov,sa,sc,svl,pF,ga⟩:RS G.α)) (i:=w.in_) (k:=w.saves.length) (n:=n) ok.m0 rfl hsvl)<|.z .asI<|.nil ?_;refine .seq<|.r<|.z .mvI<|.z .neq<|.nil ?_;refine .cd (fun C0=>?_) (fun C0=>?_)
 ·
  refine .seq<|.r<|.z .mvI<|.z .asI<|.nil ?_;refine .ret ⟨.int .i64 (savE w.in_ w.saves.length n:Int),Res.one rfl rfl,⟨_,by rw [St.release_e C0],by rw [St.release_e C0];exact (ds_close (r':=(⟨p,lg,w.z,w.in_,many,om,ov,sa,sc,svl,pF,ga⟩:RS G.α)) (E':=E) (ok.f1.f1) hf (fun j hj=>.inl (he j hj)) V)⟩⟩
 obtain ⟨hw,hn0,hn1⟩:=savE_0 C0;obtain ⟨k,rfl⟩:∃k:Nat,n=(k:Int):=⟨n.toNat,by omega⟩;have hk1:k<svl.length:=by omega
 obtain ⟨sl2,hs2,rfl⟩:∃l:List RSv,l=svl.take k∧l.length=k:=⟨_,rfl,by rw [List.length_take];omega⟩;refine .skip<|.seq<|.r<|.z .mvP<|.z .mvP<|.z .nil<|.z (.fa T.fd123_5)<|.z (.ldx T.ag121 ok.m0)<|.z .mvI<|.z (.sl_h sl2.length T.el121 T.sz120)<|.z .nil<|.z (.fa T.fd123_5)<|.ur' (.stS T.sz121 ok) ?_;rintro η1 ⟨ok,cg⟩;refine .nil ?_;refine .seq<|.r<|.z .asI<|.nil ?_;have ok:=Hp.svTake (ok.n2) (show sl2.length≤svl.length by omega);rw [←hs2] at ok;have ok:=ok.d1 (svsI E sl2) (fun x hx=>ok.r1 x (List.mem_of_mem_take (by rw [←hs2];exact hx))) (fun _ h=>h);refine .ret ⟨.int .i64 0,Res.one rfl rfl,⟨_,by rw [St.release_0 hw (by omega)];rfl,by rw [St.release_0 hw (by omega)];exact (ds_close (r':=(⟨p,lg,w.z,w.in_,many,om,ov,sa,sc,sl2,pF,ga⟩:RS G.α)) (E':=E) (ok.n3.n1.n3.n3.f1) hf (fun j hj=>.inl (he j hj)) (by have h:=V.release hw (sa:=sa) (sc:=sc) (n:=sl2.length);dsimp only at h;rw [←hs2] at h;exact h))⟩⟩
theorem sBack_any {G:Pgr} {h:Heap} {so:Nat} {F:Nat→Prop} {w:St} {n:Int} (ok:Hp h F [dsI G so F w] [] h) :
  HC Tryz.prog 50 #[.pointer (some ⟨so,0,none⟩),.int .i64 n] h (fun v h'=>∃F',v=.int .i64 ((w.back n).2:Int)∧Hp h F [dsI G so F' (w.back n).1] [] h'):=by
 obtain ⟨r,E,V,ok,hf,he⟩:=ds_open ok;have hzc:=V.zc;have hfew:=V.few;have hnf:=V.nowfew;obtain ⟨p,lg,z,in_,many,om,ov,sa,sc,svl,pF,ga⟩:=r;dsimp only at ok hf;generalize stF G so _=DF at ok hf;obtain rfl:z=w.z:=V.z;obtain rfl:in_=w.in_:=V.in_;have hpgs:(if w.in_=true then many else (G.sure ga).length)=w.pgs.length:=V.pgs;have ok:Hp h DF [boxI so 123 [.iface G.tid (.pointer (some ⟨p,0,none⟩)),.pointer lg,.int .i64 (w.z:Int),.bool w.in_,.int .i64 (many:Int),.map om,.slice sa svl.length sc,.bool false],nowI om ov,capI 2 120 (sa,svl.length,sc) (svl.flatMap RSv.cells),G.it p pF ga] [pbsI E ov,svsI E svl] h:=ok;have hsz0:=ok.chg.size;have hsvl:svl.length=w.saves.length:=V.sv.1;have hscl:svl.length≤sc:=Cap.le ok.m2;have hscb:sc≤9223372036854775807:=Cap.bd ok.m2;refine HC.go Tryz.func50 33 ?_;refine .seq<|.r<|.z .asI<|.nil ?_;refine .seq<|.seq<|.r<|.z .mvP<|.z .mvI<|.k 8 .func (ssaved_any (G:=G) (r:=(⟨p,lg,w.z,w.in_,many,om,ov,sa,sc,svl,pF,ga⟩:RS G.α)) (i:=w.in_) (k:=w.saves.length) (n:=n) ok.m0 rfl hsvl)<|.z .asI<|.nil ?_;refine .seq<|.r<|.z .mvI<|.z .neq<|.nil ?_;refine .cd (fun C0=>?_) (fun C0=>?_)
 ·
  refine .seq<|.r<|.z .mvI<|.z .asI<|.nil ?_;refine .ret ⟨.int .i64 (savE w.in_ w.saves.length n:Int),Res.one rfl rfl,⟨_,by rw [St.back_e C0],by rw [St.back_e C0];exact (ds_close (r':=(⟨p,lg,w.z,w.in_,many,om,ov,sa,sc,svl,pF,ga⟩:RS G.α)) (E':=E) (ok.f1.f1) hf (fun j hj=>.inl (he j hj)) V)⟩⟩
 obtain ⟨hw,hn0,hn1⟩:=savE_0 C0;obtain ⟨k,rfl⟩:∃k:Nat,n=(k:Int):=⟨n.toNat,by omega⟩;have hk1:k<svl.length:=by omega
 have hin:=hw;have ok:=ok.d1 (mapI (Value.int .i64) (svl[k]).m (bsE (svl[k]).ov)) (ok.r1 _ (List.getElem_mem hk1)).1 (fun j hj=>by rw [show j=(svl[k]).m from hj];exact (ok.r1 _ (List.getElem_mem hk1)).2.1);refine .skip<|.seq<|.r<|.z .mvP<|.z .mvP<|.z .nil<|.z (.fa T.fd123_5)<|.z (.ldx T.ag121 ok.m0)<|.z .mvI<|?_;obtain ⟨bb1,oo1,rfl,fb1⟩:=ok.m2.pos (n:=svl.length) (by omega);refine .z (.ix k T.el121 T.sz120)<|.z (.ldc (vs:=[.int .i64 ((svl[k]).many:Int),.map (some (svl[k]).m)]) T.ag120 (Cap.rsv ok.m2 hk1) T.sz120)<|.c' 20 .func (scopied_any (many:=(svl[k]).many) (l:=bsE (svl[k]).ov) ((ok).asR')) ?_;rintro _ η1 ⟨mw1,rfl,q⟩;have ok:=(ok).newQ q;refine .z .nil<|.z (.fa T.fd123_4)<|.ur' (.stA (vs:=[.int .i64 ((svl[k]).many:Int),.map (some mw1)]) T.sz120 ok.n1 (oneL rfl)) ?_;rintro η2 ⟨ok,cg⟩;refine .nil ?_;refine .seq<|.r<|.z .mvP<|.z .mvP<|.z .nil<|.z (.fa T.fd123_5)<|.z (.ldx T.ag121 ok.m0)<|.z .mvI<|.z (.addI (b:=1))<|.z (.sl_h (k+1) T.el121 T.sz120)<|.z .nil<|.z (.fa T.fd123_5)<|.ur' (.stS T.sz121 ok) ?_;rintro η3 ⟨ok,cg⟩;refine .nil ?_;refine .seq<|.r<|.z .asI<|.nil ?_;have ok:=ok.d2 (pbsI E (svl[k]).ov) (ok.r2 _ (List.getElem_mem hk1)).2.2 (fun _ h=>h);obtain ⟨sl2,hs2,hk2⟩:∃l:List RSv,l=svl.take (k+1)∧l.length=k+1:=⟨_,rfl,by rw [List.length_take];omega⟩;have ok:=Hp.svTake (ok.n3) (show (k+1)≤svl.length by omega);rw [←hs2] at ok;have ok:=ok.d3 (svsI E sl2) (fun x hx=>ok.r3 x (List.mem_of_mem_take (by rw [←hs2];exact hx))) (fun _ h=>h);rw [show k+1=sl2.length from hk2.symm] at ok;refine .ret ⟨.int .i64 0,Res.one rfl rfl,⟨_,by rw [St.back_0 hw (by omega)];rfl,by rw [St.back_0 hw (by omega)];exact (ds_close (r':=(⟨p,lg,w.z,w.in_,(svl[k]).many,(some mw1),(svl[k]).ov,some ⟨bb1,oo1,none⟩,sc,sl2,pF,ga⟩:RS G.α)) (E':=E) (ok.n4.n1.n3.n3.f1.k4) hf (fun j hj=>.inl (he j hj)) (by have h:=V.back hw (sa:=some ⟨bb1,oo1,none⟩) (sc:=sc) (n:=k) (m:=mw1) hk1;dsimp only at h;rw [←hs2] at h;exact h))⟩⟩
open Go Go.HL
def deedF (w:St) (dn no:Int) (seed:Nat) (H:Hd):St × Nat:=
 if dn=0 then w.write no (pageG w.z seed) else if dn=1 then w.setHead H else if dn=2 then w.begin_ else if dn=4 then w.rollback else if dn=5 then w.save else
 if dn=6 then w.back no else if dn=7 then w.release no else if dn=10 then w.write no (List.replicate (w.z-1) 0) else (w,0)
section
variable {w:St} {no:Int} {seed:Nat} {H:Hd}
theorem deed_0:deedF w 0 no seed H=w.write no (pageG w.z seed):=rfl
theorem deed_1:deedF w 1 no seed H=w.setHead H:=rfl
theorem deed_5:deedF w 5 no seed H=w.save:=rfl
theorem deed_n {dn:Int} (h:¬(dn=0∨dn=1∨dn=2∨dn=4∨dn=5∨dn=6∨dn=7∨dn=10)):deedF w dn no seed H=(w,0):=by
 unfold deedF;rw [if_neg (by omega),if_neg (by omega),if_neg (by omega),if_neg (by omega),if_neg (by omega),if_neg (by omega),if_neg (by omega),if_neg (by omega)]
end
theorem do15_any {G:Pgr} {h:Heap} {so:Nat} {F:Nat→Prop} {w:St} {dn no y1 y2 y3 y4 y5 y6:Int} {seed:Nat} (ok:Hp h F [dsI G so F w] [] h) (hs:seed<256) (hno:i64N no) (hH:HdIn (⟨y1,y2,y3,y4,y5,y6⟩:Hd)) (hd:dn≠3∧dn≠8) :
  HC Tryz.prog 39 #[.pointer (some ⟨so,0,none⟩),.agg #[.int .i64 dn,.int .i64 no,.int .u8 (seed:Int),.int .i64 y1,.int .i64 y2,.int .i64 y3,.int .i64 y4,.int .i64 y5,.int .i64 y6]] h (fun v h'=>∃F',v=.int .i64 (((deedF w dn no seed (⟨y1,y2,y3,y4,y5,y6⟩:Hd)).2:Nat):Int)∧Hp h F [dsI G so F' (deedF w dn no seed (⟨y1,y2,y3,y4,y5,y6⟩:Hd)).1] [] h'):=by
 have hso:=ds_ok ok.m0;have hzc:=okSz_c hso.z;have hno1:=hno.1;have hno2:=hno.2;refine HC.go Tryz.func39 67 ?_;refine .seq<|.r<|.a' 3 (.bxA (cs:=[.int .i64 dn,.int .i64 no,.int .u8 (seed:Int),.int .i64 y1,.int .i64 y2,.int .i64 y3,.int .i64 y4,.int .i64 y5,.int .i64 y6]) ok) ?_;rintro _ η1 ⟨pb1,rfl,ok,xe⟩;refine .z .asI<|.nil ?_;refine .seq<|.seq<|.r<|.z (.fa T.fd68_0)<|.z (.ldx T.ag3 ok.m0)<|.nil ?_;refine .block fun K0 hK0=>.seq<|.r<|.z .eql<|.z .asB<|.nil ?_;refine .cd (fun C0=>?_) (fun C0=>?_)
 ·
  refine .seq<|.a 10 (fun fl hh=>Hp h F [boxI pb1 68 [.int .i64 dn,.int .i64 no,.int .u8 (seed:Int),.int .i64 y1,.int .i64 y2,.int .i64 y3,.int .i64 y4,.int .i64 y5,.int .i64 y6]] [] hh) mixed ?_;have hS:=ok.k1;refine .g 0 false rfl 9 hS (fun _=>.mvP)<|.g 1 false rfl 10 hS (fun _=>.fa T.fd68_1)<|.lw 2 false rfl 11 hS (fun _ _ hS=>.ldx T.ag3 hS.m0)<|.g 3 false rfl 12 hS (fun _=>.mvP)<|.g 5 false rfl 14 hS (fun _=>.fa T.fd68_2)<|.lw 6 false rfl 15 hS (fun _ _ hS=>.ldx T.ag5 hS.m0)<|.o1 4<|.k false rfl 13 .func (sSize_any (G:=G) (F:=F) (w:=w) ok.m1) hS<|.o1 7<|.c' false rfl 16 .func (page15_any (z:=w.z) (seed:=seed) (by omega) (by omega)) ?_;rintro _ η2 own;obtain ⟨ya1,yc1,rfl⟩:=own.formB;have ok:=ok.own own;refine ⟨ok.n1.k1,?_⟩;have hS:=ok.n1.k1;refine .o1 8<|.c' false rfl 17 .func (sWriteC_any (G:=G) (w:=w) (no:=no) (l:=(pageG w.z seed)) (ok.n2) (by first | (rw [pageG_len];omega) | (rw [List.length_replicate];omega))) ?_;rintro _ η3 ⟨Fk1,rfl,q⟩;have ok:=(ok.n2).lift1 q;refine ⟨ok.n2.k1,?_⟩;have hS:=ok.n2.k1;refine .g 9 false rfl 4 hS (fun _=>.asI)<|.e ?_;refine .ret ⟨.int .i64 (((w.write no (pageG w.z seed)).2:Nat):Int),Res.one rfl rfl,⟨Fk1,by rw [show deedF w dn no seed (⟨y1,y2,y3,y4,y5,y6⟩:Hd)=w.write no (pageG w.z seed) from by rw [show dn=0 by omega];rfl]<;>rfl,by rw [show deedF w dn no seed (⟨y1,y2,y3,y4,y5,y6⟩:Hd)=w.write no (pageG w.z seed) from by rw [show dn=0 by omega];rfl];exact (ok).k1⟩⟩
 refine .seq<|.r<|.z .eql<|.z .asB<|.nil ?_;refine .cd (fun C1=>?_) (fun C1=>?_)
 ·
  refine .seq<|.r<|.z .mvP<|.z (.fa T.fd68_3)<|.z (.ldc (vs:=[.int .i64 y1,.int .i64 y2,.int .i64 y3,.int .i64 y4,.int .i64 y5,.int .i64 y6]) T.ag38 (at_part (o:=3) (n:=6) ok.m0) T.sz38)<|.c' 23 .func (sSetHead_any (G:=G) (w:=w) (H:=(⟨y1,y2,y3,y4,y5,y6⟩:Hd)) (ok.n1).loc0 hH) ?_;rintro _ η4 ⟨Fs1,rfl,q⟩;have ok:=(ok.n1).lift1 q;refine .z .asI<|.nil ?_;refine .ret ⟨.int .i64 (((w.setHead (⟨y1,y2,y3,y4,y5,y6⟩:Hd)).2:Nat):Int),Res.one rfl rfl,⟨Fs1,by rw [show deedF w dn no seed (⟨y1,y2,y3,y4,y5,y6⟩:Hd)=w.setHead (⟨y1,y2,y3,y4,y5,y6⟩:Hd) from by rw [show dn=1 by omega];rfl]<;>rfl,by rw [show deedF w dn no seed (⟨y1,y2,y3,y4,y5,y6⟩:Hd)=w.setHead (⟨y1,y2,y3,y4,y5,y6⟩:Hd) from by rw [show dn=1 by omega];rfl];exact (ok).k1⟩⟩
 refine .seq<|.r<|.z .eql<|.z .asB<|.nil ?_;refine .cd (fun C2=>?_) (fun C2=>?_)
 ·
  refine .seq<|.r<|.z .mvP<|.c' 27 .func (sBegin_any (G:=G) (w:=w) (ok.n1).loc0) ?_;rintro _ η5 ⟨Fb1,rfl,q⟩;have ok:=(ok.n1).lift1 q;refine .z .asI<|.nil ?_;refine .ret ⟨.int .i64 ((w.begin_.2:Nat):Int),Res.one rfl rfl,⟨Fb1,by rw [show deedF w dn no seed (⟨y1,y2,y3,y4,y5,y6⟩:Hd)=w.begin_ from by rw [show dn=2 by omega];rfl]<;>rfl,by rw [show deedF w dn no seed (⟨y1,y2,y3,y4,y5,y6⟩:Hd)=w.begin_ from by rw [show dn=2 by omega];rfl];exact (ok).k1⟩⟩
 refine .seq<|.r<|.z .eql<|.z .asB<|.nil ?_;refine .cd (fun C3=>?_) (fun C3=>?_)
 ·
  exact absurd (by omega) hd.1
 refine .seq<|.r<|.z .eql<|.z .asB<|.nil ?_;refine .cd (fun C4=>?_) (fun C4=>?_)
 ·
  refine .seq<|.r<|.z .mvP<|.c' 35 .func (sRollback_any (G:=G) (w:=w) (ok.n1).loc0) ?_;rintro _ η6 ⟨Fb2,rfl,q⟩;have ok:=(ok.n1).lift1 q;refine .z .asI<|.nil ?_;refine .ret ⟨.int .i64 ((w.rollback.2:Nat):Int),Res.one rfl rfl,⟨Fb2,by rw [show deedF w dn no seed (⟨y1,y2,y3,y4,y5,y6⟩:Hd)=w.rollback from by rw [show dn=4 by omega];rfl]<;>rfl,by rw [show deedF w dn no seed (⟨y1,y2,y3,y4,y5,y6⟩:Hd)=w.rollback from by rw [show dn=4 by omega];rfl];exact (ok).k1⟩⟩
 refine .seq<|.r<|.z .eql<|.z .asB<|.nil ?_;refine .cd (fun C5=>?_) (fun C5=>?_)
 ·
  refine .seq<|.r<|.z .mvP<|.c' 39 .func (sSave_any (G:=G) (w:=w) (ok.n1).loc0) ?_;rintro _ η7 ⟨Fb3,rfl,q⟩;have ok:=(ok.n1).lift1 q;refine .z .asI<|.nil ?_;refine .ret ⟨.int .i64 ((w.save.2:Nat):Int),Res.one rfl rfl,⟨Fb3,by rw [show deedF w dn no seed (⟨y1,y2,y3,y4,y5,y6⟩:Hd)=w.save from by rw [show dn=5 by omega];rfl]<;>rfl,by rw [show deedF w dn no seed (⟨y1,y2,y3,y4,y5,y6⟩:Hd)=w.save from by rw [show dn=5 by omega];rfl];exact (ok).k1⟩⟩
 refine .seq<|.r<|.z .eql<|.z .asB<|.nil ?_;refine .cd (fun C6=>?_) (fun C6=>?_)
 ·
  refine .seq<|.r<|.z .mvP<|.z (.fa T.fd68_1)<|.z (.ldx T.ag3 ok.m0)<|.c' 45 .func (sBack_any (G:=G) (w:=w) (n:=no) (ok.n1).loc0) ?_;rintro _ η8 ⟨Fb4,rfl,q⟩;have ok:=(ok.n1).lift1 q;refine .z .asI<|.nil ?_;refine .ret ⟨.int .i64 (((w.back no).2:Nat):Int),Res.one rfl rfl,⟨Fb4,by rw [show deedF w dn no seed (⟨y1,y2,y3,y4,y5,y6⟩:Hd)=w.back no from by rw [show dn=6 by omega];rfl]<;>rfl,by rw [show deedF w dn no seed (⟨y1,y2,y3,y4,y5,y6⟩:Hd)=w.back no from by rw [show dn=6 by omega];rfl];exact (ok).k1⟩⟩
 refine .seq<|.r<|.z .eql<|.z .asB<|.nil ?_;refine .cd (fun C7=>?_) (fun C7=>?_)
 ·
  refine .seq<|.r<|.z .mvP<|.z (.fa T.fd68_1)<|.z (.ldx T.ag3 ok.m0)<|.c' 51 .func (sRelease_any (G:=G) (w:=w) (n:=no) (ok.n1).loc0) ?_;rintro _ η9 ⟨Fb5,rfl,q⟩;have ok:=(ok.n1).lift1 q;refine .z .asI<|.nil ?_;refine .ret ⟨.int .i64 (((w.release no).2:Nat):Int),Res.one rfl rfl,⟨Fb5,by rw [show deedF w dn no seed (⟨y1,y2,y3,y4,y5,y6⟩:Hd)=w.release no from by rw [show dn=7 by omega];rfl]<;>rfl,by rw [show deedF w dn no seed (⟨y1,y2,y3,y4,y5,y6⟩:Hd)=w.release no from by rw [show dn=7 by omega];rfl];exact (ok).k1⟩⟩
 refine .seq<|.r<|.z .eql<|.z .asB<|.nil ?_;refine .cd (fun C8=>?_) (fun C8=>?_)
 ·
  exact absurd (by omega) hd.2
 refine .seq<|.r<|.z .eql<|.z .asB<|.nil ?_;refine .cd (fun C9=>?_) (fun C9=>?_)
 ·
  refine .seq<|.a 8 (fun fl hh=>cond fl True (Hp h F [boxI pb1 68 [.int .i64 dn,.int .i64 no,.int .u8 (seed:Int),.int .i64 y1,.int .i64 y2,.int .i64 y3,.int .i64 y4,.int .i64 y5,.int .i64 y6]] [] hh)) mixed ?_;have hS:=ok.k1;refine .g 0 false rfl 58 hS (fun _=>.mvP)<|.g 1 false rfl 59 hS (fun _=>.fa T.fd68_1)<|.l 2 false rfl 60 hS (fun _ hS=>.ldx T.ag3 hS.m0)<|.g 3 false rfl 61 hS (fun _=>.mvP)<|.o1 4<|.k false rfl 62 .func (sSize_any (G:=G) (F:=F) (w:=w) ok.m1) hS<|.g 5 false rfl 63 hS (fun _=>.sub)<|.g 6 false rfl 64 hS (fun _=>.max2)<|.o1 7<|.a' false rfl 65 (.mks (w.z-1) (w.z-1) T.el44 T.sz5 T.by5 T.zr5 ok) ?_;rintro _ η10 ⟨pb2,rfl,ok,xe⟩;have ok:=ok.cx (ys:=(List.replicate (w.z-1) (0:UInt8)).map bv) (zeros8 _);refine ⟨ok.n1.k1,?_⟩;have hS:=ok.n1.k1;refine .o1 8<|.c' true rfl 66 .func (sWriteC_any (G:=G) (w:=w) (no:=no) (l:=List.replicate (w.z-1) (0:UInt8)) (ok.n2) (by first | (rw [pageG_len];omega) | (rw [List.length_replicate];omega))) ?_;rintro _ η11 ⟨Fk2,rfl,q⟩;have ok:=(ok.n2).lift1 q;refine ⟨trivial,?_⟩;refine .g 9 true rfl 4 trivial (fun _=>.asI)<|.e ?_;refine .ret ⟨.int .i64 (((w.write no (List.replicate (w.z-1) (0:UInt8))).2:Nat):Int),Res.one rfl rfl,⟨Fk2,by rw [show deedF w dn no seed (⟨y1,y2,y3,y4,y5,y6⟩:Hd)=w.write no (List.replicate (w.z-1) 0) from by rw [show dn=10 by omega];rfl]<;>rfl,by rw [show deedF w dn no seed (⟨y1,y2,y3,y4,y5,y6⟩:Hd)=w.write no (List.replicate (w.z-1) 0) from by rw [show dn=10 by omega];rfl];exact (ok).k1⟩⟩
 refine .skip<|.end<|hK0 _ _<|.seq<|.r<|.z .asI<|.nil ?_;refine .ret ⟨.int .i64 0,Res.one rfl rfl,⟨F,by rw [deed_n (w:=w) (by omega)]<;>rfl,by rw [deed_n (w:=w) (by omega)];exact (ok.n1).k1⟩⟩
theorem pages15_any {G:Pgr} {h:Heap} {so:Nat} {F:Nat→Prop} {w:St} (ok:Hp h F [dsI G so F w] [] h) (hw:w.pgs.length≤1000):HC Tryz.prog 43 #[.pointer (some ⟨so,0,none⟩)] h (fun v h'=>∃F' E a c,v=.tuple #[.slice a w.pgs.length c,.bool true]∧Hp h F [dsI G so F' w] [rdI E E (a,w.pgs.length,c) w.pgs] h'∧∀j,E j∨E j→F j∨h.size≤j):=by
 have hR0:(w.read 0)=([],1):=if_pos (.inl (by decide));have hRn:(w.read ((w.pgs.length:Int)+1))=([],1):=if_pos (.inr (by omega));refine HC.go Tryz.func43 59 ?_;refine .seq<|.r<|.z .asS<|.z .asB<|.nil ?_;refine .seq<|.r<|.z .asS<|.nil ?_;refine .seq<|?_;have ok:=ok.nilC (k:=1) (e:=44);have ok:=ok.pbyNil;refine .r<|.z .mvP<|.c' 14 .func (sHead_any (G:=G) (w:=w) (ok.n1).loc0) ?_;rintro _ η1 ⟨Fh1,rfl,q⟩;have ok:=(ok.n1).lift1 q;rw [show w.head.val=.agg #[.int .i64 w.head.size,.int .i64 (w.pgs.length:Int),.int .i64 w.head.free,.int .i64 w.head.many,.int .i64 w.head.cookie,.int .i64 w.head.version] from (by rw [←St.head_pages];rfl)];refine .z (.fd T.fd38_1 T.ag3)<|.z .asI<|.nil ?_;refine .seq<|.seq<|.r<|.z .mvI<|.z .lss<|.z .mvB<|.sd (fun G18=>?_) (fun G18=>?_)
 ·
  omega
 refine .z .mvI<|.z .gtr<|.z .pkf<|.nil ?_;refine .cd (fun C0=>?_) (fun C0=>?_)
 ·
  omega
 refine .skip<|.seq<|.seq<|.r<|.z .mvI<|.z .mvI<|.nil ?_;refine .block fun K0 hK0=>.loop (fun m s hh=>∃(kp:Nat) (ol:List RB) (a3:Option Addr) (c3:Nat) (Eo Fp:Nat→Prop),Has s [(0,.pointer (some ⟨so,0,none⟩)),(4,.slice a3 ol.length c3),(5,.int .i64 (w.pgs.length:Int)),(22,.int .i64 (w.pgs.length:Int)),(23,.int .i64 (kp:Int))]∧Hp h F [capI 1 44 (a3,ol.length,c3) (ol.flatMap RB.cells),dsI G so Fp w] [pbyI Eo ol] hh∧kp≤w.pgs.length∧ol.length=kp∧pgs ol=w.pgs.take kp∧(∀j,Eo j→F j∨h.size≤j)∧m=w.pgs.length-kp) ?_ ?_
 ·exact ⟨_,0,[],none,0,none_,Fh1,⟨rfl,rfl,rfl,rfl,rfl,trivial⟩,(ok.n1).k2,by omega,rfl,rfl,fun j f=>f.elim,rfl⟩
 rintro _ _ η2 ⟨kp,ol,a3,c3,Eo,Fp,hs,ok,hk1,hol,hpo,hEo,rfl⟩ J0 hJ0;refine .frame hs fun τ=>?_;refine .seq<|.r<|.z .lss<|.nil ?_;refine .seq<|.cdr (fun C1=>?_) (fun C1=>?_)
 ·
  refine .exit<|hK0 _ _<|.seq<|.r<|.z .mvP<|.z .mvI<|.z .add<|.c' 44 .func (sRead_any (G:=G) (w:=w) (no:=((w.pgs.length:Int)+1)) (ok.n1).loc0) ?_;rintro _ η3 ⟨Fr1,xr1,cr1,rfl,q⟩;have ok:=(ok.n1).lift2 q;refine .z .mvU<|.z .ex<|.z .ex<|.z .asS<|.z .asI<|.nil ?_;refine .seq<|.r<|.z .mvP<|.c' 49 .func (sRead_any (G:=G) (w:=w) (no:=0) (ok.n1).loc0) ?_;rintro _ η4 ⟨Fr2,xr2,cr2,rfl,q⟩;have ok:=(ok.n1).lift2 q;refine .z .mvU<|.z .ex<|.z .ex<|.z .asS<|.z .asI<|.nil ?_;refine .seq<|.r<|.z .mvS<|.z .mvI<|.z .eql<|.z .mvB<|.sd (fun G55=>?_) (fun G55=>?_)
  ·
   refine .z .mvI<|.z .eql<|.z .pkt<|.z .asS<|.z .asB<|.nil ?_;refine .ret ⟨.tuple #[.slice a3 ol.length c3,.bool (decide ((((w.read 0).2:Nat):Int)=1))],Res.two rfl rfl rfl,⟨Fr2,_,a3,c3,(by rw [show ol.length=w.pgs.length by omega,show (w.read 0).2=1 from by rw [hR0]];rfl),(by have q:=Hp.pgRows (ok.n1.n3) (hpo.trans (pg_all5 hk1 (by omega)));rw [show ol.length=w.pgs.length by omega] at q;exact q.k1.e1),(fun j hj=>by rcases or_self_iff.1 hj with h1 | h1;exact (ok.n1.n3).ownE j (by rw [show ol.length=w.pgs.length by omega];exact h1);exact hEo j h1)⟩⟩
  rw [hRn] at G55;exact absurd rfl G55
 refine .skip<|.seq<|.block fun K1 hK1=>.seq<|?_;have hkl:kp<w.pgs.length:=by omega
 refine .r<|.z .mvI<|.z .asI<|.nil ?_;refine .seq<|.r<|.z .mvP<|.z .mvI<|.z (.addI (b:=1))<|.c' 30 .func (sReadOk_any (G:=G) (w:=w) (no:=((kp+1:Nat):Int)) (b:=(w.pgs.getD kp [])) (ok.n1).loc0 (by omega) (by omega) (by congr 1;omega)) ?_;rintro _ η5 ⟨Fr3,xr3,cr3,rfl,hlr3,q⟩;have ok:=(ok.n1).lift2 q;refine .z .mvU<|.z .ex<|.z .ex<|.z .asS<|.z .asI<|.nil ?_;refine .seq<|.seq<|.r<|.z .mvI<|.z .neq<|.nil ?_;refine .cf<|.skip<|.r<|.z .mvS<|.z .mvS<|.a' 37 (.lit [.tmp 36] (cs:=[.slice xr3 ((w.pgs.getD kp []).length) cr3]) T.el28 T.sz44 T.zr44 ok ⟨rfl,trivial⟩) ?_;rintro _ η6 ⟨pb1,rfl,ok,xe⟩;refine .a' 38 (.app (news:=[.slice xr3 ((w.pgs.getD kp []).length) cr3]) T.el28 T.sz44 T.by44 T.zr44 ok.n3 (ok.n3.m1).sl (oneL rfl) (by rw [flat_len RB.cells_len];simp only [List.length_cons,List.length_nil];omega)) ?_;rintro _ η7 ⟨ya1,yn1,yc1,rfl,ok,ap⟩;have ok:=(ok).cx (ys:=(ol++[(⟨xr3,cr3,(w.pgs.getD kp [])⟩:RB)]).flatMap RB.cells) (by simp [RB.cells]);obtain rfl:yn1=(ol++[(⟨xr3,cr3,(w.pgs.getD kp [])⟩:RB)]).length:=(Sl.sz (Cap.sl ok.m0) RB.cells_len (by decide)).1.symm;have hfr:=(ok.n2).ownE;have ok:=Hp.pbyPut (ok.n2);refine .z .asS<|.nil ?_;refine .end<|hK1 _ _<|.r<|.z (.addI (b:=1))<|.z .mvI<|.nil ?_;refine .end<|hJ0 _ _ _ ⟨kp+1,ol++[(⟨xr3,cr3,(w.pgs.getD kp [])⟩:RB)],ya1,yc1,(fun j=>Eo j∨blkC (sv (xr3,((w.pgs.getD kp [])).length,cr3)) j),Fr3,⟨rfl,rfl,rfl,rfl,rfl,trivial⟩,(ok.n2.n1).k2,by omega,by simp [hol],pg_step5 hpo hkl rfl,(fun j h=>h.elim (hEo j) (hfr j)),rfl⟩ (by omega)
theorem same15_any {h:Heap} {F E F' E':Nat→Prop} {a b:Option Addr} {c d:Nat} {l l2:List (List UInt8)} (hl:RdL h F E (a,l.length,c) l) (hm:RdL h F' E' (b,l2.length,d) l2) :
  HC Tryz.prog 44 #[.slice a l.length c,.slice b l2.length d] h (fun r h'=>r=.bool (decide (l=l2))∧Ext h h'):=by
 have hlc:=hl.c;have hlm:=hl.m;simp only at hlc hlm;have ok:=((Hp.nil h none_).arg hm).arg hl;refine HC.go Tryz.func44 28 ?_;refine .seq<|.r<|.z .asB<|.nil ?_;refine .seq<|.seq<|.r<|.z .mvS<|.z (.len T.el28)<|.z .mvS<|.z (.len T.el28)<|.z .neq<|.nil ?_;refine .cd (fun C0=>?_) (fun C0=>?_)
 ·
  refine .seq<|.r<|.z .asB<|.nil ?_;refine .ret ⟨.bool false,Res.one rfl rfl,⟨by rw [decide_eq_false (fun e=>by rw [e] at C0;exact C0 rfl)],ok.chg⟩⟩
 refine .skip<|.seq<|.seq<|.r<|.z .asI<|.nil ?_;refine .block fun K0 hK0=>.loop (fun m s hh=>∃(i:Nat),Has s [(0,.slice a l.length c),(1,.slice b l2.length d),(5,.int .i64 (i:Int))]∧Hp h none_ [] [rdI (fun j=>F j∧j<h.size) (fun j=>E j∧j<h.size) (a,l.length,c) l,rdI (fun j=>F' j∧j<h.size) (fun j=>E' j∧j<h.size) (b,l2.length,d) l2] hh∧i≤l.length∧l.take i=l2.take i∧m=l.length-i) ?_ ?_
 ·exact ⟨_,0,⟨rfl,rfl,rfl,trivial⟩,ok,Nat.zero_le _,by simp,rfl⟩
 rintro _ _ η1 ⟨i,hs,ok,hi,hn,rfl⟩ J0 hJ0;refine .frame hs fun τ=>?_;refine .seq<|.seq<|.r<|.z .mvI<|.z .mvS<|.z (.len T.el28)<|.z .lss<|.nil ?_;refine .cdr (fun C1=>?_) (fun C1=>?_)
 ·
  refine .exit<|hK0 _ _<|.seq<|.r<|.z .asB<|.nil ?_;refine .ret ⟨.bool true,Res.one rfl rfl,⟨by rw [decide_eq_true (by rwa [List.take_of_length_le (by omega),List.take_of_length_le (by omega)] at hn)],ok.chg⟩⟩
 have hil:i<l.length:=by omega
 have hil2:i<l2.length:=by omega
 refine .skip<|.seq<|.block fun K1 hK1=>.seq<|.q (hm:=mixed)<|.z .mvS<|.z .mvI<|?_;obtain ⟨bb1,oo1,rfl,fb1⟩:=ok.r0.pos (by omega);refine .z (.ix1 i T.el28 T.sz44 (hi:=by omega))<|?_;obtain ⟨ya1,yc1,he1,hr1⟩:=ok.r0.row (i:=i) (by omega);have ok:=ok.d0 (rdI (fun j=>E j∧j<h.size) (fun j=>E j∧j<h.size) (ya1,l[i].length,yc1) (l[i])) hr1 (fun _ h=>.inr (h.elim id id));refine .z (.ld T.ag44 he1)<|.z (.bts T.el44 T.in5 T.st9 (ok.r0).by)<|.z .mvS<|.z .mvI<|?_;obtain ⟨bb2,oo2,rfl,fb2⟩:=ok.r2.pos (by omega);refine .z (.ix1 i T.el28 T.sz44 (hi:=by omega))<|?_;obtain ⟨ya2,yc2,he2,hr2⟩:=ok.r2.row (i:=i) (by omega);have ok:=ok.d2 (rdI (fun j=>E' j∧j<h.size) (fun j=>E' j∧j<h.size) (ya2,l2[i].length,yc2) (l2[i])) hr2 (fun _ h=>.inr (h.elim id id));refine .z (.ld T.ag44 he2)<|.z (.bts T.el44 T.in5 T.st9 (ok.r0).by)<|.z .tNeB<|.nil ?_;refine .cd (fun C2=>?_) (fun C2=>?_)
 ·
  refine .seq<|.r<|.z .asB<|.nil ?_;refine .ret ⟨.bool false,Res.one rfl rfl,⟨by rw [decide_eq_false (fun e=>by subst e;exact C2 rfl)],ok.chg⟩⟩
 refine .skip<|.end<|hK1 _ _<|.r<|.z .mvI<|.z (.addI (b:=1))<|.z .asI<|.nil ?_;refine .end<|hJ0 _ _ _ ⟨i+1,⟨rfl,rfl,rfl,trivial⟩,ok.tR.tR,by omega,by rw [take_next hil,take_next hil2,hn,show l[i]=l2[i] from by simpa using C2],rfl⟩ (by omega)
open Go Go.HL
def cont (D:Dk) (n:List UInt8):Option (List UInt8):=match D.fs n with
 | some f=>if f.here=true then some f.now else none
 | none=>none
def rdE (D:Dk) (n:List UInt8):Nat:=if (cont D n).isSome=true then 0 else 4
theorem rdE_0 {D:Dk} {n:List UInt8} (h:¬((rdE D n:Nat):Int)=4):rdE D n=0:=by unfold rdE at h⊢;split;rfl;rename_i g;rw [if_neg g] at h;exact absurd rfl h
structure HD (D:Dk):Prop where
 dk:DkOk D
 on:D.dark=false
 lf:D.left<0
 em:∀n f,D.fs n=some f→f.here=false→f.now=[]
theorem HD.new:HD newN:=⟨newN_ok,rfl,by show (-1:Int)<0;decide,fun _ _ h=>(by cases h)⟩
structure HUp (D D':Dk) (n:List UInt8) (c:Option (List UInt8)) (k:Int):Prop where
 hd:HD D'
 at_:cont D' n=c
 ne:∀m,m≠n→cont D' m=cont D m
 chg:D'.chg≤D.chg+k
section
variable {D:Dk} {n:List UInt8} {b l:List UInt8} {p z:Nat}
theorem cont_some (h:cont D n=some b):∃f,D.fs n=some f∧f.here=true∧f.now=b:=by
 unfold cont at h;split at h
 ·rename_i f hf;split at h
  ·rename_i hh;exact ⟨f,hf,hh,by injection h⟩
  ·cases h
 ·cases h
theorem cont_there (h:cont D n=some b):thereN D n=true:=by obtain ⟨f,hf,hh,_⟩:=cont_some h;unfold thereN;rw [hf];exact hh
theorem cont_no (h:cont D n=none):thereN D n=false:=by
 unfold thereN;unfold cont at h;split
 ·rename_i f hf;rw [hf] at h;simp only at h;split at h
  ·cases h
  ·rename_i hh;simpa using hh
 ·rfl
theorem HD.now (k:HD D):((D.fs n).getD noF).now=(cont D n).getD []:=by
 unfold cont;cases hf:D.fs n with
 | none=>rfl
 | some f=>
  simp only [Option.getD_some];by_cases hh:f.here=true
  ·rw [if_pos hh];rfl
  ·rw [if_neg hh];exact k.em n f hf (by simpa using hh)
theorem HD.dox (k:HD D) {c:Chn} (hc:ChOk c) (hn:nOk n) (he:(doneN c ((D.fs n).getD noF).now ((D.fs n).getD noF).here).2=false→(doneN c ((D.fs n).getD noF).now ((D.fs n).getD noF).here).1=[]) :
  (doN D n c).2=0∧HUp D (doN D n c).1 n (if (doneN c ((D.fs n).getD noF).now ((D.fs n).getD noF).here).2=true then some (doneN c ((D.fs n).getD noF).now ((D.fs n).getD noF).here).1 else none) 1:=by
 have hl:=k.lf;have hk:=k.dk.do hc (n:=n) hn.2;have e:doN D n c=(⟨put1 D.fs n (some (chgF ((D.fs n).getD noF) c)),D.dark,D.left,D.chg+1⟩,0):=by
  unfold doN;rw [if_neg (by omega),if_neg (by omega)]
 rw [e] at hk⊢;refine ⟨rfl,⟨hk,k.on,hl,fun m f hf hh=>?_⟩,?_,fun m hm=>?_,by simp⟩
 ·simp only [put1] at hf;split at hf
  ·injection hf with hf;subst hf;exact he hh
  ·exact k.em m f hf hh
 ·unfold cont;simp only [put1_at];rfl
 ·unfold cont;simp only [put1_ne hm]
theorem HD.write (k:HD D) (hn:nOk n) (h:p+l.length≤16777216):(writeN D n (p:Int) l).2=0∧HUp D (writeN D n (p:Int) l).1 n (some (wrB ((cont D n).getD []) p l)) 1:=by
 have e:writeN D n (p:Int) l=doN D n ⟨0,p,l⟩:=by
  unfold writeN;rw [if_neg (by rw [wrong_0 k.on hn (by intro z hz;rw [List.mem_singleton] at hz;omega)];decide),if_neg (by omega),Int.toNat_natCast]
 have q:=k.dox (n:=n) (c:=⟨0,p,l⟩) ⟨by simp,h⟩ hn (by intro h;cases h);rw [e];refine ⟨q.1,?_⟩;have h2:=q.2;rw [k.now] at h2;exact h2
theorem HD.trunc (k:HD D) (hn:nOk n) (hb:cont D n=some b) (h:z≤16777216):(truncN D n (z:Int)).2=0∧HUp D (truncN D n (z:Int)).1 n (some (longN b z)) 1:=by
 obtain ⟨f,hf,hh,rfl⟩:=cont_some hb;have e:truncN D n (z:Int)=doN D n ⟨1,z,[]⟩:=by
  unfold truncN;rw [if_neg (by rw [wrong_0 k.on hn (by intro z hz;rw [List.mem_singleton] at hz;omega)];decide),if_neg (by rw [cont_there hb];decide),if_neg (by omega),Int.toNat_natCast]
 have ed:doneN ⟨1,z,[]⟩ ((D.fs n).getD noF).now ((D.fs n).getD noF).here=(longN f.now z,true):=by rw [hf];unfold doneN;simp [hh]
 have q:=k.dox (n:=n) (c:=⟨1,z,[]⟩) ⟨by simp,by simp;omega⟩ hn (by rw [ed];intro h;cases h);rw [e];refine ⟨q.1,?_⟩;have h2:=q.2;rw [ed] at h2;exact h2
theorem HD.sync1 (k:HD D) (hn:nOk n) {f:Fl} (hf:D.fs n=some f) (ho:f.here=true∨f.opn≠[]):(syncN D n).2=0∧HUp D (syncN D n).1 n (cont D n) 1:=by
 have hl:=k.lf;have hk:=k.dk.sync (n:=n);have e:syncN D n=(⟨put1 D.fs n (settleF f),D.dark,D.left,D.chg+1⟩,0):=by
  unfold syncN;rw [if_neg (by rw [wrong_0 k.on hn (by intro z hz;cases hz)];decide),hf];simp only;rw [if_neg (by rintro ⟨h1,h2⟩;exact ho.elim (fun h=>by rw [h] at h1;cases h1) (fun h=>h h2)),if_neg (by omega),if_neg (by omega)]
 rw [e] at hk⊢;have es:settleF f=if f.here=true then some ⟨f.now,f.now,true,true,[]⟩ else none:=rfl
 refine ⟨rfl,⟨hk,k.on,hl,fun m g hg hh=>?_⟩,?_,fun m hm=>?_,by simp⟩
 ·simp only [put1] at hg;split at hg
  ·rw [es] at hg;split at hg
   ·injection hg with hg;subst hg;cases hh
   ·cases hg
  ·exact k.em m g hg hh
 ·unfold cont;simp only [put1_at,hf,es];by_cases hh:f.here=true<;>simp [hh]
 ·unfold cont;simp only [put1_ne hm]
theorem HD.sync (k:HD D) (hn:nOk n) (hb:cont D n=some b):(syncN D n).2=0∧HUp D (syncN D n).1 n (some b) 1:=by
 obtain ⟨f,hf,hh,_⟩:=cont_some hb;have:=k.sync1 hn hf (.inl hh);rwa [hb] at this
theorem HD.gone (k:HD D) (hn:nOk n):(goneN D n).2=0∧HUp D (goneN D n).1 n none 2:=by
 have hw:wrongN D n []=0:=wrong_0 k.on hn (by intro z hz;cases hz);unfold goneN;cases hb:cont D n with
 | none=>
  have e:removeN D n=(D,4):=by unfold removeN;rw [if_neg (by rw [hw];decide),if_pos (cont_no hb)]
  rw [e,if_neg (show ¬(4:Nat)=0 by decide),if_pos rfl];exact ⟨rfl,k,hb,fun _ _=>rfl,by show D.chg≤D.chg+2;omega⟩
 | some b=>
  obtain ⟨f,hf,hh,_⟩:=cont_some hb;have e:removeN D n=doN D n ⟨2,0,[]⟩:=by unfold removeN;rw [if_neg (by rw [hw];decide),if_neg (by rw [cont_there hb];decide)]
  have ed:∀x y,doneN ⟨2,0,[]⟩ x y=([],false):=fun x y=>by unfold doneN;simp
  have q:=k.dox (n:=n) (c:=⟨2,0,[]⟩) ⟨by simp,by simp⟩ hn (by rw [ed];intro _;rfl);rw [e,if_pos q.1];rw [ed] at q;have hl:=k.lf;have ef:(doN D n ⟨2,0,[]⟩).1.fs n=some (chgF ((D.fs n).getD noF) ⟨2,0,[]⟩):=by unfold doN;rw [if_neg (by omega)];exact put1_at _ _ _
  have s:=q.2.hd.sync1 hn ef (.inr (by simp [chgF]));rw [q.2.at_] at s;exact ⟨s.1,s.2.hd,s.2.at_,fun m hm=>(s.2.ne m hm).trans (q.2.ne m hm),by have:=s.2.chg;have:=q.2.chg;omega⟩
theorem HD.size (k:HD D):sizeN D n=(((cont D n).getD []).length,(cont D n).isSome):=by
 unfold sizeN;cases hb:cont D n with
 | none=>rw [if_pos (.inr (cont_no hb))];rfl
 | some b=>rw [if_neg (by rw [k.on,cont_there hb];decide),k.now,hb];rfl
theorem HD.read (k:HD D) (hn:nOk n) (hb:cont D n=some b):readN D n (p:Int) (z:Int)=((b.drop p).take z,0):=by
 obtain ⟨f,hf,hh,rfl⟩:=cont_some hb;unfold readN;rw [if_neg (by rw [wrong_0 k.on hn (by intro z hz;simp at hz;omega)];decide),hf];simp only;rw [if_neg (by rw [hh];decide),Int.toNat_natCast,Int.toNat_natCast]
theorem HD.readNo (k:HD D) (hn:nOk n) (hb:cont D n=none):readN D n (p:Int) (z:Int)=([],4):=by
 unfold readN;rw [if_neg (by rw [wrong_0 k.on hn (by intro z hz;simp at hz;omega)];decide)];unfold cont at hb;split
 ·rfl
 ·rename_i f hf;rw [hf] at hb;simp only at hb;split at hb
  ·cases hb
  ·rename_i hh;rw [if_pos (by simpa using hh)]
end
theorem nT_h:nOk nT:=by unfold nOk nT;decide
theorem nJ_h:nOk [116,111,109,101,46,98,97,99,107]:=by unfold nOk;decide
theorem nM_h:nOk nM:=by unfold nOk nM;decide
theorem nL_h:nOk nL:=by unfold nOk nL;decide
section
variable {h:Heap} {d p z:Nat} {F F2 E2:Nat→Prop} {D:Dk} {n l b:List UInt8} {a:Option Addr} {c:Nat} (k:HD D) (hc:D.chg<900000000) (hn:nOk n)
include k hc hn
theorem hwrite_any (hf:p+l.length≤16777216) (ok:Hp h F [dgI d F D] [rdI F2 E2 (a,l.length,c) l] h) :
  HC Tryz.prog 207 #[.pointer (some ⟨d,0,none⟩),.string (BA n),.int .i64 (p:Int),.slice a l.length c] h (fun v h'=>v=.int .i64 0∧∃F' D',HUp D D' n (some (wrB ((cont D n).getD []) p l)) 1∧Hp h F [dgI d F' D'] [] h'):=
 (dgwrite_any ok k.dk (by omega) (by omega)).mono fun v h' ⟨F',hv,q⟩=>⟨by rw [hv,(k.write hn hf).1];rfl,F',_,(k.write hn hf).2,q⟩
theorem hsync_any (hb:cont D n=some b) (ok:Hp h F [dgI d F D] [] h) :
  HC Tryz.prog 209 #[.pointer (some ⟨d,0,none⟩),.string (BA n)] h (fun v h'=>v=.int .i64 0∧∃F' D',HUp D D' n (some b) 1∧Hp h F [dgI d F' D'] [] h'):=
 (dgsync_any ok k.dk (by omega)).mono fun v h' ⟨F',hv,q⟩=>⟨by rw [hv,(k.sync hn hb).1];rfl,F',_,(k.sync hn hb).2,q⟩
theorem htrunc_any (hb:cont D n=some b) (hz:z≤16777216) (ok:Hp h F [dgI d F D] [] h) :
  HC Tryz.prog 208 #[.pointer (some ⟨d,0,none⟩),.string (BA n),.int .i64 (z:Int)] h (fun v h'=>v=.int .i64 0∧∃F' D',HUp D D' n (some (longN b z)) 1∧Hp h F [dgI d F' D'] [] h'):=by
 obtain ⟨r,E,rfl,o,hf,he⟩:=dg_open ok;refine (trunc_any o k.dk (by show r.chg<_;have:r.chg<900000000:=hc;omega) (by omega)).mono fun v h' ⟨r',E',hv,ha,up⟩=>?_;obtain ⟨F',hp⟩:=dg_up up hf he;rw [ha] at hp;exact ⟨by rw [hv,(k.trunc hn hb hz).1];rfl,F',_,(k.trunc hn hb hz).2,hp⟩
end
section
variable {h:Heap} {d p z:Nat} {F:Nat→Prop} {D:Dk} {n b:List UInt8} (k:HD D)
include k
theorem hysizeX_any (ok:Hp h F [dgI d F D] [] h) :
  HC Tryz.prog 136 #[.pointer (some ⟨d,0,none⟩),.string (BA n)] h (fun v h'=>v=.tuple #[.int .i64 (((cont D n).getD []).length:Int),.bool (cont D n).isSome]∧h'=h):=by
 have q:=dgsize_any (n:=n) ok;rw [k.size] at q;exact q
theorem hysize_any (hb:cont D n=some b) (ok:Hp h F [dgI d F D] [] h) :
  HC Tryz.prog 136 #[.pointer (some ⟨d,0,none⟩),.string (BA n)] h (fun v h'=>v=.tuple #[.int .i64 (b.length:Int),.bool true]∧h'=h):=by
 have q:=hysizeX_any (n:=n) k ok;rw [hb] at q;exact q
theorem hdark_any (ok:Hp h F [dgI d F D] [] h) :
  HC Tryz.prog 135 #[.pointer (some ⟨d,0,none⟩)] h (fun v h'=>v=.bool false∧h'=h):=by
 have q:=dgdark_any ok;rw [k.on] at q;exact q
theorem hread_any {y:Int} (hn:nOk n) (hy:y=(p:Int)) (hp:p≤4611686018427387904) (hz:z≤4611686018427387904) (ok:Hp h F [dgI d F D] [] h) :
  HC Tryz.prog 180 #[.pointer (some ⟨d,0,none⟩),.string (BA n),.int .i64 y,.int .i64 (z:Int)] h (fun v h'=>∃w,v=.tuple #[w,.int .i64 ((rdE D n:Nat):Int)]∧Own h h' 1 5 w (((((cont D n).getD []).drop p).take z).map bv)):=by
 subst hy;refine (dgread_any (n:=n) ok k.dk (y:=(p:Int)) (z:=(z:Int)) ⟨by omega,by omega⟩ ⟨by omega,by omega⟩).mono fun v h' ⟨w,hv,o⟩=>⟨w,?_⟩;unfold rdE;cases hb:cont D n with
 | none=>rw [k.readNo hn hb] at hv o;exact ⟨hv,by simpa using o⟩
 | some b=>rw [k.read hn hb] at hv o;exact ⟨hv,o⟩
theorem hreadS_any (hn:nOk n) (hb:cont D n=some b) (hp:p≤4611686018427387904) (hz:z≤4611686018427387904) (ok:Hp h F [dgI d F D] [] h) :
  HC Tryz.prog 180 #[.pointer (some ⟨d,0,none⟩),.string (BA n),.int .i64 (p:Int),.int .i64 (z:Int)] h (fun v h'=>∃w,v=.tuple #[w,.int .i64 0]∧Own h h' 1 5 w (((b.drop p).take z).map bv)):=by
 refine (dgread_any (n:=n) ok k.dk (y:=(p:Int)) (z:=(z:Int)) ⟨by omega,by omega⟩ ⟨by omega,by omega⟩).mono fun v h' ⟨w,hv,o⟩=>⟨w,?_⟩;rw [k.read hn hb] at hv o;exact ⟨hv,o⟩
end
end Go.Proofs.YtndlpekckpdncaaGreat
namespace Go.HL
open Go Go.Proofs.YtndlpekckpdncaaGreat
section
variable {h0 h h':Heap} {D:Nat→Prop} {M R:List Itm} {a b c d x a' b' c' d':Itm}
theorem Hp.lenI3 {e:TypeId} {a:Option Addr} {n c:Nat} {l:List Int} (ok:Hp h0 D (capI 1 e (a,n,c) (l.map iv)::M) R h):n=l.length:=by
 have h1:Cap h 1 e (.slice a n c) (l.map iv):=ok.m0;have:=h1.sl.cells.1;rw [List.length_map] at this;omega
theorem Hp.lc2 (ok:Hp h0 D (a::b::M) R h):Hp h (starI [a,b]).F [a,b] R h:=Hp.locL [a,b] (M:=M) ok
theorem Hp.lc3 (ok:Hp h0 D (a::b::c::M) R h):Hp h (starI [a,b,c]).F [a,b,c] R h:=Hp.locL [a,b,c] (M:=M) ok
theorem Hp.lc4 (ok:Hp h0 D (a::b::c::d::M) R h):Hp h (starI [a,b,c,d]).F [a,b,c,d] R h:=Hp.locL [a,b,c,d] (M:=M) ok
theorem Hp.lf23 (ok:Hp h0 D (a::b::M) R h) (q:Hp h (starI [a,b]).F [x,a',b'] [] h'):Hp h0 D (x::a'::b'::M) R h':=Hp.liftL [a,b] (l':=[x,a',b']) (M:=M) ok q
theorem Hp.lf33 (ok:Hp h0 D (a::b::c::M) R h) (q:Hp h (starI [a,b,c]).F [a',b',c'] [] h'):Hp h0 D (a'::b'::c'::M) R h':=Hp.liftL [a,b,c] (l':=[a',b',c']) (M:=M) ok q
theorem Hp.lf34 (ok:Hp h0 D (a::b::c::M) R h) (q:Hp h (starI [a,b,c]).F [x,a',b',c'] [] h'):Hp h0 D (x::a'::b'::c'::M) R h':=Hp.liftL [a,b,c] (l':=[x,a',b',c']) (M:=M) ok q
theorem Hp.lf44 (ok:Hp h0 D (a::b::c::d::M) R h) (q:Hp h (starI [a,b,c,d]).F [a',b',c',d'] [] h'):Hp h0 D (a'::b'::c'::d'::M) R h':=Hp.liftL [a,b,c,d] (l':=[a',b',c',d']) (M:=M) ok q
end
end Go.HL
namespace Go.Proofs.YtndlpekckpdncaaGreat
open Go Go.HL
structure RH where
 in_:Bool
 now:Nat
 valid:Nat
 begun:Bool
 nonce:Nat
 km:Option Nat
 kept:List Int
 marked:Nat
 d:Nat
 D:Dk
 size:Nat
 c:Nat
 sure:Nat
 bytes:Nat
@[reducible] def hboxI (p:Nat) (r:RH):Itm:=boxI p 212 [.bool r.in_,.int .i64 (r.now:Int),.int .i64 (r.valid:Int),.bool r.begun,.int .u64 (r.nonce:Int),.map r.km,.int .i64 (r.marked:Int),.pointer (some ⟨r.d,0,none⟩),.int .i64 (r.size:Int),.pointer (some ⟨r.c,0,none⟩),.int .i64 (r.sure:Int),.int .i64 (r.bytes:Int),.bool false]
def fT (D:Dk):List UInt8:=(cont D nT).getD []
structure HC0 (r:RH):Prop where
 sz:okSz r.size=true
 hd:HD r.D
 by_:(fT r.D).length=r.bytes
 fit:r.bytes≤16777216
 ms:r.sure*(r.size+8)+28≤16777216
 jb:r.begun=true→r.marked=r.kept.length+1
 jn:r.begun=false→r.kept=[]∧r.marked=0
 kn:r.kept.Nodup
 kr:∀x∈r.kept,1≤x∧x≤(r.sure:Int)
 no:r.nonce<18446744073709551616
 chg:0≤r.D.chg
structure SvH (r r':RH) (k:Int):Prop where
 in_:r'.in_=r.in_
 now:r'.now=r.now
 valid:r'.valid=r.valid
 km:r'.km=r.km
 d:r'.d=r.d
 size:r'.size=r.size
 c:r'.c=r.c
 sure:r'.sure=r.sure
 bytes:r'.bytes=r.bytes
 ct:cont r'.D nT=cont r.D nT
 bg:r'.begun=true
 ok:HC0 r'
 chg:r'.D.chg≤r.D.chg+k
theorem inner_fit {n:Nat} {ks:List Int} (hn:ks.Nodup) (hr:∀x∈ks,1≤x∧x≤(n:Int)):ks.length≤n:=by
 have h3:(0::ks.map Int.toNat).length≤(List.range (n+1)).length:=by
  refine List.Nodup.length_le_of_subset (List.nodup_cons.2 ⟨fun hk=>?_,?_⟩) fun k hk=>?_
  ·obtain ⟨x,hx,e⟩:=List.mem_map.1 hk;have:=hr x hx;omega
  ·unfold List.Nodup;rw [List.pairwise_map];exact List.Pairwise.imp_of_mem (fun ha hb h e=>h (by have:=hr _ ha;have:=hr _ hb;omega)) hn
  ·rcases List.mem_cons.1 hk with rfl | hk
   ·rw [List.mem_range];omega
   ·obtain ⟨x,hx,rfl⟩:=List.mem_map.1 hk;have:=hr x hx;rw [List.mem_range];omega
 rw [List.length_cons,List.length_map,List.length_range] at h3;omega
def pgF (z:Nat) (f:List UInt8) (i:Nat):List UInt8:=longN ((f.drop (i*z)).take z) z
theorem pgF_len {z i:Nat} {f:List UInt8} : (pgF z f i).length=z:=longN_len _ _
theorem gd_pgF {z i j:Nat} {f:List UInt8} (h:j<z):gd (pgF z f i) j=gd f (i*z+j):=by unfold pgF;rw [gd_longN,if_pos h,gd_take,if_pos h,gd_drop]
theorem pgF_ext {z i:Nat} {f b:List UInt8} (hb:b.length=z) (h:∀j,j<z→gd f (i*z+j)=gd b j):pgF z f i=b:=by
 refine ext_gd (by rw [pgF_len,hb]) fun j hj=>?_;rw [pgF_len] at hj;rw [gd_pgF hj];exact h j hj
def upF (r:RH) (f:List UInt8) (i:Nat):List UInt8:=if r.in_=true∧r.valid≤i then List.replicate r.size 0 else pgF r.size f i
structure RHA where
 fr:Nat
 nd:Nat
 link:Nat
 am:Nat
 at_:List (Int × Nat)
 in_:Bool
 many:Nat
 bm:Option Nat
 bs:List (Int × RB)
 d:Nat
 D:Dk
 size:Nat
 sure:Nat
 c:Nat
@[reducible] def haboxI (p:Nat) (r:RHA):Itm:=boxI p 202 [.int .i64 (r.fr:Int),.int .i64 (r.nd:Int),.int .u64 (r.link:Int),.map (some r.am),.bool r.in_,.int .i64 (r.many:Int),.map r.bm,.pointer (some ⟨r.d,0,none⟩),.int .i64 (r.size:Int),.int .i64 (r.sure:Int),.pointer (some ⟨r.c,0,none⟩),.bool false]
@[reducible] def haL (p:Nat) (r:RHA) (Fd cF:Nat→Prop) (S:Nat→Option (List UInt8)):List Itm:=[haboxI p r,mapI (Value.int .i64) r.am (atE r.at_),nowI r.bm r.bs,dgI r.d Fd r.D,cacI r.c cF S]
def SrcH (D:Dk) (at_:List (Int × Nat)) (z i:Nat) (l:List UInt8):Prop:=match mget at_ ((i:Int)+1) with
 | some k=>k≤16777216∧∃L,cont D nL=some L∧(L.drop k).take z=l
 | none=>∃f,cont D nT=some f∧(f.drop (i*z)).take z=l
def pgsH (r:RHA):Nat:=if r.in_=true then r.many else r.sure
end Go.Proofs.YtndlpekckpdncaaGreat
