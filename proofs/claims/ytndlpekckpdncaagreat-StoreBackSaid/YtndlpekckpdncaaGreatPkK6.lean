/- The pager that logs ahead, in memory: its box, its maps, its cache and its disk as one item that turns; what is told of its cache alone. Conditions: those that each fact names. Calls through an interface, interface values, and closures, in few words. Conditions: those that each fact names. A store in memory: its box, its map of pages, its savepoints, and a pager of whatever make, as one item that is told by the document's state. Conditions: those that each fact names. The pager that logs ahead in plain terms: its calls, and what ties it to memory. Conditions: those that each fact names. The store's inner functions: what is wrong with it, how many pages there are, a page is read, put, cut off. Conditions: those that each names. Any head is encoded. Conditions: numbers of 64 bits. What a store's functions make of the document's state. Conditions: those that each fact names. The store's calls, told by the document's state. Conditions: the store is in order. Calls of the store where it is known what comes. Conditions: those that each fact names. Free pages in plain terms: the chain of trunks, a page taken, a page given. Conditions: those that each fact names. Scopes without jumps. Functions with one deferred call: the rules of code until it is laid, and what is done behind a return. Conditions: those that each rule names. slices.Sort on ints that the caller owns. Conditions: not too many. Rows of pages in memory, and the document's pager, in plain terms and in memory. Conditions: those that each fact names. The document's pager: Pages, Begin, Read, Rollback, Checkpoint, Open, Write, Resize; Same of pages. Conditions: the state is readable. A disk as one item that is told in plain terms alone; its calls so. Conditions: those that each fact names. The pager that logs ahead, its small parts: a page's size, a file removed for good, a whole file, a page's head. Conditions: the disk is in order. The pager that logs ahead: what is told first, the power gone, the log forgotten, the mark and the log removed. Conditions: the disk is in order. Logs that are written frame by frame, in plain terms: their bytes, their links, and what a scan of a part of one finds. Conditions: the frames are of the log's size. Files of a disk, byte by byte: what changes do to them, how the power goes, and what a crash may leave. Conditions: those that each fact names. Frames laid over a file, in plain terms. Conditions: those that each fact names. Carrying over and clearing away, in plain terms: what is left when it is done, and what a crash may leave wherever the power goes. Conditions: those that each fact names. Opening a file that was left in any state in between, in plain terms: it has the sure pages; and so it has when the power goes within. Conditions: those that each fact names. Journals in plain terms: beginnings, entries, and how a journal is scanned. Conditions: those that each fact names. -/
import Derived.Test.YtndlpekckpdncaaGreatPkK5
import Derived.Defers
import Derived.Scope
set_option maxRecDepth 100000
set_option maxHeartbeats 2000000
set_option linter.all false
namespace Go.Proofs.YtndlpekckpdncaaGreat
open Go Go.HL
def COk (S:Nat→Option (List UInt8)) (x:AP):Prop:=1≤x.no∧S (x.no-1).toNat=some x.b
structure CSt (h:Heap) (c:Nat) (F:Nat→Prop) (S:Nat→Option (List UInt8)) (room:Int) (L:List AP):Prop where
 rep:CRep h F c room L
 r1:1≤room
 r2:room≤1048576
 len:(L.length:Int)≤room
 ok:∀x∈L,COk S x
@[reducible] def cacI (c:Nat) (F:Nat→Prop) (S:Nat→Option (List UInt8)):Itm:=⟨fun h=>∃room L,CSt h c F S room L,F,fun _ _ _ cg d ⟨room,L,q⟩=>⟨room,L,⟨q.rep.chg cg d,q.r1,q.r2,q.len,q.ok⟩⟩⟩
theorem Step.hp {h h':Heap} {F F':Nat→Prop} {it:Itm} {x:Itm} (hx:x.p h) (hlt:∀j,x.F j→j<h.size) (hF:x.F=F) (s:Step F h F' h') (hp:it.p h') (hit:∀j,it.F j→j<h'.size) (hF':it.F=F'):Hp h x.F [it] [] h':=
 ⟨by rw [hF];exact s.chg,fun i hi=>by
  rw [List.mem_singleton.1 hi];refine ⟨hp,fun j hj=>⟨hit j hj,?_⟩⟩;rw [hF] at *;exact s.place j (by rw [←hF'];exact hj),by simp,List.pairwise_singleton _ _,by simp⟩
section
variable {h:Heap} {c:Nat} {F:Nat→Prop} {S S':Nat→Option (List UInt8)} {no:Int} {l:List UInt8}
theorem getL_mem {L:List AP} {x:AP} (hx:x∈getL no L):x∈L:=by
 unfold getL at hx;split at hx
 ·rename_i y hy;rcases List.mem_cons.1 hx with rfl | hx
  ·exact (hit_some hy).1
  ·exact (mem_rid.1 hx).1
 ·exact hx
theorem getL_len {L:List AP} (hn:(nos L).Nodup):(getL no L).length≤L.length:=by
 unfold getL;split
 ·rename_i y hy;have h1:=hit_some hy;have h2:=order_touch (x:=y) hn;have h3:=congrArg List.length h2;have h4:y.no∈(nos L).reverse:=by rw [List.mem_reverse];exact List.mem_map.2 ⟨y,h1.1,rfl⟩
  rw [List.length_append,List.length_erase_of_mem h4,List.length_reverse,List.length_reverse] at h3;have h5:0<(nos L).length:=List.length_pos_of_mem (List.mem_reverse.1 h4);simp only [nos,List.length_map,List.length_cons,List.length_nil] at h3 h5;rw [h1.2] at h3;simp only [List.length_cons];omega
 ·exact Nat.le_refl _
theorem cget_any (hc:(cacI c F S).p h) :
  HC Tryz.prog 287 #[.pointer (some ⟨c,0,none⟩),.int .i64 no] h (fun v h'=>∃F',(∃a c' l,v=.tuple #[.slice a l.length c',.bool true]∧1≤no∧S (no-1).toNat=some l∧Hp h (cacI c F S).F [capI 1 5 (a,l.length,c') (l.map bv),cacI c F' S] [] h')∨
   (∃a n m,v=.tuple #[.slice a n m,.bool false]∧Hp h (cacI c F S).F [cacI c F' S] [] h')):=by
 obtain ⟨room,L,q⟩:=hc;refine (get_any q.rep no).mono fun v h' ⟨g,F',hv,hr,hs,hcap,hg⟩=>⟨F',?_⟩;have q':CSt h' c F' S room (getL no L):=⟨hr,q.r1,q.r2,by have:=getL_len (no:=no) q.rep.nd;have:=q.len;omega,fun x hx=>q.ok x (getL_mem hx)⟩;have o1:Hp h (cacI c F S).F [cacI c F' S] [] h':=Step.hp (x:=cacI c F S) (it:=cacI c F' S) ⟨room,L,q⟩ q.rep.lt rfl hs ⟨room,_,q'⟩ hr.lt rfl;cases hh:hit no L with
 | none=>obtain ⟨ga,gn,gc⟩:=g;exact .inr ⟨ga,gn,gc,by rw [hv,hh];rfl,o1⟩
 | some x=>
  have h1:=hit_some hh;have h2:=q.ok x h1.1;have h3:gotL no L=x.b:=by unfold gotL;rw [hh];rfl
  rw [h3] at hcap;obtain ⟨a,n,c'⟩:=g;have hn:n=x.b.length:=Cap.lenB hcap;subst hn;refine .inl ⟨a,c',x.b,by rw [hv,hh];rfl,by rw [←h1.2];exact h2.1,by rw [←h1.2];exact h2.2,⟨o1.chg,fun i hi=>?_,by simp,?_,by simp⟩⟩
  ·rcases List.mem_cons.1 hi with rfl | hi
   ·exact ⟨hcap,fun j hj=>⟨hcap.lt hj,.inr (hg j hj).1⟩⟩
   ·exact o1.m i hi
  ·exact List.pairwise_cons.2 ⟨fun b hb j hj=>by rw [List.mem_singleton.1 hb];exact (hg j hj).2,List.pairwise_singleton _ _⟩
theorem cput_any {a:Option Addr} {n:Nat} {Fb Eb:Nat→Prop} (hc:(cacI c F S).p h) (hb:RdL h Fb Eb (a,l.length,n) l) (hn:1≤no) (hs:S (no-1).toNat=some l) (hbl:l.length≤1000000) :
  HC Tryz.prog 288 #[.pointer (some ⟨c,0,none⟩),.int .i64 no,.slice a l.length n,.bool false] h (fun v h'=>∃F',Hp h (cacI c F S).F [cacI c F' S] [] h'):=by
 obtain ⟨room,L,q⟩:=hc;refine (put_any q.rep (by have:=q.len;have:=q.r2;omega) no (bs:=(a,l.length,n)) hb.by hbl false q.r1).mono fun v h' ⟨F',hr,hst,_⟩=>⟨F',?_⟩;have hlen:=q.len;have e1:∀x∈putL1 no l false L,COk S x:=fun x hx=>by
  rcases List.mem_cons.1 hx with rfl | hx
  ·exact ⟨hn,hs⟩
  ·exact q.ok x (mem_rid.1 hx).1
 have e2:=putL1_len no l false L;have e3:(∀x∈putL room no l false L,COk S x)∧((putL room no l false L).length:Int)≤room:=by
  unfold putL;rw [if_neg (by omega)];split
  ·rename_i h9;exact ⟨e1,h9⟩
  ·exact ⟨fun x hx=>e1 x (List.dropLast_subset _ hx),by rw [List.length_dropLast];omega⟩
 have q':CSt h' c F' S room (putL room no l false L):=⟨hr,q.r1,q.r2,e3.2,e3.1⟩;exact Step.hp (x:=cacI c F S) (it:=cacI c F' S) ⟨room,L,q⟩ q.rep.lt rfl hst ⟨room,_,q'⟩ hr.lt rfl
theorem cdrop_any {a:Option Addr} {n:Nat} {Fb Eb:Nat→Prop} {ks:List Int} (hc:(cacI c F S).p h) (hb:RdL h Fb Eb (a,ks.length,n) ks) (hN:ks.length≤1000000000) (hd:∀j,Fb j→¬F j) (hS:ks≠[]→∀i:Nat,((i:Int)+1)∉ks→∀l,S i=some l→S' i=some l) :
    HC Tryz.prog 286 #[.pointer (some ⟨c,0,none⟩),.slice a ks.length n] h (fun v h'=>∃F',v=.tuple #[]∧Hp h (cacI c F S).F [cacI c F' S'] [] h'):=by
  obtain ⟨room,L,q⟩:=hc;refine (dropl_any q.rep (lv:=(a,ks.length,n)) hb.ints hN ?_).mono fun v h' ⟨F',hv,hr,hst⟩=>⟨F',hv,?_⟩
  · rintro j ⟨o,n',c',hv,hpos⟩;injection hv with h1 h2 h3;replace h1:a=_:=h1;replace h2:ks.length=_:=h2;have hz:0<ks.length:=by omega
    obtain ⟨b,o',e,hb2⟩:=hb.pos hz;replace e:a=some ⟨b,o',none⟩:=e;rw [h1] at e;injection e with e;injection e with e1 e2;subst e1;exact hd _ hb2
  have hlen:(dr (if ks=[] then (nos L).reverse else ks) L).length≤L.length:=List.length_filter_le _ _;have q':CSt h' c F' S' room (dr (if ks=[] then (nos L).reverse else ks) L):=⟨hr,q.r1,q.r2,by have:=q.len;omega,fun x hx=>by
    unfold dr at hx;have h1:=List.mem_filter.1 hx;have h2:=h1.2;simp only [decide_eq_true_eq] at h2;by_cases h3:ks=[]
    · rw [if_pos h3,List.mem_reverse] at h2;exact absurd (List.mem_map.2 ⟨x,h1.1,rfl⟩) h2
    · rw [if_neg h3] at h2;have h4:=q.ok x h1.1
      exact ⟨h4.1, hS h3 _ (by have e : (((x.no - 1).toNat : Int) + 1) = x.no := by have := h4.1; omega
                               rw [e];exact h2) _ h4.2⟩⟩
  exact Step.hp (x:=cacI c F S) (it:=cacI c F' S') ⟨room,L,q⟩ q.rep.lt rfl hst ⟨room,_,q'⟩ hr.lt rfl
end
theorem cnewA_any {h:Heap} {room:Int} (S:Nat→Option (List UInt8)) :
  HC Tryz.prog 133 #[.int .i64 room] h (fun v h'=>(¬(1≤room∧room≤1048576)∧v=.tuple #[.pointer none,.int .i64 1]∧Ext h h')∨
   ((1≤room∧room≤1048576)∧∃c F,v=.tuple #[.pointer (some ⟨c,0,none⟩),.int .i64 0]∧Ext h h'∧(cacI c F S).p h'∧∀j,F j→Nw h h' j)):=by
 refine (cnew_any (h:=h) (room:=room)).mono fun v h' q=>?_;rcases q with ⟨h1,h2,h3⟩ | ⟨h1,p,F,hv,hr,hx,hn⟩
 ·exact .inl ⟨h1,h2,by rw [h3];exact Ext.refl _⟩
 ·exact .inr ⟨h1,p,F,hv,hx,⟨room,[],hr,h1.1,h1.2,by simp;omega,by simp⟩,fun j hj=>⟨hn j hj,hr.lt j hj⟩⟩
structure RB where
 a:Option Addr
 c:Nat
 l:List UInt8
structure RA where
 fr:Nat
 nd:Nat
 link:Nat
 am:Nat
 at_:List (Int × Nat)
 in_:Bool
 many:Nat
 bm:Option Nat
 bs:List (Int × RB)
 d:Nat
 rd:RD
 size:Nat
 sure:Nat
 c:Nat
 cF:Nat→Prop
 S:Nat→Option (List UInt8)
 dark:Bool
def iv' (n:Nat):Value:=.int .i64 (n:Int)
def atE (l:List (Int × Nat)):List (Int × Value):=l.map fun p=>(p.1,iv' p.2)
def bsV (x:RB):Value:=.slice x.a x.l.length x.c
def bsE (l:List (Int × RB)):List (Int × Value):=l.map fun p=>(p.1,bsV p.2)
def nowI (bm:Option Nat) (bs:List (Int × RB)):Itm:=match bm with
 | none=>anyI none_ (fun _=>True) (fun _ _ _ _ _ _=>trivial)
 | some m=>mapI (Value.int .i64) m (bsE bs)
def Pbs (h:Heap) (E:Nat→Prop) (bs:List (Int × RB)):Prop:=∀x∈bs,RdL h E E (x.2.a,x.2.l.length,x.2.c) x.2.l
@[reducible] def pbsI (E:Nat→Prop) (bs:List (Int × RB)):Itm:=⟨fun h=>Pbs h E bs,E,fun _ _ _ c d b x hx=>(b x hx).st c d d⟩
section
variable {h h':Heap} {E E':Nat→Prop} {bs:List (Int × RB)} {k:Int} {x:RB}
theorem Pbs.get (b:Pbs h E bs) (hg:mget bs k=some x):RdL h E E (x.a,x.l.length,x.c) x.l:=b _ (mget_mem hg)
theorem Pbs.mono (hE:∀j,E j→E' j) (b:Pbs h E bs):Pbs h E' bs:=fun x hx=>(b x hx).mono hE hE
theorem Pbs.nil:Pbs h E []:=fun x hx=>by cases hx
theorem Pbs.put (b:Pbs h E bs) (hx:RdL h E E (x.a,x.l.length,x.c) x.l):Pbs h E (mput bs k x):=fun y hy=>by
 rcases mem_mput hy with rfl | hy
 ·exact hx
 ·exact b y hy
end
end Go.Proofs.YtndlpekckpdncaaGreat
namespace Go.HL
open Go Go.Proofs.YtndlpekckpdncaaGreat
section
variable {h0 h h':Heap} {D G:Nat→Prop} {M R:List Itm} {p:Nat} {r r':RA} {E E':Nat→Prop}
theorem Hp.nowNil {bs:List (Int × RB)} (ok:Hp h0 D M R h):Hp h0 D (nowI none bs::M) R h:=ok.newM (Ext.refl _) _ trivial (fun _ f=>f.elim)
theorem Hp.pbsPut {Q:Nat→Prop} {bs:List (Int × RB)} {k:Int} {a:Option Addr} {c:Nat} {l:List UInt8} (ok:Hp h0 D (capI 1 5 (a,l.length,c) (l.map bv)::M) (pbsI Q bs::R) h):Hp h0 D M (pbsI (fun j=>Q j∨blkC (sv (a,l.length,c)) j) (mput bs k ⟨a,c,l⟩)::R) h:=by
 have o:Hp h0 D M (rdI (blkC (sv (a,l.length,c))) none_ (a,l.length,c) l::pbsI Q bs::R) h:=ok.frzB rfl;have o2:=o.or (r:=pbsI Q bs) (r':=rdI (blkC (sv (a,l.length,c))) none_ (a,l.length,c) l) (by simp) (by simp) (pbsI (fun j=>Q j∨blkC (sv (a,l.length,c)) j) (mput bs k ⟨a,c,l⟩))
  (Pbs.put (Pbs.mono (fun j h=>.inl h) o.r1) ((show RdL h (blkC (sv (a,l.length,c))) none_ (a,l.length,c) l from o.r0).mono (fun j h=>.inr h) (fun j f=>f.elim))) (fun j h=>h.imp id .inl)
 exact o2.sub (by simp;intro a h;exact .inr (.inr (.inr h)))
theorem Hp.pbsPutN {Q:Nat→Prop} {bs:List (Int × RB)} {k:Int} {a:Option Addr} {n c:Nat} {l:List UInt8} (hn:n=l.length) (ok:Hp h0 D (capI 1 5 (a,n,c) (l.map bv)::M) (pbsI Q bs::R) h):Hp h0 D M (pbsI (fun j=>Q j∨blkC (sv (a,n,c)) j) (mput bs k ⟨a,c,l⟩)::R) h:=by
 subst hn;exact ok.pbsPut
theorem Hp.pbsNil {Q:Nat→Prop} {bs:List (Int × RB)} (ok:Hp h0 D M (pbsI Q bs::R) h):Hp h0 D M (pbsI Q []::R) h:=(ok.d0 (pbsI Q []) Pbs.nil).sub (by simp;intro a h;exact .inr (.inr h))
theorem Hp.nowSome {m:Nat} {bs:List (Int × RB)} (ok:Hp h0 D (nowI (some m) bs::M) R h):Hp h0 D (mapI (Value.int .i64) m (bsE bs)::M) R h:=ok
theorem Hp.liftN {a:Itm} {l:List Itm} (ok:Hp h0 D (a::M) R h) (q:Hp h a.F l [] h'):Hp h0 D (l++M) R h':=
 Hp.unstar (ok.lift1 (b:=starI l) (Hp.star (M:=[]) (by simpa using q)))
theorem Hp.lift2 {a b c:Itm} (ok:Hp h0 D (a::M) R h) (q:Hp h a.F [b,c] [] h'):Hp h0 D (b::c::M) R h':=ok.liftN q
end
open Go
theorem OpC.inv {P:Program} {s:Slots} {h:Heap} {d:Option Tmp} {ty t:TypeId} {pos name:String} {af:Array Edge} {g:Option (Nat × Bool)} {x:Operand} {xs:Array Operand} {ts:Array TypeId} {f:FuncId} {v rv:Value} {args:List Value} (hm:∀w:World,(method (P.types.size+Made.depth) t v name).run P w=.ok (f,rv) w) (hx:ev s x=.iface t v:=by exact rfl) (ha:rv::xs.toList.map (ev s)=args:=by exact rfl) :
  OpC P ⟨d,.call ⟨.invoke x name,xs,ts⟩,ty,pos,af,g⟩ s h f args.toArray:=fun w _ hc=>by
 subst ha;obtain ⟨fn,h1,h2,h3⟩:=hc;have h2' : ¬ fn.name = "runtime.NumGoroutine" := by simpa using h2
 have h3':¬fn.body=none:=by intro e;simp [e] at h3
 have hm':=hm w;have h0:((#[Value.iface t v]:Array Value)++xs.map (ev s))[0]? = some (.iface t v):=by simp [Array.getElem?_append]
 have e0:(xs.map (ev s)).extract 0 xs.size=xs.map (ev s):=by simp
 have ea:(#[rv]:Array Value)++xs.map (ev s)=(rv::xs.toList.map (ev s)).toArray:=by apply Array.ext';simp
 simp [execOp,resolve,invoke,callMethod,hx,h0,e0,hm',callFunc,h1,h2',h3',ea]
def ifB (P:Program) (t:TypeId):Option Bool:=(P.underlying t).map fun | .interface _=>true | _=>false
theorem OpV.mkI {P:Program} {s:Slots} {h:Heap} {d:Option Tmp} {ty t:TypeId} {pos:String} {af:Array Edge} {g:Option (Nat × Bool)} {x:Operand} {v:Value} (ht:ifB P t=some false) (hx:ev s x=v:=by exact rfl):OpV P ⟨d,.makeInterface t x,ty,pos,af,g⟩ s h (.iface t v):=fun w _=>by
 unfold ifB at ht;cases hu:P.underlying t with
 | none=>rw [hu] at ht;cases ht
 | some u=>
  rw [hu] at ht;cases u<;>first | (simp at ht;done) | simp [execOp,Instr.makeInterface,run_underlying hu,hx]
theorem OpV.mvIf {P:Program} {s:Slots} {h:Heap} {d:Option Tmp} {ty t:TypeId} {pos:String} {af:Array Edge} {g:Option (Nat × Bool)} {x:Operand} {v:Value} (hx:ev s x=.iface t v:=by exact rfl):OpV P ⟨d,.move x,ty,pos,af,g⟩ s h (.iface t v):=V.mvv hx
open Go.Proofs.YtndlpekckpdncaaGreat
section
variable {h0 h h':Heap} {D:Nat→Prop} {M R:List Itm}
theorem Hp.locL (l:List Itm) (ok:Hp h0 D (l++M) R h):Hp h (starI l).F l R h:=by
 have o:=Hp.star ok;refine ⟨Chg.refl _ _,fun i hi=>⟨(ok.m i (List.mem_append_left _ hi)).1,fun j hj=>⟨((ok.m i (List.mem_append_left _ hi)).2 j hj).1,.inl ⟨i,hi,hj⟩⟩⟩,ok.r,(List.pairwise_append.1 ok.mm).1,fun a ha b hb=>ok.mr a (List.mem_append_left _ ha) b hb⟩
theorem Hp.liftL (l:List Itm) {l':List Itm} (ok:Hp h0 D (l++M) R h) (q:Hp h (starI l).F l' [] h'):Hp h0 D (l'++M) R h':=
 Hp.unstar ((Hp.star ok).lift1 (b:=starI l') (Hp.star (M:=[]) (by simpa using q)))
end
end Go.HL
namespace Go.Proofs.YtndlpekckpdncaaGreat
open Go Go.HL
@[reducible] def pv (p:Nat):Value:=.pointer (some ⟨p,0,none⟩)
structure Pgr where
 α:Type
 it:Nat→(Nat→Prop)→α→Itm
 sure:α→List (List UInt8)
 tid:TypeId
 fPages:FuncId
 fRead:FuncId
 mPages : ∀ (p : Nat) (w : World), (method (Tryz.prog.types.size + Made.depth) tid (pv p) "Pages").run Tryz.prog w = .ok (fPages, pv p) w
 mRead : ∀ (p : Nat) (w : World), (method (Tryz.prog.types.size + Made.depth) tid (pv p) "Read").run Tryz.prog w = .ok (fRead, pv p) w
 cPages:∀ {h:Heap} {p:Nat} {F:Nat→Prop} {a:α},(it p F a).p h→HC Tryz.prog fPages #[pv p] h (fun v h'=>v=.int .i64 ((sure a).length:Int)∧h'=h)
 cRead:∀ {h:Heap} {p:Nat} {F:Nat→Prop} {a:α} {no:Int} {b:List UInt8},Hp h (it p F a).F [it p F a] [] h→1≤no→(sure a)[(no-1).toNat]? = some b→
  HC Tryz.prog fRead #[pv p,.int .i64 no] h (fun v h'=>∃F' a' x c,v=.tuple #[.slice x b.length c,.int .i64 0]∧sure a'=sure a∧Hp h (it p F a).F [capI 1 5 (x,b.length,c) (b.map bv),it p F' a'] [] h')
structure RSv where
 many:Nat
 m:Nat
 ov:List (Int × RB)
def RSv.cells (x:RSv):List Value:=[.int .i64 (x.many:Int),.map (some x.m)]
theorem RSv.cells_len (x:RSv):x.cells.length=2:=rfl
structure RS (α:Type) where
 p:Nat
 lg:Option Addr
 z:Nat
 in_:Bool
 many:Nat
 om:Option Nat
 ov:List (Int × RB)
 sa:Option Addr
 sc:Nat
 sv:List RSv
 pF:Nat→Prop
 a:α
@[reducible] def sboxI (G:Pgr) (s:Nat) (r:RS G.α):Itm:=boxI s 123 [.iface G.tid (pv r.p),.pointer r.lg,.int .i64 (r.z:Int),.bool r.in_,.int .i64 (r.many:Int),.map r.om,.slice r.sa r.sv.length r.sc,.bool false]
@[reducible] def scapI {α:Type} (r:RS α):Itm:=capI 2 120 (r.sa,r.sv.length,r.sc) (r.sv.flatMap RSv.cells)
def Svs (h:Heap) (E:Nat→Prop) (sv:List RSv):Prop:=∀x∈sv,MapT (Value.int .i64) h x.m (bsE x.ov)∧E x.m∧Pbs h E x.ov
@[reducible] def svsI (E:Nat→Prop) (sv:List RSv):Itm:=⟨fun h=>Svs h E sv,E,fun _ _ _ c d b x hx=>⟨(b x hx).1.chg c (d _ (b x hx).2.1),(b x hx).2.1,fun y hy=>((b x hx).2.2 y hy).st c d d⟩⟩
def stL (G:Pgr) (s:Nat) (r:RS G.α):List Itm:=[sboxI G s r,nowI r.om r.ov,scapI r,G.it r.p r.pF r.a]
def stF (G:Pgr) (s:Nat) (r:RS G.α):Nat→Prop:=(starI (stL G s r)).F
structure SVw (G:Pgr) (r:RS G.α) (w:St):Prop where
 z:r.z=w.z
 in_:r.in_=w.in_
 sure:G.sure r.a=w.sure
 now:w.in_=true→(∃m,r.om=some m)∧VW RB.l r.ov r.many w.sure w.now
 out:w.in_=false→r.om=none∧r.many=0∧r.ov=[]∧r.sv=[]
 sv:All2 (fun (x:RSv) S=>VW RB.l x.ov x.many w.sure S) r.sv w.saves
 ok:StOk w
structure DsP (G:Pgr) (h:Heap) (s:Nat) (F:Nat→Prop) (w:St) (r:RS G.α) (E:Nat→Prop):Prop where
 co:(starI (stL G s r)).p h
 b:Pbs h E r.ov
 v:Svs h E r.sv
 f:∀j,stF G s r j→F j
 e:∀j,E j→F j
 ne:∀j,stF G s r j→¬E j
 V:SVw G r w
@[reducible] def dsI (G:Pgr) (s:Nat) (F:Nat→Prop) (w:St):Itm:=⟨fun h=>∃r E,DsP G h s F w r E,F,fun _ _ _ c g ⟨r,E,q⟩=>⟨r,E,(starI (stL G s r)).st _ _ _ c (fun j hj=>g j (q.f j hj)) q.co,(pbsI E r.ov).st _ _ _ c (fun j hj=>g j (q.e j hj)) q.b,(svsI E r.sv).st _ _ _ c (fun j hj=>g j (q.e j hj)) q.v,q.f,q.e,q.ne,q.V⟩⟩
section
variable {G:Pgr} {h h' h0:Heap} {s:Nat} {F D E E':Nat→Prop} {w w':St} {r r':RS G.α} {M R:List Itm}
theorem ds_ok (ok:(dsI G s F w).p h):StOk w:=let ⟨_,_,q⟩:=ok;q.V.ok
theorem ds_box (ok:(dsI G s F w).p h):∃r:RS G.α,SVw G r w∧(sboxI G s r).p h∧(G.it r.p r.pF r.a).p h:=by
 obtain ⟨r,E,q⟩:=ok;exact ⟨r,q.V,q.co.1 (sboxI G s r) (by simp [stL]),q.co.1 (G.it r.p r.pF r.a) (by simp [stL])⟩
theorem ds_open (ok:Hp h F [dsI G s F w] R h):∃r E,SVw G r w∧Hp h (stF G s r) [sboxI G s r,nowI r.om r.ov,scapI r,G.it r.p r.pF r.a] (pbsI E r.ov::svsI E r.sv::R) h∧(∀j,stF G s r j→F j)∧∀j,E j→F j:=by
 obtain ⟨r,E,q⟩:=ok.m0;have hl:=(ok.m (dsI G s F w) (by simp)).2;have o:Hp h (stF G s r) [starI (stL G s r)] (pbsI E r.ov::svsI E r.sv::R) h:=by
  refine ⟨Chg.refl _ _,fun i hi=>by rw [List.mem_singleton.1 hi];exact ⟨q.co,fun j hj=>⟨(hl j (q.f j hj)).1,.inl hj⟩⟩,fun i hi=>?_,List.pairwise_singleton _ _,fun a ha b hb=>?_⟩
  ·rcases List.mem_cons.1 hi with rfl | hi
   ·exact ⟨q.b,fun j hj=>(hl j (q.e j hj)).1⟩
   rcases List.mem_cons.1 hi with rfl | hi
   ·exact ⟨q.v,fun j hj=>(hl j (q.e j hj)).1⟩
   ·exact ok.r i hi
  ·rw [List.mem_singleton.1 ha];rcases List.mem_cons.1 hb with rfl | hb
   ·exact q.ne
   rcases List.mem_cons.1 hb with rfl | hb
   ·exact q.ne
   ·exact fun j hj=>ok.mr (dsI G s F w) (by simp) b hb j (q.f j hj)
 exact ⟨r,E,q.V,Hp.unstar o,q.f,q.e⟩
theorem ds_close (q:Hp h D (sboxI G s r'::nowI r'.om r'.ov::scapI r'::G.it r'.p r'.pF r'.a::M) (pbsI E' r'.ov::svsI E' r'.sv::R) h') (hD:∀j,D j→F j) (hE:∀j,E' j→F j∨h.size≤j) (V:SVw G r' w'):Hp h F (dsI G s (fun j=>stF G s r' j∨E' j) w'::M) [] h':=by
 have q:Hp h D (starI (stL G s r')::M) (pbsI E' r'.ov::svsI E' r'.sv::R) h':=Hp.star (l:=stL G s r') q;have hm:=List.pairwise_cons.1 q.mm;refine ⟨q.chg.mono fun j _=>hD j,fun i hi=>?_,by simp,List.pairwise_cons.2 ⟨fun b hb j hj hb2=>?_,hm.2⟩,by simp⟩
 ·rcases List.mem_cons.1 hi with rfl | hi
  ·refine ⟨⟨r',E',q.m0,(q.r (pbsI E' r'.ov) (by simp)).1,(q.r (svsI E' r'.sv) (by simp)).1,fun j hj=>.inl hj,fun j hj=>.inr hj,q.mr (starI (stL G s r')) (by simp) (pbsI E' r'.ov) (by simp),V⟩,fun j hj=>?_⟩;rcases hj with hj | hj
   ·have:=(q.m _ List.mem_cons_self).2 j hj;exact ⟨this.1,this.2.imp (hD j) id⟩
   ·exact ⟨(q.r _ List.mem_cons_self).2 j hj,hE j hj⟩
  ·have:=q.m i (List.mem_cons_of_mem _ hi);exact ⟨this.1,fun j hj=>⟨(this.2 j hj).1,(this.2 j hj).2.imp (hD j) id⟩⟩
 ·rcases hj with hj | hj
  ·exact hm.1 b hb j hj hb2
  ·exact q.mr b (List.mem_cons_of_mem _ hb) _ List.mem_cons_self j hb2 hj
end
open Go Go.HL
def frK (now:List (List UInt8)) (ns:List Nat) (k:Nat):Fr:=⟨((ns.getD k 0+1:Nat):Int),((if k+1=ns.length then now.length else 0:Nat):Int),now.getD (ns.getD k 0) []⟩
theorem frK_at {now:List (List UInt8)} {ns:List Nat} {k:Nat} (hk:k<ns.length):(frmsN now ns)[k]'(by rw [frmsN_len];exact hk)=frK now ns k:=by
 rw [frmsN_at hk];have e:ns.getD k 0=ns[k]:=by simp [hk]
 unfold frmN frK;rw [e];by_cases h:k+1=ns.length<;>simp [h]
def pgL (ns:List Nat):List Int:=ns.map fun (i:Nat)=>(i:Int)+1
theorem pgL_len {ns:List Nat} : (pgL ns).length=ns.length:=List.length_map _
theorem pgL_at {ns:List Nat} {k:Nat} (hk:k<(pgL ns).length):(pgL ns)[k]=((ns.getD k 0+1:Nat):Int):=by
 have hk2:k<ns.length:=by rw [pgL_len] at hk;exact hk
 have e:ns.getD k 0=ns[k]:=by simp [hk2]
 rw [e];simp [pgL]
theorem atsN_K {size:Nat} {m:List (Int × Nat)} {e k:Nat} {l:List Nat} (hk:k<l.length):atsN size m e (l.take (k+1))=mput (atsN size m e (l.take k)) ((l.getD k 0+1:Nat):Int) (e+k*(16+size)+16):=by
 rw [atsN_snoc hk];have e:l.getD k 0=l[k]:=by simp [hk]
 rw [e];rfl
def hdOk (b:List UInt8) (size:Nat):Bool:=decide ((decN b).2=0∧(decN b).1.size=size)
def NowOk (bs:List (Int × RB)) (sure:List (List UInt8)) (i:Nat) (l:List UInt8):Prop:=
 match mget bs ((i:Int)+1) with
 | some x=>x.l=l
 | none=>sure[i]? = some l
theorem Pbs.rd {h:Heap} {Q:Nat→Prop} {bs:List (Int × RB)} {k:Int} {x:RB} {l:List UInt8} (b:Pbs h Q bs) (hg:mget bs k=some x) (hl:x.l=l):RdL h Q Q (match mget bs k with | some x=>x.a | none=>none,match mget bs k with | some x=>x.l.length | none=>0,match mget bs k with | some x=>x.c | none=>0) l:=by
 rw [hg];subst hl;exact b.get hg
def bsA (bs:List (Int × RB)) (k:Int):Option Addr:=match mget bs k with | some x=>x.a | none=>none
def bsN (bs:List (Int × RB)) (k:Int):Nat:=match mget bs k with | some x=>x.l.length | none=>0
def bsC (bs:List (Int × RB)) (k:Int):Nat:=match mget bs k with | some x=>x.c | none=>0
theorem bs_get {bs:List (Int × RB)} {k:Int} : (aget (bsE bs) k).getD (.slice none 0 0)=.slice (bsA bs k) (bsN bs k) (bsC bs k):=by
 unfold bsE;rw [aget_mp (f:=bsV)];unfold bsA bsN bsC bsV;cases mget bs k<;>rfl
theorem bs_is {bs:List (Int × RB)} {k:Int} : (aget (bsE bs) k).isSome=(mget bs k).isSome:=by
 unfold bsE;rw [aget_mp (f:=bsV)];cases mget bs k<;>rfl
theorem at_get {l:List (Int × Nat)} {k:Int} : (aget (atE l) k).getD (.int .i64 0)=.int .i64 (((mget l k).getD 0:Nat):Int):=by
 unfold atE;rw [aget_mp (f:=iv')];cases mget l k<;>rfl
theorem at_is {l:List (Int × Nat)} {k:Int} : (aget (atE l) k).isSome=(mget l k).isSome:=by
 unfold atE;rw [aget_mp (f:=iv')];cases mget l k<;>rfl
section
variable {A:Ah}
variable {no:Int} {b:List UInt8}
variable {r:RA}
theorem bs_put {bs:List (Int × RB)} {k:Int} {x:RB} : aput (bsE bs) k (bsV x)=bsE (mput bs k x):=aput_mp (f:=bsV)
theorem bs_del {bs:List (Int × RB)} {k:Int} : adel (bsE bs) k=bsE (mdel bs k):=adel_mp (f:=bsV)
theorem at_put {l:List (Int × Nat)} {k:Int} {n:Nat} : aput (atE l) k (.int .i64 (n:Int))=atE (mput l k n):=aput_mp (f:=iv')
theorem at_del {l:List (Int × Nat)} {k:Int} : adel (atE l) k=atE (mdel l k):=adel_mp (f:=iv')
def delR (bs:List (Int × RB)) (n k:Int):List (Int × RB):=bs.filter fun x=>decide (¬(n<x.1∧x.1<k))
theorem delR_0 {bs:List (Int × RB)} {n:Int} : delR bs n (n+1)=bs:=List.filter_eq_self.2 fun x _=>by simp;omega
theorem delR_s {bs:List (Int × RB)} {n k:Int} (h:n+1≤k):mdel (delR bs n k) k=delR bs n (k+1):=by
 unfold mdel delR;rw [List.filter_filter];apply List.filter_congr;intro x _;rw [←Bool.decide_and,decide_eq_decide];omega
theorem mget_delR {bs:List (Int × RB)} {n k key:Int} (h:¬(n<key∧key<k)):mget (delR bs n k) key=mget bs key:=by
 induction bs with
 | nil=>rfl
 | cons p l ih=>
  unfold delR at ih⊢;by_cases h1:n<p.1∧p.1<k
  ·rw [List.filter_cons_of_neg (by simp;omega),ih,mget_cons,if_neg];intro e;rw [e] at h1;exact h h1
  ·rw [List.filter_cons_of_pos (by exact decide_eq_true h1),mget_cons,mget_cons,ih]
structure GrowI (bs bj:List (Int × RB)) (many size:Nat) (k:Int):Prop where
 old:∀key:Int,key≤many→mget bj key=mget bs key
 new:∀key:Int,many<key→key<k→∃x,mget bj key=some x∧x.l=List.replicate size 0
 keys:∀x∈bj,x∈bs∨((many:Int)<x.1∧x.1<k)
theorem GrowI.nil {bs:List (Int × RB)} {many size:Nat} : GrowI bs bs many size ((many:Int)+1):=⟨fun _ _=>rfl,fun _ h1 h2=>by omega,fun _ h=>.inl h⟩
theorem GrowI.step {bs bj:List (Int × RB)} {many size:Nat} {k:Int} {x:RB} (g:GrowI bs bj many size k) (hk:(many:Int)+1≤k) (hx:x.l=List.replicate size 0):GrowI bs (mput bj k x) many size (k+1):=by
 refine ⟨fun key h=>?_,fun key h1 h2=>?_,fun y hy=>?_⟩
 ·rw [mget_mput,if_neg (by omega),g.old key h]
 ·rw [mget_mput];by_cases h3:key=k
  ·exact ⟨x,if_pos h3,hx⟩
  ·rw [if_neg h3];exact g.new key h1 (by omega)
 ·rcases mem_mput hy with rfl | h1
  ·exact .inr ⟨by simp only;omega,by simp only;omega⟩
  ·exact (g.keys y h1).imp id fun h=>⟨h.1,by omega⟩
theorem Pbs.sub {h:Heap} {Q:Nat→Prop} {bs b2:List (Int × RB)} (b:Pbs h Q bs) (hs:∀x∈b2,x∈bs):Pbs h Q b2:=fun x hx=>b x (hs x hx)
theorem delR_sub {bs:List (Int × RB)} {n k:Int} : ∀x∈delR bs n k,x∈bs:=fun _ hx=>(List.mem_filter.1 hx).1
end
theorem okSz_cases {n:Nat} (h:okSz n=true):n=256∨n=512∨n=1024∨n=2048∨n=4096:=by
 unfold okSz at h;simp at h;omega
end Go.Proofs.YtndlpekckpdncaaGreat
namespace Go.HL
open Go
theorem Hp.accNewA {α:Type} [Rep α] {h0 h h':Heap} {D:Nat→Prop} {M R:List Itm} {e:TypeId} {x:SV} {E:Nat→Prop} {l:List α} (ok:Hp h0 D M R h) (c:Ext h h') (ha:Acc h' e x (none,0,0) E l []) (hn:∀j,(blkC (sv x) j∨E j)→Nw h h' j):Hp h0 D M (rdI (blkC (sv x)) E x l::R) h':=
 have o:Hp h0 D (accI e x (none,0,0) E l []::M) R h':=ok.newM c _ ha fun j hj=>hn j (hj.elim .inl (·.elim (fun ⟨o,n,c,e⟩=>by cases e) .inr))
 (o.re (rdI (blkC (sv x)) E x l) o.m0.rd (fun j hj=>hj.elim .inl fun h=>.inr (.inr h))).frz
theorem OpV.quoI {P:Program} {s:Slots} {h:Heap} {d:Option Tmp} {t u ty:TypeId} {x y:Operand} {pos:String} {af:Array Edge} {g:Option (Nat × Bool)} {a b:Nat} (hx:ev s x=.int .i64 (a:Nat):=by exact rfl) (hy:ev s y=.int .i64 (b:Nat):=by exact rfl) (hr:a≤9223372036854775807∧1≤b:=by omega):OpV P ⟨d,.binOp .quo t x y u,ty,pos,af,g⟩ s h (.int .i64 ((a / b:Nat):Int)):=by
 rw [Int.natCast_ediv];exact OpV.quo hx hy (by omega)
end Go.HL
namespace Go.Proofs.YtndlpekckpdncaaGreat
open Go Go.HL
def wthE (b:Bool):Nat:=if b=true then 0 else 10
theorem wthE_t {b:Bool} (h:b=true):wthE b=0:=if_pos h
theorem wthE_f {b:Bool} (h:¬b=true):wthE b=10:=if_neg h
theorem wthE_n {b:Bool} (h:¬(wthE b:Int)≠0):b=true:=by
 cases b
 ·exact absurd (by decide) h
 ·rfl
theorem wthE_y {b:Bool} (h:(wthE b:Int)≠0):b=false:=by
 cases b
 ·rfl
 ·exact absurd rfl h
theorem bsE_put {ov:List (Int × RB)} {k:Int} {x:RB} : aput (bsE ov) k (bsV x)=bsE (mput ov k x):=aput_mp
theorem bsE_del {ov:List (Int × RB)} {k:Int} : adel (bsE ov) k=bsE (mdel ov k):=adel_mp
theorem susable_any {G:Pgr} {h:Heap} {so:Nat} {r:RS G.α} (hb:(sboxI G so r).p h) :
  HC Tryz.prog 69 #[.pointer (some ⟨so,0,none⟩)] h (fun v h'=>v=.int .i64 0∧h'=h):=by
 refine HC.go Tryz.func69 11 ?_;refine .seq<|.r<|.z .asI<|.nil ?_;refine .seq<|.block fun K0 hK0=>.seq<|.r<|.z .mvP<|.z (.pEqS T.pt27)<|.z .asB<|.nil ?_;refine .cf<|.seq<|.r<|.z .mvP<|.z .nil<|.z (.fa T.fd123_6)<|.z (.ldx T.ag4 hb)<|.z .asB<|.nil ?_;refine .cf<|.skip<|.end<|hK0 _ _<|.seq<|.r<|.z .asI<|.nil ?_;refine .ret ⟨.int .i64 0,Res.one rfl rfl,⟨rfl,rfl⟩⟩
theorem swithin_any {G:Pgr} {h:Heap} {so:Nat} {r:RS G.α} {i:Bool} (hb:(sboxI G so r).p h) (hi:r.in_=i) :
  HC Tryz.prog 82 #[.pointer (some ⟨so,0,none⟩)] h (fun v h'=>v=.int .i64 (wthE i:Int)∧h'=h):=by
 refine HC.go Tryz.func82 14 ?_;refine .seq<|.r<|.z .asI<|.nil ?_;refine .seq<|.seq<|.r<|.z .mvP<|.k 5 .func (susable_any (G:=G) (r:=r) hb)<|.z .asI<|.nil ?_;refine .seq<|.r<|.z .mvI<|.z .neq<|.nil ?_;refine .cf<|.skip<|.seq<|.seq<|.r<|.z .mvP<|.z .nil<|.z (.fa T.fd123_3)<|.z (.ldx T.ag4 hb)<|.z .not<|.nil ?_;refine .cond (fun C1=>?_) (fun C1=>?_)
 ·
  refine .seq<|.r<|.z .asI<|.nil ?_;refine .ret ⟨.int .i64 10,Res.one rfl rfl,⟨by rw [wthE_f (by rw [←hi];simpa using C1)];rfl,rfl⟩⟩
 refine .skip<|.seq<|.r<|.z .asI<|.nil ?_;refine .ret ⟨.int .i64 0,Res.one rfl rfl,⟨by rw [wthE_t (by rw [←hi];simpa using C1)];rfl,rfl⟩⟩
theorem spages_any {G:Pgr} {h:Heap} {so:Nat} {r:RS G.α} {i:Bool} {m k:Nat} (hb:(sboxI G so r).p h) (hp:(G.it r.p r.pF r.a).p h) (h1:r.in_=i) (h2:r.many=m) (h3:(G.sure r.a).length=k) :
  HC Tryz.prog 70 #[.pointer (some ⟨so,0,none⟩)] h (fun v h'=>v=.int .i64 ((if i=true then m else k:Nat):Int)∧h'=h):=by
 refine HC.go Tryz.func70 17 ?_;refine .seq<|.r<|.z .asI<|.nil ?_;refine .seq<|.seq<|.r<|.z .mvP<|.z .nil<|.z (.fa T.fd123_3)<|.z (.ldx T.ag4 hb)<|.nil ?_;refine .cond (fun C0=>?_) (fun C0=>?_)
 ·
  refine .seq<|.r<|.z .mvP<|.z .nil<|.z (.fa T.fd123_4)<|.z (.fa T.fd120_0)<|.z (.ldx T.ag3 hb)<|.z .asI<|.nil ?_;refine .ret ⟨.int .i64 (r.many:Int),Res.one rfl rfl,⟨by rw [if_pos (h1▸C0),h2],rfl⟩⟩
 refine .skip<|.seq<|.r<|.z .mvP<|.z .nil<|.z (.fa T.fd123_0)<|.z (.ldx T.ag116 hb)<|.k 16 (.inv (G.mPages _)) (G.cPages (F:=r.pF) (a:=r.a) hp)<|.z .asI<|.nil ?_;refine .ret ⟨.int .i64 ((G.sure r.a).length:Int),Res.one rfl rfl,⟨by rw [if_neg (by rw [←h1,C0];decide),h3],rfl⟩⟩
theorem stold_any {G:Pgr} {h:Heap} {so:Nat} {r:RS G.α} (hb:(sboxI G so r).p h) :
  HC Tryz.prog 101 #[.pointer (some ⟨so,0,none⟩),.int .i64 0] h (fun v h'=>v=.int .i64 0∧h'=h):=by
 refine HC.go Tryz.func101 11 ?_;refine .seq<|.r<|.z .asI<|.nil ?_;refine .seq<|.seq<|.r<|.z .mvI<|.z .eql<|.nil ?_;refine .cf<|.skip<|.seq<|.r<|.z .mvI<|.z .asI<|.nil ?_;refine .ret ⟨.int .i64 0,Res.one rfl rfl,⟨rfl,rfl⟩⟩
theorem sread_any {G:Pgr} {h:Heap} {so:Nat} {r:RS G.α} {E:Nat→Prop} {no:Int} {b:List UInt8} (ok:Hp h (starI [G.it r.p r.pF r.a,sboxI G so r,nowI r.om r.ov]).F [G.it r.p r.pF r.a,sboxI G so r,nowI r.om r.ov] [pbsI E r.ov] h) (hno:1≤no) (hbl:b.length≤1000000) (hb:r.in_=true→∃mb,r.om=some mb) (h1:r.in_=true→∀x,mget r.ov no=some x→x.l=b) (h2:r.in_=false∨mget r.ov no=none→(G.sure r.a)[(no-1).toNat]? = some b) :
  HC Tryz.prog 71 #[.pointer (some ⟨so,0,none⟩),.int .i64 no] h (fun v h'=>∃F' a' x c,v=.tuple #[.slice x b.length c,.int .i64 0]∧G.sure a'=G.sure r.a∧Hp h (starI [G.it r.p r.pF r.a,sboxI G so r,nowI r.om r.ov]).F [capI 1 5 (x,b.length,c) (b.map bv),G.it r.p F' a',sboxI G so r,nowI r.om r.ov] [] h'):=by
 obtain ⟨p,lg,z,in_,many,om,ov,sa,sc,svl,pF,ga⟩:=r;dsimp only at ok hb h1 h2⊢;refine HC.go Tryz.func71 40 ?_;refine .seq<|.r<|.z .asS<|.z .asI<|.nil ?_;refine .seq<|.seq<|.r<|.z .mvP<|.z .nil<|.z (.fa T.fd123_3)<|.z (.ldx T.ag4 ok.m1)<|.nil ?_;refine .cond (fun C0=>?_) (fun C0=>?_)
 ·
  obtain ⟨m,rfl⟩:=hb C0;have ok:=Hp.nowSome (ok.n2);refine .seq<|.r<|.z .mvP<|.z .nil<|.z (.fa T.fd123_4)<|.z (.fa T.fd120_1)<|.z (.ldx T.ag118 ok.m2)<|.z .mvI<|.z (.lk2 (KV.int .i64) no (v:=.slice (bsA ov no) (bsN ov no) (bsC ov no)) T.mp118 (inB_iff T.in3) T.zr44 ok.m0 (by exact bs_get) (by exact bs_is))<|.z .mvU<|.z .ex<|.z .ex<|.z .asS<|.z .asB<|.nil ?_;refine .seq<|.r<|.z .mvB<|.nil ?_;refine .cond (fun C1=>?_) (fun C1=>?_)
  ·
   obtain ⟨x,hx⟩:=Option.isSome_iff_exists.1 C1;have hxl:=h1 C0 x hx;have ok:=ok.d0 (rdI E E (bsA ov no,bsN ov no,bsC ov no) b) (Pbs.rd ok.r0 hx hxl) (fun _ h=>h.elim id id);obtain hbn:bsN ov no=b.length:=ok.r0.n;rw [hbn] at ok⊢;refine .seq<|.r<|.z .mvS<|.c' 26 .func (bclone_any (a:=(bsA ov no)) (c:=(bsC ov no)) (l:=b) ok.r0 (by omega)) ?_;rintro _ η1 own;obtain ⟨ya1,yc1,rfl⟩:=own.formB;have ok:=ok.own own;refine .z .asS<|.z .asI<|.nil ?_;refine .ret ⟨.tuple #[.slice ya1 ((b).length) yc1,.int .i64 0],Res.two rfl rfl rfl,⟨pF,ga,ya1,yc1,rfl,rfl,(ok.n1.n3.n3.n3).e0⟩⟩
  have h3:=h2 (.inr (by simpa using C1));refine .skip<|.seq<|.r<|.z .mvP<|.z .nil<|.z (.fa T.fd123_0)<|.z (.ldx T.ag116 ok.m2)<|.z .mvI<|.c' 33 (.inv (G.mRead _)) (G.cRead (p:=p) (F:=pF) (a:=ga) (no:=no) (b:=b) (ok.n1).loc0 hno h3) ?_;rintro _ η2 ⟨Fg1,ag1,xg1,cg1,rfl,hsg1,q⟩;have ok:=(ok.n1).lift2 q;refine .z .mvU<|.z .ex<|.z .ex<|.z .asS<|.z .asI<|.nil ?_;refine .seq<|.r<|.z .mvS<|.z .mvP<|.z .mvI<|.k 39 .func (stold_any (G:=G) (r:=(⟨p,lg,z,in_,many,(some m),ov,sa,sc,svl,Fg1,ag1⟩:RS G.α)) ok.m3)<|.z .asS<|.z .asI<|.nil ?_;refine .ret ⟨.tuple #[.slice xg1 b.length cg1,.int .i64 0],Res.two rfl rfl rfl,⟨Fg1,ag1,xg1,cg1,rfl,hsg1,(ok.n2.n3.n3.n3).e0⟩⟩
 have h3:=h2 (.inl (by simpa using C0));refine .skip<|.seq<|.r<|.z .mvP<|.z .nil<|.z (.fa T.fd123_0)<|.z (.ldx T.ag116 ok.m1)<|.z .mvI<|.c' 33 (.inv (G.mRead _)) (G.cRead (p:=p) (F:=pF) (a:=ga) (no:=no) (b:=b) (ok).loc0 hno h3) ?_;rintro _ η3 ⟨Fg2,ag2,xg2,cg2,rfl,hsg2,q⟩;have ok:=(ok).lift2 q;refine .z .mvU<|.z .ex<|.z .ex<|.z .asS<|.z .asI<|.nil ?_;refine .seq<|.r<|.z .mvS<|.z .mvP<|.z .mvI<|.k 39 .func (stold_any (G:=G) (r:=(⟨p,lg,z,in_,many,om,ov,sa,sc,svl,Fg2,ag2⟩:RS G.α)) ok.m2)<|.z .asS<|.z .asI<|.nil ?_;refine .ret ⟨.tuple #[.slice xg2 b.length cg2,.int .i64 0],Res.two rfl rfl rfl,⟨Fg2,ag2,xg2,cg2,rfl,hsg2,(ok).e0⟩⟩
theorem sput_any {G:Pgr} {h:Heap} {so mb:Nat} {r:RS G.α} {a:Option Addr} {c:Nat} {l:List UInt8} {no:Nat} (ok:Hp h (starI [sboxI G so r,mapI (Value.int .i64) mb (bsE r.ov)]).F [sboxI G so r,mapI (Value.int .i64) mb (bsE r.ov)] [] h) (hm:r.om=some mb) :
  HC Tryz.prog 83 #[.pointer (some ⟨so,4,none⟩),.int .i64 (no:Int),.slice a l.length c] h (fun v h'=>v=.tuple #[]∧Hp h (starI [sboxI G so r,mapI (Value.int .i64) mb (bsE r.ov)]).F [sboxI G so ({ r with many:=max r.many no,ov:=mput r.ov (no:Int) ⟨a,c,l⟩ }),mapI (Value.int .i64) mb (bsE (mput r.ov (no:Int) ⟨a,c,l⟩))] [] h'):=by
 obtain ⟨p,lg,z,in_,many,om,ov,sa,sc,svl,pF,ga⟩:=r;dsimp only at ok hm⊢;subst hm;refine HC.go Tryz.func83 21 ?_;refine .seq<|.r<|.z .mvP<|.z .nil<|.z (.fa T.fd120_1)<|.z (.ldx T.ag118 ok.m0)<|.z .mvI<|.z .mvS<|.ur' (.mpu (KV.int .i64) V.sbI (no:Int) (v:=.slice a l.length c) T.mp118 (inB_iff T.in3) ok.n1) ?_;rintro η1 ok;rw [show (Value.slice a l.length c:Value)=bsV ⟨a,c,l⟩ from rfl,bsE_put] at ok;refine .nil ?_;refine .r<|.z .mvP<|.z .mvP<|.z .nil<|.z (.fa T.fd120_0)<|.z (.ldx T.ag3 ok.m1)<|.z .mvI<|.z .maxn<|.z .nil<|.z (.fa T.fd120_0)<|.ur' (.stI T.sz3 ok.n1) ?_;rintro η2 ⟨ok,cg⟩;refine .nil ?_;refine .end<|⟨.tuple #[],Res.none rfl,⟨rfl,ok⟩⟩
theorem bsE_some {l:List (Int × RB)} {i:Nat} {p:Int × Value} (h:(bsE l)[i]? = some p):∃q,l[i]? = some q∧(q.1,bsV q.2)=p:=by
 unfold bsE at h;rw [List.getElem?_map] at h;cases hq:l[i]? with
 | none=>rw [hq] at h;cases h
 | some q=>rw [hq] at h;injection h with h;exact ⟨q,rfl,h⟩
theorem bsE_erase {l:List (Int × RB)} {i:Nat} : (bsE l).eraseIdx i=bsE (l.eraseIdx i):=(map_erase _ _ _).symm
theorem erase_memR {td:List (Int × RB)} {i:Nat} {p q:Int × RB} (hp:p∈td) (hq:td[i]? = some q) (hne:p≠q):p∈td.eraseIdx i:=by
 rw [List.mem_eraseIdx_iff_getElem?];obtain ⟨j,hj⟩:=List.mem_iff_getElem?.1 hp;refine ⟨j,fun e=>?_,hj⟩;subst e;rw [hj] at hq;injection hq with hq;exact hne hq
theorem filt_del {L:List (Int × RB)} {c k:Int} (h:c<k):(mdel L k).filter (fun p=>decide (p.1≤c))=L.filter fun p=>decide (p.1≤c):=by
 unfold mdel;rw [List.filter_filter];refine List.filter_congr fun p _=>?_;by_cases h1:p.1≤c
 ·have:p.1≠k:=by omega
  simp [h1,this]
 ·simp [h1]
theorem scut_any {G:Pgr} {h:Heap} {so mb n:Nat} {r:RS G.α} (ok:Hp h (starI [sboxI G so r,mapI (Value.int .i64) mb (bsE r.ov)]).F [sboxI G so r,mapI (Value.int .i64) mb (bsE r.ov)] [] h) (hm:r.om=some mb) :
  HC Tryz.prog 99 #[.pointer (some ⟨so,4,none⟩),.int .i64 (n:Int)] h (fun v h'=>v=.tuple #[]∧Hp h (starI [sboxI G so r,mapI (Value.int .i64) mb (bsE r.ov)]).F [sboxI G so ({ r with many:=n,ov:=r.ov.filter fun p=>decide (p.1≤(n:Int)) }),mapI (Value.int .i64) mb (bsE (r.ov.filter fun p=>decide (p.1≤(n:Int))))] [] h'):=by
 obtain ⟨p,lg,z,in_,many,om,ov,sa,sc,svl,pF,ga⟩:=r;dsimp only at ok hm⊢;subst hm;refine HC.go Tryz.func99 26 ?_;refine .seq<|.seq<|.r<|.z .mvP<|.z .nil<|.z (.fa T.fd120_1)<|.z (.ldx T.ag118 ok.m0)<|.a' 9 (.rng T.mp118 ok.n1) ?_;rintro _ η1 ⟨ib1,rfl,ok⟩;refine .nil ?_;refine .block fun K0 hK0=>.loop (fun m s hh=>∃(L td:List (Int × RB)),Has s [(0,.pointer (some ⟨so,4,none⟩)),(1,.int .i64 (n:Int)),(9,.pointer (some ⟨ib1,0,none⟩))]∧Hp h (starI [sboxI G so ((⟨p,lg,z,in_,many,some mb,ov,sa,sc,svl,pF,ga⟩:RS G.α)),mapI (Value.int .i64) mb (bsE ov)]).F [itI (Value.int .i64) ib1 mb (bsE L) (bsE td),boxI so 123 [.iface G.tid (.pointer (some ⟨p,0,none⟩)),.pointer lg,.int .i64 (z:Int),.bool in_,.int .i64 (many:Int),.map (some mb),.slice sa svl.length sc,.bool false]] [] hh∧L.filter (fun p:Int × RB=>decide (p.1≤(n:Int)))=ov.filter (fun p:Int × RB=>decide (p.1≤(n:Int)))∧(∀p∈L,p.1≤(n:Int)∨p∈td)∧m=td.length) ?_ ?_
 ·exact ⟨_,ov,ov,⟨rfl,rfl,rfl,trivial⟩,ok.n1.n1,rfl,fun p h=>.inr h,rfl⟩
 rintro _ _ η2 ⟨L,td,hs,ok,hLf,hLt,rfl⟩ J0 hJ0;refine .frame hs fun τ=>?_;refine .seq<|.r<|.a' 10 (.nxt ok) ?_;rintro _ η3 (⟨hnil,rfl,ok⟩ | ⟨ipq1,pq1,hpq1,rfl,ok⟩)
 ·
  have htd:td=[]:=by simpa [bsE] using hnil
  have hLe:L=ov.filter (fun p:Int × RB=>decide (p.1≤(n:Int))):=by rw [←hLf];exact (List.filter_eq_self.2 fun p hp=>decide_eq_true ((hLt p hp).resolve_right (by rw [htd];simp))).symm
  have ok:=ok.itm;rw [hLe] at ok;refine .z .ex<|.nil ?_;refine .seq<|.cf<|.exit<|hK0 _ _<|.r<|.z .mvP<|.z .mvI<|.z .nil<|.z (.fa T.fd120_0)<|.ur' (.stI T.sz3 ok.n1) ?_;rintro η4 ⟨ok,cg⟩;refine .nil ?_;refine .end<|⟨.tuple #[],Res.none rfl,⟨rfl,ok⟩⟩
 obtain ⟨q,hq,hpe⟩:=bsE_some hpq1;have hk1:pq1.1=q.1:=by rw [←hpe]
 rw [bsE_erase] at ok;refine .z .ex<|.nil ?_;refine .seq<|.ct<|.skip<|.block fun K1 hK1=>.seq<|.r<|.z (.ent (ok.m0).2)<|.z .ex<|.z .asI<|.nil ?_;refine .seq<|.r<|.z .mvI<|.z .mvI<|.z .gtr<|.nil ?_;refine .cd (fun C1=>?_) (fun C1=>?_)
 ·
  refine .r<|.z .mvP<|.z .nil<|.z (.fa T.fd120_1)<|.z (.ldx T.ag118 ok.m1)<|.z .mvI<|.a0' (.delC (KV.int .i64) T.mp118 (inB_iff T.in3) ok) ?_;rintro _ η5 ⟨rfl,ok⟩;rw [hk1,bsE_del] at ok;refine .nil ?_;refine .end<|hK1 _ _<|.end<|hJ0 _ _ _ ⟨mdel L q.1,td.eraseIdx ipq1,⟨rfl,rfl,rfl,trivial⟩,ok.n1.n1,by rw [filt_del (by omega)];exact hLf,fun p hp=>(hLt p (List.mem_filter.1 hp).1).imp id fun h=>erase_memR h hq (fun e=>by have:=(List.mem_filter.1 hp).2;rw [e] at this;simp at this),rfl⟩ (by rw [List.length_eraseIdx_of_lt (List.getElem?_eq_some_iff.1 hq).1];have:=(List.getElem?_eq_some_iff.1 hq).1;omega)
 have ok:=(ok).itc;refine .skip<|.end<|hK1 _ _<|.end<|hJ0 _ _ _ ⟨L,td.eraseIdx ipq1,⟨rfl,rfl,rfl,trivial⟩,ok.n1.n1,hLf,fun p hp=>(hLt p hp).elim .inl fun h=>(Classical.em (p=q)).elim (fun e=>.inl (by rw [e];omega)) fun e=>.inr (erase_memR h hq e),rfl⟩ (by rw [List.length_eraseIdx_of_lt (List.getElem?_eq_some_iff.1 hq).1];have:=(List.getElem?_eq_some_iff.1 hq).1;omega)
def i64N (z:Int):Prop:=-9223372036854775808≤z∧z≤9223372036854775807
structure HdIn (H:Hd):Prop where
 a:i64N H.size
 b:i64N H.pages
 c:i64N H.free
 d:i64N H.many
 e:i64N H.cookie
 f:i64N H.version
theorem encB_any {h:Heap} {z0 z1 z2 z3 z4 z5:Int} (h0:i64N z0) (h1:i64N z1) (h2:i64N z2) (h3:i64N z3) (h4:i64N z4) (h5:i64N z5) (hc:¬ChkP ⟨z0,z1,z2,z3,z4,z5⟩):HC Tryz.prog 98 #[.agg #[.int .i64 z0,.int .i64 z1,.int .i64 z2,.int .i64 z3,.int .i64 z4,.int .i64 z5]] h (fun v h'=>v=.tuple #[.slice none 0 0,.int .i64 1]∧Ext h h'):=by
 have ok:=Hp.nil h none_;refine HC.go Tryz.func98 12 ?_;refine .seq<|.r<|.a' 1 (.bxA (cs:=[.int .i64 z0,.int .i64 z1,.int .i64 z2,.int .i64 z3,.int .i64 z4,.int .i64 z5]) ok) ?_;rintro _ η1 ⟨pb1,rfl,ok,xe⟩;refine .z .asS<|.z .asI<|.nil ?_;refine .seq<|.seq<|.r<|.z (.ldb T.ag38 ok.m0 T.sz38)<|.c' 6 .func (check_any (z0:=z0) (z1:=z1) (z2:=z2) (z3:=z3) (z4:=z4) (z5:=z5) h0 h1 h2 h3 h4 h5) ?_;rintro _ η2 ⟨rfl,hx⟩;have ok:=ok.ext hx;refine .z .asI<|.nil ?_;refine .seq<|.r<|.z .mvI<|.z .neq<|.nil ?_;refine .cd (fun C0=>?_) (fun C0=>?_)
 ·
  refine .seq<|.r<|.z .mvI<|.z .asS<|.z .asI<|.nil ?_;refine .ret ⟨.tuple #[.slice none 0 0,.int .i64 (chkC ⟨z0,z1,z2,z3,z4,z5⟩:Int)],Res.two rfl rfl rfl,⟨by rw [chk_n hc];rfl,ok.chg⟩⟩
 exact absurd (by rw [chk_n hc];decide) C0
theorem encG_any {h:Heap} {n0 n1 n2 n3 n4 n5:Nat} (h0:n0<4294967296) (h1:n1<4294967296) (h2:n2<4294967296) (h3:n3<4294967296) (h4:n4<4294967296) (h5:n5<4294967296) (hc:ChkP ⟨((n0:Nat):Int),((n1:Nat):Int),((n2:Nat):Int),((n3:Nat):Int),((n4:Nat):Int),((n5:Nat):Int)⟩):HC Tryz.prog 98 #[.agg #[.int .i64 (n0:Int),.int .i64 (n1:Int),.int .i64 (n2:Int),.int .i64 (n3:Int),.int .i64 (n4:Int),.int .i64 (n5:Int)]] h (fun v h'=>∃w,v=.tuple #[w,.int .i64 0]∧Own h h' 1 5 w ((hdB [n0,n1,n2,n3,n4,n5]).map bv)):=by
 have ok:=Hp.nil h none_;refine HC.go Tryz.func98 12 ?_;refine .seq<|.r<|.a' 1 (.bxA (cs:=[.int .i64 (n0:Int),.int .i64 (n1:Int),.int .i64 (n2:Int),.int .i64 (n3:Int),.int .i64 (n4:Int),.int .i64 (n5:Int)]) ok) ?_;rintro _ η1 ⟨pb1,rfl,ok,xe⟩;refine .z .asS<|.z .asI<|.nil ?_;refine .seq<|.seq<|.r<|.z (.ldb T.ag38 ok.m0 T.sz38)<|.c' 6 .func (check_any (z0:=(n0:Int)) (z1:=(n1:Int)) (z2:=(n2:Int)) (z3:=(n3:Int)) (z4:=(n4:Int)) (z5:=(n5:Int)) (by omega) (by omega) (by omega) (by omega) (by omega) (by omega)) ?_;rintro _ η2 ⟨rfl,hx⟩;have ok:=ok.ext hx;refine .z .asI<|.nil ?_;refine .seq<|.r<|.z .mvI<|.z .neq<|.nil ?_;refine .cd (fun C0=>?_) (fun C0=>?_)
 ·
  exact absurd (by rw [chk_y hc];rfl) C0
 refine .skip<|.seq<|.r<|.z (.ldb T.ag38 ok.m0 T.sz38)<|.c' 11 .func (hbytes_any (n0:=n0) (n1:=n1) (n2:=n2) (n3:=n3) (n4:=n4) (n5:=n5) (by omega) (by omega) (by omega) (by omega) (by omega) (by omega)) ?_;rintro _ η3 own;obtain ⟨ya1,yc1,rfl⟩:=own.formB;have ok:=ok.own own;refine .z .asS<|.z .asI<|.nil ?_;refine .ret ⟨.tuple #[.slice ya1 ((hdB [n0,n1,n2,n3,n4,n5]).length) yc1,.int .i64 0],Res.two rfl rfl rfl,⟨_,rfl,(ok).toOwn⟩⟩
theorem encN_any {h:Heap} {H:Hd} (hr:HdIn H):HC Tryz.prog 98 #[H.val] h (fun v h'=>(¬ChkP H∧v=.tuple #[.slice none 0 0,.int .i64 1]∧Ext h h')∨(ChkP H∧∃w,v=.tuple #[w,.int .i64 0]∧Own h h' 1 5 w (H.enc.map bv))):=by
 by_cases hc:ChkP H
 ·have h0:=okZ_cases hc.1;have h1:=hc.2.1;have h2:=hc.2.2.1;have h3:=hc.2.2.2;obtain ⟨a,b,c,d,e,f⟩:=H;simp only at h0 h1 h2 h3;obtain ⟨a,rfl⟩:∃n:Nat,a=(n:Int):=⟨a.toNat,by omega⟩;obtain ⟨b,rfl⟩:∃n:Nat,b=(n:Int):=⟨b.toNat,by omega⟩;have hcb:0≤c∧c<4294967296:=by
   by_cases h:d=0
   ·have:=h2.2.2.1 h;omega
   ·have:=h2.2.2.2 (by omega);omega
  obtain ⟨c,rfl⟩:∃n:Nat,c=(n:Int):=⟨c.toNat,by omega⟩;obtain ⟨d,rfl⟩:∃n:Nat,d=(n:Int):=⟨d.toNat,by omega⟩;obtain ⟨e,rfl⟩:∃n:Nat,e=(n:Int):=⟨e.toNat,by omega⟩;obtain ⟨f,rfl⟩:∃n:Nat,f=(n:Int):=⟨f.toNat,by omega⟩;have hdb:d<4294967296:=by have:=h1.2.1;have:=h2.2.1;omega
  have heb:e<4294967296:=by have:=h3.1.2;omega
  have hfb:f<4294967296:=by have:=h3.2.2;omega
  exact (encG_any (n0:=a) (n1:=b) (n2:=c) (n3:=d) (n4:=e) (n5:=f) (by omega) (by omega) (by omega) hdb heb hfb hc).mono fun v h' q=>.inr ⟨hc,q⟩
 ·exact (encB_any hr.a hr.b hr.c hr.d hr.e hr.f hc).mono fun v h' q=>.inl ⟨hc,q⟩
section
variable {G:Pgr} {r:RS G.α} {w:St} (V:SVw G r w)
include V
theorem SVw.pgs:(if r.in_=true then r.many else (G.sure r.a).length)=w.pgs.length:=by
 unfold St.pgs;rw [V.in_];split
 ·rename_i h;exact (V.now h).2.len.symm
 ·rw [V.sure]
theorem SVw.pgk:PgsK w.z w.pgs:=by
 unfold St.pgs;split
 ·exact V.ok.now
 ·exact V.ok.sure
theorem SVw.zc:w.z=256∨w.z=512∨w.z=1024∨w.z=2048∨w.z=4096:=okSz_c V.ok.z
theorem SVw.few:w.pgs.length≤65536:=by
 have h1:=V.pgk.many;have h2:=V.zc;have h3:w.pgs.length*256≤w.pgs.length*w.z:=Nat.mul_le_mul_left _ (by omega);omega
theorem SVw.nowfew:w.now.length≤65536:=by
 have h1:=V.ok.now.many;have h2:=V.zc;have h3:w.now.length*256≤w.now.length*w.z:=Nat.mul_le_mul_left _ (by omega);omega
theorem SVw.many (h:w.in_=true):r.many=w.now.length:=(V.now h).2.len.symm
theorem SVw.page {no:Int} (h1:1≤no) (h2:no≤(w.pgs.length:Int)):(w.pgs.getD (no-1).toNat []).length=w.z∧(r.in_=true→∃mb,r.om=some mb)∧(r.in_=true→∀x,mget r.ov no=some x→x.l=w.pgs.getD (no-1).toNat [])∧(r.in_=false∨mget r.ov no=none→(G.sure r.a)[(no-1).toNat]? = some (w.pgs.getD (no-1).toNat [])):=by
 have hi:(no-1).toNat<w.pgs.length:=by omega
 have hk:(((no-1).toNat:Nat):Int)+1=no:=by omega
 have hg:w.pgs[(no-1).toNat]? = some (w.pgs.getD (no-1).toNat []):=by rw [List.getD_eq_getElem?_getD,List.getElem?_eq_getElem hi];rfl
 have hin:=V.in_;refine ⟨V.pgk.len _ (List.mem_of_getElem? hg),fun h=>(V.now (by rw [←hin];exact h)).1,fun h x hx=>?_,fun h=>?_⟩
 ·have hw:w.in_=true:=by rw [←hin];exact h
  have hn:=(V.now hw).2;have hp:w.pgs=w.now:=by unfold St.pgs;rw [if_pos hw]
  rw [hp] at hg hi⊢;have:=hn.sm (no-1).toNat x (by rw [←hn.len];exact hi) (by rw [hk];exact hx);rw [hg] at this;injection this with this;exact this.symm
 ·rw [V.sure];cases hw:w.in_ with
  | false=>
   have hp:w.pgs=w.sure:=by unfold St.pgs;rw [if_neg (by rw [hw];decide)]
   rw [hp] at hg⊢;exact hg
  | true=>
   have hn:=(V.now hw).2;have hp:w.pgs=w.now:=by unfold St.pgs;rw [if_pos hw]
   rw [hp] at hg hi⊢;have:=hn.nn (no-1).toNat (by rw [←hn.len];exact hi) (by rw [hk];exact h.elim (fun h=>by rw [hin,hw] at h;cases h) id);rw [←this.2];exact hg
theorem SVw.pg {F:Nat→Prop} {a:G.α} (h:G.sure a=G.sure r.a):SVw G { r with pF:=F,a:=a } w:=⟨V.z,V.in_,h.trans V.sure,V.now,V.out,V.sv,V.ok⟩
theorem SVw.begin (hi:w.in_=false) {m:Nat} : SVw G { r with in_:=true,many:=(G.sure r.a).length,om:=some m,ov:=[] } { w with in_:=true,now:=w.sure,saves:=[] }:=by
 have ho:=V.out hi;refine ⟨V.z,rfl,V.sure,fun _=>⟨⟨m,rfl⟩,by rw [V.sure];exact VW.begin⟩,fun h=>(by cases h),?_,⟨V.ok.z,V.ok.sure,V.ok.sure,by simp,by simp,fun h=>by cases h⟩⟩;show All2 _ r.sv [];rw [ho.2.2.2];exact All2.nil
theorem SVw.endS:SVw G { r with in_:=false,many:=0,om:=none,ov:=[],sa:=none,sc:=0,sv:=[] } ⟨w.z,w.sure,false,[],[]⟩:=
 ⟨V.z,rfl,V.sure,fun h=>(by cases h),fun _=>⟨rfl,rfl,rfl,rfl⟩,All2.nil,⟨V.ok.z,V.ok.sure,.nil,by simp,by simp,fun _=>⟨rfl,rfl⟩⟩⟩
theorem SVw.put (hi:w.in_=true) {no:Nat} {x:RB} {now':List (List UInt8)} {many':Nat} {ov':List (Int × RB)} (hv:VW RB.l ov' many' w.sure now') (hk:PgsK w.z now'):SVw G { r with many:=many',ov:=ov' } { w with now:=now' }:=
 ⟨V.z,V.in_,V.sure,fun h=>⟨(V.now h).1,hv⟩,fun h=>(by rw [hi] at h;cases h),V.sv,⟨V.ok.z,V.ok.sure,hk,V.ok.saves,V.ok.few,fun h=>by rw [hi] at h;cases h⟩⟩
theorem SVw.write (hi:w.in_=true) {no:Nat} {x:RB} (h2:2≤no) (h3:no≤w.now.length+1) (h4:w.now≠[]) (h5:x.l.length=w.z) (h6:no*w.z≤16777216):SVw G { r with many:=max r.many no,ov:=mput r.ov (no:Int) x } { w with now:=wth w.now no x.l }:=by
 have hn:=(V.now hi).2;exact V.put hi (no:=no) (x:=x) (hn.put (by omega) (by rw [←hn.len];exact h3)) (V.ok.now.wth h5 (by omega) h3 h6 (fun h=>h.elim (fun h=>by omega) fun h=>absurd h h4))
theorem SVw.setHead (hi:w.in_=true) {H:Hd} {x:RB} {n:Nat} (hc:ChkP H) (hz:H.size=(w.z:Int)) (hn:H.pages=(n:Int)) (hp:n≤max 1 w.now.length) (hx:x.l=pg1 w.z H):SVw G { r with many:=n,ov:=(mput r.ov 1 x).filter fun p=>decide (p.1≤(n:Int)) } { w with now:=(Go.Proofs.YtndlpekckpdncaaGreat.wth w.now 1 (pg1 w.z H)).take n }:=by
 have hv:=(V.now hi).2;have h1:=hv.put (no:=1) (x:=x) (Nat.le_refl _) (by omega);have h2:=h1.cut (n:=n) (by rw [←hv.len,Nat.max_comm];exact hp);rw [hx] at h2;have hz2:=V.zc;exact V.put hi (no:=1) (x:=x) h2 ((V.ok.now.wth (pg1_len V.ok.z) (Nat.le_refl _) (by omega) (by omega) (fun _=>hok_pg1 hc hz)).take n)
end
theorem _root_.Go.HL.Hp.putNew {h0 h:Heap} {D F:Nat→Prop} {M R:List Itm} {a:Itm} (ok:Hp h0 D (a::M) R h) (hf:∀j,D j→F j):∀j,a.F j→F j∨h0.size≤j:=fun j hj=>((ok.m a List.mem_cons_self).2 j hj).2.imp (hf j) id
theorem Svs.mono {h:Heap} {E E':Nat→Prop} {sv:List RSv} (hE:∀j,E j→E' j) (b:Svs h E sv):Svs h E' sv:=fun x hx=>⟨(b x hx).1,hE _ (b x hx).2.1,(b x hx).2.2.mono hE⟩
theorem Pbs.filt {h:Heap} {E:Nat→Prop} {bs:List (Int × RB)} {f:Int × RB→Bool} (b:Pbs h E bs):Pbs h E (bs.filter f):=fun x hx=>b x (List.mem_filter.1 hx).1
theorem _root_.Go.HL.Hp.svsNil {h0 h:Heap} {D:Nat→Prop} {M R:List Itm} {E:Nat→Prop} {sv:List RSv} (ok:Hp h0 D M (svsI E sv::R) h):Hp h0 D M (svsI E []::R) h:=(ok.d0 (svsI E []) (fun _ h=>by cases h)).sub (by simp;intro a h;exact .inr (.inr h))
section
variable {w:St}
theorem St.read_no {no:Int} (h:no<1∨(w.pgs.length:Int)<no):w.read no=([],1):=if_pos h
theorem St.read_ok {no:Int} (h1:1≤no) (h2:no≤(w.pgs.length:Int)):w.read no=(w.pgs.getD (no-1).toNat [],0):=if_neg (by omega)
theorem St.head_0 (h:w.pgs.length=0):w.head=hd0:=if_pos (List.eq_nil_of_length_eq_zero h)
theorem St.head_n (h:w.pgs.length≠0):w.head = { (decN (w.pgs.getD 0 [])).1 with size:=(w.z:Int),pages:=(w.pgs.length:Int) }:=by
 unfold St.head;rw [if_neg (fun e=>h (by rw [e];rfl))];rw [headD_get,List.getD_eq_getElem?_getD]
theorem St.begin_10 (h:w.in_=true):w.begin_=(w,10):=if_pos h
theorem St.begin_0 (h:w.in_=false):w.begin_=({ w with in_:=true,now:=w.sure,saves:=[] },0):=by unfold St.begin_;rw [if_neg (by rw [h];decide)]
theorem St.rollback_10 (h:w.in_=false):w.rollback=(w,10):=if_pos h
theorem St.rollback_0 (h:w.in_=true):w.rollback=(⟨w.z,w.sure,false,[],[]⟩,0):=by unfold St.rollback;rw [if_neg (by rw [h];decide)]
theorem St.write_10 {no:Int} {b:List UInt8} (h:w.in_=false):w.write no b=(w,10):=if_pos h
theorem St.write_1 {no:Int} {b:List UInt8} (h:w.in_=true) (h2:no<2∨(w.now.length:Int)+1<no∨w.now=[]∨b.length≠w.z):w.write no b=(w,1):=by unfold St.write;rw [if_neg (by rw [h];decide),if_pos h2]
theorem St.write_5 {no:Int} {b:List UInt8} (h:w.in_=true) (h2:¬(no<2∨(w.now.length:Int)+1<no∨w.now=[]∨b.length≠w.z)) (h3:1048576<no∨16777216<no*(w.z:Int)):w.write no b=(w,5):=by unfold St.write;rw [if_neg (by rw [h];decide),if_neg h2,if_pos h3]
theorem St.write_0 {no:Nat} {b:List UInt8} (h:w.in_=true) (h2:¬((no:Int)<2∨(w.now.length:Int)+1<(no:Int)∨w.now=[]∨b.length≠w.z)) (h3:¬(1048576<(no:Int)∨16777216<(no:Int)*(w.z:Int))):w.write (no:Int) b=({ w with now:=wth w.now no b },0):=by unfold St.write;rw [if_neg (by rw [h];decide),if_neg h2,if_neg h3];rfl
theorem St.setHead_10 {H:Hd} (h:w.in_=false):w.setHead H=(w,10):=if_pos h
theorem St.setHead_1 {H:Hd} (h:w.in_=true) (h2:¬ChkP H∨H.size≠(w.z:Int)∨max 1 (w.now.length:Int)<H.pages):w.setHead H=(w,1):=by unfold St.setHead;rw [if_neg (by rw [h];decide),if_pos h2]
theorem St.setHead_0 {H:Hd} {n:Nat} (h:w.in_=true) (h2:¬(¬ChkP H∨H.size≠(w.z:Int)∨max 1 (w.now.length:Int)<H.pages)) (hn:H.pages=(n:Int)):w.setHead H=({ w with now:=(wth w.now 1 (pg1 w.z H)).take n },0):=by unfold St.setHead;rw [if_neg (by rw [h];decide),if_neg h2,hn];rfl
end
open Go Go.HL
theorem sSize_any {G:Pgr} {h:Heap} {so:Nat} {F:Nat→Prop} {w:St} (hd:(dsI G so F w).p h) :
  HC Tryz.prog 28 #[.pointer (some ⟨so,0,none⟩)] h (fun v h'=>v=.int .i64 (w.z:Int)∧h'=h):=by
 obtain ⟨r,V,hb,hp⟩:=ds_box hd;refine HC.go Tryz.func28 9 ?_;refine .seq<|.r<|.z .asI<|.nil ?_;refine .seq<|.seq<|.r<|.z .mvP<|.z (.pEqS T.pt27)<|.nil ?_;refine .cf<|.skip<|.seq<|.r<|.z .mvP<|.z .nil<|.z (.fa T.fd123_2)<|.z (.ldx T.ag3 hb)<|.z .asI<|.nil ?_;refine .ret ⟨.int .i64 (r.z:Int),Res.one rfl rfl,⟨by rw [V.z],rfl⟩⟩
theorem sIn_any {G:Pgr} {h:Heap} {so:Nat} {F:Nat→Prop} {w:St} (hd:(dsI G so F w).p h) :
  HC Tryz.prog 41 #[.pointer (some ⟨so,0,none⟩)] h (fun v h'=>v=.bool w.in_∧h'=h):=by
 obtain ⟨r,V,hb,hp⟩:=ds_box hd;refine HC.go Tryz.func41 12 ?_;refine .seq<|.r<|.z .asB<|.nil ?_;refine .seq<|.r<|.z .mvP<|.k 4 .func (susable_any (G:=G) (r:=r) hb)<|.z .eql<|.z .mvB<|.z .mvP<|.z .nil<|.z (.fa T.fd123_3)<|.z (.ldx T.ag4 hb)<|.z .pkt<|.z .asB<|.nil ?_;refine .ret ⟨.bool r.in_,Res.one rfl rfl,⟨by rw [V.in_],rfl⟩⟩
theorem sSaves_any {G:Pgr} {h:Heap} {so:Nat} {F:Nat→Prop} {w:St} (hd:(dsI G so F w).p h) :
  HC Tryz.prog 42 #[.pointer (some ⟨so,0,none⟩)] h (fun v h'=>v=.int .i64 (w.saves.length:Int)∧h'=h):=by
 obtain ⟨r,V,hb,hp⟩:=ds_box hd;have hsv:=V.sv.1;refine HC.go Tryz.func42 11 ?_;refine .seq<|.r<|.z .asI<|.nil ?_;refine .seq<|.seq<|.r<|.z .mvP<|.k 4 .func (susable_any (G:=G) (r:=r) hb)<|.z .neq<|.nil ?_;refine .cf<|.skip<|.seq<|.r<|.z .mvP<|.z .nil<|.z (.fa T.fd123_5)<|.z (.ldx T.ag121 hb)<|.z (.len T.el121)<|.z .asI<|.nil ?_;refine .ret ⟨.int .i64 (r.sv.length:Int),Res.one rfl rfl,⟨by rw [hsv],rfl⟩⟩
theorem sRead_any {G:Pgr} {h:Heap} {so:Nat} {F:Nat→Prop} {w:St} {no:Int} (ok:Hp h F [dsI G so F w] [] h) :
  HC Tryz.prog 22 #[.pointer (some ⟨so,0,none⟩),.int .i64 no] h (fun v h'=>∃F' x c,v=.tuple #[.slice x (w.read no).1.length c,.int .i64 ((w.read no).2:Int)]∧Hp h F [capI 1 5 (x,(w.read no).1.length,c) ((w.read no).1.map bv),dsI G so F' w] [] h'):=by
 obtain ⟨r,E,V,ok,hf,he⟩:=ds_open ok;have hzc:=V.zc;have hfew:=V.few;have hnf:=V.nowfew;obtain ⟨p,lg,z,in_,many,om,ov,sa,sc,svl,pF,ga⟩:=r;dsimp only at ok hf;generalize stF G so _=DF at ok hf;obtain rfl:z=w.z:=V.z;obtain rfl:in_=w.in_:=V.in_;have hpgs:(if w.in_=true then many else (G.sure ga).length)=w.pgs.length:=V.pgs;have ok:Hp h DF [boxI so 123 [.iface G.tid (.pointer (some ⟨p,0,none⟩)),.pointer lg,.int .i64 (w.z:Int),.bool w.in_,.int .i64 (many:Int),.map om,.slice sa svl.length sc,.bool false],nowI om ov,capI 2 120 (sa,svl.length,sc) (svl.flatMap RSv.cells),G.it p pF ga] [pbsI E ov,svsI E svl] h:=ok;have hsz0:=ok.chg.size;refine HC.go Tryz.func22 25 ?_;refine .seq<|.r<|.z .asS<|.z .asI<|.nil ?_;refine .seq<|.seq<|.r<|.z .mvP<|.k 8 .func (susable_any (G:=G) (r:=(⟨p,lg,w.z,w.in_,many,om,ov,sa,sc,svl,pF,ga⟩:RS G.α)) ok.m0)<|.z .asI<|.nil ?_;refine .seq<|.r<|.z .mvI<|.z .neq<|.nil ?_;refine .cf<|.skip<|.seq<|.seq<|.r<|.z .mvI<|.z .lss<|.z .mvB<|.sd (fun G14=>?_) (fun G14=>?_)
 ·
  refine .y<|.y<|.y<|.y<|.z .pkt<|.nil ?_;refine .ct<|.seq<|.r<|.z .asS<|.z .asI<|.nil ?_;have ok:=ok.nilC (k:=1) (e:=5);refine .ret ⟨.tuple #[.slice none 0 0,.int .i64 1],Res.two rfl rfl rfl,⟨_,_,_,by rw [St.read_no (by omega)];rfl,by rw [St.read_no (by omega)];exact Hp.n1 (ds_close (r':=(⟨p,lg,w.z,w.in_,many,om,ov,sa,sc,svl,pF,ga⟩:RS G.α)) (E':=E) (ok.n4.n4.n4.n4.f1.f1) hf (fun j hj=>.inl (he j hj)) V)⟩⟩
 refine .z .mvI<|.z .mvP<|.k 17 .func (spages_any (G:=G) (r:=(⟨p,lg,w.z,w.in_,many,om,ov,sa,sc,svl,pF,ga⟩:RS G.α)) (i:=w.in_) (m:=many) (k:=(G.sure ga).length) ok.m0 ok.m3 rfl rfl rfl)<|.z .gtr<|.z .pkf<|.nil ?_;refine .cd (fun C1=>?_) (fun C1=>?_)
 ·
  refine .seq<|.r<|.z .asS<|.z .asI<|.nil ?_;have ok:=ok.nilC (k:=1) (e:=5);refine .ret ⟨.tuple #[.slice none 0 0,.int .i64 1],Res.two rfl rfl rfl,⟨_,_,_,by rw [St.read_no (by omega)];rfl,by rw [St.read_no (by omega)];exact Hp.n1 (ds_close (r':=(⟨p,lg,w.z,w.in_,many,om,ov,sa,sc,svl,pF,ga⟩:RS G.α)) (E':=E) (ok.n4.n4.n4.n4.f1.f1) hf (fun j hj=>.inl (he j hj)) V)⟩⟩
 obtain ⟨hbl,hb,h1,h2⟩:=V.page (no:=no) (by omega) (by omega);refine .skip<|.seq<|.r<|.z .mvP<|.z .mvI<|.c' 22 .func (sread_any (G:=G) (r:=(⟨p,lg,w.z,w.in_,many,om,ov,sa,sc,svl,pF,ga⟩:RS G.α)) (E:=E) (no:=no) (b:=(w.pgs.getD (no-1).toNat [])) ((Hp.locL [G.it p pF ga,boxI so 123 [.iface G.tid (.pointer (some ⟨p,0,none⟩)),.pointer lg,.int .i64 (w.z:Int),.bool w.in_,.int .i64 (many:Int),.map om,.slice sa svl.length sc,.bool false],nowI om ov] (ok.n1.n1.n3)).e1) (by omega) (by omega) hb h1 h2) ?_;rintro _ η1 ⟨Fs1,as1,xs1,cs1,rfl,hss1,q⟩;have ok:=Hp.liftL [G.it p pF ga,boxI so 123 [.iface G.tid (.pointer (some ⟨p,0,none⟩)),.pointer lg,.int .i64 (w.z:Int),.bool w.in_,.int .i64 (many:Int),.map om,.slice sa svl.length sc,.bool false],nowI om ov] (ok.n1.n1.n3) q;refine .z .ex<|.z .ex<|.z .asS<|.z .asI<|.nil ?_;refine .ret ⟨.tuple #[.slice xs1 ((w.pgs.getD (no-1).toNat []).length) cs1,.int .i64 0],Res.two rfl rfl rfl,⟨_,_,_,by rw [St.read_ok (by omega) (by omega)];rfl,by rw [St.read_ok (by omega) (by omega)];exact Hp.n1 (ds_close (r':=(⟨p,lg,w.z,w.in_,many,om,ov,sa,sc,svl,Fs1,as1⟩:RS G.α)) (E':=E) (ok.n1.n4.n4.n4.f1.f1) hf (fun j hj=>.inl (he j hj)) (V.pg hss1))⟩⟩
theorem sHead_any {G:Pgr} {h:Heap} {so:Nat} {F:Nat→Prop} {w:St} (ok:Hp h F [dsI G so F w] [] h) :
  HC Tryz.prog 18 #[.pointer (some ⟨so,0,none⟩)] h (fun v h'=>∃F',v=w.head.val∧Hp h F [dsI G so F' w] [] h'):=by
 obtain ⟨r,E,V,ok,hf,he⟩:=ds_open ok;have hzc:=V.zc;have hfew:=V.few;have hnf:=V.nowfew;obtain ⟨p,lg,z,in_,many,om,ov,sa,sc,svl,pF,ga⟩:=r;dsimp only at ok hf;generalize stF G so _=DF at ok hf;obtain rfl:z=w.z:=V.z;obtain rfl:in_=w.in_:=V.in_;have hpgs:(if w.in_=true then many else (G.sure ga).length)=w.pgs.length:=V.pgs;have ok:Hp h DF [boxI so 123 [.iface G.tid (.pointer (some ⟨p,0,none⟩)),.pointer lg,.int .i64 (w.z:Int),.bool w.in_,.int .i64 (many:Int),.map om,.slice sa svl.length sc,.bool false],nowI om ov,capI 2 120 (sa,svl.length,sc) (svl.flatMap RSv.cells),G.it p pF ga] [pbsI E ov,svsI E svl] h:=ok;have hsz0:=ok.chg.size;refine HC.go Tryz.func18 38 ?_;refine .seq<|.r<|.a' 2 (.alA T.zr38 ok) ?_;rintro _ η1 ⟨pb1,rfl,ok,xe⟩;refine .nil ?_;refine .seq<|.seq<|.r<|.z .mvP<|.k 8 .func (susable_any (G:=G) (r:=(⟨p,lg,w.z,w.in_,many,om,ov,sa,sc,svl,pF,ga⟩:RS G.α)) ok.m1)<|.z .neq<|.z .mvB<|.z .mvP<|.k 12 .func (spages_any (G:=G) (r:=(⟨p,lg,w.z,w.in_,many,om,ov,sa,sc,svl,pF,ga⟩:RS G.α)) (i:=w.in_) (m:=many) (k:=(G.sure ga).length) ok.m1 ok.m4 rfl rfl rfl)<|.z .eql<|.z .pkf<|.nil ?_;refine .cd (fun C0=>?_) (fun C0=>?_)
 ·
  refine .seq<|.r<|.z (.bd #[.int .i64 0,.int .i64 0,.int .i64 0,.int .i64 0,.int .i64 0,.int .i64 0] T.zr38 T.pl38 rfl)<|.ur' (.stW (vs:=[.int .i64 0,.int .i64 0,.int .i64 0,.int .i64 0,.int .i64 0,.int .i64 0]) T.sz38 ok (oneL rfl)) ?_;rintro η2 ⟨ok,cg⟩;refine .nil ?_;refine .ret ⟨.agg #[.int .i64 0,.int .i64 0,.int .i64 0,.int .i64 0,.int .i64 0,.int .i64 0],Res.many (vs:=[.agg #[.int .i64 0,.int .i64 0,.int .i64 0,.int .i64 0,.int .i64 0,.int .i64 0]]) rfl ⟨⟨_,rfl,load_ag T.ag38 ok.m0 T.sz38⟩,trivial⟩ rfl,⟨_,by rw [St.head_0 (by omega)];rfl,(ds_close (r':=(⟨p,lg,w.z,w.in_,many,om,ov,sa,sc,svl,pF,ga⟩:RS G.α)) (E':=E) (ok.n4.n4.n4.n4.f1.f1.k4) hf (fun j hj=>.inl (he j hj)) V)⟩⟩
 obtain ⟨hbl,hb,h1,h2⟩:=V.page (no:=1) (by omega) (by omega);refine .skip<|.seq<|.r<|.z .mvP<|.c' 18 .func (sread_any (G:=G) (r:=(⟨p,lg,w.z,w.in_,many,om,ov,sa,sc,svl,pF,ga⟩:RS G.α)) (E:=E) (no:=1) (b:=(w.pgs.getD 0 [])) ((Hp.locL [G.it p pF ga,boxI so 123 [.iface G.tid (.pointer (some ⟨p,0,none⟩)),.pointer lg,.int .i64 (w.z:Int),.bool w.in_,.int .i64 (many:Int),.map om,.slice sa svl.length sc,.bool false],nowI om ov] (ok.n2.n2.n4)).e1) (by omega) (show (w.pgs.getD 0 []).length≤1000000 from Nat.le_trans (Nat.le_of_eq hbl) (by omega)) hb h1 h2) ?_;rintro _ η3 ⟨Fs1,as1,xs1,cs1,rfl,hss1,q⟩;have ok:=Hp.liftL [G.it p pF ga,boxI so 123 [.iface G.tid (.pointer (some ⟨p,0,none⟩)),.pointer lg,.int .i64 (w.z:Int),.bool w.in_,.int .i64 (many:Int),.map om,.slice sa svl.length sc,.bool false],nowI om ov] (ok.n2.n2.n4) q;refine .z .mvU<|.z .ex<|.z .ex<|.z .asS<|.z .asI<|.nil ?_;refine .seq<|.seq<|.r<|.z .mvI<|.z .neq<|.nil ?_;refine .cf<|.skip<|.seq<|.r<|.z .mvS<|.c' 26 .func (dec_any (a:=xs1) (c:=cs1) (l:=(w.pgs.getD 0 [])) (RdL.ofCapB (v:=(xs1,(w.pgs.getD 0 []).length,cs1)) (l:=(w.pgs.getD 0 [])) ok.m0)) ?_;rintro _ η4 ⟨rfl,hx⟩;rw [show (decN (w.pgs.getD 0 [])).1.val=.agg #[.int .i64 (decN (w.pgs.getD 0 [])).1.size,.int .i64 (decN (w.pgs.getD 0 [])).1.pages,.int .i64 (decN (w.pgs.getD 0 [])).1.free,.int .i64 (decN (w.pgs.getD 0 [])).1.many,.int .i64 (decN (w.pgs.getD 0 [])).1.cookie,.int .i64 (decN (w.pgs.getD 0 [])).1.version] from rfl];have ok:=ok.ext hx;refine .z .mvU<|.z .ex<|.z .ex<|.a' 5 (.alA T.zr38 ok) ?_;rintro _ η5 ⟨pb2,rfl,ok,xe⟩;refine .ur' (.stW (vs:=[.int .i64 ((decN (w.pgs.getD 0 [])).1.size),.int .i64 ((decN (w.pgs.getD 0 [])).1.pages),.int .i64 ((decN (w.pgs.getD 0 [])).1.free),.int .i64 ((decN (w.pgs.getD 0 [])).1.many),.int .i64 ((decN (w.pgs.getD 0 [])).1.cookie),.int .i64 ((decN (w.pgs.getD 0 [])).1.version)]) T.sz38 ok (oneL rfl)) ?_;rintro η6 ⟨ok,cg⟩;refine .z .asI<|.nil ?_;refine .seq<|.a 7 (fun fl hh=>cond fl True (Hp h DF [boxI pb2 38 [.int .i64 ((decN (w.pgs.getD 0 [])).1.size),.int .i64 ((decN (w.pgs.getD 0 [])).1.pages),.int .i64 ((decN (w.pgs.getD 0 [])).1.free),.int .i64 ((decN (w.pgs.getD 0 [])).1.many),.int .i64 ((decN (w.pgs.getD 0 [])).1.cookie),.int .i64 ((decN (w.pgs.getD 0 [])).1.version)],capI 1 5 (xs1,(w.pgs.getD 0 []).length,cs1) ((w.pgs.getD 0 []).map bv),G.it p Fs1 as1,boxI so 123 [.iface G.tid (.pointer (some ⟨p,0,none⟩)),.pointer lg,.int .i64 (w.z:Int),.bool w.in_,.int .i64 (many:Int),.map om,.slice sa svl.length sc,.bool false],nowI om ov,boxI pb1 38 [.int .i64 0,.int .i64 0,.int .i64 0,.int .i64 0,.int .i64 0,.int .i64 0],capI 2 120 (sa,svl.length,sc) (svl.flatMap RSv.cells)] [pbsI E ov,svsI E svl] hh)) mixed ?_;have hS:=ok;refine .g 0 false rfl 29 hS (fun _=>.mvP)<|.g 1 false rfl 30 hS (fun _=>.nil)<|.g 2 false rfl 31 hS (fun _=>.fa T.fd123_2)<|.l 3 false rfl 32 hS (fun _ hS=>.ldx T.ag3 hS.m3)<|.g 4 false rfl 33 hS (fun _=>.mvP)<|.g 6 false rfl 35 hS (fun _=>.fa T.fd38_0)<|.o1 5<|.k false rfl 34 .func (spages_any (G:=G) (r:=(⟨p,lg,w.z,w.in_,many,om,ov,sa,sc,svl,Fs1,as1⟩:RS G.α)) (i:=w.in_) (m:=many) (k:=(G.sure as1).length) ok.m3 ok.m2 rfl rfl rfl) hS<|.o1 7<|.ur' true rfl (.stI T.sz3 ok) ?_;rintro η7 ⟨ok,cg⟩;refine ⟨trivial,?_⟩;refine .g 8 true rfl 36 trivial (fun _=>.fa T.fd38_1)<|.o1 9<|.ur' true rfl (.stI T.sz3 ok) ?_;rintro η8 ⟨ok,cg⟩;refine ⟨trivial,?_⟩;refine .e ?_;refine .seq<|.r<|.z (.ldb T.ag38 ok.m0 T.sz38)<|.ur' (.stW (vs:=[.int .i64 (w.z:Int),.int .i64 (((if w.in_=true then many else (G.sure as1).length):Nat):Int),.int .i64 ((decN (w.pgs.getD 0 [])).1.free),.int .i64 ((decN (w.pgs.getD 0 [])).1.many),.int .i64 ((decN (w.pgs.getD 0 [])).1.cookie),.int .i64 ((decN (w.pgs.getD 0 [])).1.version)]) T.sz38 ok.n5 (oneL rfl)) ?_;rintro η9 ⟨ok,cg⟩;refine .nil ?_;refine .ret ⟨.agg #[.int .i64 (w.z:Int),.int .i64 (((if w.in_=true then many else (G.sure as1).length):Nat):Int),.int .i64 ((decN (w.pgs.getD 0 [])).1.free),.int .i64 ((decN (w.pgs.getD 0 [])).1.many),.int .i64 ((decN (w.pgs.getD 0 [])).1.cookie),.int .i64 ((decN (w.pgs.getD 0 [])).1.version)],Res.many (vs:=[.agg #[.int .i64 (w.z:Int),.int .i64 (((if w.in_=true then many else (G.sure as1).length):Nat):Int),.int .i64 ((decN (w.pgs.getD 0 [])).1.free),.int .i64 ((decN (w.pgs.getD 0 [])).1.many),.int .i64 ((decN (w.pgs.getD 0 [])).1.cookie),.int .i64 ((decN (w.pgs.getD 0 [])).1.version)]]) rfl ⟨⟨_,rfl,load_ag T.ag38 ok.m0 T.sz38⟩,trivial⟩ rfl,⟨_,by rw [St.head_n (by omega),hss1,hpgs];rfl,(ds_close (r':=(⟨p,lg,w.z,w.in_,many,om,ov,sa,sc,svl,Fs1,as1⟩:RS G.α)) (E':=E) (ok.n3.n6.n6.n6.f1.f1.k4) hf (fun j hj=>.inl (he j hj)) (V.pg hss1))⟩⟩
theorem sBegin_any {G:Pgr} {h:Heap} {so:Nat} {F:Nat→Prop} {w:St} (ok:Hp h F [dsI G so F w] [] h) :
  HC Tryz.prog 45 #[.pointer (some ⟨so,0,none⟩)] h (fun v h'=>∃F',v=.int .i64 ((w.begin_).2:Int)∧Hp h F [dsI G so F' (w.begin_).1] [] h'):=by
 obtain ⟨r,E,V,ok,hf,he⟩:=ds_open ok;have hzc:=V.zc;have hfew:=V.few;have hnf:=V.nowfew;obtain ⟨p,lg,z,in_,many,om,ov,sa,sc,svl,pF,ga⟩:=r;dsimp only at ok hf;generalize stF G so _=DF at ok hf;obtain rfl:z=w.z:=V.z;obtain rfl:in_=w.in_:=V.in_;have hpgs:(if w.in_=true then many else (G.sure ga).length)=w.pgs.length:=V.pgs;have ok:Hp h DF [boxI so 123 [.iface G.tid (.pointer (some ⟨p,0,none⟩)),.pointer lg,.int .i64 (w.z:Int),.bool w.in_,.int .i64 (many:Int),.map om,.slice sa svl.length sc,.bool false],nowI om ov,capI 2 120 (sa,svl.length,sc) (svl.flatMap RSv.cells),G.it p pF ga] [pbsI E ov,svsI E svl] h:=ok;have hsz0:=ok.chg.size;refine HC.go Tryz.func45 26 ?_;refine .seq<|.r<|.z .asI<|.nil ?_;refine .seq<|.seq<|.r<|.z .mvP<|.k 5 .func (susable_any (G:=G) (r:=(⟨p,lg,w.z,w.in_,many,om,ov,sa,sc,svl,pF,ga⟩:RS G.α)) ok.m0)<|.z .asI<|.nil ?_;refine .seq<|.r<|.z .mvI<|.z .neq<|.nil ?_;refine .cf<|.skip<|.seq<|.seq<|.r<|.z .mvP<|.z .nil<|.z (.fa T.fd123_3)<|.z (.ldx T.ag4 ok.m0)<|.nil ?_;refine .cond (fun C1=>?_) (fun C1=>?_)
 ·
  refine .seq<|.r<|.z .asI<|.nil ?_;refine .ret ⟨.int .i64 10,Res.one rfl rfl,⟨_,by rw [St.begin_10 C1];rfl,by rw [St.begin_10 C1];exact (ds_close (r':=(⟨p,lg,w.z,w.in_,many,om,ov,sa,sc,svl,pF,ga⟩:RS G.α)) (E':=E) (ok.f1.f1) hf (fun j hj=>.inl (he j hj)) V)⟩⟩
 refine .skip<|.seq<|.r<|.z .mvP<|.z .mvP<|.z .mvP<|.z .nil<|.z (.fa T.fd123_0)<|.z (.ldx T.ag116 ok.m0)<|.k 19 (.inv (G.mPages _)) (G.cPages (F:=pF) (a:=ga) ok.m3)<|.a' 20 (.mkm (Value.int .i64) ok) ?_;rintro _ η1 ⟨mb1,rfl,ok⟩;refine .z (.bd #[.int .i64 ((G.sure ga).length:Int),.map (some mb1)] T.zr120 T.pl120 rfl)<|.z .nil<|.z (.fa T.fd123_3)<|.ur' (.stB T.sz4 ok.n1) ?_;rintro η2 ⟨ok,cg⟩;refine .z .nil<|.z (.fa T.fd123_4)<|.ur' (.stA (vs:=[.int .i64 ((G.sure ga).length:Int),.map (some mb1)]) T.sz120 ok (oneL rfl)) ?_;rintro η3 ⟨ok,cg⟩;refine .nil ?_;refine .seq<|.r<|.z .asI<|.nil ?_;have ok:=Hp.pbsNil (ok);refine .ret ⟨.int .i64 0,Res.one rfl rfl,⟨_,by rw [St.begin_0 (by simpa using C1)];rfl,by rw [St.begin_0 (by simpa using C1)];exact (ds_close (r':=(⟨p,lg,w.z,true,(G.sure ga).length,(some mb1),[],sa,sc,svl,pF,ga⟩:RS G.α)) (E':=E) (ok.n4.n4.n3.n3.f1.f1.k4) hf (fun j hj=>.inl (he j hj)) (V.begin (by simpa using C1)))⟩⟩
theorem send_any {G:Pgr} {h:Heap} {so:Nat} {r:RS G.α} (ok:Hp h (sboxI G so r).F [sboxI G so r] [] h) :
  HC Tryz.prog 103 #[.pointer (some ⟨so,0,none⟩)] h (fun v h'=>v=.tuple #[]∧Hp h (sboxI G so r).F [sboxI G so { r with in_:=false,many:=0,om:=none,ov:=[],sa:=none,sc:=0,sv:=[] }] [] h'):=by
 refine HC.go Tryz.func103 12 ?_;refine .r<|.z .mvP<|.z .mvP<|.z .mvP<|.z (.bd #[.int .i64 0,.map none] T.zr120 T.pl120 rfl)<|.z .nil<|.z (.fa T.fd123_3)<|.ur' (.stB T.sz4 ok) ?_;rintro η1 ⟨ok,cg⟩;refine .z .nil<|.z (.fa T.fd123_4)<|.ur' (.stA (vs:=[.int .i64 0,.map none]) T.sz120 ok (oneL rfl)) ?_;rintro η2 ⟨ok,cg⟩;refine .z .nil<|.z (.fa T.fd123_5)<|.ur' (.stS T.sz121 ok) ?_;rintro η3 ⟨ok,cg⟩;refine .nil ?_;refine .end<|⟨.tuple #[],Res.none rfl,⟨rfl,ok⟩⟩
theorem sRollback_any {G:Pgr} {h:Heap} {so:Nat} {F:Nat→Prop} {w:St} (ok:Hp h F [dsI G so F w] [] h) :
  HC Tryz.prog 51 #[.pointer (some ⟨so,0,none⟩)] h (fun v h'=>∃F',v=.int .i64 ((w.rollback).2:Int)∧Hp h F [dsI G so F' (w.rollback).1] [] h'):=by
 obtain ⟨r,E,V,ok,hf,he⟩:=ds_open ok;have hzc:=V.zc;have hfew:=V.few;have hnf:=V.nowfew;obtain ⟨p,lg,z,in_,many,om,ov,sa,sc,svl,pF,ga⟩:=r;dsimp only at ok hf;generalize stF G so _=DF at ok hf;obtain rfl:z=w.z:=V.z;obtain rfl:in_=w.in_:=V.in_;have hpgs:(if w.in_=true then many else (G.sure ga).length)=w.pgs.length:=V.pgs;have ok:Hp h DF [boxI so 123 [.iface G.tid (.pointer (some ⟨p,0,none⟩)),.pointer lg,.int .i64 (w.z:Int),.bool w.in_,.int .i64 (many:Int),.map om,.slice sa svl.length sc,.bool false],nowI om ov,capI 2 120 (sa,svl.length,sc) (svl.flatMap RSv.cells),G.it p pF ga] [pbsI E ov,svsI E svl] h:=ok;have hsz0:=ok.chg.size;refine HC.go Tryz.func51 11 ?_;refine .seq<|.r<|.z .asI<|.nil ?_;refine .seq<|.seq<|.r<|.z .mvP<|.k 5 .func (swithin_any (G:=G) (r:=(⟨p,lg,w.z,w.in_,many,om,ov,sa,sc,svl,pF,ga⟩:RS G.α)) (i:=w.in_) ok.m0 rfl)<|.z .asI<|.nil ?_;refine .seq<|.r<|.z .mvI<|.z .neq<|.nil ?_;refine .cd (fun C0=>?_) (fun C0=>?_)
 ·
  have hw:w.in_=false:=wthE_y C0;refine .seq<|.r<|.z .mvI<|.z .asI<|.nil ?_;refine .ret ⟨.int .i64 ((wthE w.in_):Int),Res.one rfl rfl,⟨_,by rw [St.rollback_10 hw,wthE_f (by rw [hw];decide)],by rw [St.rollback_10 hw];exact (ds_close (r':=(⟨p,lg,w.z,w.in_,many,om,ov,sa,sc,svl,pF,ga⟩:RS G.α)) (E':=E) (ok.f1.f1) hf (fun j hj=>.inl (he j hj)) V)⟩⟩
 have hw:w.in_=true:=wthE_n C0;have hmany:many=w.now.length:=V.many hw;refine .skip<|.seq<|.r<|.z .mvP<|.c' 10 .func (send_any (G:=G) (r:=(⟨p,lg,w.z,w.in_,many,om,ov,sa,sc,svl,pF,ga⟩:RS G.α)) (ok).loc0) ?_;rintro _ η1 ⟨rfl,q⟩;have ok:=(ok).lift1 q;have ok:=(ok.nowNil (bs:=[])).nilC (k:=2) (e:=120);have ok:=Hp.pbsNil (ok);have ok:=Hp.svsNil (ok.f1);refine .nil ?_;refine .seq<|.r<|.z .asI<|.nil ?_;refine .ret ⟨.int .i64 0,Res.one rfl rfl,⟨_,by rw [St.rollback_0 hw];rfl,by rw [St.rollback_0 hw];exact (ds_close (r':=(⟨p,lg,w.z,false,0,none,[],none,0,([]:List RSv),pF,ga⟩:RS G.α)) (E':=E) (ok.n5.n1.n2.n3.f1.k4) hf (fun j hj=>.inl (he j hj)) V.endS)⟩⟩
theorem sSetHead_any {G:Pgr} {h:Heap} {so:Nat} {F:Nat→Prop} {w:St} {H:Hd} (ok:Hp h F [dsI G so F w] [] h) (hr:HdIn H) :
  HC Tryz.prog 46 #[.pointer (some ⟨so,0,none⟩),H.val] h (fun v h'=>∃F',v=.int .i64 ((w.setHead H).2:Int)∧Hp h F [dsI G so F' (w.setHead H).1] [] h'):=by
 obtain ⟨r,E,V,ok,hf,he⟩:=ds_open ok;have hzc:=V.zc;have hfew:=V.few;have hnf:=V.nowfew;obtain ⟨p,lg,z,in_,many,om,ov,sa,sc,svl,pF,ga⟩:=r;dsimp only at ok hf;generalize stF G so _=DF at ok hf;obtain rfl:z=w.z:=V.z;obtain rfl:in_=w.in_:=V.in_;have hpgs:(if w.in_=true then many else (G.sure ga).length)=w.pgs.length:=V.pgs;have ok:Hp h DF [boxI so 123 [.iface G.tid (.pointer (some ⟨p,0,none⟩)),.pointer lg,.int .i64 (w.z:Int),.bool w.in_,.int .i64 (many:Int),.map om,.slice sa svl.length sc,.bool false],nowI om ov,capI 2 120 (sa,svl.length,sc) (svl.flatMap RSv.cells),G.it p pF ga] [pbsI E ov,svsI E svl] h:=ok;have hsz0:=ok.chg.size;refine HC.go Tryz.func46 59 ?_;refine .seq<|.r<|.a' 3 (.bxA (cs:=[.int .i64 H.size,.int .i64 H.pages,.int .i64 H.free,.int .i64 H.many,.int .i64 H.cookie,.int .i64 H.version]) ok) ?_;rintro _ η1 ⟨pb1,rfl,ok,xe⟩;refine .z .asI<|.nil ?_;refine .seq<|.seq<|.r<|.z .mvP<|.k 9 .func (swithin_any (G:=G) (r:=(⟨p,lg,w.z,w.in_,many,om,ov,sa,sc,svl,pF,ga⟩:RS G.α)) (i:=w.in_) ok.m1 rfl)<|.z .asI<|.nil ?_;refine .seq<|.r<|.z .mvI<|.z .neq<|.nil ?_;refine .cd (fun C0=>?_) (fun C0=>?_)
 ·
  have hw:w.in_=false:=wthE_y C0;refine .seq<|.r<|.z .mvI<|.z .asI<|.nil ?_;refine .ret ⟨.int .i64 ((wthE w.in_):Int),Res.one rfl rfl,⟨_,by rw [St.setHead_10 hw,wthE_f (by rw [hw];decide)],by rw [St.setHead_10 hw];exact (ds_close (r':=(⟨p,lg,w.z,w.in_,many,om,ov,sa,sc,svl,pF,ga⟩:RS G.α)) (E':=E) (ok.n4.n4.n4.n4.f1.f1.k4) hf (fun j hj=>.inl (he j hj)) V)⟩⟩
 have hw:w.in_=true:=wthE_n C0;have hmany:many=w.now.length:=V.many hw;refine .skip<|.seq<|.r<|.z (.ldb T.ag38 ok.m0 T.sz38)<|.c' 15 .func (encN_any (H:=H) hr) ?_;rintro _ η2 (⟨hck,rfl,hx⟩ | ⟨hck,yw,rfl,own⟩)
 ·
  have ok:=ok.ext hx;refine .z .mvU<|.z .ex<|.z .ex<|.z .asS<|.z .asI<|.nil ?_;refine .seq<|.seq<|.q (hm:=mixed)<|.z .mvI<|.z .neq<|.z .mvB<|.y<|.y<|.y<|.y<|.y<|.y<|.y<|.z .pkt<|.z .mvB<|.y<|.y<|.y<|.y<|.y<|.y<|.y<|.y<|.y<|.z .pkt<|.nil ?_;refine .ct<|.seq<|.r<|.z .asI<|.nil ?_;refine .ret ⟨.int .i64 1,Res.one rfl rfl,⟨_,by rw [St.setHead_1 hw (by first | exact .inl hck | exact .inr (.inl (by omega)) | exact .inr (.inr (by omega)))];rfl,by rw [St.setHead_1 hw (by first | exact .inl hck | exact .inr (.inl (by omega)) | exact .inr (.inr (by omega)))];exact (ds_close (r':=(⟨p,lg,w.z,w.in_,many,om,ov,sa,sc,svl,pF,ga⟩:RS G.α)) (E':=E) (ok.n4.n4.n4.n4.f1.f1.k4) hf (fun j hj=>.inl (he j hj)) V)⟩⟩
 obtain ⟨ya1,yc1,rfl⟩:=own.formB;have ok:=ok.own own;refine .z .mvU<|.z .ex<|.z .ex<|.z .asS<|.z .asI<|.nil ?_;refine .seq<|.seq<|.q (hm:=mixed)<|.z .mvI<|.z .neq<|.z .mvB<|.z (.fa T.fd38_0)<|.z (.ldx T.ag3 ok.m1)<|.z .mvP<|.z .nil<|.z (.fa T.fd123_2)<|.z (.ldx T.ag3 ok.m2)<|.z .neq<|.z .pkf<|.z .mvB<|.sd (fun G29=>?_) (fun G29=>?_)
 ·
  refine .y<|.y<|.y<|.y<|.y<|.y<|.y<|.y<|.y<|.z .pkt<|.nil ?_;refine .ct<|.seq<|.r<|.z .asI<|.nil ?_;refine .ret ⟨.int .i64 1,Res.one rfl rfl,⟨_,by rw [St.setHead_1 hw (by first | exact .inl hck | exact .inr (.inl (by omega)) | exact .inr (.inr (by omega)))];rfl,by rw [St.setHead_1 hw (by first | exact .inl hck | exact .inr (.inl (by omega)) | exact .inr (.inr (by omega)))];exact (ds_close (r':=(⟨p,lg,w.z,w.in_,many,om,ov,sa,sc,svl,pF,ga⟩:RS G.α)) (E':=E) (ok.n5.n5.n5.n5.f1.f1.k4) hf (fun j hj=>.inl (he j hj)) V)⟩⟩
 refine .z (.fa T.fd38_1)<|.z (.ldx T.ag3 ok.m1)<|.z .mvP<|.z .nil<|.z (.fa T.fd123_4)<|.z (.fa T.fd120_0)<|.z (.ldx T.ag3 ok.m2)<|.z .max2<|.z .gtr<|.z .pkf<|.nil ?_;refine .cd (fun C1=>?_) (fun C1=>?_)
 ·
  refine .seq<|.r<|.z .asI<|.nil ?_;refine .ret ⟨.int .i64 1,Res.one rfl rfl,⟨_,by rw [St.setHead_1 hw (by first | exact .inl hck | exact .inr (.inl (by omega)) | exact .inr (.inr (by omega)))];rfl,by rw [St.setHead_1 hw (by first | exact .inl hck | exact .inr (.inl (by omega)) | exact .inr (.inr (by omega)))];exact (ds_close (r':=(⟨p,lg,w.z,w.in_,many,om,ov,sa,sc,svl,pF,ga⟩:RS G.α)) (E':=E) (ok.n5.n5.n5.n5.f1.f1.k4) hf (fun j hj=>.inl (he j hj)) V)⟩⟩
 obtain ⟨n,hn⟩:∃n:Nat,H.pages=(n:Int):=⟨H.pages.toNat,by have:=hck.2.1.1;omega⟩;rw [hn] at ok⊢;obtain ⟨mb,rfl⟩:=(V.now hw).1;have ok:=Hp.nowSome (ok.n3);refine .skip<|.seq<|.a 13 (fun fl hh=>cell hh so 2=some (.int .i64 (w.z:Int))) mixed ?_;have hS:=(at_box (o:=2) ok.m3 rfl:cell _ so 2=some (.int .i64 (w.z:Int)));refine .g 0 false rfl 40 hS (fun _=>.mvP)<|.g 1 false rfl 41 hS (fun _=>.nil)<|.g 2 false rfl 42 hS (fun _=>.fa T.fd123_4)<|.g 3 false rfl 43 hS (fun _=>.mvS)<|.g 4 false rfl 44 hS (fun _=>.mvP)<|.g 5 false rfl 45 hS (fun _=>.nil)<|.g 6 false rfl 46 hS (fun _=>.fa T.fd123_2)<|.lw 7 false rfl 47 hS (fun _ _ hS=>.ld T.ag3 hS)<|.g 8 false rfl 48 hS (fun _=>.mvS)<|.g 9 false rfl 49 hS (fun _=>.len T.el44)<|.g 10 false rfl 50 hS (fun _=>.sub (hr:=(by rw [enc_len];omega)))<|.o1 11<|.a' false rfl 51 (.apz (z:=((w.z:Int)-(((H.enc).length:Nat):Int))) (w.z-64) T.el44 T.in3 T.sz5 T.by5 T.zr5 ok.n1 (by rw [enc_len];omega) (by rw [enc_len];omega)) ?_;rintro _ η3 ⟨ya2,yc2,rfl,ok⟩;refine ⟨(at_box (o:=2) ok.m3 rfl:cell _ so 2=some (.int .i64 (w.z:Int))),?_⟩;have hS:=(at_box (o:=2) ok.m3 rfl:cell _ so 2=some (.int .i64 (w.z:Int)));refine .o1 12<|.c' false rfl 52 .func (sput_any (G:=G) (r:=(⟨p,lg,w.z,w.in_,many,(some mb),ov,sa,sc,svl,pF,ga⟩:RS G.α)) (mb:=mb) (a:=ya2) (c:=yc2) (l:=((H.enc)++List.replicate (w.z-64) 0)) (no:=1) (Hp.locL [boxI so 123 [.iface G.tid (.pointer (some ⟨p,0,none⟩)),.pointer lg,.int .i64 (w.z:Int),.bool w.in_,.int .i64 (many:Int),.map (some mb),.slice sa svl.length sc,.bool false],mapI (Value.int .i64) mb (bsE ov)] (ok.n1.n3)).e0 (by rfl)) ?_;rintro _ η4 ⟨rfl,q⟩;have ok:=Hp.liftL [boxI so 123 [.iface G.tid (.pointer (some ⟨p,0,none⟩)),.pointer lg,.int .i64 (w.z:Int),.bool w.in_,.int .i64 (many:Int),.map (some mb),.slice sa svl.length sc,.bool false],mapI (Value.int .i64) mb (bsE ov)] (ok.n1.n3) q;have hnb:=Hp.putNew (ok.n2) hf;have ok:=Hp.pbsPut (k:=(1:Int)) (ok.n2);have ok:=ok.d0 (svsI (fun j=>E j∨blkC (sv (ya2,((H.enc)++List.replicate (w.z-64) 0).length,yc2)) j) svl) (Svs.mono (E:=E) (E':=(fun j=>E j∨blkC (sv (ya2,((H.enc)++List.replicate (w.z-64) 0).length,yc2)) j)) (fun j h=>Or.inl h) ok.r1) (fun _ h=>h);refine ⟨(at_box (o:=2) ok.m0 rfl:cell _ so 2=some (.int .i64 (w.z:Int))),?_⟩;have hS:=(at_box (o:=2) ok.m0 rfl:cell _ so 2=some (.int .i64 (w.z:Int)));refine .e ?_;refine .seq<|.t 5 mixed ?_;simp only [List.take_succ_cons,List.take_zero,List.drop_succ_cons,List.drop_zero];refine .z .mvP<|.z .nil<|.z (.fa T.fd123_4)<|.z (.fa T.fd38_1)<|.z (.ldx T.ag3 ok.m2)<|.nil ?_;refine .c' 58 .func (scut_any (G:=G) (r:=(⟨p,lg,w.z,w.in_,(max many 1),(some mb),(mput ov (1:Int) ⟨ya2,yc2,((H.enc)++List.replicate (w.z-64) 0)⟩),sa,sc,svl,pF,ga⟩:RS G.α)) (mb:=mb) (n:=n) (Hp.locL [boxI so 123 [.iface G.tid (.pointer (some ⟨p,0,none⟩)),.pointer lg,.int .i64 (w.z:Int),.bool w.in_,.int .i64 ((max many 1:Nat):Int),.map (some mb),.slice sa svl.length sc,.bool false],mapI (Value.int .i64) mb (bsE (mput ov (1:Int) ⟨ya2,yc2,((H.enc)++List.replicate (w.z-64) 0)⟩))] (ok)).e0 (by rfl)) ?_;rintro _ η5 ⟨rfl,q⟩;have ok:=Hp.liftL [boxI so 123 [.iface G.tid (.pointer (some ⟨p,0,none⟩)),.pointer lg,.int .i64 (w.z:Int),.bool w.in_,.int .i64 ((max many 1:Nat):Int),.map (some mb),.slice sa svl.length sc,.bool false],mapI (Value.int .i64) mb (bsE (mput ov (1:Int) ⟨ya2,yc2,((H.enc)++List.replicate (w.z-64) 0)⟩))] (ok) q;have ok:=ok.d1 (pbsI (fun j=>E j∨blkC (sv (ya2,((H.enc)++List.replicate (w.z-64) 0).length,yc2)) j) (((mput ov (1:Int) ⟨ya2,yc2,((H.enc)++List.replicate (w.z-64) 0)⟩)).filter fun p=>decide (p.1≤(n:Int)))) (Pbs.filt ok.r1) (fun _ h=>h);refine .nil ?_;refine .seq<|.r<|.z .asI<|.nil ?_;have hno:¬(¬ChkP H∨H.size≠(w.z:Int)∨max 1 (w.now.length:Int)<H.pages):=by rintro (h | h | h);exact h hck;exact h (by omega);omega
 refine .ret ⟨.int .i64 0,Res.one rfl rfl,⟨_,by rw [St.setHead_0 hw hno hn];rfl,by rw [St.setHead_0 hw hno hn];exact (ds_close (r':=(⟨p,lg,w.z,w.in_,n,(some mb),(((mput ov (1:Int) ⟨ya2,yc2,((H.enc)++List.replicate (w.z-64) 0)⟩)).filter fun p=>decide (p.1≤(n:Int))),sa,sc,svl,pF,ga⟩:RS G.α)) (E':=(fun j=>E j∨blkC (sv (ya2,((H.enc)++List.replicate (w.z-64) 0).length,yc2)) j)) (ok.n4.n4.n3.n3.f1.f1.k4) hf (fun j hj=>hj.elim (fun hj=>.inl (he j hj)) (hnb j)) (V.setHead hw (x:=⟨ya2,yc2,((H.enc)++List.replicate (w.z-64) 0)⟩) hck (by omega) hn (by omega) rfl))⟩⟩
theorem sWrite_any {G:Pgr} {h:Heap} {so:Nat} {F:Nat→Prop} {w:St} {no:Int} {a:Option Addr} {c:Nat} {l:List UInt8} {F2 E2:Nat→Prop} (ok:Hp h F [dsI G so F w] [rdI F2 E2 (a,l.length,c) l] h) (hl:l.length≤1000000000) :
  HC Tryz.prog 29 #[.pointer (some ⟨so,0,none⟩),.int .i64 no,.slice a l.length c] h (fun v h'=>∃F',v=.int .i64 ((w.write no l).2:Int)∧Hp h F [dsI G so F' (w.write no l).1] [] h'):=by
 obtain ⟨r,E,V,ok,hf,he⟩:=ds_open ok;have hzc:=V.zc;have hfew:=V.few;have hnf:=V.nowfew;obtain ⟨p,lg,z,in_,many,om,ov,sa,sc,svl,pF,ga⟩:=r;dsimp only at ok hf;generalize stF G so _=DF at ok hf;obtain rfl:z=w.z:=V.z;obtain rfl:in_=w.in_:=V.in_;have hpgs:(if w.in_=true then many else (G.sure ga).length)=w.pgs.length:=V.pgs;have ok:Hp h DF [boxI so 123 [.iface G.tid (.pointer (some ⟨p,0,none⟩)),.pointer lg,.int .i64 (w.z:Int),.bool w.in_,.int .i64 (many:Int),.map om,.slice sa svl.length sc,.bool false],nowI om ov,capI 2 120 (sa,svl.length,sc) (svl.flatMap RSv.cells),G.it p pF ga] [pbsI E ov,svsI E svl,rdI F2 E2 (a,l.length,c) l] h:=ok;have hsz0:=ok.chg.size;have hlc:=ok.r2.c;have hlm:=ok.r2.m;simp only at hlc hlm;refine HC.go Tryz.func29 62 ?_;refine .seq<|.r<|.z .asI<|.nil ?_;refine .seq<|.seq<|.r<|.z .mvP<|.k 9 .func (swithin_any (G:=G) (r:=(⟨p,lg,w.z,w.in_,many,om,ov,sa,sc,svl,pF,ga⟩:RS G.α)) (i:=w.in_) ok.m0 rfl)<|.z .asI<|.nil ?_;refine .seq<|.r<|.z .mvI<|.z .neq<|.nil ?_;refine .cd (fun C0=>?_) (fun C0=>?_)
 ·
  have hw:w.in_=false:=wthE_y C0;refine .seq<|.r<|.z .mvI<|.z .asI<|.nil ?_;refine .ret ⟨.int .i64 ((wthE w.in_):Int),Res.one rfl rfl,⟨_,by rw [St.write_10 hw,wthE_f (by rw [hw];decide)],by rw [St.write_10 hw];exact (ds_close (r':=(⟨p,lg,w.z,w.in_,many,om,ov,sa,sc,svl,pF,ga⟩:RS G.α)) (E':=E) (ok.f1.f1) hf (fun j hj=>.inl (he j hj)) V)⟩⟩
 have hw:w.in_=true:=wthE_n C0;have hmany:many=w.now.length:=V.many hw;refine .skip<|.seq<|.block fun K0 hK0=>.seq<|.r<|.z .mvI<|.z .lss<|.z .mvB<|.sd (fun G16=>?_) (fun G16=>?_)
 ·
  refine .y<|.y<|.y<|.y<|.y<|.y<|.z .pkt<|.z .mvB<|.y<|.y<|.y<|.y<|.y<|.y<|.y<|.y<|.z .pkt<|.z .mvB<|.y<|.y<|.y<|.y<|.y<|.y<|.y<|.z .pkt<|.z .asB<|.nil ?_;refine .ct<|.seq<|.r<|.z .asI<|.nil ?_;have hbad:no<2∨(w.now.length:Int)+1<no∨w.now=[]∨l.length≠w.z:=by
   first
   | exact .inl (by omega)
   | exact .inr (.inl (by omega))
   | exact .inr (.inr (.inl (List.eq_nil_of_length_eq_zero (by omega))))
   | exact .inr (.inr (.inr (by omega)))
  refine .ret ⟨.int .i64 1,Res.one rfl rfl,⟨_,by rw [St.write_1 hw hbad];rfl,by rw [St.write_1 hw hbad];exact (ds_close (r':=(⟨p,lg,w.z,w.in_,many,om,ov,sa,sc,svl,pF,ga⟩:RS G.α)) (E':=E) (ok.f1.f1) hf (fun j hj=>.inl (he j hj)) V)⟩⟩
 refine .z .mvP<|.z .nil<|.z (.fa T.fd123_4)<|.z (.fa T.fd120_0)<|.z (.ldx T.ag3 ok.m0)<|.z .lss<|.z .pkf<|.z .mvB<|.sd (fun G24=>?_) (fun G24=>?_)
 ·
  refine .y<|.y<|.y<|.y<|.y<|.y<|.y<|.y<|.z .pkt<|.z .mvB<|.y<|.y<|.y<|.y<|.y<|.y<|.y<|.z .pkt<|.z .asB<|.nil ?_;refine .ct<|.seq<|.r<|.z .asI<|.nil ?_;have hbad:no<2∨(w.now.length:Int)+1<no∨w.now=[]∨l.length≠w.z:=by
   first
   | exact .inl (by omega)
   | exact .inr (.inl (by omega))
   | exact .inr (.inr (.inl (List.eq_nil_of_length_eq_zero (by omega))))
   | exact .inr (.inr (.inr (by omega)))
  refine .ret ⟨.int .i64 1,Res.one rfl rfl,⟨_,by rw [St.write_1 hw hbad];rfl,by rw [St.write_1 hw hbad];exact (ds_close (r':=(⟨p,lg,w.z,w.in_,many,om,ov,sa,sc,svl,pF,ga⟩:RS G.α)) (E':=E) (ok.f1.f1) hf (fun j hj=>.inl (he j hj)) V)⟩⟩
 refine .z .mvI<|.z .mvP<|.z .nil<|.z (.fa T.fd123_4)<|.z (.fa T.fd120_0)<|.z (.ldx T.ag3 ok.m0)<|.z (.addI (b:=1))<|.z .gtr<|.z .pkf<|.z .mvB<|.sd (fun G34=>?_) (fun G34=>?_)
 ·
  refine .y<|.y<|.y<|.y<|.y<|.y<|.y<|.z .pkt<|.z .asB<|.nil ?_;refine .ct<|.seq<|.r<|.z .asI<|.nil ?_;have hbad:no<2∨(w.now.length:Int)+1<no∨w.now=[]∨l.length≠w.z:=by
   first
   | exact .inl (by omega)
   | exact .inr (.inl (by omega))
   | exact .inr (.inr (.inl (List.eq_nil_of_length_eq_zero (by omega))))
   | exact .inr (.inr (.inr (by omega)))
  refine .ret ⟨.int .i64 1,Res.one rfl rfl,⟨_,by rw [St.write_1 hw hbad];rfl,by rw [St.write_1 hw hbad];exact (ds_close (r':=(⟨p,lg,w.z,w.in_,many,om,ov,sa,sc,svl,pF,ga⟩:RS G.α)) (E':=E) (ok.f1.f1) hf (fun j hj=>.inl (he j hj)) V)⟩⟩
 refine .z .mvS<|.z (.len T.el44)<|.z .mvP<|.z .nil<|.z (.fa T.fd123_2)<|.z (.ldx T.ag3 ok.m0)<|.z .neq<|.z .pkf<|.z .asB<|.nil ?_;refine .cd (fun C1=>?_) (fun C1=>?_)
 ·
  refine .seq<|.r<|.z .asI<|.nil ?_;have hbad:no<2∨(w.now.length:Int)+1<no∨w.now=[]∨l.length≠w.z:=by
   first
   | exact .inl (by omega)
   | exact .inr (.inl (by omega))
   | exact .inr (.inr (.inl (List.eq_nil_of_length_eq_zero (by omega))))
   | exact .inr (.inr (.inr (by omega)))
  refine .ret ⟨.int .i64 1,Res.one rfl rfl,⟨_,by rw [St.write_1 hw hbad];rfl,by rw [St.write_1 hw hbad];exact (ds_close (r':=(⟨p,lg,w.z,w.in_,many,om,ov,sa,sc,svl,pF,ga⟩:RS G.α)) (E':=E) (ok.f1.f1) hf (fun j hj=>.inl (he j hj)) V)⟩⟩
 have hgood:¬(no<2∨(w.now.length:Int)+1<no∨w.now=[]∨l.length≠w.z):=by
  rintro (h | h | h | h)
  ·omega
  ·omega
  ·rw [h] at hmany;simp at hmany;omega
  ·omega
 obtain ⟨k,rfl⟩:∃k:Nat,no=(k:Int):=⟨no.toNat,by omega⟩;refine .seq<|.r<|.z .mvI<|.z .gtr<|.z .mvB<|.sd (fun G46=>?_) (fun G46=>?_)
 ·
  refine .y<|.y<|.y<|.y<|.y<|.y<|.y<|.z .pkt<|.z .asB<|.nil ?_;refine .ct<|.seq<|.r<|.z .asI<|.nil ?_;refine .ret ⟨.int .i64 5,Res.one rfl rfl,⟨_,by rw [St.write_5 hw hgood (by first | exact .inl (by omega) | exact .inr (by omega))];rfl,by rw [St.write_5 hw hgood (by first | exact .inl (by omega) | exact .inr (by omega))];exact (ds_close (r':=(⟨p,lg,w.z,w.in_,many,om,ov,sa,sc,svl,pF,ga⟩:RS G.α)) (E':=E) (ok.f1.f1) hf (fun j hj=>.inl (he j hj)) V)⟩⟩
 have hmz:=pg_mul (x:=(k:Int)) (s:=w.z) (by omega) (by omega) (by omega);refine .z .mvI<|.z .mvP<|.z .nil<|.z (.fa T.fd123_2)<|.z (.ldx T.ag3 ok.m0)<|.z .mulI<|.z .gtr<|.z .pkf<|.z .asB<|.nil ?_;refine .cd (fun C2=>?_) (fun C2=>?_)
 ·
  refine .seq<|.r<|.z .asI<|.nil ?_;refine .ret ⟨.int .i64 5,Res.one rfl rfl,⟨_,by rw [St.write_5 hw hgood (by first | exact .inl (by omega) | exact .inr (by omega))];rfl,by rw [St.write_5 hw hgood (by first | exact .inl (by omega) | exact .inr (by omega))];exact (ds_close (r':=(⟨p,lg,w.z,w.in_,many,om,ov,sa,sc,svl,pF,ga⟩:RS G.α)) (E':=E) (ok.f1.f1) hf (fun j hj=>.inl (he j hj)) V)⟩⟩
 have hgd:¬(1048576<(k:Int)∨16777216<(k:Int)*(w.z:Int)):=by rintro (h | h)<;>omega
 obtain ⟨mb,rfl⟩:=(V.now hw).1;have ok:=Hp.nowSome (ok.n1);refine .skip<|.end<|hK0 _ _<|.seq<|.a 5 (fun fl hh=>cond fl True (Hp h DF [] [] hh)) mixed ?_;have hS:=ok.k0.tR.tR.tR;refine .g 0 false rfl 55 hS (fun _=>.mvP)<|.g 1 false rfl 56 hS (fun _=>.nil)<|.g 2 false rfl 57 hS (fun _=>.fa T.fd123_4)<|.g 3 false rfl 58 hS (fun _=>.mvI)<|.g 4 false rfl 59 hS (fun _=>.mvS)<|.o1 5<|.c' true rfl 60 .func (bclone_any (a:=a) (c:=c) (l:=l) ok.r2 (by omega)) ?_;rintro _ η1 own;obtain ⟨ya1,yc1,rfl⟩:=own.formB;have ok:=ok.own own;refine ⟨trivial,?_⟩;refine .o1 6<|.c' true rfl 61 .func (sput_any (G:=G) (r:=(⟨p,lg,w.z,w.in_,many,(some mb),ov,sa,sc,svl,pF,ga⟩:RS G.α)) (mb:=mb) (a:=ya1) (c:=yc1) (l:=l) (no:=k) (Hp.locL [boxI so 123 [.iface G.tid (.pointer (some ⟨p,0,none⟩)),.pointer lg,.int .i64 (w.z:Int),.bool w.in_,.int .i64 (many:Int),.map (some mb),.slice sa svl.length sc,.bool false],mapI (Value.int .i64) mb (bsE ov)] (ok.n1.n2)).e0 (by rfl)) ?_;rintro _ η2 ⟨rfl,q⟩;have ok:=Hp.liftL [boxI so 123 [.iface G.tid (.pointer (some ⟨p,0,none⟩)),.pointer lg,.int .i64 (w.z:Int),.bool w.in_,.int .i64 (many:Int),.map (some mb),.slice sa svl.length sc,.bool false],mapI (Value.int .i64) mb (bsE ov)] (ok.n1.n2) q;have hnb:=Hp.putNew (ok.n2) hf;have ok:=Hp.pbsPut (k:=(k:Int)) (ok.n2);have ok:=ok.d0 (svsI (fun j=>E j∨blkC (sv (ya1,(l).length,yc1)) j) svl) (Svs.mono (E:=E) (E':=(fun j=>E j∨blkC (sv (ya1,(l).length,yc1)) j)) (fun j h=>Or.inl h) ok.r1) (fun _ h=>h);refine ⟨trivial,?_⟩;refine .e ?_;refine .seq<|.r<|.z .asI<|.nil ?_;have hkz:k*w.z≤16777216:=by have h2:((k*w.z:Nat):Int)=(k:Int)*(w.z:Int):=Int.natCast_mul _ _;omega
 refine .ret ⟨.int .i64 0,Res.one rfl rfl,⟨_,by rw [St.write_0 hw hgood hgd];rfl,by rw [St.write_0 hw hgood hgd];exact (ds_close (r':=(⟨p,lg,w.z,w.in_,(max many k),(some mb),(mput ov (k:Int) ⟨ya1,yc1,l⟩),sa,sc,svl,pF,ga⟩:RS G.α)) (E':=(fun j=>E j∨blkC (sv (ya1,(l).length,yc1)) j)) (ok.f1) hf (fun j hj=>hj.elim (fun hj=>.inl (he j hj)) (hnb j)) (V.write hw (no:=k) (x:=⟨ya1,yc1,l⟩) (by omega) (by omega) (fun h=>hgood (.inr (.inr (.inl h)))) (Classical.byContradiction fun h=>hgood (.inr (.inr (.inr h)))) hkz))⟩⟩
end Go.Proofs.YtndlpekckpdncaaGreat
namespace Go.HL
open Go
theorem Hp.locW {h0 h:Heap} {D:Nat→Prop} {M R:List Itm} {x:Itm} {e:TypeId} {a:Option Addr} {c:Nat} {l:List UInt8} (ok:Hp h0 D (x::capI 1 e (a,l.length,c) (l.map bv)::M) R h):Hp h x.F [x] [rdI (blkC (sv (a,l.length,c))) none_ (a,l.length,c) l] h:=
 (ok.k2.n1.frzB (l:=l) rfl).loc1
end Go.HL
namespace Go.Proofs.YtndlpekckpdncaaGreat
open Go Go.HL
theorem St.pgk {w:St} (k:StOk w):PgsK w.z w.pgs:=by
 unfold St.pgs;split
 ·exact k.now
 ·exact k.sure
theorem St.page_len {w:St} (k:StOk w) {no:Int} (h1:1≤no) (h2:no≤(w.pgs.length:Int)):(w.pgs.getD (no-1).toNat []).length=w.z:=by
 have hi:(no-1).toNat<w.pgs.length:=by omega
 rw [List.getD_eq_getElem?_getD,List.getElem?_eq_getElem hi];exact (St.pgk k).len _ (List.getElem_mem hi)
theorem sReadOk_any {G:Pgr} {h:Heap} {so:Nat} {F:Nat→Prop} {w:St} {no:Int} {b:List UInt8} (ok:Hp h F [dsI G so F w] [] h) (h1:1≤no) (h2:no≤(w.pgs.length:Int)) (hb:b=w.pgs.getD (no-1).toNat []:=by exact rfl) :
  HC Tryz.prog 22 #[.pointer (some ⟨so,0,none⟩),.int .i64 no] h (fun v h'=>∃F' x c,v=.tuple #[.slice x b.length c,.int .i64 0]∧b.length=w.z∧Hp h F [capI 1 5 (x,b.length,c) (b.map bv),dsI G so F' w] [] h'):=by
 have k:=ds_ok ok.m0;subst hb;refine (sRead_any ok).mono fun v h' ⟨F',x,c,hv,q⟩=>?_;rw [St.read_ok h1 h2] at hv q;exact ⟨F',x,c,hv,St.page_len k h1 h2,q⟩
theorem sWriteC_any {G:Pgr} {h0 h:Heap} {D:Nat→Prop} {M R:List Itm} {so:Nat} {F:Nat→Prop} {w:St} {no:Int} {a:Option Addr} {n c:Nat} {l:List UInt8} (ok:Hp h0 D (dsI G so F w::capI 1 5 (a,n,c) (l.map bv)::M) R h) (hl:l.length≤1000000000) :
  HC Tryz.prog 29 #[.pointer (some ⟨so,0,none⟩),.int .i64 no,.slice a n c] h (fun v h'=>∃F',v=.int .i64 ((w.write no l).2:Int)∧Hp h F [dsI G so F' (w.write no l).1] [] h'):=by
 obtain rfl:n=l.length:=ok.n1.lenB;exact sWrite_any ok.locW hl
theorem St.head_pages {w:St} : w.head.pages=(w.pgs.length:Int):=by
 by_cases h:w.pgs.length=0
 ·rw [St.head_0 h,h];rfl
 ·rw [St.head_n h]
def hdd (w:St) (free many:Int):St × Nat:=w.setHead { w.head with free:=free,many:=many }
end Go.Proofs.YtndlpekckpdncaaGreat
namespace Go.HL
open Go
def dcl (f:FuncId) (args:Array Value):Deferred:={ target:=.fn (.func f) #[],args:=args }
def HCD (P:Program) (f:FuncId) (args:Array Value) (h:Heap) (R:Value→Heap→Prop):Prop:=
 Callable P f∧∀E w u,At E h w→CallsD P f args u w fun e u' w'=>u'=u∧∃v h',e=.returned v∧At E h' w'∧R v h'
theorem HCD.body {P:Program} {f:FuncId} {fn:Func} {c:Code} {args:List Value} {h:Heap} {R:Value→Heap→Prop} (hf:P.funcs[f]? = some fn) (hb:fn.body=some c)
  (hname : (fn.name == "runtime.NumGoroutine") = false) (n : Nat) (hn : fn.ntmps = n) (hsz : Nat.ble args.length n = true) (hc : HW none P n c (fin P fn R) (lst args) h) : HCD P f args.toArray h R :=
 ⟨⟨fn,hf,hname,by simp [hb]⟩,fun _ _ _ at'=>callsD_of_wp hf hb (wp_body n hn hsz hc at')⟩
theorem HCD.go {P:Program} {f:FuncId} {fn:Func} {c:Code} {args:List Value} {h:Heap} {R:Value→Heap→Prop} (hf:P.funcs[f]? = some fn) (n:Nat) (hc:HS none P n [c] (fin P fn R) (lst args) h) (hb:fn.body=some c:=by exact rfl)
  (hname : (fn.name == "runtime.NumGoroutine") = false := by first | exact rfl | kernel_rfl) (hn : fn.ntmps = n := by exact rfl) (hsz : Nat.ble args.length n = true := by exact rfl) : HCD P f args.toArray h R :=
 HCD.body hf hb hname n hn hsz (HW.mono hc fun e s h q=>by cases e<;>exact q)
abbrev PD:=List Deferred→Exit→Slots→Heap→Prop
def LiftD (E:Env) (n:Nat) (Q:PD) (e:Exit) (a:Act) (w:World):Prop:=∃ds s h,Rel ds n s a∧At E h w∧Q ds e s h
def WD (P:Program) (n:Nat) (c:Code) (Q:PD) (s:Slots) (h:Heap):Prop:=∀E a w,E.ds=[]→Rel [] n s a→At E h w→c.wp P (LiftD E n Q) a w
def nxtD (P:Program) (n:Nat) (k:List Code) (Q:PD) (H:Slots→Heap→Prop):PD
 | [],.normal,s,h=>H s h
 | d::ds,.normal,s,h=>HS none P n k (Q (d::ds)) s h
 | ds,e,s,h=>Q ds e s h
def HSD (P:Program) (n:Nat):List Code→PD→Slots→Heap→Prop
 | [],Q,s,h=>Q [] .normal s h
 | c::k,Q,s,h=>WD P n c (nxtD P n k Q (HSD P n k Q)) s h
section
variable {P:Program} {n:Nat} {Q:PD} {s:Slots} {h:Heap} {k:List Code} {E:Env}
theorem At.ds {w:World} (at':At E h w) (ds:List Deferred):At { E with ds:=ds } h w:=⟨at'.heap,at'.os,at'.tape,at'.output⟩
theorem At.of_ds {w:World} {ds:List Deferred} (at':At { E with ds:=ds } h w):At E h w:=⟨at'.heap,at'.os,at'.tape,at'.output⟩
theorem HSD.seq {a b:Code} (hk:HSD P n (a::b::k) Q s h):HSD P n (.seq a b::k) Q s h:=by
 intro E a0 w hE r at';refine wp_seq (wp_mono (hk E a0 w hE r at') ?_);rintro e a' w' ⟨ds,s',h',r',at2,q⟩;cases e with
 | normal=>
  cases ds with
  | nil=>exact q E a' w' hE r' at2
  | cons d ds=>
   refine wp_mono (wpIn_wide.1 (q { E with ds:=d::ds } a' w' r' (at2.ds _))) ?_;rintro e a'' w'' ⟨s2,h2,r2,at3,q2⟩;refine ⟨d::ds,s2,h2,r2,at3.of_ds,?_⟩;cases e<;>exact q2
 | exit id=>exact ⟨ds,s',h',r',at2,by cases ds<;>exact q⟩
 | goto l=>exact ⟨ds,s',h',r',at2,by cases ds<;>exact q⟩
 | ret=>exact ⟨ds,s',h',r',at2,by cases ds<;>exact q⟩
 | panic c=>exact ⟨ds,s',h',r',at2,by cases ds<;>exact q⟩
 | outgrown=>exact ⟨ds,s',h',r',at2,by cases ds<;>exact q⟩
theorem HSD.lift {c:Code} (hx:HS none P n [c] (thn (HSD P n k Q) (Q [])) s h):HSD P n (c::k) Q s h:=by
 intro E a w hE r at';refine wp_mono (wpIn_wide.1 (hx E a w (hE▸r) at')) ?_;rintro e a' w' ⟨s',h',r',at2,q⟩;refine ⟨[],s',h',hE▸r',at2,?_⟩;cases e<;>exact q
theorem HSD.on {Q':Exit→Slots→Heap→Prop} (hk:HSD P n k Q s h):thn (HSD P n k Q) Q' .normal s h:=hk
def HOD (P:Program) (n:Nat) (ops:Array Oper) (l:List Oper) (K:Deferred→Slots→Heap→Prop) (s:Slots) (h:Heap):Prop:=
 ∀E a w,E.ds=[]→Rel [] n s a→At E h w→wpList P ops (fun e a' w'=>e=.normal∧∃d s' h',Rel [d] n s' a'∧At E h' w'∧K d s' h') l a w
theorem HSD.rd {id:Nat} {l:List Oper} (hk:HOD P n l.toArray l (fun d s h=>HS none P n k (Q [d]) s h) s h):HSD P n (.region id l.toArray false::k) Q s h:=by
 intro E a w hE r at';refine wp_mono (wp_region_lit (hk E a w hE r at')) ?_;rintro e a' w' ⟨rfl,d,s',h',r',at2,q⟩;exact ⟨[d],s',h',r',at2,q⟩
variable {ops:Array Oper} {l:List Oper} {o:Oper} {K:Deferred→Slots→Heap→Prop}
theorem HOD.w (d:Nat) {v:Value} (hv:OpV P o s h v) (hk:HOD P n ops l K (upd s d v) h) (hw:wants ops o s=true:=by exact rfl) (hd:o.dst=some d:=by exact rfl) (hn:Nat.blt d n=true:=by exact rfl):HOD P n ops (o::l) K s h:=by
 intro E a w hE r at';unfold wpList;rw [r.wanted,hw,if_pos rfl];refine .inl ?_;unfold Oper.wp;rw [r.eval',hv w at'.heap];simp only [Oper.upon,hd];exact hk E _ w hE (r.put v hn) at'
theorem HOD.z {op:Op} {ty:TypeId} {pos:String} {af:Array Edge} {g:Option (Nat × Bool)} {d:Nat} {v:Value} (hv:OpV P ⟨some d,op,ty,pos,af,g⟩ s h v) (hk:HOD P n ops l K (upd s d v) h) (hw:wants ops ⟨some d,op,ty,pos,af,g⟩ s=true:=by exact rfl) (hn:Nat.blt d n=true:=by exact rfl):HOD P n ops (⟨some d,op,ty,pos,af,g⟩::l) K s h:=HOD.w d hv hk hw rfl hn
theorem HOD.df {f:FuncId} {xs:Array Operand} {ts:Array TypeId} {ty:TypeId} {pos:String} {af:Array Edge} {g:Option (Nat × Bool)} {args:List Value} (hx:xs.toList.map (ev s)=args) (hk:K (dcl f args.toArray) s h) (hw:wants ops ⟨none,.defer ⟨.value (.func f),xs,ts⟩,ty,pos,af,g⟩ s=true:=by exact rfl):HOD P n ops [⟨none,.defer ⟨.value (.func f),xs,ts⟩,ty,pos,af,g⟩] K s h:=by
 intro E a w hE r at';unfold wpList;rw [r.wanted,hw,if_pos rfl];refine .inl ?_;have e:xs.map a.eval=args.toArray:=by rw [r.eval',←hx];apply Array.ext';simp
 have hr:(execOp a.eval ⟨none,.defer ⟨.value (.func f),xs,ts⟩,ty,pos,af,g⟩).run P w=.ok (.defer (dcl f args.toArray)) w:=by
  have ef:a.eval (.func f)=.func (.func f) #[] #[]:=rfl;unfold execOp;simp [resolve,Deferred.ofValue,ef,dcl,e]
 unfold Oper.wp;rw [hr];simp only [Oper.upon,wpList];exact ⟨by trivial,_,s,h,⟨by simpa [Act.put] using r.size,fun i=>by simpa [Act.put] using r.get i,by simp [Act.put,r.defers]⟩,at',hk⟩
end
def finD (P:Program) (fn:Func) (R:Value→Heap→Prop):PD
 | [],.normal,s,h | [],.ret,s,h=>∃v,Res P fn s h v∧R v h
 | [d],.normal,s,h | [d],.ret,s,h=>∃f args Rm,d=dcl f args∧HCD P f args h Rm∧∀v' h',Rm v' h'→∃v,Res P fn s h' v∧R v h'
 | _,_,_,_=>False
theorem leavesD {P:Program} {fn:Func} {R:Value→Heap→Prop} {s:Slots} {h:Heap} {n:Nat} {E:Env} {a:Act} {w:World} {ds:List Deferred} (r:Rel ds n s a) (at':At E h w) (q:finD P fn R ds .ret s h):Leaves P fn a.tmps (fun e w'=>∃v h',e=.returned v∧At E h' w'∧R v h') a.defers .returning w:=by
 rw [r.defers]
 match ds,q with
 | [],⟨v,hv,hR⟩=>exact ⟨v,hv _ _ r.get at'.heap,v,h,rfl,at',hR⟩
 | [d],⟨f,args,Rm,hd,⟨hc,hcd⟩,hk⟩=>
  subst hd;refine ⟨by simp,.func f,#[],f,args,rfl,?_,?_⟩
  ·obtain ⟨fn',hf,hb,hbody⟩:=hc;have h2' : ¬ fn'.name = "runtime.NumGoroutine" := by simpa using hb
   have h3':¬fn'.body=none:=by intro e;simp [e] at hbody
   simp [dcl,invoke,callFunc,hf,h2',h3']
  ·refine (hcd E w .returning at').mono ?_;rintro e u' w' ⟨rfl,v',h',rfl,at2,hRm⟩;obtain ⟨v,hv,hR⟩:=hk v' h' hRm;exact ⟨v,hv _ _ r.get at2.heap,v,h',rfl,at2,hR⟩
theorem HC.goD {P:Program} {f:FuncId} {fn:Func} {c:Code} {args:List Value} {h:Heap} {R:Value→Heap→Prop} (hf:P.funcs[f]? = some fn) (n:Nat) (hc:HSD P n [c] (finD P fn R) (lst args) h) (hb:fn.body=some c:=by exact rfl)
  (hname : (fn.name == "runtime.NumGoroutine") = false := by first | exact rfl | kernel_rfl) (hn : fn.ntmps = n := by exact rfl) (hsz : Nat.ble args.length n = true := by exact rfl) : HC P f args.toArray h R := by
 have hsz:=Nat.le_of_ble_eq_true hsz;refine ⟨⟨fn,hf,hname,by simp [hb]⟩,fun E w at'=>calls_of_wp_defers hf hb ?_⟩;subst hn;refine wp_mono (hc { E with ds:=[] } _ w rfl ⟨by simp;omega,fun i=>?_,rfl⟩ (at'.ds _)) ?_
 ·rw [←lst_getD];simp only [Array.getD_eq_getD_getElem?,Array.getElem?_append,List.getD_eq_getElem?_getD];by_cases hi:i<args.length
  ·simp [hi]
  ·simp only [List.size_toArray,hi,if_false];rw [List.getElem?_eq_none (by omega)];by_cases hj:i-args.length<fn.ntmps-args.length
   ·rw [Array.getElem?_replicate,if_pos hj];rfl
   ·rw [Array.getElem?_replicate,if_neg hj]
 ·rintro e a' w' ⟨ds,s',h',r',at2,q⟩;have at3:At E h' w':=at2.of_ds;cases e with
  | normal=>
   have q2:finD P fn R ds .ret s' h':=by
    match ds,q with
    | [],q=>exact q
    | [d],q=>exact q
    | _::_::_,q=>exact q
   exact leavesD r' at3 q2
  | ret=>exact leavesD r' at3 (by cases ds<;>exact q)
  | exit id=>cases ds with
   | nil=>exact q
   | cons d ds=>cases ds<;>exact q
  | goto l=>cases ds with
   | nil=>exact q
   | cons d ds=>cases ds<;>exact q
  | panic c=>cases ds with
   | nil=>exact False.elim q
   | cons d ds=>cases ds<;>exact False.elim q
  | outgrown=>cases ds with
   | nil=>exact False.elim q
   | cons d ds=>cases ds<;>exact False.elim q
end Go.HL
namespace Go.Proofs.YtndlpekckpdncaaGreat
open Go Go.HL Go.RowKit Go.Sort Go.Shelf Go.MapKept
theorem HC.of_callsW {P:Program} {f:FuncId} {args:Array Value} {h:Heap} {R:Value→Heap→Prop} (hc:Callable P f) (hr:∀w:World,w.heap=h→Calls P f args w fun e w'=>∃v,e=.returned v∧(w'.os=w.os∧w'.tape=w.tape∧w'.output=w.output)∧R v w'.heap):HC P f args h R:=
 ⟨hc,fun _ w at'=>(hr w at'.heap).mono fun _ w' ⟨v,e,b,r⟩=>⟨v,w'.heap,e,⟨rfl,b.1.trans at'.os,b.2.1.trans at'.tape,b.2.2.trans at'.output⟩,r⟩⟩
theorem cells_put {cs:Array Value} {o:Nat} {S:List Int} (h:o+S.length≤cs.size):((putCells (Value.int .i64) o S.toArray cs).toList.drop o).take S.length=S.map iv:=by
 apply List.ext_getElem?;intro j;by_cases hj:j<S.length
 ·rw [List.getElem?_take_of_lt hj,List.getElem?_drop,Array.getElem?_toList];simp [putCells,hj,show o+j<cs.size by omega,iv]
 ·rw [List.getElem?_take_eq_none (by omega),List.getElem?_eq_none (by simp;omega)]
theorem sortI_any {h0 h:Heap} {D:Nat→Prop} {M R:List Itm} {a:Option Addr} {c:Nat} {ks:List Int} (ok:Hp h0 D (capI 1 3 (a,ks.length,c) (ks.map iv)::M) R h) (hl:ks.length≤1000000000000) :
  HC Tryz.prog 68 #[.slice a ks.length c] h (fun v h'=>∃S:List Int,v=.tuple #[]∧S.Perm ks∧S.Pairwise (·≤·)∧Hp h0 D (capI 1 3 (a,S.length,c) (S.map iv)::M) R h'):=
 HC.of_callsW ⟨_,Tryz.func68,by decide,rfl⟩ fun w hw=>by
  have hc:Cap h 1 3 (.slice a ks.length c) (ks.map iv):=ok.m0;have hml:(ks.mergeSort fun x y=>decide (x≤y)).length=ks.length:=List.length_mergeSort _;have hpw:(ks.mergeSort fun x y=>decide (x≤y)).Pairwise (·≤·):=by
   have:=List.pairwise_mergeSort (le:=fun x y:Int=>decide (x≤y)) (fun a b c h1 h2=>by simp at h1 h2⊢;omega) (fun a b=>by simp;omega) ks;exact this.imp fun h=>by simpa using h
  obtain ⟨a',n',c',hv,h1,h2,h3,h4⟩:=hc;injection hv with e1 e2 e3;subst e1 e2 e3;rcases h4 with ⟨rfl,rfl⟩ | ⟨b,o,cs,fz,rfl,hb,hs,hfz,hx⟩
  ·have hz:ks=[]:=List.eq_nil_of_length_eq_zero (by omega);subst hz;refine (AnyM.slices_Sort_int_none Tryz.sortA none 0 w).mono fun e w' ⟨h5,h6⟩=>?_;subst h6;exact ⟨_,h5,⟨rfl,rfl,rfl⟩,[],rfl,.refl _,.nil,by rw [hw];exact ok⟩
  ·have hwb:w.heap[b]? = some (.cells cs 3 fz):=by rw [hw];exact hb
   have hbl:b<w.heap.size:=(Array.getElem?_eq_some_iff.1 hwb).1;have hH:Holds (Value.int .i64) w b o ks.toArray:=by
    intro j hj;have hj':j<ks.length:=by simpa using hj
    refine ⟨?_,frozen?_eq hwb hfz (by omega)⟩;rw [cell?_eq,cell_of hwb,←Array.getElem?_toList];have h6:((cs.toList.drop o).take (ks.length*1))[j]? = (ks.map iv)[j]?:=by rw [hx]
    rw [Nat.mul_one,List.getElem?_take_of_lt hj',List.getElem?_drop] at h6;rw [h6];simp [hj',iv]
   refine (AnyM.slices_Sort_int Tryz.sortA b o c ks w hH hbl (by omega)).mono fun e w' ⟨h5,n,os,h6⟩=>?_;subst h6;have hkeep:∀k,k<w.heap.size→k≠b→(grow (putRow (Value.int .i64) (Sort.ahead w n) b o (ks.mergeSort fun x y=>decide (x≤y)).toArray) os).heap[k]? = w.heap[k]?:=fun k hk hne=>by
    rw [heap_grow_old _ _ (by simpa using hk)];simp [putRow,mapBlock,Sort.ahead,Array.getElem?_modify,Ne.symm hne]
   have hat:(grow (putRow (Value.int .i64) (Sort.ahead w n) b o (ks.mergeSort fun x y=>decide (x≤y)).toArray) os).heap[b]? = some (.cells (putCells (Value.int .i64) o (ks.mergeSort fun x y=>decide (x≤y)).toArray cs) 3 fz):=by
    rw [heap_grow_old _ _ (by simpa using hbl)];simp [putRow,mapBlock,Sort.ahead,Array.getElem?_modify,hwb,onCells]
   have hsz:w.heap.size≤(grow (putRow (Value.int .i64) (Sort.ahead w n) b o (ks.mergeSort fun x y=>decide (x≤y)).toArray) os).heap.size:=by simp
   have hch:Chg (fun j=>j=b) h (grow (putRow (Value.int .i64) (Sort.ahead w n) b o (ks.mergeSort fun x y=>decide (x≤y)).toArray) os).heap:=⟨by rw [←hw];exact hsz,fun k hk hne=>by rw [hkeep k (by rw [hw];exact hk) hne,hw]⟩;have hcap:Cap (grow (putRow (Value.int .i64) (Sort.ahead w n) b o (ks.mergeSort fun x y=>decide (x≤y)).toArray) os).heap 1 3 (.slice (some ⟨b,o,none⟩) (ks.mergeSort fun x y=>decide (x≤y)).length c) ((ks.mergeSort fun x y=>decide (x≤y)).map iv):=
    ⟨_,_,_,rfl,by omega,h2,by simp,.inr ⟨b,o,_,fz,rfl,hat,by simpa [putCells] using hs,by simpa [putCells] using hfz,by rw [Nat.mul_one];exact cells_put (by omega)⟩⟩
   exact ⟨_,h5,⟨rfl,rfl,rfl⟩,_,rfl,List.mergeSort_perm _ _,hpw,ok.upd hch (fun j (hj:j=b)=>hj▸⟨o,ks.length,c,rfl⟩) (capI 1 3 (some ⟨b,o,none⟩,(ks.mergeSort fun x y=>decide (x≤y)).length,c) _) hcap fun j hj=>.inl (by obtain ⟨o2,n2,c2,e⟩:=hj;injection e with e1;injection e1 with e1;injection e1 with e1;exact ⟨o,ks.length,c,by rw [←e1]⟩)⟩
abbrev SB:=Option Addr × Nat × List UInt8
structure RwB {α:Type} (k:Nat) (f:α→List Value) (g:α→SB) (h:Heap) (E:Nat→Prop) (x:SV) (l:List α):Prop where
 sl:Sl h k (sv x) (l.flatMap f)
 n:x.2.1=l.length
 bl:∀j,blk (sv x) j→E j
 by':∀y∈l,RdL h E E ((g y).1,(g y).2.2.length,(g y).2.1) (g y).2.2
section
variable {α:Type} {k:Nat} {f:α→List Value} {g:α→SB} {h h':Heap} {E E' G:Nat→Prop} {x:SV} {l:List α}
theorem RwB.pos {a:Option Addr} {n c:Nat} (r:RwB k f g h E (a,n,c) l) (hk:0<n):∃b o,a=some ⟨b,o,none⟩∧E b:=by
 obtain ⟨a',n',c',e,_,_,h3⟩:=r.sl;injection e with e1 e2 e3;subst e1 e2 e3;obtain ⟨b,o,e,_⟩:=h3.2 hk;subst e;exact ⟨b,o,rfl,r.bl b ⟨o,n,c,rfl,hk⟩⟩
theorem RwB.m {a:Option Addr} {n c:Nat} (r:RwB k f g h E (a,n,c) l):n≤c∧c≤9223372036854775807:=by
 obtain ⟨a',n',c',e,h1,h2,h3⟩:=r.sl;injection e with e1 e2 e3;subst e1 e2 e3;exact ⟨h1,h2⟩
theorem RwB.ofCap {e:TypeId} (hk:0<k) (hf:∀y,(f y).length=k) (c:Cap h k e (sv x) (l.flatMap f)) (hb:∀j,blkC (sv x) j→E j) (h2:∀y∈l,RdL h E E ((g y).1,(g y).2.2.length,(g y).2.1) (g y).2.2):RwB k f g h E x l:=by
 obtain ⟨a,n,c'⟩:=x;have hs:=c.sl;refine ⟨hs,?_,fun j ⟨o,n,c,e,_⟩=>hb j ⟨o,n,c,e⟩,h2⟩;have h1:=hs.cells.1;have h3:(l.flatMap f).length=l.length*k:=by
  clear hs h1 c h2;induction l with
  | nil=>simp
  | cons y l ih=>rw [List.flatMap_cons,List.length_append,hf,ih,List.length_cons,Nat.add_mul];omega
 rw [h3] at h1;exact (Nat.eq_of_mul_eq_mul_right hk h1).symm
end
theorem sl_at1 {α:Type} {f:α→List Value} (hf:∀y,(f y).length=1) {h:Heap} {b o n c:Nat} {l:List α} (r:Sl h 1 (.slice (some ⟨b,o,none⟩) n c) (l.flatMap f)) {i:Nat} (hi:i<l.length) {v:Value} (hv:(f l[i])[0]? = some v):cell h b (o+i)=some v:=by
 have:=sl_at hf r hi (j:=0) hv;simpa using this
def RB.cells (x:RB):List Value:=[.slice x.a x.l.length x.c]
def RB.sb (x:RB):SB:=(x.a,x.c,x.l)
theorem RB.cells_len (x:RB):x.cells.length=1:=rfl
abbrev PgB (h:Heap) (E:Nat→Prop) (x:SV) (l:List RB):Prop:=RwB 1 RB.cells RB.sb h E x l
def pgs (l:List RB):List (List UInt8):=l.map RB.l
theorem pgs_len {l:List RB} : (pgs l).length=l.length:=List.length_map _
theorem pgs_at {l:List RB} {i:Nat} (h:i<l.length):(pgs l)[i]'(by rw [pgs_len];exact h)=l[i].l:=List.getElem_map _
def Pby (h:Heap) (E:Nat→Prop) (l:List RB):Prop:=∀y∈l,RdL h E E (y.a,y.l.length,y.c) y.l
@[reducible] def pbyI (E:Nat→Prop) (l:List RB):Itm:=⟨fun h=>Pby h E l,E,fun _ _ _ c d b y hy=>(b y hy).st c d d⟩
theorem Pby.nil {h:Heap} {E:Nat→Prop} : Pby h E []:=fun _ hy=>by cases hy
theorem Pby.mono {h:Heap} {E E':Nat→Prop} {l:List RB} (hE:∀j,E j→E' j) (b:Pby h E l):Pby h E' l:=fun y hy=>(b y hy).mono hE hE
theorem Pby.snoc {h:Heap} {E:Nat→Prop} {l:List RB} {x:RB} (b:Pby h E l) (hx:RdL h E E (x.a,x.l.length,x.c) x.l):Pby h E (l++[x]):=fun y hy=>(List.mem_append.1 hy).elim (b y) fun h=>by rw [List.mem_singleton.1 h];exact hx
theorem PgB.of {h:Heap} {E E':Nat→Prop} {e:TypeId} {x:SV} {l:List RB} (c:Cap h 1 e (sv x) (l.flatMap RB.cells)) (b:Pby h E' l) (hc:∀j,blkC (sv x) j→E j) (hE:∀j,E' j→E j):PgB h E x l:=RwB.ofCap (by decide) RB.cells_len c hc fun y hy=>(b y hy).mono hE hE
end Go.Proofs.YtndlpekckpdncaaGreat
namespace Go.HL
open Go Go.Proofs.YtndlpekckpdncaaGreat
section
variable {h0 h h':Heap} {D G:Nat→Prop} {M R:List Itm}
theorem Hp.pbyPut {Q:Nat→Prop} {bs:List RB} {a:Option Addr} {c:Nat} {l:List UInt8} (ok:Hp h0 D (capI 1 5 (a,l.length,c) (l.map bv)::M) (pbyI Q bs::R) h):Hp h0 D M (pbyI (fun j=>Q j∨blkC (sv (a,l.length,c)) j) (bs++[⟨a,c,l⟩])::R) h:=by
 have o:Hp h0 D M (rdI (blkC (sv (a,l.length,c))) none_ (a,l.length,c) l::pbyI Q bs::R) h:=ok.frzB rfl;have o2:=o.or (r:=pbyI Q bs) (r':=rdI (blkC (sv (a,l.length,c))) none_ (a,l.length,c) l) (by simp) (by simp) (pbyI (fun j=>Q j∨blkC (sv (a,l.length,c)) j) (bs++[⟨a,c,l⟩]))
  (Pby.snoc (Pby.mono (fun j h=>.inl h) o.r1) ((show RdL h (blkC (sv (a,l.length,c))) none_ (a,l.length,c) l from o.r0).mono (fun j h=>.inr h) (fun j f=>f.elim))) (fun j h=>h.imp id .inl)
 exact o2.sub (by simp;intro a h;exact .inr (.inr (.inr h)))
theorem Hp.pbyNil (ok:Hp h0 D M R h):Hp h0 D M (pbyI none_ []::R) h:=ok.newR (Ext.refl _) _ Pby.nil fun _ f=>f.elim
end
end Go.HL
namespace Go.Proofs.YtndlpekckpdncaaGreat
open Go Go.HL
theorem pgs_snoc {l:List RB} {x:RB} : pgs (l++[x])=pgs l++[x.l]:=List.map_append
structure DgP (h:Heap) (d:Nat) (F:Nat→Prop) (D:Dk) (r:RD) (E:Nat→Prop):Prop where
 p:(dskI d r).p h
 b:Bys h E r.fs
 f:∀j,(dskI d r).F j→F j
 e:∀j,E j→F j
 n:∀j,(dskI d r).F j→¬E j
 a:r.abs=D
@[reducible] def dgI (d:Nat) (F:Nat→Prop) (D:Dk):Itm:=⟨fun h=>∃r E,DgP h d F D r E,F,fun _ _ _ c g ⟨r,E,q⟩=>⟨r,E,(dskI d r).st _ _ _ c (fun j hj=>g j (q.f j hj)) q.p,(bysI E r.fs).st _ _ _ c (fun j hj=>g j (q.e j hj)) q.b,q.f,q.e,q.n,q.a⟩⟩
section
variable {h h':Heap} {d p:Nat} {F G E E':Nat→Prop} {D:Dk} {r r':RD}
theorem dg_open {M:List Itm} (ok:Hp h F [dgI d F D] M h):∃r E,r.abs=D∧Hp h (dskI d r).F [dskI d r] [bysI E r.fs] h∧(∀j,(dskI d r).F j→F j)∧∀j,E j→F j:=by
 obtain ⟨r,E,q⟩:=ok.m0;have hl:=(ok.m (dgI d F D) (by simp)).2;exact ⟨r,E,q.a,⟨Chg.refl _ _,fun i hi=>by rw [List.mem_singleton.1 hi];exact ⟨q.p,fun j hj=>⟨(hl j (q.f j hj)).1,.inl hj⟩⟩,fun i hi=>by rw [List.mem_singleton.1 hi];exact ⟨q.b,fun j hj=>(hl j (q.e j hj)).1⟩,List.pairwise_singleton _ _,fun a ha b hb=>by rw [List.mem_singleton.1 ha,List.mem_singleton.1 hb];exact q.n⟩,q.f,q.e⟩
theorem dg_close {M:List Itm} (q:Hp h G (dskI d r'::M) [bysI E' r'.fs] h') (hG:∀j,G j→F j) (hE:∀j,E' j→F j∨h.size≤j):Hp h F (dgI d (fun j=>(dskI d r').F j∨E' j) r'.abs::M) [] h':=by
 have hm:=List.pairwise_cons.1 q.mm;refine ⟨q.chg.mono fun j _=>hG j,fun i hi=>?_,by simp,List.pairwise_cons.2 ⟨fun b hb j hj hb2=>?_,hm.2⟩,by simp⟩
 ·rcases List.mem_cons.1 hi with rfl | hi
  ·refine ⟨⟨r',E',q.m0,q.r0,fun j hj=>.inl hj,fun j hj=>.inr hj,q.mr (dskI d r') (by simp) (bysI E' r'.fs) (by simp),rfl⟩,fun j hj=>?_⟩;rcases hj with hj | hj
   ·have:=(q.m _ List.mem_cons_self).2 j hj;exact ⟨this.1,this.2.imp (hG j) id⟩
   ·exact ⟨(q.r _ List.mem_cons_self).2 j hj,hE j hj⟩
  ·have:=q.m i (List.mem_cons_of_mem _ hi);exact ⟨this.1,fun j hj=>⟨(this.2 j hj).1,(this.2 j hj).2.imp (hG j) id⟩⟩
 ·rcases hj with hj | hj
  ·exact hm.1 b hb j hj hb2
  ·exact q.mr b (List.mem_cons_of_mem _ hb) _ List.mem_cons_self j hb2 hj
theorem dg_up (up:DUp h h' d r r' E E') (hf:∀j,(dskI d r).F j→F j) (he:∀j,E j→F j):∃F',Hp h F [dgI d F' r'.abs] [] h':=⟨_,dg_close up.hp hf fun j hj=>(up.new j hj).imp (he j) id⟩
section
variable {n:List UInt8} {z y:Int} {a:Option Addr} {c:Nat} {l:List UInt8} {F2 E2:Nat→Prop}
theorem dgwrite_any (ok:Hp h F [dgI d F D] [rdI F2 E2 (a,l.length,c) l] h) (hk:DkOk D) (hcg:D.chg<1000000000) (hz : -9223372036854775808≤z∧z≤9223372036854775807) :
  HC Tryz.prog 207 #[.pointer (some ⟨d,0,none⟩),.string (BA n),.int .i64 z,.slice a l.length c] h (fun v h'=>∃F',v=.int .i64 ((writeN D n z l).2:Int)∧Hp h F [dgI d F' (writeN D n z l).1] [] h'):=by
 obtain ⟨r,E,rfl,o,hf,he⟩:=dg_open ok;have o2:Hp h (dskI d r).F [dskI d r] [bysI E r.fs,rdI F2 E2 (a,l.length,c) l] h:=⟨o.chg,o.m,fun i hi=>by
  rcases List.mem_cons.1 hi with rfl | hi
  ·exact o.r _ (by simp)
  ·exact ok.r i hi,o.mm,fun x hx b hb=>by
  rcases List.mem_cons.1 hb with rfl | hb
  ·exact o.mr x hx _ (by simp)
  ·rw [List.mem_singleton.1 hx,List.mem_singleton.1 hb];exact fun j hj=>ok.mr (dgI d F r.abs) (by simp) (rdI F2 E2 (a,l.length,c) l) (by simp) j (hf j hj)⟩
 refine (write_any o2 hk hcg hz).mono fun v h' ⟨r',E',hv,ha,up⟩=>?_;obtain ⟨F',hp⟩:=dg_up up hf he;rw [ha] at hp;exact ⟨F',hv,hp⟩
theorem dgsync_any (ok:Hp h F [dgI d F D] [] h) (hk:DkOk D) (hcg:D.chg<1000000000) :
  HC Tryz.prog 209 #[.pointer (some ⟨d,0,none⟩),.string (BA n)] h (fun v h'=>∃F',v=.int .i64 ((syncN D n).2:Int)∧Hp h F [dgI d F' (syncN D n).1] [] h'):=by
 obtain ⟨r,E,rfl,o,hf,he⟩:=dg_open ok;refine (sync_any o hk hcg).mono fun v h' ⟨r',E',hv,ha,up⟩=>?_;obtain ⟨F',hp⟩:=dg_up up hf he;rw [ha] at hp;exact ⟨F',hv,hp⟩
theorem dgsize_any (ok:Hp h F [dgI d F D] [] h) :
  HC Tryz.prog 136 #[.pointer (some ⟨d,0,none⟩),.string (BA n)] h (fun v h'=>v=.tuple #[.int .i64 ((sizeN D n).1:Int),.bool (sizeN D n).2]∧h'=h):=by
 obtain ⟨r,E,rfl,o,hf,he⟩:=dg_open ok;exact size_anyD o.m0
theorem dgread_any (ok:Hp h F [dgI d F D] [] h) (hk:DkOk D) (hy : -9223372036854775808≤y∧y≤9223372036854775807) (hz : -9223372036854775808≤z∧z≤9223372036854775807) :
  HC Tryz.prog 180 #[.pointer (some ⟨d,0,none⟩),.string (BA n),.int .i64 y,.int .i64 z] h (fun v h'=>∃w,v=.tuple #[w,.int .i64 ((readN D n y z).2:Int)]∧Own h h' 1 5 w ((readN D n y z).1.map bv)):=by
 obtain ⟨r,E,rfl,o,hf,he⟩:=dg_open ok;exact read_anyD o.rdo hk hy hz
theorem dgdark_any (ok:Hp h F [dgI d F D] [] h) :
  HC Tryz.prog 135 #[.pointer (some ⟨d,0,none⟩)] h (fun v h'=>v=.bool D.dark∧h'=h):=by
 obtain ⟨r,E,rfl,o,hf,he⟩:=dg_open ok;exact dark_any (dsk_parts o.m0).1
theorem dgchanges_any (ok:Hp h F [dgI d F D] [] h) :
  HC Tryz.prog 268 #[.pointer (some ⟨d,0,none⟩)] h (fun v h'=>v=.int .i64 D.chg∧h'=h):=by
 obtain ⟨r,E,rfl,o,hf,he⟩:=dg_open ok;exact changes_any (dsk_parts o.m0).1
end
theorem dgnew_any:HC Tryz.prog 35 #[] h (fun v h'=>∃d F,v=.pointer (some ⟨d,0,none⟩)∧Hp h none_ [dgI d F newN] [] h'):=
 new_any.mono fun v h' ⟨d,r,hv,ha,q⟩=>⟨d,_,hv,by
  have hp:=dg_close (F:=none_) q (fun _ f=>f) (fun j f=>f.elim);rw [ha] at hp;exact hp⟩
end
open Go Go.HL
theorem gone_0 {d:Dk} {n:List UInt8} (h:(removeN d n).2=0):goneN d n=syncN (removeN d n).1 n:=if_pos h
theorem gone_4 {d:Dk} {n:List UInt8} (h:(removeN d n).2=4):goneN d n=((removeN d n).1,0):=by unfold goneN;rw [if_neg (by omega),if_pos h]
theorem gone_e {d:Dk} {n:List UInt8} (h:(removeN d n).2≠0) (h4:(removeN d n).2≠4):goneN d n=removeN d n:=by unfold goneN;rw [if_neg h,if_neg h4]
theorem aright_any {h:Heap} {z:Int} (hz : -9223372036854775808≤z∧z≤9223372036854775807) :
  HC Tryz.prog 132 #[.int .i64 z] h (fun v h'=>v=.bool (okZ z)∧h'=h):=by
 refine HC.go Tryz.func132 16 ?_;refine .seq<|.r<|.z .asB<|.nil ?_;refine .seq<|.r<|.z .mvI<|.z .geq<|.z .mvB<|.sd (fun G5=>?_) (fun G5=>?_)
 ·
  refine .z .mvI<|.z .leq<|.z .pkt<|.z .mvB<|.sd (fun G9=>?_) (fun G9=>?_)
  ·
   obtain ⟨q,rfl⟩:∃q:Nat,z=(q:Int):=⟨z.toNat,by omega⟩;have hq:=and_pow q (by omega) (by omega);refine .z .mvI<|.z .mvI<|.z .sub<|.z (.bandI q (q-1))<|.z .eql<|.z .pkt<|.z .asB<|.nil ?_;refine .ret ⟨.bool (decide ((((q &&& (q-1)):Nat):Int)=0)),Res.one rfl rfl,⟨by first | exact congrArg _ (by unfold okZ;rw [decide_eq_decide];omega) | exact congrArg _ (by unfold okZ;exact (decide_eq_false (by omega)).symm) | exact congrArg _ (by unfold okZ;exact (decide_eq_true (by omega)).symm),rfl⟩⟩
  refine .y<|.y<|.y<|.y<|.y<|.z .pkf<|.z .asB<|.nil ?_;refine .ret ⟨.bool false,Res.one rfl rfl,⟨by first | exact congrArg _ (by unfold okZ;rw [decide_eq_decide];omega) | exact congrArg _ (by unfold okZ;exact (decide_eq_false (by omega)).symm) | exact congrArg _ (by unfold okZ;exact (decide_eq_true (by omega)).symm),rfl⟩⟩
 refine .y<|.y<|.z .pkf<|.z .mvB<|.y<|.y<|.y<|.y<|.y<|.z .pkf<|.z .asB<|.nil ?_;refine .ret ⟨.bool false,Res.one rfl rfl,⟨by first | exact congrArg _ (by unfold okZ;rw [decide_eq_decide];omega) | exact congrArg _ (by unfold okZ;exact (decide_eq_false (by omega)).symm) | exact congrArg _ (by unfold okZ;exact (decide_eq_true (by omega)).symm),rfl⟩⟩
theorem gone_any {h:Heap} {d:Nat} {n:List UInt8} {r:RD} {E:Nat→Prop} (ok:Hp h (dskI d r).F [dskI d r] [bysI E r.fs] h) (hk:DkOk r.abs) (hcg:r.chg<900000000) :
  HC Tryz.prog 179 #[.pointer (some ⟨d,0,none⟩),.string (BA n)] h (fun v h'=>∃r' E',v=.int .i64 ((goneN r.abs n).2:Int)∧r'.abs=(goneN r.abs n).1∧DUp h h' d r r' E E'):=by
 refine HC.go Tryz.func179 17 ?_;refine .seq<|.r<|.z .asI<|.nil ?_;refine .seq<|.seq<|.r<|.z .mvP<|.z .mvT<|.c' 8 .func (remove_any (d:=d) (r:=r) (E:=E) (n:=n) (ok).loc1 hk (by omega)) ?_;rintro _ η1 ⟨rw1,Ew1,rfl,haw1,upw1⟩;have hzw1:=(ok).chg.size;have ok:=(ok).dsk (d:=d) (r:=r) upw1;have hkw1:DkOk rw1.abs:=by rw [haw1];exact (hk).remove
 have hcw1:rw1.chg≤r.chg+1:=Int.le_trans (Int.le_of_eq (congrArg Dk.chg haw1)) remove_chg;have hnw1:=fun j hj=>(upw1.new j hj).elim ((fun _ h=>Or.inl h) j) fun h1=>Or.inr (Nat.le_trans hzw1 h1);refine .z .asI<|.nil ?_;refine .seq<|.r<|.z .mvI<|.z .neq<|.nil ?_;refine .cd (fun C0=>?_) (fun C0=>?_)
 ·
  refine .seq<|.seq<|.r<|.z .mvI<|.z .eql<|.nil ?_;refine .cd (fun C1=>?_) (fun C1=>?_)
  ·
   refine .seq<|.r<|.z .asI<|.nil ?_;refine .ret ⟨.int .i64 0,Res.one rfl rfl,⟨rw1,Ew1,(by rw [gone_4 (by omega)];rfl),(by rw [gone_4 (by omega)];exact haw1),((ok).k1.e1).up hnw1⟩⟩
  refine .skip<|.seq<|.r<|.z .mvI<|.z .asI<|.nil ?_;refine .ret ⟨.int .i64 ((removeN r.abs n).2:Int),Res.one rfl rfl,⟨rw1,Ew1,(by rw [gone_e (by omega) (by omega)]),(by rw [gone_e (by omega) (by omega)];exact haw1),((ok).k1.e1).up hnw1⟩⟩
 refine .skip<|.seq<|.r<|.z .mvP<|.z .mvT<|.c' 16 .func (sync_any (d:=d) (r:=rw1) (E:=Ew1) (n:=n) (ok).loc1 hkw1 (by omega)) ?_;rintro _ η2 ⟨rw2,Ew2,rfl,haw2,upw2⟩;have hzw2:=(ok).chg.size;have ok:=(ok).dsk (d:=d) (r:=rw1) upw2;have hkw2:DkOk rw2.abs:=by rw [haw2];exact (hkw1).sync
 have hcw2:rw2.chg≤rw1.chg+1:=Int.le_trans (Int.le_of_eq (congrArg Dk.chg haw2)) sync_chg;have hnw2:=fun j hj=>(upw2.new j hj).elim (hnw1 j) fun h1=>Or.inr (Nat.le_trans hzw2 h1);refine .z .asI<|.nil ?_;refine .ret ⟨.int .i64 ((syncN rw1.abs n).2:Int),Res.one rfl rfl,⟨rw2,Ew2,(by rw [gone_0 (by omega),haw1]),(by rw [gone_0 (by omega),←haw1];exact haw2),((ok).k1.e1).up hnw2⟩⟩
theorem headed_any {h:Heap} {F E:Nat→Prop} {n:Nat} {a:Option Addr} {c:Nat} {l:List UInt8} (hl:RdL h F E (a,l.length,c) l) :
  HC Tryz.prog 282 #[.slice a l.length c,.int .i64 (n:Int)] h (fun v h'=>v=.bool (hdOk l n)∧Ext h h'):=by
 have hc2:=hl.m;have hc1:l.length≤c:=hl.c;simp only at hc2;have ok:=(Hp.nil h none_).arg hl;refine HC.go Tryz.func282 20 ?_;refine .seq<|.r<|.z .asB<|.nil ?_;refine .seq<|.r<|.z .mvS<|.c' 9 .func (dec_any (a:=a) (c:=c) (l:=l) ok.r0) ?_;rintro _ η1 ⟨rfl,hx⟩;rw [show (decN l).1.val=.agg #[.int .i64 (decN l).1.size,.int .i64 (decN l).1.pages,.int .i64 (decN l).1.free,.int .i64 (decN l).1.many,.int .i64 (decN l).1.cookie,.int .i64 (decN l).1.version] from rfl];have ok:=ok.ext hx;refine .z .mvU<|.z .ex<|.z .ex<|.a' 5 (.alA T.zr38 ok) ?_;rintro _ η2 ⟨pb1,rfl,ok,xe⟩;refine .ur' (.stW (vs:=[.int .i64 ((decN l).1.size),.int .i64 ((decN l).1.pages),.int .i64 ((decN l).1.free),.int .i64 ((decN l).1.many),.int .i64 ((decN l).1.cookie),.int .i64 ((decN l).1.version)]) T.sz38 ok (oneL rfl)) ?_;rintro η3 ⟨ok,cg⟩;refine .z .asI<|.nil ?_;refine .seq<|.r<|.z .mvI<|.z .eql<|.z .mvB<|.sd (fun G14=>?_) (fun G14=>?_)
 ·
  refine .z (.fa T.fd38_0)<|.z (.ldx T.ag3 ok.m0)<|.z .mvI<|.z .eql<|.z .pkt<|.z .asB<|.nil ?_;refine .ret ⟨.bool (decide ((decN l).1.size=(n:Int))),Res.one rfl rfl,⟨congrArg Value.bool (decide_eq_decide.2 ⟨fun h=>⟨by omega,h⟩,fun h=>h.2⟩),ok.chg⟩⟩
 refine .y<|.y<|.y<|.y<|.z .pkf<|.z .asB<|.nil ?_;refine .ret ⟨.bool false,Res.one rfl rfl,⟨congrArg Value.bool (decide_eq_false (by rintro ⟨h1,h2⟩;omega)).symm,ok.chg⟩⟩
theorem fresh_any {h:Heap} {p:Nat} {v0 v1 v2 v3 v4 v5 v6 v7 v8 v9 v10 v11:Value} (ok:Hp h (fun j=>j=p) [boxI p 202 [v0,v1,v2,v3,v4,v5,v6,v7,v8,v9,v10,v11]] [] h) :
  HC Tryz.prog 134 #[.pointer (some ⟨p,0,none⟩)] h (fun v h'=>∃m,v=.tuple #[]∧Hp h (fun j=>j=p) [boxI p 202 [.int .i64 0,.int .i64 0,.int .u64 0,.map (some m),v4,v5,v6,v7,v8,v9,v10,v11],mapI (Value.int .i64) m []] [] h'):=by
 refine HC.go Tryz.func134 7 ?_;refine .r<|.z .mvP<|.a' 3 (.mkm (Value.int .i64) ok) ?_;rintro _ η1 ⟨mb1,rfl,ok⟩;refine .z (.bd #[.int .i64 0,.int .i64 0,.int .u64 0,.map (some mb1)] T.zr198 T.pl198 rfl)<|.z .nil<|.z (.fa T.fd202_0)<|.ur' (.stA (vs:=[.int .i64 0,.int .i64 0,.int .u64 0,.map (some mb1)]) T.sz198 ok.n1 (oneL rfl)) ?_;rintro η2 ⟨ok,cg⟩;refine .nil ?_;refine .end<|⟨.tuple #[],Res.none rfl,⟨_,rfl,ok⟩⟩
theorem snocInd {α:Type} {P:List α→Prop} (h0:P []) (h1:∀l a,P l→P (l++[a])) (l:List α):P l:=by
 suffices h:∀n,P (l.take n) by have:=h l.length;simpa using this
 intro n;induction n with
 | zero=>simpa using h0
 | succ n ih=>
  by_cases hn:n<l.length
  ·rw [take_next hn];exact h1 _ _ ih
  ·rw [List.take_of_length_le (by omega)] at ih⊢;exact ih
def putsN:Nat→List Fr→List UInt8
 | _,[]=>[]
 | p,f::fs=>putN p f++putsN (linkN p f) fs
def linkL (p:Nat) (fs:List Fr):Nat:=fs.foldl linkN p
theorem linkL_lt {p:Nat} (h:p<18446744073709551616) (fs:List Fr):linkL p fs<18446744073709551616:=by
 induction fs generalizing p with
 | nil=>exact h
 | cons f fs ih=>exact ih (nextN_lt h _)
theorem linkL_snoc (p:Nat) (fs:List Fr) (f:Fr):linkL p (fs++[f])=linkN (linkL p fs) f:=by simp [linkL]
theorem linkL_app (p:Nat) (fs gs:List Fr):linkL p (fs++gs)=linkL (linkL p fs) gs:=by simp [linkL]
theorem putsN_app (p:Nat) (fs gs:List Fr):putsN p (fs++gs)=putsN p fs++putsN (linkL p fs) gs:=by
 induction fs generalizing p with
 | nil=>rfl
 | cons f fs ih=>simp only [List.cons_append,putsN,ih,List.append_assoc];rfl
theorem putsN_snoc (p:Nat) (fs:List Fr) (f:Fr):putsN p (fs++[f])=putsN p fs++putN (linkL p fs) f:=by rw [putsN_app];simp [putsN]
def okL (size:Nat) (fs:List Fr):Prop:=∀f∈fs,okF f=true∧f.b.length=size
theorem putsN_len {size:Nat} {p:Nat} {fs:List Fr} (h:okL size fs):(putsN p fs).length=fs.length*(16+size):=by
 induction fs generalizing p with
 | nil=>simp [putsN]
 | cons f fs ih=>
  have h1:=(h f List.mem_cons_self).2;have h2:=ih (p:=linkN p f) fun g hg=>h g (List.mem_cons_of_mem _ hg);rw [putsN,List.length_append,putN_len,h1,h2,List.length_cons,Nat.add_mul];omega
def sureN (fs:List Fr):Nat:=(fs.foldl (fun (p:Nat × Nat) f=>(p.1+1,if 0<f.commit then p.1+1 else p.2)) (0,0)).2
theorem sure_fst (fs:List Fr):(fs.foldl (fun (p:Nat × Nat) f=>(p.1+1,if 0<f.commit then p.1+1 else p.2)) (0,0)).1=fs.length:=
 snocInd (P:=fun fs=>(fs.foldl (fun (p:Nat × Nat) f=>(p.1+1,if 0<f.commit then p.1+1 else p.2)) (0,0)).1=fs.length) rfl (fun l a ih=>by rw [List.foldl_append];simp [ih]) fs
theorem sureN_snoc (fs:List Fr) (f:Fr):sureN (fs++[f])=if 0<f.commit then fs.length+1 else sureN fs:=by
 unfold sureN;rw [List.foldl_append];simp only [List.foldl_cons,List.foldl_nil,sure_fst]
theorem sureN_le (fs:List Fr):sureN fs≤fs.length:=
 snocInd (P:=fun fs=>sureN fs≤fs.length) (Nat.le_refl _) (fun l a ih=>by rw [sureN_snoc,List.length_append,List.length_singleton];split<;>omega) fs
def foldS (size:Nat) (s:Sc) (fs:List Fr):Sc:=fs.foldl (stepF size) s
theorem foldS_eq (size:Nat) (b:List UInt8) (fs:List Fr) (h:∀f∈fs,0≤f.commit) :
  foldS size (scan0 b) fs=⟨20+fs.length*(16+size),linkL (firstN b) fs,fs,fs.take (sureN fs),linkL (firstN b) (fs.take (sureN fs)),20+sureN fs*(16+size)⟩:=by
 revert h;refine snocInd (P:=fun fs=>(∀f∈fs,0≤f.commit)→foldS size (scan0 b) fs=⟨20+fs.length*(16+size),linkL (firstN b) fs,fs,fs.take (sureN fs),linkL (firstN b) (fs.take (sureN fs)),20+sureN fs*(16+size)⟩) (fun _=>by simp [foldS,scan0,linkL,sureN]) (fun l a ih h=>?_) fs;have ih:=ih fun f hf=>h f (List.mem_append_left _ hf);have ha:=h a (by simp);unfold foldS at ih⊢;rw [List.foldl_append,ih,List.foldl_cons,List.foldl_nil,sureN_snoc];by_cases hc:a.commit=0
 ·rw [if_neg (by omega)];have hle:=sureN_le l;simp only [stepF,hc,ne_eq,not_true_eq_false,if_false,linkL_snoc,List.length_append,List.length_singleton,Nat.add_mul,Nat.one_mul];rw [List.take_append_of_le_length hle];simp only [Sc.mk.injEq,true_and,and_true];omega
 ·rw [if_pos (by omega)];simp only [stepF,ne_eq,hc,not_false_eq_true,if_true,linkL_snoc,List.length_append,List.length_singleton,Nat.add_mul,Nat.one_mul];rw [List.take_of_length_le (by simp),linkL_snoc];simp only [Sc.mk.injEq,true_and];omega
theorem Reach.front {b:List UInt8} {size:Nat} {s s':Sc} (h:fits b size s.pos s.prev) (r:Reach b size (stepF size s (rawF b size s.pos)) s'):Reach b size s s':=by
 induction r with
 | refl=>exact .step (.refl _) h
 | step _ h2 ih=>exact .step ih h2
theorem reach_puts {size:Nat} {z:List UInt8} : ∀(fs:List Fr) (x:List UInt8) (s:Sc),okL size fs→s.pos=x.length→s.prev<18446744073709551616→Reach (x++(putsN s.prev fs++z)) size s (foldS size s fs)
 | [],x,s,_,_,_=>.refl _
 | f::fs,x,s,h,hp,hv=>by
  obtain ⟨h1,h2⟩:=h f List.mem_cons_self;have e:x++(putsN s.prev (f::fs)++z)=x++(putN s.prev f++(putsN (linkN s.prev f) fs++z)):=by simp [putsN]
  have e2:x++(putN s.prev f++(putsN (linkN s.prev f) fs++z))=(x++putN s.prev f)++(putsN (linkN s.prev f) fs++z):=by simp
  have hf:=fits_put (x:=x) (z:=putsN (linkN s.prev f) fs++z) h1 hv;have hr:=rawF_put (x:=x) (z:=putsN (linkN s.prev f) fs++z) (p:=s.prev) h1;rw [h2] at hf hr;rw [e];refine Reach.front (by rw [hp];exact hf) ?_;rw [hp,hr,e2];have ih:=reach_puts (size:=size) (z:=z) fs (x++putN s.prev f) (stepF size s f) (fun g hg=>h g (List.mem_cons_of_mem _ hg)) (by rw [stepF_pos,hp,List.length_append,putN_len,h2];omega) (by rw [stepF_prev];exact nextN_lt hv _);rw [stepF_prev] at ih;exact ih
section
variable {n salt:Nat} (hn:n<4294967296) (hs:salt<18446744073709551616)
include hn hs
theorem scan_log {fs:List Fr} (h:okL n fs) (z:List UInt8) (hz:¬fits (headN n salt++(putsN (nextN salt (headN n salt)) fs++z)) n (20+fs.length*(16+n)) (linkL (nextN salt (headN n salt)) fs)) :
  ScanE (headN n salt++(putsN (nextN salt (headN n salt)) fs++z)) ⟨20+fs.length*(16+n),linkL (nextN salt (headN n salt)) fs,fs,fs.take (sureN fs),linkL (nextN salt (headN n salt)) (fs.take (sureN fs)),20+sureN fs*(16+n)⟩:=by
 have hc:∀f∈fs,0≤f.commit:=fun f hf=>(okF_iff.1 (h f hf).1).1.2.2.1;have e0:firstN (headN n salt++(putsN (nextN salt (headN n salt)) fs++z))=nextN salt (headN n salt):=firstN_headN hs _;have e1:=foldS_eq n (headN n salt++(putsN (nextN salt (headN n salt)) fs++z)) fs hc;rw [e0] at e1;have e2:rdN (headN n salt++(putsN (nextN salt (headN n salt)) fs++z)) 4 4=n:=rd4_headN hn _;refine ⟨?_,by rw [e2];exact hz⟩;rw [e2,←e1];have:=reach_puts (size:=n) (z:=z) fs (headN n salt) (scan0 (headN n salt++(putsN (nextN salt (headN n salt)) fs++z))) h (headN_len n salt).symm (firstN_lt _);have e3:(scan0 (headN n salt++(putsN (nextN salt (headN n salt)) fs++z))).prev=nextN salt (headN n salt):=e0;rw [e3] at this;exact this
theorem scan_short_log {fs:List Fr} (h:okL n fs) (z:List UInt8) (hz:z.length<16+n) :
  ScanE (headN n salt++(putsN (nextN salt (headN n salt)) fs++z)) ⟨20+fs.length*(16+n),linkL (nextN salt (headN n salt)) fs,fs,fs.take (sureN fs),linkL (nextN salt (headN n salt)) (fs.take (sureN fs)),20+sureN fs*(16+n)⟩:=
 scan_log hn hs h z fun hf=>by
  have h1:=hf.1;simp only [List.length_append,headN_len,putsN_len h] at h1;omega
end
open Go Go.HL
def gd (b:List UInt8) (i:Nat):UInt8:=b.getD i 0
theorem gd_nil (i:Nat):gd [] i=0:=rfl
theorem gd_ge {b:List UInt8} {i:Nat} (h:b.length≤i):gd b i=0:=by unfold gd;rw [List.getD_eq_getElem?_getD,List.getElem?_eq_none h];rfl
theorem gd_lt {b:List UInt8} {i:Nat} (h:i<b.length):gd b i=b[i]:=by unfold gd;rw [List.getD_eq_getElem?_getD,List.getElem?_eq_getElem h];rfl
theorem gd_app {a b:List UInt8} {i:Nat} : gd (a++b) i=if i<a.length then gd a i else gd b (i-a.length):=by
 unfold gd;rw [List.getD_eq_getElem?_getD,List.getD_eq_getElem?_getD,List.getD_eq_getElem?_getD];split
 ·rename_i h;rw [List.getElem?_append_left h]
 ·rename_i h;rw [List.getElem?_append_right (by omega)]
theorem gd_take {b:List UInt8} {n i:Nat} : gd (b.take n) i=if i<n then gd b i else 0:=by
 split
 ·rename_i h;unfold gd;rw [List.getD_eq_getElem?_getD,List.getD_eq_getElem?_getD,List.getElem?_take_of_lt h]
 ·rename_i h;exact gd_ge (by rw [List.length_take];omega)
theorem gd_drop {b:List UInt8} {n i:Nat} : gd (b.drop n) i=gd b (n+i):=by unfold gd;rw [List.getD_eq_getElem?_getD,List.getD_eq_getElem?_getD,List.getElem?_drop]
theorem gd_zeros {n i:Nat} : gd (List.replicate n 0) i=0:=by
 by_cases h:i<n
 ·rw [gd_lt (by simpa using h)];simp
 ·exact gd_ge (by simp;omega)
theorem ext_gd {a b:List UInt8} (hl:a.length=b.length) (h:∀i,i<a.length→gd a i=gd b i):a=b:=by
 refine List.ext_getElem hl fun i h1 h2=>?_;have:=h i h1;rwa [gd_lt h1,gd_lt h2] at this
theorem gd_longN {b:List UInt8} {n i:Nat} : gd (longN b n) i=if i<n then gd b i else 0:=by
 unfold longN;rw [gd_app,gd_take,gd_zeros,List.length_take];by_cases h1:i<n
 ·by_cases h2:i<b.length
  ·rw [if_pos (by omega),if_pos h1]
  ·rw [if_neg (by omega),if_pos h1,gd_ge (by omega)]
 ·rw [if_neg (by omega),if_neg h1]
def wrB (b:List UInt8) (p:Nat) (c:List UInt8):List UInt8:=patchN (longN b (max b.length (p+c.length))) p c
theorem wrB_len {b c:List UInt8} {p:Nat} : (wrB b p c).length=max b.length (p+c.length):=by
 unfold wrB;rw [patchN_len (by rw [longN_len];omega),longN_len]
theorem gd_wrB {b c:List UInt8} {p i:Nat} : gd (wrB b p c) i=if p≤i∧i<p+c.length then gd c (i-p) else gd b i:=by
 unfold wrB patchN;obtain ⟨m,hm⟩:∃m,m=max b.length (p+c.length):=⟨_,rfl⟩;have h1:b.length≤m:=by omega
 have h2:p+c.length≤m:=by omega
 rw [←hm];have h3:((longN b m).take p).length=p:=by rw [List.length_take,longN_len];omega
 rw [gd_app,gd_app,List.length_append,h3,gd_take,gd_drop,gd_longN,gd_longN];by_cases g1:i<p
 ·rw [if_pos (by omega),if_pos g1,if_pos g1,if_pos (by omega),if_neg (by omega)]
 ·by_cases g2:i<p+c.length
  ·rw [if_pos g2,if_neg g1,if_pos ⟨by omega,g2⟩]
  ·have g3:¬(p≤i∧i<p+c.length):=fun h=>g2 h.2;rw [if_neg g2,show p+c.length+(i-(p+c.length))=i by omega,if_neg g3];split
   ·rfl
   ·rw [gd_ge (by omega)]
theorem wrB_end {b c:List UInt8} : wrB b b.length c=b++c:=by
 refine ext_gd (by rw [wrB_len,List.length_append];omega) fun i hi=>?_;rw [gd_wrB,gd_app];rw [wrB_len] at hi;by_cases h:i<b.length
 ·rw [if_neg (by omega),if_pos h]
 ·rw [if_pos (by omega),if_neg h]
theorem wrB_nil {c:List UInt8} : wrB [] 0 c=c:=by have:=wrB_end (b:=[]) (c:=c);simpa using this
theorem flat_lenZ {z:Nat} {l:List (List UInt8)} (h:∀x∈l,x.length=z):l.flatten.length=l.length*z:=by
 induction l with
 | nil=>simp
 | cons a l ih=>
  rw [List.flatten_cons,List.length_append,h a List.mem_cons_self,ih fun x hx=>h x (List.mem_cons_of_mem _ hx),List.length_cons,Nat.add_mul];omega
theorem flat_drop {z:Nat} {l:List (List UInt8)} (h:∀x∈l,x.length=z) {i:Nat} (hi:i<l.length):(l.flatten.drop (i*z)).take z=l[i]:=by
 induction l generalizing i with
 | nil=>simp at hi
 | cons a l ih=>
  have ha:=h a List.mem_cons_self;cases i with
  | zero=>rw [Nat.zero_mul,List.drop_zero,List.flatten_cons,List.take_left' ha];rfl
  | succ i=>
   rw [List.flatten_cons,Nat.add_mul,Nat.one_mul,Nat.add_comm,←List.drop_drop,List.drop_left' ha,List.getElem_cons_succ];exact ih (fun x hx=>h x (List.mem_cons_of_mem _ hx)) (by simpa using hi)
theorem gd_flat {z:Nat} {l:List (List UInt8)} (h:∀x∈l,x.length=z) (hz:0<z) (i:Nat):gd l.flatten i=gd (l.getD (i / z) []) (i%z):=by
 have hm:=Nat.mod_lt i hz;have hd:i / z*z+i%z=i:=by rw [Nat.mul_comm];exact Nat.div_add_mod i z
 by_cases hi:i / z<l.length
 ·have e:l.getD (i / z) []=l[i / z]:=by simp [hi]
  rw [e,←flat_drop h hi,gd_take,if_pos hm,gd_drop,hd]
 ·have e:l.getD (i / z) []=[]:=by rw [List.getD_eq_getElem?_getD,List.getElem?_eq_none (Nat.le_of_not_lt hi)];rfl
  rw [e,gd_nil,gd_ge];rw [flat_lenZ h];have h1:l.length*z≤i / z*z:=Nat.mul_le_mul_right _ (Nat.le_of_not_lt hi);exact Nat.le_trans h1 (Nat.div_mul_le_self i z)
def nOk (n:List UInt8):Prop:=1≤n.length∧n.length≤32
section
variable {d:Dk} {r:Dk × Nat} {G G' B B':Dk→Prop} {n:List UInt8}
theorem wrong_0 {zs:List Int} (hd:d.dark=false) (hn:nOk n) (hz:∀z∈zs,0≤z):wrongN d n zs=0:=by
 unfold wrongN;rw [if_neg,if_neg (by rw [hd];decide)];rintro (h | h | ⟨z,h1,h2⟩)
 ·have:=hn.1;omega
 ·have:=hn.2;omega
 ·have:=hz z h1;omega
end
open Go Go.HL
def latK (l:List Fr) (k:Nat) (p:Int):Option (List UInt8):=(mget (latM l k) p).map fun i=>(frN l i).b
def latQ (l:List Fr) (p:Int):Option (List UInt8):=latK l l.length p
def manyN (l:List Fr):Nat:=(latC l l.length).toNat
def ovB (fs:List Fr) (z:Nat) (T:List UInt8):List UInt8:=(List.range (manyN fs*z)).map fun i=>match latQ fs ((i / z:Nat)+1) with | some b=>gd b (i%z) | none=>gd T i
theorem ovB_len {fs:List Fr} {z:Nat} {T:List UInt8} : (ovB fs z T).length=manyN fs*z:=by simp [ovB]
theorem gd_ovB {fs:List Fr} {z:Nat} {T:List UInt8} {i:Nat} (h:i<manyN fs*z):gd (ovB fs z T) i=match latQ fs ((i / z:Nat)+1) with | some b=>gd b (i%z) | none=>gd T i:=by
 rw [gd_lt (by rw [ovB_len];exact h)];simp [ovB]
def tgt (fs:List Fr) (z:Nat) (T:List UInt8):List UInt8:=if fs=[] then T else ovB fs z T
section
variable {l:List Fr} {k:Nat}
theorem mget_some {m:List (Int × Nat)} (hn:(m.map (·.1)).Nodup) {p:Int} {i:Nat} : mget m p=some i↔(p,i)∈m:=⟨mget_mem,mget_of_mem hn⟩
theorem latK_some {p:Int} {b:List UInt8} (h:latK l k p=some b):∃i,i∈latO l k∧(frN l i).page=p∧(frN l i).b=b:=by
 unfold latK at h;cases hm:mget (latM l k) p with
 | none=>rw [hm] at h;cases h
 | some i=>
  rw [hm] at h;injection h with h;have h1:=mget_mem hm;have h2:=(lat l k).key _ h1;exact ⟨i,((lat l k).mem i).2 (by rw [←h2];exact h1),h2.symm,h⟩
theorem latK_of {i:Nat} (h:i∈latO l k):latK l k (frN l i).page=some (frN l i).b:=by
 unfold latK;rw [(mget_some (lat l k).nod).2 (((lat l k).mem i).1 h)];rfl
theorem latQ_some {p:Int} {b:List UInt8} (h:latQ l p=some b):∃f∈latF l,f.page=p∧f.b=b:=by
 obtain ⟨i,h1,h2,h3⟩:=latK_some h;exact ⟨frN l i,List.mem_map.2 ⟨i,h1,rfl⟩,h2,h3⟩
theorem latQ_of {f:Fr} (h:f∈latF l):latQ l f.page=some f.b:=by
 obtain ⟨i,h1,rfl⟩:=List.mem_map.1 h;exact latK_of h1
theorem latF_srt (l:List Fr):(latF l).Pairwise fun a b=>a.page<b.page:=by
 unfold latF;rw [List.pairwise_map];exact (lat l l.length).srt
theorem latF_in {f:Fr} (h:f∈latF l):f∈l:=by
 obtain ⟨i,hi,rfl⟩:=latF_mem h;exact frN_mem hi
theorem latM_le (hk:0<k) (hc:(frN l (k-1)).commit≠0):∀p∈latM l k,p.1≤latC l k:=by
 obtain ⟨j,rfl⟩:∃j,k=j+1:=⟨k-1,by omega⟩;intro p hp;rw [Nat.add_sub_cancel] at hc;rw [latM_succ] at hp;rw [latC_succ];unfold stepM at hp;unfold stepC;rw [if_neg hc] at hp⊢;simpa using (List.mem_filter.1 hp).2
end
def EndsC (fs:List Fr):Prop:=fs≠[]∧(frN fs (fs.length-1)).commit≠0
theorem EndsC.pos {fs:List Fr} (h:EndsC fs):0<fs.length:=List.length_pos_iff.2 h.1
theorem EndsC.page {fs:List Fr} (h:EndsC fs) {f:Fr} (hf:f∈latF fs):f.page≤latC fs fs.length:=by
 obtain ⟨i,hi,rfl⟩:=List.mem_map.1 hf;exact latM_le h.pos h.2 _ (((lat fs fs.length).mem i).1 hi)
theorem EndsC.many {fs:List Fr} (h:EndsC fs) (hok:∀f∈fs,okF f=true):1≤manyN fs∧(manyN fs:Int)=latC fs fs.length∧manyN fs≤1048576:=by
 have h1:=latC_le hok (Nat.le_refl fs.length);have h2:latC fs fs.length=(frN fs (fs.length-1)).commit:=by
  obtain ⟨j,hj⟩:∃j,fs.length=j+1:=⟨fs.length-1,by have:=h.pos;omega⟩;have h3:=h.2;rw [hj,Nat.add_sub_cancel] at h3⊢;rw [latC_succ];unfold stepC;rw [if_neg h3]
 have h3:=h.2;unfold manyN;omega
theorem latM_app {fs gs:List Fr} {k:Nat} (h:k≤fs.length):latM (fs++gs) k=latM fs k:=by
 induction k with
 | zero=>rfl
 | succ k ih=>
  have e:frN (fs++gs) k=frN fs k:=by unfold frN;rw [List.getElem?_append_left (by omega)]
  rw [latM_succ,latM_succ,ih (by omega)];unfold stepM;rw [e]
theorem mget_iput {m:List (Int × Nat)} {k k':Int} {v:Nat} : mget (iput m k v) k'=if k'=k then some v else mget m k':=by
 have e:iput m k v=mput m k v:=by
  induction m with
  | nil=>rfl
  | cons p m ih=>unfold iput mput;rw [ih]
 rw [e];exact mget_mput
theorem mget_filter {m:List (Int × Nat)} {c k:Int} : mget (m.filter fun p=>decide (p.1≤c)) k=if k≤c then mget m k else none:=by
 induction m with
 | nil=>simp [mget]
 | cons p m ih=>
  by_cases h:p.1≤c
  ·rw [List.filter_cons_of_pos (by exact decide_eq_true h),mget_cons,mget_cons,ih];by_cases h2:p.1=k
   ·rw [if_pos h2,if_pos h2,if_pos (by omega)]
   ·rw [if_neg h2,if_neg h2]
  ·rw [List.filter_cons_of_neg (by simpa using h),ih,mget_cons];by_cases h2:p.1=k
   ·rw [if_neg (by omega),if_neg (by omega)]
   ·rw [if_neg h2]
theorem latK_succ {l:List Fr} {k:Nat} {p:Int} : latK l (k+1) p=if (frN l k).commit=0∨p≤(frN l k).commit then (if p=(frN l k).page then some (frN l k).b else latK l k p) else none:=by
 have e:∀(c:Prop) [Decidable c] (o:Option Nat),(if c then some k else o).map (fun i=>(frN l i).b)=if c then some (frN l k).b else o.map (fun i=>(frN l i).b):=fun c _ o=>by split<;>rfl
 unfold latK;rw [latM_succ];unfold stepM;by_cases h:(frN l k).commit=0
 ·rw [if_pos h,if_pos (Or.inl h),mget_iput,e]
 ·rw [if_neg h,mget_filter,mget_iput];by_cases h2:p≤(frN l k).commit
  ·have h3:(frN l k).commit=0∨p≤(frN l k).commit:=Or.inr h2;rw [if_pos h2,if_pos h3,e]
  ·rw [if_neg h2,if_neg (fun h3=>h3.elim h h2)];rfl
theorem latK_app {fs gs:List Fr} {p:Int} {k:Nat} (hk:k≤fs.length):latK (fs++gs) k p=latK fs k p:=by
 unfold latK;rw [latM_app hk];cases hm:mget (latM fs k) p with
 | none=>rfl
 | some i=>
  have hi:=latM_lt fs (mget_mem hm);have e:frN (fs++gs) i=frN fs i:=by unfold frN;rw [List.getElem?_append_left (by simp only at hi;omega)]
  simp only [Option.map_some,e]
theorem latQ_app {fs gs:List Fr} {m:Nat} (hg:gs≠[]) (h0:∀j,j+1<gs.length→(frN gs j).commit=0) (hl:(frN gs (gs.length-1)).commit=(m:Int)) (hm:1≤m) (hd:gs.Pairwise fun a b=>a.page≠b.page) (p:Int) :
  latQ (fs++gs) p=if p≤m then (match gs.find? fun f=>decide (f.page=p) with | some f=>some f.b | none=>latQ fs p) else none:=by
 have key:∀c,c<gs.length→latK (fs++gs) (fs.length+c) p=match (gs.take c).find? fun f=>decide (f.page=p) with | some f=>some f.b | none=>latQ fs p:=fun c=>by
  induction c with
  | zero=>intro _;rw [Nat.add_zero,latK_app (Nat.le_refl _)];rfl
  | succ c ih=>
   intro hc;have e:frN (fs++gs) (fs.length+c)=gs[c]:=by
    unfold frN;rw [List.getElem?_append_right (by omega),Nat.add_sub_cancel_left,List.getElem?_eq_getElem (by omega)];rfl
   have e2:frN gs c=gs[c]:=by unfold frN;rw [List.getElem?_eq_getElem (by omega)];rfl
   have h1:=h0 c hc;rw [e2] at h1;rw [←Nat.add_assoc,latK_succ,e,if_pos (.inl h1),ih (by omega),List.take_succ_eq_append_getElem (by omega),List.find?_append];by_cases h2:p=gs[c].page
   ·rw [if_pos h2];have h3:(gs.take c).find? (fun f=>decide (f.page=p))=none:=by
     rw [List.find?_eq_none];intro f hf;obtain ⟨i,hi,rfl⟩:=List.mem_iff_getElem.1 hf;rw [List.length_take] at hi;rw [List.getElem_take];have:=(List.pairwise_iff_getElem.1 hd) i c (by omega) (by omega) (by omega);simp only [decide_eq_true_eq];intro e;exact this (e.trans h2)
    rw [h3,h2];simp
   ·rw [if_neg h2];have h3:[gs[c]].find? (fun f=>decide (f.page=p))=none:=by
     rw [List.find?_cons_of_neg (by simpa using fun e=>h2 e.symm)];rfl
    rw [h3];cases (gs.take c).find? fun f=>decide (f.page=p)<;>rfl
 have hp:0<gs.length:=List.length_pos_iff.2 hg;have hlen:(fs++gs).length=fs.length+(gs.length-1)+1:=by rw [List.length_append];omega
 have e:frN (fs++gs) (fs.length+(gs.length-1))=gs[gs.length-1]:=by
  unfold frN;rw [List.getElem?_append_right (by omega),Nat.add_sub_cancel_left,List.getElem?_eq_getElem (by omega)];rfl
 have e2:frN gs (gs.length-1)=gs[gs.length-1]:=by unfold frN;rw [List.getElem?_eq_getElem (by omega)];rfl
 rw [e2] at hl;unfold latQ;rw [hlen,latK_succ,e,hl];by_cases h1:p≤(m:Int)
 ·rw [if_pos (.inr h1),if_pos h1,key _ (by omega)]
  conv=>rhs;rw [show gs=gs.take (gs.length-1)++[gs[gs.length-1]] by
   rw [←List.take_succ_eq_append_getElem (by omega),show gs.length-1+1=gs.length by omega,List.take_length]]
  rw [List.find?_append];by_cases h2:p=gs[gs.length-1].page
  ·rw [if_pos h2];have h3:(gs.take (gs.length-1)).find? (fun f=>decide (f.page=p))=none:=by
    rw [List.find?_eq_none];intro f hf;obtain ⟨i,hi,rfl⟩:=List.mem_iff_getElem.1 hf;rw [List.length_take] at hi;rw [List.getElem_take];have:=(List.pairwise_iff_getElem.1 hd) i (gs.length-1) (by omega) (by omega) (by omega);simp only [decide_eq_true_eq];intro e;exact this (e.trans h2)
   rw [h3,List.find?_cons_of_pos (by simpa using h2.symm)];rfl
  ·rw [if_neg h2];have h3:[gs[gs.length-1]].find? (fun f=>decide (f.page=p))=none:=by
    rw [List.find?_cons_of_neg (by simpa using fun e=>h2 e.symm)];rfl
   rw [h3];cases (gs.take (gs.length-1)).find? fun f=>decide (f.page=p)<;>rfl
 ·rw [if_neg (by rintro (h | h)<;>omega),if_neg h1]
open Go Go.HL
theorem latQ_find {fs:List Fr} {p:Int} : latQ fs p=((latF fs).find? fun f=>decide (f.page=p)).map (·.b):=by
 cases hf:(latF fs).find? fun f=>decide (f.page=p) with
 | none=>
  rw [List.find?_eq_none] at hf;cases hq:latQ fs p with
  | none=>rfl
  | some b=>obtain ⟨f,h1,h2,_⟩:=latQ_some hq;exact absurd (by simpa using h2) (hf f h1)
 | some f=>
  have h1:=List.mem_of_find?_eq_some hf;have h2:=List.find?_some hf;simp only [decide_eq_true_eq] at h2;rw [←h2,latQ_of h1];rfl
def wrG (ds:List Fr) (z:Nat) (T:List UInt8) (i:Nat):UInt8:=match ds.find? fun f=>decide (f.page=((i / z:Nat):Int)+1) with | some f=>gd f.b (i%z) | none=>gd T i
theorem in_page {i p z:Nat} (hz:0<z):(p*z≤i∧i<p*z+z)↔i / z=p:=by
 constructor
 ·rintro ⟨h1,h2⟩;refine Nat.le_antisymm ?_ ((Nat.le_div_iff_mul_le hz).2 h1);exact Nat.le_of_lt_succ ((Nat.div_lt_iff_lt_mul hz).2 (by rw [Nat.succ_mul];exact h2))
 ·rintro rfl;have h1:=Nat.div_mul_le_self i z;have h2:=Nat.mod_lt i hz;have h3:i / z*z+i%z=i:=by rw [Nat.mul_comm];exact Nat.div_add_mod i z
  omega
theorem mod_page {i p z:Nat} (h:i / z=p):i-p*z=i%z:=by
 have h3:i / z*z+i%z=i:=by rw [Nat.mul_comm];exact Nat.div_add_mod i z
 rw [h] at h3;omega
theorem wrG_snoc {ds:List Fr} {f:Fr} {z p:Nat} {T cur:List UInt8} (hz:0<z) (hf:f.page=(p:Int)+1) (hl:f.b.length=z) (hn:∀g∈ds,g.page≠f.page) (hc:∀i,gd cur i=wrG ds z T i) (i:Nat):gd (wrB cur (p*z) f.b) i=wrG (ds++[f]) z T i:=by
 rw [gd_wrB,hl];unfold wrG;rw [List.find?_append];by_cases h:i / z=p
 ·rw [if_pos ((in_page hz).2 h),mod_page h];have h1:ds.find? (fun f=>decide (f.page=((i / z:Nat):Int)+1))=none:=by
   rw [List.find?_eq_none];intro g hg;simp only [decide_eq_true_eq];rw [h,←hf];exact hn g hg
  rw [h1,List.find?_cons_of_pos (by simp only [decide_eq_true_eq];omega)];rfl
 ·rw [if_neg (fun h1=>h ((in_page hz).1 h1)),hc i];have h1:[f].find? (fun f=>decide (f.page=((i / z:Nat):Int)+1))=none:=by
   rw [List.find?_cons_of_neg (by simp only [decide_eq_true_eq];omega)];rfl
  rw [h1,Option.or_none];rfl
section
variable {fs:List Fr} {z:Nat} {T L M:Option (List UInt8)} (hz:0<z) (hz2:z≤4096) (hok:okL z fs) (he:EndsC fs) (hm:manyN fs*z≤16777216)
include hz hz2 hok he hm
theorem page_in {f:Fr} (hf:f∈latF fs):∃p:Nat,f.page=(p:Int)+1∧p<manyN fs∧f.b.length=z∧p*z+z≤16777216:=by
 have h1:=hok f (latF_in hf);have h2:=(okF_iff.1 h1.1).1;have h3:=he.page hf;have h4:=he.many fun f hf=>(hok f hf).1;refine ⟨(f.page-1).toNat,by omega,by omega,h1.2,?_⟩;have h5:((f.page-1).toNat+1)*z≤manyN fs*z:=Nat.mul_le_mul_right _ (by omega);rw [Nat.succ_mul] at h5;omega
theorem wrG_ov {i:Nat} (hi:i<manyN fs*z) (T:List UInt8):wrG (latF fs) z T i=gd (ovB fs z T) i:=by
 rw [gd_ovB hi,latQ_find];unfold wrG;cases (latF fs).find? fun f=>decide (f.page=((i / z:Nat):Int)+1)<;>rfl
end
open Go Go.HL
structure PgOk (z:Nat) (s:List (List UInt8)):Prop where
 sz:okSz z=true
 len:∀l∈s,l.length=z
 fit:s.length*z≤16777216
 hd:s≠[]→hdOk (s.getD 0 []) z=true
theorem okSz_b {z:Nat} (h:okSz z=true):256≤z∧z≤4096:=by have:=okSz_cases h;omega
theorem PgOk.many {z:Nat} {s:List (List UInt8)} (p:PgOk z s):s.length≤65536:=by
 have h1:=(okSz_b p.sz).1;have h2:s.length*256≤s.length*z:=Nat.mul_le_mul_left _ h1;have:=p.fit;omega
def logB (z salt:Nat) (fs:List Fr):List UInt8:=headN z salt++putsN (nextN salt (headN z salt)) fs
theorem logB_len {z salt:Nat} {fs:List Fr} (h:okL z fs):(logB z salt fs).length=20+fs.length*(16+z):=by unfold logB;rw [List.length_append,headN_len,putsN_len h]
theorem log_scan {z salt:Nat} {fs:List Fr} (hz:z<4294967296) (hs:salt<18446744073709551616) (h:okL z fs):scanF (logB z salt fs)=fs.take (sureN fs):=by
 have:=scan_short_log hz hs h [] (by simp;omega);rw [List.append_nil] at this;exact scanF_of this
theorem okZ_of {z:Nat} (h:okSz z=true):okZ (z:Int)=true:=by have:=okSz_cases h;exact decide_eq_true (by omega)
def jsign:List UInt8:=[116,111,109,101,32,106,110,108]
def okJ (n k:Nat):Bool:=okSz n && decide (k≤1048576∧n*k≤16777216)
def jfrontN (n k s:Nat):List UInt8:=jsign++fixedN n 4++fixedN k 4++fixedN s 8
def jheadN (n k s:Nat):List UInt8:=jfrontN n k s++fixedN (sumN (jfrontN n k s)) 4
def jfootN (s:Nat) (b:List UInt8):List UInt8:=fixedN (sumN (fixedN s 8++b)) 4
def jbodyN (p:Nat) (b:List UInt8):List UInt8:=fixedN p 4++b
def jputN (s p:Nat) (b:List UInt8):List UInt8:=jbodyN p b++jfootN s (jbodyN p b)
def okE (f:Fr):Bool:=decide (1≤f.page∧f.page≤1048576∧f.commit=0) && okSz f.b.length
theorem okJ_1 {n k:Nat} (h:okZ (n:Int)=false):okJ n k=false:=by rw [okZ_nat] at h;simp [okJ,h]
theorem okJ_2 {n k:Nat} (h:¬k≤1048576):okJ n k=false:=by simp [okJ,h]
theorem okJ_3 {n k:Nat} (h:¬n*k≤16777216):okJ n k=false:=by simp [okJ,h]
theorem okJ_t {n k:Nat} (h:okZ (n:Int)=true) (h1:k≤1048576) (h2:n*k≤16777216):okJ n k=true:=by rw [okZ_nat] at h;simp [okJ,h,h1,h2]
theorem okZ_le {n:Nat} (h:okZ (n:Int)=true):n=256∨n=512∨n=1024∨n=2048∨n=4096:=by
 have:=of_decide_eq_true h;omega
theorem okZ_mul {n k:Nat} (h:okZ (n:Int)=true) (hk:k≤1048576):n*k≤4294967296:=
 Nat.le_trans (Nat.mul_le_mul (show n≤4096 by have:=okZ_le h;omega) hk) (by decide)
theorem okZ_quo {n k:Nat} (h:okZ (n:Int)=true):k≤16777216 / n↔n*k≤16777216:=by
 rcases okZ_le h with rfl | rfl | rfl | rfl | rfl<;>omega
theorem jheadN_len (n k s:Nat):(jheadN n k s).length=28:=by simp [jheadN,jfrontN,jsign,fixedN_len]
theorem jputN_len (s p:Nat) (b:List UInt8):(jputN s p b).length=b.length+8:=by simp [jputN,jbodyN,jfootN,fixedN_len];omega
theorem okE_1 {p q:Int} {l:List UInt8} (h:¬(1≤p∧p≤1048576∧q=0)):okE ⟨p,q,l⟩=false:=by simp only [okE,decide_eq_false h,Bool.false_and]
theorem okE_2 {p q:Int} {l:List UInt8} (h:okZ (l.length:Int)=false):okE ⟨p,q,l⟩=false:=by rw [okZ_nat] at h;simp only [okE,h,Bool.and_false]
theorem okE_t {p q:Int} {l:List UInt8} (h:okZ (l.length:Int)=true) (h1:1≤p∧p≤1048576∧q=0):okE ⟨p,q,l⟩=true:=by rw [okZ_nat] at h;simp only [okE,h,decide_eq_true h1,Bool.and_true]
end Go.Proofs.YtndlpekckpdncaaGreat
