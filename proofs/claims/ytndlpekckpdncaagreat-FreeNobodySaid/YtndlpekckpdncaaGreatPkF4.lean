/- The store's inner functions: what is wrong with it, how many pages there are, a page is read, put, cut off. Conditions: those that each names. Any head is encoded. Conditions: numbers of 64 bits. What a store's functions make of the document's state. Conditions: those that each fact names. The store's calls, told by the document's state. Conditions: the store is in order. Calls of the store where it is known what comes. Conditions: those that each fact names. Heads of files, as the document has them: Check, Encode, Decode. Conditions: numbers in their ranges. Rows of pages in memory, and the document's pager, in plain terms and in memory. Conditions: those that each fact names. The document's store in memory: rows of pages, rows of rows. Conditions: those that each fact names. The document's pager: Pages, Begin, Read, Rollback, Checkpoint, Open, Write, Resize; Same of pages. Conditions: the state is readable. The document's store: with, Begin, SetHead, Write. Conditions: the state is readable. A disk as one item that is told in plain terms alone; its calls so. Conditions: those that each fact names. The pager that logs ahead, its small parts: a page's size, a file removed for good, a whole file, a page's head. Conditions: the disk is in order. The pager that logs ahead: what is told first, the power gone, the log forgotten, the mark and the log removed. Conditions: the disk is in order. The pager that logs ahead: what is told of it; its pages are read. Conditions: the disk is in order; the pages stand where the pager has them. Files of a disk, byte by byte: what changes do to them, how the power goes, and what a crash may leave. Conditions: those that each fact names. Carrying over and clearing away, in plain terms: what is left when it is done, and what a crash may leave wherever the power goes. Conditions: those that each fact names. The pager that keeps a journal, in plain terms: what each of its functions does to the disk, the cache and its own state. Conditions: those that each fact names. The pager that keeps a journal, in memory: its box, the map of what is kept, and its disk as one item that turns (the core); the cache beside it. Conditions: those that each fact names. The pager that keeps a journal: its state, its present pages, a call's end, a page's bytes in the file. Conditions: the pager is in order. -/
import Derived.Test.YtndlpekckpdncaaGreatPkF3
set_option maxRecDepth 100000
set_option maxHeartbeats 2000000
set_option linter.all false
namespace Go.Proofs.YtndlpekckpdncaaGreat
open Go Go.HL
def wthE (b:Bool):Nat:=if b=true then 0 else 10
theorem wthE_t {b:Bool} (h:b=true):wthE b=0:=if_pos h
theorem wthE_f {b:Bool} (h:¬b=true):wthE b=10:=if_neg h
theorem wthE_n {b:Bool} (h:¬(wthE b:Int)≠0):b=true:=by
 cases b
 ·exact absurd (by decide) h
 ·rfl
theorem wthE_y {b:Bool} (h:(wthE b:Int)≠0):b=false:=by
 cases b
 ·rfl
 ·exact absurd rfl h
theorem bsE_put {ov:List (Int × RB)} {k:Int} {x:RB} : aput (bsE ov) k (bsV x)=bsE (mput ov k x):=aput_mp
theorem bsE_del {ov:List (Int × RB)} {k:Int} : adel (bsE ov) k=bsE (mdel ov k):=adel_mp
theorem susable_any {G:Pgr} {h:Heap} {so:Nat} {r:RS G.α} (hb:(sboxI G so r).p h) :
  HC Tryz.prog 69 #[.pointer (some ⟨so,0,none⟩)] h (fun v h'=>v=.int .i64 0∧h'=h):=by
 refine HC.go Tryz.func69 11 ?_;refine .seq<|.r<|.z .asI<|.nil ?_;refine .seq<|.block fun K0 hK0=>.seq<|.r<|.z .mvP<|.z (.pEqS T.pt27)<|.z .asB<|.nil ?_;refine .cf<|.seq<|.r<|.z .mvP<|.z .nil<|.z (.fa T.fd123_6)<|.z (.ldx T.ag4 hb)<|.z .asB<|.nil ?_;refine .cf<|.skip<|.end<|hK0 _ _<|.seq<|.r<|.z .asI<|.nil ?_;refine .ret ⟨.int .i64 0,Res.one rfl rfl,⟨rfl,rfl⟩⟩
theorem swithin_any {G:Pgr} {h:Heap} {so:Nat} {r:RS G.α} {i:Bool} (hb:(sboxI G so r).p h) (hi:r.in_=i) :
  HC Tryz.prog 82 #[.pointer (some ⟨so,0,none⟩)] h (fun v h'=>v=.int .i64 (wthE i:Int)∧h'=h):=by
 refine HC.go Tryz.func82 14 ?_;refine .seq<|.r<|.z .asI<|.nil ?_;refine .seq<|.seq<|.r<|.z .mvP<|.k 5 .func (susable_any (G:=G) (r:=r) hb)<|.z .asI<|.nil ?_;refine .seq<|.r<|.z .mvI<|.z .neq<|.nil ?_;refine .cf<|.skip<|.seq<|.seq<|.r<|.z .mvP<|.z .nil<|.z (.fa T.fd123_3)<|.z (.ldx T.ag4 hb)<|.z .not<|.nil ?_;refine .cond (fun C1=>?_) (fun C1=>?_)
 ·
  refine .seq<|.r<|.z .asI<|.nil ?_;refine .ret ⟨.int .i64 10,Res.one rfl rfl,⟨by rw [wthE_f (by rw [←hi];simpa using C1)];rfl,rfl⟩⟩
 refine .skip<|.seq<|.r<|.z .asI<|.nil ?_;refine .ret ⟨.int .i64 0,Res.one rfl rfl,⟨by rw [wthE_t (by rw [←hi];simpa using C1)];rfl,rfl⟩⟩
theorem spages_any {G:Pgr} {h:Heap} {so:Nat} {r:RS G.α} {i:Bool} {m k:Nat} (hb:(sboxI G so r).p h) (hp:(G.it r.p r.pF r.a).p h) (h1:r.in_=i) (h2:r.many=m) (h3:(G.sure r.a).length=k) :
  HC Tryz.prog 70 #[.pointer (some ⟨so,0,none⟩)] h (fun v h'=>v=.int .i64 ((if i=true then m else k:Nat):Int)∧h'=h):=by
 refine HC.go Tryz.func70 17 ?_;refine .seq<|.r<|.z .asI<|.nil ?_;refine .seq<|.seq<|.r<|.z .mvP<|.z .nil<|.z (.fa T.fd123_3)<|.z (.ldx T.ag4 hb)<|.nil ?_;refine .cond (fun C0=>?_) (fun C0=>?_)
 ·
  refine .seq<|.r<|.z .mvP<|.z .nil<|.z (.fa T.fd123_4)<|.z (.fa T.fd120_0)<|.z (.ldx T.ag3 hb)<|.z .asI<|.nil ?_;refine .ret ⟨.int .i64 (r.many:Int),Res.one rfl rfl,⟨by rw [if_pos (h1▸C0),h2],rfl⟩⟩
 refine .skip<|.seq<|.r<|.z .mvP<|.z .nil<|.z (.fa T.fd123_0)<|.z (.ldx T.ag116 hb)<|.k 16 (.inv (G.mPages _)) (G.cPages (F:=r.pF) (a:=r.a) hp)<|.z .asI<|.nil ?_;refine .ret ⟨.int .i64 ((G.sure r.a).length:Int),Res.one rfl rfl,⟨by rw [if_neg (by rw [←h1,C0];decide),h3],rfl⟩⟩
theorem stold_any {G:Pgr} {h:Heap} {so:Nat} {r:RS G.α} (hb:(sboxI G so r).p h) :
  HC Tryz.prog 101 #[.pointer (some ⟨so,0,none⟩),.int .i64 0] h (fun v h'=>v=.int .i64 0∧h'=h):=by
 refine HC.go Tryz.func101 11 ?_;refine .seq<|.r<|.z .asI<|.nil ?_;refine .seq<|.seq<|.r<|.z .mvI<|.z .eql<|.nil ?_;refine .cf<|.skip<|.seq<|.r<|.z .mvI<|.z .asI<|.nil ?_;refine .ret ⟨.int .i64 0,Res.one rfl rfl,⟨rfl,rfl⟩⟩
theorem sread_any {G:Pgr} {h:Heap} {so:Nat} {r:RS G.α} {E:Nat→Prop} {no:Int} {b:List UInt8} (ok:Hp h (starI [G.it r.p r.pF r.a,sboxI G so r,nowI r.om r.ov]).F [G.it r.p r.pF r.a,sboxI G so r,nowI r.om r.ov] [pbsI E r.ov] h) (hno:1≤no) (hbl:b.length≤1000000) (hb:r.in_=true→∃mb,r.om=some mb) (h1:r.in_=true→∀x,mget r.ov no=some x→x.l=b) (h2:r.in_=false∨mget r.ov no=none→(G.sure r.a)[(no-1).toNat]? = some b) :
  HC Tryz.prog 71 #[.pointer (some ⟨so,0,none⟩),.int .i64 no] h (fun v h'=>∃F' a' x c,v=.tuple #[.slice x b.length c,.int .i64 0]∧G.sure a'=G.sure r.a∧Hp h (starI [G.it r.p r.pF r.a,sboxI G so r,nowI r.om r.ov]).F [capI 1 5 (x,b.length,c) (b.map bv),G.it r.p F' a',sboxI G so r,nowI r.om r.ov] [] h'):=by
 obtain ⟨p,lg,z,in_,many,om,ov,sa,sc,svl,pF,ga⟩:=r;dsimp only at ok hb h1 h2⊢;refine HC.go Tryz.func71 40 ?_;refine .seq<|.r<|.z .asS<|.z .asI<|.nil ?_;refine .seq<|.seq<|.r<|.z .mvP<|.z .nil<|.z (.fa T.fd123_3)<|.z (.ldx T.ag4 ok.m1)<|.nil ?_;refine .cond (fun C0=>?_) (fun C0=>?_)
 ·
  obtain ⟨m,rfl⟩:=hb C0;have ok:=Hp.nowSome (ok.n2);refine .seq<|.r<|.z .mvP<|.z .nil<|.z (.fa T.fd123_4)<|.z (.fa T.fd120_1)<|.z (.ldx T.ag118 ok.m2)<|.z .mvI<|.z (.lk2 (KV.int .i64) no (v:=.slice (bsA ov no) (bsN ov no) (bsC ov no)) T.mp118 (inB_iff T.in3) T.zr44 ok.m0 (by exact bs_get) (by exact bs_is))<|.z .mvU<|.z .ex<|.z .ex<|.z .asS<|.z .asB<|.nil ?_;refine .seq<|.r<|.z .mvB<|.nil ?_;refine .cond (fun C1=>?_) (fun C1=>?_)
  ·
   obtain ⟨x,hx⟩:=Option.isSome_iff_exists.1 C1;have hxl:=h1 C0 x hx;have ok:=ok.d0 (rdI E E (bsA ov no,bsN ov no,bsC ov no) b) (Pbs.rd ok.r0 hx hxl) (fun _ h=>h.elim id id);obtain hbn:bsN ov no=b.length:=ok.r0.n;rw [hbn] at ok⊢;refine .seq<|.r<|.z .mvS<|.c' 26 .func (bclone_any (a:=(bsA ov no)) (c:=(bsC ov no)) (l:=b) ok.r0 (by omega)) ?_;rintro _ η1 own;obtain ⟨ya1,yc1,rfl⟩:=own.formB;have ok:=ok.own own;refine .z .asS<|.z .asI<|.nil ?_;refine .ret ⟨.tuple #[.slice ya1 ((b).length) yc1,.int .i64 0],Res.two rfl rfl rfl,⟨pF,ga,ya1,yc1,rfl,rfl,(ok.n1.n3.n3.n3).e0⟩⟩
  have h3:=h2 (.inr (by simpa using C1));refine .skip<|.seq<|.r<|.z .mvP<|.z .nil<|.z (.fa T.fd123_0)<|.z (.ldx T.ag116 ok.m2)<|.z .mvI<|.c' 33 (.inv (G.mRead _)) (G.cRead (p:=p) (F:=pF) (a:=ga) (no:=no) (b:=b) (ok.n1).loc0 hno h3) ?_;rintro _ η2 ⟨Fg1,ag1,xg1,cg1,rfl,hsg1,q⟩;have ok:=(ok.n1).lift2 q;refine .z .mvU<|.z .ex<|.z .ex<|.z .asS<|.z .asI<|.nil ?_;refine .seq<|.r<|.z .mvS<|.z .mvP<|.z .mvI<|.k 39 .func (stold_any (G:=G) (r:=(⟨p,lg,z,in_,many,(some m),ov,sa,sc,svl,Fg1,ag1⟩:RS G.α)) ok.m3)<|.z .asS<|.z .asI<|.nil ?_;refine .ret ⟨.tuple #[.slice xg1 b.length cg1,.int .i64 0],Res.two rfl rfl rfl,⟨Fg1,ag1,xg1,cg1,rfl,hsg1,(ok.n2.n3.n3.n3).e0⟩⟩
 have h3:=h2 (.inl (by simpa using C0));refine .skip<|.seq<|.r<|.z .mvP<|.z .nil<|.z (.fa T.fd123_0)<|.z (.ldx T.ag116 ok.m1)<|.z .mvI<|.c' 33 (.inv (G.mRead _)) (G.cRead (p:=p) (F:=pF) (a:=ga) (no:=no) (b:=b) (ok).loc0 hno h3) ?_;rintro _ η3 ⟨Fg2,ag2,xg2,cg2,rfl,hsg2,q⟩;have ok:=(ok).lift2 q;refine .z .mvU<|.z .ex<|.z .ex<|.z .asS<|.z .asI<|.nil ?_;refine .seq<|.r<|.z .mvS<|.z .mvP<|.z .mvI<|.k 39 .func (stold_any (G:=G) (r:=(⟨p,lg,z,in_,many,om,ov,sa,sc,svl,Fg2,ag2⟩:RS G.α)) ok.m2)<|.z .asS<|.z .asI<|.nil ?_;refine .ret ⟨.tuple #[.slice xg2 b.length cg2,.int .i64 0],Res.two rfl rfl rfl,⟨Fg2,ag2,xg2,cg2,rfl,hsg2,(ok).e0⟩⟩
theorem sput_any {G:Pgr} {h:Heap} {so mb:Nat} {r:RS G.α} {a:Option Addr} {c:Nat} {l:List UInt8} {no:Nat} (ok:Hp h (starI [sboxI G so r,mapI (Value.int .i64) mb (bsE r.ov)]).F [sboxI G so r,mapI (Value.int .i64) mb (bsE r.ov)] [] h) (hm:r.om=some mb) :
  HC Tryz.prog 83 #[.pointer (some ⟨so,4,none⟩),.int .i64 (no:Int),.slice a l.length c] h (fun v h'=>v=.tuple #[]∧Hp h (starI [sboxI G so r,mapI (Value.int .i64) mb (bsE r.ov)]).F [sboxI G so ({ r with many:=max r.many no,ov:=mput r.ov (no:Int) ⟨a,c,l⟩ }),mapI (Value.int .i64) mb (bsE (mput r.ov (no:Int) ⟨a,c,l⟩))] [] h'):=by
 obtain ⟨p,lg,z,in_,many,om,ov,sa,sc,svl,pF,ga⟩:=r;dsimp only at ok hm⊢;subst hm;refine HC.go Tryz.func83 21 ?_;refine .seq<|.r<|.z .mvP<|.z .nil<|.z (.fa T.fd120_1)<|.z (.ldx T.ag118 ok.m0)<|.z .mvI<|.z .mvS<|.ur' (.mpu (KV.int .i64) V.sbI (no:Int) (v:=.slice a l.length c) T.mp118 (inB_iff T.in3) ok.n1) ?_;rintro η1 ok;rw [show (Value.slice a l.length c:Value)=bsV ⟨a,c,l⟩ from rfl,bsE_put] at ok;refine .nil ?_;refine .r<|.z .mvP<|.z .mvP<|.z .nil<|.z (.fa T.fd120_0)<|.z (.ldx T.ag3 ok.m1)<|.z .mvI<|.z .maxn<|.z .nil<|.z (.fa T.fd120_0)<|.ur' (.stI T.sz3 ok.n1) ?_;rintro η2 ⟨ok,cg⟩;refine .nil ?_;refine .end<|⟨.tuple #[],Res.none rfl,⟨rfl,ok⟩⟩
theorem bsE_some {l:List (Int × RB)} {i:Nat} {p:Int × Value} (h:(bsE l)[i]? = some p):∃q,l[i]? = some q∧(q.1,bsV q.2)=p:=by
 unfold bsE at h;rw [List.getElem?_map] at h;cases hq:l[i]? with
 | none=>rw [hq] at h;cases h
 | some q=>rw [hq] at h;injection h with h;exact ⟨q,rfl,h⟩
theorem bsE_erase {l:List (Int × RB)} {i:Nat} : (bsE l).eraseIdx i=bsE (l.eraseIdx i):=(map_erase _ _ _).symm
theorem erase_memR {td:List (Int × RB)} {i:Nat} {p q:Int × RB} (hp:p∈td) (hq:td[i]? = some q) (hne:p≠q):p∈td.eraseIdx i:=by
 rw [List.mem_eraseIdx_iff_getElem?];obtain ⟨j,hj⟩:=List.mem_iff_getElem?.1 hp;refine ⟨j,fun e=>?_,hj⟩;subst e;rw [hj] at hq;injection hq with hq;exact hne hq
theorem filt_del {L:List (Int × RB)} {c k:Int} (h:c<k):(mdel L k).filter (fun p=>decide (p.1≤c))=L.filter fun p=>decide (p.1≤c):=by
 unfold mdel;rw [List.filter_filter];refine List.filter_congr fun p _=>?_;by_cases h1:p.1≤c
 ·have:p.1≠k:=by omega
  simp [h1,this]
 ·simp [h1]
theorem scut_any {G:Pgr} {h:Heap} {so mb n:Nat} {r:RS G.α} (ok:Hp h (starI [sboxI G so r,mapI (Value.int .i64) mb (bsE r.ov)]).F [sboxI G so r,mapI (Value.int .i64) mb (bsE r.ov)] [] h) (hm:r.om=some mb) :
  HC Tryz.prog 99 #[.pointer (some ⟨so,4,none⟩),.int .i64 (n:Int)] h (fun v h'=>v=.tuple #[]∧Hp h (starI [sboxI G so r,mapI (Value.int .i64) mb (bsE r.ov)]).F [sboxI G so ({ r with many:=n,ov:=r.ov.filter fun p=>decide (p.1≤(n:Int)) }),mapI (Value.int .i64) mb (bsE (r.ov.filter fun p=>decide (p.1≤(n:Int))))] [] h'):=by
 obtain ⟨p,lg,z,in_,many,om,ov,sa,sc,svl,pF,ga⟩:=r;dsimp only at ok hm⊢;subst hm;refine HC.go Tryz.func99 26 ?_;refine .seq<|.seq<|.r<|.z .mvP<|.z .nil<|.z (.fa T.fd120_1)<|.z (.ldx T.ag118 ok.m0)<|.a' 9 (.rng T.mp118 ok.n1) ?_;rintro _ η1 ⟨ib1,rfl,ok⟩;refine .nil ?_;refine .block fun K0 hK0=>.loop (fun m s hh=>∃(L td:List (Int × RB)),Has s [(0,.pointer (some ⟨so,4,none⟩)),(1,.int .i64 (n:Int)),(9,.pointer (some ⟨ib1,0,none⟩))]∧Hp h (starI [sboxI G so ((⟨p,lg,z,in_,many,some mb,ov,sa,sc,svl,pF,ga⟩:RS G.α)),mapI (Value.int .i64) mb (bsE ov)]).F [itI (Value.int .i64) ib1 mb (bsE L) (bsE td),boxI so 123 [.iface G.tid (.pointer (some ⟨p,0,none⟩)),.pointer lg,.int .i64 (z:Int),.bool in_,.int .i64 (many:Int),.map (some mb),.slice sa svl.length sc,.bool false]] [] hh∧L.filter (fun p:Int × RB=>decide (p.1≤(n:Int)))=ov.filter (fun p:Int × RB=>decide (p.1≤(n:Int)))∧(∀p∈L,p.1≤(n:Int)∨p∈td)∧m=td.length) ?_ ?_
 ·exact ⟨_,ov,ov,⟨rfl,rfl,rfl,trivial⟩,ok.n1.n1,rfl,fun p h=>.inr h,rfl⟩
 rintro _ _ η2 ⟨L,td,hs,ok,hLf,hLt,rfl⟩ J0 hJ0;refine .frame hs fun τ=>?_;refine .seq<|.r<|.a' 10 (.nxt ok) ?_;rintro _ η3 (⟨hnil,rfl,ok⟩ | ⟨ipq1,pq1,hpq1,rfl,ok⟩)
 ·
  have htd:td=[]:=by simpa [bsE] using hnil
  have hLe:L=ov.filter (fun p:Int × RB=>decide (p.1≤(n:Int))):=by rw [←hLf];exact (List.filter_eq_self.2 fun p hp=>decide_eq_true ((hLt p hp).resolve_right (by rw [htd];simp))).symm
  have ok:=ok.itm;rw [hLe] at ok;refine .z .ex<|.nil ?_;refine .seq<|.cf<|.exit<|hK0 _ _<|.r<|.z .mvP<|.z .mvI<|.z .nil<|.z (.fa T.fd120_0)<|.ur' (.stI T.sz3 ok.n1) ?_;rintro η4 ⟨ok,cg⟩;refine .nil ?_;refine .end<|⟨.tuple #[],Res.none rfl,⟨rfl,ok⟩⟩
 obtain ⟨q,hq,hpe⟩:=bsE_some hpq1;have hk1:pq1.1=q.1:=by rw [←hpe]
 rw [bsE_erase] at ok;refine .z .ex<|.nil ?_;refine .seq<|.ct<|.skip<|.block fun K1 hK1=>.seq<|.r<|.z (.ent (ok.m0).2)<|.z .ex<|.z .asI<|.nil ?_;refine .seq<|.r<|.z .mvI<|.z .mvI<|.z .gtr<|.nil ?_;refine .cd (fun C1=>?_) (fun C1=>?_)
 ·
  refine .r<|.z .mvP<|.z .nil<|.z (.fa T.fd120_1)<|.z (.ldx T.ag118 ok.m1)<|.z .mvI<|.a0' (.delC (KV.int .i64) T.mp118 (inB_iff T.in3) ok) ?_;rintro _ η5 ⟨rfl,ok⟩;rw [hk1,bsE_del] at ok;refine .nil ?_;refine .end<|hK1 _ _<|.end<|hJ0 _ _ _ ⟨mdel L q.1,td.eraseIdx ipq1,⟨rfl,rfl,rfl,trivial⟩,ok.n1.n1,by rw [filt_del (by omega)];exact hLf,fun p hp=>(hLt p (List.mem_filter.1 hp).1).imp id fun h=>erase_memR h hq (fun e=>by have:=(List.mem_filter.1 hp).2;rw [e] at this;simp at this),rfl⟩ (by rw [List.length_eraseIdx_of_lt (List.getElem?_eq_some_iff.1 hq).1];have:=(List.getElem?_eq_some_iff.1 hq).1;omega)
 have ok:=(ok).itc;refine .skip<|.end<|hK1 _ _<|.end<|hJ0 _ _ _ ⟨L,td.eraseIdx ipq1,⟨rfl,rfl,rfl,trivial⟩,ok.n1.n1,hLf,fun p hp=>(hLt p hp).elim .inl fun h=>(Classical.em (p=q)).elim (fun e=>.inl (by rw [e];omega)) fun e=>.inr (erase_memR h hq e),rfl⟩ (by rw [List.length_eraseIdx_of_lt (List.getElem?_eq_some_iff.1 hq).1];have:=(List.getElem?_eq_some_iff.1 hq).1;omega)
def i64N (z:Int):Prop:=-9223372036854775808≤z∧z≤9223372036854775807
structure HdIn (H:Hd):Prop where
 a:i64N H.size
 b:i64N H.pages
 c:i64N H.free
 d:i64N H.many
 e:i64N H.cookie
 f:i64N H.version
theorem encB_any {h:Heap} {z0 z1 z2 z3 z4 z5:Int} (h0:i64N z0) (h1:i64N z1) (h2:i64N z2) (h3:i64N z3) (h4:i64N z4) (h5:i64N z5) (hc:¬ChkP ⟨z0,z1,z2,z3,z4,z5⟩):HC Tryz.prog 98 #[.agg #[.int .i64 z0,.int .i64 z1,.int .i64 z2,.int .i64 z3,.int .i64 z4,.int .i64 z5]] h (fun v h'=>v=.tuple #[.slice none 0 0,.int .i64 1]∧Ext h h'):=by
 have ok:=Hp.nil h none_;refine HC.go Tryz.func98 12 ?_;refine .seq<|.r<|.a' 1 (.bxA (cs:=[.int .i64 z0,.int .i64 z1,.int .i64 z2,.int .i64 z3,.int .i64 z4,.int .i64 z5]) ok) ?_;rintro _ η1 ⟨pb1,rfl,ok,xe⟩;refine .z .asS<|.z .asI<|.nil ?_;refine .seq<|.seq<|.r<|.z (.ldb T.ag38 ok.m0 T.sz38)<|.c' 6 .func (check_any (z0:=z0) (z1:=z1) (z2:=z2) (z3:=z3) (z4:=z4) (z5:=z5) h0 h1 h2 h3 h4 h5) ?_;rintro _ η2 ⟨rfl,hx⟩;have ok:=ok.ext hx;refine .z .asI<|.nil ?_;refine .seq<|.r<|.z .mvI<|.z .neq<|.nil ?_;refine .cd (fun C0=>?_) (fun C0=>?_)
 ·
  refine .seq<|.r<|.z .mvI<|.z .asS<|.z .asI<|.nil ?_;refine .ret ⟨.tuple #[.slice none 0 0,.int .i64 (chkC ⟨z0,z1,z2,z3,z4,z5⟩:Int)],Res.two rfl rfl rfl,⟨by rw [chk_n hc];rfl,ok.chg⟩⟩
 exact absurd (by rw [chk_n hc];decide) C0
theorem encG_any {h:Heap} {n0 n1 n2 n3 n4 n5:Nat} (h0:n0<4294967296) (h1:n1<4294967296) (h2:n2<4294967296) (h3:n3<4294967296) (h4:n4<4294967296) (h5:n5<4294967296) (hc:ChkP ⟨((n0:Nat):Int),((n1:Nat):Int),((n2:Nat):Int),((n3:Nat):Int),((n4:Nat):Int),((n5:Nat):Int)⟩):HC Tryz.prog 98 #[.agg #[.int .i64 (n0:Int),.int .i64 (n1:Int),.int .i64 (n2:Int),.int .i64 (n3:Int),.int .i64 (n4:Int),.int .i64 (n5:Int)]] h (fun v h'=>∃w,v=.tuple #[w,.int .i64 0]∧Own h h' 1 5 w ((hdB [n0,n1,n2,n3,n4,n5]).map bv)):=by
 have ok:=Hp.nil h none_;refine HC.go Tryz.func98 12 ?_;refine .seq<|.r<|.a' 1 (.bxA (cs:=[.int .i64 (n0:Int),.int .i64 (n1:Int),.int .i64 (n2:Int),.int .i64 (n3:Int),.int .i64 (n4:Int),.int .i64 (n5:Int)]) ok) ?_;rintro _ η1 ⟨pb1,rfl,ok,xe⟩;refine .z .asS<|.z .asI<|.nil ?_;refine .seq<|.seq<|.r<|.z (.ldb T.ag38 ok.m0 T.sz38)<|.c' 6 .func (check_any (z0:=(n0:Int)) (z1:=(n1:Int)) (z2:=(n2:Int)) (z3:=(n3:Int)) (z4:=(n4:Int)) (z5:=(n5:Int)) (by omega) (by omega) (by omega) (by omega) (by omega) (by omega)) ?_;rintro _ η2 ⟨rfl,hx⟩;have ok:=ok.ext hx;refine .z .asI<|.nil ?_;refine .seq<|.r<|.z .mvI<|.z .neq<|.nil ?_;refine .cd (fun C0=>?_) (fun C0=>?_)
 ·
  exact absurd (by rw [chk_y hc];rfl) C0
 refine .skip<|.seq<|.r<|.z (.ldb T.ag38 ok.m0 T.sz38)<|.c' 11 .func (hbytes_any (n0:=n0) (n1:=n1) (n2:=n2) (n3:=n3) (n4:=n4) (n5:=n5) (by omega) (by omega) (by omega) (by omega) (by omega) (by omega)) ?_;rintro _ η3 own;obtain ⟨ya1,yc1,rfl⟩:=own.formB;have ok:=ok.own own;refine .z .asS<|.z .asI<|.nil ?_;refine .ret ⟨.tuple #[.slice ya1 ((hdB [n0,n1,n2,n3,n4,n5]).length) yc1,.int .i64 0],Res.two rfl rfl rfl,⟨_,rfl,(ok).toOwn⟩⟩
theorem encN_any {h:Heap} {H:Hd} (hr:HdIn H):HC Tryz.prog 98 #[H.val] h (fun v h'=>(¬ChkP H∧v=.tuple #[.slice none 0 0,.int .i64 1]∧Ext h h')∨(ChkP H∧∃w,v=.tuple #[w,.int .i64 0]∧Own h h' 1 5 w (H.enc.map bv))):=by
 by_cases hc:ChkP H
 ·have h0:=okZ_cases hc.1;have h1:=hc.2.1;have h2:=hc.2.2.1;have h3:=hc.2.2.2;obtain ⟨a,b,c,d,e,f⟩:=H;simp only at h0 h1 h2 h3;obtain ⟨a,rfl⟩:∃n:Nat,a=(n:Int):=⟨a.toNat,by omega⟩;obtain ⟨b,rfl⟩:∃n:Nat,b=(n:Int):=⟨b.toNat,by omega⟩;have hcb:0≤c∧c<4294967296:=by
   by_cases h:d=0
   ·have:=h2.2.2.1 h;omega
   ·have:=h2.2.2.2 (by omega);omega
  obtain ⟨c,rfl⟩:∃n:Nat,c=(n:Int):=⟨c.toNat,by omega⟩;obtain ⟨d,rfl⟩:∃n:Nat,d=(n:Int):=⟨d.toNat,by omega⟩;obtain ⟨e,rfl⟩:∃n:Nat,e=(n:Int):=⟨e.toNat,by omega⟩;obtain ⟨f,rfl⟩:∃n:Nat,f=(n:Int):=⟨f.toNat,by omega⟩;have hdb:d<4294967296:=by have:=h1.2.1;have:=h2.2.1;omega
  have heb:e<4294967296:=by have:=h3.1.2;omega
  have hfb:f<4294967296:=by have:=h3.2.2;omega
  exact (encG_any (n0:=a) (n1:=b) (n2:=c) (n3:=d) (n4:=e) (n5:=f) (by omega) (by omega) (by omega) hdb heb hfb hc).mono fun v h' q=>.inr ⟨hc,q⟩
 ·exact (encB_any hr.a hr.b hr.c hr.d hr.e hr.f hc).mono fun v h' q=>.inl ⟨hc,q⟩
section
variable {G:Pgr} {r:RS G.α} {w:St} (V:SVw G r w)
include V
theorem SVw.pgs:(if r.in_=true then r.many else (G.sure r.a).length)=w.pgs.length:=by
 unfold St.pgs;rw [V.in_];split
 ·rename_i h;exact (V.now h).2.len.symm
 ·rw [V.sure]
theorem SVw.pgk:PgsK w.z w.pgs:=by
 unfold St.pgs;split
 ·exact V.ok.now
 ·exact V.ok.sure
theorem SVw.zc:w.z=256∨w.z=512∨w.z=1024∨w.z=2048∨w.z=4096:=okSz_c V.ok.z
theorem SVw.few:w.pgs.length≤65536:=by
 have h1:=V.pgk.many;have h2:=V.zc;have h3:w.pgs.length*256≤w.pgs.length*w.z:=Nat.mul_le_mul_left _ (by omega);omega
theorem SVw.nowfew:w.now.length≤65536:=by
 have h1:=V.ok.now.many;have h2:=V.zc;have h3:w.now.length*256≤w.now.length*w.z:=Nat.mul_le_mul_left _ (by omega);omega
theorem SVw.many (h:w.in_=true):r.many=w.now.length:=(V.now h).2.len.symm
theorem SVw.page {no:Int} (h1:1≤no) (h2:no≤(w.pgs.length:Int)):(w.pgs.getD (no-1).toNat []).length=w.z∧(r.in_=true→∃mb,r.om=some mb)∧(r.in_=true→∀x,mget r.ov no=some x→x.l=w.pgs.getD (no-1).toNat [])∧(r.in_=false∨mget r.ov no=none→(G.sure r.a)[(no-1).toNat]? = some (w.pgs.getD (no-1).toNat [])):=by
 have hi:(no-1).toNat<w.pgs.length:=by omega
 have hk:(((no-1).toNat:Nat):Int)+1=no:=by omega
 have hg:w.pgs[(no-1).toNat]? = some (w.pgs.getD (no-1).toNat []):=by rw [List.getD_eq_getElem?_getD,List.getElem?_eq_getElem hi];rfl
 have hin:=V.in_;refine ⟨V.pgk.len _ (List.mem_of_getElem? hg),fun h=>(V.now (by rw [←hin];exact h)).1,fun h x hx=>?_,fun h=>?_⟩
 ·have hw:w.in_=true:=by rw [←hin];exact h
  have hn:=(V.now hw).2;have hp:w.pgs=w.now:=by unfold St.pgs;rw [if_pos hw]
  rw [hp] at hg hi⊢;have:=hn.sm (no-1).toNat x (by rw [←hn.len];exact hi) (by rw [hk];exact hx);rw [hg] at this;injection this with this;exact this.symm
 ·rw [V.sure];cases hw:w.in_ with
  | false=>
   have hp:w.pgs=w.sure:=by unfold St.pgs;rw [if_neg (by rw [hw];decide)]
   rw [hp] at hg⊢;exact hg
  | true=>
   have hn:=(V.now hw).2;have hp:w.pgs=w.now:=by unfold St.pgs;rw [if_pos hw]
   rw [hp] at hg hi⊢;have:=hn.nn (no-1).toNat (by rw [←hn.len];exact hi) (by rw [hk];exact h.elim (fun h=>by rw [hin,hw] at h;cases h) id);rw [←this.2];exact hg
theorem SVw.pg {F:Nat→Prop} {a:G.α} (h:G.sure a=G.sure r.a):SVw G { r with pF:=F,a:=a } w:=⟨V.z,V.in_,h.trans V.sure,V.now,V.out,V.sv,V.ok⟩
theorem SVw.begin (hi:w.in_=false) {m:Nat} : SVw G { r with in_:=true,many:=(G.sure r.a).length,om:=some m,ov:=[] } { w with in_:=true,now:=w.sure,saves:=[] }:=by
 have ho:=V.out hi;refine ⟨V.z,rfl,V.sure,fun _=>⟨⟨m,rfl⟩,by rw [V.sure];exact VW.begin⟩,fun h=>(by cases h),?_,⟨V.ok.z,V.ok.sure,V.ok.sure,by simp,by simp,fun h=>by cases h⟩⟩;show All2 _ r.sv [];rw [ho.2.2.2];exact All2.nil
theorem SVw.put (hi:w.in_=true) {no:Nat} {x:RB} {now':List (List UInt8)} {many':Nat} {ov':List (Int × RB)} (hv:VW RB.l ov' many' w.sure now') (hk:PgsK w.z now'):SVw G { r with many:=many',ov:=ov' } { w with now:=now' }:=
 ⟨V.z,V.in_,V.sure,fun h=>⟨(V.now h).1,hv⟩,fun h=>(by rw [hi] at h;cases h),V.sv,⟨V.ok.z,V.ok.sure,hk,V.ok.saves,V.ok.few,fun h=>by rw [hi] at h;cases h⟩⟩
theorem SVw.write (hi:w.in_=true) {no:Nat} {x:RB} (h2:2≤no) (h3:no≤w.now.length+1) (h4:w.now≠[]) (h5:x.l.length=w.z) (h6:no*w.z≤16777216):SVw G { r with many:=max r.many no,ov:=mput r.ov (no:Int) x } { w with now:=wth w.now no x.l }:=by
 have hn:=(V.now hi).2;exact V.put hi (no:=no) (x:=x) (hn.put (by omega) (by rw [←hn.len];exact h3)) (V.ok.now.wth h5 (by omega) h3 h6 (fun h=>h.elim (fun h=>by omega) fun h=>absurd h h4))
theorem SVw.setHead (hi:w.in_=true) {H:Hd} {x:RB} {n:Nat} (hc:ChkP H) (hz:H.size=(w.z:Int)) (hn:H.pages=(n:Int)) (hp:n≤max 1 w.now.length) (hx:x.l=pg1 w.z H):SVw G { r with many:=n,ov:=(mput r.ov 1 x).filter fun p=>decide (p.1≤(n:Int)) } { w with now:=(Go.Proofs.YtndlpekckpdncaaGreat.wth w.now 1 (pg1 w.z H)).take n }:=by
 have hv:=(V.now hi).2;have h1:=hv.put (no:=1) (x:=x) (Nat.le_refl _) (by omega);have h2:=h1.cut (n:=n) (by rw [←hv.len,Nat.max_comm];exact hp);rw [hx] at h2;have hz2:=V.zc;exact V.put hi (no:=1) (x:=x) h2 ((V.ok.now.wth (pg1_len V.ok.z) (Nat.le_refl _) (by omega) (by omega) (fun _=>hok_pg1 hc hz)).take n)
end
theorem _root_.Go.HL.Hp.putNew {h0 h:Heap} {D F:Nat→Prop} {M R:List Itm} {a:Itm} (ok:Hp h0 D (a::M) R h) (hf:∀j,D j→F j):∀j,a.F j→F j∨h0.size≤j:=fun j hj=>((ok.m a List.mem_cons_self).2 j hj).2.imp (hf j) id
theorem Svs.mono {h:Heap} {E E':Nat→Prop} {sv:List RSv} (hE:∀j,E j→E' j) (b:Svs h E sv):Svs h E' sv:=fun x hx=>⟨(b x hx).1,hE _ (b x hx).2.1,(b x hx).2.2.mono hE⟩
theorem Pbs.filt {h:Heap} {E:Nat→Prop} {bs:List (Int × RB)} {f:Int × RB→Bool} (b:Pbs h E bs):Pbs h E (bs.filter f):=fun x hx=>b x (List.mem_filter.1 hx).1
section
variable {w:St}
theorem St.read_no {no:Int} (h:no<1∨(w.pgs.length:Int)<no):w.read no=([],1):=if_pos h
theorem St.read_ok {no:Int} (h1:1≤no) (h2:no≤(w.pgs.length:Int)):w.read no=(w.pgs.getD (no-1).toNat [],0):=if_neg (by omega)
theorem St.head_0 (h:w.pgs.length=0):w.head=hd0:=if_pos (List.eq_nil_of_length_eq_zero h)
theorem St.head_n (h:w.pgs.length≠0):w.head = { (decN (w.pgs.getD 0 [])).1 with size:=(w.z:Int),pages:=(w.pgs.length:Int) }:=by
 unfold St.head;rw [if_neg (fun e=>h (by rw [e];rfl))];rw [headD_get,List.getD_eq_getElem?_getD]
theorem St.begin_10 (h:w.in_=true):w.begin_=(w,10):=if_pos h
theorem St.begin_0 (h:w.in_=false):w.begin_=({ w with in_:=true,now:=w.sure,saves:=[] },0):=by unfold St.begin_;rw [if_neg (by rw [h];decide)]
theorem St.write_10 {no:Int} {b:List UInt8} (h:w.in_=false):w.write no b=(w,10):=if_pos h
theorem St.write_1 {no:Int} {b:List UInt8} (h:w.in_=true) (h2:no<2∨(w.now.length:Int)+1<no∨w.now=[]∨b.length≠w.z):w.write no b=(w,1):=by unfold St.write;rw [if_neg (by rw [h];decide),if_pos h2]
theorem St.write_5 {no:Int} {b:List UInt8} (h:w.in_=true) (h2:¬(no<2∨(w.now.length:Int)+1<no∨w.now=[]∨b.length≠w.z)) (h3:1048576<no∨16777216<no*(w.z:Int)):w.write no b=(w,5):=by unfold St.write;rw [if_neg (by rw [h];decide),if_neg h2,if_pos h3]
theorem St.write_0 {no:Nat} {b:List UInt8} (h:w.in_=true) (h2:¬((no:Int)<2∨(w.now.length:Int)+1<(no:Int)∨w.now=[]∨b.length≠w.z)) (h3:¬(1048576<(no:Int)∨16777216<(no:Int)*(w.z:Int))):w.write (no:Int) b=({ w with now:=wth w.now no b },0):=by unfold St.write;rw [if_neg (by rw [h];decide),if_neg h2,if_neg h3];rfl
theorem St.setHead_10 {H:Hd} (h:w.in_=false):w.setHead H=(w,10):=if_pos h
theorem St.setHead_1 {H:Hd} (h:w.in_=true) (h2:¬ChkP H∨H.size≠(w.z:Int)∨max 1 (w.now.length:Int)<H.pages):w.setHead H=(w,1):=by unfold St.setHead;rw [if_neg (by rw [h];decide),if_pos h2]
theorem St.setHead_0 {H:Hd} {n:Nat} (h:w.in_=true) (h2:¬(¬ChkP H∨H.size≠(w.z:Int)∨max 1 (w.now.length:Int)<H.pages)) (hn:H.pages=(n:Int)):w.setHead H=({ w with now:=(wth w.now 1 (pg1 w.z H)).take n },0):=by unfold St.setHead;rw [if_neg (by rw [h];decide),if_neg h2,hn];rfl
end
open Go Go.HL
theorem sSize_any {G:Pgr} {h:Heap} {so:Nat} {F:Nat→Prop} {w:St} (hd:(dsI G so F w).p h) :
  HC Tryz.prog 28 #[.pointer (some ⟨so,0,none⟩)] h (fun v h'=>v=.int .i64 (w.z:Int)∧h'=h):=by
 obtain ⟨r,V,hb,hp⟩:=ds_box hd;refine HC.go Tryz.func28 9 ?_;refine .seq<|.r<|.z .asI<|.nil ?_;refine .seq<|.seq<|.r<|.z .mvP<|.z (.pEqS T.pt27)<|.nil ?_;refine .cf<|.skip<|.seq<|.r<|.z .mvP<|.z .nil<|.z (.fa T.fd123_2)<|.z (.ldx T.ag3 hb)<|.z .asI<|.nil ?_;refine .ret ⟨.int .i64 (r.z:Int),Res.one rfl rfl,⟨by rw [V.z],rfl⟩⟩
theorem sIn_any {G:Pgr} {h:Heap} {so:Nat} {F:Nat→Prop} {w:St} (hd:(dsI G so F w).p h) :
  HC Tryz.prog 41 #[.pointer (some ⟨so,0,none⟩)] h (fun v h'=>v=.bool w.in_∧h'=h):=by
 obtain ⟨r,V,hb,hp⟩:=ds_box hd;refine HC.go Tryz.func41 12 ?_;refine .seq<|.r<|.z .asB<|.nil ?_;refine .seq<|.r<|.z .mvP<|.k 4 .func (susable_any (G:=G) (r:=r) hb)<|.z .eql<|.z .mvB<|.z .mvP<|.z .nil<|.z (.fa T.fd123_3)<|.z (.ldx T.ag4 hb)<|.z .pkt<|.z .asB<|.nil ?_;refine .ret ⟨.bool r.in_,Res.one rfl rfl,⟨by rw [V.in_],rfl⟩⟩
theorem sRead_any {G:Pgr} {h:Heap} {so:Nat} {F:Nat→Prop} {w:St} {no:Int} (ok:Hp h F [dsI G so F w] [] h) :
  HC Tryz.prog 22 #[.pointer (some ⟨so,0,none⟩),.int .i64 no] h (fun v h'=>∃F' x c,v=.tuple #[.slice x (w.read no).1.length c,.int .i64 ((w.read no).2:Int)]∧Hp h F [capI 1 5 (x,(w.read no).1.length,c) ((w.read no).1.map bv),dsI G so F' w] [] h'):=by
 obtain ⟨r,E,V,ok,hf,he⟩:=ds_open ok;have hzc:=V.zc;have hfew:=V.few;have hnf:=V.nowfew;obtain ⟨p,lg,z,in_,many,om,ov,sa,sc,svl,pF,ga⟩:=r;dsimp only at ok hf;generalize stF G so _=DF at ok hf;obtain rfl:z=w.z:=V.z;obtain rfl:in_=w.in_:=V.in_;have hpgs:(if w.in_=true then many else (G.sure ga).length)=w.pgs.length:=V.pgs;have ok:Hp h DF [boxI so 123 [.iface G.tid (.pointer (some ⟨p,0,none⟩)),.pointer lg,.int .i64 (w.z:Int),.bool w.in_,.int .i64 (many:Int),.map om,.slice sa svl.length sc,.bool false],nowI om ov,capI 2 120 (sa,svl.length,sc) (svl.flatMap RSv.cells),G.it p pF ga] [pbsI E ov,svsI E svl] h:=ok;have hsz0:=ok.chg.size;refine HC.go Tryz.func22 25 ?_;refine .seq<|.r<|.z .asS<|.z .asI<|.nil ?_;refine .seq<|.seq<|.r<|.z .mvP<|.k 8 .func (susable_any (G:=G) (r:=(⟨p,lg,w.z,w.in_,many,om,ov,sa,sc,svl,pF,ga⟩:RS G.α)) ok.m0)<|.z .asI<|.nil ?_;refine .seq<|.r<|.z .mvI<|.z .neq<|.nil ?_;refine .cf<|.skip<|.seq<|.seq<|.r<|.z .mvI<|.z .lss<|.z .mvB<|.sd (fun G14=>?_) (fun G14=>?_)
 ·
  refine .y<|.y<|.y<|.y<|.z .pkt<|.nil ?_;refine .ct<|.seq<|.r<|.z .asS<|.z .asI<|.nil ?_;have ok:=ok.nilC (k:=1) (e:=5);refine .ret ⟨.tuple #[.slice none 0 0,.int .i64 1],Res.two rfl rfl rfl,⟨_,_,_,by rw [St.read_no (by omega)];rfl,by rw [St.read_no (by omega)];exact Hp.n1 (ds_close (r':=(⟨p,lg,w.z,w.in_,many,om,ov,sa,sc,svl,pF,ga⟩:RS G.α)) (E':=E) (ok.n4.n4.n4.n4.f1.f1) hf (fun j hj=>.inl (he j hj)) V)⟩⟩
 refine .z .mvI<|.z .mvP<|.k 17 .func (spages_any (G:=G) (r:=(⟨p,lg,w.z,w.in_,many,om,ov,sa,sc,svl,pF,ga⟩:RS G.α)) (i:=w.in_) (m:=many) (k:=(G.sure ga).length) ok.m0 ok.m3 rfl rfl rfl)<|.z .gtr<|.z .pkf<|.nil ?_;refine .cd (fun C1=>?_) (fun C1=>?_)
 ·
  refine .seq<|.r<|.z .asS<|.z .asI<|.nil ?_;have ok:=ok.nilC (k:=1) (e:=5);refine .ret ⟨.tuple #[.slice none 0 0,.int .i64 1],Res.two rfl rfl rfl,⟨_,_,_,by rw [St.read_no (by omega)];rfl,by rw [St.read_no (by omega)];exact Hp.n1 (ds_close (r':=(⟨p,lg,w.z,w.in_,many,om,ov,sa,sc,svl,pF,ga⟩:RS G.α)) (E':=E) (ok.n4.n4.n4.n4.f1.f1) hf (fun j hj=>.inl (he j hj)) V)⟩⟩
 obtain ⟨hbl,hb,h1,h2⟩:=V.page (no:=no) (by omega) (by omega);refine .skip<|.seq<|.r<|.z .mvP<|.z .mvI<|.c' 22 .func (sread_any (G:=G) (r:=(⟨p,lg,w.z,w.in_,many,om,ov,sa,sc,svl,pF,ga⟩:RS G.α)) (E:=E) (no:=no) (b:=(w.pgs.getD (no-1).toNat [])) ((Hp.locL [G.it p pF ga,boxI so 123 [.iface G.tid (.pointer (some ⟨p,0,none⟩)),.pointer lg,.int .i64 (w.z:Int),.bool w.in_,.int .i64 (many:Int),.map om,.slice sa svl.length sc,.bool false],nowI om ov] (ok.n1.n1.n3)).e1) (by omega) (by omega) hb h1 h2) ?_;rintro _ η1 ⟨Fs1,as1,xs1,cs1,rfl,hss1,q⟩;have ok:=Hp.liftL [G.it p pF ga,boxI so 123 [.iface G.tid (.pointer (some ⟨p,0,none⟩)),.pointer lg,.int .i64 (w.z:Int),.bool w.in_,.int .i64 (many:Int),.map om,.slice sa svl.length sc,.bool false],nowI om ov] (ok.n1.n1.n3) q;refine .z .ex<|.z .ex<|.z .asS<|.z .asI<|.nil ?_;refine .ret ⟨.tuple #[.slice xs1 ((w.pgs.getD (no-1).toNat []).length) cs1,.int .i64 0],Res.two rfl rfl rfl,⟨_,_,_,by rw [St.read_ok (by omega) (by omega)];rfl,by rw [St.read_ok (by omega) (by omega)];exact Hp.n1 (ds_close (r':=(⟨p,lg,w.z,w.in_,many,om,ov,sa,sc,svl,Fs1,as1⟩:RS G.α)) (E':=E) (ok.n1.n4.n4.n4.f1.f1) hf (fun j hj=>.inl (he j hj)) (V.pg hss1))⟩⟩
theorem sHead_any {G:Pgr} {h:Heap} {so:Nat} {F:Nat→Prop} {w:St} (ok:Hp h F [dsI G so F w] [] h) :
  HC Tryz.prog 18 #[.pointer (some ⟨so,0,none⟩)] h (fun v h'=>∃F',v=w.head.val∧Hp h F [dsI G so F' w] [] h'):=by
 obtain ⟨r,E,V,ok,hf,he⟩:=ds_open ok;have hzc:=V.zc;have hfew:=V.few;have hnf:=V.nowfew;obtain ⟨p,lg,z,in_,many,om,ov,sa,sc,svl,pF,ga⟩:=r;dsimp only at ok hf;generalize stF G so _=DF at ok hf;obtain rfl:z=w.z:=V.z;obtain rfl:in_=w.in_:=V.in_;have hpgs:(if w.in_=true then many else (G.sure ga).length)=w.pgs.length:=V.pgs;have ok:Hp h DF [boxI so 123 [.iface G.tid (.pointer (some ⟨p,0,none⟩)),.pointer lg,.int .i64 (w.z:Int),.bool w.in_,.int .i64 (many:Int),.map om,.slice sa svl.length sc,.bool false],nowI om ov,capI 2 120 (sa,svl.length,sc) (svl.flatMap RSv.cells),G.it p pF ga] [pbsI E ov,svsI E svl] h:=ok;have hsz0:=ok.chg.size;refine HC.go Tryz.func18 38 ?_;refine .seq<|.r<|.a' 2 (.alA T.zr38 ok) ?_;rintro _ η1 ⟨pb1,rfl,ok,xe⟩;refine .nil ?_;refine .seq<|.seq<|.r<|.z .mvP<|.k 8 .func (susable_any (G:=G) (r:=(⟨p,lg,w.z,w.in_,many,om,ov,sa,sc,svl,pF,ga⟩:RS G.α)) ok.m1)<|.z .neq<|.z .mvB<|.z .mvP<|.k 12 .func (spages_any (G:=G) (r:=(⟨p,lg,w.z,w.in_,many,om,ov,sa,sc,svl,pF,ga⟩:RS G.α)) (i:=w.in_) (m:=many) (k:=(G.sure ga).length) ok.m1 ok.m4 rfl rfl rfl)<|.z .eql<|.z .pkf<|.nil ?_;refine .cd (fun C0=>?_) (fun C0=>?_)
 ·
  refine .seq<|.r<|.z (.bd #[.int .i64 0,.int .i64 0,.int .i64 0,.int .i64 0,.int .i64 0,.int .i64 0] T.zr38 T.pl38 rfl)<|.ur' (.stW (vs:=[.int .i64 0,.int .i64 0,.int .i64 0,.int .i64 0,.int .i64 0,.int .i64 0]) T.sz38 ok (oneL rfl)) ?_;rintro η2 ⟨ok,cg⟩;refine .nil ?_;refine .ret ⟨.agg #[.int .i64 0,.int .i64 0,.int .i64 0,.int .i64 0,.int .i64 0,.int .i64 0],Res.many (vs:=[.agg #[.int .i64 0,.int .i64 0,.int .i64 0,.int .i64 0,.int .i64 0,.int .i64 0]]) rfl ⟨⟨_,rfl,load_ag T.ag38 ok.m0 T.sz38⟩,trivial⟩ rfl,⟨_,by rw [St.head_0 (by omega)];rfl,(ds_close (r':=(⟨p,lg,w.z,w.in_,many,om,ov,sa,sc,svl,pF,ga⟩:RS G.α)) (E':=E) (ok.n4.n4.n4.n4.f1.f1.k4) hf (fun j hj=>.inl (he j hj)) V)⟩⟩
 obtain ⟨hbl,hb,h1,h2⟩:=V.page (no:=1) (by omega) (by omega);refine .skip<|.seq<|.r<|.z .mvP<|.c' 18 .func (sread_any (G:=G) (r:=(⟨p,lg,w.z,w.in_,many,om,ov,sa,sc,svl,pF,ga⟩:RS G.α)) (E:=E) (no:=1) (b:=(w.pgs.getD 0 [])) ((Hp.locL [G.it p pF ga,boxI so 123 [.iface G.tid (.pointer (some ⟨p,0,none⟩)),.pointer lg,.int .i64 (w.z:Int),.bool w.in_,.int .i64 (many:Int),.map om,.slice sa svl.length sc,.bool false],nowI om ov] (ok.n2.n2.n4)).e1) (by omega) (show (w.pgs.getD 0 []).length≤1000000 from Nat.le_trans (Nat.le_of_eq hbl) (by omega)) hb h1 h2) ?_;rintro _ η3 ⟨Fs1,as1,xs1,cs1,rfl,hss1,q⟩;have ok:=Hp.liftL [G.it p pF ga,boxI so 123 [.iface G.tid (.pointer (some ⟨p,0,none⟩)),.pointer lg,.int .i64 (w.z:Int),.bool w.in_,.int .i64 (many:Int),.map om,.slice sa svl.length sc,.bool false],nowI om ov] (ok.n2.n2.n4) q;refine .z .mvU<|.z .ex<|.z .ex<|.z .asS<|.z .asI<|.nil ?_;refine .seq<|.seq<|.r<|.z .mvI<|.z .neq<|.nil ?_;refine .cf<|.skip<|.seq<|.r<|.z .mvS<|.c' 26 .func (dec_any (a:=xs1) (c:=cs1) (l:=(w.pgs.getD 0 [])) (RdL.ofCapB (v:=(xs1,(w.pgs.getD 0 []).length,cs1)) (l:=(w.pgs.getD 0 [])) ok.m0)) ?_;rintro _ η4 ⟨rfl,hx⟩;rw [show (decN (w.pgs.getD 0 [])).1.val=.agg #[.int .i64 (decN (w.pgs.getD 0 [])).1.size,.int .i64 (decN (w.pgs.getD 0 [])).1.pages,.int .i64 (decN (w.pgs.getD 0 [])).1.free,.int .i64 (decN (w.pgs.getD 0 [])).1.many,.int .i64 (decN (w.pgs.getD 0 [])).1.cookie,.int .i64 (decN (w.pgs.getD 0 [])).1.version] from rfl];have ok:=ok.ext hx;refine .z .mvU<|.z .ex<|.z .ex<|.a' 5 (.alA T.zr38 ok) ?_;rintro _ η5 ⟨pb2,rfl,ok,xe⟩;refine .ur' (.stW (vs:=[.int .i64 ((decN (w.pgs.getD 0 [])).1.size),.int .i64 ((decN (w.pgs.getD 0 [])).1.pages),.int .i64 ((decN (w.pgs.getD 0 [])).1.free),.int .i64 ((decN (w.pgs.getD 0 [])).1.many),.int .i64 ((decN (w.pgs.getD 0 [])).1.cookie),.int .i64 ((decN (w.pgs.getD 0 [])).1.version)]) T.sz38 ok (oneL rfl)) ?_;rintro η6 ⟨ok,cg⟩;refine .z .asI<|.nil ?_;refine .seq<|.a 7 (fun fl hh=>cond fl True (Hp h DF [boxI pb2 38 [.int .i64 ((decN (w.pgs.getD 0 [])).1.size),.int .i64 ((decN (w.pgs.getD 0 [])).1.pages),.int .i64 ((decN (w.pgs.getD 0 [])).1.free),.int .i64 ((decN (w.pgs.getD 0 [])).1.many),.int .i64 ((decN (w.pgs.getD 0 [])).1.cookie),.int .i64 ((decN (w.pgs.getD 0 [])).1.version)],capI 1 5 (xs1,(w.pgs.getD 0 []).length,cs1) ((w.pgs.getD 0 []).map bv),G.it p Fs1 as1,boxI so 123 [.iface G.tid (.pointer (some ⟨p,0,none⟩)),.pointer lg,.int .i64 (w.z:Int),.bool w.in_,.int .i64 (many:Int),.map om,.slice sa svl.length sc,.bool false],nowI om ov,boxI pb1 38 [.int .i64 0,.int .i64 0,.int .i64 0,.int .i64 0,.int .i64 0,.int .i64 0],capI 2 120 (sa,svl.length,sc) (svl.flatMap RSv.cells)] [pbsI E ov,svsI E svl] hh)) mixed ?_;have hS:=ok;refine .g 0 false rfl 29 hS (fun _=>.mvP)<|.g 1 false rfl 30 hS (fun _=>.nil)<|.g 2 false rfl 31 hS (fun _=>.fa T.fd123_2)<|.l 3 false rfl 32 hS (fun _ hS=>.ldx T.ag3 hS.m3)<|.g 4 false rfl 33 hS (fun _=>.mvP)<|.g 6 false rfl 35 hS (fun _=>.fa T.fd38_0)<|.o1 5<|.k false rfl 34 .func (spages_any (G:=G) (r:=(⟨p,lg,w.z,w.in_,many,om,ov,sa,sc,svl,Fs1,as1⟩:RS G.α)) (i:=w.in_) (m:=many) (k:=(G.sure as1).length) ok.m3 ok.m2 rfl rfl rfl) hS<|.o1 7<|.ur' true rfl (.stI T.sz3 ok) ?_;rintro η7 ⟨ok,cg⟩;refine ⟨trivial,?_⟩;refine .g 8 true rfl 36 trivial (fun _=>.fa T.fd38_1)<|.o1 9<|.ur' true rfl (.stI T.sz3 ok) ?_;rintro η8 ⟨ok,cg⟩;refine ⟨trivial,?_⟩;refine .e ?_;refine .seq<|.r<|.z (.ldb T.ag38 ok.m0 T.sz38)<|.ur' (.stW (vs:=[.int .i64 (w.z:Int),.int .i64 (((if w.in_=true then many else (G.sure as1).length):Nat):Int),.int .i64 ((decN (w.pgs.getD 0 [])).1.free),.int .i64 ((decN (w.pgs.getD 0 [])).1.many),.int .i64 ((decN (w.pgs.getD 0 [])).1.cookie),.int .i64 ((decN (w.pgs.getD 0 [])).1.version)]) T.sz38 ok.n5 (oneL rfl)) ?_;rintro η9 ⟨ok,cg⟩;refine .nil ?_;refine .ret ⟨.agg #[.int .i64 (w.z:Int),.int .i64 (((if w.in_=true then many else (G.sure as1).length):Nat):Int),.int .i64 ((decN (w.pgs.getD 0 [])).1.free),.int .i64 ((decN (w.pgs.getD 0 [])).1.many),.int .i64 ((decN (w.pgs.getD 0 [])).1.cookie),.int .i64 ((decN (w.pgs.getD 0 [])).1.version)],Res.many (vs:=[.agg #[.int .i64 (w.z:Int),.int .i64 (((if w.in_=true then many else (G.sure as1).length):Nat):Int),.int .i64 ((decN (w.pgs.getD 0 [])).1.free),.int .i64 ((decN (w.pgs.getD 0 [])).1.many),.int .i64 ((decN (w.pgs.getD 0 [])).1.cookie),.int .i64 ((decN (w.pgs.getD 0 [])).1.version)]]) rfl ⟨⟨_,rfl,load_ag T.ag38 ok.m0 T.sz38⟩,trivial⟩ rfl,⟨_,by rw [St.head_n (by omega),hss1,hpgs];rfl,(ds_close (r':=(⟨p,lg,w.z,w.in_,many,om,ov,sa,sc,svl,Fs1,as1⟩:RS G.α)) (E':=E) (ok.n3.n6.n6.n6.f1.f1.k4) hf (fun j hj=>.inl (he j hj)) (V.pg hss1))⟩⟩
theorem sBegin_any {G:Pgr} {h:Heap} {so:Nat} {F:Nat→Prop} {w:St} (ok:Hp h F [dsI G so F w] [] h) :
  HC Tryz.prog 45 #[.pointer (some ⟨so,0,none⟩)] h (fun v h'=>∃F',v=.int .i64 ((w.begin_).2:Int)∧Hp h F [dsI G so F' (w.begin_).1] [] h'):=by
 obtain ⟨r,E,V,ok,hf,he⟩:=ds_open ok;have hzc:=V.zc;have hfew:=V.few;have hnf:=V.nowfew;obtain ⟨p,lg,z,in_,many,om,ov,sa,sc,svl,pF,ga⟩:=r;dsimp only at ok hf;generalize stF G so _=DF at ok hf;obtain rfl:z=w.z:=V.z;obtain rfl:in_=w.in_:=V.in_;have hpgs:(if w.in_=true then many else (G.sure ga).length)=w.pgs.length:=V.pgs;have ok:Hp h DF [boxI so 123 [.iface G.tid (.pointer (some ⟨p,0,none⟩)),.pointer lg,.int .i64 (w.z:Int),.bool w.in_,.int .i64 (many:Int),.map om,.slice sa svl.length sc,.bool false],nowI om ov,capI 2 120 (sa,svl.length,sc) (svl.flatMap RSv.cells),G.it p pF ga] [pbsI E ov,svsI E svl] h:=ok;have hsz0:=ok.chg.size;refine HC.go Tryz.func45 26 ?_;refine .seq<|.r<|.z .asI<|.nil ?_;refine .seq<|.seq<|.r<|.z .mvP<|.k 5 .func (susable_any (G:=G) (r:=(⟨p,lg,w.z,w.in_,many,om,ov,sa,sc,svl,pF,ga⟩:RS G.α)) ok.m0)<|.z .asI<|.nil ?_;refine .seq<|.r<|.z .mvI<|.z .neq<|.nil ?_;refine .cf<|.skip<|.seq<|.seq<|.r<|.z .mvP<|.z .nil<|.z (.fa T.fd123_3)<|.z (.ldx T.ag4 ok.m0)<|.nil ?_;refine .cond (fun C1=>?_) (fun C1=>?_)
 ·
  refine .seq<|.r<|.z .asI<|.nil ?_;refine .ret ⟨.int .i64 10,Res.one rfl rfl,⟨_,by rw [St.begin_10 C1];rfl,by rw [St.begin_10 C1];exact (ds_close (r':=(⟨p,lg,w.z,w.in_,many,om,ov,sa,sc,svl,pF,ga⟩:RS G.α)) (E':=E) (ok.f1.f1) hf (fun j hj=>.inl (he j hj)) V)⟩⟩
 refine .skip<|.seq<|.r<|.z .mvP<|.z .mvP<|.z .mvP<|.z .nil<|.z (.fa T.fd123_0)<|.z (.ldx T.ag116 ok.m0)<|.k 19 (.inv (G.mPages _)) (G.cPages (F:=pF) (a:=ga) ok.m3)<|.a' 20 (.mkm (Value.int .i64) ok) ?_;rintro _ η1 ⟨mb1,rfl,ok⟩;refine .z (.bd #[.int .i64 ((G.sure ga).length:Int),.map (some mb1)] T.zr120 T.pl120 rfl)<|.z .nil<|.z (.fa T.fd123_3)<|.ur' (.stB T.sz4 ok.n1) ?_;rintro η2 ⟨ok,cg⟩;refine .z .nil<|.z (.fa T.fd123_4)<|.ur' (.stA (vs:=[.int .i64 ((G.sure ga).length:Int),.map (some mb1)]) T.sz120 ok (oneL rfl)) ?_;rintro η3 ⟨ok,cg⟩;refine .nil ?_;refine .seq<|.r<|.z .asI<|.nil ?_;have ok:=Hp.pbsNil (ok);refine .ret ⟨.int .i64 0,Res.one rfl rfl,⟨_,by rw [St.begin_0 (by simpa using C1)];rfl,by rw [St.begin_0 (by simpa using C1)];exact (ds_close (r':=(⟨p,lg,w.z,true,(G.sure ga).length,(some mb1),[],sa,sc,svl,pF,ga⟩:RS G.α)) (E':=E) (ok.n4.n4.n3.n3.f1.f1.k4) hf (fun j hj=>.inl (he j hj)) (V.begin (by simpa using C1)))⟩⟩
theorem sSetHead_any {G:Pgr} {h:Heap} {so:Nat} {F:Nat→Prop} {w:St} {H:Hd} (ok:Hp h F [dsI G so F w] [] h) (hr:HdIn H) :
  HC Tryz.prog 46 #[.pointer (some ⟨so,0,none⟩),H.val] h (fun v h'=>∃F',v=.int .i64 ((w.setHead H).2:Int)∧Hp h F [dsI G so F' (w.setHead H).1] [] h'):=by
 obtain ⟨r,E,V,ok,hf,he⟩:=ds_open ok;have hzc:=V.zc;have hfew:=V.few;have hnf:=V.nowfew;obtain ⟨p,lg,z,in_,many,om,ov,sa,sc,svl,pF,ga⟩:=r;dsimp only at ok hf;generalize stF G so _=DF at ok hf;obtain rfl:z=w.z:=V.z;obtain rfl:in_=w.in_:=V.in_;have hpgs:(if w.in_=true then many else (G.sure ga).length)=w.pgs.length:=V.pgs;have ok:Hp h DF [boxI so 123 [.iface G.tid (.pointer (some ⟨p,0,none⟩)),.pointer lg,.int .i64 (w.z:Int),.bool w.in_,.int .i64 (many:Int),.map om,.slice sa svl.length sc,.bool false],nowI om ov,capI 2 120 (sa,svl.length,sc) (svl.flatMap RSv.cells),G.it p pF ga] [pbsI E ov,svsI E svl] h:=ok;have hsz0:=ok.chg.size;refine HC.go Tryz.func46 59 ?_;refine .seq<|.r<|.a' 3 (.bxA (cs:=[.int .i64 H.size,.int .i64 H.pages,.int .i64 H.free,.int .i64 H.many,.int .i64 H.cookie,.int .i64 H.version]) ok) ?_;rintro _ η1 ⟨pb1,rfl,ok,xe⟩;refine .z .asI<|.nil ?_;refine .seq<|.seq<|.r<|.z .mvP<|.k 9 .func (swithin_any (G:=G) (r:=(⟨p,lg,w.z,w.in_,many,om,ov,sa,sc,svl,pF,ga⟩:RS G.α)) (i:=w.in_) ok.m1 rfl)<|.z .asI<|.nil ?_;refine .seq<|.r<|.z .mvI<|.z .neq<|.nil ?_;refine .cd (fun C0=>?_) (fun C0=>?_)
 ·
  have hw:w.in_=false:=wthE_y C0;refine .seq<|.r<|.z .mvI<|.z .asI<|.nil ?_;refine .ret ⟨.int .i64 ((wthE w.in_):Int),Res.one rfl rfl,⟨_,by rw [St.setHead_10 hw,wthE_f (by rw [hw];decide)],by rw [St.setHead_10 hw];exact (ds_close (r':=(⟨p,lg,w.z,w.in_,many,om,ov,sa,sc,svl,pF,ga⟩:RS G.α)) (E':=E) (ok.n4.n4.n4.n4.f1.f1.k4) hf (fun j hj=>.inl (he j hj)) V)⟩⟩
 have hw:w.in_=true:=wthE_n C0;have hmany:many=w.now.length:=V.many hw;refine .skip<|.seq<|.r<|.z (.ldb T.ag38 ok.m0 T.sz38)<|.c' 15 .func (encN_any (H:=H) hr) ?_;rintro _ η2 (⟨hck,rfl,hx⟩ | ⟨hck,yw,rfl,own⟩)
 ·
  have ok:=ok.ext hx;refine .z .mvU<|.z .ex<|.z .ex<|.z .asS<|.z .asI<|.nil ?_;refine .seq<|.seq<|.q (hm:=mixed)<|.z .mvI<|.z .neq<|.z .mvB<|.y<|.y<|.y<|.y<|.y<|.y<|.y<|.z .pkt<|.z .mvB<|.y<|.y<|.y<|.y<|.y<|.y<|.y<|.y<|.y<|.z .pkt<|.nil ?_;refine .ct<|.seq<|.r<|.z .asI<|.nil ?_;refine .ret ⟨.int .i64 1,Res.one rfl rfl,⟨_,by rw [St.setHead_1 hw (by first | exact .inl hck | exact .inr (.inl (by omega)) | exact .inr (.inr (by omega)))];rfl,by rw [St.setHead_1 hw (by first | exact .inl hck | exact .inr (.inl (by omega)) | exact .inr (.inr (by omega)))];exact (ds_close (r':=(⟨p,lg,w.z,w.in_,many,om,ov,sa,sc,svl,pF,ga⟩:RS G.α)) (E':=E) (ok.n4.n4.n4.n4.f1.f1.k4) hf (fun j hj=>.inl (he j hj)) V)⟩⟩
 obtain ⟨ya1,yc1,rfl⟩:=own.formB;have ok:=ok.own own;refine .z .mvU<|.z .ex<|.z .ex<|.z .asS<|.z .asI<|.nil ?_;refine .seq<|.seq<|.q (hm:=mixed)<|.z .mvI<|.z .neq<|.z .mvB<|.z (.fa T.fd38_0)<|.z (.ldx T.ag3 ok.m1)<|.z .mvP<|.z .nil<|.z (.fa T.fd123_2)<|.z (.ldx T.ag3 ok.m2)<|.z .neq<|.z .pkf<|.z .mvB<|.sd (fun G29=>?_) (fun G29=>?_)
 ·
  refine .y<|.y<|.y<|.y<|.y<|.y<|.y<|.y<|.y<|.z .pkt<|.nil ?_;refine .ct<|.seq<|.r<|.z .asI<|.nil ?_;refine .ret ⟨.int .i64 1,Res.one rfl rfl,⟨_,by rw [St.setHead_1 hw (by first | exact .inl hck | exact .inr (.inl (by omega)) | exact .inr (.inr (by omega)))];rfl,by rw [St.setHead_1 hw (by first | exact .inl hck | exact .inr (.inl (by omega)) | exact .inr (.inr (by omega)))];exact (ds_close (r':=(⟨p,lg,w.z,w.in_,many,om,ov,sa,sc,svl,pF,ga⟩:RS G.α)) (E':=E) (ok.n5.n5.n5.n5.f1.f1.k4) hf (fun j hj=>.inl (he j hj)) V)⟩⟩
 refine .z (.fa T.fd38_1)<|.z (.ldx T.ag3 ok.m1)<|.z .mvP<|.z .nil<|.z (.fa T.fd123_4)<|.z (.fa T.fd120_0)<|.z (.ldx T.ag3 ok.m2)<|.z .max2<|.z .gtr<|.z .pkf<|.nil ?_;refine .cd (fun C1=>?_) (fun C1=>?_)
 ·
  refine .seq<|.r<|.z .asI<|.nil ?_;refine .ret ⟨.int .i64 1,Res.one rfl rfl,⟨_,by rw [St.setHead_1 hw (by first | exact .inl hck | exact .inr (.inl (by omega)) | exact .inr (.inr (by omega)))];rfl,by rw [St.setHead_1 hw (by first | exact .inl hck | exact .inr (.inl (by omega)) | exact .inr (.inr (by omega)))];exact (ds_close (r':=(⟨p,lg,w.z,w.in_,many,om,ov,sa,sc,svl,pF,ga⟩:RS G.α)) (E':=E) (ok.n5.n5.n5.n5.f1.f1.k4) hf (fun j hj=>.inl (he j hj)) V)⟩⟩
 obtain ⟨n,hn⟩:∃n:Nat,H.pages=(n:Int):=⟨H.pages.toNat,by have:=hck.2.1.1;omega⟩;rw [hn] at ok⊢;obtain ⟨mb,rfl⟩:=(V.now hw).1;have ok:=Hp.nowSome (ok.n3);refine .skip<|.seq<|.a 13 (fun fl hh=>cell hh so 2=some (.int .i64 (w.z:Int))) mixed ?_;have hS:=(at_box (o:=2) ok.m3 rfl:cell _ so 2=some (.int .i64 (w.z:Int)));refine .g 0 false rfl 40 hS (fun _=>.mvP)<|.g 1 false rfl 41 hS (fun _=>.nil)<|.g 2 false rfl 42 hS (fun _=>.fa T.fd123_4)<|.g 3 false rfl 43 hS (fun _=>.mvS)<|.g 4 false rfl 44 hS (fun _=>.mvP)<|.g 5 false rfl 45 hS (fun _=>.nil)<|.g 6 false rfl 46 hS (fun _=>.fa T.fd123_2)<|.lw 7 false rfl 47 hS (fun _ _ hS=>.ld T.ag3 hS)<|.g 8 false rfl 48 hS (fun _=>.mvS)<|.g 9 false rfl 49 hS (fun _=>.len T.el44)<|.g 10 false rfl 50 hS (fun _=>.sub (hr:=(by rw [enc_len];omega)))<|.o1 11<|.a' false rfl 51 (.apz (z:=((w.z:Int)-(((H.enc).length:Nat):Int))) (w.z-64) T.el44 T.in3 T.sz5 T.by5 T.zr5 ok.n1 (by rw [enc_len];omega) (by rw [enc_len];omega)) ?_;rintro _ η3 ⟨ya2,yc2,rfl,ok⟩;refine ⟨(at_box (o:=2) ok.m3 rfl:cell _ so 2=some (.int .i64 (w.z:Int))),?_⟩;have hS:=(at_box (o:=2) ok.m3 rfl:cell _ so 2=some (.int .i64 (w.z:Int)));refine .o1 12<|.c' false rfl 52 .func (sput_any (G:=G) (r:=(⟨p,lg,w.z,w.in_,many,(some mb),ov,sa,sc,svl,pF,ga⟩:RS G.α)) (mb:=mb) (a:=ya2) (c:=yc2) (l:=((H.enc)++List.replicate (w.z-64) 0)) (no:=1) (Hp.locL [boxI so 123 [.iface G.tid (.pointer (some ⟨p,0,none⟩)),.pointer lg,.int .i64 (w.z:Int),.bool w.in_,.int .i64 (many:Int),.map (some mb),.slice sa svl.length sc,.bool false],mapI (Value.int .i64) mb (bsE ov)] (ok.n1.n3)).e0 (by rfl)) ?_;rintro _ η4 ⟨rfl,q⟩;have ok:=Hp.liftL [boxI so 123 [.iface G.tid (.pointer (some ⟨p,0,none⟩)),.pointer lg,.int .i64 (w.z:Int),.bool w.in_,.int .i64 (many:Int),.map (some mb),.slice sa svl.length sc,.bool false],mapI (Value.int .i64) mb (bsE ov)] (ok.n1.n3) q;have hnb:=Hp.putNew (ok.n2) hf;have ok:=Hp.pbsPut (k:=(1:Int)) (ok.n2);have ok:=ok.d0 (svsI (fun j=>E j∨blkC (sv (ya2,((H.enc)++List.replicate (w.z-64) 0).length,yc2)) j) svl) (Svs.mono (E:=E) (E':=(fun j=>E j∨blkC (sv (ya2,((H.enc)++List.replicate (w.z-64) 0).length,yc2)) j)) (fun j h=>Or.inl h) ok.r1) (fun _ h=>h);refine ⟨(at_box (o:=2) ok.m0 rfl:cell _ so 2=some (.int .i64 (w.z:Int))),?_⟩;have hS:=(at_box (o:=2) ok.m0 rfl:cell _ so 2=some (.int .i64 (w.z:Int)));refine .e ?_;refine .seq<|.t 5 mixed ?_;simp only [List.take_succ_cons,List.take_zero,List.drop_succ_cons,List.drop_zero];refine .z .mvP<|.z .nil<|.z (.fa T.fd123_4)<|.z (.fa T.fd38_1)<|.z (.ldx T.ag3 ok.m2)<|.nil ?_;refine .c' 58 .func (scut_any (G:=G) (r:=(⟨p,lg,w.z,w.in_,(max many 1),(some mb),(mput ov (1:Int) ⟨ya2,yc2,((H.enc)++List.replicate (w.z-64) 0)⟩),sa,sc,svl,pF,ga⟩:RS G.α)) (mb:=mb) (n:=n) (Hp.locL [boxI so 123 [.iface G.tid (.pointer (some ⟨p,0,none⟩)),.pointer lg,.int .i64 (w.z:Int),.bool w.in_,.int .i64 ((max many 1:Nat):Int),.map (some mb),.slice sa svl.length sc,.bool false],mapI (Value.int .i64) mb (bsE (mput ov (1:Int) ⟨ya2,yc2,((H.enc)++List.replicate (w.z-64) 0)⟩))] (ok)).e0 (by rfl)) ?_;rintro _ η5 ⟨rfl,q⟩;have ok:=Hp.liftL [boxI so 123 [.iface G.tid (.pointer (some ⟨p,0,none⟩)),.pointer lg,.int .i64 (w.z:Int),.bool w.in_,.int .i64 ((max many 1:Nat):Int),.map (some mb),.slice sa svl.length sc,.bool false],mapI (Value.int .i64) mb (bsE (mput ov (1:Int) ⟨ya2,yc2,((H.enc)++List.replicate (w.z-64) 0)⟩))] (ok) q;have ok:=ok.d1 (pbsI (fun j=>E j∨blkC (sv (ya2,((H.enc)++List.replicate (w.z-64) 0).length,yc2)) j) (((mput ov (1:Int) ⟨ya2,yc2,((H.enc)++List.replicate (w.z-64) 0)⟩)).filter fun p=>decide (p.1≤(n:Int)))) (Pbs.filt ok.r1) (fun _ h=>h);refine .nil ?_;refine .seq<|.r<|.z .asI<|.nil ?_;have hno:¬(¬ChkP H∨H.size≠(w.z:Int)∨max 1 (w.now.length:Int)<H.pages):=by rintro (h | h | h);exact h hck;exact h (by omega);omega
 refine .ret ⟨.int .i64 0,Res.one rfl rfl,⟨_,by rw [St.setHead_0 hw hno hn];rfl,by rw [St.setHead_0 hw hno hn];exact (ds_close (r':=(⟨p,lg,w.z,w.in_,n,(some mb),(((mput ov (1:Int) ⟨ya2,yc2,((H.enc)++List.replicate (w.z-64) 0)⟩)).filter fun p=>decide (p.1≤(n:Int))),sa,sc,svl,pF,ga⟩:RS G.α)) (E':=(fun j=>E j∨blkC (sv (ya2,((H.enc)++List.replicate (w.z-64) 0).length,yc2)) j)) (ok.n4.n4.n3.n3.f1.f1.k4) hf (fun j hj=>hj.elim (fun hj=>.inl (he j hj)) (hnb j)) (V.setHead hw (x:=⟨ya2,yc2,((H.enc)++List.replicate (w.z-64) 0)⟩) hck (by omega) hn (by omega) rfl))⟩⟩
theorem sWrite_any {G:Pgr} {h:Heap} {so:Nat} {F:Nat→Prop} {w:St} {no:Int} {a:Option Addr} {c:Nat} {l:List UInt8} {F2 E2:Nat→Prop} (ok:Hp h F [dsI G so F w] [rdI F2 E2 (a,l.length,c) l] h) (hl:l.length≤1000000000) :
  HC Tryz.prog 29 #[.pointer (some ⟨so,0,none⟩),.int .i64 no,.slice a l.length c] h (fun v h'=>∃F',v=.int .i64 ((w.write no l).2:Int)∧Hp h F [dsI G so F' (w.write no l).1] [] h'):=by
 obtain ⟨r,E,V,ok,hf,he⟩:=ds_open ok;have hzc:=V.zc;have hfew:=V.few;have hnf:=V.nowfew;obtain ⟨p,lg,z,in_,many,om,ov,sa,sc,svl,pF,ga⟩:=r;dsimp only at ok hf;generalize stF G so _=DF at ok hf;obtain rfl:z=w.z:=V.z;obtain rfl:in_=w.in_:=V.in_;have hpgs:(if w.in_=true then many else (G.sure ga).length)=w.pgs.length:=V.pgs;have ok:Hp h DF [boxI so 123 [.iface G.tid (.pointer (some ⟨p,0,none⟩)),.pointer lg,.int .i64 (w.z:Int),.bool w.in_,.int .i64 (many:Int),.map om,.slice sa svl.length sc,.bool false],nowI om ov,capI 2 120 (sa,svl.length,sc) (svl.flatMap RSv.cells),G.it p pF ga] [pbsI E ov,svsI E svl,rdI F2 E2 (a,l.length,c) l] h:=ok;have hsz0:=ok.chg.size;have hlc:=ok.r2.c;have hlm:=ok.r2.m;simp only at hlc hlm;refine HC.go Tryz.func29 62 ?_;refine .seq<|.r<|.z .asI<|.nil ?_;refine .seq<|.seq<|.r<|.z .mvP<|.k 9 .func (swithin_any (G:=G) (r:=(⟨p,lg,w.z,w.in_,many,om,ov,sa,sc,svl,pF,ga⟩:RS G.α)) (i:=w.in_) ok.m0 rfl)<|.z .asI<|.nil ?_;refine .seq<|.r<|.z .mvI<|.z .neq<|.nil ?_;refine .cd (fun C0=>?_) (fun C0=>?_)
 ·
  have hw:w.in_=false:=wthE_y C0;refine .seq<|.r<|.z .mvI<|.z .asI<|.nil ?_;refine .ret ⟨.int .i64 ((wthE w.in_):Int),Res.one rfl rfl,⟨_,by rw [St.write_10 hw,wthE_f (by rw [hw];decide)],by rw [St.write_10 hw];exact (ds_close (r':=(⟨p,lg,w.z,w.in_,many,om,ov,sa,sc,svl,pF,ga⟩:RS G.α)) (E':=E) (ok.f1.f1) hf (fun j hj=>.inl (he j hj)) V)⟩⟩
 have hw:w.in_=true:=wthE_n C0;have hmany:many=w.now.length:=V.many hw;refine .skip<|.seq<|.block fun K0 hK0=>.seq<|.r<|.z .mvI<|.z .lss<|.z .mvB<|.sd (fun G16=>?_) (fun G16=>?_)
 ·
  refine .y<|.y<|.y<|.y<|.y<|.y<|.z .pkt<|.z .mvB<|.y<|.y<|.y<|.y<|.y<|.y<|.y<|.y<|.z .pkt<|.z .mvB<|.y<|.y<|.y<|.y<|.y<|.y<|.y<|.z .pkt<|.z .asB<|.nil ?_;refine .ct<|.seq<|.r<|.z .asI<|.nil ?_;have hbad:no<2∨(w.now.length:Int)+1<no∨w.now=[]∨l.length≠w.z:=by
   first
   | exact .inl (by omega)
   | exact .inr (.inl (by omega))
   | exact .inr (.inr (.inl (List.eq_nil_of_length_eq_zero (by omega))))
   | exact .inr (.inr (.inr (by omega)))
  refine .ret ⟨.int .i64 1,Res.one rfl rfl,⟨_,by rw [St.write_1 hw hbad];rfl,by rw [St.write_1 hw hbad];exact (ds_close (r':=(⟨p,lg,w.z,w.in_,many,om,ov,sa,sc,svl,pF,ga⟩:RS G.α)) (E':=E) (ok.f1.f1) hf (fun j hj=>.inl (he j hj)) V)⟩⟩
 refine .z .mvP<|.z .nil<|.z (.fa T.fd123_4)<|.z (.fa T.fd120_0)<|.z (.ldx T.ag3 ok.m0)<|.z .lss<|.z .pkf<|.z .mvB<|.sd (fun G24=>?_) (fun G24=>?_)
 ·
  refine .y<|.y<|.y<|.y<|.y<|.y<|.y<|.y<|.z .pkt<|.z .mvB<|.y<|.y<|.y<|.y<|.y<|.y<|.y<|.z .pkt<|.z .asB<|.nil ?_;refine .ct<|.seq<|.r<|.z .asI<|.nil ?_;have hbad:no<2∨(w.now.length:Int)+1<no∨w.now=[]∨l.length≠w.z:=by
   first
   | exact .inl (by omega)
   | exact .inr (.inl (by omega))
   | exact .inr (.inr (.inl (List.eq_nil_of_length_eq_zero (by omega))))
   | exact .inr (.inr (.inr (by omega)))
  refine .ret ⟨.int .i64 1,Res.one rfl rfl,⟨_,by rw [St.write_1 hw hbad];rfl,by rw [St.write_1 hw hbad];exact (ds_close (r':=(⟨p,lg,w.z,w.in_,many,om,ov,sa,sc,svl,pF,ga⟩:RS G.α)) (E':=E) (ok.f1.f1) hf (fun j hj=>.inl (he j hj)) V)⟩⟩
 refine .z .mvI<|.z .mvP<|.z .nil<|.z (.fa T.fd123_4)<|.z (.fa T.fd120_0)<|.z (.ldx T.ag3 ok.m0)<|.z (.addI (b:=1))<|.z .gtr<|.z .pkf<|.z .mvB<|.sd (fun G34=>?_) (fun G34=>?_)
 ·
  refine .y<|.y<|.y<|.y<|.y<|.y<|.y<|.z .pkt<|.z .asB<|.nil ?_;refine .ct<|.seq<|.r<|.z .asI<|.nil ?_;have hbad:no<2∨(w.now.length:Int)+1<no∨w.now=[]∨l.length≠w.z:=by
   first
   | exact .inl (by omega)
   | exact .inr (.inl (by omega))
   | exact .inr (.inr (.inl (List.eq_nil_of_length_eq_zero (by omega))))
   | exact .inr (.inr (.inr (by omega)))
  refine .ret ⟨.int .i64 1,Res.one rfl rfl,⟨_,by rw [St.write_1 hw hbad];rfl,by rw [St.write_1 hw hbad];exact (ds_close (r':=(⟨p,lg,w.z,w.in_,many,om,ov,sa,sc,svl,pF,ga⟩:RS G.α)) (E':=E) (ok.f1.f1) hf (fun j hj=>.inl (he j hj)) V)⟩⟩
 refine .z .mvS<|.z (.len T.el44)<|.z .mvP<|.z .nil<|.z (.fa T.fd123_2)<|.z (.ldx T.ag3 ok.m0)<|.z .neq<|.z .pkf<|.z .asB<|.nil ?_;refine .cd (fun C1=>?_) (fun C1=>?_)
 ·
  refine .seq<|.r<|.z .asI<|.nil ?_;have hbad:no<2∨(w.now.length:Int)+1<no∨w.now=[]∨l.length≠w.z:=by
   first
   | exact .inl (by omega)
   | exact .inr (.inl (by omega))
   | exact .inr (.inr (.inl (List.eq_nil_of_length_eq_zero (by omega))))
   | exact .inr (.inr (.inr (by omega)))
  refine .ret ⟨.int .i64 1,Res.one rfl rfl,⟨_,by rw [St.write_1 hw hbad];rfl,by rw [St.write_1 hw hbad];exact (ds_close (r':=(⟨p,lg,w.z,w.in_,many,om,ov,sa,sc,svl,pF,ga⟩:RS G.α)) (E':=E) (ok.f1.f1) hf (fun j hj=>.inl (he j hj)) V)⟩⟩
 have hgood:¬(no<2∨(w.now.length:Int)+1<no∨w.now=[]∨l.length≠w.z):=by
  rintro (h | h | h | h)
  ·omega
  ·omega
  ·rw [h] at hmany;simp at hmany;omega
  ·omega
 obtain ⟨k,rfl⟩:∃k:Nat,no=(k:Int):=⟨no.toNat,by omega⟩;refine .seq<|.r<|.z .mvI<|.z .gtr<|.z .mvB<|.sd (fun G46=>?_) (fun G46=>?_)
 ·
  refine .y<|.y<|.y<|.y<|.y<|.y<|.y<|.z .pkt<|.z .asB<|.nil ?_;refine .ct<|.seq<|.r<|.z .asI<|.nil ?_;refine .ret ⟨.int .i64 5,Res.one rfl rfl,⟨_,by rw [St.write_5 hw hgood (by first | exact .inl (by omega) | exact .inr (by omega))];rfl,by rw [St.write_5 hw hgood (by first | exact .inl (by omega) | exact .inr (by omega))];exact (ds_close (r':=(⟨p,lg,w.z,w.in_,many,om,ov,sa,sc,svl,pF,ga⟩:RS G.α)) (E':=E) (ok.f1.f1) hf (fun j hj=>.inl (he j hj)) V)⟩⟩
 have hmz:=pg_mul (x:=(k:Int)) (s:=w.z) (by omega) (by omega) (by omega);refine .z .mvI<|.z .mvP<|.z .nil<|.z (.fa T.fd123_2)<|.z (.ldx T.ag3 ok.m0)<|.z .mulI<|.z .gtr<|.z .pkf<|.z .asB<|.nil ?_;refine .cd (fun C2=>?_) (fun C2=>?_)
 ·
  refine .seq<|.r<|.z .asI<|.nil ?_;refine .ret ⟨.int .i64 5,Res.one rfl rfl,⟨_,by rw [St.write_5 hw hgood (by first | exact .inl (by omega) | exact .inr (by omega))];rfl,by rw [St.write_5 hw hgood (by first | exact .inl (by omega) | exact .inr (by omega))];exact (ds_close (r':=(⟨p,lg,w.z,w.in_,many,om,ov,sa,sc,svl,pF,ga⟩:RS G.α)) (E':=E) (ok.f1.f1) hf (fun j hj=>.inl (he j hj)) V)⟩⟩
 have hgd:¬(1048576<(k:Int)∨16777216<(k:Int)*(w.z:Int)):=by rintro (h | h)<;>omega
 obtain ⟨mb,rfl⟩:=(V.now hw).1;have ok:=Hp.nowSome (ok.n1);refine .skip<|.end<|hK0 _ _<|.seq<|.a 5 (fun fl hh=>cond fl True (Hp h DF [] [] hh)) mixed ?_;have hS:=ok.k0.tR.tR.tR;refine .g 0 false rfl 55 hS (fun _=>.mvP)<|.g 1 false rfl 56 hS (fun _=>.nil)<|.g 2 false rfl 57 hS (fun _=>.fa T.fd123_4)<|.g 3 false rfl 58 hS (fun _=>.mvI)<|.g 4 false rfl 59 hS (fun _=>.mvS)<|.o1 5<|.c' true rfl 60 .func (bclone_any (a:=a) (c:=c) (l:=l) ok.r2 (by omega)) ?_;rintro _ η1 own;obtain ⟨ya1,yc1,rfl⟩:=own.formB;have ok:=ok.own own;refine ⟨trivial,?_⟩;refine .o1 6<|.c' true rfl 61 .func (sput_any (G:=G) (r:=(⟨p,lg,w.z,w.in_,many,(some mb),ov,sa,sc,svl,pF,ga⟩:RS G.α)) (mb:=mb) (a:=ya1) (c:=yc1) (l:=l) (no:=k) (Hp.locL [boxI so 123 [.iface G.tid (.pointer (some ⟨p,0,none⟩)),.pointer lg,.int .i64 (w.z:Int),.bool w.in_,.int .i64 (many:Int),.map (some mb),.slice sa svl.length sc,.bool false],mapI (Value.int .i64) mb (bsE ov)] (ok.n1.n2)).e0 (by rfl)) ?_;rintro _ η2 ⟨rfl,q⟩;have ok:=Hp.liftL [boxI so 123 [.iface G.tid (.pointer (some ⟨p,0,none⟩)),.pointer lg,.int .i64 (w.z:Int),.bool w.in_,.int .i64 (many:Int),.map (some mb),.slice sa svl.length sc,.bool false],mapI (Value.int .i64) mb (bsE ov)] (ok.n1.n2) q;have hnb:=Hp.putNew (ok.n2) hf;have ok:=Hp.pbsPut (k:=(k:Int)) (ok.n2);have ok:=ok.d0 (svsI (fun j=>E j∨blkC (sv (ya1,(l).length,yc1)) j) svl) (Svs.mono (E:=E) (E':=(fun j=>E j∨blkC (sv (ya1,(l).length,yc1)) j)) (fun j h=>Or.inl h) ok.r1) (fun _ h=>h);refine ⟨trivial,?_⟩;refine .e ?_;refine .seq<|.r<|.z .asI<|.nil ?_;have hkz:k*w.z≤16777216:=by have h2:((k*w.z:Nat):Int)=(k:Int)*(w.z:Int):=Int.natCast_mul _ _;omega
 refine .ret ⟨.int .i64 0,Res.one rfl rfl,⟨_,by rw [St.write_0 hw hgood hgd];rfl,by rw [St.write_0 hw hgood hgd];exact (ds_close (r':=(⟨p,lg,w.z,w.in_,(max many k),(some mb),(mput ov (k:Int) ⟨ya1,yc1,l⟩),sa,sc,svl,pF,ga⟩:RS G.α)) (E':=(fun j=>E j∨blkC (sv (ya1,(l).length,yc1)) j)) (ok.f1) hf (fun j hj=>hj.elim (fun hj=>.inl (he j hj)) (hnb j)) (V.write hw (no:=k) (x:=⟨ya1,yc1,l⟩) (by omega) (by omega) (fun h=>hgood (.inr (.inr (.inl h)))) (Classical.byContradiction fun h=>hgood (.inr (.inr (.inr h)))) hkz))⟩⟩
end Go.Proofs.YtndlpekckpdncaaGreat
namespace Go.HL
open Go
theorem Hp.locW {h0 h:Heap} {D:Nat→Prop} {M R:List Itm} {x:Itm} {e:TypeId} {a:Option Addr} {c:Nat} {l:List UInt8} (ok:Hp h0 D (x::capI 1 e (a,l.length,c) (l.map bv)::M) R h):Hp h x.F [x] [rdI (blkC (sv (a,l.length,c))) none_ (a,l.length,c) l] h:=
 (ok.k2.n1.frzB (l:=l) rfl).loc1
end Go.HL
namespace Go.Proofs.YtndlpekckpdncaaGreat
open Go Go.HL
theorem St.pgk {w:St} (k:StOk w):PgsK w.z w.pgs:=by
 unfold St.pgs;split
 ·exact k.now
 ·exact k.sure
theorem St.page_len {w:St} (k:StOk w) {no:Int} (h1:1≤no) (h2:no≤(w.pgs.length:Int)):(w.pgs.getD (no-1).toNat []).length=w.z:=by
 have hi:(no-1).toNat<w.pgs.length:=by omega
 rw [List.getD_eq_getElem?_getD,List.getElem?_eq_getElem hi];exact (St.pgk k).len _ (List.getElem_mem hi)
theorem St.few {w:St} (k:StOk w):w.pgs.length≤65536:=by
 have h1:=(St.pgk k).many;have h2:=okSz_c k.z;have h3:w.pgs.length*256≤w.pgs.length*w.z:=Nat.mul_le_mul_left _ (by omega);omega
theorem sReadOk_any {G:Pgr} {h:Heap} {so:Nat} {F:Nat→Prop} {w:St} {no:Int} {b:List UInt8} (ok:Hp h F [dsI G so F w] [] h) (h1:1≤no) (h2:no≤(w.pgs.length:Int)) (hb:b=w.pgs.getD (no-1).toNat []:=by exact rfl) :
  HC Tryz.prog 22 #[.pointer (some ⟨so,0,none⟩),.int .i64 no] h (fun v h'=>∃F' x c,v=.tuple #[.slice x b.length c,.int .i64 0]∧b.length=w.z∧Hp h F [capI 1 5 (x,b.length,c) (b.map bv),dsI G so F' w] [] h'):=by
 have k:=ds_ok ok.m0;subst hb;refine (sRead_any ok).mono fun v h' ⟨F',x,c,hv,q⟩=>?_;rw [St.read_ok h1 h2] at hv q;exact ⟨F',x,c,hv,St.page_len k h1 h2,q⟩
theorem sWriteC_any {G:Pgr} {h0 h:Heap} {D:Nat→Prop} {M R:List Itm} {so:Nat} {F:Nat→Prop} {w:St} {no:Int} {a:Option Addr} {n c:Nat} {l:List UInt8} (ok:Hp h0 D (dsI G so F w::capI 1 5 (a,n,c) (l.map bv)::M) R h) (hl:l.length≤1000000000) :
  HC Tryz.prog 29 #[.pointer (some ⟨so,0,none⟩),.int .i64 no,.slice a n c] h (fun v h'=>∃F',v=.int .i64 ((w.write no l).2:Int)∧Hp h F [dsI G so F' (w.write no l).1] [] h'):=by
 obtain rfl:n=l.length:=ok.n1.lenB;exact sWrite_any ok.locW hl
theorem dec_chk (l:List UInt8):(decN l).1=hd0∨ChkP (decN l).1:=by
 unfold decN;split
 ·exact .inl rfl
 split
 ·exact .inl rfl
 split
 ·rename_i h;exact .inr h.1
 ·exact .inl rfl
structure HdR (H:Hd):Prop where
 size:0≤H.size∧H.size≤4096
 pages:0≤H.pages∧H.pages≤65536
 free:0≤H.free∧H.free≤1048576
 many:0≤H.many∧H.many≤1048576
 cookie:0≤H.cookie∧H.cookie≤2147483647
 version:0≤H.version∧H.version≤2147483647
theorem St.head_r {w:St} (k:StOk w):HdR w.head:=by
 have hz:=okSz_c k.z;have hf:=St.few k;by_cases h:w.pgs.length=0
 ·rw [St.head_0 h];exact ⟨by decide,by decide,by decide,by decide,by decide,by decide⟩
 ·rw [St.head_n h];rcases dec_chk (w.pgs.getD 0 []) with e | c
  ·rw [e];exact ⟨⟨by simp only;omega,by simp only;omega⟩,⟨by simp only;omega,by simp only;omega⟩,show (0:Int)≤0∧(0:Int)≤1048576 by decide,show (0:Int)≤0∧(0:Int)≤1048576 by decide,show (0:Int)≤0∧(0:Int)≤2147483647 by decide,show (0:Int)≤0∧(0:Int)≤2147483647 by decide⟩
  ·have h2:=c.2.2.1;have hf:0≤(decN (w.pgs.getD 0 [])).1.free∧(decN (w.pgs.getD 0 [])).1.free≤1048576:=by
    have h1:=c.2.1;by_cases h:(decN (w.pgs.getD 0 [])).1.many=0
    ·have:=h2.2.2.1 h;omega
    ·have:=h2.2.2.2 (by omega);omega
   exact ⟨⟨by simp only;omega,by simp only;omega⟩,⟨by simp only;omega,by simp only;omega⟩,hf,⟨h2.1,by have:=h2.2.1;have:=c.2.1;show (decN (w.pgs.getD 0 [])).1.many≤_;omega⟩,c.2.2.2.1,c.2.2.2.2⟩
theorem dec_many {w:St} (h:w.head.many=0):w.head.free=0:=by
 by_cases h0:w.pgs.length=0
 ·rw [St.head_0 h0];rfl
 ·rw [St.head_n h0] at h⊢;rcases dec_chk (w.pgs.getD 0 []) with e | c
  ·rw [e];rfl
  ·exact c.2.2.1.2.2.1 h
theorem St.head_pages {w:St} : w.head.pages=(w.pgs.length:Int):=by
 by_cases h:w.pgs.length=0
 ·rw [St.head_0 h,h];rfl
 ·rw [St.head_n h]
theorem chk_mul {k:Nat} {z1:Int} (h:k=256∨k=512∨k=1024∨k=2048∨k=4096) (hq:¬16777216 / (k:Int)<z1):(k:Int)*z1≤16777216:=by
 rcases h with rfl | rfl | rfl | rfl | rfl<;>omega
theorem chk_bad0 {k:Nat} {z0 z1 z2 z3 z4 z5:Int} (h:k=256∨k=512∨k=1024∨k=2048∨k=4096) (hz:k=256∨(k:Int)<2*z0) (hg:¬((k:Int)<z0∧(k:Int)<4096)) (hb:(k:Int)≠z0∨z1<1∨1048576<z1∨16777216 / (k:Int)<z1):¬ChkP ⟨z0,z1,z2,z3,z4,z5⟩:=by
 rintro ⟨p1,⟨p2,p3,p4⟩,_⟩;simp only at p1 p2 p3 p4;have p1:=okZ_cases p1;by_cases hk:(k:Int)=z0
 ·rw [←hk] at p4;rcases hb with hb | hb | hb | hb
  ·exact hb hk
  ·omega
  ·omega
  ·rcases h with rfl | rfl | rfl | rfl | rfl<;>omega
 ·omega
theorem dbl_step {k:Nat} {z:Int} (h:k=256∨k=512∨k=1024∨k=2048∨k=4096) (h4:(k:Int)<4096):(2*k=256∨2*k=512∨2*k=1024∨2*k=2048∨2*k=4096):=by omega
theorem rcheck_any {h:Heap} {z0 z1 z2 z3 z4 z5:Int} (h0 : -9223372036854775808≤z0∧z0≤9223372036854775807) (h1 : -9223372036854775808≤z1∧z1≤9223372036854775807) (h2 : -9223372036854775808≤z2∧z2≤9223372036854775807) (h3 : -9223372036854775808≤z3∧z3≤9223372036854775807) (h4 : -9223372036854775808≤z4∧z4≤9223372036854775807) (h5 : -9223372036854775808≤z5∧z5≤9223372036854775807):HC Tryz.prog 159 #[.agg #[.int .i64 z0,.int .i64 z1,.int .i64 z2,.int .i64 z3,.int .i64 z4,.int .i64 z5]] h (fun v h'=>v=.int .i64 (chkC ⟨z0,z1,z2,z3,z4,z5⟩:Int)∧Ext h h'):=by
 have ok:=Hp.nil h none_;refine HC.go Tryz.func159 90 ?_;refine .seq<|.r<|.a' 1 (.bxA (cs:=[.int .i64 z0,.int .i64 z1,.int .i64 z2,.int .i64 z3,.int .i64 z4,.int .i64 z5]) ok) ?_;rintro _ η1 ⟨pb1,rfl,ok,xe⟩;refine .z .asI<|.nil ?_;refine .seq<|.r<|.z .asI<|.nil ?_;refine .seq<|.block fun K0 hK0=>.loop (fun m s hh=>∃(k:Nat),Has s [(1,.pointer (some ⟨pb1,0,none⟩)),(3,.int .i64 (k:Int))]∧Hp h none_ [boxI pb1 38 [.int .i64 z0,.int .i64 z1,.int .i64 z2,.int .i64 z3,.int .i64 z4,.int .i64 z5]] [] hh∧(k=256∨k=512∨k=1024∨k=2048∨k=4096)∧(k=256∨(k:Int)<2*z0)∧m=4096-k) ?_ ?_
 ·exact ⟨_,256,⟨rfl,rfl,trivial⟩,ok,.inl rfl,.inl rfl,rfl⟩
 rintro _ _ η2 ⟨k,hs,ok,hkc,hkz,rfl⟩ J0 hJ0;refine .frame hs fun τ=>?_;refine .seq<|.seq<|.join (fun s hh=>∃(bb:Bool),Has s [(1,.pointer (some ⟨pb1,0,none⟩)),(3,.int .i64 (k:Int)),(11,.bool bb)]∧Hp h none_ [boxI pb1 38 [.int .i64 z0,.int .i64 z1,.int .i64 z2,.int .i64 z3,.int .i64 z4,.int .i64 z5]] [] hh∧bb=decide ((k:Int)<z0∧(k:Int)<4096)) ?_ ?_
 ·
  refine .r<|.z .mvI<|.z (.fa T.fd38_0)<|.z (.ldx T.ag3 ok.m0)<|.z .lss<|.z .mvB<|.sd (fun G8=>?_) (fun G8=>?_)
  ·
   refine .z .mvI<|.z .lss<|.z .pkt<|.nil ?_;refine .end<|⟨_,⟨rfl,rfl,rfl,trivial⟩,ok,by rw [decide_eq_decide];exact ⟨fun h=>⟨by assumption,h⟩,fun h=>h.2⟩⟩
  refine .y<|.y<|.z .pkf<|.nil ?_;refine .end<|⟨false,⟨rfl,rfl,rfl,trivial⟩,ok,(decide_eq_false (fun h=>by have:=h.1;omega)).symm⟩
 rintro s η3 ⟨bb,hs,ok,hbb⟩;refine .frame hs fun τ=>?_;refine .condr (fun C0=>?_) (fun C0=>?_)
 ·
  have hge:=of_decide_eq_false (hbb.symm.trans C0);refine .exit<|hK0 _ _<|.seq<|.seq<|.q (hm:=mixed)<|.z .mvI<|.z (.fa T.fd38_0)<|.z (.ldx T.ag3 ok.m0)<|.z .neq<|.z .mvB<|.sd (fun G18=>?_) (fun G18=>?_)
  ·
   refine .y<|.y<|.y<|.z .pkt<|.z .mvB<|.y<|.y<|.y<|.z .pkt<|.z .mvB<|.y<|.y<|.y<|.y<|.y<|.z .pkt<|.nil ?_;refine .ct<|.seq<|.r<|.z .asI<|.nil ?_;refine .ret ⟨.int .i64 1,Res.one rfl rfl,⟨by rw [chk_n (chk_bad0 hkc hkz hge (by first | exact .inl (by omega) | exact .inr (.inl (by omega)) | exact .inr (.inr (.inl (by omega))) | exact .inr (.inr (.inr (by omega)))))]<;>rfl,ok.chg⟩⟩
  refine .z (.fa T.fd38_1)<|.z (.ldx T.ag3 ok.m0)<|.z .lss<|.z .pkf<|.z .mvB<|.sd (fun G23=>?_) (fun G23=>?_)
  ·
   refine .y<|.y<|.y<|.z .pkt<|.z .mvB<|.y<|.y<|.y<|.y<|.y<|.z .pkt<|.nil ?_;refine .ct<|.seq<|.r<|.z .asI<|.nil ?_;refine .ret ⟨.int .i64 1,Res.one rfl rfl,⟨by rw [chk_n (chk_bad0 hkc hkz hge (by first | exact .inl (by omega) | exact .inr (.inl (by omega)) | exact .inr (.inr (.inl (by omega))) | exact .inr (.inr (.inr (by omega)))))]<;>rfl,ok.chg⟩⟩
  refine .z (.fa T.fd38_1)<|.z (.ldx T.ag3 ok.m0)<|.z .gtr<|.z .pkf<|.z .mvB<|.sd (fun G28=>?_) (fun G28=>?_)
  ·
   refine .y<|.y<|.y<|.y<|.y<|.z .pkt<|.nil ?_;refine .ct<|.seq<|.r<|.z .asI<|.nil ?_;refine .ret ⟨.int .i64 1,Res.one rfl rfl,⟨by rw [chk_n (chk_bad0 hkc hkz hge (by first | exact .inl (by omega) | exact .inr (.inl (by omega)) | exact .inr (.inr (.inl (by omega))) | exact .inr (.inr (.inr (by omega)))))]<;>rfl,ok.chg⟩⟩
  refine .z (.fa T.fd38_1)<|.z (.ldx T.ag3 ok.m0)<|.z .mvI<|.z (.quo (hr:=(by omega)))<|.z .gtr<|.z .pkf<|.nil ?_;refine .cd (fun C1=>?_) (fun C1=>?_)
  ·
   refine .seq<|.r<|.z .asI<|.nil ?_;refine .ret ⟨.int .i64 1,Res.one rfl rfl,⟨by rw [chk_n (chk_bad0 hkc hkz hge (by first | exact .inl (by omega) | exact .inr (.inl (by omega)) | exact .inr (.inr (.inl (by omega))) | exact .inr (.inr (.inr (by omega)))))]<;>rfl,ok.chg⟩⟩
  have hkz0:(k:Int)=z0:=by omega
  have hml:=chk_mul hkc (z1:=z1) (by omega);refine .skip<|.seq<|.seq<|.r<|.z (.fa T.fd38_3)<|.z (.ldx T.ag3 ok.m0)<|.z .lss<|.z .mvB<|.sd (fun G38=>?_) (fun G38=>?_)
  ·
   refine .y<|.y<|.y<|.y<|.y<|.z .pkt<|.z .mvB<|.y<|.y<|.y<|.y<|.y<|.y<|.y<|.y<|.z .pkt<|.z .mvB<|.y<|.y<|.y<|.y<|.y<|.y<|.y<|.y<|.y<|.y<|.y<|.y<|.y<|.y<|.y<|.z .pkt<|.nil ?_;refine .ct<|.seq<|.r<|.z .asI<|.nil ?_;refine .ret ⟨.int .i64 1,Res.one rfl rfl,⟨by rw [chk_n (by rintro ⟨p1,⟨p2,p3,p4⟩,⟨p5,p6,p7,p8⟩,⟨p9,p10⟩,p11,p12⟩;simp only at p1 p2 p3 p4 p5 p6 p7 p8 p9 p10 p11 p12;first | omega | simp_all)]<;>rfl,ok.chg⟩⟩
  refine .z (.fa T.fd38_3)<|.z (.ldx T.ag3 ok.m0)<|.z (.fa T.fd38_1)<|.z (.ldx T.ag3 ok.m0)<|.z .geq<|.z .pkf<|.z .mvB<|.sd (fun G45=>?_) (fun G45=>?_)
  ·
   refine .y<|.y<|.y<|.y<|.y<|.y<|.y<|.y<|.z .pkt<|.z .mvB<|.y<|.y<|.y<|.y<|.y<|.y<|.y<|.y<|.y<|.y<|.y<|.y<|.y<|.y<|.y<|.z .pkt<|.nil ?_;refine .ct<|.seq<|.r<|.z .asI<|.nil ?_;refine .ret ⟨.int .i64 1,Res.one rfl rfl,⟨by rw [chk_n (by rintro ⟨p1,⟨p2,p3,p4⟩,⟨p5,p6,p7,p8⟩,⟨p9,p10⟩,p11,p12⟩;simp only at p1 p2 p3 p4 p5 p6 p7 p8 p9 p10 p11 p12;first | omega | simp_all)]<;>rfl,ok.chg⟩⟩
  refine .z (.fa T.fd38_3)<|.z (.ldx T.ag3 ok.m0)<|.z .eql<|.z .mvB<|.sd (fun G49=>?_) (fun G49=>?_)
  ·
   refine .z (.fa T.fd38_2)<|.z (.ldx T.ag3 ok.m0)<|.z .neq<|.z .pkt<|.z .pkf<|.z .mvB<|.sd (fun G55=>?_) (fun G55=>?_)
   ·
    refine .y<|.y<|.y<|.y<|.y<|.y<|.y<|.y<|.y<|.y<|.y<|.y<|.y<|.y<|.y<|.z .pkt<|.nil ?_;refine .ct<|.seq<|.r<|.z .asI<|.nil ?_;refine .ret ⟨.int .i64 1,Res.one rfl rfl,⟨by rw [chk_n (by rintro ⟨p1,⟨p2,p3,p4⟩,⟨p5,p6,p7,p8⟩,⟨p9,p10⟩,p11,p12⟩;simp only at p1 p2 p3 p4 p5 p6 p7 p8 p9 p10 p11 p12;first | omega | simp_all)]<;>rfl,ok.chg⟩⟩
   refine .z (.fa T.fd38_3)<|.z (.ldx T.ag3 ok.m0)<|.z .gtr<|.z .mvB<|.sd (fun G59=>?_) (fun G59=>?_)
   ·
    refine .z (.fa T.fd38_2)<|.z (.ldx T.ag3 ok.m0)<|.z .lss<|.z .mvB<|.sd (fun G63=>?_) (fun G63=>?_)
    ·
     refine .y<|.y<|.y<|.y<|.y<|.z .pkt<|.z .pkt<|.z .pkf<|.nil ?_;refine .ct<|.seq<|.r<|.z .asI<|.nil ?_;refine .ret ⟨.int .i64 1,Res.one rfl rfl,⟨by rw [chk_n (by rintro ⟨p1,⟨p2,p3,p4⟩,⟨p5,p6,p7,p8⟩,⟨p9,p10⟩,p11,p12⟩;simp only at p1 p2 p3 p4 p5 p6 p7 p8 p9 p10 p11 p12;first | omega | simp_all)]<;>rfl,ok.chg⟩⟩
    refine .z (.fa T.fd38_2)<|.z (.ldx T.ag3 ok.m0)<|.z (.fa T.fd38_1)<|.z (.ldx T.ag3 ok.m0)<|.z .gtr<|.z .pkf<|.z .pkt<|.z .pkf<|.nil ?_;refine .cd (fun C2=>?_) (fun C2=>?_)
    ·
     refine .seq<|.r<|.z .asI<|.nil ?_;refine .ret ⟨.int .i64 1,Res.one rfl rfl,⟨by rw [chk_n (by rintro ⟨p1,⟨p2,p3,p4⟩,⟨p5,p6,p7,p8⟩,⟨p9,p10⟩,p11,p12⟩;simp only at p1 p2 p3 p4 p5 p6 p7 p8 p9 p10 p11 p12;first | omega | simp_all)]<;>rfl,ok.chg⟩⟩
    refine .skip<|.seq<|.seq<|.r<|.z (.fa T.fd38_4)<|.z (.ldx T.ag3 ok.m0)<|.z .lss<|.z .mvB<|.sd (fun G75=>?_) (fun G75=>?_)
    ·
     refine .y<|.y<|.y<|.z .pkt<|.z .mvB<|.y<|.y<|.y<|.z .pkt<|.z .mvB<|.y<|.y<|.y<|.z .pkt<|.nil ?_;refine .ct<|.seq<|.r<|.z .asI<|.nil ?_;refine .ret ⟨.int .i64 1,Res.one rfl rfl,⟨by rw [chk_n (by rintro ⟨p1,⟨p2,p3,p4⟩,⟨p5,p6,p7,p8⟩,⟨p9,p10⟩,p11,p12⟩;simp only at p1 p2 p3 p4 p5 p6 p7 p8 p9 p10 p11 p12;first | omega | simp_all)]<;>rfl,ok.chg⟩⟩
    refine .z (.fa T.fd38_4)<|.z (.ldx T.ag3 ok.m0)<|.z .gtr<|.z .pkf<|.z .mvB<|.sd (fun G80=>?_) (fun G80=>?_)
    ·
     refine .y<|.y<|.y<|.z .pkt<|.z .mvB<|.y<|.y<|.y<|.z .pkt<|.nil ?_;refine .ct<|.seq<|.r<|.z .asI<|.nil ?_;refine .ret ⟨.int .i64 1,Res.one rfl rfl,⟨by rw [chk_n (by rintro ⟨p1,⟨p2,p3,p4⟩,⟨p5,p6,p7,p8⟩,⟨p9,p10⟩,p11,p12⟩;simp only at p1 p2 p3 p4 p5 p6 p7 p8 p9 p10 p11 p12;first | omega | simp_all)]<;>rfl,ok.chg⟩⟩
    refine .z (.fa T.fd38_5)<|.z (.ldx T.ag3 ok.m0)<|.z .lss<|.z .pkf<|.z .mvB<|.sd (fun G85=>?_) (fun G85=>?_)
    ·
     refine .y<|.y<|.y<|.z .pkt<|.nil ?_;refine .ct<|.seq<|.r<|.z .asI<|.nil ?_;refine .ret ⟨.int .i64 1,Res.one rfl rfl,⟨by rw [chk_n (by rintro ⟨p1,⟨p2,p3,p4⟩,⟨p5,p6,p7,p8⟩,⟨p9,p10⟩,p11,p12⟩;simp only at p1 p2 p3 p4 p5 p6 p7 p8 p9 p10 p11 p12;first | omega | simp_all)]<;>rfl,ok.chg⟩⟩
    refine .z (.fa T.fd38_5)<|.z (.ldx T.ag3 ok.m0)<|.z .gtr<|.z .pkf<|.nil ?_;refine .cd (fun C3=>?_) (fun C3=>?_)
    ·
     refine .seq<|.r<|.z .asI<|.nil ?_;refine .ret ⟨.int .i64 1,Res.one rfl rfl,⟨by rw [chk_n (by rintro ⟨p1,⟨p2,p3,p4⟩,⟨p5,p6,p7,p8⟩,⟨p9,p10⟩,p11,p12⟩;simp only at p1 p2 p3 p4 p5 p6 p7 p8 p9 p10 p11 p12;first | omega | simp_all)]<;>rfl,ok.chg⟩⟩
    refine .skip<|.seq<|.r<|.z .asI<|.nil ?_;refine .ret ⟨.int .i64 0,Res.one rfl rfl,⟨by rw [chk_y ⟨decide_eq_true (by simp only;omega),⟨by simp only;omega,by simp only;omega,by rw [hkz0] at hml;exact hml⟩,⟨by simp only;omega,by simp only;omega,by simp only;omega,by simp only;omega⟩,⟨by simp only;omega,by simp only;omega⟩,by simp only;omega,by simp only;omega⟩]<;>rfl,ok.chg⟩⟩
   refine .y<|.y<|.y<|.y<|.y<|.y<|.y<|.y<|.y<|.y<|.z .pkf<|.z .pkf<|.nil ?_;refine .cf<|.skip<|.seq<|.seq<|.r<|.z (.fa T.fd38_4)<|.z (.ldx T.ag3 ok.m0)<|.z .lss<|.z .mvB<|.sd (fun G75=>?_) (fun G75=>?_)
   ·
    refine .y<|.y<|.y<|.z .pkt<|.z .mvB<|.y<|.y<|.y<|.z .pkt<|.z .mvB<|.y<|.y<|.y<|.z .pkt<|.nil ?_;refine .ct<|.seq<|.r<|.z .asI<|.nil ?_;refine .ret ⟨.int .i64 1,Res.one rfl rfl,⟨by rw [chk_n (by rintro ⟨p1,⟨p2,p3,p4⟩,⟨p5,p6,p7,p8⟩,⟨p9,p10⟩,p11,p12⟩;simp only at p1 p2 p3 p4 p5 p6 p7 p8 p9 p10 p11 p12;first | omega | simp_all)]<;>rfl,ok.chg⟩⟩
   refine .z (.fa T.fd38_4)<|.z (.ldx T.ag3 ok.m0)<|.z .gtr<|.z .pkf<|.z .mvB<|.sd (fun G80=>?_) (fun G80=>?_)
   ·
    refine .y<|.y<|.y<|.z .pkt<|.z .mvB<|.y<|.y<|.y<|.z .pkt<|.nil ?_;refine .ct<|.seq<|.r<|.z .asI<|.nil ?_;refine .ret ⟨.int .i64 1,Res.one rfl rfl,⟨by rw [chk_n (by rintro ⟨p1,⟨p2,p3,p4⟩,⟨p5,p6,p7,p8⟩,⟨p9,p10⟩,p11,p12⟩;simp only at p1 p2 p3 p4 p5 p6 p7 p8 p9 p10 p11 p12;first | omega | simp_all)]<;>rfl,ok.chg⟩⟩
   refine .z (.fa T.fd38_5)<|.z (.ldx T.ag3 ok.m0)<|.z .lss<|.z .pkf<|.z .mvB<|.sd (fun G85=>?_) (fun G85=>?_)
   ·
    refine .y<|.y<|.y<|.z .pkt<|.nil ?_;refine .ct<|.seq<|.r<|.z .asI<|.nil ?_;refine .ret ⟨.int .i64 1,Res.one rfl rfl,⟨by rw [chk_n (by rintro ⟨p1,⟨p2,p3,p4⟩,⟨p5,p6,p7,p8⟩,⟨p9,p10⟩,p11,p12⟩;simp only at p1 p2 p3 p4 p5 p6 p7 p8 p9 p10 p11 p12;first | omega | simp_all)]<;>rfl,ok.chg⟩⟩
   refine .z (.fa T.fd38_5)<|.z (.ldx T.ag3 ok.m0)<|.z .gtr<|.z .pkf<|.nil ?_;refine .cd (fun C3=>?_) (fun C3=>?_)
   ·
    refine .seq<|.r<|.z .asI<|.nil ?_;refine .ret ⟨.int .i64 1,Res.one rfl rfl,⟨by rw [chk_n (by rintro ⟨p1,⟨p2,p3,p4⟩,⟨p5,p6,p7,p8⟩,⟨p9,p10⟩,p11,p12⟩;simp only at p1 p2 p3 p4 p5 p6 p7 p8 p9 p10 p11 p12;first | omega | simp_all)]<;>rfl,ok.chg⟩⟩
   refine .skip<|.seq<|.r<|.z .asI<|.nil ?_;refine .ret ⟨.int .i64 0,Res.one rfl rfl,⟨by rw [chk_y ⟨decide_eq_true (by simp only;omega),⟨by simp only;omega,by simp only;omega,by rw [hkz0] at hml;exact hml⟩,⟨by simp only;omega,by simp only;omega,by simp only;omega,by simp only;omega⟩,⟨by simp only;omega,by simp only;omega⟩,by simp only;omega,by simp only;omega⟩]<;>rfl,ok.chg⟩⟩
  refine .y<|.y<|.y<|.z .pkf<|.z .pkf<|.z .mvB<|.z (.fa T.fd38_3)<|.z (.ldx T.ag3 ok.m0)<|.z .gtr<|.z .mvB<|.sd (fun G59=>?_) (fun G59=>?_)
  ·
   refine .z (.fa T.fd38_2)<|.z (.ldx T.ag3 ok.m0)<|.z .lss<|.z .mvB<|.sd (fun G63=>?_) (fun G63=>?_)
   ·
    refine .y<|.y<|.y<|.y<|.y<|.z .pkt<|.z .pkt<|.z .pkf<|.nil ?_;refine .ct<|.seq<|.r<|.z .asI<|.nil ?_;refine .ret ⟨.int .i64 1,Res.one rfl rfl,⟨by rw [chk_n (by rintro ⟨p1,⟨p2,p3,p4⟩,⟨p5,p6,p7,p8⟩,⟨p9,p10⟩,p11,p12⟩;simp only at p1 p2 p3 p4 p5 p6 p7 p8 p9 p10 p11 p12;first | omega | simp_all)]<;>rfl,ok.chg⟩⟩
   refine .z (.fa T.fd38_2)<|.z (.ldx T.ag3 ok.m0)<|.z (.fa T.fd38_1)<|.z (.ldx T.ag3 ok.m0)<|.z .gtr<|.z .pkf<|.z .pkt<|.z .pkf<|.nil ?_;refine .cd (fun C2=>?_) (fun C2=>?_)
   ·
    refine .seq<|.r<|.z .asI<|.nil ?_;refine .ret ⟨.int .i64 1,Res.one rfl rfl,⟨by rw [chk_n (by rintro ⟨p1,⟨p2,p3,p4⟩,⟨p5,p6,p7,p8⟩,⟨p9,p10⟩,p11,p12⟩;simp only at p1 p2 p3 p4 p5 p6 p7 p8 p9 p10 p11 p12;first | omega | simp_all)]<;>rfl,ok.chg⟩⟩
   refine .skip<|.seq<|.seq<|.r<|.z (.fa T.fd38_4)<|.z (.ldx T.ag3 ok.m0)<|.z .lss<|.z .mvB<|.sd (fun G75=>?_) (fun G75=>?_)
   ·
    refine .y<|.y<|.y<|.z .pkt<|.z .mvB<|.y<|.y<|.y<|.z .pkt<|.z .mvB<|.y<|.y<|.y<|.z .pkt<|.nil ?_;refine .ct<|.seq<|.r<|.z .asI<|.nil ?_;refine .ret ⟨.int .i64 1,Res.one rfl rfl,⟨by rw [chk_n (by rintro ⟨p1,⟨p2,p3,p4⟩,⟨p5,p6,p7,p8⟩,⟨p9,p10⟩,p11,p12⟩;simp only at p1 p2 p3 p4 p5 p6 p7 p8 p9 p10 p11 p12;first | omega | simp_all)]<;>rfl,ok.chg⟩⟩
   refine .z (.fa T.fd38_4)<|.z (.ldx T.ag3 ok.m0)<|.z .gtr<|.z .pkf<|.z .mvB<|.sd (fun G80=>?_) (fun G80=>?_)
   ·
    refine .y<|.y<|.y<|.z .pkt<|.z .mvB<|.y<|.y<|.y<|.z .pkt<|.nil ?_;refine .ct<|.seq<|.r<|.z .asI<|.nil ?_;refine .ret ⟨.int .i64 1,Res.one rfl rfl,⟨by rw [chk_n (by rintro ⟨p1,⟨p2,p3,p4⟩,⟨p5,p6,p7,p8⟩,⟨p9,p10⟩,p11,p12⟩;simp only at p1 p2 p3 p4 p5 p6 p7 p8 p9 p10 p11 p12;first | omega | simp_all)]<;>rfl,ok.chg⟩⟩
   refine .z (.fa T.fd38_5)<|.z (.ldx T.ag3 ok.m0)<|.z .lss<|.z .pkf<|.z .mvB<|.sd (fun G85=>?_) (fun G85=>?_)
   ·
    refine .y<|.y<|.y<|.z .pkt<|.nil ?_;refine .ct<|.seq<|.r<|.z .asI<|.nil ?_;refine .ret ⟨.int .i64 1,Res.one rfl rfl,⟨by rw [chk_n (by rintro ⟨p1,⟨p2,p3,p4⟩,⟨p5,p6,p7,p8⟩,⟨p9,p10⟩,p11,p12⟩;simp only at p1 p2 p3 p4 p5 p6 p7 p8 p9 p10 p11 p12;first | omega | simp_all)]<;>rfl,ok.chg⟩⟩
   refine .z (.fa T.fd38_5)<|.z (.ldx T.ag3 ok.m0)<|.z .gtr<|.z .pkf<|.nil ?_;refine .cd (fun C3=>?_) (fun C3=>?_)
   ·
    refine .seq<|.r<|.z .asI<|.nil ?_;refine .ret ⟨.int .i64 1,Res.one rfl rfl,⟨by rw [chk_n (by rintro ⟨p1,⟨p2,p3,p4⟩,⟨p5,p6,p7,p8⟩,⟨p9,p10⟩,p11,p12⟩;simp only at p1 p2 p3 p4 p5 p6 p7 p8 p9 p10 p11 p12;first | omega | simp_all)]<;>rfl,ok.chg⟩⟩
   refine .skip<|.seq<|.r<|.z .asI<|.nil ?_;refine .ret ⟨.int .i64 0,Res.one rfl rfl,⟨by rw [chk_y ⟨decide_eq_true (by simp only;omega),⟨by simp only;omega,by simp only;omega,by rw [hkz0] at hml;exact hml⟩,⟨by simp only;omega,by simp only;omega,by simp only;omega,by simp only;omega⟩,⟨by simp only;omega,by simp only;omega⟩,by simp only;omega,by simp only;omega⟩]<;>rfl,ok.chg⟩⟩
  refine .y<|.y<|.y<|.y<|.y<|.y<|.y<|.y<|.y<|.y<|.z .pkf<|.z .pkf<|.nil ?_;refine .cf<|.skip<|.seq<|.seq<|.r<|.z (.fa T.fd38_4)<|.z (.ldx T.ag3 ok.m0)<|.z .lss<|.z .mvB<|.sd (fun G75=>?_) (fun G75=>?_)
  ·
   refine .y<|.y<|.y<|.z .pkt<|.z .mvB<|.y<|.y<|.y<|.z .pkt<|.z .mvB<|.y<|.y<|.y<|.z .pkt<|.nil ?_;refine .ct<|.seq<|.r<|.z .asI<|.nil ?_;refine .ret ⟨.int .i64 1,Res.one rfl rfl,⟨by rw [chk_n (by rintro ⟨p1,⟨p2,p3,p4⟩,⟨p5,p6,p7,p8⟩,⟨p9,p10⟩,p11,p12⟩;simp only at p1 p2 p3 p4 p5 p6 p7 p8 p9 p10 p11 p12;first | omega | simp_all)]<;>rfl,ok.chg⟩⟩
  refine .z (.fa T.fd38_4)<|.z (.ldx T.ag3 ok.m0)<|.z .gtr<|.z .pkf<|.z .mvB<|.sd (fun G80=>?_) (fun G80=>?_)
  ·
   refine .y<|.y<|.y<|.z .pkt<|.z .mvB<|.y<|.y<|.y<|.z .pkt<|.nil ?_;refine .ct<|.seq<|.r<|.z .asI<|.nil ?_;refine .ret ⟨.int .i64 1,Res.one rfl rfl,⟨by rw [chk_n (by rintro ⟨p1,⟨p2,p3,p4⟩,⟨p5,p6,p7,p8⟩,⟨p9,p10⟩,p11,p12⟩;simp only at p1 p2 p3 p4 p5 p6 p7 p8 p9 p10 p11 p12;first | omega | simp_all)]<;>rfl,ok.chg⟩⟩
  refine .z (.fa T.fd38_5)<|.z (.ldx T.ag3 ok.m0)<|.z .lss<|.z .pkf<|.z .mvB<|.sd (fun G85=>?_) (fun G85=>?_)
  ·
   refine .y<|.y<|.y<|.z .pkt<|.nil ?_;refine .ct<|.seq<|.r<|.z .asI<|.nil ?_;refine .ret ⟨.int .i64 1,Res.one rfl rfl,⟨by rw [chk_n (by rintro ⟨p1,⟨p2,p3,p4⟩,⟨p5,p6,p7,p8⟩,⟨p9,p10⟩,p11,p12⟩;simp only at p1 p2 p3 p4 p5 p6 p7 p8 p9 p10 p11 p12;first | omega | simp_all)]<;>rfl,ok.chg⟩⟩
  refine .z (.fa T.fd38_5)<|.z (.ldx T.ag3 ok.m0)<|.z .gtr<|.z .pkf<|.nil ?_;refine .cd (fun C3=>?_) (fun C3=>?_)
  ·
   refine .seq<|.r<|.z .asI<|.nil ?_;refine .ret ⟨.int .i64 1,Res.one rfl rfl,⟨by rw [chk_n (by rintro ⟨p1,⟨p2,p3,p4⟩,⟨p5,p6,p7,p8⟩,⟨p9,p10⟩,p11,p12⟩;simp only at p1 p2 p3 p4 p5 p6 p7 p8 p9 p10 p11 p12;first | omega | simp_all)]<;>rfl,ok.chg⟩⟩
  refine .skip<|.seq<|.r<|.z .asI<|.nil ?_;refine .ret ⟨.int .i64 0,Res.one rfl rfl,⟨by rw [chk_y ⟨decide_eq_true (by simp only;omega),⟨by simp only;omega,by simp only;omega,by rw [hkz0] at hml;exact hml⟩,⟨by simp only;omega,by simp only;omega,by simp only;omega,by simp only;omega⟩,⟨by simp only;omega,by simp only;omega⟩,by simp only;omega,by simp only;omega⟩]<;>rfl,ok.chg⟩⟩
 have hlt:=of_decide_eq_true (hbb.symm.trans C0);refine .skip<|.block fun K1 hK1=>.r<|.z .mvI<|.z (.mulI (a:=2))<|.z .asI<|.nil ?_;refine .end<|hK1 _ _<|.end<|hJ0 _ _ _ ⟨2*k,⟨rfl,rfl,trivial⟩,ok,dbl_step (z:=z0) hkc (by omega),.inr (by omega),rfl⟩ (by omega)
theorem rencode_any {h:Heap} {n0 n1 n2 n3 n4 n5:Nat} (h0:n0<4294967296) (h1:n1<4294967296) (h2:n2<4294967296) (h3:n3<4294967296) (h4:n4<4294967296) (h5:n5<4294967296):HC Tryz.prog 120 #[.agg #[.int .i64 (n0:Int),.int .i64 (n1:Int),.int .i64 (n2:Int),.int .i64 (n3:Int),.int .i64 (n4:Int),.int .i64 (n5:Int)]] h (fun v h'=>(¬ChkP ⟨((n0:Nat):Int),((n1:Nat):Int),((n2:Nat):Int),((n3:Nat):Int),((n4:Nat):Int),((n5:Nat):Int)⟩∧v=.tuple #[.slice none 0 0,.int .i64 1]∧Ext h h')∨(ChkP ⟨((n0:Nat):Int),((n1:Nat):Int),((n2:Nat):Int),((n3:Nat):Int),((n4:Nat):Int),((n5:Nat):Int)⟩∧∃w,v=.tuple #[w,.int .i64 0]∧Own h h' 1 5 w ((hdB [n0,n1,n2,n3,n4,n5]).map bv))):=by
 have ok:=Hp.nil h none_;refine HC.go Tryz.func120 53 ?_;refine .seq<|.r<|.a' 1 (.bxA (cs:=[.int .i64 (n0:Int),.int .i64 (n1:Int),.int .i64 (n2:Int),.int .i64 (n3:Int),.int .i64 (n4:Int),.int .i64 (n5:Int)]) ok) ?_;rintro _ η1 ⟨pb1,rfl,ok,xe⟩;refine .z .asS<|.z .asI<|.nil ?_;refine .seq<|.seq<|.r<|.z (.ldb T.ag38 ok.m0 T.sz38)<|.c' 8 .func (rcheck_any (z0:=(n0:Int)) (z1:=(n1:Int)) (z2:=(n2:Int)) (z3:=(n3:Int)) (z4:=(n4:Int)) (z5:=(n5:Int)) (by omega) (by omega) (by omega) (by omega) (by omega) (by omega)) ?_;rintro _ η2 ⟨rfl,hx⟩;have ok:=ok.ext hx;refine .z .neq<|.nil ?_;refine .cd (fun C0=>?_) (fun C0=>?_)
 ·
  refine .seq<|.r<|.z .asS<|.z .asI<|.nil ?_;refine .ret ⟨.tuple #[.slice none 0 0,.int .i64 1],Res.two rfl rfl rfl,.inl ⟨fun p=>C0 (by rw [chk_y p];rfl),rfl,ok.chg⟩⟩
 refine .skip<|.seq<|.r<|.a' 10 (.lit [.const (.int .u8 116),.const (.int .u8 111),.const (.int .u8 109),.const (.int .u8 101),.const (.int .u8 32),.const (.int .u8 102),.const (.int .u8 105),.const (.int .u8 108),.const (.int .u8 101),.const (.int .u8 32),.const (.int .u8 49)] (cs:=[.int .u8 116,.int .u8 111,.int .u8 109,.int .u8 101,.int .u8 32,.int .u8 102,.int .u8 105,.int .u8 108,.int .u8 101,.int .u8 32,.int .u8 49]) T.el44 T.sz5 T.zr5 ok ⟨rfl,rfl,rfl,rfl,rfl,rfl,rfl,rfl,rfl,rfl,rfl,trivial⟩) ?_;rintro _ η3 ⟨pb2,rfl,ok,xe⟩;have ok:=ok.cx (ys:=([116,111,109,101,32,102,105,108,101,32,49]:List UInt8).map bv) rfl;refine .a' 11 (.cvL T.el44 T.in5 ok) ?_;rintro _ η4 ⟨rfl,ok,cg⟩;refine .a' 12 (.lit [.const (.int .u8 0),.const (.int .u8 0),.const (.int .u8 0),.const (.int .u8 0),.const (.int .u8 0)] (cs:=[.int .u8 0,.int .u8 0,.int .u8 0,.int .u8 0,.int .u8 0]) T.el44 T.sz5 T.zr5 ok ⟨rfl,rfl,rfl,rfl,rfl,trivial⟩) ?_;rintro _ η5 ⟨pb3,rfl,ok,xe⟩;have ok:=ok.cx (ys:=([0,0,0,0,0]:List UInt8).map bv) rfl;refine .a' 13 (.app (news:=([0,0,0,0,0]:List UInt8).map bv) T.el44 T.sz5 T.by5 T.zr5 ok.n1 (ok.n1.m1).sl bv_all (by simp only [List.length_map,List.length_append,List.length_take,List.length_cons,List.length_nil,List.length_replicate,List.length_range,fixedN_len,sealN_len];omega)) ?_;rintro _ η6 ⟨ya1,yn1,yc1,rfl,ok,ap⟩;have ok:=ok.cx (ys:=([116,111,109,101,32,102,105,108,101,32,49]++([0,0,0,0,0]:List UInt8)).map bv) (by simp [bv]);obtain rfl:yn1=([116,111,109,101,32,102,105,108,101,32,49]++([0,0,0,0,0]:List UInt8)).length:=ok.lenB;refine .z .asS<|.nil ?_;refine .seq<|.r<|.z (.fa T.fd38_0)<|.z (.ldx T.ag3 ok.m2)<|.z (.fa T.fd38_1)<|.z (.ldx T.ag3 ok.m2)<|.z (.fa T.fd38_2)<|.z (.ldx T.ag3 ok.m2)<|.z (.fa T.fd38_3)<|.z (.ldx T.ag3 ok.m2)<|.z (.fa T.fd38_4)<|.z (.ldx T.ag3 ok.m2)<|.z (.fa T.fd38_5)<|.z (.ldx T.ag3 ok.m2)<|.a' 26 (.lit [.tmp 15,.tmp 17,.tmp 19,.tmp 21,.tmp 23,.tmp 25] (cs:=[.int .i64 (n0:Int),.int .i64 (n1:Int),.int .i64 (n2:Int),.int .i64 (n3:Int),.int .i64 (n4:Int),.int .i64 (n5:Int)]) T.el24 T.sz3 T.zr3 ok ⟨rfl,rfl,rfl,rfl,rfl,rfl,trivial⟩) ?_;rintro _ η7 ⟨pb4,rfl,ok,xe⟩;obtain ⟨N,hN⟩:∃N:List Nat,N=[n0,n1,n2,n3,n4,n5]:=⟨_,rfl⟩;have hNl:N.length=6:=by rw [hN];rfl
 have hNb:∀j (hj:j<N.length),N[j]<4294967296:=by subst hN;intro j hj;match j,hj with | 0,_=>exact h0 | 1,_=>exact h1 | 2,_=>exact h2 | 3,_=>exact h3 | 4,_=>exact h4 | 5,_=>exact h5
 have hML:(N.map Int.ofNat).length=6:=by rw [List.length_map,hNl]
 have ok:=(ok.cx (ys:=(N.map Int.ofNat).map iv) (by rw [hN];rfl)).frzI rfl;refine .z .asS<|.nil ?_;refine .seq<|.seq<|.r<|.z .asI<|.nil ?_;refine .block fun K0 hK0=>.loop (fun m s hh=>∃(i:Nat) (bs:List UInt8) (a4:Option Addr) (c4:Nat),Has s [(4,.slice a4 bs.length c4),(5,.slice (some ⟨pb4,0,none⟩) 6 6),(6,.int .i64 (i:Int))]∧Hp h none_ [capI 1 5 (a4,bs.length,c4) (bs.map bv)] [rdI (blkC (sv (some ⟨pb4,0,none⟩,6,6))) none_ (some ⟨pb4,0,none⟩,6,6) (N.map Int.ofNat)] hh∧i≤6∧bs=signL++hdF (N.take i)∧bs.length=16+4*i∧m=6-i) ?_ ?_
 ·exact ⟨_,0,([116,111,109,101,32,102,105,108,101,32,49]++([0,0,0,0,0]:List UInt8)),ya1,yc1,⟨rfl,rfl,rfl,trivial⟩,(ok).k1,Nat.zero_le _,rfl,rfl,rfl⟩
 rintro _ _ η8 ⟨i,bs,a4,c4,hs,ok,hi,hbs,hbl,rfl⟩ J0 hJ0;refine .frame hs fun τ=>?_;refine .seq<|.seq<|.r<|.z .mvI<|.z .mvS<|.z (.len T.el24)<|.z .lss<|.nil ?_;refine .cdr (fun C1=>?_) (fun C1=>?_)
 ·
  obtain rfl:i=6:=by omega
  rw [show N.take 6=N from by rw [←hNl,List.take_length]] at hbs;refine .exit<|hK0 _ _<|.seq<|.block fun K2 hK2=>.loop (fun m s hh=>∃(k:Nat) (cs:List UInt8) (a6:Option Addr) (c6:Nat),Has s [(4,.slice a6 cs.length c6)]∧Hp h none_ [capI 1 5 (a6,cs.length,c6) (cs.map bv)] [] hh∧k≤20∧cs=signL++hdF N++List.replicate k 0∧cs.length=40+k∧m=20-k) ?_ ?_
  ·exact ⟨_,0,bs,a4,c4,⟨rfl,trivial⟩,(ok).k1.tR,Nat.zero_le _,by rw [hbs];simp,by omega,rfl⟩
  rintro _ _ η9 ⟨k,cs,a6,c6,hs,ok,hk,hcs,hcl,rfl⟩ J1 hJ1;refine .frame hs fun τ=>?_;refine .seq<|.seq<|.r<|.z .mvS<|.z (.len T.el44)<|.z .lss<|.nil ?_;refine .cdr (fun C2=>?_) (fun C2=>?_)
  ·
   obtain rfl:k=20:=by omega
   refine .exit<|hK2 _ _<|.seq<|.r<|.z .mvS<|.z .mvS<|.k 49 .func (rsum_any (a:=a6) (c:=c6) (l:=cs) (RdL.ofCapB (v:=(a6,cs.length,c6)) (l:=cs) ok.m0))<|.z (.cvs T.in130 T.in89 (M:=18446744073709551616) rfl rfl (a:=(sumN cs)) (ha:=by exact Nat.lt_of_lt_of_le (sumN_lt _) (by decide)))<|.c' 51 .func (rfixed_any (n:=(sumN cs)) (size:=4) (by first | omega | exact Nat.lt_of_lt_of_le (sumN_lt _) (by decide)) (by omega) (by omega)) ?_;rintro _ η10 own;obtain ⟨ya2,yc2,rfl⟩:=own.formB;have ok:=ok.own own;refine .a' 52 (.app (news:=(fixedN (sumN cs) 4).map bv) T.el44 T.sz5 T.by5 T.zr5 ok.n1 (ok.n1.m1).sl bv_all (by simp only [List.length_map,List.length_append,List.length_take,List.length_cons,List.length_nil,List.length_replicate,List.length_range,fixedN_len,sealN_len];omega)) ?_;rintro _ η11 ⟨ya3,yn3,yc3,rfl,ok,ap⟩;have ok:=ok.cx (ys:=(cs++(fixedN (sumN cs) 4)).map bv) (by simp [bv]);obtain rfl:yn3=(cs++(fixedN (sumN cs) 4)).length:=ok.lenB;refine .z .asS<|.z .asI<|.nil ?_;refine .ret ⟨.tuple #[.slice ya3 ((cs++(fixedN (sumN cs) 4)).length) yc3,.int .i64 0],Res.two rfl rfl rfl,.inr ⟨chk_o C0,_,rfl,by rw [show hdB [n0,n1,n2,n3,n4,n5]=cs++(fixedN (sumN cs) 4) from by rw [←hN];unfold hdB hdT;rw [←hcs]];exact (ok).toOwn⟩⟩
  refine .skip<|.block fun K3 hK3=>.r<|.z .mvS<|.a' 45 (.lit [.const (.int .u8 0)] (cs:=[.int .u8 0]) T.el44 T.sz5 T.zr5 ok ⟨rfl,trivial⟩) ?_;rintro _ η12 ⟨pb5,rfl,ok,xe⟩;have ok:=ok.cx (ys:=([0]:List UInt8).map bv) rfl;refine .a' 46 (.app (news:=([0]:List UInt8).map bv) T.el44 T.sz5 T.by5 T.zr5 ok.n1 (ok.n1.m1).sl bv_all (by simp only [List.length_map,List.length_append,List.length_take,List.length_cons,List.length_nil,List.length_replicate,List.length_range,fixedN_len,sealN_len];omega)) ?_;rintro _ η13 ⟨ya4,yn4,yc4,rfl,ok,ap⟩;have ok:=ok.cx (ys:=(cs++([0]:List UInt8)).map bv) (by simp [bv]);obtain rfl:yn4=(cs++([0]:List UInt8)).length:=ok.lenB;refine .z .asS<|.nil ?_;refine .end<|hK3 _ _<|.end<|hJ1 _ _ _ ⟨k+1,cs++[0],ya4,yc4,⟨rfl,trivial⟩,(ok).k1,by omega,by rw [hcs,List.append_assoc,←List.replicate_succ'],by rw [List.length_append,hcl];rfl,rfl⟩ (by omega)
 have hi6:i<6:=by omega
 refine .skip<|.seq<|.block fun K1 hK1=>.r<|.z .mvS<|.z .mvS<|.z .mvI<|.z (.ix1 i T.el24 T.sz3)<|.z (.ld T.ag3 (ok.r0.i64 (i:=i) (by omega)))<|?_;have hiN:i<N.length:=by omega
 have hNi:=hNb i hiN;rw [show (N.map Int.ofNat)[i]=((N[i]:Nat):Int) from List.getElem_map _];refine .z (.cvs T.in130 T.in3 (M:=18446744073709551616) rfl rfl)<|.c' 39 .func (rfixed_any (n:=N[i]) (size:=4) (by first | omega | exact Nat.lt_of_lt_of_le (sumN_lt _) (by decide)) (by omega) (by omega)) ?_;rintro _ η14 own;obtain ⟨ya5,yc5,rfl⟩:=own.formB;have ok:=ok.own own;refine .a' 40 (.app (news:=(fixedN (N[i]) 4).map bv) T.el44 T.sz5 T.by5 T.zr5 ok.n1 (ok.n1.m1).sl bv_all (by simp only [List.length_map,List.length_append,List.length_take,List.length_cons,List.length_nil,List.length_replicate,List.length_range,fixedN_len,sealN_len];omega)) ?_;rintro _ η15 ⟨ya6,yn6,yc6,rfl,ok,ap⟩;have ok:=ok.cx (ys:=(bs++(fixedN (N[i]) 4)).map bv) (by simp [bv]);obtain rfl:yn6=(bs++(fixedN (N[i]) 4)).length:=ok.lenB;refine .z .asS<|.nil ?_;refine .end<|hK1 _ _<|.r<|.z .mvI<|.z (.addI (b:=1))<|.z .asI<|.nil ?_;refine .end<|hJ0 _ _ _ ⟨i+1,bs++fixedN N[i] 4,ya6,yc6,⟨rfl,rfl,rfl,trivial⟩,(ok).k1,by omega,by rw [hdF_take hiN,hbs,List.append_assoc],by rw [List.length_append,fixedN_len,hbl];omega,rfl⟩ (by omega)
abbrev SB:=Option Addr × Nat × List UInt8
structure RwB {α:Type} (k:Nat) (f:α→List Value) (g:α→SB) (h:Heap) (E:Nat→Prop) (x:SV) (l:List α):Prop where
 sl:Sl h k (sv x) (l.flatMap f)
 n:x.2.1=l.length
 bl:∀j,blk (sv x) j→E j
 by':∀y∈l,RdL h E E ((g y).1,(g y).2.2.length,(g y).2.1) (g y).2.2
section
variable {α:Type} {k:Nat} {f:α→List Value} {g:α→SB} {h h':Heap} {E E' G:Nat→Prop} {x:SV} {l:List α}
theorem RwB.st (c:Chg G h h') (d:∀j,E j→¬G j) (r:RwB k f g h E x l):RwB k f g h' E x l:=⟨Sl.chg c r.sl fun j hj=>d j (r.bl j hj),r.n,r.bl,fun y hy=>(r.by' y hy).st c d d⟩
theorem RwB.mono (hE:∀j,E j→E' j) (r:RwB k f g h E x l):RwB k f g h E' x l:=⟨r.sl,r.n,fun j hj=>hE j (r.bl j hj),fun y hy=>(r.by' y hy).mono hE hE⟩
theorem RwB.lt (hk:0<k) (r:RwB k f g h E x l):RwB k f g h (fun j=>E j∧j<h.size) x l:=⟨r.sl,r.n,fun j hj=>⟨r.bl j hj,blk_lt hk r.sl j hj⟩,fun y hy=>(r.by' y hy).lt⟩
@[reducible] def rwI (k:Nat) (f:α→List Value) (g:α→SB) (E:Nat→Prop) (x:SV) (l:List α):Itm:=⟨fun h=>RwB k f g h E x l,E,fun _ _ _ c d r=>r.st c d⟩
theorem RwB.nil (h:Heap) (E:Nat→Prop) (c:Nat) (hc:c≤9223372036854775807):RwB k f g h E (none,0,c) ([]:List α):=⟨⟨none,0,c,rfl,Nat.zero_le _,hc,by simp,fun h=>absurd h (by omega)⟩,rfl,fun j ⟨o,n,c,e,hn⟩=>(by cases e),fun _ h=>(by cases h)⟩
theorem RwB.m {a:Option Addr} {n c:Nat} (r:RwB k f g h E (a,n,c) l):n≤c∧c≤9223372036854775807:=by
 obtain ⟨a',n',c',e,h1,h2,h3⟩:=r.sl;injection e with e1 e2 e3;subst e1 e2 e3;exact ⟨h1,h2⟩
theorem RwB.ofCap {e:TypeId} (hk:0<k) (hf:∀y,(f y).length=k) (c:Cap h k e (sv x) (l.flatMap f)) (hb:∀j,blkC (sv x) j→E j) (h2:∀y∈l,RdL h E E ((g y).1,(g y).2.2.length,(g y).2.1) (g y).2.2):RwB k f g h E x l:=by
 obtain ⟨a,n,c'⟩:=x;have hs:=c.sl;refine ⟨hs,?_,fun j ⟨o,n,c,e,_⟩=>hb j ⟨o,n,c,e⟩,h2⟩;have h1:=hs.cells.1;have h3:(l.flatMap f).length=l.length*k:=by
  clear hs h1 c h2;induction l with
  | nil=>simp
  | cons y l ih=>rw [List.flatMap_cons,List.length_append,hf,ih,List.length_cons,Nat.add_mul];omega
 rw [h3] at h1;exact (Nat.eq_of_mul_eq_mul_right hk h1).symm
end
def RB.cells (x:RB):List Value:=[.slice x.a x.l.length x.c]
def RB.sb (x:RB):SB:=(x.a,x.c,x.l)
theorem RB.cells_len (x:RB):x.cells.length=1:=rfl
abbrev PgB (h:Heap) (E:Nat→Prop) (x:SV) (l:List RB):Prop:=RwB 1 RB.cells RB.sb h E x l
@[reducible] def pgwI (E:Nat→Prop) (x:SV) (l:List RB):Itm:=rwI 1 RB.cells RB.sb E x l
def pgs (l:List RB):List (List UInt8):=l.map RB.l
theorem pgs_len {l:List RB} : (pgs l).length=l.length:=List.length_map _
def Pby (h:Heap) (E:Nat→Prop) (l:List RB):Prop:=∀y∈l,RdL h E E (y.a,y.l.length,y.c) y.l
@[reducible] def pbyI (E:Nat→Prop) (l:List RB):Itm:=⟨fun h=>Pby h E l,E,fun _ _ _ c d b y hy=>(b y hy).st c d d⟩
theorem Pby.mono {h:Heap} {E E':Nat→Prop} {l:List RB} (hE:∀j,E j→E' j) (b:Pby h E l):Pby h E' l:=fun y hy=>(b y hy).mono hE hE
theorem Pby.snoc {h:Heap} {E:Nat→Prop} {l:List RB} {x:RB} (b:Pby h E l) (hx:RdL h E E (x.a,x.l.length,x.c) x.l):Pby h E (l++[x]):=fun y hy=>(List.mem_append.1 hy).elim (b y) fun h=>by rw [List.mem_singleton.1 h];exact hx
theorem Pby.set {h:Heap} {E:Nat→Prop} {l:List RB} {x:RB} {i:Nat} (b:Pby h E l) (hx:RdL h E E (x.a,x.l.length,x.c) x.l):Pby h E (l.set i x):=fun y hy=>by
 rcases List.mem_or_eq_of_mem_set hy with h1 | h1
 ·exact b y h1
 ·rw [h1];exact hx
theorem PgB.pby {h:Heap} {E:Nat→Prop} {x:SV} {l:List RB} (r:PgB h E x l):Pby h E l:=fun y hy=>r.by' y hy
theorem PgB.of {h:Heap} {E E':Nat→Prop} {e:TypeId} {x:SV} {l:List RB} (c:Cap h 1 e (sv x) (l.flatMap RB.cells)) (b:Pby h E' l) (hc:∀j,blkC (sv x) j→E j) (hE:∀j,E' j→E j):PgB h E x l:=RwB.ofCap (by decide) RB.cells_len c hc fun y hy=>(b y hy).mono hE hE
end Go.Proofs.YtndlpekckpdncaaGreat
namespace Go.HL
open Go Go.Proofs.YtndlpekckpdncaaGreat
section
variable {h0 h h':Heap} {D G:Nat→Prop} {M R:List Itm}
theorem Hp.pbyShare {Q E:Nat→Prop} {bs:List RB} {y:RB} {a:Itm} (ok:Hp h0 D M (a::pbyI Q bs::R) h) (hy:RdL h E E (y.a,y.l.length,y.c) y.l) (hE:∀j,E j→a.F j):Hp h0 D M (pbyI (fun j=>Q j∨E j) (bs++[y])::a::R) h:=by
 have o2:=ok.or (r:=pbyI Q bs) (r':=a) (by simp) (by simp) (pbyI (fun j=>Q j∨E j) (bs++[y])) (Pby.snoc (Pby.mono (fun j h=>.inl h) ok.r1) (hy.mono (fun j h=>.inr h) (fun j h=>.inr h))) (fun j h=>h.imp id (hE j));exact o2.sub (by simp;intro a h;exact .inr (.inr (.inr h)))
end
end Go.HL
namespace Go.Proofs.YtndlpekckpdncaaGreat
open Go Go.HL
structure RP where
 a:Option Addr
 c:Nat
 l:List RB
def RP.cells (x:RP):List Value:=[.slice x.a x.l.length x.c]
structure RwP (h:Heap) (E:Nat→Prop) (x:SV) (l:List RP):Prop where
 sl:Sl h 1 (sv x) (l.flatMap RP.cells)
 n:x.2.1=l.length
 bl:∀j,blk (sv x) j→E j
 by':∀y∈l,PgB h E (y.a,y.l.length,y.c) y.l
section
variable {h h':Heap} {E E' G:Nat→Prop} {x:SV} {l:List RP}
theorem RwP.st (c:Chg G h h') (d:∀j,E j→¬G j) (r:RwP h E x l):RwP h' E x l:=⟨Sl.chg c r.sl fun j hj=>d j (r.bl j hj),r.n,r.bl,fun y hy=>(r.by' y hy).st c d⟩
theorem RwP.mono (hE:∀j,E j→E' j) (r:RwP h E x l):RwP h E' x l:=⟨r.sl,r.n,fun j hj=>hE j (r.bl j hj),fun y hy=>(r.by' y hy).mono hE⟩
theorem RwP.lt (r:RwP h E x l):RwP h (fun j=>E j∧j<h.size) x l:=⟨r.sl,r.n,fun j hj=>⟨r.bl j hj,blk_lt (by decide) r.sl j hj⟩,fun y hy=>(r.by' y hy).lt (by decide)⟩
theorem RwP.nil (h:Heap) (E:Nat→Prop):RwP h E (none,0,0) []:=⟨Sl.nil _ 1,rfl,fun j ⟨o,n,c,e,hn⟩=>(by cases e),fun _ h=>(by cases h)⟩
end
@[reducible] def svwI (E:Nat→Prop) (x:SV) (l:List RP):Itm:=⟨fun h=>RwP h E x l,E,fun _ _ _ c d r=>r.st c d⟩
structure RDs where
 z:Nat
 sa:Option Addr
 sc:Nat
 sl:List RB
 i:Bool
 na:Option Addr
 nc:Nat
 nl:List RB
 va:Option Addr
 vc:Nat
 vl:List RP
def RDs.abs (w:RDs):St:=⟨w.z,pgs w.sl,w.i,pgs w.nl,w.vl.map fun y=>pgs y.l⟩
def RDs.cells (w:RDs):Array Value:=#[.int .i64 (w.z:Int),.slice w.sa w.sl.length w.sc,.bool w.i,.slice w.na w.nl.length w.nc,.slice w.va w.vl.length w.vc]
structure DocS (h:Heap) (E:Nat→Prop) (w:RDs):Prop where
 s:PgB h E (w.sa,w.sl.length,w.sc) w.sl
 n:PgB h E (w.na,w.nl.length,w.nc) w.nl
 v:RwP h E (w.va,w.vl.length,w.vc) w.vl
theorem DocS.st {G h h' E w} (c:Chg G h h') (d:∀j,E j→¬G j) (r:DocS h E w):DocS h' E w:=⟨r.s.st c d,r.n.st c d,r.v.st c d⟩
@[reducible] def dstI (E:Nat→Prop) (w:RDs):Itm:=⟨fun h=>DocS h E w,E,fun _ _ _ c d r=>r.st c d⟩
structure SRet (h:Heap) (E:Nat→Prop) (w:RDs) (h':Heap):Prop where
 ext:Ext h h'
 rd:DocS h' (fun j=>E j∨Nw h h' j) w
theorem _root_.Go.HL.Hp.sdoc {h0 h h':Heap} {D E:Nat→Prop} {M R:List Itm} {w w':RDs} (ok:Hp h0 D M (dstI E w::R) h) (q:SRet h E w' h'):∃E',(∀j,E' j→E j∨h.size≤j)∧Hp h0 D M (dstI E' w'::dstI E w::R) h':=by
 refine ⟨fun j=>(E j∨Nw h h' j),fun j hj=>hj.imp id (·.1),?_⟩;have o:=ok.ext q.ext;refine ⟨o.chg,o.m,fun i hi=>?_,o.mm,fun a ha b hb j hj hb2=>?_⟩
 ·rcases List.mem_cons.1 hi with rfl | hi
  ·exact ⟨q.rd,fun j hj=>hj.elim (fun h1=>(o.r (dstI E w) (by simp)).2 j h1) (·.2)⟩
  ·exact o.r i hi
 ·rcases List.mem_cons.1 hb with rfl | hb
  ·rcases hb2 with h1 | h1
   ·exact ok.mr a ha (dstI E w) (by simp) j hj h1
   ·have:=((ok.m a ha).2 j hj).1;have:=h1.1;omega
  ·exact o.mr a ha b hb j hj hb2
open Go Go.HL
theorem flatMap_set {l:List RB} {i:Nat} {x:RB} (v:Value) (hv:x.cells=[v]):(l.flatMap RB.cells).set i v=(l.set i x).flatMap RB.cells:=by
 induction l generalizing i with
 | nil=>rfl
 | cons a l ih=>
  have ha:a.cells=[.slice a.a a.l.length a.c]:=rfl;cases i with
  | zero=>simp [List.flatMap_cons,ha,hv]
  | succ i=>simp only [List.flatMap_cons,ha,List.set_cons_succ,List.cons_append,List.nil_append];rw [ih]
theorem pgs_set {l:List RB} {i:Nat} {x:RB} : pgs (l.set i x)=(pgs l).set i x.l:=List.map_set
theorem pgs_snoc {l:List RB} {x:RB} : pgs (l++[x])=pgs l++[x.l]:=List.map_append
end Go.Proofs.YtndlpekckpdncaaGreat
namespace Go.HL
open Go Go.Proofs.YtndlpekckpdncaaGreat
section
variable {h0 h h':Heap} {D:Nat→Prop} {M R:List Itm}
theorem Hp.orN (ok:Hp h0 D M R h) (x:Ext h h') (it:Itm) (hp:it.p h') (hF:∀j,it.F j→(∃r∈R,r.F j)∨Nw h h' j):Hp h0 D M (it::R) h':=by
 have o:=ok.ext x;refine ⟨o.chg,o.m,fun i hi=>?_,o.mm,fun a ha b hb j hj hb2=>?_⟩
 ·rcases List.mem_cons.1 hi with rfl | hi
  ·exact ⟨hp,fun j hj=>(hF j hj).elim (fun ⟨r,hr,h1⟩=>(o.r r hr).2 j h1) (·.2)⟩
  ·exact o.r i hi
 ·rcases List.mem_cons.1 hb with rfl | hb
  ·rcases hF j hb2 with ⟨r,hr,h1⟩ | h1
   ·exact ok.mr a ha r hr j hj h1
   ·have:=((ok.m a ha).2 j hj).1;have:=h1.1;omega
  ·exact o.mr a ha b hb j hj hb2
theorem Hp.pbyShareS {Q E:Nat→Prop} {bs:List RB} {i:Nat} {y:RB} {a:Itm} (ok:Hp h0 D M (a::pbyI Q bs::R) h) (hy:RdL h E E (y.a,y.l.length,y.c) y.l) (hE:∀j,E j→a.F j):Hp h0 D M (pbyI (fun j=>Q j∨E j) (bs.set i y)::a::R) h:=by
 have o2:=ok.or (r:=pbyI Q bs) (r':=a) (by simp) (by simp) (pbyI (fun j=>Q j∨E j) (bs.set i y)) (Pby.set (Pby.mono (fun j h=>.inl h) ok.r1) (hy.mono (fun j h=>.inr h) (fun j h=>.inr h))) (fun j h=>h.imp id (hE j));exact o2.sub (by simp;intro a h;exact .inr (.inr (.inr h)))
end
end Go.HL
namespace Go.Proofs.YtndlpekckpdncaaGreat
open Go Go.HL
theorem pgsR_take {l:List RB} {n:Nat} : pgs (l.take n)=(pgs l).take n:=List.map_take
theorem pgsR_nil {l:List RB} : pgs l=[]↔l.length=0:=by unfold pgs;simp
theorem PgB.preR {h:Heap} {E:Nat→Prop} {a:Option Addr} {c n:Nat} {l:List RB} (r:PgB h E (a,l.length,c) l) (hn:n≤l.length):PgB h E (a,(l.take n).length,c) (l.take n):=by
 have hl:(l.take n).length=n:=by simp;omega
 have h1:=Sl.cut r.sl (l:=0) (q:=n) (by simp only [Nat.zero_add];exact hn);rw [Nat.zero_mul,List.drop_zero,show cutA a 0 c 1=a from by unfold cutA;split<;>cases a<;>simp [Addr.add_zero']] at h1;refine ⟨?_,rfl,fun j ⟨o,n',c',e,hn'⟩=>r.bl j ?_,fun y hy=>r.by' y (List.mem_of_mem_take hy)⟩
 ·show Sl h 1 (.slice a (l.take n).length c) _;rw [hl];have h2:(l.flatMap RB.cells).take (n*1)=(l.take n).flatMap RB.cells:=by
   rw [Nat.mul_one];clear h1 r hn hl;induction l generalizing n with
   | nil=>simp
   | cons x l ih=>cases n with
    | zero=>simp
    | succ n=>rw [List.flatMap_cons,List.take_succ_cons,List.flatMap_cons,←ih];rfl
  rw [←h2];simpa using h1
 ·injection e with e1 e2 e3;simp only at e1 e2 e3;exact ⟨o,l.length,c,by subst e1;rfl,by omega⟩
theorem rwith_any {h:Heap} {E:Nat→Prop} {la ba:Option Addr} {lc bc no:Nat} {ll:List RB} {bl:List UInt8} (hl:PgB h E (la,ll.length,lc) ll) (hb:RdL h E E (ba,bl.length,bc) bl) (h1:1≤no) (h2:no≤2000000) (h3:ll.length≤1000000) :
  HC Tryz.prog 121 #[.slice la ll.length lc,.int .i64 (no:Int),.slice ba bl.length bc] h (fun v h'=>∃a c l',v=.slice a l'.length c∧pgs l'=wth (pgs ll) no bl∧Ext h h'∧PgB h' (fun j=>E j∨Nw h h' j) (a,l'.length,c) l'):=by
 have hsm:=hl.m;have hb2:=hb.m;have hb1:=hb.c;simp only at hb1 hb2;have ok:=((Hp.nil h none_).arg hb).old (pgwI (fun j=>E j∧j<h.size) (la,ll.length,lc) ll) (hl.lt (by decide)) (fun j hj=>hj.2);refine HC.go Tryz.func121 25 ?_;refine .seq<|.r<|.z .asS<|.nil ?_;refine .seq<|.r<|.a' 8 (.lit [] (cs:=[]) T.el28 T.sz44 T.zr44 ok trivial) ?_;rintro _ η1 ⟨pb1,rfl,ok,xe⟩;refine .z .mvS<|.a' 10 (.app (news:=ll.flatMap RB.cells) T.el28 T.sz44 T.by44 T.zr44 ok (ok.r0).sl (fun u hu=>by obtain ⟨x,_,hx⟩:=List.mem_flatMap.1 hu;simp [RB.cells] at hx;rw [hx];rfl) (by simp only [List.length_nil,flat_len RB.cells_len];omega)) ?_;rintro _ η2 ⟨ya1,yn1,yc1,rfl,ok,ap⟩;have ok:=ok.cx (ys:=ll.flatMap RB.cells) (by simp);obtain rfl:yn1=ll.length:=(Sl.sz (Cap.sl ok.m0) RB.cells_len (by decide)).1.symm;have ok:=ok.d0 (pbyI (fun j=>E j∧j<h.size) ll) (PgB.pby ok.r0) (fun _ h=>h);refine .z .asS<|.nil ?_;refine .seq<|.seq<|.r<|.z .mvI<|.z .mvS<|.z (.len T.el28)<|.z .gtr<|.nil ?_;refine .cd (fun C0=>?_) (fun C0=>?_)
 ·
  refine .seq<|.r<|.z .mvS<|.z .mvS<|.a' 17 (.lit [.tmp 16] (cs:=[.slice ba bl.length bc]) T.el28 T.sz44 T.zr44 ok ⟨rfl,trivial⟩) ?_;rintro _ η3 ⟨pb2,rfl,ok,xe⟩;refine .a' 18 (.app (news:=[.slice ba bl.length bc]) T.el28 T.sz44 T.by44 T.zr44 ok.n1 (ok.n1.m1).sl (oneL rfl) (by rw [flat_len RB.cells_len];simp only [List.length_cons,List.length_nil];omega)) ?_;rintro _ η4 ⟨ya2,yn2,yc2,rfl,ok,ap⟩;have ok:=ok.cx (ys:=(ll++[(⟨ba,bc,bl⟩:RB)]).flatMap RB.cells) (by simp [RB.cells]);obtain rfl:yn2=(ll++[(⟨ba,bc,bl⟩:RB)]).length:=(Sl.sz (Cap.sl ok.m0) RB.cells_len (by decide)).1.symm;have ok:=(ok.f2).pbyShare (E:=(fun j=>E j∧j<h.size)) (y:=(⟨ba,bc,bl⟩:RB)) (by exact (show RdL _ (fun j=>E j∧j<h.size) (fun j=>E j∧j<h.size) (ba,bl.length,bc) bl from (ok.f2).r0)) (fun _ h=>.inl h);refine .z .asS<|.nil ?_;refine .ret ⟨.slice ya2 ((ll++[(⟨ba,bc,bl⟩:RB)]).length) yc2,Res.one rfl rfl,⟨ya2,yc2,ll++[(⟨ba,bc,bl⟩:RB)],rfl,by rw [pgs_snoc];unfold wth;rw [if_pos (by rw [pgs_len];omega)],ok.chg,(PgB.of ok.m0 ok.r0 (fun j hj=>.inr (ok.fresh j hj)) (fun j hj=>(((fun j h=>h.elim (fun h=>.inl h.1) (fun h=>.inl h.1)):∀j,(fun j=>(fun j=>E j∧j<h.size) j∨(fun j=>E j∧j<h.size) j) j→E j∨h.size≤j) j hj).imp id fun h1=>⟨h1,ok.l0 j hj⟩))⟩⟩
 refine .skip<|.seq<|.r<|.z .mvS<|.z .mvI<|.z .sub<|.z .mvS<|?_;obtain ⟨bb1,oo1,rfl,fb1⟩:=ok.m0.pos (n:=ll.length) (by omega);refine .z (.ix1 (no-1) T.el28 T.sz44 (hi:=by omega))<|.ur' (.sxS (q:=(no-1)) T.sz44 ok) ?_;rintro η5 ⟨ok,cg⟩;refine .nil ?_;refine .seq<|.r<|.z .mvS<|.z .asS<|.nil ?_;have ok:=(ok.f2).pbyShareS (i:=no-1) (E:=(fun j=>E j∧j<h.size)) (y:=(⟨ba,bc,bl⟩:RB)) (by exact (show RdL _ (fun j=>E j∧j<h.size) (fun j=>E j∧j<h.size) (ba,bl.length,bc) bl from (ok.f2).r0)) (fun _ h=>.inl h);have ok:=(ok).cx (ys:=(ll.set (no-1) (⟨ba,bc,bl⟩:RB)).flatMap RB.cells) (flatMap_set (x:=(⟨ba,bc,bl⟩:RB)) _ rfl);have hsl:(ll.set (no-1) (⟨ba,bc,bl⟩:RB)).length=ll.length:=List.length_set ..;refine .ret ⟨.slice (some ⟨bb1,oo1,none⟩) ll.length yc1,Res.one rfl rfl,⟨some ⟨bb1,oo1,none⟩,yc1,ll.set (no-1) (⟨ba,bc,bl⟩:RB),by rw [hsl]<;>rfl,by rw [pgs_set];unfold wth;rw [if_neg (by rw [pgs_len];omega)],ok.chg,by rw [hsl];exact (PgB.of ok.m0 ok.r0 (fun j hj=>.inr (ok.fresh j hj)) (fun j hj=>(((fun j h=>h.elim (fun h=>.inl h.1) (fun h=>.inl h.1)):∀j,(fun j=>(fun j=>E j∧j<h.size) j∨(fun j=>E j∧j<h.size) j) j→E j∨h.size≤j) j hj).imp id fun h1=>⟨h1,ok.l0 j hj⟩))⟩⟩
theorem rbegin_any {h:Heap} {E:Nat→Prop} {z sc nc vc:Nat} {sa na va:Option Addr} {sl nl:List RB} {vl:List RP} {ib:Bool} (hw:DocS h E ⟨z,sa,sc,sl,ib,na,nc,nl,va,vc,vl⟩) :
  HC Tryz.prog 63 #[.agg #[.int .i64 (z:Int),.slice sa sl.length sc,.bool ib,.slice na nl.length nc,.slice va vl.length vc]] h (fun v h'=>∃w:RDs,v=.tuple #[.agg w.cells,.int .i64 (((St.begin_ (RDs.abs ⟨z,sa,sc,sl,ib,na,nc,nl,va,vc,vl⟩))).2:Int)]∧w.abs=((St.begin_ (RDs.abs ⟨z,sa,sc,sl,ib,na,nc,nl,va,vc,vl⟩))).1∧SRet h E w h'):=by
 have hsm:=hw.s.m;have hnm:=hw.n.m;have ok:=(((Hp.nil h none_).old (svwI (fun j=>E j∧j<h.size) (va,vl.length,vc) vl) hw.v.lt (fun j hj=>hj.2)).old (pgwI (fun j=>E j∧j<h.size) (na,nl.length,nc) nl) (hw.n.lt (by decide)) (fun j hj=>hj.2)).old (pgwI (fun j=>E j∧j<h.size) (sa,sl.length,sc) sl) (hw.s.lt (by decide)) (fun j hj=>hj.2);refine HC.go Tryz.func63 13 ?_;refine .seq<|.r<|.a' 1 (.bxA (cs:=[.int .i64 (z:Int),.slice sa sl.length sc,.bool ib,.slice na nl.length nc,.slice va vl.length vc]) ok) ?_;rintro _ η1 ⟨pb1,rfl,ok,xe⟩;refine .a' 2 (.alA T.zr31 ok) ?_;rintro _ η2 ⟨pb2,rfl,ok,xe⟩;refine .z .asI<|.nil ?_;refine .seq<|.seq<|.r<|.z (.fa T.fd31_2)<|.z (.ldx T.ag4 ok.m1)<|.nil ?_;refine .cond (fun C0=>?_) (fun C0=>?_)
 ·
  refine .seq<|.r<|.z (.ldb T.ag31 ok.m1 T.sz31)<|.ur' (.stW (vs:=[.int .i64 (z:Int),.slice sa sl.length sc,.bool ib,.slice na nl.length nc,.slice va vl.length vc]) T.sz31 ok (oneL rfl)) ?_;rintro η3 ⟨ok,cg⟩;refine .z .asI<|.nil ?_;refine .ret ⟨.tuple #[.agg #[.int .i64 (z:Int),.slice sa sl.length sc,.bool ib,.slice na nl.length nc,.slice va vl.length vc],.int .i64 10],Res.many (vs:=[.agg #[.int .i64 (z:Int),.slice sa sl.length sc,.bool ib,.slice na nl.length nc,.slice va vl.length vc],.int .i64 10]) rfl ⟨⟨_,rfl,load_ag T.ag31 ok.m0 T.sz31⟩,rfl,trivial⟩ rfl,⟨⟨z,sa,sc,sl,ib,na,nc,nl,va,vc,vl⟩,by rw [St.begin_10 (w:=(RDs.abs ⟨z,sa,sc,sl,ib,na,nc,nl,va,vc,vl⟩)) (show ib=true from C0)]<;>rfl,by rw [St.begin_10 (w:=(RDs.abs ⟨z,sa,sc,sl,ib,na,nc,nl,va,vc,vl⟩)) (show ib=true from C0)]<;>rfl,ok.chg,⟨(ok.r0).mono (fun _ h=>.inl h.1),(ok.r1).mono (fun _ h=>.inl h.1),(ok.r2).mono (fun _ h=>.inl h.1)⟩⟩⟩
 refine .skip<|.seq<|.r<|.z (.fa T.fd31_2)<|.ur' (.stB T.sz4 ok.n1) ?_;rintro η4 ⟨ok,cg⟩;refine .nil ?_;refine .seq<|.r<|.z (.fa T.fd31_1)<|.z (.ldx T.ag28 ok.m0)<|.z (.fa T.fd31_3)<|.ur' (.stS T.sz28 ok) ?_;rintro η5 ⟨ok,cg⟩;refine .nil ?_;refine .seq<|.r<|.z (.fa T.fd31_4)<|.ur' (.stS T.sz29 ok) ?_;rintro η6 ⟨ok,cg⟩;refine .nil ?_;refine .seq<|.r<|.z (.ldb T.ag31 ok.m0 T.sz31)<|.ur' (.stW (vs:=[.int .i64 (z:Int),.slice sa sl.length sc,.bool true,.slice sa sl.length sc,.slice none 0 0]) T.sz31 ok.n1 (oneL rfl)) ?_;rintro η7 ⟨ok,cg⟩;refine .z .asI<|.nil ?_;refine .ret ⟨.tuple #[.agg #[.int .i64 (z:Int),.slice sa sl.length sc,.bool true,.slice sa sl.length sc,.slice none 0 0],.int .i64 0],Res.many (vs:=[.agg #[.int .i64 (z:Int),.slice sa sl.length sc,.bool true,.slice sa sl.length sc,.slice none 0 0],.int .i64 0]) rfl ⟨⟨_,rfl,load_ag T.ag31 ok.m0 T.sz31⟩,rfl,trivial⟩ rfl,⟨⟨z,sa,sc,sl,true,sa,sc,sl,none,0,[]⟩,by rw [St.begin_0 (w:=(RDs.abs ⟨z,sa,sc,sl,ib,na,nc,nl,va,vc,vl⟩)) (show ib=false from by simpa using C0)]<;>rfl,by rw [St.begin_0 (w:=(RDs.abs ⟨z,sa,sc,sl,ib,na,nc,nl,va,vc,vl⟩)) (show ib=false from by simpa using C0)]<;>rfl,ok.chg,⟨(ok.r0).mono (fun _ h=>.inl h.1),(ok.r0).mono (fun _ h=>.inl h.1),RwP.nil _ _⟩⟩⟩
theorem rencB_any {h:Heap} {H:Hd} (hr:HdIn H) (hc:¬ChkP H):HC Tryz.prog 120 #[H.val] h (fun v h'=>v=.tuple #[.slice none 0 0,.int .i64 1]∧Ext h h'):=by
 have ok:=Hp.nil h none_;refine HC.go Tryz.func120 53 ?_;refine .seq<|.r<|.a' 1 (.bxA (cs:=[.int .i64 H.size,.int .i64 H.pages,.int .i64 H.free,.int .i64 H.many,.int .i64 H.cookie,.int .i64 H.version]) ok) ?_;rintro _ η1 ⟨pb1,rfl,ok,xe⟩;refine .z .asS<|.z .asI<|.nil ?_;refine .seq<|.seq<|.r<|.z (.ldb T.ag38 ok.m0 T.sz38)<|.c' 8 .func (rcheck_any (z0:=H.size) (z1:=H.pages) (z2:=H.free) (z3:=H.many) (z4:=H.cookie) (z5:=H.version) hr.a hr.b hr.c hr.d hr.e hr.f) ?_;rintro _ η2 ⟨rfl,hx⟩;have ok:=ok.ext hx;refine .z .neq<|.nil ?_;refine .cd (fun C0=>?_) (fun C0=>?_)
 ·
  refine .seq<|.r<|.z .asS<|.z .asI<|.nil ?_;refine .ret ⟨.tuple #[.slice none 0 0,.int .i64 1],Res.two rfl rfl rfl,⟨rfl,ok.chg⟩⟩
 exact absurd (show ((chkC H:Nat):Int)≠0 by rw [chk_n hc];decide) C0
theorem rencN_any {h:Heap} {H:Hd} (hr:HdIn H):HC Tryz.prog 120 #[H.val] h (fun v h'=>(¬ChkP H∧v=.tuple #[.slice none 0 0,.int .i64 1]∧Ext h h')∨(ChkP H∧∃w,v=.tuple #[w,.int .i64 0]∧Own h h' 1 5 w (H.enc.map bv))):=by
 by_cases hc:ChkP H
 ·have h0:=okZ_cases hc.1;have h1:=hc.2.1;have h2:=hc.2.2.1;have h3:=hc.2.2.2;obtain ⟨a,b,c,d,e,f⟩:=H;simp only at h0 h1 h2 h3;obtain ⟨a,rfl⟩:∃n:Nat,a=(n:Int):=⟨a.toNat,by omega⟩;obtain ⟨b,rfl⟩:∃n:Nat,b=(n:Int):=⟨b.toNat,by omega⟩;have hcb:0≤c∧c<4294967296:=by
   by_cases h:d=0
   ·have:=h2.2.2.1 h;omega
   ·have:=h2.2.2.2 (by omega);omega
  obtain ⟨c,rfl⟩:∃n:Nat,c=(n:Int):=⟨c.toNat,by omega⟩;obtain ⟨d,rfl⟩:∃n:Nat,d=(n:Int):=⟨d.toNat,by omega⟩;obtain ⟨e,rfl⟩:∃n:Nat,e=(n:Int):=⟨e.toNat,by omega⟩;obtain ⟨f,rfl⟩:∃n:Nat,f=(n:Int):=⟨f.toNat,by omega⟩;have hdb:d<4294967296:=by have:=h1.2.1;have:=h2.2.1;omega
  have heb:e<4294967296:=by have:=h3.1.2;omega
  have hfb:f<4294967296:=by have:=h3.2.2;omega
  exact (rencode_any (n0:=a) (n1:=b) (n2:=c) (n3:=d) (n4:=e) (n5:=f) (by omega) (by omega) (by omega) hdb heb hfb).mono fun v h' q=>q
 ·exact (rencB_any hr hc).mono fun v h' q=>.inl ⟨hc,q⟩
theorem rsetHead_any {h:Heap} {E:Nat→Prop} {z sc nc vc:Nat} {sa na va:Option Addr} {sl nl:List RB} {vl:List RP} {ib:Bool} {H:Hd} (hw:DocS h E ⟨z,sa,sc,sl,ib,na,nc,nl,va,vc,vl⟩) (hr:HdIn H) (hz:okSz z=true) (hnl:nl.length≤1000000) :
  HC Tryz.prog 64 #[.agg #[.int .i64 (z:Int),.slice sa sl.length sc,.bool ib,.slice na nl.length nc,.slice va vl.length vc],.agg #[.int .i64 H.size,.int .i64 H.pages,.int .i64 H.free,.int .i64 H.many,.int .i64 H.cookie,.int .i64 H.version]] h (fun v h'=>∃w:RDs,v=.tuple #[.agg w.cells,.int .i64 (((St.setHead (RDs.abs ⟨z,sa,sc,sl,ib,na,nc,nl,va,vc,vl⟩) H)).2:Int)]∧w.abs=((St.setHead (RDs.abs ⟨z,sa,sc,sl,ib,na,nc,nl,va,vc,vl⟩) H)).1∧SRet h E w h'):=by
 have hsm:=hw.s.m;have hnm:=hw.n.m;have ok:=(((Hp.nil h none_).old (svwI (fun j=>E j∧j<h.size) (va,vl.length,vc) vl) hw.v.lt (fun j hj=>hj.2)).old (pgwI (fun j=>E j∧j<h.size) (na,nl.length,nc) nl) (hw.n.lt (by decide)) (fun j hj=>hj.2)).old (pgwI (fun j=>E j∧j<h.size) (sa,sl.length,sc) sl) (hw.s.lt (by decide)) (fun j hj=>hj.2);have hzc:=okSz_c hz;refine HC.go Tryz.func64 53 ?_;refine .seq<|.r<|.a' 2 (.bxA (cs:=[.int .i64 (z:Int),.slice sa sl.length sc,.bool ib,.slice na nl.length nc,.slice va vl.length vc]) ok) ?_;rintro _ η1 ⟨pb1,rfl,ok,xe⟩;refine .a' 3 (.bxA (cs:=[.int .i64 H.size,.int .i64 H.pages,.int .i64 H.free,.int .i64 H.many,.int .i64 H.cookie,.int .i64 H.version]) ok) ?_;rintro _ η2 ⟨pb2,rfl,ok,xe⟩;refine .a' 4 (.alA T.zr31 ok) ?_;rintro _ η3 ⟨pb3,rfl,ok,xe⟩;refine .z .asI<|.nil ?_;refine .seq<|.seq<|.r<|.z (.fa T.fd31_2)<|.z (.ldx T.ag4 ok.m2)<|.z .not<|.nil ?_;refine .cond (fun C0=>?_) (fun C0=>?_)
 ·
  refine .seq<|.r<|.z (.ldb T.ag31 ok.m2 T.sz31)<|.ur' (.stW (vs:=[.int .i64 (z:Int),.slice sa sl.length sc,.bool ib,.slice na nl.length nc,.slice va vl.length vc]) T.sz31 ok (oneL rfl)) ?_;rintro η4 ⟨ok,cg⟩;refine .z .asI<|.nil ?_;refine .ret ⟨.tuple #[.agg #[.int .i64 (z:Int),.slice sa sl.length sc,.bool ib,.slice na nl.length nc,.slice va vl.length vc],.int .i64 10],Res.many (vs:=[.agg #[.int .i64 (z:Int),.slice sa sl.length sc,.bool ib,.slice na nl.length nc,.slice va vl.length vc],.int .i64 10]) rfl ⟨⟨_,rfl,load_ag T.ag31 ok.m0 T.sz31⟩,rfl,trivial⟩ rfl,⟨⟨z,sa,sc,sl,ib,na,nc,nl,va,vc,vl⟩,by rw [St.setHead_10 (w:=(RDs.abs ⟨z,sa,sc,sl,ib,na,nc,nl,va,vc,vl⟩)) (show ib=false from by simpa using C0)]<;>rfl,by rw [St.setHead_10 (w:=(RDs.abs ⟨z,sa,sc,sl,ib,na,nc,nl,va,vc,vl⟩)) (show ib=false from by simpa using C0)]<;>rfl,ok.chg,⟨(ok.r0).mono (fun _ h=>.inl h.1),(ok.r1).mono (fun _ h=>.inl h.1),(ok.r2).mono (fun _ h=>.inl h.1)⟩⟩⟩
 refine .skip<|.seq<|.r<|.z (.ldb T.ag38 ok.m1 T.sz38)<|.c' 14 .func (rencN_any (H:=H) hr) ?_;rintro _ η5 (⟨hck,rfl,hx⟩ | ⟨hck,yw,rfl,own⟩)
 ·
  have ok:=ok.ext hx;refine .z .mvU<|.z .ex<|.z .ex<|.z .asS<|.z .asI<|.nil ?_;refine .seq<|.seq<|.r<|.z .mvI<|.z .neq<|.z .mvB<|.y<|.y<|.y<|.y<|.y<|.z .pkt<|.z .mvB<|.y<|.y<|.y<|.y<|.y<|.y<|.y<|.z .pkt<|.nil ?_;refine .ct<|.seq<|.r<|.z (.ldb T.ag31 ok.m2 T.sz31)<|.ur' (.stW (vs:=[.int .i64 (z:Int),.slice sa sl.length sc,.bool ib,.slice na nl.length nc,.slice va vl.length vc]) T.sz31 ok (oneL rfl)) ?_;rintro η6 ⟨ok,cg⟩;refine .z .asI<|.nil ?_;refine .ret ⟨.tuple #[.agg #[.int .i64 (z:Int),.slice sa sl.length sc,.bool ib,.slice na nl.length nc,.slice va vl.length vc],.int .i64 1],Res.many (vs:=[.agg #[.int .i64 (z:Int),.slice sa sl.length sc,.bool ib,.slice na nl.length nc,.slice va vl.length vc],.int .i64 1]) rfl ⟨⟨_,rfl,load_ag T.ag31 ok.m0 T.sz31⟩,rfl,trivial⟩ rfl,⟨⟨z,sa,sc,sl,ib,na,nc,nl,va,vc,vl⟩,by rw [St.setHead_1 (w:=(RDs.abs ⟨z,sa,sc,sl,ib,na,nc,nl,va,vc,vl⟩)) (show ib=true from by simpa using C0) (by first | exact .inl hck | exact .inr (.inl (show H.size≠(z:Int) by omega)) | exact .inr (.inr (show max 1 ((pgs nl).length:Int)<H.pages by rw [pgs_len];omega)))]<;>rfl,by rw [St.setHead_1 (w:=(RDs.abs ⟨z,sa,sc,sl,ib,na,nc,nl,va,vc,vl⟩)) (show ib=true from by simpa using C0) (by first | exact .inl hck | exact .inr (.inl (show H.size≠(z:Int) by omega)) | exact .inr (.inr (show max 1 ((pgs nl).length:Int)<H.pages by rw [pgs_len];omega)))]<;>rfl,ok.chg,⟨(ok.r0).mono (fun _ h=>.inl h.1),(ok.r1).mono (fun _ h=>.inl h.1),(ok.r2).mono (fun _ h=>.inl h.1)⟩⟩⟩
 obtain ⟨ya1,yc1,rfl⟩:=own.formB;have ok:=ok.own own;refine .z .mvU<|.z .ex<|.z .ex<|.z .asS<|.z .asI<|.nil ?_;refine .seq<|.seq<|.r<|.z .mvI<|.z .neq<|.z .mvB<|.z (.fa T.fd38_0)<|.z (.ldx T.ag3 ok.m2)<|.z (.fa T.fd31_0)<|.z (.ldx T.ag3 ok.m3)<|.z .neq<|.z .pkf<|.z .mvB<|.sd (fun G26=>?_) (fun G26=>?_)
 ·
  refine .y<|.y<|.y<|.y<|.y<|.y<|.y<|.z .pkt<|.nil ?_;refine .ct<|.seq<|.r<|.z (.ldb T.ag31 ok.m3 T.sz31)<|.ur' (.stW (vs:=[.int .i64 (z:Int),.slice sa sl.length sc,.bool ib,.slice na nl.length nc,.slice va vl.length vc]) T.sz31 ok.n1 (oneL rfl)) ?_;rintro η7 ⟨ok,cg⟩;refine .z .asI<|.nil ?_;refine .ret ⟨.tuple #[.agg #[.int .i64 (z:Int),.slice sa sl.length sc,.bool ib,.slice na nl.length nc,.slice va vl.length vc],.int .i64 1],Res.many (vs:=[.agg #[.int .i64 (z:Int),.slice sa sl.length sc,.bool ib,.slice na nl.length nc,.slice va vl.length vc],.int .i64 1]) rfl ⟨⟨_,rfl,load_ag T.ag31 ok.m0 T.sz31⟩,rfl,trivial⟩ rfl,⟨⟨z,sa,sc,sl,ib,na,nc,nl,va,vc,vl⟩,by rw [St.setHead_1 (w:=(RDs.abs ⟨z,sa,sc,sl,ib,na,nc,nl,va,vc,vl⟩)) (show ib=true from by simpa using C0) (by first | exact .inl hck | exact .inr (.inl (show H.size≠(z:Int) by omega)) | exact .inr (.inr (show max 1 ((pgs nl).length:Int)<H.pages by rw [pgs_len];omega)))]<;>rfl,by rw [St.setHead_1 (w:=(RDs.abs ⟨z,sa,sc,sl,ib,na,nc,nl,va,vc,vl⟩)) (show ib=true from by simpa using C0) (by first | exact .inl hck | exact .inr (.inl (show H.size≠(z:Int) by omega)) | exact .inr (.inr (show max 1 ((pgs nl).length:Int)<H.pages by rw [pgs_len];omega)))]<;>rfl,ok.chg,⟨(ok.r0).mono (fun _ h=>.inl h.1),(ok.r1).mono (fun _ h=>.inl h.1),(ok.r2).mono (fun _ h=>.inl h.1)⟩⟩⟩
 refine .z (.fa T.fd38_1)<|.z (.ldx T.ag3 ok.m2)<|.z (.fa T.fd31_3)<|.z (.ldx T.ag28 ok.m3)<|.z (.len T.el28)<|.z .max2<|.z .gtr<|.z .pkf<|.nil ?_;refine .cd (fun C1=>?_) (fun C1=>?_)
 ·
  refine .seq<|.r<|.z (.ldb T.ag31 ok.m3 T.sz31)<|.ur' (.stW (vs:=[.int .i64 (z:Int),.slice sa sl.length sc,.bool ib,.slice na nl.length nc,.slice va vl.length vc]) T.sz31 ok.n1 (oneL rfl)) ?_;rintro η8 ⟨ok,cg⟩;refine .z .asI<|.nil ?_;refine .ret ⟨.tuple #[.agg #[.int .i64 (z:Int),.slice sa sl.length sc,.bool ib,.slice na nl.length nc,.slice va vl.length vc],.int .i64 1],Res.many (vs:=[.agg #[.int .i64 (z:Int),.slice sa sl.length sc,.bool ib,.slice na nl.length nc,.slice va vl.length vc],.int .i64 1]) rfl ⟨⟨_,rfl,load_ag T.ag31 ok.m0 T.sz31⟩,rfl,trivial⟩ rfl,⟨⟨z,sa,sc,sl,ib,na,nc,nl,va,vc,vl⟩,by rw [St.setHead_1 (w:=(RDs.abs ⟨z,sa,sc,sl,ib,na,nc,nl,va,vc,vl⟩)) (show ib=true from by simpa using C0) (by first | exact .inl hck | exact .inr (.inl (show H.size≠(z:Int) by omega)) | exact .inr (.inr (show max 1 ((pgs nl).length:Int)<H.pages by rw [pgs_len];omega)))]<;>rfl,by rw [St.setHead_1 (w:=(RDs.abs ⟨z,sa,sc,sl,ib,na,nc,nl,va,vc,vl⟩)) (show ib=true from by simpa using C0) (by first | exact .inl hck | exact .inr (.inl (show H.size≠(z:Int) by omega)) | exact .inr (.inr (show max 1 ((pgs nl).length:Int)<H.pages by rw [pgs_len];omega)))]<;>rfl,ok.chg,⟨(ok.r0).mono (fun _ h=>.inl h.1),(ok.r1).mono (fun _ h=>.inl h.1),(ok.r2).mono (fun _ h=>.inl h.1)⟩⟩⟩
 obtain ⟨n,hn⟩:∃n:Nat,H.pages=(n:Int):=⟨H.pages.toNat,by have:=hck.2.1.1;omega⟩;rw [hn] at ok⊢;refine .skip<|.seq<|.a 16 (fun fl hh=>cond fl True (Hp h none_ [capI 1 5 (ya1,(H.enc).length,yc1) ((H.enc).map bv),boxI pb3 31 [.int .i64 0,.slice none 0 0,.bool false,.slice none 0 0,.slice none 0 0],boxI pb2 38 [.int .i64 H.size,.int .i64 (n:Int),.int .i64 H.free,.int .i64 H.many,.int .i64 H.cookie,.int .i64 H.version],boxI pb1 31 [.int .i64 (z:Int),.slice sa sl.length sc,.bool ib,.slice na nl.length nc,.slice va vl.length vc]] [pgwI (fun j=>E j∧j<h.size) (sa,sl.length,sc) sl,pgwI (fun j=>E j∧j<h.size) (na,nl.length,nc) nl,svwI (fun j=>E j∧j<h.size) (va,vl.length,vc) vl] hh)) mixed ?_;have hS:=ok;refine .g 0 false rfl 36 hS (fun _=>.fa T.fd31_3)<|.l 1 false rfl 37 hS (fun _ hS=>.ldx T.ag28 hS.m3)<|.g 3 false rfl 39 hS (fun _=>.mvS)<|.g 5 false rfl 41 hS (fun _=>.fa T.fd31_0)<|.l 6 false rfl 42 hS (fun _ hS=>.ldx T.ag3 hS.m3)<|.g 7 false rfl 43 hS (fun _=>.mvS)<|.g 8 false rfl 44 hS (fun _=>.len T.el44)<|.g 9 false rfl 45 hS (fun _=>.sub (hr:=(by rw [enc_len];omega)))<|.g 12 false rfl 48 hS (fun _=>.fa T.fd38_1)<|.l 13 false rfl 49 hS (fun _ hS=>.ldx T.ag3 hS.m2)<|.o1 2<|.a' false rfl 38 (.lit [] (cs:=[]) T.el44 T.sz5 T.zr5 ok trivial) ?_;rintro _ η9 ⟨pb4,rfl,ok,xe⟩;have ok:=ok.cx (ys:=([]:List UInt8).map bv) rfl;refine ⟨ok.n4.n4.n4.n4.k4,?_⟩;have hS:=ok.n4.n4.n4.n4.k4;refine .o1 4<|.a' false rfl 40 (.app (news:=(H.enc).map bv) T.el44 T.sz5 T.by5 T.zr5 ok (ok.m1).sl bv_all (by simp only [List.length_map,enc_len,List.length_nil];omega)) ?_;rintro _ η10 ⟨ya2,yn1,yc2,rfl,ok,ap⟩;have ok:=ok.cx (ys:=((H.enc)).map bv) (by simp [bv]);obtain rfl:yn1=((H.enc)).length:=ok.lenB;refine ⟨ok.n4.n4.n4.n4.k4,?_⟩;have hS:=ok.n4.n4.n4.n4.k4;refine .o1 10<|.a' false rfl 46 (.apz (z:=((z:Int)-(((H.enc).length:Nat):Int))) (z-64) T.el44 T.in3 T.sz5 T.by5 T.zr5 ok (by rw [enc_len];omega) (by rw [enc_len];omega)) ?_;rintro _ η11 ⟨ya3,yc3,rfl,ok⟩;refine ⟨ok.n4.n4.n4.n4.k4,?_⟩;have hS:=ok.n4.n4.n4.n4.k4;refine .o1 11<|?_;have hfr:=(ok).fresh;have hsz:=(ok).chg.size;have ok:=(ok).frzB (l:=(H.enc)++List.replicate (z-64) 0) rfl;refine .c' false rfl 47 .func (rwith_any (E:=(fun j=>(fun j=>E j∧j<h.size) j∨blkC (sv (ya3,((H.enc)++List.replicate (z-64) 0).length,yc3)) j)) (no:=1) (ok.r2.mono (fun _ h=>.inl h)) (ok.r0.mono (fun _ h=>.inr h) (fun _ h=>.inr h.elim)) (by omega) (by omega) (by omega)) ?_;rintro _ η12 ⟨wa1,wc1,wl1,rfl,hpl,hx,hpg⟩;have ok:=ok.orN hx (pgwI (fun j=>(fun j=>(fun j=>E j∧j<h.size) j∨blkC (sv (ya3,((H.enc)++List.replicate (z-64) 0).length,yc3)) j) j∨Nw η11 η12 j) (wa1,wl1.length,wc1) wl1) hpg (fun j hj=>hj.elim (fun h=>h.elim (fun h=>.inl ⟨_,List.mem_of_getElem? (i:=2) rfl,h⟩) (fun h=>.inl ⟨rdI (blkC (sv (ya3,((H.enc)++List.replicate (z-64) 0).length,yc3))) none_ (ya3,((H.enc)++List.replicate (z-64) 0).length,yc3) ((H.enc)++List.replicate (z-64) 0),List.mem_cons_self,Or.inl h⟩)) .inr);have hlw:wl1.length=max nl.length 1:=by have:=congrArg List.length hpl;rwa [pgs_len,wth_len (by rw [pgs_len];omega),pgs_len] at this
 have hEw:∀j,(fun j=>(fun j=>(fun j=>E j∧j<h.size) j∨blkC (sv (ya3,((H.enc)++List.replicate (z-64) 0).length,yc3)) j) j∨Nw η11 η12 j) j→E j∨h.size≤j:=fun j h=>h.elim (fun h=>h.elim (fun h=>.inl h.1) (fun h=>.inr (hfr j h).1)) (fun h=>.inr (Nat.le_trans hsz h.1));have hwm:=RwB.m hpg;refine ⟨ok.tR.tR,?_⟩;have hS:=ok.tR.tR;refine .g 14 false rfl 50 hS (fun _=>.sl_h ((wl1.take n).length) T.el28 T.sz44 (hb:=by (rw [List.length_take];omega)))<|?_;have ok:=ok.d0 (pgwI (fun j=>(fun j=>(fun j=>E j∧j<h.size) j∨blkC (sv (ya3,((H.enc)++List.replicate (z-64) 0).length,yc3)) j) j∨Nw η11 η12 j) (wa1,(wl1.take n).length,wc1) (wl1.take n)) (PgB.preR ok.r0 (by omega)) (fun _ h=>h);refine .g 15 false rfl 51 hS (fun _=>.fa T.fd31_3)<|.o1 16<|.ur' true rfl (.stS T.sz28 ok.n3) ?_;rintro η13 ⟨ok,cg⟩;refine ⟨trivial,?_⟩;refine .e ?_;refine .seq<|.r<|.z (.ldb T.ag31 ok.m0 T.sz31)<|.ur' (.stW (vs:=[.int .i64 (z:Int),.slice sa sl.length sc,.bool ib,.slice wa1 ((wl1.take n).length) wc1,.slice va vl.length vc]) T.sz31 ok.n2 (oneL rfl)) ?_;rintro η14 ⟨ok,cg⟩;refine .z .asI<|.nil ?_;refine .ret ⟨.tuple #[.agg #[.int .i64 (z:Int),.slice sa sl.length sc,.bool ib,.slice wa1 ((wl1.take n).length) wc1,.slice va vl.length vc],.int .i64 0],Res.many (vs:=[.agg #[.int .i64 (z:Int),.slice sa sl.length sc,.bool ib,.slice wa1 ((wl1.take n).length) wc1,.slice va vl.length vc],.int .i64 0]) rfl ⟨⟨_,rfl,load_ag T.ag31 ok.m0 T.sz31⟩,rfl,trivial⟩ rfl,⟨⟨z,sa,sc,sl,ib,wa1,wc1,(wl1.take n),va,vc,vl⟩,by rw [St.setHead_0 (w:=(RDs.abs ⟨z,sa,sc,sl,ib,na,nc,nl,va,vc,vl⟩)) (show ib=true from by simpa using C0) (by show ¬(¬ChkP H∨H.size≠(z:Int)∨max 1 ((pgs nl).length:Int)<H.pages);rw [pgs_len];rintro (h | h | h);exact h hck;exact h (by omega);omega) hn]<;>rfl,by rw [St.setHead_0 (w:=(RDs.abs ⟨z,sa,sc,sl,ib,na,nc,nl,va,vc,vl⟩)) (show ib=true from by simpa using C0) (by show ¬(¬ChkP H∨H.size≠(z:Int)∨max 1 ((pgs nl).length:Int)<H.pages);rw [pgs_len];rintro (h | h | h);exact h hck;exact h (by omega);omega) hn]<;>simp only [RDs.abs,pgsR_take,hpl];rfl,ok.chg,⟨(ok.r3).mono (fun _ h=>.inl h.1),(ok.r0).mono (fun j hj=>(hEw j hj).imp id fun g=>⟨g,ok.l0 j hj⟩),(ok.r5).mono (fun _ h=>.inl h.1)⟩⟩⟩
theorem rwrite_any {h:Heap} {E:Nat→Prop} {z sc nc vc:Nat} {sa na va:Option Addr} {sl nl:List RB} {vl:List RP} {ib:Bool} {no:Int} {ba:Option Addr} {bc:Nat} {bl:List UInt8} {FB EB:Nat→Prop} (hw:DocS h E ⟨z,sa,sc,sl,ib,na,nc,nl,va,vc,vl⟩) (hbl:RdL h FB EB (ba,bl.length,bc) bl) (hno:i64N no) (hz:okSz z=true) (hnl:nl.length≤1000000) :
  HC Tryz.prog 66 #[.agg #[.int .i64 (z:Int),.slice sa sl.length sc,.bool ib,.slice na nl.length nc,.slice va vl.length vc],.int .i64 no,.slice ba bl.length bc] h (fun v h'=>∃w:RDs,v=.tuple #[.agg w.cells,.int .i64 (((St.write (RDs.abs ⟨z,sa,sc,sl,ib,na,nc,nl,va,vc,vl⟩) no bl)).2:Int)]∧w.abs=((St.write (RDs.abs ⟨z,sa,sc,sl,ib,na,nc,nl,va,vc,vl⟩) no bl)).1∧SRet h E w h'):=by
 have hsm:=hw.s.m;have hnm:=hw.n.m;have ok:=(((Hp.nil h none_).old (svwI (fun j=>E j∧j<h.size) (va,vl.length,vc) vl) hw.v.lt (fun j hj=>hj.2)).old (pgwI (fun j=>E j∧j<h.size) (na,nl.length,nc) nl) (hw.n.lt (by decide)) (fun j hj=>hj.2)).old (pgwI (fun j=>E j∧j<h.size) (sa,sl.length,sc) sl) (hw.s.lt (by decide)) (fun j hj=>hj.2);have hzc:=okSz_c hz;have hno1:=hno.1;have hno2:=hno.2;have hb2:=hbl.m;have hb1:=hbl.c;simp only at hb1 hb2;have ok:=(ok.arg hbl).f3.f3.f3;refine HC.go Tryz.func66 55 ?_;refine .seq<|.r<|.a' 3 (.bxA (cs:=[.int .i64 (z:Int),.slice sa sl.length sc,.bool ib,.slice na nl.length nc,.slice va vl.length vc]) ok) ?_;rintro _ η1 ⟨pb1,rfl,ok,xe⟩;refine .a' 6 (.alA T.zr31 ok) ?_;rintro _ η2 ⟨pb2,rfl,ok,xe⟩;refine .z .asI<|.nil ?_;refine .seq<|.seq<|.r<|.z (.fa T.fd31_2)<|.z (.ldx T.ag4 ok.m1)<|.z .not<|.nil ?_;refine .cond (fun C0=>?_) (fun C0=>?_)
 ·
  refine .seq<|.r<|.z (.ldb T.ag31 ok.m1 T.sz31)<|.ur' (.stW (vs:=[.int .i64 (z:Int),.slice sa sl.length sc,.bool ib,.slice na nl.length nc,.slice va vl.length vc]) T.sz31 ok (oneL rfl)) ?_;rintro η3 ⟨ok,cg⟩;refine .z .asI<|.nil ?_;refine .ret ⟨.tuple #[.agg #[.int .i64 (z:Int),.slice sa sl.length sc,.bool ib,.slice na nl.length nc,.slice va vl.length vc],.int .i64 10],Res.many (vs:=[.agg #[.int .i64 (z:Int),.slice sa sl.length sc,.bool ib,.slice na nl.length nc,.slice va vl.length vc],.int .i64 10]) rfl ⟨⟨_,rfl,load_ag T.ag31 ok.m0 T.sz31⟩,rfl,trivial⟩ rfl,⟨⟨z,sa,sc,sl,ib,na,nc,nl,va,vc,vl⟩,by rw [St.write_10 (w:=(RDs.abs ⟨z,sa,sc,sl,ib,na,nc,nl,va,vc,vl⟩)) (show ib=false from by simpa using C0)]<;>rfl,by rw [St.write_10 (w:=(RDs.abs ⟨z,sa,sc,sl,ib,na,nc,nl,va,vc,vl⟩)) (show ib=false from by simpa using C0)]<;>rfl,ok.chg,⟨(ok.r0).mono (fun _ h=>.inl h.1),(ok.r1).mono (fun _ h=>.inl h.1),(ok.r2).mono (fun _ h=>.inl h.1)⟩⟩⟩
 refine .skip<|.seq<|.seq<|.r<|.z .mvI<|.z .lss<|.z .mvB<|.sd (fun G14=>?_) (fun G14=>?_)
 ·
  refine .y<|.y<|.y<|.y<|.y<|.y<|.z .pkt<|.z .mvB<|.y<|.y<|.y<|.y<|.z .pkt<|.z .mvB<|.y<|.y<|.y<|.y<|.y<|.z .pkt<|.nil ?_;refine .ct<|.seq<|.r<|.z (.ldb T.ag31 ok.m1 T.sz31)<|.ur' (.stW (vs:=[.int .i64 (z:Int),.slice sa sl.length sc,.bool ib,.slice na nl.length nc,.slice va vl.length vc]) T.sz31 ok (oneL rfl)) ?_;rintro η4 ⟨ok,cg⟩;refine .z .asI<|.nil ?_;have hbad:no<2∨((pgs nl).length:Int)+1<no∨pgs nl=[]∨bl.length≠z:=by
   rw [pgsR_nil,pgs_len];first
   | exact .inl (by omega)
   | exact .inr (.inl (by omega))
   | exact .inr (.inr (.inl (by omega)))
   | exact .inr (.inr (.inr (by omega)))
  refine .ret ⟨.tuple #[.agg #[.int .i64 (z:Int),.slice sa sl.length sc,.bool ib,.slice na nl.length nc,.slice va vl.length vc],.int .i64 1],Res.many (vs:=[.agg #[.int .i64 (z:Int),.slice sa sl.length sc,.bool ib,.slice na nl.length nc,.slice va vl.length vc],.int .i64 1]) rfl ⟨⟨_,rfl,load_ag T.ag31 ok.m0 T.sz31⟩,rfl,trivial⟩ rfl,⟨⟨z,sa,sc,sl,ib,na,nc,nl,va,vc,vl⟩,by rw [St.write_1 (w:=(RDs.abs ⟨z,sa,sc,sl,ib,na,nc,nl,va,vc,vl⟩)) (show ib=true from by simpa using C0) hbad]<;>rfl,by rw [St.write_1 (w:=(RDs.abs ⟨z,sa,sc,sl,ib,na,nc,nl,va,vc,vl⟩)) (show ib=true from by simpa using C0) hbad]<;>rfl,ok.chg,⟨(ok.r0).mono (fun _ h=>.inl h.1),(ok.r1).mono (fun _ h=>.inl h.1),(ok.r2).mono (fun _ h=>.inl h.1)⟩⟩⟩
 refine .z .mvI<|.z (.fa T.fd31_3)<|.z (.ldx T.ag28 ok.m1)<|.z (.len T.el28)<|.z (.addI (b:=1))<|.z .gtr<|.z .pkf<|.z .mvB<|.sd (fun G22=>?_) (fun G22=>?_)
 ·
  refine .y<|.y<|.y<|.y<|.z .pkt<|.z .mvB<|.y<|.y<|.y<|.y<|.y<|.z .pkt<|.nil ?_;refine .ct<|.seq<|.r<|.z (.ldb T.ag31 ok.m1 T.sz31)<|.ur' (.stW (vs:=[.int .i64 (z:Int),.slice sa sl.length sc,.bool ib,.slice na nl.length nc,.slice va vl.length vc]) T.sz31 ok (oneL rfl)) ?_;rintro η5 ⟨ok,cg⟩;refine .z .asI<|.nil ?_;have hbad:no<2∨((pgs nl).length:Int)+1<no∨pgs nl=[]∨bl.length≠z:=by
   rw [pgsR_nil,pgs_len];first
   | exact .inl (by omega)
   | exact .inr (.inl (by omega))
   | exact .inr (.inr (.inl (by omega)))
   | exact .inr (.inr (.inr (by omega)))
  refine .ret ⟨.tuple #[.agg #[.int .i64 (z:Int),.slice sa sl.length sc,.bool ib,.slice na nl.length nc,.slice va vl.length vc],.int .i64 1],Res.many (vs:=[.agg #[.int .i64 (z:Int),.slice sa sl.length sc,.bool ib,.slice na nl.length nc,.slice va vl.length vc],.int .i64 1]) rfl ⟨⟨_,rfl,load_ag T.ag31 ok.m0 T.sz31⟩,rfl,trivial⟩ rfl,⟨⟨z,sa,sc,sl,ib,na,nc,nl,va,vc,vl⟩,by rw [St.write_1 (w:=(RDs.abs ⟨z,sa,sc,sl,ib,na,nc,nl,va,vc,vl⟩)) (show ib=true from by simpa using C0) hbad]<;>rfl,by rw [St.write_1 (w:=(RDs.abs ⟨z,sa,sc,sl,ib,na,nc,nl,va,vc,vl⟩)) (show ib=true from by simpa using C0) hbad]<;>rfl,ok.chg,⟨(ok.r0).mono (fun _ h=>.inl h.1),(ok.r1).mono (fun _ h=>.inl h.1),(ok.r2).mono (fun _ h=>.inl h.1)⟩⟩⟩
 refine .z (.fa T.fd31_3)<|.z (.ldx T.ag28 ok.m1)<|.z (.len T.el28)<|.z .eql<|.z .pkf<|.z .mvB<|.sd (fun G28=>?_) (fun G28=>?_)
 ·
  refine .y<|.y<|.y<|.y<|.y<|.z .pkt<|.nil ?_;refine .ct<|.seq<|.r<|.z (.ldb T.ag31 ok.m1 T.sz31)<|.ur' (.stW (vs:=[.int .i64 (z:Int),.slice sa sl.length sc,.bool ib,.slice na nl.length nc,.slice va vl.length vc]) T.sz31 ok (oneL rfl)) ?_;rintro η6 ⟨ok,cg⟩;refine .z .asI<|.nil ?_;have hbad:no<2∨((pgs nl).length:Int)+1<no∨pgs nl=[]∨bl.length≠z:=by
   rw [pgsR_nil,pgs_len];first
   | exact .inl (by omega)
   | exact .inr (.inl (by omega))
   | exact .inr (.inr (.inl (by omega)))
   | exact .inr (.inr (.inr (by omega)))
  refine .ret ⟨.tuple #[.agg #[.int .i64 (z:Int),.slice sa sl.length sc,.bool ib,.slice na nl.length nc,.slice va vl.length vc],.int .i64 1],Res.many (vs:=[.agg #[.int .i64 (z:Int),.slice sa sl.length sc,.bool ib,.slice na nl.length nc,.slice va vl.length vc],.int .i64 1]) rfl ⟨⟨_,rfl,load_ag T.ag31 ok.m0 T.sz31⟩,rfl,trivial⟩ rfl,⟨⟨z,sa,sc,sl,ib,na,nc,nl,va,vc,vl⟩,by rw [St.write_1 (w:=(RDs.abs ⟨z,sa,sc,sl,ib,na,nc,nl,va,vc,vl⟩)) (show ib=true from by simpa using C0) hbad]<;>rfl,by rw [St.write_1 (w:=(RDs.abs ⟨z,sa,sc,sl,ib,na,nc,nl,va,vc,vl⟩)) (show ib=true from by simpa using C0) hbad]<;>rfl,ok.chg,⟨(ok.r0).mono (fun _ h=>.inl h.1),(ok.r1).mono (fun _ h=>.inl h.1),(ok.r2).mono (fun _ h=>.inl h.1)⟩⟩⟩
 refine .z .mvS<|.z (.len T.el44)<|.z (.fa T.fd31_0)<|.z (.ldx T.ag3 ok.m1)<|.z .neq<|.z .pkf<|.nil ?_;refine .cd (fun C1=>?_) (fun C1=>?_)
 ·
  refine .seq<|.r<|.z (.ldb T.ag31 ok.m1 T.sz31)<|.ur' (.stW (vs:=[.int .i64 (z:Int),.slice sa sl.length sc,.bool ib,.slice na nl.length nc,.slice va vl.length vc]) T.sz31 ok (oneL rfl)) ?_;rintro η7 ⟨ok,cg⟩;refine .z .asI<|.nil ?_;have hbad:no<2∨((pgs nl).length:Int)+1<no∨pgs nl=[]∨bl.length≠z:=by
   rw [pgsR_nil,pgs_len];first
   | exact .inl (by omega)
   | exact .inr (.inl (by omega))
   | exact .inr (.inr (.inl (by omega)))
   | exact .inr (.inr (.inr (by omega)))
  refine .ret ⟨.tuple #[.agg #[.int .i64 (z:Int),.slice sa sl.length sc,.bool ib,.slice na nl.length nc,.slice va vl.length vc],.int .i64 1],Res.many (vs:=[.agg #[.int .i64 (z:Int),.slice sa sl.length sc,.bool ib,.slice na nl.length nc,.slice va vl.length vc],.int .i64 1]) rfl ⟨⟨_,rfl,load_ag T.ag31 ok.m0 T.sz31⟩,rfl,trivial⟩ rfl,⟨⟨z,sa,sc,sl,ib,na,nc,nl,va,vc,vl⟩,by rw [St.write_1 (w:=(RDs.abs ⟨z,sa,sc,sl,ib,na,nc,nl,va,vc,vl⟩)) (show ib=true from by simpa using C0) hbad]<;>rfl,by rw [St.write_1 (w:=(RDs.abs ⟨z,sa,sc,sl,ib,na,nc,nl,va,vc,vl⟩)) (show ib=true from by simpa using C0) hbad]<;>rfl,ok.chg,⟨(ok.r0).mono (fun _ h=>.inl h.1),(ok.r1).mono (fun _ h=>.inl h.1),(ok.r2).mono (fun _ h=>.inl h.1)⟩⟩⟩
 have hgood:¬(no<2∨((pgs nl).length:Int)+1<no∨pgs nl=[]∨bl.length≠z):=by
  rw [pgsR_nil,pgs_len];rintro (h | h | h | h)<;>omega
 obtain ⟨k,rfl⟩:∃k:Nat,no=(k:Int):=⟨no.toNat,by omega⟩;refine .skip<|.seq<|.seq<|.r<|.z .mvI<|.z .gtr<|.z .mvB<|.sd (fun G38=>?_) (fun G38=>?_)
 ·
  refine .y<|.y<|.y<|.y<|.y<|.z .pkt<|.nil ?_;refine .ct<|.seq<|.r<|.z (.ldb T.ag31 ok.m1 T.sz31)<|.ur' (.stW (vs:=[.int .i64 (z:Int),.slice sa sl.length sc,.bool ib,.slice na nl.length nc,.slice va vl.length vc]) T.sz31 ok (oneL rfl)) ?_;rintro η8 ⟨ok,cg⟩;refine .z .asI<|.nil ?_;refine .ret ⟨.tuple #[.agg #[.int .i64 (z:Int),.slice sa sl.length sc,.bool ib,.slice na nl.length nc,.slice va vl.length vc],.int .i64 5],Res.many (vs:=[.agg #[.int .i64 (z:Int),.slice sa sl.length sc,.bool ib,.slice na nl.length nc,.slice va vl.length vc],.int .i64 5]) rfl ⟨⟨_,rfl,load_ag T.ag31 ok.m0 T.sz31⟩,rfl,trivial⟩ rfl,⟨⟨z,sa,sc,sl,ib,na,nc,nl,va,vc,vl⟩,by rw [St.write_5 (w:=(RDs.abs ⟨z,sa,sc,sl,ib,na,nc,nl,va,vc,vl⟩)) (show ib=true from by simpa using C0) hgood (by first | exact .inl (by omega) | exact .inr (show 16777216<(k:Int)*(z:Int) by omega))]<;>rfl,by rw [St.write_5 (w:=(RDs.abs ⟨z,sa,sc,sl,ib,na,nc,nl,va,vc,vl⟩)) (show ib=true from by simpa using C0) hgood (by first | exact .inl (by omega) | exact .inr (show 16777216<(k:Int)*(z:Int) by omega))]<;>rfl,ok.chg,⟨(ok.r0).mono (fun _ h=>.inl h.1),(ok.r1).mono (fun _ h=>.inl h.1),(ok.r2).mono (fun _ h=>.inl h.1)⟩⟩⟩
 have hmz:=pg_mul (x:=(k:Int)) (s:=z) (by omega) (by omega) (by omega);refine .z .mvI<|.z (.fa T.fd31_0)<|.z (.ldx T.ag3 ok.m1)<|.z .mulI<|.z .gtr<|.z .pkf<|.nil ?_;refine .cd (fun C2=>?_) (fun C2=>?_)
 ·
  refine .seq<|.r<|.z (.ldb T.ag31 ok.m1 T.sz31)<|.ur' (.stW (vs:=[.int .i64 (z:Int),.slice sa sl.length sc,.bool ib,.slice na nl.length nc,.slice va vl.length vc]) T.sz31 ok (oneL rfl)) ?_;rintro η9 ⟨ok,cg⟩;refine .z .asI<|.nil ?_;refine .ret ⟨.tuple #[.agg #[.int .i64 (z:Int),.slice sa sl.length sc,.bool ib,.slice na nl.length nc,.slice va vl.length vc],.int .i64 5],Res.many (vs:=[.agg #[.int .i64 (z:Int),.slice sa sl.length sc,.bool ib,.slice na nl.length nc,.slice va vl.length vc],.int .i64 5]) rfl ⟨⟨_,rfl,load_ag T.ag31 ok.m0 T.sz31⟩,rfl,trivial⟩ rfl,⟨⟨z,sa,sc,sl,ib,na,nc,nl,va,vc,vl⟩,by rw [St.write_5 (w:=(RDs.abs ⟨z,sa,sc,sl,ib,na,nc,nl,va,vc,vl⟩)) (show ib=true from by simpa using C0) hgood (by first | exact .inl (by omega) | exact .inr (show 16777216<(k:Int)*(z:Int) by omega))]<;>rfl,by rw [St.write_5 (w:=(RDs.abs ⟨z,sa,sc,sl,ib,na,nc,nl,va,vc,vl⟩)) (show ib=true from by simpa using C0) hgood (by first | exact .inl (by omega) | exact .inr (show 16777216<(k:Int)*(z:Int) by omega))]<;>rfl,ok.chg,⟨(ok.r0).mono (fun _ h=>.inl h.1),(ok.r1).mono (fun _ h=>.inl h.1),(ok.r2).mono (fun _ h=>.inl h.1)⟩⟩⟩
 have hgd:¬(1048576<(k:Int)∨16777216<(k:Int)*(z:Int)):=by rintro (h | h)<;>omega
 refine .skip<|.seq<|.a 6 (fun fl hh=>cond fl True (Hp h none_ [boxI pb2 31 [.int .i64 0,.slice none 0 0,.bool false,.slice none 0 0,.slice none 0 0],boxI pb1 31 [.int .i64 (z:Int),.slice sa sl.length sc,.bool ib,.slice na nl.length nc,.slice va vl.length vc]] [pgwI (fun j=>E j∧j<h.size) (sa,sl.length,sc) sl,pgwI (fun j=>E j∧j<h.size) (na,nl.length,nc) nl,svwI (fun j=>E j∧j<h.size) (va,vl.length,vc) vl,rdI (fun j=>FB j∧j<h.size) (fun j=>EB j∧j<h.size) (ba,bl.length,bc) bl] hh)) mixed ?_;have hS:=ok;refine .g 0 false rfl 46 hS (fun _=>.fa T.fd31_3)<|.l 1 false rfl 47 hS (fun _ hS=>.ldx T.ag28 hS.m1)<|.g 2 false rfl 48 hS (fun _=>.mvI)<|.g 4 false rfl 50 hS (fun _=>.mvS)<|.o1 3<|.a' false rfl 49 (.lit [] (cs:=[]) T.el44 T.sz5 T.zr5 ok trivial) ?_;rintro _ η10 ⟨pb3,rfl,ok,xe⟩;have ok:=ok.cx (ys:=([]:List UInt8).map bv) rfl;refine ⟨ok.n2.n2.k2,?_⟩;have hS:=ok.n2.n2.k2;refine .o1 5<|.a' false rfl 51 (.app (news:=bl.map bv) T.el44 T.sz5 T.by5 T.zr5 ok (ok.r3).by bv_all (by simp only [List.length_map,List.length_nil];omega)) ?_;rintro _ η11 ⟨ya1,yn1,yc1,rfl,ok,ap⟩;have ok:=ok.cx (ys:=(bl).map bv) (by simp [bv]);obtain rfl:yn1=(bl).length:=ok.lenB;refine ⟨ok.n2.n2.k2,?_⟩;have hS:=ok.n2.n2.k2;refine .o1 6<|?_;have hfr:=(ok).fresh;have hsz:=(ok).chg.size;have ok:=(ok).frzB (l:=bl) rfl;refine .c' true rfl 52 .func (rwith_any (E:=(fun j=>(fun j=>E j∧j<h.size) j∨blkC (sv (ya1,(bl).length,yc1)) j)) (no:=k) (ok.r2.mono (fun _ h=>.inl h)) (ok.r0.mono (fun _ h=>.inr h) (fun _ h=>.inr h.elim)) (by omega) (by omega) (by omega)) ?_;rintro _ η12 ⟨wa1,wc1,wl1,rfl,hpl,hx,hpg⟩;have ok:=ok.orN hx (pgwI (fun j=>(fun j=>(fun j=>E j∧j<h.size) j∨blkC (sv (ya1,(bl).length,yc1)) j) j∨Nw η11 η12 j) (wa1,wl1.length,wc1) wl1) hpg (fun j hj=>hj.elim (fun h=>h.elim (fun h=>.inl ⟨_,List.mem_of_getElem? (i:=2) rfl,h⟩) (fun h=>.inl ⟨rdI (blkC (sv (ya1,(bl).length,yc1))) none_ (ya1,(bl).length,yc1) bl,List.mem_cons_self,Or.inl h⟩)) .inr);have hlw:wl1.length=max nl.length k:=by have:=congrArg List.length hpl;rwa [pgs_len,wth_len (by rw [pgs_len];omega),pgs_len] at this
 have hEw:∀j,(fun j=>(fun j=>(fun j=>E j∧j<h.size) j∨blkC (sv (ya1,(bl).length,yc1)) j) j∨Nw η11 η12 j) j→E j∨h.size≤j:=fun j h=>h.elim (fun h=>h.elim (fun h=>.inl h.1) (fun h=>.inr (hfr j h).1)) (fun h=>.inr (Nat.le_trans hsz h.1));have hwm:=RwB.m hpg;refine ⟨trivial,?_⟩;refine .g 7 true rfl 53 trivial (fun _=>.fa T.fd31_3)<|.o1 8<|.ur' true rfl (.stS T.sz28 ok.n1) ?_;rintro η13 ⟨ok,cg⟩;refine ⟨trivial,?_⟩;refine .e ?_;refine .seq<|.r<|.z (.ldb T.ag31 ok.m0 T.sz31)<|.ur' (.stW (vs:=[.int .i64 (z:Int),.slice sa sl.length sc,.bool ib,.slice wa1 wl1.length wc1,.slice va vl.length vc]) T.sz31 ok.n1 (oneL rfl)) ?_;rintro η14 ⟨ok,cg⟩;refine .z .asI<|.nil ?_;refine .ret ⟨.tuple #[.agg #[.int .i64 (z:Int),.slice sa sl.length sc,.bool ib,.slice wa1 wl1.length wc1,.slice va vl.length vc],.int .i64 0],Res.many (vs:=[.agg #[.int .i64 (z:Int),.slice sa sl.length sc,.bool ib,.slice wa1 wl1.length wc1,.slice va vl.length vc],.int .i64 0]) rfl ⟨⟨_,rfl,load_ag T.ag31 ok.m0 T.sz31⟩,rfl,trivial⟩ rfl,⟨⟨z,sa,sc,sl,ib,wa1,wc1,wl1,va,vc,vl⟩,by rw [St.write_0 (w:=(RDs.abs ⟨z,sa,sc,sl,ib,na,nc,nl,va,vc,vl⟩)) (show ib=true from by simpa using C0) hgood hgd]<;>rfl,by rw [St.write_0 (w:=(RDs.abs ⟨z,sa,sc,sl,ib,na,nc,nl,va,vc,vl⟩)) (show ib=true from by simpa using C0) hgood hgd]<;>simp only [RDs.abs,hpl],ok.chg,⟨(ok.r2).mono (fun _ h=>.inl h.1),(ok.r0).mono (fun j hj=>(hEw j hj).imp id fun g=>⟨g,ok.l0 j hj⟩),(ok.r4).mono (fun _ h=>.inl h.1)⟩⟩⟩
structure DgP (h:Heap) (d:Nat) (F:Nat→Prop) (D:Dk) (r:RD) (E:Nat→Prop):Prop where
 p:(dskI d r).p h
 b:Bys h E r.fs
 f:∀j,(dskI d r).F j→F j
 e:∀j,E j→F j
 n:∀j,(dskI d r).F j→¬E j
 a:r.abs=D
@[reducible] def dgI (d:Nat) (F:Nat→Prop) (D:Dk):Itm:=⟨fun h=>∃r E,DgP h d F D r E,F,fun _ _ _ c g ⟨r,E,q⟩=>⟨r,E,(dskI d r).st _ _ _ c (fun j hj=>g j (q.f j hj)) q.p,(bysI E r.fs).st _ _ _ c (fun j hj=>g j (q.e j hj)) q.b,q.f,q.e,q.n,q.a⟩⟩
section
variable {h h':Heap} {d p:Nat} {F G E E':Nat→Prop} {D:Dk} {r r':RD}
theorem dg_open {M:List Itm} (ok:Hp h F [dgI d F D] M h):∃r E,r.abs=D∧Hp h (dskI d r).F [dskI d r] [bysI E r.fs] h∧(∀j,(dskI d r).F j→F j)∧∀j,E j→F j:=by
 obtain ⟨r,E,q⟩:=ok.m0;have hl:=(ok.m (dgI d F D) (by simp)).2;exact ⟨r,E,q.a,⟨Chg.refl _ _,fun i hi=>by rw [List.mem_singleton.1 hi];exact ⟨q.p,fun j hj=>⟨(hl j (q.f j hj)).1,.inl hj⟩⟩,fun i hi=>by rw [List.mem_singleton.1 hi];exact ⟨q.b,fun j hj=>(hl j (q.e j hj)).1⟩,List.pairwise_singleton _ _,fun a ha b hb=>by rw [List.mem_singleton.1 ha,List.mem_singleton.1 hb];exact q.n⟩,q.f,q.e⟩
theorem dg_close {M:List Itm} (q:Hp h G (dskI d r'::M) [bysI E' r'.fs] h') (hG:∀j,G j→F j) (hE:∀j,E' j→F j∨h.size≤j):Hp h F (dgI d (fun j=>(dskI d r').F j∨E' j) r'.abs::M) [] h':=by
 have hm:=List.pairwise_cons.1 q.mm;refine ⟨q.chg.mono fun j _=>hG j,fun i hi=>?_,by simp,List.pairwise_cons.2 ⟨fun b hb j hj hb2=>?_,hm.2⟩,by simp⟩
 ·rcases List.mem_cons.1 hi with rfl | hi
  ·refine ⟨⟨r',E',q.m0,q.r0,fun j hj=>.inl hj,fun j hj=>.inr hj,q.mr (dskI d r') (by simp) (bysI E' r'.fs) (by simp),rfl⟩,fun j hj=>?_⟩;rcases hj with hj | hj
   ·have:=(q.m _ List.mem_cons_self).2 j hj;exact ⟨this.1,this.2.imp (hG j) id⟩
   ·exact ⟨(q.r _ List.mem_cons_self).2 j hj,hE j hj⟩
  ·have:=q.m i (List.mem_cons_of_mem _ hi);exact ⟨this.1,fun j hj=>⟨(this.2 j hj).1,(this.2 j hj).2.imp (hG j) id⟩⟩
 ·rcases hj with hj | hj
  ·exact hm.1 b hb j hj hb2
  ·exact q.mr b (List.mem_cons_of_mem _ hb) _ List.mem_cons_self j hb2 hj
theorem dg_up (up:DUp h h' d r r' E E') (hf:∀j,(dskI d r).F j→F j) (he:∀j,E j→F j):∃F',Hp h F [dgI d F' r'.abs] [] h':=⟨_,dg_close up.hp hf fun j hj=>(up.new j hj).imp (he j) id⟩
section
variable {n:List UInt8} {z y:Int} {a:Option Addr} {c:Nat} {l:List UInt8} {F2 E2:Nat→Prop}
theorem dgsize_any (ok:Hp h F [dgI d F D] [] h) :
  HC Tryz.prog 136 #[.pointer (some ⟨d,0,none⟩),.string (BA n)] h (fun v h'=>v=.tuple #[.int .i64 ((sizeN D n).1:Int),.bool (sizeN D n).2]∧h'=h):=by
 obtain ⟨r,E,rfl,o,hf,he⟩:=dg_open ok;exact size_anyD o.m0
theorem dgdark_any (ok:Hp h F [dgI d F D] [] h) :
  HC Tryz.prog 135 #[.pointer (some ⟨d,0,none⟩)] h (fun v h'=>v=.bool D.dark∧h'=h):=by
 obtain ⟨r,E,rfl,o,hf,he⟩:=dg_open ok;exact dark_any (dsk_parts o.m0).1
end
theorem dgnew_any:HC Tryz.prog 35 #[] h (fun v h'=>∃d F,v=.pointer (some ⟨d,0,none⟩)∧Hp h none_ [dgI d F newN] [] h'):=
 new_any.mono fun v h' ⟨d,r,hv,ha,q⟩=>⟨d,_,hv,by
  have hp:=dg_close (F:=none_) q (fun _ f=>f) (fun j f=>f.elim);rw [ha] at hp;exact hp⟩
end
open Go Go.HL
theorem aright_any {h:Heap} {z:Int} (hz : -9223372036854775808≤z∧z≤9223372036854775807) :
  HC Tryz.prog 132 #[.int .i64 z] h (fun v h'=>v=.bool (okZ z)∧h'=h):=by
 refine HC.go Tryz.func132 16 ?_;refine .seq<|.r<|.z .asB<|.nil ?_;refine .seq<|.r<|.z .mvI<|.z .geq<|.z .mvB<|.sd (fun G5=>?_) (fun G5=>?_)
 ·
  refine .z .mvI<|.z .leq<|.z .pkt<|.z .mvB<|.sd (fun G9=>?_) (fun G9=>?_)
  ·
   obtain ⟨q,rfl⟩:∃q:Nat,z=(q:Int):=⟨z.toNat,by omega⟩;have hq:=and_pow q (by omega) (by omega);refine .z .mvI<|.z .mvI<|.z .sub<|.z (.bandI q (q-1))<|.z .eql<|.z .pkt<|.z .asB<|.nil ?_;refine .ret ⟨.bool (decide ((((q &&& (q-1)):Nat):Int)=0)),Res.one rfl rfl,⟨by first | exact congrArg _ (by unfold okZ;rw [decide_eq_decide];omega) | exact congrArg _ (by unfold okZ;exact (decide_eq_false (by omega)).symm) | exact congrArg _ (by unfold okZ;exact (decide_eq_true (by omega)).symm),rfl⟩⟩
  refine .y<|.y<|.y<|.y<|.y<|.z .pkf<|.z .asB<|.nil ?_;refine .ret ⟨.bool false,Res.one rfl rfl,⟨by first | exact congrArg _ (by unfold okZ;rw [decide_eq_decide];omega) | exact congrArg _ (by unfold okZ;exact (decide_eq_false (by omega)).symm) | exact congrArg _ (by unfold okZ;exact (decide_eq_true (by omega)).symm),rfl⟩⟩
 refine .y<|.y<|.z .pkf<|.z .mvB<|.y<|.y<|.y<|.y<|.y<|.z .pkf<|.z .asB<|.nil ?_;refine .ret ⟨.bool false,Res.one rfl rfl,⟨by first | exact congrArg _ (by unfold okZ;rw [decide_eq_decide];omega) | exact congrArg _ (by unfold okZ;exact (decide_eq_false (by omega)).symm) | exact congrArg _ (by unfold okZ;exact (decide_eq_true (by omega)).symm),rfl⟩⟩
theorem look_any {h:Heap} {p:Nat} {r:RA} (hb:(aboxI p r).p h) :
  HC Tryz.prog 185 #[.pointer (some ⟨p,0,none⟩)] h (fun v h'=>v=.int .i64 ((lookE r.dark:Nat):Int)∧h'=h):=by
 refine HC.go Tryz.func185 11 ?_;refine .seq<|.r<|.z .asI<|.nil ?_;refine .seq<|.block fun K0 hK0=>.seq<|.r<|.z .mvP<|.z (.pEqS T.pt117)<|.z .asB<|.nil ?_;refine .cf<|.seq<|.r<|.z .mvP<|.z .nil<|.z (.fa T.fd202_6)<|.z (.ldx T.ag4 hb)<|.z .asB<|.nil ?_;refine .cond (fun C1=>?_) (fun C1=>?_)
 ·
  refine .seq<|.r<|.z .asI<|.nil ?_;refine .ret ⟨.int .i64 13,Res.one rfl rfl,⟨by rw [show lookE r.dark=13 from if_pos C1];rfl,rfl⟩⟩
 refine .skip<|.end<|hK0 _ _<|.seq<|.r<|.z .asI<|.nil ?_;refine .ret ⟨.int .i64 0,Res.one rfl rfl,⟨by rw [show lookE r.dark=0 from if_neg (by simp [C1])];rfl,rfl⟩⟩
theorem apages_any {h:Heap} {p:Nat} {r:RA} (hb:(aboxI p r).p h) :
  HC Tryz.prog 280 #[.pointer (some ⟨p,0,none⟩)] h (fun v h'=>v=.int .i64 ((pgsR r:Nat):Int)∧h'=h):=by
 refine HC.go Tryz.func280 17 ?_;refine .seq<|.r<|.z .asI<|.nil ?_;refine .seq<|.seq<|.r<|.z .mvP<|.z .nil<|.z (.fa T.fd202_1)<|.z (.fa T.fd200_0)<|.z (.ldx T.ag4 hb)<|.nil ?_;refine .cond (fun C0=>?_) (fun C0=>?_)
 ·
  refine .seq<|.r<|.z .mvP<|.z .nil<|.z (.fa T.fd202_1)<|.z (.fa T.fd200_1)<|.z (.ldx T.ag3 hb)<|.z .asI<|.nil ?_;refine .ret ⟨.int .i64 (r.many:Int),Res.one rfl rfl,⟨by rw [show pgsR r=r.many from if_pos C0],rfl⟩⟩
 refine .skip<|.seq<|.r<|.z .mvP<|.z .nil<|.z (.fa T.fd202_4)<|.z (.ldx T.ag3 hb)<|.z .asI<|.nil ?_;refine .ret ⟨.int .i64 (r.sure:Int),Res.one rfl rfl,⟨by rw [show pgsR r=r.sure from if_neg (by simp [C0])],rfl⟩⟩
theorem fresh_any {h:Heap} {p:Nat} {v0 v1 v2 v3 v4 v5 v6 v7 v8 v9 v10 v11:Value} (ok:Hp h (fun j=>j=p) [boxI p 202 [v0,v1,v2,v3,v4,v5,v6,v7,v8,v9,v10,v11]] [] h) :
  HC Tryz.prog 134 #[.pointer (some ⟨p,0,none⟩)] h (fun v h'=>∃m,v=.tuple #[]∧Hp h (fun j=>j=p) [boxI p 202 [.int .i64 0,.int .i64 0,.int .u64 0,.map (some m),v4,v5,v6,v7,v8,v9,v10,v11],mapI (Value.int .i64) m []] [] h'):=by
 refine HC.go Tryz.func134 7 ?_;refine .r<|.z .mvP<|.a' 3 (.mkm (Value.int .i64) ok) ?_;rintro _ η1 ⟨mb1,rfl,ok⟩;refine .z (.bd #[.int .i64 0,.int .i64 0,.int .u64 0,.map (some mb1)] T.zr198 T.pl198 rfl)<|.z .nil<|.z (.fa T.fd202_0)<|.ur' (.stA (vs:=[.int .i64 0,.int .i64 0,.int .u64 0,.map (some mb1)]) T.sz198 ok.n1 (oneL rfl)) ?_;rintro η2 ⟨ok,cg⟩;refine .nil ?_;refine .end<|⟨.tuple #[],Res.none rfl,⟨_,rfl,ok⟩⟩
theorem aPages_any {h:Heap} {p:Nat} {r:RA} (hb:(aboxI p r).p h) :
  HC Tryz.prog 271 #[.pointer (some ⟨p,0,none⟩)] h (fun v h'=>v=.int .i64 ((if r.dark=true then 0 else pgsR r:Nat):Int)∧h'=h):=by
 refine HC.go Tryz.func271 8 ?_;refine .seq<|.r<|.z .asI<|.nil ?_;refine .seq<|.seq<|.r<|.z .mvP<|.k 4 .func (look_any (r:=r) hb)<|.z .neq<|.nil ?_;refine .cd (fun C0=>?_) (fun C0=>?_)
 ·
  have hdk:r.dark=true:=lookE_t C0;refine .seq<|.r<|.z .asI<|.nil ?_;refine .ret ⟨.int .i64 0,Res.one rfl rfl,⟨by rw [if_pos hdk];rfl,rfl⟩⟩
 have hdk:r.dark=false:=lookE_f C0;refine .skip<|.seq<|.r<|.z .mvP<|.k 7 .func (apages_any (r:=r) hb)<|.z .asI<|.nil ?_;refine .ret ⟨.int .i64 ((pgsR r:Nat):Int),Res.one rfl rfl,⟨by rw [if_neg (by rw [hdk];decide)],rfl⟩⟩
def nOk (n:List UInt8):Prop:=1≤n.length∧n.length≤32
section
variable {d:Dk} {r:Dk × Nat} {G G' B B':Dk→Prop} {n:List UInt8}
theorem wrong_0 {zs:List Int} (hd:d.dark=false) (hn:nOk n) (hz:∀z∈zs,0≤z):wrongN d n zs=0:=by
 unfold wrongN;rw [if_neg,if_neg (by rw [hd];decide)];rintro (h | h | ⟨z,h1,h2⟩)
 ·have:=hn.1;omega
 ·have:=hn.2;omega
 ·have:=hz z h1;omega
end
open Go Go.HL
theorem nL_ok:nOk nL:=by unfold nOk nL;decide
theorem nM_ok:nOk nM:=by unfold nOk nM;decide
def nJ:List UInt8:=[116,111,109,101,46,98,97,99,107]
structure RK where
 in_:Bool
 now:Nat
 valid:Nat
 begun:Bool
 nonce:Nat
 km:Option Nat
 kept:List Int
 marked:Nat
 d:Nat
 rd:RD
 size:Nat
 c:Nat
 sure:Nat
 bytes:Nat
 broken:Bool
@[reducible] def bboxI (p:Nat) (r:RK):Itm:=boxI p 212 [.bool r.in_,.int .i64 (r.now:Int),.int .i64 (r.valid:Int),.bool r.begun,.int .u64 (r.nonce:Int),.map r.km,.int .i64 (r.marked:Int),.pointer (some ⟨r.d,0,none⟩),.int .i64 (r.size:Int),.pointer (some ⟨r.c,0,none⟩),.int .i64 (r.sure:Int),.int .i64 (r.bytes:Int),.bool r.broken]
def presK (r:RK):Nat:=if r.in_=true then r.now else r.sure
theorem pres_any {h:Heap} {p:Nat} {r:RK} (hb:(bboxI p r).p h) :
  HC Tryz.prog 307 #[.pointer (some ⟨p,0,none⟩)] h (fun v h'=>v=.int .i64 ((presK r:Nat):Int)∧h'=h):=by
 refine HC.go Tryz.func307 17 ?_;refine .seq<|.r<|.z .asI<|.nil ?_;refine .seq<|.seq<|.r<|.z .mvP<|.z .nil<|.z (.fa T.fd212_0)<|.z (.fa T.fd210_0)<|.z (.ldx T.ag4 hb)<|.nil ?_;refine .cond (fun C0=>?_) (fun C0=>?_)
 ·
  refine .seq<|.r<|.z .mvP<|.z .nil<|.z (.fa T.fd212_0)<|.z (.fa T.fd210_1)<|.z (.ldx T.ag3 hb)<|.z .asI<|.nil ?_;refine .ret ⟨.int .i64 (r.now:Int),Res.one rfl rfl,⟨by rw [show presK r=r.now from if_pos C0],rfl⟩⟩
 refine .skip<|.seq<|.r<|.z .mvP<|.z .nil<|.z (.fa T.fd212_4)<|.z (.ldx T.ag3 hb)<|.z .asI<|.nil ?_;refine .ret ⟨.int .i64 (r.sure:Int),Res.one rfl rfl,⟨by rw [show presK r=r.sure from if_neg (by simp [C0])],rfl⟩⟩
end Go.Proofs.YtndlpekckpdncaaGreat
