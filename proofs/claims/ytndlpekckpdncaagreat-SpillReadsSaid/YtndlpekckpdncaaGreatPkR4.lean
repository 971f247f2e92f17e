/- The store's inner functions: what is wrong with it, how many pages there are, a page is read, put, cut off. Conditions: those that each names. Any head is encoded. Conditions: numbers of 64 bits. What a store's functions make of the document's state. Conditions: those that each fact names. The store's calls, told by the document's state. Conditions: the store is in order. Calls of the store where it is known what comes. Conditions: those that each fact names. Free pages in plain terms: the chain of trunks, a page taken, a page given. Conditions: those that each fact names. Scopes without jumps. Functions with one deferred call: the rules of code until it is laid, and what is done behind a return. Conditions: those that each rule names. A range over a function: a call of yield, a round, the statement, and the end of a function that has one. Conditions: the loop stands in no other one. The links of a chain of pages, one by one, for any loop body. Conditions: the store is in order. The pages, and the bytes, of a chain. Conditions: the store is in order. The free list's inner functions: numbers of a page, the walk over the chain. Conditions: the store is in order. The walk over the chain of free pages. Conditions: the store is in order. slices.Sort on ints that the caller owns. Conditions: not too many. -/
import Derived.Test.YtndlpekckpdncaaGreatPkR3
import Derived.Defers
import Derived.Scope
set_option maxRecDepth 100000
set_option maxHeartbeats 2000000
set_option linter.all false
namespace Go.Proofs.YtndlpekckpdncaaGreat
open Go Go.HL
def wthE (b:Bool):Nat:=if b=true then 0 else 10
theorem wthE_t {b:Bool} (h:b=true):wthE b=0:=if_pos h
theorem wthE_f {b:Bool} (h:¬b=true):wthE b=10:=if_neg h
theorem wthE_n {b:Bool} (h:¬(wthE b:Int)≠0):b=true:=by
 cases b
 ·exact absurd (by decide) h
 ·rfl
theorem wthE_y {b:Bool} (h:(wthE b:Int)≠0):b=false:=by
 cases b
 ·rfl
 ·exact absurd rfl h
theorem bsE_put {ov:List (Int × RB)} {k:Int} {x:RB} : aput (bsE ov) k (bsV x)=bsE (mput ov k x):=aput_mp
theorem bsE_del {ov:List (Int × RB)} {k:Int} : adel (bsE ov) k=bsE (mdel ov k):=adel_mp
theorem susable_any {G:Pgr} {h:Heap} {so:Nat} {r:RS G.α} (hb:(sboxI G so r).p h) :
  HC Tryz.prog 69 #[.pointer (some ⟨so,0,none⟩)] h (fun v h'=>v=.int .i64 0∧h'=h):=by
 refine HC.go Tryz.func69 11 ?_;refine .seq<|.r<|.z .asI<|.nil ?_;refine .seq<|.block fun K0 hK0=>.seq<|.r<|.z .mvP<|.z (.pEqS T.pt27)<|.z .asB<|.nil ?_;refine .cf<|.seq<|.r<|.z .mvP<|.z .nil<|.z (.fa T.fd123_6)<|.z (.ldx T.ag4 hb)<|.z .asB<|.nil ?_;refine .cf<|.skip<|.end<|hK0 _ _<|.seq<|.r<|.z .asI<|.nil ?_;refine .ret ⟨.int .i64 0,Res.one rfl rfl,⟨rfl,rfl⟩⟩
theorem swithin_any {G:Pgr} {h:Heap} {so:Nat} {r:RS G.α} {i:Bool} (hb:(sboxI G so r).p h) (hi:r.in_=i) :
  HC Tryz.prog 82 #[.pointer (some ⟨so,0,none⟩)] h (fun v h'=>v=.int .i64 (wthE i:Int)∧h'=h):=by
 refine HC.go Tryz.func82 14 ?_;refine .seq<|.r<|.z .asI<|.nil ?_;refine .seq<|.seq<|.r<|.z .mvP<|.k 5 .func (susable_any (G:=G) (r:=r) hb)<|.z .asI<|.nil ?_;refine .seq<|.r<|.z .mvI<|.z .neq<|.nil ?_;refine .cf<|.skip<|.seq<|.seq<|.r<|.z .mvP<|.z .nil<|.z (.fa T.fd123_3)<|.z (.ldx T.ag4 hb)<|.z .not<|.nil ?_;refine .cond (fun C1=>?_) (fun C1=>?_)
 ·
  refine .seq<|.r<|.z .asI<|.nil ?_;refine .ret ⟨.int .i64 10,Res.one rfl rfl,⟨by rw [wthE_f (by rw [←hi];simpa using C1)];rfl,rfl⟩⟩
 refine .skip<|.seq<|.r<|.z .asI<|.nil ?_;refine .ret ⟨.int .i64 0,Res.one rfl rfl,⟨by rw [wthE_t (by rw [←hi];simpa using C1)];rfl,rfl⟩⟩
theorem spages_any {G:Pgr} {h:Heap} {so:Nat} {r:RS G.α} {i:Bool} {m k:Nat} (hb:(sboxI G so r).p h) (hp:(G.it r.p r.pF r.a).p h) (h1:r.in_=i) (h2:r.many=m) (h3:(G.sure r.a).length=k) :
  HC Tryz.prog 70 #[.pointer (some ⟨so,0,none⟩)] h (fun v h'=>v=.int .i64 ((if i=true then m else k:Nat):Int)∧h'=h):=by
 refine HC.go Tryz.func70 17 ?_;refine .seq<|.r<|.z .asI<|.nil ?_;refine .seq<|.seq<|.r<|.z .mvP<|.z .nil<|.z (.fa T.fd123_3)<|.z (.ldx T.ag4 hb)<|.nil ?_;refine .cond (fun C0=>?_) (fun C0=>?_)
 ·
  refine .seq<|.r<|.z .mvP<|.z .nil<|.z (.fa T.fd123_4)<|.z (.fa T.fd120_0)<|.z (.ldx T.ag3 hb)<|.z .asI<|.nil ?_;refine .ret ⟨.int .i64 (r.many:Int),Res.one rfl rfl,⟨by rw [if_pos (h1▸C0),h2],rfl⟩⟩
 refine .skip<|.seq<|.r<|.z .mvP<|.z .nil<|.z (.fa T.fd123_0)<|.z (.ldx T.ag116 hb)<|.k 16 (.inv (G.mPages _)) (G.cPages (F:=r.pF) (a:=r.a) hp)<|.z .asI<|.nil ?_;refine .ret ⟨.int .i64 ((G.sure r.a).length:Int),Res.one rfl rfl,⟨by rw [if_neg (by rw [←h1,C0];decide),h3],rfl⟩⟩
theorem stold_any {G:Pgr} {h:Heap} {so:Nat} {r:RS G.α} (hb:(sboxI G so r).p h) :
  HC Tryz.prog 101 #[.pointer (some ⟨so,0,none⟩),.int .i64 0] h (fun v h'=>v=.int .i64 0∧h'=h):=by
 refine HC.go Tryz.func101 11 ?_;refine .seq<|.r<|.z .asI<|.nil ?_;refine .seq<|.seq<|.r<|.z .mvI<|.z .eql<|.nil ?_;refine .cf<|.skip<|.seq<|.r<|.z .mvI<|.z .asI<|.nil ?_;refine .ret ⟨.int .i64 0,Res.one rfl rfl,⟨rfl,rfl⟩⟩
theorem sread_any {G:Pgr} {h:Heap} {so:Nat} {r:RS G.α} {E:Nat→Prop} {no:Int} {b:List UInt8} (ok:Hp h (starI [G.it r.p r.pF r.a,sboxI G so r,nowI r.om r.ov]).F [G.it r.p r.pF r.a,sboxI G so r,nowI r.om r.ov] [pbsI E r.ov] h) (hno:1≤no) (hbl:b.length≤1000000) (hb:r.in_=true→∃mb,r.om=some mb) (h1:r.in_=true→∀x,mget r.ov no=some x→x.l=b) (h2:r.in_=false∨mget r.ov no=none→(G.sure r.a)[(no-1).toNat]? = some b) :
  HC Tryz.prog 71 #[.pointer (some ⟨so,0,none⟩),.int .i64 no] h (fun v h'=>∃F' a' x c,v=.tuple #[.slice x b.length c,.int .i64 0]∧G.sure a'=G.sure r.a∧Hp h (starI [G.it r.p r.pF r.a,sboxI G so r,nowI r.om r.ov]).F [capI 1 5 (x,b.length,c) (b.map bv),G.it r.p F' a',sboxI G so r,nowI r.om r.ov] [] h'):=by
 obtain ⟨p,lg,z,in_,many,om,ov,sa,sc,svl,pF,ga⟩:=r;dsimp only at ok hb h1 h2⊢;refine HC.go Tryz.func71 40 ?_;refine .seq<|.r<|.z .asS<|.z .asI<|.nil ?_;refine .seq<|.seq<|.r<|.z .mvP<|.z .nil<|.z (.fa T.fd123_3)<|.z (.ldx T.ag4 ok.m1)<|.nil ?_;refine .cond (fun C0=>?_) (fun C0=>?_)
 ·
  obtain ⟨m,rfl⟩:=hb C0;have ok:=Hp.nowSome (ok.n2);refine .seq<|.r<|.z .mvP<|.z .nil<|.z (.fa T.fd123_4)<|.z (.fa T.fd120_1)<|.z (.ldx T.ag118 ok.m2)<|.z .mvI<|.z (.lk2 (KV.int .i64) no (v:=.slice (bsA ov no) (bsN ov no) (bsC ov no)) T.mp118 (inB_iff T.in3) T.zr44 ok.m0 (by exact bs_get) (by exact bs_is))<|.z .mvU<|.z .ex<|.z .ex<|.z .asS<|.z .asB<|.nil ?_;refine .seq<|.r<|.z .mvB<|.nil ?_;refine .cond (fun C1=>?_) (fun C1=>?_)
  ·
   obtain ⟨x,hx⟩:=Option.isSome_iff_exists.1 C1;have hxl:=h1 C0 x hx;have ok:=ok.d0 (rdI E E (bsA ov no,bsN ov no,bsC ov no) b) (Pbs.rd ok.r0 hx hxl) (fun _ h=>h.elim id id);obtain hbn:bsN ov no=b.length:=ok.r0.n;rw [hbn] at ok⊢;refine .seq<|.r<|.z .mvS<|.c' 26 .func (bclone_any (a:=(bsA ov no)) (c:=(bsC ov no)) (l:=b) ok.r0 (by omega)) ?_;rintro _ η1 own;obtain ⟨ya1,yc1,rfl⟩:=own.formB;have ok:=ok.own own;refine .z .asS<|.z .asI<|.nil ?_;refine .ret ⟨.tuple #[.slice ya1 ((b).length) yc1,.int .i64 0],Res.two rfl rfl rfl,⟨pF,ga,ya1,yc1,rfl,rfl,(ok.n1.n3.n3.n3).e0⟩⟩
  have h3:=h2 (.inr (by simpa using C1));refine .skip<|.seq<|.r<|.z .mvP<|.z .nil<|.z (.fa T.fd123_0)<|.z (.ldx T.ag116 ok.m2)<|.z .mvI<|.c' 33 (.inv (G.mRead _)) (G.cRead (p:=p) (F:=pF) (a:=ga) (no:=no) (b:=b) (ok.n1).loc0 hno h3) ?_;rintro _ η2 ⟨Fg1,ag1,xg1,cg1,rfl,hsg1,q⟩;have ok:=(ok.n1).lift2 q;refine .z .mvU<|.z .ex<|.z .ex<|.z .asS<|.z .asI<|.nil ?_;refine .seq<|.r<|.z .mvS<|.z .mvP<|.z .mvI<|.k 39 .func (stold_any (G:=G) (r:=(⟨p,lg,z,in_,many,(some m),ov,sa,sc,svl,Fg1,ag1⟩:RS G.α)) ok.m3)<|.z .asS<|.z .asI<|.nil ?_;refine .ret ⟨.tuple #[.slice xg1 b.length cg1,.int .i64 0],Res.two rfl rfl rfl,⟨Fg1,ag1,xg1,cg1,rfl,hsg1,(ok.n2.n3.n3.n3).e0⟩⟩
 have h3:=h2 (.inl (by simpa using C0));refine .skip<|.seq<|.r<|.z .mvP<|.z .nil<|.z (.fa T.fd123_0)<|.z (.ldx T.ag116 ok.m1)<|.z .mvI<|.c' 33 (.inv (G.mRead _)) (G.cRead (p:=p) (F:=pF) (a:=ga) (no:=no) (b:=b) (ok).loc0 hno h3) ?_;rintro _ η3 ⟨Fg2,ag2,xg2,cg2,rfl,hsg2,q⟩;have ok:=(ok).lift2 q;refine .z .mvU<|.z .ex<|.z .ex<|.z .asS<|.z .asI<|.nil ?_;refine .seq<|.r<|.z .mvS<|.z .mvP<|.z .mvI<|.k 39 .func (stold_any (G:=G) (r:=(⟨p,lg,z,in_,many,om,ov,sa,sc,svl,Fg2,ag2⟩:RS G.α)) ok.m2)<|.z .asS<|.z .asI<|.nil ?_;refine .ret ⟨.tuple #[.slice xg2 b.length cg2,.int .i64 0],Res.two rfl rfl rfl,⟨Fg2,ag2,xg2,cg2,rfl,hsg2,(ok).e0⟩⟩
theorem sput_any {G:Pgr} {h:Heap} {so mb:Nat} {r:RS G.α} {a:Option Addr} {c:Nat} {l:List UInt8} {no:Nat} (ok:Hp h (starI [sboxI G so r,mapI (Value.int .i64) mb (bsE r.ov)]).F [sboxI G so r,mapI (Value.int .i64) mb (bsE r.ov)] [] h) (hm:r.om=some mb) :
  HC Tryz.prog 83 #[.pointer (some ⟨so,4,none⟩),.int .i64 (no:Int),.slice a l.length c] h (fun v h'=>v=.tuple #[]∧Hp h (starI [sboxI G so r,mapI (Value.int .i64) mb (bsE r.ov)]).F [sboxI G so ({ r with many:=max r.many no,ov:=mput r.ov (no:Int) ⟨a,c,l⟩ }),mapI (Value.int .i64) mb (bsE (mput r.ov (no:Int) ⟨a,c,l⟩))] [] h'):=by
 obtain ⟨p,lg,z,in_,many,om,ov,sa,sc,svl,pF,ga⟩:=r;dsimp only at ok hm⊢;subst hm;refine HC.go Tryz.func83 21 ?_;refine .seq<|.r<|.z .mvP<|.z .nil<|.z (.fa T.fd120_1)<|.z (.ldx T.ag118 ok.m0)<|.z .mvI<|.z .mvS<|.ur' (.mpu (KV.int .i64) V.sbI (no:Int) (v:=.slice a l.length c) T.mp118 (inB_iff T.in3) ok.n1) ?_;rintro η1 ok;rw [show (Value.slice a l.length c:Value)=bsV ⟨a,c,l⟩ from rfl,bsE_put] at ok;refine .nil ?_;refine .r<|.z .mvP<|.z .mvP<|.z .nil<|.z (.fa T.fd120_0)<|.z (.ldx T.ag3 ok.m1)<|.z .mvI<|.z .maxn<|.z .nil<|.z (.fa T.fd120_0)<|.ur' (.stI T.sz3 ok.n1) ?_;rintro η2 ⟨ok,cg⟩;refine .nil ?_;refine .end<|⟨.tuple #[],Res.none rfl,⟨rfl,ok⟩⟩
theorem bsE_some {l:List (Int × RB)} {i:Nat} {p:Int × Value} (h:(bsE l)[i]? = some p):∃q,l[i]? = some q∧(q.1,bsV q.2)=p:=by
 unfold bsE at h;rw [List.getElem?_map] at h;cases hq:l[i]? with
 | none=>rw [hq] at h;cases h
 | some q=>rw [hq] at h;injection h with h;exact ⟨q,rfl,h⟩
theorem bsE_erase {l:List (Int × RB)} {i:Nat} : (bsE l).eraseIdx i=bsE (l.eraseIdx i):=(map_erase _ _ _).symm
theorem erase_memR {td:List (Int × RB)} {i:Nat} {p q:Int × RB} (hp:p∈td) (hq:td[i]? = some q) (hne:p≠q):p∈td.eraseIdx i:=by
 rw [List.mem_eraseIdx_iff_getElem?];obtain ⟨j,hj⟩:=List.mem_iff_getElem?.1 hp;refine ⟨j,fun e=>?_,hj⟩;subst e;rw [hj] at hq;injection hq with hq;exact hne hq
theorem filt_del {L:List (Int × RB)} {c k:Int} (h:c<k):(mdel L k).filter (fun p=>decide (p.1≤c))=L.filter fun p=>decide (p.1≤c):=by
 unfold mdel;rw [List.filter_filter];refine List.filter_congr fun p _=>?_;by_cases h1:p.1≤c
 ·have:p.1≠k:=by omega
  simp [h1,this]
 ·simp [h1]
theorem scut_any {G:Pgr} {h:Heap} {so mb n:Nat} {r:RS G.α} (ok:Hp h (starI [sboxI G so r,mapI (Value.int .i64) mb (bsE r.ov)]).F [sboxI G so r,mapI (Value.int .i64) mb (bsE r.ov)] [] h) (hm:r.om=some mb) :
  HC Tryz.prog 99 #[.pointer (some ⟨so,4,none⟩),.int .i64 (n:Int)] h (fun v h'=>v=.tuple #[]∧Hp h (starI [sboxI G so r,mapI (Value.int .i64) mb (bsE r.ov)]).F [sboxI G so ({ r with many:=n,ov:=r.ov.filter fun p=>decide (p.1≤(n:Int)) }),mapI (Value.int .i64) mb (bsE (r.ov.filter fun p=>decide (p.1≤(n:Int))))] [] h'):=by
 obtain ⟨p,lg,z,in_,many,om,ov,sa,sc,svl,pF,ga⟩:=r;dsimp only at ok hm⊢;subst hm;refine HC.go Tryz.func99 26 ?_;refine .seq<|.seq<|.r<|.z .mvP<|.z .nil<|.z (.fa T.fd120_1)<|.z (.ldx T.ag118 ok.m0)<|.a' 9 (.rng T.mp118 ok.n1) ?_;rintro _ η1 ⟨ib1,rfl,ok⟩;refine .nil ?_;refine .block fun K0 hK0=>.loop (fun m s hh=>∃(L td:List (Int × RB)),Has s [(0,.pointer (some ⟨so,4,none⟩)),(1,.int .i64 (n:Int)),(9,.pointer (some ⟨ib1,0,none⟩))]∧Hp h (starI [sboxI G so ((⟨p,lg,z,in_,many,some mb,ov,sa,sc,svl,pF,ga⟩:RS G.α)),mapI (Value.int .i64) mb (bsE ov)]).F [itI (Value.int .i64) ib1 mb (bsE L) (bsE td),boxI so 123 [.iface G.tid (.pointer (some ⟨p,0,none⟩)),.pointer lg,.int .i64 (z:Int),.bool in_,.int .i64 (many:Int),.map (some mb),.slice sa svl.length sc,.bool false]] [] hh∧L.filter (fun p:Int × RB=>decide (p.1≤(n:Int)))=ov.filter (fun p:Int × RB=>decide (p.1≤(n:Int)))∧(∀p∈L,p.1≤(n:Int)∨p∈td)∧m=td.length) ?_ ?_
 ·exact ⟨_,ov,ov,⟨rfl,rfl,rfl,trivial⟩,ok.n1.n1,rfl,fun p h=>.inr h,rfl⟩
 rintro _ _ η2 ⟨L,td,hs,ok,hLf,hLt,rfl⟩ J0 hJ0;refine .frame hs fun τ=>?_;refine .seq<|.r<|.a' 10 (.nxt ok) ?_;rintro _ η3 (⟨hnil,rfl,ok⟩ | ⟨ipq1,pq1,hpq1,rfl,ok⟩)
 ·
  have htd:td=[]:=by simpa [bsE] using hnil
  have hLe:L=ov.filter (fun p:Int × RB=>decide (p.1≤(n:Int))):=by rw [←hLf];exact (List.filter_eq_self.2 fun p hp=>decide_eq_true ((hLt p hp).resolve_right (by rw [htd];simp))).symm
  have ok:=ok.itm;rw [hLe] at ok;refine .z .ex<|.nil ?_;refine .seq<|.cf<|.exit<|hK0 _ _<|.r<|.z .mvP<|.z .mvI<|.z .nil<|.z (.fa T.fd120_0)<|.ur' (.stI T.sz3 ok.n1) ?_;rintro η4 ⟨ok,cg⟩;refine .nil ?_;refine .end<|⟨.tuple #[],Res.none rfl,⟨rfl,ok⟩⟩
 obtain ⟨q,hq,hpe⟩:=bsE_some hpq1;have hk1:pq1.1=q.1:=by rw [←hpe]
 rw [bsE_erase] at ok;refine .z .ex<|.nil ?_;refine .seq<|.ct<|.skip<|.block fun K1 hK1=>.seq<|.r<|.z (.ent (ok.m0).2)<|.z .ex<|.z .asI<|.nil ?_;refine .seq<|.r<|.z .mvI<|.z .mvI<|.z .gtr<|.nil ?_;refine .cd (fun C1=>?_) (fun C1=>?_)
 ·
  refine .r<|.z .mvP<|.z .nil<|.z (.fa T.fd120_1)<|.z (.ldx T.ag118 ok.m1)<|.z .mvI<|.a0' (.delC (KV.int .i64) T.mp118 (inB_iff T.in3) ok) ?_;rintro _ η5 ⟨rfl,ok⟩;rw [hk1,bsE_del] at ok;refine .nil ?_;refine .end<|hK1 _ _<|.end<|hJ0 _ _ _ ⟨mdel L q.1,td.eraseIdx ipq1,⟨rfl,rfl,rfl,trivial⟩,ok.n1.n1,by rw [filt_del (by omega)];exact hLf,fun p hp=>(hLt p (List.mem_filter.1 hp).1).imp id fun h=>erase_memR h hq (fun e=>by have:=(List.mem_filter.1 hp).2;rw [e] at this;simp at this),rfl⟩ (by rw [List.length_eraseIdx_of_lt (List.getElem?_eq_some_iff.1 hq).1];have:=(List.getElem?_eq_some_iff.1 hq).1;omega)
 have ok:=(ok).itc;refine .skip<|.end<|hK1 _ _<|.end<|hJ0 _ _ _ ⟨L,td.eraseIdx ipq1,⟨rfl,rfl,rfl,trivial⟩,ok.n1.n1,hLf,fun p hp=>(hLt p hp).elim .inl fun h=>(Classical.em (p=q)).elim (fun e=>.inl (by rw [e];omega)) fun e=>.inr (erase_memR h hq e),rfl⟩ (by rw [List.length_eraseIdx_of_lt (List.getElem?_eq_some_iff.1 hq).1];have:=(List.getElem?_eq_some_iff.1 hq).1;omega)
def i64N (z:Int):Prop:=-9223372036854775808≤z∧z≤9223372036854775807
structure HdIn (H:Hd):Prop where
 a:i64N H.size
 b:i64N H.pages
 c:i64N H.free
 d:i64N H.many
 e:i64N H.cookie
 f:i64N H.version
theorem encB_any {h:Heap} {z0 z1 z2 z3 z4 z5:Int} (h0:i64N z0) (h1:i64N z1) (h2:i64N z2) (h3:i64N z3) (h4:i64N z4) (h5:i64N z5) (hc:¬ChkP ⟨z0,z1,z2,z3,z4,z5⟩):HC Tryz.prog 98 #[.agg #[.int .i64 z0,.int .i64 z1,.int .i64 z2,.int .i64 z3,.int .i64 z4,.int .i64 z5]] h (fun v h'=>v=.tuple #[.slice none 0 0,.int .i64 1]∧Ext h h'):=by
 have ok:=Hp.nil h none_;refine HC.go Tryz.func98 12 ?_;refine .seq<|.r<|.a' 1 (.bxA (cs:=[.int .i64 z0,.int .i64 z1,.int .i64 z2,.int .i64 z3,.int .i64 z4,.int .i64 z5]) ok) ?_;rintro _ η1 ⟨pb1,rfl,ok,xe⟩;refine .z .asS<|.z .asI<|.nil ?_;refine .seq<|.seq<|.r<|.z (.ldb T.ag38 ok.m0 T.sz38)<|.c' 6 .func (check_any (z0:=z0) (z1:=z1) (z2:=z2) (z3:=z3) (z4:=z4) (z5:=z5) h0 h1 h2 h3 h4 h5) ?_;rintro _ η2 ⟨rfl,hx⟩;have ok:=ok.ext hx;refine .z .asI<|.nil ?_;refine .seq<|.r<|.z .mvI<|.z .neq<|.nil ?_;refine .cd (fun C0=>?_) (fun C0=>?_)
 ·
  refine .seq<|.r<|.z .mvI<|.z .asS<|.z .asI<|.nil ?_;refine .ret ⟨.tuple #[.slice none 0 0,.int .i64 (chkC ⟨z0,z1,z2,z3,z4,z5⟩:Int)],Res.two rfl rfl rfl,⟨by rw [chk_n hc];rfl,ok.chg⟩⟩
 exact absurd (by rw [chk_n hc];decide) C0
theorem encG_any {h:Heap} {n0 n1 n2 n3 n4 n5:Nat} (h0:n0<4294967296) (h1:n1<4294967296) (h2:n2<4294967296) (h3:n3<4294967296) (h4:n4<4294967296) (h5:n5<4294967296) (hc:ChkP ⟨((n0:Nat):Int),((n1:Nat):Int),((n2:Nat):Int),((n3:Nat):Int),((n4:Nat):Int),((n5:Nat):Int)⟩):HC Tryz.prog 98 #[.agg #[.int .i64 (n0:Int),.int .i64 (n1:Int),.int .i64 (n2:Int),.int .i64 (n3:Int),.int .i64 (n4:Int),.int .i64 (n5:Int)]] h (fun v h'=>∃w,v=.tuple #[w,.int .i64 0]∧Own h h' 1 5 w ((hdB [n0,n1,n2,n3,n4,n5]).map bv)):=by
 have ok:=Hp.nil h none_;refine HC.go Tryz.func98 12 ?_;refine .seq<|.r<|.a' 1 (.bxA (cs:=[.int .i64 (n0:Int),.int .i64 (n1:Int),.int .i64 (n2:Int),.int .i64 (n3:Int),.int .i64 (n4:Int),.int .i64 (n5:Int)]) ok) ?_;rintro _ η1 ⟨pb1,rfl,ok,xe⟩;refine .z .asS<|.z .asI<|.nil ?_;refine .seq<|.seq<|.r<|.z (.ldb T.ag38 ok.m0 T.sz38)<|.c' 6 .func (check_any (z0:=(n0:Int)) (z1:=(n1:Int)) (z2:=(n2:Int)) (z3:=(n3:Int)) (z4:=(n4:Int)) (z5:=(n5:Int)) (by omega) (by omega) (by omega) (by omega) (by omega) (by omega)) ?_;rintro _ η2 ⟨rfl,hx⟩;have ok:=ok.ext hx;refine .z .asI<|.nil ?_;refine .seq<|.r<|.z .mvI<|.z .neq<|.nil ?_;refine .cd (fun C0=>?_) (fun C0=>?_)
 ·
  exact absurd (by rw [chk_y hc];rfl) C0
 refine .skip<|.seq<|.r<|.z (.ldb T.ag38 ok.m0 T.sz38)<|.c' 11 .func (hbytes_any (n0:=n0) (n1:=n1) (n2:=n2) (n3:=n3) (n4:=n4) (n5:=n5) (by omega) (by omega) (by omega) (by omega) (by omega) (by omega)) ?_;rintro _ η3 own;obtain ⟨ya1,yc1,rfl⟩:=own.formB;have ok:=ok.own own;refine .z .asS<|.z .asI<|.nil ?_;refine .ret ⟨.tuple #[.slice ya1 ((hdB [n0,n1,n2,n3,n4,n5]).length) yc1,.int .i64 0],Res.two rfl rfl rfl,⟨_,rfl,(ok).toOwn⟩⟩
theorem encN_any {h:Heap} {H:Hd} (hr:HdIn H):HC Tryz.prog 98 #[H.val] h (fun v h'=>(¬ChkP H∧v=.tuple #[.slice none 0 0,.int .i64 1]∧Ext h h')∨(ChkP H∧∃w,v=.tuple #[w,.int .i64 0]∧Own h h' 1 5 w (H.enc.map bv))):=by
 by_cases hc:ChkP H
 ·have h0:=okZ_cases hc.1;have h1:=hc.2.1;have h2:=hc.2.2.1;have h3:=hc.2.2.2;obtain ⟨a,b,c,d,e,f⟩:=H;simp only at h0 h1 h2 h3;obtain ⟨a,rfl⟩:∃n:Nat,a=(n:Int):=⟨a.toNat,by omega⟩;obtain ⟨b,rfl⟩:∃n:Nat,b=(n:Int):=⟨b.toNat,by omega⟩;have hcb:0≤c∧c<4294967296:=by
   by_cases h:d=0
   ·have:=h2.2.2.1 h;omega
   ·have:=h2.2.2.2 (by omega);omega
  obtain ⟨c,rfl⟩:∃n:Nat,c=(n:Int):=⟨c.toNat,by omega⟩;obtain ⟨d,rfl⟩:∃n:Nat,d=(n:Int):=⟨d.toNat,by omega⟩;obtain ⟨e,rfl⟩:∃n:Nat,e=(n:Int):=⟨e.toNat,by omega⟩;obtain ⟨f,rfl⟩:∃n:Nat,f=(n:Int):=⟨f.toNat,by omega⟩;have hdb:d<4294967296:=by have:=h1.2.1;have:=h2.2.1;omega
  have heb:e<4294967296:=by have:=h3.1.2;omega
  have hfb:f<4294967296:=by have:=h3.2.2;omega
  exact (encG_any (n0:=a) (n1:=b) (n2:=c) (n3:=d) (n4:=e) (n5:=f) (by omega) (by omega) (by omega) hdb heb hfb hc).mono fun v h' q=>.inr ⟨hc,q⟩
 ·exact (encB_any hr.a hr.b hr.c hr.d hr.e hr.f hc).mono fun v h' q=>.inl ⟨hc,q⟩
section
variable {G:Pgr} {r:RS G.α} {w:St} (V:SVw G r w)
include V
theorem SVw.pgs:(if r.in_=true then r.many else (G.sure r.a).length)=w.pgs.length:=by
 unfold St.pgs;rw [V.in_];split
 ·rename_i h;exact (V.now h).2.len.symm
 ·rw [V.sure]
theorem SVw.pgk:PgsK w.z w.pgs:=by
 unfold St.pgs;split
 ·exact V.ok.now
 ·exact V.ok.sure
theorem SVw.zc:w.z=256∨w.z=512∨w.z=1024∨w.z=2048∨w.z=4096:=okSz_c V.ok.z
theorem SVw.few:w.pgs.length≤65536:=by
 have h1:=V.pgk.many;have h2:=V.zc;have h3:w.pgs.length*256≤w.pgs.length*w.z:=Nat.mul_le_mul_left _ (by omega);omega
theorem SVw.nowfew:w.now.length≤65536:=by
 have h1:=V.ok.now.many;have h2:=V.zc;have h3:w.now.length*256≤w.now.length*w.z:=Nat.mul_le_mul_left _ (by omega);omega
theorem SVw.many (h:w.in_=true):r.many=w.now.length:=(V.now h).2.len.symm
theorem SVw.page {no:Int} (h1:1≤no) (h2:no≤(w.pgs.length:Int)):(w.pgs.getD (no-1).toNat []).length=w.z∧(r.in_=true→∃mb,r.om=some mb)∧(r.in_=true→∀x,mget r.ov no=some x→x.l=w.pgs.getD (no-1).toNat [])∧(r.in_=false∨mget r.ov no=none→(G.sure r.a)[(no-1).toNat]? = some (w.pgs.getD (no-1).toNat [])):=by
 have hi:(no-1).toNat<w.pgs.length:=by omega
 have hk:(((no-1).toNat:Nat):Int)+1=no:=by omega
 have hg:w.pgs[(no-1).toNat]? = some (w.pgs.getD (no-1).toNat []):=by rw [List.getD_eq_getElem?_getD,List.getElem?_eq_getElem hi];rfl
 have hin:=V.in_;refine ⟨V.pgk.len _ (List.mem_of_getElem? hg),fun h=>(V.now (by rw [←hin];exact h)).1,fun h x hx=>?_,fun h=>?_⟩
 ·have hw:w.in_=true:=by rw [←hin];exact h
  have hn:=(V.now hw).2;have hp:w.pgs=w.now:=by unfold St.pgs;rw [if_pos hw]
  rw [hp] at hg hi⊢;have:=hn.sm (no-1).toNat x (by rw [←hn.len];exact hi) (by rw [hk];exact hx);rw [hg] at this;injection this with this;exact this.symm
 ·rw [V.sure];cases hw:w.in_ with
  | false=>
   have hp:w.pgs=w.sure:=by unfold St.pgs;rw [if_neg (by rw [hw];decide)]
   rw [hp] at hg⊢;exact hg
  | true=>
   have hn:=(V.now hw).2;have hp:w.pgs=w.now:=by unfold St.pgs;rw [if_pos hw]
   rw [hp] at hg hi⊢;have:=hn.nn (no-1).toNat (by rw [←hn.len];exact hi) (by rw [hk];exact h.elim (fun h=>by rw [hin,hw] at h;cases h) id);rw [←this.2];exact hg
theorem SVw.pg {F:Nat→Prop} {a:G.α} (h:G.sure a=G.sure r.a):SVw G { r with pF:=F,a:=a } w:=⟨V.z,V.in_,h.trans V.sure,V.now,V.out,V.sv,V.ok⟩
theorem SVw.begin (hi:w.in_=false) {m:Nat} : SVw G { r with in_:=true,many:=(G.sure r.a).length,om:=some m,ov:=[] } { w with in_:=true,now:=w.sure,saves:=[] }:=by
 have ho:=V.out hi;refine ⟨V.z,rfl,V.sure,fun _=>⟨⟨m,rfl⟩,by rw [V.sure];exact VW.begin⟩,fun h=>(by cases h),?_,⟨V.ok.z,V.ok.sure,V.ok.sure,by simp,by simp,fun h=>by cases h⟩⟩;show All2 _ r.sv [];rw [ho.2.2.2];exact All2.nil
theorem SVw.put (hi:w.in_=true) {no:Nat} {x:RB} {now':List (List UInt8)} {many':Nat} {ov':List (Int × RB)} (hv:VW RB.l ov' many' w.sure now') (hk:PgsK w.z now'):SVw G { r with many:=many',ov:=ov' } { w with now:=now' }:=
 ⟨V.z,V.in_,V.sure,fun h=>⟨(V.now h).1,hv⟩,fun h=>(by rw [hi] at h;cases h),V.sv,⟨V.ok.z,V.ok.sure,hk,V.ok.saves,V.ok.few,fun h=>by rw [hi] at h;cases h⟩⟩
theorem SVw.write (hi:w.in_=true) {no:Nat} {x:RB} (h2:2≤no) (h3:no≤w.now.length+1) (h4:w.now≠[]) (h5:x.l.length=w.z) (h6:no*w.z≤16777216):SVw G { r with many:=max r.many no,ov:=mput r.ov (no:Int) x } { w with now:=wth w.now no x.l }:=by
 have hn:=(V.now hi).2;exact V.put hi (no:=no) (x:=x) (hn.put (by omega) (by rw [←hn.len];exact h3)) (V.ok.now.wth h5 (by omega) h3 h6 (fun h=>h.elim (fun h=>by omega) fun h=>absurd h h4))
theorem SVw.setHead (hi:w.in_=true) {H:Hd} {x:RB} {n:Nat} (hc:ChkP H) (hz:H.size=(w.z:Int)) (hn:H.pages=(n:Int)) (hp:n≤max 1 w.now.length) (hx:x.l=pg1 w.z H):SVw G { r with many:=n,ov:=(mput r.ov 1 x).filter fun p=>decide (p.1≤(n:Int)) } { w with now:=(Go.Proofs.YtndlpekckpdncaaGreat.wth w.now 1 (pg1 w.z H)).take n }:=by
 have hv:=(V.now hi).2;have h1:=hv.put (no:=1) (x:=x) (Nat.le_refl _) (by omega);have h2:=h1.cut (n:=n) (by rw [←hv.len,Nat.max_comm];exact hp);rw [hx] at h2;have hz2:=V.zc;exact V.put hi (no:=1) (x:=x) h2 ((V.ok.now.wth (pg1_len V.ok.z) (Nat.le_refl _) (by omega) (by omega) (fun _=>hok_pg1 hc hz)).take n)
end
theorem _root_.Go.HL.Hp.putNew {h0 h:Heap} {D F:Nat→Prop} {M R:List Itm} {a:Itm} (ok:Hp h0 D (a::M) R h) (hf:∀j,D j→F j):∀j,a.F j→F j∨h0.size≤j:=fun j hj=>((ok.m a List.mem_cons_self).2 j hj).2.imp (hf j) id
theorem Svs.mono {h:Heap} {E E':Nat→Prop} {sv:List RSv} (hE:∀j,E j→E' j) (b:Svs h E sv):Svs h E' sv:=fun x hx=>⟨(b x hx).1,hE _ (b x hx).2.1,(b x hx).2.2.mono hE⟩
theorem Pbs.filt {h:Heap} {E:Nat→Prop} {bs:List (Int × RB)} {f:Int × RB→Bool} (b:Pbs h E bs):Pbs h E (bs.filter f):=fun x hx=>b x (List.mem_filter.1 hx).1
section
variable {w:St}
theorem St.read_no {no:Int} (h:no<1∨(w.pgs.length:Int)<no):w.read no=([],1):=if_pos h
theorem St.read_ok {no:Int} (h1:1≤no) (h2:no≤(w.pgs.length:Int)):w.read no=(w.pgs.getD (no-1).toNat [],0):=if_neg (by omega)
theorem St.head_0 (h:w.pgs.length=0):w.head=hd0:=if_pos (List.eq_nil_of_length_eq_zero h)
theorem St.head_n (h:w.pgs.length≠0):w.head = { (decN (w.pgs.getD 0 [])).1 with size:=(w.z:Int),pages:=(w.pgs.length:Int) }:=by
 unfold St.head;rw [if_neg (fun e=>h (by rw [e];rfl))];rw [headD_get,List.getD_eq_getElem?_getD]
theorem St.begin_10 (h:w.in_=true):w.begin_=(w,10):=if_pos h
theorem St.begin_0 (h:w.in_=false):w.begin_=({ w with in_:=true,now:=w.sure,saves:=[] },0):=by unfold St.begin_;rw [if_neg (by rw [h];decide)]
theorem St.write_10 {no:Int} {b:List UInt8} (h:w.in_=false):w.write no b=(w,10):=if_pos h
theorem St.write_1 {no:Int} {b:List UInt8} (h:w.in_=true) (h2:no<2∨(w.now.length:Int)+1<no∨w.now=[]∨b.length≠w.z):w.write no b=(w,1):=by unfold St.write;rw [if_neg (by rw [h];decide),if_pos h2]
theorem St.write_5 {no:Int} {b:List UInt8} (h:w.in_=true) (h2:¬(no<2∨(w.now.length:Int)+1<no∨w.now=[]∨b.length≠w.z)) (h3:1048576<no∨16777216<no*(w.z:Int)):w.write no b=(w,5):=by unfold St.write;rw [if_neg (by rw [h];decide),if_neg h2,if_pos h3]
theorem St.write_0 {no:Nat} {b:List UInt8} (h:w.in_=true) (h2:¬((no:Int)<2∨(w.now.length:Int)+1<(no:Int)∨w.now=[]∨b.length≠w.z)) (h3:¬(1048576<(no:Int)∨16777216<(no:Int)*(w.z:Int))):w.write (no:Int) b=({ w with now:=wth w.now no b },0):=by unfold St.write;rw [if_neg (by rw [h];decide),if_neg h2,if_neg h3];rfl
theorem St.setHead_10 {H:Hd} (h:w.in_=false):w.setHead H=(w,10):=if_pos h
theorem St.setHead_1 {H:Hd} (h:w.in_=true) (h2:¬ChkP H∨H.size≠(w.z:Int)∨max 1 (w.now.length:Int)<H.pages):w.setHead H=(w,1):=by unfold St.setHead;rw [if_neg (by rw [h];decide),if_pos h2]
theorem St.setHead_0 {H:Hd} {n:Nat} (h:w.in_=true) (h2:¬(¬ChkP H∨H.size≠(w.z:Int)∨max 1 (w.now.length:Int)<H.pages)) (hn:H.pages=(n:Int)):w.setHead H=({ w with now:=(wth w.now 1 (pg1 w.z H)).take n },0):=by unfold St.setHead;rw [if_neg (by rw [h];decide),if_neg h2,hn];rfl
end
open Go Go.HL
theorem sSize_any {G:Pgr} {h:Heap} {so:Nat} {F:Nat→Prop} {w:St} (hd:(dsI G so F w).p h) :
  HC Tryz.prog 28 #[.pointer (some ⟨so,0,none⟩)] h (fun v h'=>v=.int .i64 (w.z:Int)∧h'=h):=by
 obtain ⟨r,V,hb,hp⟩:=ds_box hd;refine HC.go Tryz.func28 9 ?_;refine .seq<|.r<|.z .asI<|.nil ?_;refine .seq<|.seq<|.r<|.z .mvP<|.z (.pEqS T.pt27)<|.nil ?_;refine .cf<|.skip<|.seq<|.r<|.z .mvP<|.z .nil<|.z (.fa T.fd123_2)<|.z (.ldx T.ag3 hb)<|.z .asI<|.nil ?_;refine .ret ⟨.int .i64 (r.z:Int),Res.one rfl rfl,⟨by rw [V.z],rfl⟩⟩
theorem sIn_any {G:Pgr} {h:Heap} {so:Nat} {F:Nat→Prop} {w:St} (hd:(dsI G so F w).p h) :
  HC Tryz.prog 41 #[.pointer (some ⟨so,0,none⟩)] h (fun v h'=>v=.bool w.in_∧h'=h):=by
 obtain ⟨r,V,hb,hp⟩:=ds_box hd;refine HC.go Tryz.func41 12 ?_;refine .seq<|.r<|.z .asB<|.nil ?_;refine .seq<|.r<|.z .mvP<|.k 4 .func (susable_any (G:=G) (r:=r) hb)<|.z .eql<|.z .mvB<|.z .mvP<|.z .nil<|.z (.fa T.fd123_3)<|.z (.ldx T.ag4 hb)<|.z .pkt<|.z .asB<|.nil ?_;refine .ret ⟨.bool r.in_,Res.one rfl rfl,⟨by rw [V.in_],rfl⟩⟩
theorem sRead_any {G:Pgr} {h:Heap} {so:Nat} {F:Nat→Prop} {w:St} {no:Int} (ok:Hp h F [dsI G so F w] [] h) :
  HC Tryz.prog 22 #[.pointer (some ⟨so,0,none⟩),.int .i64 no] h (fun v h'=>∃F' x c,v=.tuple #[.slice x (w.read no).1.length c,.int .i64 ((w.read no).2:Int)]∧Hp h F [capI 1 5 (x,(w.read no).1.length,c) ((w.read no).1.map bv),dsI G so F' w] [] h'):=by
 obtain ⟨r,E,V,ok,hf,he⟩:=ds_open ok;have hzc:=V.zc;have hfew:=V.few;have hnf:=V.nowfew;obtain ⟨p,lg,z,in_,many,om,ov,sa,sc,svl,pF,ga⟩:=r;dsimp only at ok hf;generalize stF G so _=DF at ok hf;obtain rfl:z=w.z:=V.z;obtain rfl:in_=w.in_:=V.in_;have hpgs:(if w.in_=true then many else (G.sure ga).length)=w.pgs.length:=V.pgs;have ok:Hp h DF [boxI so 123 [.iface G.tid (.pointer (some ⟨p,0,none⟩)),.pointer lg,.int .i64 (w.z:Int),.bool w.in_,.int .i64 (many:Int),.map om,.slice sa svl.length sc,.bool false],nowI om ov,capI 2 120 (sa,svl.length,sc) (svl.flatMap RSv.cells),G.it p pF ga] [pbsI E ov,svsI E svl] h:=ok;have hsz0:=ok.chg.size;refine HC.go Tryz.func22 25 ?_;refine .seq<|.r<|.z .asS<|.z .asI<|.nil ?_;refine .seq<|.seq<|.r<|.z .mvP<|.k 8 .func (susable_any (G:=G) (r:=(⟨p,lg,w.z,w.in_,many,om,ov,sa,sc,svl,pF,ga⟩:RS G.α)) ok.m0)<|.z .asI<|.nil ?_;refine .seq<|.r<|.z .mvI<|.z .neq<|.nil ?_;refine .cf<|.skip<|.seq<|.seq<|.r<|.z .mvI<|.z .lss<|.z .mvB<|.sd (fun G14=>?_) (fun G14=>?_)
 ·
  refine .y<|.y<|.y<|.y<|.z .pkt<|.nil ?_;refine .ct<|.seq<|.r<|.z .asS<|.z .asI<|.nil ?_;have ok:=ok.nilC (k:=1) (e:=5);refine .ret ⟨.tuple #[.slice none 0 0,.int .i64 1],Res.two rfl rfl rfl,⟨_,_,_,by rw [St.read_no (by omega)];rfl,by rw [St.read_no (by omega)];exact Hp.n1 (ds_close (r':=(⟨p,lg,w.z,w.in_,many,om,ov,sa,sc,svl,pF,ga⟩:RS G.α)) (E':=E) (ok.n4.n4.n4.n4.f1.f1) hf (fun j hj=>.inl (he j hj)) V)⟩⟩
 refine .z .mvI<|.z .mvP<|.k 17 .func (spages_any (G:=G) (r:=(⟨p,lg,w.z,w.in_,many,om,ov,sa,sc,svl,pF,ga⟩:RS G.α)) (i:=w.in_) (m:=many) (k:=(G.sure ga).length) ok.m0 ok.m3 rfl rfl rfl)<|.z .gtr<|.z .pkf<|.nil ?_;refine .cd (fun C1=>?_) (fun C1=>?_)
 ·
  refine .seq<|.r<|.z .asS<|.z .asI<|.nil ?_;have ok:=ok.nilC (k:=1) (e:=5);refine .ret ⟨.tuple #[.slice none 0 0,.int .i64 1],Res.two rfl rfl rfl,⟨_,_,_,by rw [St.read_no (by omega)];rfl,by rw [St.read_no (by omega)];exact Hp.n1 (ds_close (r':=(⟨p,lg,w.z,w.in_,many,om,ov,sa,sc,svl,pF,ga⟩:RS G.α)) (E':=E) (ok.n4.n4.n4.n4.f1.f1) hf (fun j hj=>.inl (he j hj)) V)⟩⟩
 obtain ⟨hbl,hb,h1,h2⟩:=V.page (no:=no) (by omega) (by omega);refine .skip<|.seq<|.r<|.z .mvP<|.z .mvI<|.c' 22 .func (sread_any (G:=G) (r:=(⟨p,lg,w.z,w.in_,many,om,ov,sa,sc,svl,pF,ga⟩:RS G.α)) (E:=E) (no:=no) (b:=(w.pgs.getD (no-1).toNat [])) ((Hp.locL [G.it p pF ga,boxI so 123 [.iface G.tid (.pointer (some ⟨p,0,none⟩)),.pointer lg,.int .i64 (w.z:Int),.bool w.in_,.int .i64 (many:Int),.map om,.slice sa svl.length sc,.bool false],nowI om ov] (ok.n1.n1.n3)).e1) (by omega) (by omega) hb h1 h2) ?_;rintro _ η1 ⟨Fs1,as1,xs1,cs1,rfl,hss1,q⟩;have ok:=Hp.liftL [G.it p pF ga,boxI so 123 [.iface G.tid (.pointer (some ⟨p,0,none⟩)),.pointer lg,.int .i64 (w.z:Int),.bool w.in_,.int .i64 (many:Int),.map om,.slice sa svl.length sc,.bool false],nowI om ov] (ok.n1.n1.n3) q;refine .z .ex<|.z .ex<|.z .asS<|.z .asI<|.nil ?_;refine .ret ⟨.tuple #[.slice xs1 ((w.pgs.getD (no-1).toNat []).length) cs1,.int .i64 0],Res.two rfl rfl rfl,⟨_,_,_,by rw [St.read_ok (by omega) (by omega)];rfl,by rw [St.read_ok (by omega) (by omega)];exact Hp.n1 (ds_close (r':=(⟨p,lg,w.z,w.in_,many,om,ov,sa,sc,svl,Fs1,as1⟩:RS G.α)) (E':=E) (ok.n1.n4.n4.n4.f1.f1) hf (fun j hj=>.inl (he j hj)) (V.pg hss1))⟩⟩
theorem sHead_any {G:Pgr} {h:Heap} {so:Nat} {F:Nat→Prop} {w:St} (ok:Hp h F [dsI G so F w] [] h) :
  HC Tryz.prog 18 #[.pointer (some ⟨so,0,none⟩)] h (fun v h'=>∃F',v=w.head.val∧Hp h F [dsI G so F' w] [] h'):=by
 obtain ⟨r,E,V,ok,hf,he⟩:=ds_open ok;have hzc:=V.zc;have hfew:=V.few;have hnf:=V.nowfew;obtain ⟨p,lg,z,in_,many,om,ov,sa,sc,svl,pF,ga⟩:=r;dsimp only at ok hf;generalize stF G so _=DF at ok hf;obtain rfl:z=w.z:=V.z;obtain rfl:in_=w.in_:=V.in_;have hpgs:(if w.in_=true then many else (G.sure ga).length)=w.pgs.length:=V.pgs;have ok:Hp h DF [boxI so 123 [.iface G.tid (.pointer (some ⟨p,0,none⟩)),.pointer lg,.int .i64 (w.z:Int),.bool w.in_,.int .i64 (many:Int),.map om,.slice sa svl.length sc,.bool false],nowI om ov,capI 2 120 (sa,svl.length,sc) (svl.flatMap RSv.cells),G.it p pF ga] [pbsI E ov,svsI E svl] h:=ok;have hsz0:=ok.chg.size;refine HC.go Tryz.func18 38 ?_;refine .seq<|.r<|.a' 2 (.alA T.zr38 ok) ?_;rintro _ η1 ⟨pb1,rfl,ok,xe⟩;refine .nil ?_;refine .seq<|.seq<|.r<|.z .mvP<|.k 8 .func (susable_any (G:=G) (r:=(⟨p,lg,w.z,w.in_,many,om,ov,sa,sc,svl,pF,ga⟩:RS G.α)) ok.m1)<|.z .neq<|.z .mvB<|.z .mvP<|.k 12 .func (spages_any (G:=G) (r:=(⟨p,lg,w.z,w.in_,many,om,ov,sa,sc,svl,pF,ga⟩:RS G.α)) (i:=w.in_) (m:=many) (k:=(G.sure ga).length) ok.m1 ok.m4 rfl rfl rfl)<|.z .eql<|.z .pkf<|.nil ?_;refine .cd (fun C0=>?_) (fun C0=>?_)
 ·
  refine .seq<|.r<|.z (.bd #[.int .i64 0,.int .i64 0,.int .i64 0,.int .i64 0,.int .i64 0,.int .i64 0] T.zr38 T.pl38 rfl)<|.ur' (.stW (vs:=[.int .i64 0,.int .i64 0,.int .i64 0,.int .i64 0,.int .i64 0,.int .i64 0]) T.sz38 ok (oneL rfl)) ?_;rintro η2 ⟨ok,cg⟩;refine .nil ?_;refine .ret ⟨.agg #[.int .i64 0,.int .i64 0,.int .i64 0,.int .i64 0,.int .i64 0,.int .i64 0],Res.many (vs:=[.agg #[.int .i64 0,.int .i64 0,.int .i64 0,.int .i64 0,.int .i64 0,.int .i64 0]]) rfl ⟨⟨_,rfl,load_ag T.ag38 ok.m0 T.sz38⟩,trivial⟩ rfl,⟨_,by rw [St.head_0 (by omega)];rfl,(ds_close (r':=(⟨p,lg,w.z,w.in_,many,om,ov,sa,sc,svl,pF,ga⟩:RS G.α)) (E':=E) (ok.n4.n4.n4.n4.f1.f1.k4) hf (fun j hj=>.inl (he j hj)) V)⟩⟩
 obtain ⟨hbl,hb,h1,h2⟩:=V.page (no:=1) (by omega) (by omega);refine .skip<|.seq<|.r<|.z .mvP<|.c' 18 .func (sread_any (G:=G) (r:=(⟨p,lg,w.z,w.in_,many,om,ov,sa,sc,svl,pF,ga⟩:RS G.α)) (E:=E) (no:=1) (b:=(w.pgs.getD 0 [])) ((Hp.locL [G.it p pF ga,boxI so 123 [.iface G.tid (.pointer (some ⟨p,0,none⟩)),.pointer lg,.int .i64 (w.z:Int),.bool w.in_,.int .i64 (many:Int),.map om,.slice sa svl.length sc,.bool false],nowI om ov] (ok.n2.n2.n4)).e1) (by omega) (show (w.pgs.getD 0 []).length≤1000000 from Nat.le_trans (Nat.le_of_eq hbl) (by omega)) hb h1 h2) ?_;rintro _ η3 ⟨Fs1,as1,xs1,cs1,rfl,hss1,q⟩;have ok:=Hp.liftL [G.it p pF ga,boxI so 123 [.iface G.tid (.pointer (some ⟨p,0,none⟩)),.pointer lg,.int .i64 (w.z:Int),.bool w.in_,.int .i64 (many:Int),.map om,.slice sa svl.length sc,.bool false],nowI om ov] (ok.n2.n2.n4) q;refine .z .mvU<|.z .ex<|.z .ex<|.z .asS<|.z .asI<|.nil ?_;refine .seq<|.seq<|.r<|.z .mvI<|.z .neq<|.nil ?_;refine .cf<|.skip<|.seq<|.r<|.z .mvS<|.c' 26 .func (dec_any (a:=xs1) (c:=cs1) (l:=(w.pgs.getD 0 [])) (RdL.ofCapB (v:=(xs1,(w.pgs.getD 0 []).length,cs1)) (l:=(w.pgs.getD 0 [])) ok.m0)) ?_;rintro _ η4 ⟨rfl,hx⟩;rw [show (decN (w.pgs.getD 0 [])).1.val=.agg #[.int .i64 (decN (w.pgs.getD 0 [])).1.size,.int .i64 (decN (w.pgs.getD 0 [])).1.pages,.int .i64 (decN (w.pgs.getD 0 [])).1.free,.int .i64 (decN (w.pgs.getD 0 [])).1.many,.int .i64 (decN (w.pgs.getD 0 [])).1.cookie,.int .i64 (decN (w.pgs.getD 0 [])).1.version] from rfl];have ok:=ok.ext hx;refine .z .mvU<|.z .ex<|.z .ex<|.a' 5 (.alA T.zr38 ok) ?_;rintro _ η5 ⟨pb2,rfl,ok,xe⟩;refine .ur' (.stW (vs:=[.int .i64 ((decN (w.pgs.getD 0 [])).1.size),.int .i64 ((decN (w.pgs.getD 0 [])).1.pages),.int .i64 ((decN (w.pgs.getD 0 [])).1.free),.int .i64 ((decN (w.pgs.getD 0 [])).1.many),.int .i64 ((decN (w.pgs.getD 0 [])).1.cookie),.int .i64 ((decN (w.pgs.getD 0 [])).1.version)]) T.sz38 ok (oneL rfl)) ?_;rintro η6 ⟨ok,cg⟩;refine .z .asI<|.nil ?_;refine .seq<|.a 7 (fun fl hh=>cond fl True (Hp h DF [boxI pb2 38 [.int .i64 ((decN (w.pgs.getD 0 [])).1.size),.int .i64 ((decN (w.pgs.getD 0 [])).1.pages),.int .i64 ((decN (w.pgs.getD 0 [])).1.free),.int .i64 ((decN (w.pgs.getD 0 [])).1.many),.int .i64 ((decN (w.pgs.getD 0 [])).1.cookie),.int .i64 ((decN (w.pgs.getD 0 [])).1.version)],capI 1 5 (xs1,(w.pgs.getD 0 []).length,cs1) ((w.pgs.getD 0 []).map bv),G.it p Fs1 as1,boxI so 123 [.iface G.tid (.pointer (some ⟨p,0,none⟩)),.pointer lg,.int .i64 (w.z:Int),.bool w.in_,.int .i64 (many:Int),.map om,.slice sa svl.length sc,.bool false],nowI om ov,boxI pb1 38 [.int .i64 0,.int .i64 0,.int .i64 0,.int .i64 0,.int .i64 0,.int .i64 0],capI 2 120 (sa,svl.length,sc) (svl.flatMap RSv.cells)] [pbsI E ov,svsI E svl] hh)) mixed ?_;have hS:=ok;refine .g 0 false rfl 29 hS (fun _=>.mvP)<|.g 1 false rfl 30 hS (fun _=>.nil)<|.g 2 false rfl 31 hS (fun _=>.fa T.fd123_2)<|.l 3 false rfl 32 hS (fun _ hS=>.ldx T.ag3 hS.m3)<|.g 4 false rfl 33 hS (fun _=>.mvP)<|.g 6 false rfl 35 hS (fun _=>.fa T.fd38_0)<|.o1 5<|.k false rfl 34 .func (spages_any (G:=G) (r:=(⟨p,lg,w.z,w.in_,many,om,ov,sa,sc,svl,Fs1,as1⟩:RS G.α)) (i:=w.in_) (m:=many) (k:=(G.sure as1).length) ok.m3 ok.m2 rfl rfl rfl) hS<|.o1 7<|.ur' true rfl (.stI T.sz3 ok) ?_;rintro η7 ⟨ok,cg⟩;refine ⟨trivial,?_⟩;refine .g 8 true rfl 36 trivial (fun _=>.fa T.fd38_1)<|.o1 9<|.ur' true rfl (.stI T.sz3 ok) ?_;rintro η8 ⟨ok,cg⟩;refine ⟨trivial,?_⟩;refine .e ?_;refine .seq<|.r<|.z (.ldb T.ag38 ok.m0 T.sz38)<|.ur' (.stW (vs:=[.int .i64 (w.z:Int),.int .i64 (((if w.in_=true then many else (G.sure as1).length):Nat):Int),.int .i64 ((decN (w.pgs.getD 0 [])).1.free),.int .i64 ((decN (w.pgs.getD 0 [])).1.many),.int .i64 ((decN (w.pgs.getD 0 [])).1.cookie),.int .i64 ((decN (w.pgs.getD 0 [])).1.version)]) T.sz38 ok.n5 (oneL rfl)) ?_;rintro η9 ⟨ok,cg⟩;refine .nil ?_;refine .ret ⟨.agg #[.int .i64 (w.z:Int),.int .i64 (((if w.in_=true then many else (G.sure as1).length):Nat):Int),.int .i64 ((decN (w.pgs.getD 0 [])).1.free),.int .i64 ((decN (w.pgs.getD 0 [])).1.many),.int .i64 ((decN (w.pgs.getD 0 [])).1.cookie),.int .i64 ((decN (w.pgs.getD 0 [])).1.version)],Res.many (vs:=[.agg #[.int .i64 (w.z:Int),.int .i64 (((if w.in_=true then many else (G.sure as1).length):Nat):Int),.int .i64 ((decN (w.pgs.getD 0 [])).1.free),.int .i64 ((decN (w.pgs.getD 0 [])).1.many),.int .i64 ((decN (w.pgs.getD 0 [])).1.cookie),.int .i64 ((decN (w.pgs.getD 0 [])).1.version)]]) rfl ⟨⟨_,rfl,load_ag T.ag38 ok.m0 T.sz38⟩,trivial⟩ rfl,⟨_,by rw [St.head_n (by omega),hss1,hpgs];rfl,(ds_close (r':=(⟨p,lg,w.z,w.in_,many,om,ov,sa,sc,svl,Fs1,as1⟩:RS G.α)) (E':=E) (ok.n3.n6.n6.n6.f1.f1.k4) hf (fun j hj=>.inl (he j hj)) (V.pg hss1))⟩⟩
theorem sBegin_any {G:Pgr} {h:Heap} {so:Nat} {F:Nat→Prop} {w:St} (ok:Hp h F [dsI G so F w] [] h) :
  HC Tryz.prog 45 #[.pointer (some ⟨so,0,none⟩)] h (fun v h'=>∃F',v=.int .i64 ((w.begin_).2:Int)∧Hp h F [dsI G so F' (w.begin_).1] [] h'):=by
 obtain ⟨r,E,V,ok,hf,he⟩:=ds_open ok;have hzc:=V.zc;have hfew:=V.few;have hnf:=V.nowfew;obtain ⟨p,lg,z,in_,many,om,ov,sa,sc,svl,pF,ga⟩:=r;dsimp only at ok hf;generalize stF G so _=DF at ok hf;obtain rfl:z=w.z:=V.z;obtain rfl:in_=w.in_:=V.in_;have hpgs:(if w.in_=true then many else (G.sure ga).length)=w.pgs.length:=V.pgs;have ok:Hp h DF [boxI so 123 [.iface G.tid (.pointer (some ⟨p,0,none⟩)),.pointer lg,.int .i64 (w.z:Int),.bool w.in_,.int .i64 (many:Int),.map om,.slice sa svl.length sc,.bool false],nowI om ov,capI 2 120 (sa,svl.length,sc) (svl.flatMap RSv.cells),G.it p pF ga] [pbsI E ov,svsI E svl] h:=ok;have hsz0:=ok.chg.size;refine HC.go Tryz.func45 26 ?_;refine .seq<|.r<|.z .asI<|.nil ?_;refine .seq<|.seq<|.r<|.z .mvP<|.k 5 .func (susable_any (G:=G) (r:=(⟨p,lg,w.z,w.in_,many,om,ov,sa,sc,svl,pF,ga⟩:RS G.α)) ok.m0)<|.z .asI<|.nil ?_;refine .seq<|.r<|.z .mvI<|.z .neq<|.nil ?_;refine .cf<|.skip<|.seq<|.seq<|.r<|.z .mvP<|.z .nil<|.z (.fa T.fd123_3)<|.z (.ldx T.ag4 ok.m0)<|.nil ?_;refine .cond (fun C1=>?_) (fun C1=>?_)
 ·
  refine .seq<|.r<|.z .asI<|.nil ?_;refine .ret ⟨.int .i64 10,Res.one rfl rfl,⟨_,by rw [St.begin_10 C1];rfl,by rw [St.begin_10 C1];exact (ds_close (r':=(⟨p,lg,w.z,w.in_,many,om,ov,sa,sc,svl,pF,ga⟩:RS G.α)) (E':=E) (ok.f1.f1) hf (fun j hj=>.inl (he j hj)) V)⟩⟩
 refine .skip<|.seq<|.r<|.z .mvP<|.z .mvP<|.z .mvP<|.z .nil<|.z (.fa T.fd123_0)<|.z (.ldx T.ag116 ok.m0)<|.k 19 (.inv (G.mPages _)) (G.cPages (F:=pF) (a:=ga) ok.m3)<|.a' 20 (.mkm (Value.int .i64) ok) ?_;rintro _ η1 ⟨mb1,rfl,ok⟩;refine .z (.bd #[.int .i64 ((G.sure ga).length:Int),.map (some mb1)] T.zr120 T.pl120 rfl)<|.z .nil<|.z (.fa T.fd123_3)<|.ur' (.stB T.sz4 ok.n1) ?_;rintro η2 ⟨ok,cg⟩;refine .z .nil<|.z (.fa T.fd123_4)<|.ur' (.stA (vs:=[.int .i64 ((G.sure ga).length:Int),.map (some mb1)]) T.sz120 ok (oneL rfl)) ?_;rintro η3 ⟨ok,cg⟩;refine .nil ?_;refine .seq<|.r<|.z .asI<|.nil ?_;have ok:=Hp.pbsNil (ok);refine .ret ⟨.int .i64 0,Res.one rfl rfl,⟨_,by rw [St.begin_0 (by simpa using C1)];rfl,by rw [St.begin_0 (by simpa using C1)];exact (ds_close (r':=(⟨p,lg,w.z,true,(G.sure ga).length,(some mb1),[],sa,sc,svl,pF,ga⟩:RS G.α)) (E':=E) (ok.n4.n4.n3.n3.f1.f1.k4) hf (fun j hj=>.inl (he j hj)) (V.begin (by simpa using C1)))⟩⟩
theorem sSetHead_any {G:Pgr} {h:Heap} {so:Nat} {F:Nat→Prop} {w:St} {H:Hd} (ok:Hp h F [dsI G so F w] [] h) (hr:HdIn H) :
  HC Tryz.prog 46 #[.pointer (some ⟨so,0,none⟩),H.val] h (fun v h'=>∃F',v=.int .i64 ((w.setHead H).2:Int)∧Hp h F [dsI G so F' (w.setHead H).1] [] h'):=by
 obtain ⟨r,E,V,ok,hf,he⟩:=ds_open ok;have hzc:=V.zc;have hfew:=V.few;have hnf:=V.nowfew;obtain ⟨p,lg,z,in_,many,om,ov,sa,sc,svl,pF,ga⟩:=r;dsimp only at ok hf;generalize stF G so _=DF at ok hf;obtain rfl:z=w.z:=V.z;obtain rfl:in_=w.in_:=V.in_;have hpgs:(if w.in_=true then many else (G.sure ga).length)=w.pgs.length:=V.pgs;have ok:Hp h DF [boxI so 123 [.iface G.tid (.pointer (some ⟨p,0,none⟩)),.pointer lg,.int .i64 (w.z:Int),.bool w.in_,.int .i64 (many:Int),.map om,.slice sa svl.length sc,.bool false],nowI om ov,capI 2 120 (sa,svl.length,sc) (svl.flatMap RSv.cells),G.it p pF ga] [pbsI E ov,svsI E svl] h:=ok;have hsz0:=ok.chg.size;refine HC.go Tryz.func46 59 ?_;refine .seq<|.r<|.a' 3 (.bxA (cs:=[.int .i64 H.size,.int .i64 H.pages,.int .i64 H.free,.int .i64 H.many,.int .i64 H.cookie,.int .i64 H.version]) ok) ?_;rintro _ η1 ⟨pb1,rfl,ok,xe⟩;refine .z .asI<|.nil ?_;refine .seq<|.seq<|.r<|.z .mvP<|.k 9 .func (swithin_any (G:=G) (r:=(⟨p,lg,w.z,w.in_,many,om,ov,sa,sc,svl,pF,ga⟩:RS G.α)) (i:=w.in_) ok.m1 rfl)<|.z .asI<|.nil ?_;refine .seq<|.r<|.z .mvI<|.z .neq<|.nil ?_;refine .cd (fun C0=>?_) (fun C0=>?_)
 ·
  have hw:w.in_=false:=wthE_y C0;refine .seq<|.r<|.z .mvI<|.z .asI<|.nil ?_;refine .ret ⟨.int .i64 ((wthE w.in_):Int),Res.one rfl rfl,⟨_,by rw [St.setHead_10 hw,wthE_f (by rw [hw];decide)],by rw [St.setHead_10 hw];exact (ds_close (r':=(⟨p,lg,w.z,w.in_,many,om,ov,sa,sc,svl,pF,ga⟩:RS G.α)) (E':=E) (ok.n4.n4.n4.n4.f1.f1.k4) hf (fun j hj=>.inl (he j hj)) V)⟩⟩
 have hw:w.in_=true:=wthE_n C0;have hmany:many=w.now.length:=V.many hw;refine .skip<|.seq<|.r<|.z (.ldb T.ag38 ok.m0 T.sz38)<|.c' 15 .func (encN_any (H:=H) hr) ?_;rintro _ η2 (⟨hck,rfl,hx⟩ | ⟨hck,yw,rfl,own⟩)
 ·
  have ok:=ok.ext hx;refine .z .mvU<|.z .ex<|.z .ex<|.z .asS<|.z .asI<|.nil ?_;refine .seq<|.seq<|.q (hm:=mixed)<|.z .mvI<|.z .neq<|.z .mvB<|.y<|.y<|.y<|.y<|.y<|.y<|.y<|.z .pkt<|.z .mvB<|.y<|.y<|.y<|.y<|.y<|.y<|.y<|.y<|.y<|.z .pkt<|.nil ?_;refine .ct<|.seq<|.r<|.z .asI<|.nil ?_;refine .ret ⟨.int .i64 1,Res.one rfl rfl,⟨_,by rw [St.setHead_1 hw (by first | exact .inl hck | exact .inr (.inl (by omega)) | exact .inr (.inr (by omega)))];rfl,by rw [St.setHead_1 hw (by first | exact .inl hck | exact .inr (.inl (by omega)) | exact .inr (.inr (by omega)))];exact (ds_close (r':=(⟨p,lg,w.z,w.in_,many,om,ov,sa,sc,svl,pF,ga⟩:RS G.α)) (E':=E) (ok.n4.n4.n4.n4.f1.f1.k4) hf (fun j hj=>.inl (he j hj)) V)⟩⟩
 obtain ⟨ya1,yc1,rfl⟩:=own.formB;have ok:=ok.own own;refine .z .mvU<|.z .ex<|.z .ex<|.z .asS<|.z .asI<|.nil ?_;refine .seq<|.seq<|.q (hm:=mixed)<|.z .mvI<|.z .neq<|.z .mvB<|.z (.fa T.fd38_0)<|.z (.ldx T.ag3 ok.m1)<|.z .mvP<|.z .nil<|.z (.fa T.fd123_2)<|.z (.ldx T.ag3 ok.m2)<|.z .neq<|.z .pkf<|.z .mvB<|.sd (fun G29=>?_) (fun G29=>?_)
 ·
  refine .y<|.y<|.y<|.y<|.y<|.y<|.y<|.y<|.y<|.z .pkt<|.nil ?_;refine .ct<|.seq<|.r<|.z .asI<|.nil ?_;refine .ret ⟨.int .i64 1,Res.one rfl rfl,⟨_,by rw [St.setHead_1 hw (by first | exact .inl hck | exact .inr (.inl (by omega)) | exact .inr (.inr (by omega)))];rfl,by rw [St.setHead_1 hw (by first | exact .inl hck | exact .inr (.inl (by omega)) | exact .inr (.inr (by omega)))];exact (ds_close (r':=(⟨p,lg,w.z,w.in_,many,om,ov,sa,sc,svl,pF,ga⟩:RS G.α)) (E':=E) (ok.n5.n5.n5.n5.f1.f1.k4) hf (fun j hj=>.inl (he j hj)) V)⟩⟩
 refine .z (.fa T.fd38_1)<|.z (.ldx T.ag3 ok.m1)<|.z .mvP<|.z .nil<|.z (.fa T.fd123_4)<|.z (.fa T.fd120_0)<|.z (.ldx T.ag3 ok.m2)<|.z .max2<|.z .gtr<|.z .pkf<|.nil ?_;refine .cd (fun C1=>?_) (fun C1=>?_)
 ·
  refine .seq<|.r<|.z .asI<|.nil ?_;refine .ret ⟨.int .i64 1,Res.one rfl rfl,⟨_,by rw [St.setHead_1 hw (by first | exact .inl hck | exact .inr (.inl (by omega)) | exact .inr (.inr (by omega)))];rfl,by rw [St.setHead_1 hw (by first | exact .inl hck | exact .inr (.inl (by omega)) | exact .inr (.inr (by omega)))];exact (ds_close (r':=(⟨p,lg,w.z,w.in_,many,om,ov,sa,sc,svl,pF,ga⟩:RS G.α)) (E':=E) (ok.n5.n5.n5.n5.f1.f1.k4) hf (fun j hj=>.inl (he j hj)) V)⟩⟩
 obtain ⟨n,hn⟩:∃n:Nat,H.pages=(n:Int):=⟨H.pages.toNat,by have:=hck.2.1.1;omega⟩;rw [hn] at ok⊢;obtain ⟨mb,rfl⟩:=(V.now hw).1;have ok:=Hp.nowSome (ok.n3);refine .skip<|.seq<|.a 13 (fun fl hh=>cell hh so 2=some (.int .i64 (w.z:Int))) mixed ?_;have hS:=(at_box (o:=2) ok.m3 rfl:cell _ so 2=some (.int .i64 (w.z:Int)));refine .g 0 false rfl 40 hS (fun _=>.mvP)<|.g 1 false rfl 41 hS (fun _=>.nil)<|.g 2 false rfl 42 hS (fun _=>.fa T.fd123_4)<|.g 3 false rfl 43 hS (fun _=>.mvS)<|.g 4 false rfl 44 hS (fun _=>.mvP)<|.g 5 false rfl 45 hS (fun _=>.nil)<|.g 6 false rfl 46 hS (fun _=>.fa T.fd123_2)<|.lw 7 false rfl 47 hS (fun _ _ hS=>.ld T.ag3 hS)<|.g 8 false rfl 48 hS (fun _=>.mvS)<|.g 9 false rfl 49 hS (fun _=>.len T.el44)<|.g 10 false rfl 50 hS (fun _=>.sub (hr:=(by rw [enc_len];omega)))<|.o1 11<|.a' false rfl 51 (.apz (z:=((w.z:Int)-(((H.enc).length:Nat):Int))) (w.z-64) T.el44 T.in3 T.sz5 T.by5 T.zr5 ok.n1 (by rw [enc_len];omega) (by rw [enc_len];omega)) ?_;rintro _ η3 ⟨ya2,yc2,rfl,ok⟩;refine ⟨(at_box (o:=2) ok.m3 rfl:cell _ so 2=some (.int .i64 (w.z:Int))),?_⟩;have hS:=(at_box (o:=2) ok.m3 rfl:cell _ so 2=some (.int .i64 (w.z:Int)));refine .o1 12<|.c' false rfl 52 .func (sput_any (G:=G) (r:=(⟨p,lg,w.z,w.in_,many,(some mb),ov,sa,sc,svl,pF,ga⟩:RS G.α)) (mb:=mb) (a:=ya2) (c:=yc2) (l:=((H.enc)++List.replicate (w.z-64) 0)) (no:=1) (Hp.locL [boxI so 123 [.iface G.tid (.pointer (some ⟨p,0,none⟩)),.pointer lg,.int .i64 (w.z:Int),.bool w.in_,.int .i64 (many:Int),.map (some mb),.slice sa svl.length sc,.bool false],mapI (Value.int .i64) mb (bsE ov)] (ok.n1.n3)).e0 (by rfl)) ?_;rintro _ η4 ⟨rfl,q⟩;have ok:=Hp.liftL [boxI so 123 [.iface G.tid (.pointer (some ⟨p,0,none⟩)),.pointer lg,.int .i64 (w.z:Int),.bool w.in_,.int .i64 (many:Int),.map (some mb),.slice sa svl.length sc,.bool false],mapI (Value.int .i64) mb (bsE ov)] (ok.n1.n3) q;have hnb:=Hp.putNew (ok.n2) hf;have ok:=Hp.pbsPut (k:=(1:Int)) (ok.n2);have ok:=ok.d0 (svsI (fun j=>E j∨blkC (sv (ya2,((H.enc)++List.replicate (w.z-64) 0).length,yc2)) j) svl) (Svs.mono (E:=E) (E':=(fun j=>E j∨blkC (sv (ya2,((H.enc)++List.replicate (w.z-64) 0).length,yc2)) j)) (fun j h=>Or.inl h) ok.r1) (fun _ h=>h);refine ⟨(at_box (o:=2) ok.m0 rfl:cell _ so 2=some (.int .i64 (w.z:Int))),?_⟩;have hS:=(at_box (o:=2) ok.m0 rfl:cell _ so 2=some (.int .i64 (w.z:Int)));refine .e ?_;refine .seq<|.t 5 mixed ?_;simp only [List.take_succ_cons,List.take_zero,List.drop_succ_cons,List.drop_zero];refine .z .mvP<|.z .nil<|.z (.fa T.fd123_4)<|.z (.fa T.fd38_1)<|.z (.ldx T.ag3 ok.m2)<|.nil ?_;refine .c' 58 .func (scut_any (G:=G) (r:=(⟨p,lg,w.z,w.in_,(max many 1),(some mb),(mput ov (1:Int) ⟨ya2,yc2,((H.enc)++List.replicate (w.z-64) 0)⟩),sa,sc,svl,pF,ga⟩:RS G.α)) (mb:=mb) (n:=n) (Hp.locL [boxI so 123 [.iface G.tid (.pointer (some ⟨p,0,none⟩)),.pointer lg,.int .i64 (w.z:Int),.bool w.in_,.int .i64 ((max many 1:Nat):Int),.map (some mb),.slice sa svl.length sc,.bool false],mapI (Value.int .i64) mb (bsE (mput ov (1:Int) ⟨ya2,yc2,((H.enc)++List.replicate (w.z-64) 0)⟩))] (ok)).e0 (by rfl)) ?_;rintro _ η5 ⟨rfl,q⟩;have ok:=Hp.liftL [boxI so 123 [.iface G.tid (.pointer (some ⟨p,0,none⟩)),.pointer lg,.int .i64 (w.z:Int),.bool w.in_,.int .i64 ((max many 1:Nat):Int),.map (some mb),.slice sa svl.length sc,.bool false],mapI (Value.int .i64) mb (bsE (mput ov (1:Int) ⟨ya2,yc2,((H.enc)++List.replicate (w.z-64) 0)⟩))] (ok) q;have ok:=ok.d1 (pbsI (fun j=>E j∨blkC (sv (ya2,((H.enc)++List.replicate (w.z-64) 0).length,yc2)) j) (((mput ov (1:Int) ⟨ya2,yc2,((H.enc)++List.replicate (w.z-64) 0)⟩)).filter fun p=>decide (p.1≤(n:Int)))) (Pbs.filt ok.r1) (fun _ h=>h);refine .nil ?_;refine .seq<|.r<|.z .asI<|.nil ?_;have hno:¬(¬ChkP H∨H.size≠(w.z:Int)∨max 1 (w.now.length:Int)<H.pages):=by rintro (h | h | h);exact h hck;exact h (by omega);omega
 refine .ret ⟨.int .i64 0,Res.one rfl rfl,⟨_,by rw [St.setHead_0 hw hno hn];rfl,by rw [St.setHead_0 hw hno hn];exact (ds_close (r':=(⟨p,lg,w.z,w.in_,n,(some mb),(((mput ov (1:Int) ⟨ya2,yc2,((H.enc)++List.replicate (w.z-64) 0)⟩)).filter fun p=>decide (p.1≤(n:Int))),sa,sc,svl,pF,ga⟩:RS G.α)) (E':=(fun j=>E j∨blkC (sv (ya2,((H.enc)++List.replicate (w.z-64) 0).length,yc2)) j)) (ok.n4.n4.n3.n3.f1.f1.k4) hf (fun j hj=>hj.elim (fun hj=>.inl (he j hj)) (hnb j)) (V.setHead hw (x:=⟨ya2,yc2,((H.enc)++List.replicate (w.z-64) 0)⟩) hck (by omega) hn (by omega) rfl))⟩⟩
theorem sWrite_any {G:Pgr} {h:Heap} {so:Nat} {F:Nat→Prop} {w:St} {no:Int} {a:Option Addr} {c:Nat} {l:List UInt8} {F2 E2:Nat→Prop} (ok:Hp h F [dsI G so F w] [rdI F2 E2 (a,l.length,c) l] h) (hl:l.length≤1000000000) :
  HC Tryz.prog 29 #[.pointer (some ⟨so,0,none⟩),.int .i64 no,.slice a l.length c] h (fun v h'=>∃F',v=.int .i64 ((w.write no l).2:Int)∧Hp h F [dsI G so F' (w.write no l).1] [] h'):=by
 obtain ⟨r,E,V,ok,hf,he⟩:=ds_open ok;have hzc:=V.zc;have hfew:=V.few;have hnf:=V.nowfew;obtain ⟨p,lg,z,in_,many,om,ov,sa,sc,svl,pF,ga⟩:=r;dsimp only at ok hf;generalize stF G so _=DF at ok hf;obtain rfl:z=w.z:=V.z;obtain rfl:in_=w.in_:=V.in_;have hpgs:(if w.in_=true then many else (G.sure ga).length)=w.pgs.length:=V.pgs;have ok:Hp h DF [boxI so 123 [.iface G.tid (.pointer (some ⟨p,0,none⟩)),.pointer lg,.int .i64 (w.z:Int),.bool w.in_,.int .i64 (many:Int),.map om,.slice sa svl.length sc,.bool false],nowI om ov,capI 2 120 (sa,svl.length,sc) (svl.flatMap RSv.cells),G.it p pF ga] [pbsI E ov,svsI E svl,rdI F2 E2 (a,l.length,c) l] h:=ok;have hsz0:=ok.chg.size;have hlc:=ok.r2.c;have hlm:=ok.r2.m;simp only at hlc hlm;refine HC.go Tryz.func29 62 ?_;refine .seq<|.r<|.z .asI<|.nil ?_;refine .seq<|.seq<|.r<|.z .mvP<|.k 9 .func (swithin_any (G:=G) (r:=(⟨p,lg,w.z,w.in_,many,om,ov,sa,sc,svl,pF,ga⟩:RS G.α)) (i:=w.in_) ok.m0 rfl)<|.z .asI<|.nil ?_;refine .seq<|.r<|.z .mvI<|.z .neq<|.nil ?_;refine .cd (fun C0=>?_) (fun C0=>?_)
 ·
  have hw:w.in_=false:=wthE_y C0;refine .seq<|.r<|.z .mvI<|.z .asI<|.nil ?_;refine .ret ⟨.int .i64 ((wthE w.in_):Int),Res.one rfl rfl,⟨_,by rw [St.write_10 hw,wthE_f (by rw [hw];decide)],by rw [St.write_10 hw];exact (ds_close (r':=(⟨p,lg,w.z,w.in_,many,om,ov,sa,sc,svl,pF,ga⟩:RS G.α)) (E':=E) (ok.f1.f1) hf (fun j hj=>.inl (he j hj)) V)⟩⟩
 have hw:w.in_=true:=wthE_n C0;have hmany:many=w.now.length:=V.many hw;refine .skip<|.seq<|.block fun K0 hK0=>.seq<|.r<|.z .mvI<|.z .lss<|.z .mvB<|.sd (fun G16=>?_) (fun G16=>?_)
 ·
  refine .y<|.y<|.y<|.y<|.y<|.y<|.z .pkt<|.z .mvB<|.y<|.y<|.y<|.y<|.y<|.y<|.y<|.y<|.z .pkt<|.z .mvB<|.y<|.y<|.y<|.y<|.y<|.y<|.y<|.z .pkt<|.z .asB<|.nil ?_;refine .ct<|.seq<|.r<|.z .asI<|.nil ?_;have hbad:no<2∨(w.now.length:Int)+1<no∨w.now=[]∨l.length≠w.z:=by
   first
   | exact .inl (by omega)
   | exact .inr (.inl (by omega))
   | exact .inr (.inr (.inl (List.eq_nil_of_length_eq_zero (by omega))))
   | exact .inr (.inr (.inr (by omega)))
  refine .ret ⟨.int .i64 1,Res.one rfl rfl,⟨_,by rw [St.write_1 hw hbad];rfl,by rw [St.write_1 hw hbad];exact (ds_close (r':=(⟨p,lg,w.z,w.in_,many,om,ov,sa,sc,svl,pF,ga⟩:RS G.α)) (E':=E) (ok.f1.f1) hf (fun j hj=>.inl (he j hj)) V)⟩⟩
 refine .z .mvP<|.z .nil<|.z (.fa T.fd123_4)<|.z (.fa T.fd120_0)<|.z (.ldx T.ag3 ok.m0)<|.z .lss<|.z .pkf<|.z .mvB<|.sd (fun G24=>?_) (fun G24=>?_)
 ·
  refine .y<|.y<|.y<|.y<|.y<|.y<|.y<|.y<|.z .pkt<|.z .mvB<|.y<|.y<|.y<|.y<|.y<|.y<|.y<|.z .pkt<|.z .asB<|.nil ?_;refine .ct<|.seq<|.r<|.z .asI<|.nil ?_;have hbad:no<2∨(w.now.length:Int)+1<no∨w.now=[]∨l.length≠w.z:=by
   first
   | exact .inl (by omega)
   | exact .inr (.inl (by omega))
   | exact .inr (.inr (.inl (List.eq_nil_of_length_eq_zero (by omega))))
   | exact .inr (.inr (.inr (by omega)))
  refine .ret ⟨.int .i64 1,Res.one rfl rfl,⟨_,by rw [St.write_1 hw hbad];rfl,by rw [St.write_1 hw hbad];exact (ds_close (r':=(⟨p,lg,w.z,w.in_,many,om,ov,sa,sc,svl,pF,ga⟩:RS G.α)) (E':=E) (ok.f1.f1) hf (fun j hj=>.inl (he j hj)) V)⟩⟩
 refine .z .mvI<|.z .mvP<|.z .nil<|.z (.fa T.fd123_4)<|.z (.fa T.fd120_0)<|.z (.ldx T.ag3 ok.m0)<|.z (.addI (b:=1))<|.z .gtr<|.z .pkf<|.z .mvB<|.sd (fun G34=>?_) (fun G34=>?_)
 ·
  refine .y<|.y<|.y<|.y<|.y<|.y<|.y<|.z .pkt<|.z .asB<|.nil ?_;refine .ct<|.seq<|.r<|.z .asI<|.nil ?_;have hbad:no<2∨(w.now.length:Int)+1<no∨w.now=[]∨l.length≠w.z:=by
   first
   | exact .inl (by omega)
   | exact .inr (.inl (by omega))
   | exact .inr (.inr (.inl (List.eq_nil_of_length_eq_zero (by omega))))
   | exact .inr (.inr (.inr (by omega)))
  refine .ret ⟨.int .i64 1,Res.one rfl rfl,⟨_,by rw [St.write_1 hw hbad];rfl,by rw [St.write_1 hw hbad];exact (ds_close (r':=(⟨p,lg,w.z,w.in_,many,om,ov,sa,sc,svl,pF,ga⟩:RS G.α)) (E':=E) (ok.f1.f1) hf (fun j hj=>.inl (he j hj)) V)⟩⟩
 refine .z .mvS<|.z (.len T.el44)<|.z .mvP<|.z .nil<|.z (.fa T.fd123_2)<|.z (.ldx T.ag3 ok.m0)<|.z .neq<|.z .pkf<|.z .asB<|.nil ?_;refine .cd (fun C1=>?_) (fun C1=>?_)
 ·
  refine .seq<|.r<|.z .asI<|.nil ?_;have hbad:no<2∨(w.now.length:Int)+1<no∨w.now=[]∨l.length≠w.z:=by
   first
   | exact .inl (by omega)
   | exact .inr (.inl (by omega))
   | exact .inr (.inr (.inl (List.eq_nil_of_length_eq_zero (by omega))))
   | exact .inr (.inr (.inr (by omega)))
  refine .ret ⟨.int .i64 1,Res.one rfl rfl,⟨_,by rw [St.write_1 hw hbad];rfl,by rw [St.write_1 hw hbad];exact (ds_close (r':=(⟨p,lg,w.z,w.in_,many,om,ov,sa,sc,svl,pF,ga⟩:RS G.α)) (E':=E) (ok.f1.f1) hf (fun j hj=>.inl (he j hj)) V)⟩⟩
 have hgood:¬(no<2∨(w.now.length:Int)+1<no∨w.now=[]∨l.length≠w.z):=by
  rintro (h | h | h | h)
  ·omega
  ·omega
  ·rw [h] at hmany;simp at hmany;omega
  ·omega
 obtain ⟨k,rfl⟩:∃k:Nat,no=(k:Int):=⟨no.toNat,by omega⟩;refine .seq<|.r<|.z .mvI<|.z .gtr<|.z .mvB<|.sd (fun G46=>?_) (fun G46=>?_)
 ·
  refine .y<|.y<|.y<|.y<|.y<|.y<|.y<|.z .pkt<|.z .asB<|.nil ?_;refine .ct<|.seq<|.r<|.z .asI<|.nil ?_;refine .ret ⟨.int .i64 5,Res.one rfl rfl,⟨_,by rw [St.write_5 hw hgood (by first | exact .inl (by omega) | exact .inr (by omega))];rfl,by rw [St.write_5 hw hgood (by first | exact .inl (by omega) | exact .inr (by omega))];exact (ds_close (r':=(⟨p,lg,w.z,w.in_,many,om,ov,sa,sc,svl,pF,ga⟩:RS G.α)) (E':=E) (ok.f1.f1) hf (fun j hj=>.inl (he j hj)) V)⟩⟩
 have hmz:=pg_mul (x:=(k:Int)) (s:=w.z) (by omega) (by omega) (by omega);refine .z .mvI<|.z .mvP<|.z .nil<|.z (.fa T.fd123_2)<|.z (.ldx T.ag3 ok.m0)<|.z .mulI<|.z .gtr<|.z .pkf<|.z .asB<|.nil ?_;refine .cd (fun C2=>?_) (fun C2=>?_)
 ·
  refine .seq<|.r<|.z .asI<|.nil ?_;refine .ret ⟨.int .i64 5,Res.one rfl rfl,⟨_,by rw [St.write_5 hw hgood (by first | exact .inl (by omega) | exact .inr (by omega))];rfl,by rw [St.write_5 hw hgood (by first | exact .inl (by omega) | exact .inr (by omega))];exact (ds_close (r':=(⟨p,lg,w.z,w.in_,many,om,ov,sa,sc,svl,pF,ga⟩:RS G.α)) (E':=E) (ok.f1.f1) hf (fun j hj=>.inl (he j hj)) V)⟩⟩
 have hgd:¬(1048576<(k:Int)∨16777216<(k:Int)*(w.z:Int)):=by rintro (h | h)<;>omega
 obtain ⟨mb,rfl⟩:=(V.now hw).1;have ok:=Hp.nowSome (ok.n1);refine .skip<|.end<|hK0 _ _<|.seq<|.a 5 (fun fl hh=>cond fl True (Hp h DF [] [] hh)) mixed ?_;have hS:=ok.k0.tR.tR.tR;refine .g 0 false rfl 55 hS (fun _=>.mvP)<|.g 1 false rfl 56 hS (fun _=>.nil)<|.g 2 false rfl 57 hS (fun _=>.fa T.fd123_4)<|.g 3 false rfl 58 hS (fun _=>.mvI)<|.g 4 false rfl 59 hS (fun _=>.mvS)<|.o1 5<|.c' true rfl 60 .func (bclone_any (a:=a) (c:=c) (l:=l) ok.r2 (by omega)) ?_;rintro _ η1 own;obtain ⟨ya1,yc1,rfl⟩:=own.formB;have ok:=ok.own own;refine ⟨trivial,?_⟩;refine .o1 6<|.c' true rfl 61 .func (sput_any (G:=G) (r:=(⟨p,lg,w.z,w.in_,many,(some mb),ov,sa,sc,svl,pF,ga⟩:RS G.α)) (mb:=mb) (a:=ya1) (c:=yc1) (l:=l) (no:=k) (Hp.locL [boxI so 123 [.iface G.tid (.pointer (some ⟨p,0,none⟩)),.pointer lg,.int .i64 (w.z:Int),.bool w.in_,.int .i64 (many:Int),.map (some mb),.slice sa svl.length sc,.bool false],mapI (Value.int .i64) mb (bsE ov)] (ok.n1.n2)).e0 (by rfl)) ?_;rintro _ η2 ⟨rfl,q⟩;have ok:=Hp.liftL [boxI so 123 [.iface G.tid (.pointer (some ⟨p,0,none⟩)),.pointer lg,.int .i64 (w.z:Int),.bool w.in_,.int .i64 (many:Int),.map (some mb),.slice sa svl.length sc,.bool false],mapI (Value.int .i64) mb (bsE ov)] (ok.n1.n2) q;have hnb:=Hp.putNew (ok.n2) hf;have ok:=Hp.pbsPut (k:=(k:Int)) (ok.n2);have ok:=ok.d0 (svsI (fun j=>E j∨blkC (sv (ya1,(l).length,yc1)) j) svl) (Svs.mono (E:=E) (E':=(fun j=>E j∨blkC (sv (ya1,(l).length,yc1)) j)) (fun j h=>Or.inl h) ok.r1) (fun _ h=>h);refine ⟨trivial,?_⟩;refine .e ?_;refine .seq<|.r<|.z .asI<|.nil ?_;have hkz:k*w.z≤16777216:=by have h2:((k*w.z:Nat):Int)=(k:Int)*(w.z:Int):=Int.natCast_mul _ _;omega
 refine .ret ⟨.int .i64 0,Res.one rfl rfl,⟨_,by rw [St.write_0 hw hgood hgd];rfl,by rw [St.write_0 hw hgood hgd];exact (ds_close (r':=(⟨p,lg,w.z,w.in_,(max many k),(some mb),(mput ov (k:Int) ⟨ya1,yc1,l⟩),sa,sc,svl,pF,ga⟩:RS G.α)) (E':=(fun j=>E j∨blkC (sv (ya1,(l).length,yc1)) j)) (ok.f1) hf (fun j hj=>hj.elim (fun hj=>.inl (he j hj)) (hnb j)) (V.write hw (no:=k) (x:=⟨ya1,yc1,l⟩) (by omega) (by omega) (fun h=>hgood (.inr (.inr (.inl h)))) (Classical.byContradiction fun h=>hgood (.inr (.inr (.inr h)))) hkz))⟩⟩
end Go.Proofs.YtndlpekckpdncaaGreat
namespace Go.HL
open Go
theorem Hp.locW {h0 h:Heap} {D:Nat→Prop} {M R:List Itm} {x:Itm} {e:TypeId} {a:Option Addr} {c:Nat} {l:List UInt8} (ok:Hp h0 D (x::capI 1 e (a,l.length,c) (l.map bv)::M) R h):Hp h x.F [x] [rdI (blkC (sv (a,l.length,c))) none_ (a,l.length,c) l] h:=
 (ok.k2.n1.frzB (l:=l) rfl).loc1
end Go.HL
namespace Go.Proofs.YtndlpekckpdncaaGreat
open Go Go.HL
theorem St.pgk {w:St} (k:StOk w):PgsK w.z w.pgs:=by
 unfold St.pgs;split
 ·exact k.now
 ·exact k.sure
theorem St.page_len {w:St} (k:StOk w) {no:Int} (h1:1≤no) (h2:no≤(w.pgs.length:Int)):(w.pgs.getD (no-1).toNat []).length=w.z:=by
 have hi:(no-1).toNat<w.pgs.length:=by omega
 rw [List.getD_eq_getElem?_getD,List.getElem?_eq_getElem hi];exact (St.pgk k).len _ (List.getElem_mem hi)
theorem St.few {w:St} (k:StOk w):w.pgs.length≤65536:=by
 have h1:=(St.pgk k).many;have h2:=okSz_c k.z;have h3:w.pgs.length*256≤w.pgs.length*w.z:=Nat.mul_le_mul_left _ (by omega);omega
theorem sReadOk_any {G:Pgr} {h:Heap} {so:Nat} {F:Nat→Prop} {w:St} {no:Int} {b:List UInt8} (ok:Hp h F [dsI G so F w] [] h) (h1:1≤no) (h2:no≤(w.pgs.length:Int)) (hb:b=w.pgs.getD (no-1).toNat []:=by exact rfl) :
  HC Tryz.prog 22 #[.pointer (some ⟨so,0,none⟩),.int .i64 no] h (fun v h'=>∃F' x c,v=.tuple #[.slice x b.length c,.int .i64 0]∧b.length=w.z∧Hp h F [capI 1 5 (x,b.length,c) (b.map bv),dsI G so F' w] [] h'):=by
 have k:=ds_ok ok.m0;subst hb;refine (sRead_any ok).mono fun v h' ⟨F',x,c,hv,q⟩=>?_;rw [St.read_ok h1 h2] at hv q;exact ⟨F',x,c,hv,St.page_len k h1 h2,q⟩
theorem sWriteC_any {G:Pgr} {h0 h:Heap} {D:Nat→Prop} {M R:List Itm} {so:Nat} {F:Nat→Prop} {w:St} {no:Int} {a:Option Addr} {n c:Nat} {l:List UInt8} (ok:Hp h0 D (dsI G so F w::capI 1 5 (a,n,c) (l.map bv)::M) R h) (hl:l.length≤1000000000) :
  HC Tryz.prog 29 #[.pointer (some ⟨so,0,none⟩),.int .i64 no,.slice a n c] h (fun v h'=>∃F',v=.int .i64 ((w.write no l).2:Int)∧Hp h F [dsI G so F' (w.write no l).1] [] h'):=by
 obtain rfl:n=l.length:=ok.n1.lenB;exact sWrite_any ok.locW hl
theorem dec_chk (l:List UInt8):(decN l).1=hd0∨ChkP (decN l).1:=by
 unfold decN;split
 ·exact .inl rfl
 split
 ·exact .inl rfl
 split
 ·rename_i h;exact .inr h.1
 ·exact .inl rfl
structure HdR (H:Hd):Prop where
 size:0≤H.size∧H.size≤4096
 pages:0≤H.pages∧H.pages≤65536
 free:0≤H.free∧H.free≤1048576
 many:0≤H.many∧H.many≤1048576
 cookie:0≤H.cookie∧H.cookie≤2147483647
 version:0≤H.version∧H.version≤2147483647
theorem St.head_r {w:St} (k:StOk w):HdR w.head:=by
 have hz:=okSz_c k.z;have hf:=St.few k;by_cases h:w.pgs.length=0
 ·rw [St.head_0 h];exact ⟨by decide,by decide,by decide,by decide,by decide,by decide⟩
 ·rw [St.head_n h];rcases dec_chk (w.pgs.getD 0 []) with e | c
  ·rw [e];exact ⟨⟨by simp only;omega,by simp only;omega⟩,⟨by simp only;omega,by simp only;omega⟩,show (0:Int)≤0∧(0:Int)≤1048576 by decide,show (0:Int)≤0∧(0:Int)≤1048576 by decide,show (0:Int)≤0∧(0:Int)≤2147483647 by decide,show (0:Int)≤0∧(0:Int)≤2147483647 by decide⟩
  ·have h2:=c.2.2.1;have hf:0≤(decN (w.pgs.getD 0 [])).1.free∧(decN (w.pgs.getD 0 [])).1.free≤1048576:=by
    have h1:=c.2.1;by_cases h:(decN (w.pgs.getD 0 [])).1.many=0
    ·have:=h2.2.2.1 h;omega
    ·have:=h2.2.2.2 (by omega);omega
   exact ⟨⟨by simp only;omega,by simp only;omega⟩,⟨by simp only;omega,by simp only;omega⟩,hf,⟨h2.1,by have:=h2.2.1;have:=c.2.1;show (decN (w.pgs.getD 0 [])).1.many≤_;omega⟩,c.2.2.2.1,c.2.2.2.2⟩
theorem dec_many {w:St} (h:w.head.many=0):w.head.free=0:=by
 by_cases h0:w.pgs.length=0
 ·rw [St.head_0 h0];rfl
 ·rw [St.head_n h0] at h⊢;rcases dec_chk (w.pgs.getD 0 []) with e | c
  ·rw [e];rfl
  ·exact c.2.2.1.2.2.1 h
theorem St.head_pages {w:St} : w.head.pages=(w.pgs.length:Int):=by
 by_cases h:w.pgs.length=0
 ·rw [St.head_0 h,h];rfl
 ·rw [St.head_n h]
def frOk (N:Nat) (out:List Int) (no:Int):Bool:=decide (2≤no∧no≤(N:Int)∧no∉out)
def frIn (N:Nat):List Int→List Int→Option (List Int)
 | [],out=>some out
 | no::l,out=>if frOk N out no=true then frIn N l (out++[no]) else none
def frNums (b:List UInt8):List Int:=(List.range (rdN b 4 4)).map fun i=>((rdN b (8+4*i) 4:Nat):Int)
def frGo (P:List (List UInt8)) (rm:Nat):Nat→Int→List Int→Option (List Int)
 | 0,_,_=>none
 | f+1,at_,out=>if at_=0 then some out else if frOk P.length out at_=false then none else
  if rm<rdN (P.getD (at_-1).toNat []) 4 4 then none else
  (frIn P.length (frNums (P.getD (at_-1).toNat [])) (out++[at_])).bind (frGo P rm f ((rdN (P.getD (at_-1).toNat []) 0 4:Nat):Int))
def frAll (w:St):Option (List Int):=(frGo w.pgs ((w.z-8) / 4) (w.pgs.length+1) w.head.free []).bind fun l=>if (l.length:Int)=w.head.many then some l else none
def frL (w:St):List Int:=(frAll w).getD []
def frC (w:St):Nat:=if (frAll w).isSome=true then 0 else 14
def frOp (w:St):List Int × Nat:=if w.in_=false then ([],10) else if w.pgs.length=0 then ([],4) else (frL w,frC w)
def put4 (l:List UInt8) (p n:Nat):List UInt8:=l.take p++fixedN n 4++l.drop (p+4)
def hdd (w:St) (free many:Int):St × Nat:=w.setHead { w.head with free:=free,many:=many }
def zer (z:Nat):List UInt8:=List.replicate z 0
def frGrow (w:St):St × Int × Nat:=
 if 16777216 / (w.z:Int)<(w.pgs.length:Int)+1 then (w,0,5) else
 if (w.write ((w.pgs.length:Int)+1) (zer w.z)).2≠0 then ((w.write ((w.pgs.length:Int)+1) (zer w.z)).1,0,(w.write ((w.pgs.length:Int)+1) (zer w.z)).2) else
 ((hdd (w.write ((w.pgs.length:Int)+1) (zer w.z)).1 0 0).1,(w.pgs.length:Int)+1,(hdd (w.write ((w.pgs.length:Int)+1) (zer w.z)).1 0 0).2)
def tkA (w:St):List UInt8:=w.pgs.getD (w.head.free-1).toNat []
def tkN (w:St):Nat:=rdN (tkA w) 4 4
def tkNo (w:St):Int:=if 0<tkN w then ((rdN (tkA w) (8+4*(tkN w-1)) 4:Nat):Int) else w.head.free
def tkFr (w:St):Int:=if 0<tkN w then w.head.free else ((rdN (tkA w) 0 4:Nat):Int)
def tkW (w:St):St × Nat:=if 0<tkN w then w.write w.head.free (put4 (put4 (tkA w) (8+4*(tkN w-1)) 0) 4 (tkN w-1)) else (w,0)
def toldF (x:St × Int × Nat):St × Int × Nat:=(x.1,if x.2.2=0 then x.2.1 else 0,x.2.2)
def tkZ (w:St):St × Nat:=(tkW w).1.write (tkNo w) (zer w.z)
def tkH (w:St):St × Nat:=hdd (tkZ w).1 (tkFr w) (w.head.many-1)
def takeF (w:St):St × Int × Nat:=if (frOp w).2≠0 then (w,0,(frOp w).2) else if (frOp w).1=[] then toldF (frGrow w) else
 if (tkW w).2≠0 then ((tkW w).1,0,(tkW w).2) else if (tkZ w).2≠0 then ((tkZ w).1,0,(tkZ w).2) else toldF ((tkH w).1,tkNo w,(tkH w).2)
def gvA (w:St) (no:Int):St × Nat:=w.write w.head.free (put4 (put4 (tkA w) (8+4*tkN w) no.toNat) 4 (tkN w+1))
def gvB (w:St) (no:Int):St × Nat:=w.write no (put4 (zer w.z) 0 w.head.free.toNat)
def thenH (x:St × Nat) (free many:Int):St × Nat:=if x.2≠0 then x else hdd x.1 free many
def giveF (w:St) (no:Int):St × Nat:=if w.in_=true∧0<w.pgs.length∧(no<2∨(w.pgs.length:Int)<no) then (w,1) else if (frOp w).2≠0 then (w,(frOp w).2) else if no∈(frOp w).1 then (w,7) else
 if w.head.free≠0∧tkN w<(w.z-8) / 4 then thenH (gvA w no) w.head.free (w.head.many+1) else thenH (gvB w no) no (w.head.many+1)
section
variable {N:Nat} {out:List Int} {no:Int} {l:List UInt8}
theorem frIn_nil:frIn N [] out=some out:=rfl
theorem frIn_ok {r:List Int} (h:frOk N out no=true):frIn N (no::r) out=frIn N r (out++[no]):=if_pos h
theorem frIn_no {r:List Int} (h:frOk N out no=false):frIn N (no::r) out=none:=if_neg (by rw [h];decide)
theorem rdN_lt {l:List UInt8} {p:Nat} : rdN l p 4<4294967296:=rdN_lt4 l p
theorem frNums_len:(frNums l).length=rdN l 4 4:=by simp [frNums]
theorem frNums_drop {i:Nat} (h:i<rdN l 4 4):(frNums l).drop i=((rdN l (8+4*i) 4:Nat):Int)::(frNums l).drop (i+1):=by
 rw [List.drop_eq_getElem_cons (by rw [frNums_len];exact h)];simp [frNums]
theorem put4_len {p n:Nat} (h:p+4≤l.length):(put4 l p n).length=l.length:=by
 unfold put4;simp [fixedN_len];omega
end
section
variable {P:List (List UInt8)} {rm f:Nat} {a:Int} {out:List Int}
theorem frGo_0:frGo P rm (f+1) 0 out=some out:=by unfold frGo;rfl
theorem frGo_bad (h0:a≠0) (h:frOk P.length out a=false):frGo P rm (f+1) a out=none:=by unfold frGo;rw [if_neg h0,if_pos h]
theorem frGo_many (h0:a≠0) (h:frOk P.length out a=true) (h2:rm<rdN (P.getD (a-1).toNat []) 4 4):frGo P rm (f+1) a out=none:=by unfold frGo;rw [if_neg h0,if_neg (by rw [h];decide),if_pos h2]
theorem frGo_in (h0:a≠0) (h:frOk P.length out a=true) (h2:¬rm<rdN (P.getD (a-1).toNat []) 4 4):frGo P rm (f+1) a out=(frIn P.length (frNums (P.getD (a-1).toNat [])) (out++[a])).bind (frGo P rm f ((rdN (P.getD (a-1).toNat []) 0 4:Nat):Int)):=by
 conv=>lhs;unfold frGo
 rw [if_neg h0,if_neg (by rw [h];decide),if_neg h2]
end
theorem frGo_1 {P:List (List UInt8)} {rm f:Nat} {a:Int} {out l:List Int} (h:frGo P rm (f+1) a out=some l) (hl:l≠out):a≠0∧frOk P.length out a=true∧¬rm<rdN (P.getD (a-1).toNat []) 4 4:=by
 by_cases h0:a=0
 ·subst h0;rw [frGo_0] at h;injection h with h;exact absurd h.symm hl
 cases hk:frOk P.length out a with
 | false=>rw [frGo_bad h0 hk] at h;cases h
 | true=>
  refine ⟨h0,rfl,fun h2=>?_⟩;rw [frGo_many h0 hk h2] at h;cases h
theorem frAll_1 {w:St} {l:List Int} (h:frAll w=some l) (hl:l≠[]):2≤w.head.free∧w.head.free≤(w.pgs.length:Int)∧tkN w≤(w.z-8) / 4:=by
 unfold frAll at h;cases hg:frGo w.pgs ((w.z-8) / 4) (w.pgs.length+1) w.head.free [] with
 | none=>rw [hg] at h;cases h
 | some l'=>
  rw [hg] at h;have h2:(if (l'.length:Int)=w.head.many then some l' else none)=some l:=h;split at h2
  ·injection h2 with h2;subst h2;obtain ⟨_,h4,h5⟩:=frGo_1 hg hl;have h6:2≤w.head.free∧w.head.free≤(w.pgs.length:Int)∧w.head.free∉[]:=of_decide_eq_true h4;exact ⟨h6.1,h6.2.1,Nat.le_of_not_lt h5⟩
  ·cases h2
theorem frOp_0 {w:St} (h:(frOp w).2=0):w.in_=true∧w.pgs.length≠0∧frAll w=some (frOp w).1:=by
 unfold frOp at h⊢;split at h
 ·cases h
 split at h
 ·cases h
 rename_i h1 h2;rw [if_neg h1,if_neg h2];refine ⟨by simpa using h1,h2,?_⟩;have h3:frC w=0:=h;unfold frC at h3;cases ha:frAll w with
 | none=>rw [ha] at h3;cases h3
 | some l=>show some l=some (frL w);unfold frL;rw [ha];rfl
structure Met (N:Nat) (out:List Int):Prop where
 nd:out.Nodup
 rg:∀k∈out,2≤k∧k≤(N:Int)
section
variable {N:Nat} {out:List Int} {no:Int}
theorem Met.nil:Met N []:=⟨.nil,by simp⟩
theorem Met.snoc (m:Met N out) (h:frOk N out no=true):Met N (out++[no]):=by
 have h1:2≤no∧no≤(N:Int)∧no∉out:=of_decide_eq_true h;refine ⟨List.nodup_append.2 ⟨m.nd,by simp,fun a ha b hb e=>h1.2.2 (by rw [List.mem_singleton.1 hb] at e;exact e▸ha)⟩,fun k hk=>?_⟩;rcases List.mem_append.1 hk with hk | hk
 ·exact m.rg k hk
 ·rw [List.mem_singleton.1 hk];exact ⟨h1.1,h1.2.1⟩
theorem Met.len (m:Met N out):out.length<N+1:=by
 have h3:(0::out.map Int.toNat).length≤(List.range (N+1)).length:=by
  refine List.Nodup.length_le_of_subset (List.nodup_cons.2 ⟨fun hk=>?_,?_⟩) fun k hk=>?_
  ·obtain ⟨x,hx,e⟩:=List.mem_map.1 hk;have:=m.rg x hx;omega
  ·unfold List.Nodup;rw [List.pairwise_map];exact List.Pairwise.imp_of_mem (fun ha hb h e=>h (by have:=m.rg _ ha;have:=m.rg _ hb;omega)) m.nd
  ·rcases List.mem_cons.1 hk with rfl | hk
   ·rw [List.mem_range];omega
   ·obtain ⟨x,hx,rfl⟩:=List.mem_map.1 hk;have:=m.rg x hx;rw [List.mem_range];omega
 rw [List.length_cons,List.length_map,List.length_range] at h3;omega
end
theorem frIn_met {N:Nat} : ∀ {r out o:List Int},Met N out→frIn N r out=some o→Met N o
 | [],out,o,m,h=>by rw [frIn_nil] at h;injection h with h;exact h▸m
 | no::r,out,o,m,h=>by
  cases hk:frOk N out no with
  | false=>rw [frIn_no hk] at h;cases h
  | true=>rw [frIn_ok hk] at h;exact frIn_met (m.snoc hk) h
theorem frGo_met {P:List (List UInt8)} {rm:Nat} : ∀(f:Nat) (a:Int) (out:List Int) {l:List Int},Met P.length out→frGo P rm f a out=some l→Met P.length l
 | 0,_,_,_,_,h=>by unfold frGo at h;cases h
 | f+1,a,out,l,m,h=>by
  by_cases h0:a=0
  ·subst h0;rw [frGo_0] at h;injection h with h;exact h▸m
  cases hk:frOk P.length out a with
  | false=>rw [frGo_bad h0 hk] at h;cases h
  | true=>
   by_cases h2:rm<rdN (P.getD (a-1).toNat []) 4 4
   ·rw [frGo_many h0 hk h2] at h;cases h
   ·rw [frGo_in h0 hk h2] at h;cases hi:frIn P.length (frNums (P.getD (a-1).toNat [])) (out++[a]) with
    | none=>rw [hi] at h;cases h
    | some o=>rw [hi] at h;exact frGo_met f _ _ (frIn_met (m.snoc hk) hi) h
end Go.Proofs.YtndlpekckpdncaaGreat
namespace Go.HL
open Go
abbrev PD:=List Deferred→Exit→Slots→Heap→Prop
def LiftD (E:Env) (n:Nat) (Q:PD) (e:Exit) (a:Act) (w:World):Prop:=∃ds s h,Rel ds n s a∧At E h w∧Q ds e s h
def WD (P:Program) (n:Nat) (c:Code) (Q:PD) (s:Slots) (h:Heap):Prop:=∀E a w,E.ds=[]→Rel [] n s a→At E h w→c.wp P (LiftD E n Q) a w
def nxtD (P:Program) (n:Nat) (k:List Code) (Q:PD) (H:Slots→Heap→Prop):PD
 | [],.normal,s,h=>H s h
 | d::ds,.normal,s,h=>HS none P n k (Q (d::ds)) s h
 | ds,e,s,h=>Q ds e s h
def HSD (P:Program) (n:Nat):List Code→PD→Slots→Heap→Prop
 | [],Q,s,h=>Q [] .normal s h
 | c::k,Q,s,h=>WD P n c (nxtD P n k Q (HSD P n k Q)) s h
section
variable {P:Program} {n:Nat} {Q:PD} {s:Slots} {h:Heap} {k:List Code} {E:Env}
theorem At.ds {w:World} (at':At E h w) (ds:List Deferred):At { E with ds:=ds } h w:=⟨at'.heap,at'.os,at'.tape,at'.output⟩
theorem At.of_ds {w:World} {ds:List Deferred} (at':At { E with ds:=ds } h w):At E h w:=⟨at'.heap,at'.os,at'.tape,at'.output⟩
theorem HSD.seq {a b:Code} (hk:HSD P n (a::b::k) Q s h):HSD P n (.seq a b::k) Q s h:=by
 intro E a0 w hE r at';refine wp_seq (wp_mono (hk E a0 w hE r at') ?_);rintro e a' w' ⟨ds,s',h',r',at2,q⟩;cases e with
 | normal=>
  cases ds with
  | nil=>exact q E a' w' hE r' at2
  | cons d ds=>
   refine wp_mono (wpIn_wide.1 (q { E with ds:=d::ds } a' w' r' (at2.ds _))) ?_;rintro e a'' w'' ⟨s2,h2,r2,at3,q2⟩;refine ⟨d::ds,s2,h2,r2,at3.of_ds,?_⟩;cases e<;>exact q2
 | exit id=>exact ⟨ds,s',h',r',at2,by cases ds<;>exact q⟩
 | goto l=>exact ⟨ds,s',h',r',at2,by cases ds<;>exact q⟩
 | ret=>exact ⟨ds,s',h',r',at2,by cases ds<;>exact q⟩
 | panic c=>exact ⟨ds,s',h',r',at2,by cases ds<;>exact q⟩
 | outgrown=>exact ⟨ds,s',h',r',at2,by cases ds<;>exact q⟩
theorem HSD.lift {c:Code} (hx:HS none P n [c] (thn (HSD P n k Q) (Q [])) s h):HSD P n (c::k) Q s h:=by
 intro E a w hE r at';refine wp_mono (wpIn_wide.1 (hx E a w (hE▸r) at')) ?_;rintro e a' w' ⟨s',h',r',at2,q⟩;refine ⟨[],s',h',hE▸r',at2,?_⟩;cases e<;>exact q
theorem HSD.on {Q':Exit→Slots→Heap→Prop} (hk:HSD P n k Q s h):thn (HSD P n k Q) Q' .normal s h:=hk
end
open Go
structure LpC where
 n:Nat
 s:Slots
 ps:Array Tmp
 assign:Code
 body:Code
 D:Nat
def Lp (c:LpC) (l:Nat) (st:LoopState) (pe:Option Code) (h:Heap):Prop:=∃fn tmps,tmps.size=c.n∧(∀i,tmps.getD i undef=c.s i)∧h[l]? = some (.loop { state:=st,pending:=pe,fn,tmps,params:=c.ps,assign:=c.assign,body:=c.body,defers:=c.D })
def Df (D:Nat) (h:Heap):Prop:=h[D]? = some (.deferred (some []))
def col (D:Nat):Deferred:={ target:=.collected D,args:=#[] }
@[reducible] def lpI (c:LpC) (l:Nat) (st:LoopState) (pe:Option Code):Itm:=⟨Lp c l st pe,fun j=>j=l,fun _ _ G cg d ⟨fn,tm,h1,h2,h3⟩=>⟨fn,tm,h1,h2,by rw [cg.same l (Array.getElem?_eq_some_iff.1 h3).1 (d l rfl)];exact h3⟩⟩
@[reducible] def dfI (D:Nat):Itm:=⟨Df D,fun j=>j=D,fun _ _ G cg d h3=>(cg.same D (Array.getElem?_eq_some_iff.1 h3).1 (d D rfl)).trans h3⟩
def HY (P:Program) (l:Nat) (args:Array Value) (h:Heap) (R:Value→Heap→Prop):Prop:=∀E w,At E h w→YieldAt Fence.wide 0 P l args w fun e w'=>∃v h',e=.returned v∧At E h' w'∧R v h'
def updL:List (Tmp × Value)→Slots→Slots
 | [],s=>s
 | p::l,s=>updL l (upd s p.1 p.2)
theorem updL_rel {n:Nat} : ∀(l:List (Tmp × Value)) (s:Slots) (tm:Array Value),tm.size=n→(∀i,tm.getD i undef=s i)→(∀p∈l,Nat.blt p.1 n=true)→(l.foldl (fun t (p:Tmp × Value)=>t.setIfInBounds p.1 p.2) tm).size=n∧∀i,(l.foldl (fun t (p:Tmp × Value)=>t.setIfInBounds p.1 p.2) tm).getD i undef=updL l s i
 | [],_,_,h1,h2,_=>⟨h1,h2⟩
 | p::l,s,tm,h1,h2,h3=>by
  have r:=(⟨h1,h2,rfl⟩:Rel [] n s { tmps:=tm,defers:=[] }).put p.2 (h3 p (by simp));exact updL_rel l (upd s p.1 p.2) _ r.size r.get fun q hq=>h3 q (by simp [hq])
def rnd (c:LpC) (l:Nat) (R:Value→Heap→Prop):Exit→Slots→Heap→Prop
 | .normal,_,h=>Lp c l .busy none h∧∀h',Chg (fun j=>j=l) h h'→h'.size=h.size→Lp c l .ready none h'→R (.bool true) h'
 | .ret,_,h=>Lp c l .busy none h∧∀h',Chg (fun j=>j=l) h h'→h'.size=h.size→Lp c l .done (some .ret) h'→R (.bool false) h'
 | .exit id,_,h=>Lp c l .busy none h∧∀h',Chg (fun j=>j=l) h h'→h'.size=h.size→Lp c l .done (some (.exit id)) h'→R (.bool false) h'
 | _,_,_=>False
theorem putObj_chg {w:World} {l:Nat} {o:Obj} : Chg (fun j=>j=l) w.heap (w.putObj l o).heap∧(w.putObj l o).heap.size=w.heap.size:=
 ⟨⟨by simp,fun k _ hk=>World.putObj_heap_other hk⟩,by simp⟩
theorem HY.go {P:Program} {c:LpC} {l:Nat} {args:List Value} {h:Heap} {R:Value→Heap→Prop} (hl:Lp c l .ready none h) (hsz:args.length=c.ps.size:=by exact rfl) (hps:(c.ps.toList.all fun p=>Nat.blt p c.n)=true:=by exact rfl)
  (hc:HS (some l) P c.n [c.assign] (thn (fun s1 h1=>Lp c l .ready none h1∧∀h2,Chg (fun j=>j=l) h1 h2→h2.size=h1.size→Lp c l .busy none h2→HS (some l) P c.n [c.body] (rnd c l R) s1 h2) (fun _ _ _=>False)) (updL (c.ps.toList.zip args) c.s) h):HY P l args.toArray h R:=by
 intro E w at';obtain ⟨fn,tm,h1,h2,h3⟩:=hl;rw [←at'.heap] at h3;refine ⟨fn,_,c.assign,c.body,run_yield h3 (by simpa using hsz),roundIn_of_wpIn trivial ?_⟩;have hr:=updL_rel (c.ps.toList.zip args) c.s tm h1 h2 (fun p hp=>List.all_eq_true.1 hps p.1 (List.of_mem_zip hp).1);have e:(c.ps.zip args.toArray).foldl (fun tmps (t,a)=>tmps.setIfInBounds t a) tm=(c.ps.toList.zip args).foldl (fun t (p:Tmp × Value)=>t.setIfInBounds p.1 p.2) tm:=by
  rw [←Array.foldl_toList,Array.toList_zip]
 show c.assign.wpIn (fc (some l)) 0 P _ { tmps:=_,defers:=[] } w;rw [show ((c.ps.zip args.toArray).foldl (fun tmps (x:Tmp × Value)=>tmps.setIfInBounds x.1 x.2) tm)=_ from e];refine wpIn_mono (hc { E with ds:=[] } { tmps:=_,defers:=[] } w ⟨hr.1,hr.2,rfl⟩ ⟨at'.heap,at'.os,at'.tape,at'.output⟩) ?_;rintro ex a1 w1 ⟨s1,g1,r1,at1,q⟩;cases ex with
 | normal=>
  obtain ⟨⟨fn1,tm1,k1,k2,k3⟩,q⟩:=q;rw [←at1.heap] at k3;refine ⟨_,run_beginRound k3 rfl,?_⟩;have hb:(w1.putObj l (.loop { state:=.busy,pending:=none,fn:=fn1,tmps:=tm1,params:=c.ps,assign:=c.assign,body:=c.body,defers:=c.D })).heap[l]? = _:=World.putObj_heap_same (Array.getElem?_eq_some_iff.1 k3).1;have hcg:=putObj_chg (w:=w1) (l:=l) (o:=.loop { state:=.busy,pending:=none,fn:=fn1,tmps:=tm1,params:=c.ps,assign:=c.assign,body:=c.body,defers:=c.D });have q2:=q _ (by rw [←at1.heap];exact hcg.1) (by rw [←at1.heap];exact hcg.2) ⟨fn1,tm1,k1,k2,hb⟩;refine wpIn_mono (q2 { E with ds:=[] } a1 _ r1 ⟨rfl,at1.os,at1.tape,at1.output⟩) ?_;have fin:∀(jump:Option Code) (w3:World) (g3:Heap),At { E with ds:=[] } g3 w3→Lp c l .busy none g3→∃w4,(Instr.endRound l jump).run P w3=.ok (.bool jump.isNone) w4∧At E w4.heap w4∧Chg (fun j=>j=l) g3 w4.heap∧w4.heap.size=g3.size∧Lp c l (if jump.isNone then .ready else .done) jump w4.heap:=by
   rintro jump w3 g3 at3 ⟨fn3,tm3,m1,m2,m3⟩;rw [←at3.heap] at m3⊢;exact ⟨_,run_endRound jump m3,⟨rfl,at3.os,at3.tape,at3.output⟩,putObj_chg.1,putObj_chg.2,fn3,tm3,m1,m2,World.putObj_heap_same (Array.getElem?_eq_some_iff.1 m3).1⟩
  rintro ex a3 w3 ⟨s3,g3,r3,at3,q3⟩;cases ex with
  | normal=>obtain ⟨w4,e1,e2,e3,e4,e5⟩:=fin none w3 g3 at3 q3.1;exact ⟨_,w4,e1,_,_,rfl,e2,q3.2 _ e3 e4 e5⟩
  | ret=>obtain ⟨w4,e1,e2,e3,e4,e5⟩:=fin (some .ret) w3 g3 at3 q3.1;exact ⟨_,w4,e1,_,_,rfl,e2,q3.2 _ e3 e4 e5⟩
  | exit id=>obtain ⟨w4,e1,e2,e3,e4,e5⟩:=fin (some (.exit id)) w3 g3 at3 q3.1;exact ⟨_,w4,e1,_,_,rfl,e2,q3.2 _ e3 e4 e5⟩
  | goto t=>exact q3.elim
  | panic ch=>exact q3.elim
  | outgrown=>exact q3.elim
 | exit id=>exact q.elim
 | goto t=>exact q.elim
 | ret=>exact q.elim
 | panic ch=>exact q.elim
 | outgrown=>exact q.elim
def HOY (P:Program) (n:Nat) (ops:Array Oper) (l:List Oper) (K:Slots→Heap→Prop) (s:Slots) (h:Heap):Prop:=∀E a w,Rel E.ds n s a→At E h w→wpListIn (fc none) 0 P ops (Lift E n (nrm K)) l a w
section
variable {P:Program} {n:Nat} {ops:Array Oper} {l:List Oper} {o:Oper} {K:Slots→Heap→Prop} {s:Slots} {h:Heap}
theorem HOY.nil (hk:K s h):HOY P n ops [] K s h:=fun _ _ _ r at'=>⟨s,h,r,at',hk⟩
theorem HOY.w (d:Nat) {v:Value} (hv:OpV P o s h v) (hk:HOY P n ops l K (upd s d v) h) (hw:wants ops o s=true:=by exact rfl) (hd:o.dst=some d:=by exact rfl) (hn:Nat.blt d n=true:=by exact rfl):HOY P n ops (o::l) K s h:=by
 intro E a w r at';unfold wpListIn;rw [r.wanted,hw,if_pos rfl];refine ⟨fun _ _=>trivial,?_⟩;rw [show (fc none).round=none from rfl,Oper.semAt_none,r.eval',hv w at'.heap];simp only [Oper.uponIn,hd];exact hk E _ w (r.put v hn) at'
theorem run_callY {P:Program} {w:World} {s:Slots} {d:Option Tmp} {ty:TypeId} {pos:String} {af:Array Edge} {g:Option (Nat × Bool)} {x:Operand} {xs:Array Operand} {ts:Array TypeId} {q:Nat} (hx:ev s x=.func (.yield q) #[] #[]):(execOp (ev s) ⟨d,.call ⟨.value x,xs,ts⟩,ty,pos,af,g⟩).run P w=(Instr.yield q (xs.map (ev s))).run P w:=by
 simp [execOp,resolve,hx,Deferred.ofValue,invoke]
theorem HOY.y (d:Nat) {ty:TypeId} {pos:String} {af:Array Edge} {g:Option (Nat × Bool)} {x:Operand} {xs:Array Operand} {ts:Array TypeId} {q:Nat} {args:List Value} {R:Value→Heap→Prop} (hy:HY P q args.toArray h R) (hk:∀v h',R v h'→HOY P n ops l K (upd s d v) h') (hx:ev s x=.func (.yield q) #[] #[]:=by exact rfl) (ha:xs.toList.map (ev s)=args:=by exact rfl) (hw:wants ops ⟨some d,.call ⟨.value x,xs,ts⟩,ty,pos,af,g⟩ s=true:=by exact rfl) (hn:Nat.blt d n=true:=by exact rfl):HOY P n ops (⟨some d,.call ⟨.value x,xs,ts⟩,ty,pos,af,g⟩::l) K s h:=by
 intro E a w r at';unfold wpListIn;rw [r.wanted,hw,if_pos rfl];refine ⟨fun _ _=>trivial,?_⟩;have ha':xs.map (ev s)=args.toArray:=by rw [←ha];apply Array.ext';simp
 obtain ⟨fn,tm,x1,y1,h1,h2⟩:=hy E w at';rw [show (fc none).round=none from rfl,Oper.semAt_none,r.eval',run_callY hx,ha',h1];simp only [Oper.uponIn];refine ⟨fun e=>(by cases e),h2.mono ?_⟩;rintro e w' ⟨v,h',rfl,at2,hR⟩;exact hk v h' hR E _ w' (r.put v hn) at2
theorem HS.ry {id:Nat} {l:List Oper} {Q:Exit→Slots→Heap→Prop} {k:List Code} (hk:HOY P n l.toArray l (fun s h=>HS none P n k Q s h) s h):HS none P n (.region id l.toArray false::k) Q s h:=by
 intro E a w r at';exact wpIn_mono (wpIn_region_lit (hk E a w r at')) fun _ _ _ q=>nrm_lift (Q:=thn (HS none P n k Q) Q) q
end
def rgEnd (c:LpC) (l:Nat) (K:Option Code→Heap→Prop) (h:Heap):Prop:=∃st pe,st≠.busy∧Lp c l st pe h∧∀h',Chg (fun j=>j=l) h h'→h'.size=h.size→K pe h'
section
variable {P:Program} {n:Nat} {s:Slots} {h:Heap} {k:List Code} {Q:PD}
def rgK (id:Nat) (D:Nat) (K:Slots→Heap→Prop) (Q:PD) (s:Slots):Option Code→Heap→Prop
 | none,h=>K s h
 | some .ret,h=>Q [col D] .ret s h
 | some (.exit i),h=>bif Nat.beq i id then K s h else Q [col D] (.exit i) s h
 | _,_=>False
theorem HSD.rg {id:Nat} {g:Operand} {ps:Array Tmp} {assign body:Code} {gf:FuncId} {lb:List Value} (hg:ev s g=.func (.func gf) #[] lb.toArray:=by exact rfl)
  (hk:∀h1,Ext h h1→h1.size=h.size+2→Lp ⟨n,s,ps,assign,body,h.size⟩ (h.size+1) .ready none h1→Df h.size h1→
   HC P gf (Value.func (.yield (h.size+1)) #[] #[]::lb).toArray h1 fun _ h2=>rgEnd ⟨n,s,ps,assign,body,h.size⟩ (h.size+1) (rgK id h.size (HS none P n k (Q [col h.size])) Q s) h2) :
  HSD P n (.block id (.rangeFunc g ps assign body)::k) Q s h:=by
 intro E a w hE r at';have hh:=at'.heap;refine wp_block ((wpIn_wide (n:=0)).1 (wpIn_rangeFunc fun fn _=>?_));obtain ⟨W1,hW1⟩:∃W1,(w.alloc (.deferred (some []))).alloc (.loop { state:=.ready,pending:=none,fn,tmps:=a.tmps,params:=ps,assign,body,defers:=w.heap.size })=W1:=⟨_,rfl⟩;have hL1:W1.heap[w.heap.size+1]? = some (.loop { state:=.ready,pending:=none,fn,tmps:=a.tmps,params:=ps,assign,body,defers:=w.heap.size }):=by
  rw [←hW1];have:=World.alloc_heap_new (w.alloc (.deferred (some []))) (.loop { state:=.ready,pending:=none,fn,tmps:=a.tmps,params:=ps,assign,body,defers:=w.heap.size });rwa [World.size_alloc] at this
 have hD1:W1.heap[w.heap.size]? = some (.deferred (some [])):=by
  rw [←hW1];show ((w.heap.push _).push _)[w.heap.size]? = _;rw [Array.getElem?_push_lt (by simp)];simp
 have hs1:W1.heap.size=h.size+2:=by rw [←hW1,←hh];show ((w.heap.push _).push _).size=_;simp
 have hx1:Ext h W1.heap:=by
  refine ⟨by rw [hs1];omega,fun b hb _=>?_⟩;rw [←hW1,←hh] at *;show ((w.heap.push _).push _)[b]? = _;rw [Array.getElem?_push_lt (by simp;omega)];simp [Array.getElem_push_lt hb]
 have at1:At E W1.heap W1:=⟨rfl,by rw [←hW1];exact at'.os,by rw [←hW1];exact at'.tape,by rw [←hW1];exact at'.output⟩;obtain ⟨⟨fn',hf,hb,hbody⟩,hq⟩:=hk W1.heap hx1 hs1 ⟨fn,a.tmps,r.size,r.get,by rw [←hh];exact hL1⟩ (by unfold Df;rw [←hh];exact hD1);have h2' : ¬ fn'.name = "runtime.NumGoroutine" := by simpa using hb
 have h3':¬fn'.body=none:=by intro e;simp [e] at hbody
 refine ⟨w.heap.size+1,[{ target:=.collected w.heap.size,args:=#[] }],W1,{ target:=.fn (.func gf) lb.toArray,args:=#[.func (.yield (w.heap.size+1)) #[] #[]] },W1,gf,#[.func (.yield (w.heap.size+1)) #[] #[]]++lb.toArray,W1,?_,?_,fun _ _=>trivial,?_,fun e=>(by cases e),?_⟩
 ·rw [←hW1];exact run_enterLoop_outer _ _ _ _ _
 ·have he:a.eval g=.func (.func gf) #[] lb.toArray:=by rw [r.eval];exact hg
  simp only [resolve,he];simp [go_sem]
 ·simp [invoke,callFunc,hf,h2',h3']
 ·have e1 : #[Value.func (.yield (w.heap.size+1)) #[] #[]]++lb.toArray=(Value.func (.yield (h.size+1)) #[] #[]::lb).toArray:=by rw [hh];simp
  rw [e1];refine callsIn_wide.2 ((hq E W1 at1).mono ?_);rintro e w3 ⟨v,h3,rfl,at3,st,pe,hst,⟨fn3,tm3,m1,m2,m3⟩,hK⟩;rw [←at3.heap] at m3 hK;rw [hh];refine ⟨pe,_,run_endLoop m3 hst,?_⟩;have hK2:=hK _ (putObj_chg (w:=w3) (l:=h.size+1) (o:=.loop { state:=.exhausted,pending:=pe,fn:=fn3,tmps:=tm3,params:=ps,assign,body,defers:=h.size })).1 putObj_chg.2;have r2:Rel [col h.size] n s { a with defers:=[{ target:=.collected h.size,args:=#[] }]++a.defers }:=⟨r.size,r.get,by show _++a.defers=_;rw [r.defers];rfl⟩;have at4:At E (w3.putObj (h.size+1) (.loop { state:=.exhausted,pending:=pe,fn:=fn3,tmps:=tm3,params:=ps,assign,body,defers:=h.size })).heap (w3.putObj (h.size+1) (.loop { state:=.exhausted,pending:=pe,fn:=fn3,tmps:=tm3,params:=ps,assign,body,defers:=h.size })):=⟨rfl,at3.os,at3.tape,at3.output⟩;cases pe with
  | none=>exact ⟨[col h.size],s,_,r2,at4,hK2⟩
  | some c=>
   cases c with
   | ret=>exact wpIn_ret ⟨[col h.size],s,_,r2,at4,hK2⟩
   | exit i=>
    refine wpIn_exit ?_;simp only [rgK] at hK2;simp only [Exit.inBlock];by_cases hi:i=id
    ·subst hi;simp only [Nat.beq_refl,cond_true] at hK2;rw [if_pos rfl];exact ⟨[col h.size],s,_,r2,at4,hK2⟩
    ·have hb2:Nat.beq i id=false:=by cases hb3:Nat.beq i id with
      | true=>exact absurd (Nat.eq_of_beq_eq_true hb3) hi
      | false=>rfl
     simp only [hb2,cond_false] at hK2;rw [if_neg hi];exact ⟨[col h.size],s,_,r2,at4,hK2⟩
   | _=>exact hK2.elim
end
def finR (P:Program) (fn:Func) (R:Value→Heap→Prop):PD
 | [],.normal,s,h | [],.ret,s,h=>∃v,Res P fn s h v∧R v h
 | [d],.normal,s,h | [d],.ret,s,h=>∃D,d=col D∧Df D h∧∀h',Chg (fun j=>j=D) h h'→h'.size=h.size→∃v,Res P fn s h' v∧R v h'
 | _,_,_,_=>False
theorem leavesR {P:Program} {fn:Func} {R:Value→Heap→Prop} {s:Slots} {h:Heap} {n:Nat} {E:Env} {a:Act} {w:World} {ds:List Deferred} (r:Rel ds n s a) (at':At E h w) (q:finR P fn R ds .ret s h):LeavesInM Fence.wide 0 P fn a.tmps (fun e w'=>∃v h',e=.returned v∧At E h' w'∧R v h') a.defers .returning w:=by
 rw [r.defers]
 match ds,q with
 | [],⟨v,hv,hR⟩=>exact ⟨v,hv _ _ r.get at'.heap,v,h,rfl,at',hR⟩
 | [d],⟨D,hd,hD,hk⟩=>
  subst hd;unfold Df at hD;rw [←at'.heap] at hD hk;obtain ⟨v,hv,hR⟩:=hk _ (putObj_chg (w:=w) (l:=D) (o:=.deferred none)).1 putObj_chg.2;exact ⟨by simp,.inl ⟨D,_,rfl,run_takeDeferred hD,v,hv _ _ r.get rfl,v,_,rfl,⟨rfl,at'.os,at'.tape,at'.output⟩,hR⟩⟩
theorem HC.goR {P:Program} {f:FuncId} {fn:Func} {c:Code} {args:List Value} {h:Heap} {R:Value→Heap→Prop} (hf:P.funcs[f]? = some fn) (n:Nat) (hc:HSD P n [c] (finR P fn R) (lst args) h) (hb:fn.body=some c:=by exact rfl)
  (hname : (fn.name == "runtime.NumGoroutine") = false := by first | exact rfl | kernel_rfl) (hn : fn.ntmps = n := by exact rfl) (hsz : Nat.ble args.length n = true := by exact rfl) : HC P f args.toArray h R := by
 have hsz:=Nat.le_of_ble_eq_true hsz;refine ⟨⟨fn,hf,hname,by simp [hb]⟩,fun E w at'=>(callsIn_wide (n:=0)).1 (callsIn_of_wp_marks hf hb trivial ?_)⟩;subst hn;refine wpIn_mono (wpIn_wide.2 (hc { E with ds:=[] } _ w rfl ⟨by simp;omega,fun i=>?_,rfl⟩ (at'.ds _))) ?_
 ·rw [←lst_getD];simp only [Array.getD_eq_getD_getElem?,Array.getElem?_append,List.getD_eq_getElem?_getD];by_cases hi:i<args.length
  ·simp [hi]
  ·simp only [List.size_toArray,hi,if_false];rw [List.getElem?_eq_none (by omega)];by_cases hj:i-args.length<fn.ntmps-args.length
   ·rw [Array.getElem?_replicate,if_pos hj];rfl
   ·rw [Array.getElem?_replicate,if_neg hj]
 ·rintro e a' w' ⟨ds,s',h',r',at2,q⟩;have at3:At E h' w':=at2.of_ds;cases e with
  | normal=>
   have q2:finR P fn R ds .ret s' h':=by
    match ds,q with
    | [],q=>exact q
    | [d],q=>exact q
    | _::_::_,q=>exact q
   exact leavesR r' at3 q2
  | ret=>exact leavesR r' at3 (by cases ds<;>exact q)
  | exit id=>cases ds with
   | nil=>exact q
   | cons d ds=>cases ds<;>exact q
  | goto l=>cases ds with
   | nil=>exact q
   | cons d ds=>cases ds<;>exact q
  | panic c=>cases ds with
   | nil=>exact False.elim q
   | cons d ds=>cases ds<;>exact False.elim q
  | outgrown=>cases ds with
   | nil=>exact False.elim q
   | cons d ds=>cases ds<;>exact False.elim q
section
variable {h0 h h':Heap} {D:Nat→Prop} {M R:List Itm} {c:LpC} {l:Nat} {st st':LoopState} {pe pe':Option Code}
theorem Hp.lp (ok:Hp h0 D (lpI c l st pe::M) R h) (cg:Chg (fun j=>j=l) h h') (hl:Lp c l st' pe' h'):Hp h0 D (lpI c l st' pe'::M) R h':=ok.upd cg (fun _ x=>x) (lpI c l st' pe') hl fun _ hj=>.inl hj
theorem Hp.df {d:Nat} (ok:Hp h0 D (dfI d::M) R h) (cg:Chg (fun j=>j=d) h h'):Hp h0 D M R h':=by
 have o:=ok.upd cg (fun _ x=>x) ⟨fun _=>True,fun j=>j=d,fun _ _ _ _ _ _=>trivial⟩ trivial fun _ hj=>.inl hj;exact o.tM
theorem Hp.rgNew (ok:Hp h0 D M R h) (x:Ext h h') (hs:h'.size=h.size+2) (hl:Lp c (h.size+1) .ready none h') (hd:Df h.size h'):Hp h0 D (lpI c (h.size+1) .ready none::dfI h.size::M) R h':=by
 have o:=ok.newM x (dfI h.size) hd fun j hj=>by have:j=h.size:=hj;omega
 refine ⟨o.chg,fun i hi=>?_,o.r,?_,fun a ha b hb j hj hb2=>?_⟩
 ·rcases List.mem_cons.1 hi with rfl | hi
  ·exact ⟨hl,fun j hj=>by have:j=h.size+1:=hj;have:=ok.chg.size;exact ⟨by omega,.inr (by omega)⟩⟩
  ·exact o.m i hi
 ·refine List.pairwise_cons.2 ⟨fun b hb j hj hb2=>?_,o.mm⟩;have hj1:j=h.size+1:=hj;rcases List.mem_cons.1 hb with rfl | hb
  ·have:j=h.size:=hb2;omega
  ·have:=((ok.m b hb).2 j hb2).1;omega
 ·rcases List.mem_cons.1 ha with rfl | ha
  ·have hj1:j=h.size+1:=hj;have:=(ok.r b hb).2 j hb2;omega
  ·exact o.mr a ha b hb j hj hb2
end
theorem HSD.rg' {P:Program} {n:Nat} {s:Slots} {h:Heap} {k:List Code} {Q:PD} {id:Nat} {g:Operand} {ps:Array Tmp} {assign body:Code} {gf:FuncId} {lb:List Value}
  (hk:∀(lc:LpC) (l D:Nat) (h1:Heap),lc=⟨n,s,ps,assign,body,D⟩→Ext h h1→h1.size=h.size+2→l=h.size+1→D=h.size→Lp lc l .ready none h1→Df D h1→
   HC P gf (Value.func (.yield l) #[] #[]::lb).toArray h1 fun _ h2=>rgEnd lc l (rgK id D (HS none P n k (Q [col D])) Q s) h2)
  (hg:ev s g=.func (.func gf) #[] lb.toArray:=by exact rfl):HSD P n (.block id (.rangeFunc g ps assign body)::k) Q s h:=
 HSD.rg hg fun h1 hx hs hl hd=>hk _ _ _ h1 rfl hx hs rfl rfl hl hd
theorem HY.go' {P:Program} {lc:LpC} {n:Nat} {s:Slots} {ps:Array Tmp} {assign body:Code} {D l:Nat} {args:List Value} {h:Heap} {R:Value→Heap→Prop} (hlc:lc=⟨n,s,ps,assign,body,D⟩) (hl:Lp lc l .ready none h)
  (hc:HS (some l) P n [assign] (thn (fun s1 h1=>Lp lc l .ready none h1∧∀h2,Chg (fun j=>j=l) h1 h2→h2.size=h1.size→Lp lc l .busy none h2→HS (some l) P n [body] (rnd lc l R) s1 h2) (fun _ _ _=>False)) (updL (ps.toList.zip args) s) h)
  (hsz:args.length=ps.size:=by exact rfl) (hps:(ps.toList.all fun p=>Nat.blt p n)=true:=by exact rfl):HY P l args.toArray h R:=by
 subst hlc;exact HY.go hl hsz hps hc
theorem Hp.rgNew' {h0 h h':Heap} {D:Nat→Prop} {M R:List Itm} {c:LpC} {l d:Nat} (ok:Hp h0 D M R h) (x:Ext h h') (hs:h'.size=h.size+2) (hl0:l=h.size+1) (hd0:d=h.size) (hl:Lp c l .ready none h') (hd:Df d h'):Hp h0 D (lpI c l .ready none::dfI d::M) R h':=by
 subst hl0 hd0;exact ok.rgNew x hs hl hd
theorem Hp.lpEnd {h0 h h':Heap} {D:Nat→Prop} {M R:List Itm} {c:LpC} {l:Nat} {st:LoopState} {pe:Option Code} (ok:Hp h0 D (lpI c l st pe::M) R h) (cg:Chg (fun j=>j=l) h h'):Hp h0 D M R h':=by
 have o:=ok.upd cg (fun _ x=>x) ⟨fun _=>True,fun j=>j=l,fun _ _ _ _ _ _=>trivial⟩ trivial fun _ hj=>.inl hj;exact o.tM
theorem Hp.addML {h0 h h':Heap} {D:Nat→Prop} {M R l:List Itm} (ok:Hp h0 D M R h) (q:Hp h none_ l [] h'):Hp h0 D (l++M) R h':=by
 have o:=ok.ext q.chg;have hn:∀a∈l,∀j,a.F j→h.size≤j:=fun a ha j hj=>((q.m a ha).2 j hj).2.elim (fun f=>f.elim) id;refine ⟨o.chg,fun i hi=>?_,o.r,List.pairwise_append.2 ⟨q.mm,o.mm,fun a ha b hb j hj hb2=>?_⟩,fun a ha b hb j hj hb2=>?_⟩
 ·rcases List.mem_append.1 hi with hi | hi
  ·exact ⟨(q.m i hi).1,fun j hj=>⟨((q.m i hi).2 j hj).1,.inr (Nat.le_trans ok.chg.size (hn i hi j hj))⟩⟩
  ·exact o.m i hi
 ·have:=hn a ha j hj;have:=((ok.m b hb).2 j hb2).1;omega
 ·rcases List.mem_append.1 ha with ha | ha
  ·have:=hn a ha j hj;have:=(ok.r b hb).2 j hb2;omega
  ·exact o.mr a ha b hb j hj hb2
theorem OpV.asN {P:Program} {s:Slots} {h:Heap} {d:Option Tmp} {ty:TypeId} {pos:String} {af:Array Edge} {g:Option (Nat × Bool)} {x:Operand} (hx:ev s x=.nilFunc:=by exact rfl):OpV P ⟨d,.assign x,ty,pos,af,g⟩ s h .nilFunc:=V.asv hx
section
variable {h0 h:Heap} {D:Nat→Prop} {M R:List Itm} {q0 q1 q2 q3 q4 q5 q6 q7 q8 q9 q10 q11 q12 q13 q14 q15:Itm}
theorem Hp.n10 (ok:Hp h0 D (q0::q1::q2::q3::q4::q5::q6::q7::q8::q9::q10::M) R h):Hp h0 D (q10::q0::q1::q2::q3::q4::q5::q6::q7::q8::q9::M) R h:=ok.perm (show (q10::([q0,q1,q2,q3,q4,q5,q6,q7,q8,q9]++M)).Perm ([q0,q1,q2,q3,q4,q5,q6,q7,q8,q9]++q10::M) from List.perm_middle.symm)
theorem Hp.m10 (ok:Hp h0 D (q0::q1::q2::q3::q4::q5::q6::q7::q8::q9::q10::M) R h):q10.p h:=(ok.m q10 (by simp)).1
theorem Hp.n11 (ok:Hp h0 D (q0::q1::q2::q3::q4::q5::q6::q7::q8::q9::q10::q11::M) R h):Hp h0 D (q11::q0::q1::q2::q3::q4::q5::q6::q7::q8::q9::q10::M) R h:=ok.perm (show (q11::([q0,q1,q2,q3,q4,q5,q6,q7,q8,q9,q10]++M)).Perm ([q0,q1,q2,q3,q4,q5,q6,q7,q8,q9,q10]++q11::M) from List.perm_middle.symm)
theorem Hp.n12 (ok:Hp h0 D (q0::q1::q2::q3::q4::q5::q6::q7::q8::q9::q10::q11::q12::M) R h):Hp h0 D (q12::q0::q1::q2::q3::q4::q5::q6::q7::q8::q9::q10::q11::M) R h:=ok.perm (show (q12::([q0,q1,q2,q3,q4,q5,q6,q7,q8,q9,q10,q11]++M)).Perm ([q0,q1,q2,q3,q4,q5,q6,q7,q8,q9,q10,q11]++q12::M) from List.perm_middle.symm)
theorem Hp.m12 (ok:Hp h0 D (q0::q1::q2::q3::q4::q5::q6::q7::q8::q9::q10::q11::q12::M) R h):q12.p h:=(ok.m q12 (by simp)).1
theorem Hp.k12 (ok:Hp h0 D (q0::q1::q2::q3::q4::q5::q6::q7::q8::q9::q10::q11::M) R h):Hp h0 D [q0,q1,q2,q3,q4,q5,q6,q7,q8,q9,q10,q11] R h:=ok.keep (show ([q0,q1,q2,q3,q4,q5,q6,q7,q8,q9,q10,q11]:List Itm).Sublist ([q0,q1,q2,q3,q4,q5,q6,q7,q8,q9,q10,q11]++M) from List.sublist_append_left _ _)
theorem Hp.n13 (ok:Hp h0 D (q0::q1::q2::q3::q4::q5::q6::q7::q8::q9::q10::q11::q12::q13::M) R h):Hp h0 D (q13::q0::q1::q2::q3::q4::q5::q6::q7::q8::q9::q10::q11::q12::M) R h:=ok.perm (show (q13::([q0,q1,q2,q3,q4,q5,q6,q7,q8,q9,q10,q11,q12]++M)).Perm ([q0,q1,q2,q3,q4,q5,q6,q7,q8,q9,q10,q11,q12]++q13::M) from List.perm_middle.symm)
theorem Hp.m13 (ok:Hp h0 D (q0::q1::q2::q3::q4::q5::q6::q7::q8::q9::q10::q11::q12::q13::M) R h):q13.p h:=(ok.m q13 (by simp)).1
theorem Hp.k13 (ok:Hp h0 D (q0::q1::q2::q3::q4::q5::q6::q7::q8::q9::q10::q11::q12::M) R h):Hp h0 D [q0,q1,q2,q3,q4,q5,q6,q7,q8,q9,q10,q11,q12] R h:=ok.keep (show ([q0,q1,q2,q3,q4,q5,q6,q7,q8,q9,q10,q11,q12]:List Itm).Sublist ([q0,q1,q2,q3,q4,q5,q6,q7,q8,q9,q10,q11,q12]++M) from List.sublist_append_left _ _)
end
theorem HOY.z {P:Program} {n:Nat} {ops:Array Oper} {l:List Oper} {K:Slots→Heap→Prop} {s:Slots} {h:Heap} {op:Op} {ty:TypeId} {pos:String} {af:Array Edge} {g:Option (Nat × Bool)} {d:Nat} {v:Value} (hv:OpV P ⟨some d,op,ty,pos,af,g⟩ s h v) (hk:HOY P n ops l K (upd s d v) h) (hw:wants ops ⟨some d,op,ty,pos,af,g⟩ s=true:=by exact rfl) (hn:Nat.blt d n=true:=by exact rfl):HOY P n ops (⟨some d,op,ty,pos,af,g⟩::l) K s h:=HOY.w d hv hk hw rfl hn
end Go.HL
namespace Go.Proofs.YtndlpekckpdncaaGreat
open Go Go.HL
section
variable {γ:Type} (w:St) (go:γ→Int→List UInt8→γ) (lv:γ→Bool)
def lkGo:Nat→Int→List Int→γ→γ × Int
 | 0,_,_,g=>(g,0)
 | f+1,no,mt,g=>if no=0 then (g,0) else if no<2∨(w.pgs.length:Int)<no∨no∈mt then (g,14) else
  if lv (go g no (w.pgs.getD (no-1).toNat []))=false then (go g no (w.pgs.getD (no-1).toNat []),0) else
  lkGo f ((rdN (w.pgs.getD (no-1).toNat []) 0 4:Nat):Int) (mt++[no]) (go g no (w.pgs.getD (no-1).toNat []))
variable {w go lv} {f:Nat} {no:Int} {mt:List Int} {g:γ}
theorem lk_0:lkGo w go lv (f+1) 0 mt g=(g,0):=by unfold lkGo;rfl
theorem lk_00 (h:no=0):lkGo w go lv (f+1) no mt g=(g,0):=by subst h;exact lk_0
theorem lk_bad (h0:no≠0) (h:no<2∨(w.pgs.length:Int)<no∨no∈mt):lkGo w go lv (f+1) no mt g=(g,14):=by unfold lkGo;rw [if_neg h0,if_pos h]
theorem lk_stop (h0:no≠0) (h:¬(no<2∨(w.pgs.length:Int)<no∨no∈mt)) (h2:lv (go g no (w.pgs.getD (no-1).toNat []))=false):lkGo w go lv (f+1) no mt g=(go g no (w.pgs.getD (no-1).toNat []),0):=by unfold lkGo;rw [if_neg h0,if_neg h,if_pos h2]
theorem lk_go (h0:no≠0) (h:¬(no<2∨(w.pgs.length:Int)<no∨no∈mt)) (h2:lv (go g no (w.pgs.getD (no-1).toNat []))=true):lkGo w go lv (f+1) no mt g=lkGo w go lv f ((rdN (w.pgs.getD (no-1).toNat []) 0 4:Nat):Int) (mt++[no]) (go g no (w.pgs.getD (no-1).toNat [])):=by
 conv=>lhs;unfold lkGo
 rw [if_neg h0,if_neg h,if_neg (by rw [h2];decide)]
end
def mtE (mt:List Int):List (Int × Value):=mt.map fun k=>(k,.bool true)
theorem mt_get {mt:List Int} {k:Int} : (aget (mtE mt) k).getD (.bool false)=.bool (decide (k∈mt)):=by
 induction mt with
 | nil=>rfl
 | cons a l ih=>
  unfold mtE aget at ih⊢;rw [List.map_cons,List.find?_cons];by_cases h:a=k
  ·subst h;simp
  ·have hn:decide (a=k)=false:=decide_eq_false h;simp only [hn];rw [ih];congr 1;simp [Ne.symm h]
theorem mt_put {mt:List Int} {k:Int} (h:k∉mt):aput (mtE mt) k (.bool true)=mtE (mt++[k]):=by
 induction mt with
 | nil=>rfl
 | cons a l ih=>
  have h1:a≠k:=fun e=>h (by simp [e]);have h2:k∉l:=fun e=>h (by simp [e]);show aput ((a,Value.bool true)::mtE l) k (.bool true)=(a,Value.bool true)::mtE (l++[k]);unfold aput;rw [if_neg h1,ih h2]
theorem links_any {h:Heap} {so eb:Nat} {first:Int} :
  HC Tryz.prog 131 #[.pointer (some ⟨so,0,none⟩),.int .i64 first,.pointer (some ⟨eb,0,none⟩)] h (fun v h'=>∃b1 b2 b3,v=.func (.func 174) #[] #[.pointer (some ⟨b1,0,none⟩),.pointer (some ⟨b2,0,none⟩),.pointer (some ⟨b3,0,none⟩)]∧Hp h none_ [boxI b1 3 [.int .i64 first],boxI b2 27 [.pointer (some ⟨so,0,none⟩)],boxI b3 193 [.pointer (some ⟨eb,0,none⟩)]] [] h'):=by
 have ok:=Hp.nil h none_;refine HC.go Tryz.func131 8 ?_;refine .seq<|.r<|.a' 3 (.bxP ok) ?_;rintro _ η1 ⟨pb1,rfl,ok,xe⟩;refine .a' 4 (.bxI ok) ?_;rintro _ η2 ⟨pb2,rfl,ok,xe⟩;refine .a' 5 (.bxP ok) ?_;rintro _ η3 ⟨pb3,rfl,ok,xe⟩;refine .z .asN<|.nil ?_;refine .seq<|.r<|.z (.mkf (vs:=[.pointer (some ⟨pb2,0,none⟩),.pointer (some ⟨pb1,0,none⟩),.pointer (some ⟨pb3,0,none⟩)]))<|.z .asF<|.nil ?_;refine .ret ⟨.func (.func 174) #[] #[.pointer (some ⟨pb2,0,none⟩),.pointer (some ⟨pb1,0,none⟩),.pointer (some ⟨pb3,0,none⟩)],Res.one rfl rfl,⟨pb2,pb1,pb3,rfl,ok.n2.n2⟩⟩
theorem links1_any {β γ:Type} {ab:β→γ} {go:γ→Int→List UInt8→γ} {lv:γ→Bool} {Y:β→Itm} {y0:β} {G:Pgr} {h:Heap} {so b1 b2 b3 eb l:Nat} {F D:Nat→Prop} {w:St} {first:Int}
  (hY:∀(y:β) (no:Int) (b:List UInt8) (x:Option Addr) (c:Nat) (F2 E2:Nat→Prop) (hh:Heap),lv (ab y)=true→2≤no→no≤(w.pgs.length:Int)→b.length=w.z→Hp hh (Y y).F [Y y] [rdI F2 E2 (x,b.length,c) b] hh→HY Tryz.prog l #[.int .i64 no,.slice x b.length c] hh (fun v h'=>∃y',v=.bool (lv (ab y'))∧ab y'=go (ab y) no b∧Hp hh (Y y).F [Y y'] [] h'))
  (hl0:lv (ab y0)=true) (hf:i64N first) (ok:Hp h D [dsI G so F w,boxI b1 3 [.int .i64 first],boxI b2 27 [.pointer (some ⟨so,0,none⟩)],boxI b3 193 [.pointer (some ⟨eb,0,none⟩)],boxI eb 34 [.int .i64 0],Y y0] [] h) :
  HC Tryz.prog 174 #[.func (.yield l) #[] #[],.pointer (some ⟨b1,0,none⟩),.pointer (some ⟨b2,0,none⟩),.pointer (some ⟨b3,0,none⟩)] h (fun v h'=>∃F' y',ab y'=(lkGo w go lv (w.pgs.length+1) first [] (ab y0)).1∧Hp h D [dsI G so F' w,boxI b1 3 [.int .i64 first],boxI b2 27 [.pointer (some ⟨so,0,none⟩)],boxI b3 193 [.pointer (some ⟨eb,0,none⟩)],boxI eb 34 [.int .i64 (lkGo w go lv (w.pgs.length+1) first [] (ab y0)).2],Y y'] [] h'):=by
 have hso:=ds_ok ok.m0;have hfew:=St.few hso;have hzc:=okSz_c hso.z;refine HC.go Tryz.func174 56 ?_;refine .seq<|.r<|.a' 11 (.mkm (Value.int .i64) ok) ?_;rintro _ η1 ⟨mb1,rfl,ok⟩;refine .z .asM<|.nil ?_;refine .seq<|.r<|.z (.ldx T.ag3 ok.m2)<|.z .asI<|.nil ?_;refine .block fun K0 hK0=>.loop (fun m s hh=>∃(no:Int) (mt:List Int) (y:β) (Fo:Nat→Prop),Has s [(0,.func (.yield l) #[] #[]),(2,.pointer (some ⟨b2,0,none⟩)),(3,.pointer (some ⟨b3,0,none⟩)),(5,.map (some mb1)),(6,.int .i64 no)]∧Hp h D [dsI G so Fo w,boxI b1 3 [.int .i64 first],boxI b2 27 [.pointer (some ⟨so,0,none⟩)],boxI b3 193 [.pointer (some ⟨eb,0,none⟩)],boxI eb 34 [.int .i64 0],mapI (Value.int .i64) mb1 (mtE mt),Y y] [] hh∧lkGo w go lv (w.pgs.length+1-mt.length) no mt (ab y)=lkGo w go lv (w.pgs.length+1) first [] (ab y0)∧Met w.pgs.length mt∧lv (ab y)=true∧i64N no∧m=w.pgs.length+1-mt.length) ?_ ?_
 ·exact ⟨_,first,[],y0,F,⟨rfl,rfl,rfl,rfl,rfl,trivial⟩,(ok.n6.n1.n6.n6.n6.n6.n6).k7,rfl,Met.nil,hl0,hf,rfl⟩
 rintro _ _ η2 ⟨no,mt,y,Fo,hs,ok,hgo,hmt,hlv,hno,rfl⟩ J0 hJ0;refine .frame hs fun τ=>?_;refine .seq<|.seq<|.r<|.z .mvI<|.z .neq<|.nil ?_;refine .cdr (fun C0=>?_) (fun C0=>?_)
 ·
  have hml:=hmt.len;obtain ⟨f,hff⟩:∃f,w.pgs.length+1-mt.length=f+1:=⟨w.pgs.length-mt.length,by omega⟩;rw [hff] at hgo;have hn0:no=0:=by simpa using C0
  refine .exit<|hK0 _ _<|.end<|⟨.tuple #[],Res.none rfl,⟨Fo,y,by rw [←hgo,lk_00 hn0],by rw [←hgo,lk_00 hn0];exact (ok.n6.n5.n5.n5.n5.n5).k6⟩⟩
 have hml:=hmt.len;obtain ⟨f,hff⟩:∃f,w.pgs.length+1-mt.length=f+1:=⟨w.pgs.length-mt.length,by omega⟩;rw [hff] at hgo;refine .skip<|.block fun K1 hK1=>.seq<|.seq<|.r<|.z .mvI<|.z .lss<|.z .mvB<|.sd (fun G17=>?_) (fun G17=>?_)
 ·
  refine .y<|.y<|.y<|.y<|.y<|.z .pkt<|.z .mvB<|.y<|.y<|.y<|.z .pkt<|.nil ?_;refine .ct<|.seq<|.r<|.z (.ldx T.ag193 ok.m3)<|.z .nil<|.ur' (.stI T.sz34 ok.n4) ?_;rintro η3 ⟨ok,cg⟩;refine .nil ?_;refine .ret ⟨.tuple #[],Res.none rfl,⟨Fo,y,by rw [←hgo,lk_bad C0 (by first | exact .inl (by omega) | exact .inr (.inl (by omega)) | exact .inr (.inr (by assumption)))],by rw [←hgo,lk_bad C0 (by first | exact .inl (by omega) | exact .inr (.inl (by omega)) | exact .inr (.inr (by assumption)))];exact (ok.n6.n1.n5.n5.n5.n5).k6⟩⟩
 refine .z .mvI<|.z (.ldx T.ag27 ok.m2)<|.c' 20 .func (sHead_any (G:=G) (w:=w) (ok).loc0) ?_;rintro _ η4 ⟨Fh1,rfl,q⟩;have ok:=(ok).lift1 q;rw [show w.head.val=.agg #[.int .i64 w.head.size,.int .i64 (w.pgs.length:Int),.int .i64 w.head.free,.int .i64 w.head.many,.int .i64 w.head.cookie,.int .i64 w.head.version] from (by rw [←St.head_pages];rfl)];refine .z (.fd T.fd38_1 T.ag3)<|.z .gtr<|.z .pkf<|.z .mvB<|.sd (fun G24=>?_) (fun G24=>?_)
 ·
  refine .y<|.y<|.y<|.z .pkt<|.nil ?_;refine .ct<|.seq<|.r<|.z (.ldx T.ag193 ok.m3)<|.z .nil<|.ur' (.stI T.sz34 ok.n4) ?_;rintro η5 ⟨ok,cg⟩;refine .nil ?_;refine .ret ⟨.tuple #[],Res.none rfl,⟨Fh1,y,by rw [←hgo,lk_bad C0 (by first | exact .inl (by omega) | exact .inr (.inl (by omega)) | exact .inr (.inr (by assumption)))],by rw [←hgo,lk_bad C0 (by first | exact .inl (by omega) | exact .inr (.inl (by omega)) | exact .inr (.inr (by assumption)))];exact (ok.n6.n1.n5.n5.n5.n5).k6⟩⟩
 refine .z .mvM<|.z .mvI<|.z (.lk (KV.int .i64) no (v:=.bool (decide (no∈mt))) T.mp208 (inB_iff T.in3) T.zr4 ok.m5 (by exact mt_get))<|.z .pkf<|.nil ?_;refine .cd (fun C1=>?_) (fun C1=>?_)
 ·
  refine .seq<|.r<|.z (.ldx T.ag193 ok.m3)<|.z .nil<|.ur' (.stI T.sz34 ok.n4) ?_;rintro η6 ⟨ok,cg⟩;refine .nil ?_;refine .ret ⟨.tuple #[],Res.none rfl,⟨Fh1,y,by rw [←hgo,lk_bad C0 (by first | exact .inl (by omega) | exact .inr (.inl (by omega)) | exact .inr (.inr (by assumption)))],by rw [←hgo,lk_bad C0 (by first | exact .inl (by omega) | exact .inr (.inl (by omega)) | exact .inr (.inr (by assumption)))];exact (ok.n6.n1.n5.n5.n5.n5).k6⟩⟩
 have hnm:no∉mt:=C1;have hgd:¬(no<2∨(w.pgs.length:Int)<no∨no∈mt):=by rintro (h | h | h);omega;omega;exact C1 h
 refine .skip<|.seq<|.r<|.z .mvM<|.z .mvI<|.ur' (.mpu (KV.int .i64) V.sbI no (v:=.bool true) T.mp208 (inB_iff T.in3) ok.n5) ?_;rintro η7 ok;refine .nil ?_;refine .seq<|?_;rw [mt_put hnm] at ok;refine .r<|.z (.ldx T.ag27 ok.m3)<|.z .mvI<|.c' 36 .func (sReadOk_any (G:=G) (w:=w) (no:=no) (b:=(w.pgs.getD (no-1).toNat [])) (ok.n1).loc0 (by omega) (by omega) (by rfl)) ?_;rintro _ η8 ⟨Fr1,xr1,cr1,rfl,hlr1,q⟩;have ok:=(ok.n1).lift2 q;refine .z .mvU<|.z .ex<|.z .ex<|.z .asS<|.z .asI<|.nil ?_;refine .seq<|.seq<|.r<|.z .mvI<|.z .neq<|.nil ?_;refine .cf<|.skip<|.seq<|.seq<|?_;have ok:=(ok).frzB (l:=(w.pgs.getD (no-1).toNat [])) rfl;have hbl:=hlr1;have hrc:=ok.r0.c;have hrm:=ok.r0.m;simp only at hrc hrm;refine .ry<|.z .mvF<|.z .mvI<|.z .mvS<|?_;refine .y 47 (hY y no (w.pgs.getD (no-1).toNat []) xr1 cr1 (blkC (sv (xr1,(w.pgs.getD (no-1).toNat []).length,cr1))) none_ _ hlv (by omega) (by omega) hbl (ok.n6).loc1) ?_;rintro _ η9 ⟨y1,rfl,hab,q⟩;have ok:=(ok.n6).lift1 q;refine .z .not<|.nil ?_;refine .cond (fun C3=>?_) (fun C3=>?_)
 ·
  refine .ret ⟨.tuple #[],Res.none rfl,⟨Fr1,y1,by rw [←hgo,lk_stop C0 hgd (by rw [←hab];simpa using C3)];exact hab,by rw [←hgo,lk_stop C0 hgd (by rw [←hab];simpa using C3)];exact (ok.n6.n6.n6.n6.n5).k6.tR⟩⟩
 have hlv2:lv (ab y1)=true:=by simpa using C3
 rw [lk_go C0 hgd (by rw [←hab];exact hlv2),←hab,show f=w.pgs.length+1-(mt++[no]).length from by simp;omega] at hgo;have hgo2:=hgo;have hml2:(mt++[no]).length=mt.length+1:=by simp
 have hr4:=rdN_lt4 (w.pgs.getD (no-1).toNat []) 0;refine .skip<|.seq<|.r<|.z .mvS<|.k 51 .func (read_any (p:=0) (size:=4) (a:=xr1) (c:=cr1) (l:=(w.pgs.getD (no-1).toNat [])) ok.r0 (by omega) (by omega) (by omega))<|.z .mvU<|.z .ex<|.z .ex<|.z .asI<|.z .asI<|.nil ?_;refine .r<|.z .mvI<|.z (.cvi T.in3 T.in130 (ha:=by omega))<|.z .asI<|.nil ?_;refine .end<|hK1 _ _<|.end<|hJ0 _ _ _ ⟨((rdN (w.pgs.getD (no-1).toNat []) 0 4:Nat):Int),mt++[no],y1,Fr1,⟨rfl,rfl,rfl,rfl,rfl,trivial⟩,(ok.n2.n6.n6.n6.n6.n6).k7.tR,hgo2,hmt.snoc (decide_eq_true ⟨by omega,by omega,hnm⟩),hlv2,by unfold i64N;omega,rfl⟩ (by omega)
open Go Go.HL
theorem _root_.Go.HL.Hp.lenI2 {h0 h:Heap} {D:Nat→Prop} {M R:List Itm} {e:TypeId} {a:Option Addr} {n c:Nat} {l:List Int} (ok:Hp h0 D (capI 1 e (a,n,c) (l.map iv)::M) R h):n=l.length:=by
 have h1:Cap h 1 e (.slice a n c) (l.map iv):=ok.m0;have:=h1.sl.cells.1;rw [List.length_map] at this;omega
abbrev ChG:=List Int × List UInt8 × Bool
def chK (n:Nat) (ol b:List UInt8):Nat:=min (n-ol.length) (b.length-4)
def chGo (n:Nat) (g:ChG) (no:Int) (b:List UInt8):ChG:=if n≤g.2.1.length then (g.1,g.2.1,true) else (g.1++[no],g.2.1++(b.drop 4).take (chK n g.2.1 b),false)
def chLv (n:Nat) (g:ChG):Bool:=!g.2.2 && decide (g.1.length≤g.2.1.length∧g.2.1.length≤n)
def chR (w:St) (first:Int) (n:Nat):ChG × Int:=lkGo w (chGo n) (chLv n) (w.pgs.length+1) first [] ([],[],false)
def chF (w:St) (first n:Int):List Int × List UInt8 × Int:=if n<0∨16384<n∨decide (first=0)≠decide (n=0) then ([],[],1) else
 if (chR w first n.toNat).1.2.2=true then ([],[],14) else if (chR w first n.toNat).2≠0 then ([],[],(chR w first n.toNat).2) else if ((chR w first n.toNat).1.2.1.length:Int)<n then ([],[],14) else ((chR w first n.toNat).1.1,(chR w first n.toNat).1.2.1,0)
section
variable {n:Nat} {pl:List Int} {ol b:List UInt8} {no:Int} {w:St} {first:Int}
theorem chg_stop (h:n≤ol.length):chGo n (pl,ol,false) no b=(pl,ol,true):=if_pos h
theorem chg_go (h:¬n≤ol.length):chGo n (pl,ol,false) no b=(pl++[no],ol++(b.drop 4).take (chK n ol b),false):=if_neg h
theorem chK_len:((b.drop 4).take (chK n ol b)).length=chK n ol b:=by unfold chK;rw [List.length_take,List.length_drop];omega
theorem chl_go (h1:pl.length≤ol.length) (h2:ol.length≤n) (h3:¬n≤ol.length) (h4:5≤b.length):chLv n (pl++[no],ol++(b.drop 4).take (chK n ol b),false)=true:=by
 unfold chLv;have hk:=chK_len (n:=n) (ol:=ol) (b:=b);have hk2:1≤chK n ol b∧chK n ol b≤n-ol.length:=by unfold chK;omega
 simp only [Bool.not_false,Bool.true_and,decide_eq_true_eq,List.length_append,hk,List.length_cons,List.length_nil];omega
variable {m:Int}
theorem chF_1 (h:m<0∨16384<m∨decide (first=0)≠decide (m=0)):chF w first m=([],[],1):=if_pos h
variable (h:¬((n:Int)<0∨16384<(n:Int)∨decide (first=0)≠decide ((n:Int)=0)))
include h
theorem chF_s (h2:(chR w first n).1.2.2=true):chF w first (n:Int)=([],[],14):=by unfold chF;rw [if_neg h,Int.toNat_natCast,if_pos h2]
theorem chF_e (h2:(chR w first n).1.2.2=false) (h3:(chR w first n).2≠0):chF w first (n:Int)=([],[],(chR w first n).2):=by unfold chF;rw [if_neg h,Int.toNat_natCast,if_neg (by rw [h2];decide),if_pos h3]
theorem chF_l (h2:(chR w first n).1.2.2=false) (h3:(chR w first n).2=0) (h4:(chR w first n).1.2.1.length<n):chF w first (n:Int)=([],[],14):=by unfold chF;rw [if_neg h,Int.toNat_natCast,if_neg (by rw [h2];decide),if_neg (by rw [h3];decide),if_pos (by omega)]
theorem chF_0 (h2:(chR w first n).1.2.2=false) (h3:(chR w first n).2=0) (h4:¬(chR w first n).1.2.1.length<n):chF w first (n:Int)=((chR w first n).1.1,(chR w first n).1.2.1,0):=by unfold chF;rw [if_neg h,Int.toNat_natCast,if_neg (by rw [h2];decide),if_neg (by rw [h3];decide),if_neg (by omega)]
end
structure CB where
 pa:Option Addr
 pc:Nat
 pl:List Int
 oa:Option Addr
 oc:Nat
 ol:List UInt8
 sp:Bool
def CB.ab (y:CB):ChG:=(y.pl,y.ol,y.sp)
def cbSt:Bool→LoopState
 | true=>.done
 | false=>.ready
def cbPe:Bool→Option Code
 | true=>some .ret
 | false=>none
def cbL (b5 b6 b7 b8 b9 b10 l n:Nat) (lc:LpC) (y:CB):List Itm:=[boxI b9 24 [.slice y.pa y.pl.length y.pc],capI 1 3 (y.pa,y.pl.length,y.pc) (y.pl.map iv),boxI b10 44 [.slice y.oa y.ol.length y.oc],capI 1 5 (y.oa,y.ol.length,y.oc) (y.ol.map bv),boxI b5 3 [.int .i64 (n:Int)],boxI b6 24 [.slice none 0 0],boxI b7 44 [.slice none 0 0],boxI b8 34 [.int .i64 (bif y.sp then 14 else 0)],lpI lc l (cbSt y.sp) (cbPe y.sp)]
@[reducible] def cbI (b5 b6 b7 b8 b9 b10 l n:Nat) (lc:LpC) (y:CB):Itm:=starI (cbL b5 b6 b7 b8 b9 b10 l n lc y)
theorem chain_any {G:Pgr} {h:Heap} {so:Nat} {F D:Nat→Prop} {w:St} {first n:Int} (ok:Hp h D [dsI G so F w] [] h) (hf:i64N first) (hn:i64N n) :
  HC Tryz.prog 86 #[.pointer (some ⟨so,0,none⟩),.int .i64 first,.int .i64 n] h (fun v h'=>∃F' pa pc oa oc,v=.tuple #[.slice pa (chF w first n).1.length pc,.slice oa (chF w first n).2.1.length oc,.int .i64 (chF w first n).2.2]∧Hp h D [dsI G so F' w,capI 1 3 (pa,(chF w first n).1.length,pc) ((chF w first n).1.map iv),capI 1 5 (oa,(chF w first n).2.1.length,oc) ((chF w first n).2.1.map bv)] [] h'):=by
 have hso:=ds_ok ok.m0;have hfew:=St.few hso;have hzc:=okSz_c hso.z;refine HC.goR Tryz.func86 68 ?_;refine .seq<|.lift<|.r<|.a' 5 (.bxI ok) ?_;rintro _ η1 ⟨pb1,rfl,ok,xe⟩;refine .a' 6 (.alS T.zr24 ok) ?_;rintro _ η2 ⟨pb2,rfl,ok,xe⟩;refine .a' 7 (.alS T.zr44 ok) ?_;rintro _ η3 ⟨pb3,rfl,ok,xe⟩;refine .a' 8 (.alI T.zr34 ok) ?_;rintro _ η4 ⟨pb4,rfl,ok,xe⟩;refine .nil ?_;refine .end<|HSD.on<|.seq<|.lift<|.block fun K0 hK0=>.seq<|.r<|.z .mvP<|.z (.pEqS T.pt27)<|.z .asB<|.nil ?_;refine .cf<|.seq<|.r<|.z (.ldx T.ag3 ok.m3)<|.z .lss<|.z .mvB<|.sd (fun G20=>?_) (fun G20=>?_)
 ·
  refine .y<|.y<|.z .pkt<|.z .mvB<|.y<|.y<|.y<|.y<|.y<|.z .pkt<|.z .asB<|.nil ?_;refine .ct<|.seq<|.r<|.ur' (.stS T.sz24 ok.n2) ?_;rintro η5 ⟨ok,cg⟩;refine .ur' (.stS T.sz44 ok.n2) ?_;rintro η6 ⟨ok,cg⟩;refine .ur' (.stI T.sz34 ok.n2) ?_;rintro η7 ⟨ok,cg⟩;refine .nil ?_;refine .ret ⟨.tuple #[.slice none 0 0,.slice none 0 0,.int .i64 1],Res.many (vs:=[.slice none 0 0,.slice none 0 0,.int .i64 1]) rfl ⟨⟨_,rfl,load_1 T.ag24 ok.m2⟩,⟨_,rfl,load_1 T.ag44 ok.m1⟩,⟨_,rfl,load_1 T.ag34 ok.m0⟩,trivial⟩ rfl,⟨F,none,0,none,0,by rw [chF_1 (by first | exact .inl (by omega) | exact .inr (.inl (by omega)) | exact .inr (.inr (by simpa using C1)))]<;>rfl,by rw [chF_1 (by first | exact .inl (by omega) | exact .inr (.inl (by omega)) | exact .inr (.inr (by simpa using C1)))];exact (((ok.n4).k1.nilC (k:=1) (e:=5)).nilC (k:=1) (e:=3)).n2⟩⟩
 refine .z (.ldx T.ag3 ok.m3)<|.z .gtr<|.z .pkf<|.z .mvB<|.sd (fun G24=>?_) (fun G24=>?_)
 ·
  refine .y<|.y<|.y<|.y<|.y<|.z .pkt<|.z .asB<|.nil ?_;refine .ct<|.seq<|.r<|.ur' (.stS T.sz24 ok.n2) ?_;rintro η8 ⟨ok,cg⟩;refine .ur' (.stS T.sz44 ok.n2) ?_;rintro η9 ⟨ok,cg⟩;refine .ur' (.stI T.sz34 ok.n2) ?_;rintro η10 ⟨ok,cg⟩;refine .nil ?_;refine .ret ⟨.tuple #[.slice none 0 0,.slice none 0 0,.int .i64 1],Res.many (vs:=[.slice none 0 0,.slice none 0 0,.int .i64 1]) rfl ⟨⟨_,rfl,load_1 T.ag24 ok.m2⟩,⟨_,rfl,load_1 T.ag44 ok.m1⟩,⟨_,rfl,load_1 T.ag34 ok.m0⟩,trivial⟩ rfl,⟨F,none,0,none,0,by rw [chF_1 (by first | exact .inl (by omega) | exact .inr (.inl (by omega)) | exact .inr (.inr (by simpa using C1)))]<;>rfl,by rw [chF_1 (by first | exact .inl (by omega) | exact .inr (.inl (by omega)) | exact .inr (.inr (by simpa using C1)))];exact (((ok.n4).k1.nilC (k:=1) (e:=5)).nilC (k:=1) (e:=3)).n2⟩⟩
 refine .z .mvI<|.z .eql<|.z (.ldx T.ag3 ok.m3)<|.z .eql<|.z (.bNe T.bo4)<|.z .pkf<|.z .asB<|.nil ?_;refine .cond (fun C1=>?_) (fun C1=>?_)
 ·
  refine .seq<|.r<|.ur' (.stS T.sz24 ok.n2) ?_;rintro η11 ⟨ok,cg⟩;refine .ur' (.stS T.sz44 ok.n2) ?_;rintro η12 ⟨ok,cg⟩;refine .ur' (.stI T.sz34 ok.n2) ?_;rintro η13 ⟨ok,cg⟩;refine .nil ?_;refine .ret ⟨.tuple #[.slice none 0 0,.slice none 0 0,.int .i64 1],Res.many (vs:=[.slice none 0 0,.slice none 0 0,.int .i64 1]) rfl ⟨⟨_,rfl,load_1 T.ag24 ok.m2⟩,⟨_,rfl,load_1 T.ag44 ok.m1⟩,⟨_,rfl,load_1 T.ag34 ok.m0⟩,trivial⟩ rfl,⟨F,none,0,none,0,by rw [chF_1 (by first | exact .inl (by omega) | exact .inr (.inl (by omega)) | exact .inr (.inr (by simpa using C1)))]<;>rfl,by rw [chF_1 (by first | exact .inl (by omega) | exact .inr (.inl (by omega)) | exact .inr (.inr (by simpa using C1)))];exact (((ok.n4).k1.nilC (k:=1) (e:=5)).nilC (k:=1) (e:=3)).n2⟩⟩
 obtain ⟨nn,rfl⟩:∃nn:Nat,n=(nn:Int):=⟨n.toNat,by omega⟩;have hbad:¬((nn:Int)<0∨16384<(nn:Int)∨decide (first=0)≠decide ((nn:Int)=0)):=by
  rintro (h | h | h)
  ·omega
  ·omega
  ·exact h (by simpa using C1)
 refine .skip<|.end<|hK0 _ _<|.end<|HSD.on<|.seq<|.lift<|.r<|.a' 9 (.alS T.zr24 ok) ?_;rintro _ η14 ⟨pb5,rfl,ok,xe⟩;refine .nil ?_;refine .end<|HSD.on<|.seq<|.lift<|.r<|.a' 10 (.alS T.zr44 ok) ?_;rintro _ η15 ⟨pb6,rfl,ok,xe⟩;refine .nil ?_;refine .end<|HSD.on<|.seq<|.lift<|.r<|.a' 11 (.alI T.zr34 ok) ?_;rintro _ η16 ⟨pb7,rfl,ok,xe⟩;refine .ur' (.stI T.sz34 ok) ?_;rintro η17 ⟨ok,cg⟩;refine .nil ?_;refine .end<|HSD.on<|.seq<|.seq<|.lift<|.r<|.z .mvP<|.z .mvI<|.c' 33 .func (links_any (so:=so) (eb:=pb7) (first:=first)) ?_;rintro _ η18 ⟨b1k1,b2k1,b3k1,rfl,q⟩;have ok:=ok.addML q;refine .nil ?_;refine .end<|HSD.on<|.rg' (lb:=[.pointer (some ⟨b1k1,0,none⟩),.pointer (some ⟨b2k1,0,none⟩),.pointer (some ⟨b3k1,0,none⟩)]) fun lc l1 D1 η19 hlc hxr hsr hl1 hD1 hlp hdf=>?_?_;have ok:=ok.rgNew' hxr hsr hl1 hD1 hlp hdf;have hY:∀(y:CB) (no:Int) (b:List UInt8) (x:Option Addr) (c:Nat) (F2 E2:Nat→Prop) (hh:Heap),chLv nn y.ab=true→2≤no→no≤(w.pgs.length:Int)→b.length=w.z→Hp hh (cbI pb1 pb2 pb3 pb4 pb5 pb6 l1 nn lc y).F [cbI pb1 pb2 pb3 pb4 pb5 pb6 l1 nn lc y] [rdI F2 E2 (x,b.length,c) b] hh→HY Tryz.prog l1 #[.int .i64 no,.slice x b.length c] hh (fun v h'=>∃y',v=.bool (chLv nn y'.ab)∧y'.ab=chGo nn y.ab no b∧Hp hh (cbI pb1 pb2 pb3 pb4 pb5 pb6 l1 nn lc y).F [cbI pb1 pb2 pb3 pb4 pb5 pb6 l1 nn lc y'] [] h'):=by
  rintro ⟨pa,pc,pl,oa,oc,ol,sp⟩ no b x cx F2 E2 hh hlv hno1 hno2 hbl ok;obtain ⟨hsp,hpl,hol⟩:sp=false∧pl.length≤ol.length∧ol.length≤nn:=by
   have h1:=hlv;unfold chLv CB.ab at h1;simp at h1;exact ⟨h1.1,h1.2.1,h1.2.2⟩
  subst hsp;generalize hDF:(cbI pb1 pb2 pb3 pb4 pb5 pb6 l1 nn lc ⟨pa,pc,pl,oa,oc,ol,false⟩).F=DF at ok⊢;have ok:Hp hh DF [boxI pb5 24 [.slice pa pl.length pc],capI 1 3 (pa,pl.length,pc) (pl.map iv),boxI pb6 44 [.slice oa ol.length oc],capI 1 5 (oa,ol.length,oc) (ol.map bv),boxI pb1 3 [.int .i64 (nn:Int)],boxI pb2 24 [.slice none 0 0],boxI pb3 44 [.slice none 0 0],boxI pb4 34 [.int .i64 0],lpI lc l1 .ready none] [rdI F2 E2 (x,b.length,cx) b] hh:=Hp.unstar ok;have hrc:=ok.r0.c;have hrm:=ok.r0.m;simp only at hrc hrm;have hkd:chK nn ol b=min (nn-ol.length) (b.length-4):=rfl;have hkl:=chK_len (n:=nn) (ol:=ol) (b:=b);refine HY.go' (args:=[.int .i64 no,.slice x b.length cx]) hlc ok.m8 ?_;refine .seq<|.r<|.z .asI<|.nil ?_;refine .r<|.z .asS<|.nil ?_;refine .end<|⟨ok.m8,fun η20 cgl szl lpl=>?_⟩;have ok:=(ok.n8).lp cgl lpl;refine .block fun K2 hK2=>.seq<|.seq<|.r<|.z (.ldx T.ag44 ok.m3)<|.z (.len T.el44)<|.z (.ldx T.ag3 ok.m5)<|.z .geq<|.nil ?_;refine .cd (fun C2=>?_) (fun C2=>?_)
  ·
   refine .seq<|.r<|.ur' (.stS T.sz24 ok.n6) ?_;rintro η21 ⟨ok,cg⟩;refine .ur' (.stS T.sz44 ok.n7) ?_;rintro η22 ⟨ok,cg⟩;refine .ur' (.stI T.sz34 ok.n8) ?_;rintro η23 ⟨ok,cg⟩;refine .nil ?_;refine .ret<|⟨ok.m3,fun η24 cgl szl lpl=>?_⟩;have ok:=(ok.n3).lp cgl lpl;exact ⟨⟨pa,pc,pl,oa,oc,ol,true⟩,rfl,(chg_stop (show nn≤ol.length by omega)).symm,Hp.star (l:=cbL pb1 pb2 pb3 pb4 pb5 pb6 l1 nn lc ⟨pa,pc,pl,oa,oc,ol,true⟩) (M:=[]) (ok.n1.n2.n3.n8.n8.n8.n8.n8).k9.tR⟩
  refine .skip<|.seq<|.r<|.z (.ldx T.ag24 ok.m1)<|.z .mvI<|.a' 42 (.lit [.tmp 41] (cs:=[.int .i64 no]) T.el24 T.sz3 T.zr3 ok ⟨rfl,trivial⟩) ?_;rintro _ η25 ⟨pb8,rfl,ok,xe⟩;refine .a' 43 (.app (news:=[.int .i64 no]) T.el24 T.sz3 T.by3 T.zr3 ok.n3 (ok.n3.m1).sl (oneL rfl) (by simp only [List.length_map,List.length_cons,List.length_nil];omega)) ?_;rintro _ η26 ⟨ya1,yn1,yc1,rfl,ok,ap⟩;have ok:=ok.cx (ys:=(pl++[no]).map iv) snocI;obtain rfl:yn1=(pl++[no]).length:=ok.lenI2;refine .ur' (.stS T.sz24 ok.n3) ?_;rintro η27 ⟨ok,cg⟩;refine .nil ?_;refine .t 12 mixed ?_;simp only [List.take_succ_cons,List.take_zero,List.drop_succ_cons,List.drop_zero];refine .z (.ldx T.ag44 ok.m4)<|.z .mvS<|.z (.ldx T.ag3 ok.m6)<|.z (.ldx T.ag44 ok.m4)<|.z (.len T.el44)<|.z .sub<|.z .mvS<|.z (.len T.el44)<|.z .sub<|.z .min2<|.z .add<|.z (.slh 4 (4+chK nn ol b) T.el44 T.sz5)<|?_;generalize hc1:cutA x 4 cx 1=ca1;generalize hn1:(4+chK nn ol b)-4=cn1;obtain rfl:cn1=(((b.drop 4).take (chK nn ol b))).length:=by rw [←hn1];simp<;>omega
  have ok:=ok.d0 (rdI F2 E2 (ca1,(((b.drop 4).take (chK nn ol b))).length,cx-4) ((b.drop 4).take (chK nn ol b))) (by have h1:=ok.r0.cut (i:=4) (j:=(4+chK nn ol b)) (by omega) (by omega);rw [show ((b).drop 4).take ((4+chK nn ol b)-4)=((b.drop 4).take (chK nn ol b)) from (by rw [show 4+chK nn ol b-4=chK nn ol b from by omega])] at h1;rw [←hc1,←hn1];exact h1) (fun _ h=>h);refine .nil ?_;refine .a' 56 (.app (news:=((b.drop 4).take (chK nn ol b)).map bv) T.el44 T.sz5 T.by5 T.zr5 ok.n5 (ok.n5.r0).by bv_all (by simp only [List.length_map,List.length_append,List.length_take,List.length_cons,List.length_nil,List.length_replicate,List.length_range,fixedN_len,sealN_len];omega)) ?_;rintro _ η28 ⟨ya2,yn2,yc2,rfl,ok,ap⟩;have ok:=ok.cx (ys:=(ol++((b.drop 4).take (chK nn ol b))).map bv) (by simp [bv]);obtain rfl:yn2=(ol++((b.drop 4).take (chK nn ol b))).length:=ok.lenB;refine .ur' (.stS T.sz44 ok.n5) ?_;rintro η29 ⟨ok,cg⟩;refine .nil ?_;refine .end<|hK2 _ _<|.end<|⟨ok.m5,fun η30 cgl szl lpl=>?_⟩;have ok:=(ok.n5).lp cgl lpl;exact ⟨⟨ya1,yc1,(pl++[no]),ya2,yc2,ol++((b.drop 4).take (chK nn ol b)),false⟩,congrArg Value.bool (chl_go hpl hol (by omega) (by omega)).symm,(chg_go (show ¬nn≤ol.length by omega)).symm,Hp.star (l:=cbL pb1 pb2 pb3 pb4 pb5 pb6 l1 nn lc ⟨ya1,yc1,(pl++[no]),ya2,yc2,ol++((b.drop 4).take (chK nn ol b)),false⟩) (M:=[]) (ok.n9.n9.n9.n9.n6.n6.n8.n8).k9.tR.tR⟩
 have ok:=(ok.nilC (k:=1) (e:=5)).nilC (k:=1) (e:=3);have ok:=Hp.star (l:=cbL pb1 pb2 pb3 pb4 pb5 pb6 l1 nn lc ⟨none,0,[],none,0,[],false⟩) (M:=[dfI D1,boxI b1k1 3 [.int .i64 first],boxI b2k1 27 [.pointer (some ⟨so,0,none⟩)],boxI b3k1 193 [.pointer (some ⟨pb7,0,none⟩)],boxI pb7 34 [.int .i64 0],dsI G so F w]) (ok.n2.n10.n11.n12.n13.n6.n12.n7.n13);have okf:Hp h D ([dsI G so F w,boxI b1k1 3 [.int .i64 first],boxI b2k1 27 [.pointer (some ⟨so,0,none⟩)],boxI b3k1 193 [.pointer (some ⟨pb7,0,none⟩)],boxI pb7 34 [.int .i64 0],cbI pb1 pb2 pb3 pb4 pb5 pb6 l1 nn lc ⟨none,0,[],none,0,[],false⟩]++[dfI D1]) [] _:=ok.n5.n5.n5.n5.n6;refine HC.mono (links1_any (ab:=CB.ab) (go:=chGo nn) (lv:=chLv nn) (Y:=cbI pb1 pb2 pb3 pb4 pb5 pb6 l1 nn lc) (y0:=⟨none,0,[],none,0,[],false⟩) hY (by simp [chLv,CB.ab]) hf (Hp.locL [dsI G so F w,boxI b1k1 3 [.int .i64 first],boxI b2k1 27 [.pointer (some ⟨so,0,none⟩)],boxI b3k1 193 [.pointer (some ⟨pb7,0,none⟩)],boxI pb7 34 [.int .i64 0],cbI pb1 pb2 pb3 pb4 pb5 pb6 l1 nn lc ⟨none,0,[],none,0,[],false⟩] okf)) ?_;rintro _ η31 ⟨Fl,⟨pa,pc,pl,oa,oc,ol,_ | _⟩,hab,q⟩
 ·
  have ok:=Hp.liftL [dsI G so F w,boxI b1k1 3 [.int .i64 first],boxI b2k1 27 [.pointer (some ⟨so,0,none⟩)],boxI b3k1 193 [.pointer (some ⟨pb7,0,none⟩)],boxI pb7 34 [.int .i64 0],cbI pb1 pb2 pb3 pb4 pb5 pb6 l1 nn lc ⟨none,0,[],none,0,[],false⟩] okf q;have ok:Hp h D [boxI pb5 24 [.slice pa pl.length pc],capI 1 3 (pa,pl.length,pc) (pl.map iv),boxI pb6 44 [.slice oa ol.length oc],capI 1 5 (oa,ol.length,oc) (ol.map bv),boxI pb1 3 [.int .i64 (nn:Int)],boxI pb2 24 [.slice none 0 0],boxI pb3 44 [.slice none 0 0],boxI pb4 34 [.int .i64 0],lpI lc l1 .ready none,dsI G so Fl w,boxI b1k1 3 [.int .i64 first],boxI b2k1 27 [.pointer (some ⟨so,0,none⟩)],boxI b3k1 193 [.pointer (some ⟨pb7,0,none⟩)],boxI pb7 34 [.int .i64 ((chR w first nn).2)],dfI D1] [] _:=Hp.unstar (ok.n5);have hch:(chR w first nn).1=(pl,ol,false):=hab.symm;have hsp:(chR w first nn).1.2.2=false:=by rw [hch]
  refine ⟨.ready,none,by decide,ok.m8,fun η32 cgl szl=>?_⟩;have ok:=(ok.n8).lpEnd cgl;show HS none _ _ _ _ _ _;refine .seq<|.block fun K3 hK3=>.seq<|.r<|.z (.ldx T.ag34 ok.m12)<|.z .neq<|.z .asB<|.nil ?_;refine .cd (fun C3=>?_) (fun C3=>?_)
  ·
   have hev:(chR w first nn).2≠0:=C3;refine .seq<|.a 3 (fun fl hh=>cond fl True (Hp h D [boxI pb5 24 [.slice pa pl.length pc],capI 1 3 (pa,pl.length,pc) (pl.map iv),boxI pb6 44 [.slice oa ol.length oc],capI 1 5 (oa,ol.length,oc) (ol.map bv),boxI pb1 3 [.int .i64 (nn:Int)],boxI pb4 34 [.int .i64 0],dsI G so Fl w,boxI b1k1 3 [.int .i64 first],boxI b2k1 27 [.pointer (some ⟨so,0,none⟩)],boxI b3k1 193 [.pointer (some ⟨pb7,0,none⟩)],boxI pb7 34 [.int .i64 ((chR w first nn).2)],dfI D1] [] hh)) mixed ?_;have hS:=ok.n13.n13.n13.n13.n13.n13.n13.n11.n11.n11.n11.n11.k12;refine .l 0 false rfl 60 hS (fun _ hS=>.ldx T.ag34 hS.m10)<|.o1 1<|.ur' false rfl (.stS T.sz24 ok.n5) ?_;rintro η33 ⟨ok,cg⟩;refine ⟨ok.n13.n13.n13.n13.n13.n13.n13.n12.n12.n12.n12.n12.k12,?_⟩;have hS:=ok.n13.n13.n13.n13.n13.n13.n13.n12.n12.n12.n12.n12.k12;refine .o1 2<|.ur' false rfl (.stS T.sz44 ok.n6) ?_;rintro η34 ⟨ok,cg⟩;refine ⟨ok.n13.n13.n13.n13.n13.n13.n13.n13.n13.n13.n13.n13.k12,?_⟩;have hS:=ok.n13.n13.n13.n13.n13.n13.n13.n13.n13.n13.n13.n13.k12;refine .o1 3<|.ur' true rfl (.stI T.sz34 ok.n7) ?_;rintro η35 ⟨ok,cg⟩;refine ⟨trivial,?_⟩;refine .e ?_;refine .ret ⟨D1,rfl,ok.m13,fun η36 cgd szd=>?_⟩;have ok:=(ok.n13).df cgd;refine ⟨.tuple #[.slice none 0 0,.slice none 0 0,.int .i64 ((chR w first nn).2)],Res.many (vs:=[.slice none 0 0,.slice none 0 0,.int .i64 ((chR w first nn).2)]) rfl ⟨⟨_,rfl,load_1 T.ag24 ok.m2⟩,⟨_,rfl,load_1 T.ag44 ok.m1⟩,⟨_,rfl,load_1 T.ag34 ok.m0⟩,trivial⟩ rfl,⟨Fl,none,0,none,0,by rw [chF_e hbad hsp hev]<;>rfl,by rw [chF_e hbad hsp hev];exact (((ok.n8).k1.nilC (k:=1) (e:=5)).nilC (k:=1) (e:=3)).n2⟩⟩
  have hev:(chR w first nn).2=0:=by simpa using C3
  refine .seq<|.r<|.z (.ldx T.ag44 ok.m2)<|.z (.len T.el44)<|.z (.ldx T.ag3 ok.m4)<|.z .lss<|.z .asB<|.nil ?_;refine .cd (fun C4=>?_) (fun C4=>?_)
  ·
   have hlen:(chR w first nn).1.2.1.length<nn:=by rw [hch];show ol.length<nn;omega
   refine .seq<|.r<|.ur' (.stS T.sz24 ok.n5) ?_;rintro η37 ⟨ok,cg⟩;refine .ur' (.stS T.sz44 ok.n6) ?_;rintro η38 ⟨ok,cg⟩;refine .ur' (.stI T.sz34 ok.n7) ?_;rintro η39 ⟨ok,cg⟩;refine .nil ?_;refine .ret ⟨D1,rfl,ok.m13,fun η40 cgd szd=>?_⟩;have ok:=(ok.n13).df cgd;refine ⟨.tuple #[.slice none 0 0,.slice none 0 0,.int .i64 14],Res.many (vs:=[.slice none 0 0,.slice none 0 0,.int .i64 14]) rfl ⟨⟨_,rfl,load_1 T.ag24 ok.m2⟩,⟨_,rfl,load_1 T.ag44 ok.m1⟩,⟨_,rfl,load_1 T.ag34 ok.m0⟩,trivial⟩ rfl,⟨Fl,none,0,none,0,by rw [chF_l hbad hsp hev hlen]<;>rfl,by rw [chF_l hbad hsp hev hlen];exact (((ok.n8).k1.nilC (k:=1) (e:=5)).nilC (k:=1) (e:=3)).n2⟩⟩
  have hlen:¬(chR w first nn).1.2.1.length<nn:=by rw [hch];show ¬ol.length<nn;omega
  refine .skip<|.end<|hK3 _ _<|.seq<|.a 3 (fun fl hh=>cond fl True (Hp h D [boxI pb5 24 [.slice pa pl.length pc],capI 1 3 (pa,pl.length,pc) (pl.map iv),boxI pb6 44 [.slice oa ol.length oc],capI 1 5 (oa,ol.length,oc) (ol.map bv),boxI pb1 3 [.int .i64 (nn:Int)],boxI pb3 44 [.slice none 0 0],boxI pb4 34 [.int .i64 0],dsI G so Fl w,boxI b1k1 3 [.int .i64 first],boxI b2k1 27 [.pointer (some ⟨so,0,none⟩)],boxI b3k1 193 [.pointer (some ⟨pb7,0,none⟩)],boxI pb7 34 [.int .i64 ((chR w first nn).2)],dfI D1] [] hh)) mixed ?_;have hS:=ok.n13.n13.n13.n13.n13.n13.n13.n13.n12.n12.n12.n12.n12.k13;refine .l 0 false rfl 66 hS (fun _ hS=>.ldx T.ag24 hS.m0)<|.l 1 false rfl 67 hS (fun _ hS=>.ldx T.ag44 hS.m2)<|.o1 2<|.ur' false rfl (.stS T.sz24 ok.n5) ?_;rintro η41 ⟨ok,cg⟩;refine ⟨ok.n13.n13.n13.n13.n13.n13.n13.n13.n13.n13.n13.n13.n13.k13,?_⟩;have hS:=ok.n13.n13.n13.n13.n13.n13.n13.n13.n13.n13.n13.n13.n13.k13;refine .o1 3<|.ur' true rfl (.stS T.sz44 ok.n6) ?_;rintro η42 ⟨ok,cg⟩;refine ⟨trivial,?_⟩;refine .o1 4<|.ur' true rfl (.stI T.sz34 ok.n7) ?_;rintro η43 ⟨ok,cg⟩;refine ⟨trivial,?_⟩;refine .e ?_;refine .ret ⟨D1,rfl,ok.m13,fun η44 cgd szd=>?_⟩;have ok:=(ok.n13).df cgd;refine ⟨.tuple #[.slice pa pl.length pc,.slice oa ol.length oc,.int .i64 0],Res.many (vs:=[.slice pa pl.length pc,.slice oa ol.length oc,.int .i64 0]) rfl ⟨⟨_,rfl,load_1 T.ag24 ok.m2⟩,⟨_,rfl,load_1 T.ag44 ok.m1⟩,⟨_,rfl,load_1 T.ag34 ok.m0⟩,trivial⟩ rfl,⟨Fl,pa,pc,oa,oc,by rw [chF_0 hbad hsp hev hlen,hch]<;>rfl,by rw [chF_0 hbad hsp hev hlen,hch];exact (ok.n6.n5.n8).k3⟩⟩
 have ok:=Hp.liftL [dsI G so F w,boxI b1k1 3 [.int .i64 first],boxI b2k1 27 [.pointer (some ⟨so,0,none⟩)],boxI b3k1 193 [.pointer (some ⟨pb7,0,none⟩)],boxI pb7 34 [.int .i64 0],cbI pb1 pb2 pb3 pb4 pb5 pb6 l1 nn lc ⟨none,0,[],none,0,[],false⟩] okf q;have ok:Hp h D [boxI pb5 24 [.slice pa pl.length pc],capI 1 3 (pa,pl.length,pc) (pl.map iv),boxI pb6 44 [.slice oa ol.length oc],capI 1 5 (oa,ol.length,oc) (ol.map bv),boxI pb1 3 [.int .i64 (nn:Int)],boxI pb2 24 [.slice none 0 0],boxI pb3 44 [.slice none 0 0],boxI pb4 34 [.int .i64 14],lpI lc l1 .done (some .ret),dsI G so Fl w,boxI b1k1 3 [.int .i64 first],boxI b2k1 27 [.pointer (some ⟨so,0,none⟩)],boxI b3k1 193 [.pointer (some ⟨pb7,0,none⟩)],boxI pb7 34 [.int .i64 ((chR w first nn).2)],dfI D1] [] _:=Hp.unstar (ok.n5);have hch:(chR w first nn).1=(pl,ol,true):=hab.symm;refine ⟨.done,(some .ret),by decide,ok.m8,fun η45 cgl szl=>?_⟩;have ok:=(ok.n8).lpEnd cgl;show finR _ _ _ [col D1] .ret _ _;refine ⟨D1,rfl,ok.m13,fun η46 cgd szd=>?_⟩;have ok:=(ok.n13).df cgd;refine ⟨.tuple #[.slice none 0 0,.slice none 0 0,.int .i64 14],Res.many (vs:=[.slice none 0 0,.slice none 0 0,.int .i64 14]) rfl ⟨⟨_,rfl,load_1 T.ag24 ok.m5⟩,⟨_,rfl,load_1 T.ag44 ok.m6⟩,⟨_,rfl,load_1 T.ag34 ok.m7⟩,trivial⟩ rfl,⟨Fl,none,0,none,0,by rw [chF_s hbad (by rw [hch])]<;>rfl,by rw [chF_s hbad (by rw [hch])];exact (((ok.n8).k1.nilC (k:=1) (e:=5)).nilC (k:=1) (e:=3)).n2⟩⟩
open Go Go.HL
def cntM (l:List (Int × Nat)) (out:List Int):Prop:=∀k,(mget l k).getD 0=out.count k
theorem cntM_nil:cntM [] []:=fun k=>rfl
theorem cntM_put {l:List (Int × Nat)} {out:List Int} {no:Int} (c:cntM l out):cntM (mput l no (out.count no+1)) (out++[no]):=fun k=>by
 rw [mget_mput,List.count_append,List.count_singleton];by_cases h:k=no
 ·subst h;simp
 ·rw [if_neg h,c k];have:(no == k)=false:=by simpa using fun e=>h e.symm
  rw [this];simp
theorem atE_put {l:List (Int × Nat)} {k:Int} {n:Nat} : aput (atE l) k (iv' n)=atE (mput l k n):=aput_mp
def eachL (mb ob hb:Nat) (H:Hd) (mm:Nat) (l:List (Int × Nat)) (a:Option Addr) (c:Nat) (out:List Int):List Itm:=[boxI mb 180 [.map (some mm)],mapI (Value.int .i64) mm (atE l),boxI ob 24 [.slice a out.length c],capI 1 3 (a,out.length,c) (out.map iv),boxI hb 38 [.int .i64 H.size,.int .i64 H.pages,.int .i64 H.free,.int .i64 H.many,.int .i64 H.cookie,.int .i64 H.version]]
@[reducible] def eachI (mb ob hb:Nat) (H:Hd) (F:Nat→Prop) (out:List Int):Itm:=⟨fun h=>∃mm l a c,(starI (eachL mb ob hb H mm l a c out)).p h∧(∀j,(starI (eachL mb ob hb H mm l a c out)).F j→F j)∧cntM l out,F,fun _ _ _ c g ⟨mm,l,a,c',q,f,n⟩=>⟨mm,l,a,c',(starI (eachL mb ob hb H mm l a c' out)).st _ _ _ c (fun j hj=>g j (f j hj)) q,f,n⟩⟩
section
variable {h h':Heap} {mb ob hb:Nat} {H:Hd} {F D:Nat→Prop} {out:List Int} {M R:List Itm}
theorem each_open (ok:Hp h F [eachI mb ob hb H F out] [] h):∃mm l a c,cntM l out∧Hp h (starI (eachL mb ob hb H mm l a c out)).F (eachL mb ob hb H mm l a c out) [] h∧∀j,(starI (eachL mb ob hb H mm l a c out)).F j→F j:=by
 obtain ⟨mm,l,a,c,q,f,n⟩:=ok.m0;have hl:=(ok.m _ List.mem_cons_self).2;refine ⟨mm,l,a,c,n,?_,f⟩;have o:Hp h (starI (eachL mb ob hb H mm l a c out)).F [starI (eachL mb ob hb H mm l a c out)] [] h:=⟨Chg.refl _ _,fun i hi=>by rw [List.mem_singleton.1 hi];exact ⟨q,fun j hj=>⟨(hl j (f j hj)).1,.inl hj⟩⟩,by simp,List.pairwise_singleton _ _,by simp⟩;simpa using Hp.unstar o
theorem each_close {mm:Nat} {l:List (Int × Nat)} {a:Option Addr} {c:Nat} (q:Hp h D (eachL mb ob hb H mm l a c out++M) R h') (hD:∀j,D j→F j) (n:cntM l out):Hp h F (eachI mb ob hb H (starI (eachL mb ob hb H mm l a c out)).F out::M) R h':=by
 have q:=Hp.star q;exact ⟨q.chg.mono fun j _=>hD j,fun i hi=>by
  rcases List.mem_cons.1 hi with rfl | hi
  ·have:=q.m _ List.mem_cons_self;exact ⟨⟨mm,l,a,c,this.1,fun _ h=>h,n⟩,fun j hj=>⟨(this.2 j hj).1,(this.2 j hj).2.imp (hD j) id⟩⟩
  ·have:=q.m i (List.mem_cons_of_mem _ hi);exact ⟨this.1,fun j hj=>⟨(this.2 j hj).1,(this.2 j hj).2.imp (hD j) id⟩⟩,q.r,List.pairwise_cons.2 (List.pairwise_cons.1 q.mm),fun a ha b hb=>by
  rcases List.mem_cons.1 ha with rfl | ha
  ·exact q.mr _ List.mem_cons_self b hb
  ·exact q.mr a (List.mem_cons_of_mem _ ha) b hb⟩
end
theorem put4_spl {l:List UInt8} {p n:Nat} : spl (l.map bv) (p*1) ((fixedN n 4).map bv)=(put4 l p n).map bv:=by
 unfold spl put4;rw [Nat.mul_one,List.map_append,List.map_append,List.map_take,List.map_drop,List.length_map,fixedN_len]
theorem _root_.Go.HL.Hp.lenI {h0 h:Heap} {D:Nat→Prop} {M R:List Itm} {e:TypeId} {a:Option Addr} {n c:Nat} {l:List Int} (ok:Hp h0 D (capI 1 e (a,n,c) (l.map iv)::M) R h):n=l.length:=by
 have h1:Cap h 1 e (.slice a n c) (l.map iv):=ok.m0;have:=h1.sl.cells.1;rw [List.length_map] at this;omega
theorem frOk_iff {N:Nat} {out:List Int} {no:Int} : frOk N out no=true↔2≤no∧no≤(N:Int)∧no∉out:=decide_eq_true_iff
theorem fnum_any {h:Heap} {F E:Nat→Prop} {a:Option Addr} {c p:Nat} {l:List UInt8} (hl:RdL h F E (a,l.length,c) l) (hp:p+4≤l.length) :
  HC Tryz.prog 75 #[.slice a l.length c,.int .i64 (p:Int)] h (fun v h'=>v=.int .i64 ((rdN l p 4:Nat):Int)∧h'=h):=by
 have hc2:=hl.m;have hc1:l.length≤c:=hl.c;simp only at hc2;have hr4:=rdN_lt4 l p;refine HC.go Tryz.func75 15 ?_;refine .seq<|.r<|.z .asI<|.nil ?_;refine .seq<|.r<|.z .mvS<|.z .mvI<|.k 10 .func (read_any (p:=p) (size:=4) (a:=a) (c:=c) (l:=l) hl (by omega) (by omega) (by omega))<|.z .mvU<|.z .ex<|.z .ex<|.z .asI<|.z .asI<|.nil ?_;refine .seq<|.r<|.z .mvI<|.z (.cvi T.in3 T.in130 (ha:=by omega))<|.z .asI<|.nil ?_;refine .ret ⟨.int .i64 (((rdN l p 4):Nat):Int),Res.one rfl rfl,⟨rfl,rfl⟩⟩
theorem ftold_any {h:Heap} {no e:Int} :
  HC Tryz.prog 79 #[.int .i64 no,.int .i64 e] h (fun v h'=>v=.tuple #[.int .i64 (if e=0 then no else 0),.int .i64 e]∧h'=h):=by
 refine HC.go Tryz.func79 10 ?_;refine .seq<|.r<|.z .asI<|.z .asI<|.nil ?_;refine .seq<|.seq<|.r<|.z .mvI<|.z .neq<|.nil ?_;refine .cd (fun C0=>?_) (fun C0=>?_)
 ·
  refine .seq<|.r<|.z .mvI<|.z .asI<|.z .asI<|.nil ?_;refine .ret ⟨.tuple #[.int .i64 0,.int .i64 e],Res.two rfl rfl rfl,⟨by rw [if_neg C0],rfl⟩⟩
 refine .skip<|.seq<|.r<|.z .mvI<|.z .asI<|.z .asI<|.nil ?_;refine .ret ⟨.tuple #[.int .i64 no,.int .i64 0],Res.two rfl rfl rfl,⟨by rw [if_pos (Decidable.not_not.1 C0),Decidable.not_not.1 C0],rfl⟩⟩
theorem froom_any {G:Pgr} {h:Heap} {so:Nat} {F:Nat→Prop} {w:St} (hd:(dsI G so F w).p h) :
  HC Tryz.prog 76 #[.pointer (some ⟨so,0,none⟩)] h (fun v h'=>v=.int .i64 (((w.z-8) / 4:Nat):Int)∧h'=h):=by
 have hzc:=okSz_c (ds_ok hd).z;refine HC.go Tryz.func76 7 ?_;refine .seq<|.r<|.z .asI<|.nil ?_;refine .seq<|.r<|.z .mvP<|.k 4 .func (sSize_any (G:=G) (F:=F) (w:=w) hd)<|.z .sub<|.z .quo<|.z .asI<|.nil ?_;refine .ret ⟨.int .i64 (((w.z:Int)-8) / 4),Res.one rfl rfl,⟨by congr 1;omega,rfl⟩⟩
theorem fput0_any {h:Heap} {a:Option Addr} {c p n:Nat} {l:List UInt8} {D:Nat→Prop} (ok:Hp h D [capI 1 5 (a,l.length,c) (l.map bv)] [] h) (hp:p+4≤l.length) (hn:n<4294967296) (hl:l.length≤1000000) :
  HC Tryz.prog 77 #[.slice a l.length c,.int .i64 (p:Int),.int .i64 (n:Int)] h (fun v h'=>v=.tuple #[]∧Hp h D [capI 1 5 (a,l.length,c) ((put4 l p n).map bv)] [] h'):=by
 refine HC.go Tryz.func77 13 ?_;refine .a 5 (fun fl hh=>cond fl True (Hp h D [capI 1 5 (a,l.length,c) (l.map bv)] [] hh)) mixed ?_;have hS:=ok;refine .g 0 false rfl 6 hS (fun _=>.mvS)<|.g 1 false rfl 7 hS (fun _=>.mvI)<|.g 2 false rfl 8 hS (fun _=>.sll p T.el44 T.sz5)<|.g 3 false rfl 9 hS (fun _=>.mvI)<|.g 4 false rfl 10 hS (fun _=>.cvs T.in130 T.in3 (M:=18446744073709551616) rfl rfl)<|.o1 5<|.c' true rfl 11 .func (fixed_any (n:=n) (size:=4) (by omega) (by omega) (by omega)) ?_;rintro _ η1 own;obtain ⟨ya1,yc1,rfl⟩:=own.formB;have ok:=ok.own own;refine ⟨trivial,?_⟩;refine .o1 6<|.a' true rfl 12 (.cpyA (n:=l.length) (ys:=(fixedN n 4).map bv) (m:=(fixedN n 4).length) p T.el44 T.sz5 ok.n1 ok.n1.m1.sl bv_all rfl (him:=by rw [fixedN_len];omega)) ?_;rintro _ η2 ⟨rfl,ok,cg⟩;refine ⟨trivial,?_⟩;refine .e ?_;refine .end<|⟨.tuple #[],Res.none rfl,⟨rfl,ok.k1.cx put4_spl⟩⟩
theorem fput_any {h:Heap} {a:Option Addr} {c p m n:Nat} {l:List UInt8} {D:Nat→Prop} (ok:Hp h D [capI 1 5 (a,m,c) (l.map bv)] [] h) (hp:p+4≤l.length) (hn:n<4294967296) (hl:l.length≤1000000) :
  HC Tryz.prog 77 #[.slice a m c,.int .i64 (p:Int),.int .i64 (n:Int)] h (fun v h'=>v=.tuple #[]∧Hp h D [capI 1 5 (a,m,c) ((put4 l p n).map bv)] [] h'):=by
 obtain rfl:m=l.length:=ok.lenB;exact fput0_any ok hp hn hl
theorem feach_any {h:Heap} {mb ob hb N:Nat} {H:Hd} {F:Nat→Prop} {out:List Int} {no:Int} (ok:Hp h F [eachI mb ob hb H F out] [] h) (hN:H.pages=(N:Int)) (ho:out.length≤1000000) :
  HC Tryz.prog 123 #[.int .i64 no,.pointer (some ⟨mb,0,none⟩),.pointer (some ⟨ob,0,none⟩),.pointer (some ⟨hb,0,none⟩)] h (fun v h'=>v=.bool (frOk N out no)∧∃F',Hp h F [eachI mb ob hb H F' (out++[no])] [] h'):=by
 obtain ⟨mm,l,a,c,hc,ok,hf⟩:=each_open ok;generalize (starI (eachL mb ob hb H mm l a c out)).F=DF at ok hf;have ok:Hp h DF [boxI mb 180 [.map (some mm)],mapI (Value.int .i64) mm (atE l),boxI ob 24 [.slice a out.length c],capI 1 3 (a,out.length,c) (out.map iv),boxI hb 38 [.int .i64 H.size,.int .i64 H.pages,.int .i64 H.free,.int .i64 H.many,.int .i64 H.cookie,.int .i64 H.version]] [] h:=ok;have hcn:=hc no;have hcl:out.count no≤out.length:=List.count_le_length;have hcm:no∉out→out.count no=0:=fun h=>List.count_eq_zero.2 h;refine HC.go Tryz.func123 28 ?_;refine .seq<|.r<|.z .asB<|.nil ?_;refine .seq<|.r<|.z (.ldx T.ag180 ok.m0)<|.z .mvI<|.z (.lk (KV.int .i64) no (v:=.int .i64 ((out.count no:Nat):Int)) T.mp180 (inB_iff T.in3) T.zr3 ok.m1 (by rw [at_get,hcn]))<|.z (.addI (b:=1))<|.ur' (.mpu (KV.int .i64) V.sbI no (v:=iv' (out.count no+1)) T.mp180 (inB_iff T.in3) ok.n1) ?_;rintro η1 ok;rw [atE_put] at ok;refine .nil ?_;refine .seq<|.r<|.z (.ldx T.ag24 ok.m2)<|.z .mvI<|.a' 12 (.lit [.tmp 11] (cs:=[.int .i64 no]) T.el24 T.sz3 T.zr3 ok ⟨rfl,trivial⟩) ?_;rintro _ η2 ⟨pb1,rfl,ok,xe⟩;refine .a' 13 (.app (news:=[.int .i64 no]) T.el24 T.sz3 T.by3 T.zr3 ok.n4 (ok.n4.m1).sl (oneL rfl) (by simp only [List.length_map,List.length_cons,List.length_nil];omega)) ?_;rintro _ η3 ⟨ya1,yn1,yc1,rfl,ok,ap⟩;have ok:=(ok).cx (ys:=(out++[no]).map iv) snocI;obtain rfl:yn1=(out++[no]).length:=ok.lenI;refine .ur' (.stS T.sz24 ok.n4) ?_;rintro η4 ⟨ok,cg⟩;refine .nil ?_;refine .seq<|.r<|.z .mvI<|.z .geq<|.z .mvB<|.sd (fun G16=>?_) (fun G16=>?_)
 ·
  refine .z .mvI<|.z (.fa T.fd38_1)<|.z (.ldx T.ag3 ok.m5)<|.z .leq<|.z .pkt<|.z .mvB<|.sd (fun G22=>?_) (fun G22=>?_)
  ·
   refine .z (.ldx T.ag180 ok.m4)<|.z .mvI<|.z (.lk (KV.int .i64) no (v:=.int .i64 ((out.count no+1:Nat):Int)) T.mp180 (inB_iff T.in3) T.zr3 ok.m3 (by rw [at_get,mget_mput,if_pos rfl];rfl))<|.z .eql<|.z .pkt<|.z .asB<|.nil ?_;refine .ret ⟨.bool (decide (((out.count no+1:Nat):Int)=1)),Res.one rfl rfl,⟨congrArg Value.bool (decide_eq_decide.2 ⟨fun h=>⟨by omega,by omega,List.count_eq_zero.1 (by omega)⟩,fun h=>by have:=hcm h.2.2;omega⟩),_,each_close (M:=[]) (R:=[]) (ok.n5.n2.n2.n4.n5.k5) hf (cntM_put hc)⟩⟩
  refine .y<|.y<|.y<|.y<|.z .pkf<|.z .asB<|.nil ?_;refine .ret ⟨.bool false,Res.one rfl rfl,⟨congrArg Value.bool (Eq.symm (Bool.eq_false_iff.2 fun h=>by have:=frOk_iff.1 h;have:=hcm this.2.2;omega)),_,each_close (M:=[]) (R:=[]) (ok.n5.n2.n2.n4.n5.k5) hf (cntM_put hc)⟩⟩
 refine .y<|.y<|.y<|.y<|.z .pkf<|.z .mvB<|.y<|.y<|.y<|.y<|.z .pkf<|.z .asB<|.nil ?_;refine .ret ⟨.bool false,Res.one rfl rfl,⟨congrArg Value.bool (Eq.symm (Bool.eq_false_iff.2 fun h=>by have:=frOk_iff.1 h;have:=hcm this.2.2;omega)),_,each_close (M:=[]) (R:=[]) (ok.n5.n2.n2.n4.n5.k5) hf (cntM_put hc)⟩⟩
open Go Go.HL
theorem fpages_any {G:Pgr} {h:Heap} {so mb ob hb:Nat} {F Fe:Nat→Prop} {w:St} {H:Hd} {R:Option (List Int)} (ok:Hp h (starI [dsI G so F w,eachI mb ob hb H Fe []]).F [dsI G so F w,eachI mb ob hb H Fe []] [] h) (hN:H.pages=(w.pgs.length:Int)) (hR:frGo w.pgs ((w.z-8) / 4) (w.pgs.length+1) w.head.free []=R) :
  HC Tryz.prog 122 #[.pointer (some ⟨so,0,none⟩),.func (.func 123) #[] #[.pointer (some ⟨mb,0,none⟩),.pointer (some ⟨ob,0,none⟩),.pointer (some ⟨hb,0,none⟩)]] h (fun v h'=>∃(c:Nat) (F' Fe':Nat→Prop) (out:List Int),v=.int .i64 (c:Int)∧Hp h (starI [dsI G so F w,eachI mb ob hb H Fe []]).F [dsI G so F' w,eachI mb ob hb H Fe' out] [] h'∧((R=some out∧c=0)∨(R=none∧c=14))):=by
 have hso:=ds_ok ok.m0;have hzc:=okSz_c hso.z;have hfew:=St.few hso;refine HC.go Tryz.func122 49 ?_;refine .seq<|.r<|.z .asI<|.nil ?_;refine .seq<|.seq<|.r<|.z .mvP<|.c' 11 .func (sHead_any (G:=G) (w:=w) (ok).loc0) ?_;rintro _ η1 ⟨Fh1,rfl,q⟩;have ok:=(ok).lift1 q;rw [show w.head.val=.agg #[.int .i64 w.head.size,.int .i64 w.head.pages,.int .i64 w.head.free,.int .i64 w.head.many,.int .i64 w.head.cookie,.int .i64 w.head.version] from rfl];refine .z (.fd T.fd38_2 T.ag3)<|.z .asI<|.nil ?_;refine .block fun K0 hK0=>.loop (fun m s hh=>∃(at_:Int) (out:List Int) (f:Nat) (F1 Fe1:Nat→Prop),Has s [(0,.pointer (some ⟨so,0,none⟩)),(1,.func (.func 123) #[] #[.pointer (some ⟨mb,0,none⟩),.pointer (some ⟨ob,0,none⟩),.pointer (some ⟨hb,0,none⟩)]),(5,.int .i64 at_)]∧Hp h (starI [dsI G so F w,eachI mb ob hb H Fe []]).F [dsI G so F1 w,eachI mb ob hb H Fe1 out] [] hh∧Met w.pgs.length out∧frGo w.pgs ((w.z-8) / 4) f at_ out=R∧w.pgs.length+1≤out.length+f∧m=f*1) ?_ ?_
 ·exact ⟨_,w.head.free,[],w.pgs.length+1,Fh1,Fe,⟨rfl,rfl,rfl,trivial⟩,ok.n1.n1,Met.nil,hR,by simp,rfl⟩
 rintro _ _ η2 ⟨at_,out,f,F1,Fe1,hs,ok,hm,hg,hf,rfl⟩ J0 hJ0;refine .frame hs fun τ=>?_;refine .seq<|.seq<|?_;have hlen:=hm.len;obtain ⟨f,rfl⟩:∃g,f=g+1:=⟨f-1,by omega⟩;refine .r<|.z .mvI<|.z .neq<|.nil ?_;refine .cdr (fun C0=>?_) (fun C0=>?_)
 ·
  have hat:at_=0:=Decidable.not_not.1 C0;refine .exit<|hK0 _ _<|.seq<|.r<|.z .asI<|.nil ?_;refine .ret ⟨.int .i64 0,Res.one rfl rfl,⟨0,F1,Fe1,out,rfl,(ok),.inl ⟨by rw [←hg,hat];exact frGo_0,rfl⟩⟩⟩
 refine .skip<|.block fun K1 hK1=>.seq<|.seq<|.r<|.z .mvF<|.z .mvI<|.c' 17 .dyn (feach_any (N:=w.pgs.length) (H:=H) (out:=out) (no:=at_) (ok.n1).loc0 hN (by first | omega | (have:=hmo.len;omega))) ?_;rintro _ η3 ⟨rfl,Fc1,q⟩;have ok:=(ok.n1).lift1 q;refine .z .not<|.nil ?_;refine .cond (fun C1=>?_) (fun C1=>?_)
 ·
  refine .seq<|.r<|.z .asI<|.nil ?_;refine .ret ⟨.int .i64 14,Res.one rfl rfl,⟨14,F1,Fc1,out++[at_],rfl,(ok.n1),.inr ⟨by rw [←hg];exact frGo_bad C0 (by simpa using C1),rfl⟩⟩⟩
 have hk0:frOk w.pgs.length out at_=true:=by simpa using C1
 obtain ⟨hk1a,hk2a,hk3a⟩:=frOk_iff.1 hk0;refine .skip<|.seq<|?_;obtain ⟨b,hbe⟩:∃b,b=(w.pgs.getD (at_-1).toNat []):=⟨_,rfl⟩;refine .r<|.z .mvP<|.z .mvI<|.c' 22 .func (sReadOk_any (G:=G) (w:=w) (no:=at_) (b:=b) (ok.n1).loc0 (by omega) (by omega) hbe) ?_;rintro _ η4 ⟨Fr1,xr1,cr1,rfl,hlr1,q⟩;have ok:=(ok.n1).lift2 q;refine .z .mvU<|.z .ex<|.z .ex<|.z .asS<|.z .asI<|.nil ?_;refine .seq<|.seq<|.r<|.z .mvI<|.z .neq<|.nil ?_;refine .cf<|.skip<|.seq<|.r<|.z .mvS<|.k 29 .func (fnum_any (p:=4) (a:=xr1) (c:=cr1) (l:=b) (RdL.ofCapB (v:=(xr1,b.length,cr1)) (l:=b) ok.m0) (by omega))<|.z .asI<|.nil ?_;refine .seq<|.seq<|.r<|.z .mvI<|.z .mvP<|.k 32 .func (froom_any (G:=G) (F:=Fr1) (w:=w) ok.m1)<|.z .gtr<|.nil ?_;refine .cd (fun C3=>?_) (fun C3=>?_)
 ·
  refine .seq<|.r<|.z .asI<|.nil ?_;refine .ret ⟨.int .i64 14,Res.one rfl rfl,⟨14,Fr1,Fc1,out++[at_],rfl,(ok.n2.n2.k2),.inr ⟨by rw [←hg];exact frGo_many C0 hk0 (by rw [←hbe];omega),rfl⟩⟩⟩
 refine .skip<|.seq<|.seq<|.r<|.z .mvI<|.z .mvI<|.nil ?_;refine .block fun K2 hK2=>.loop (fun m s hh=>∃(i:Nat) (o:List Int) (Fe2:Nat→Prop),Has s [(0,.pointer (some ⟨so,0,none⟩)),(1,.func (.func 123) #[] #[.pointer (some ⟨mb,0,none⟩),.pointer (some ⟨ob,0,none⟩),.pointer (some ⟨hb,0,none⟩)]),(6,.slice xr1 b.length cr1),(34,.int .i64 (((rdN b 4 4):Nat):Int)),(35,.int .i64 (i:Int))]∧Hp h (starI [dsI G so F w,eachI mb ob hb H Fe []]).F [dsI G so Fr1 w,eachI mb ob hb H Fe2 o,capI 1 5 (xr1,b.length,cr1) (b.map bv)] [] hh∧Met w.pgs.length o∧frIn w.pgs.length ((frNums b).drop i) o=frIn w.pgs.length (frNums b) (out++[at_])∧i≤rdN b 4 4∧out.length+1≤o.length∧m=rdN b 4 4-i) ?_ ?_
 ·exact ⟨_,0,out++[at_],Fc1,⟨rfl,rfl,rfl,rfl,rfl,trivial⟩,ok.n2.n2,hm.snoc hk0,rfl,Nat.zero_le _,by simp,rfl⟩
 rintro _ _ η5 ⟨i,o,Fe2,hs,ok,hmo,hin,hi,hol,rfl⟩ J1 hJ1;refine .frame hs fun τ=>?_;refine .seq<|.r<|.z .lss<|.nil ?_;refine .seq<|.cdr (fun C4=>?_) (fun C4=>?_)
 ·
  refine .exit<|hK2 _ _<|?_;have hi3:i=rdN b 4 4:=by omega
  have hgo:frGo w.pgs ((w.z-8) / 4) f ((rdN b 0 4:Nat):Int) o=R:=by
   rw [←hg,frGo_in C0 hk0 (by rw [←hbe];omega),←hbe,←hin,hi3,List.drop_eq_nil_of_le (by rw [frNums_len];exact Nat.le_refl _),frIn_nil];rfl
  refine .r<|.z .mvS<|.k 48 .func (fnum_any (p:=0) (a:=xr1) (c:=cr1) (l:=b) (RdL.ofCapB (v:=(xr1,b.length,cr1)) (l:=b) ok.m2) (by omega))<|.z .asI<|.nil ?_;refine .end<|hK1 _ _<|.end<|hJ0 _ _ _ ⟨(((rdN b 0 4):Nat):Int),o,f,Fr1,Fe2,⟨rfl,rfl,rfl,trivial⟩,ok.n1.n1.k2,hmo,hgo,by omega,rfl⟩ (by omega)
 have hi2:i<rdN b 4 4:=by omega
 refine .skip<|.seq<|.block fun K3 hK3=>.seq<|.r<|.z .mvI<|.z .asI<|.nil ?_;refine .seq<|.r<|.z .mvF<|.z .mvS<|.z .mvI<|.z (.mulI (a:=4))<|.z (.addI (a:=8))<|.k 43 .func (fnum_any (p:=(8+(4*i))) (a:=xr1) (c:=cr1) (l:=b) (RdL.ofCapB (v:=(xr1,b.length,cr1)) (l:=b) ok.m2) (by omega))<|.c' 44 .dyn (feach_any (N:=w.pgs.length) (H:=H) (out:=o) (no:=(((rdN b (8+(4*i)) 4):Nat):Int)) (ok.n1).loc0 hN (by first | omega | (have:=hmo.len;omega))) ?_;rintro _ η6 ⟨rfl,Fc2,q⟩;have ok:=(ok.n1).lift1 q;refine .z .not<|.nil ?_;refine .cond (fun C5=>?_) (fun C5=>?_)
 ·
  refine .seq<|.r<|.z .asI<|.nil ?_;refine .ret ⟨.int .i64 14,Res.one rfl rfl,⟨14,Fr1,Fc2,o++[(((rdN b (8+(4*i)) 4):Nat):Int)],rfl,(ok.n1.k2),.inr ⟨by rw [←hg];exact (by rw [frGo_in C0 hk0 (by rw [←hbe];omega),←hbe,←hin,frNums_drop hi2,frIn_no (by simpa using C5)];rfl),rfl⟩⟩⟩
 have hk1:frOk w.pgs.length o ((rdN b (8+4*i) 4:Nat):Int)=true:=by simpa using C5
 refine .skip<|.end<|hK3 _ _<|.r<|.z (.addI (b:=1))<|.z .mvI<|.nil ?_;refine .end<|hJ1 _ _ _ ⟨i+1,o++[((rdN b (8+4*i) 4:Nat):Int)],Fc2,⟨rfl,rfl,rfl,rfl,rfl,trivial⟩,ok.n2.n1.n2,hmo.snoc hk1,by rw [←hin,frNums_drop hi2,frIn_ok hk1],by omega,by simp;omega,rfl⟩ (by omega)
open Go.RowKit Go.Sort Go.Shelf Go.MapKept
theorem HC.of_callsW {P:Program} {f:FuncId} {args:Array Value} {h:Heap} {R:Value→Heap→Prop} (hc:Callable P f) (hr:∀w:World,w.heap=h→Calls P f args w fun e w'=>∃v,e=.returned v∧(w'.os=w.os∧w'.tape=w.tape∧w'.output=w.output)∧R v w'.heap):HC P f args h R:=
 ⟨hc,fun _ w at'=>(hr w at'.heap).mono fun _ w' ⟨v,e,b,r⟩=>⟨v,w'.heap,e,⟨rfl,b.1.trans at'.os,b.2.1.trans at'.tape,b.2.2.trans at'.output⟩,r⟩⟩
theorem cells_put {cs:Array Value} {o:Nat} {S:List Int} (h:o+S.length≤cs.size):((putCells (Value.int .i64) o S.toArray cs).toList.drop o).take S.length=S.map iv:=by
 apply List.ext_getElem?;intro j;by_cases hj:j<S.length
 ·rw [List.getElem?_take_of_lt hj,List.getElem?_drop,Array.getElem?_toList];simp [putCells,hj,show o+j<cs.size by omega,iv]
 ·rw [List.getElem?_take_eq_none (by omega),List.getElem?_eq_none (by simp;omega)]
theorem sortI_any {h0 h:Heap} {D:Nat→Prop} {M R:List Itm} {a:Option Addr} {c:Nat} {ks:List Int} (ok:Hp h0 D (capI 1 3 (a,ks.length,c) (ks.map iv)::M) R h) (hl:ks.length≤1000000000000) :
  HC Tryz.prog 68 #[.slice a ks.length c] h (fun v h'=>∃S:List Int,v=.tuple #[]∧S.Perm ks∧S.Pairwise (·≤·)∧Hp h0 D (capI 1 3 (a,S.length,c) (S.map iv)::M) R h'):=
 HC.of_callsW ⟨_,Tryz.func68,by decide,rfl⟩ fun w hw=>by
  have hc:Cap h 1 3 (.slice a ks.length c) (ks.map iv):=ok.m0;have hml:(ks.mergeSort fun x y=>decide (x≤y)).length=ks.length:=List.length_mergeSort _;have hpw:(ks.mergeSort fun x y=>decide (x≤y)).Pairwise (·≤·):=by
   have:=List.pairwise_mergeSort (le:=fun x y:Int=>decide (x≤y)) (fun a b c h1 h2=>by simp at h1 h2⊢;omega) (fun a b=>by simp;omega) ks;exact this.imp fun h=>by simpa using h
  obtain ⟨a',n',c',hv,h1,h2,h3,h4⟩:=hc;injection hv with e1 e2 e3;subst e1 e2 e3;rcases h4 with ⟨rfl,rfl⟩ | ⟨b,o,cs,fz,rfl,hb,hs,hfz,hx⟩
  ·have hz:ks=[]:=List.eq_nil_of_length_eq_zero (by omega);subst hz;refine (AnyM.slices_Sort_int_none Tryz.sortA none 0 w).mono fun e w' ⟨h5,h6⟩=>?_;subst h6;exact ⟨_,h5,⟨rfl,rfl,rfl⟩,[],rfl,.refl _,.nil,by rw [hw];exact ok⟩
  ·have hwb:w.heap[b]? = some (.cells cs 3 fz):=by rw [hw];exact hb
   have hbl:b<w.heap.size:=(Array.getElem?_eq_some_iff.1 hwb).1;have hH:Holds (Value.int .i64) w b o ks.toArray:=by
    intro j hj;have hj':j<ks.length:=by simpa using hj
    refine ⟨?_,frozen?_eq hwb hfz (by omega)⟩;rw [cell?_eq,cell_of hwb,←Array.getElem?_toList];have h6:((cs.toList.drop o).take (ks.length*1))[j]? = (ks.map iv)[j]?:=by rw [hx]
    rw [Nat.mul_one,List.getElem?_take_of_lt hj',List.getElem?_drop] at h6;rw [h6];simp [hj',iv]
   refine (AnyM.slices_Sort_int Tryz.sortA b o c ks w hH hbl (by omega)).mono fun e w' ⟨h5,n,os,h6⟩=>?_;subst h6;have hkeep:∀k,k<w.heap.size→k≠b→(grow (putRow (Value.int .i64) (Sort.ahead w n) b o (ks.mergeSort fun x y=>decide (x≤y)).toArray) os).heap[k]? = w.heap[k]?:=fun k hk hne=>by
    rw [heap_grow_old _ _ (by simpa using hk)];simp [putRow,mapBlock,Sort.ahead,Array.getElem?_modify,Ne.symm hne]
   have hat:(grow (putRow (Value.int .i64) (Sort.ahead w n) b o (ks.mergeSort fun x y=>decide (x≤y)).toArray) os).heap[b]? = some (.cells (putCells (Value.int .i64) o (ks.mergeSort fun x y=>decide (x≤y)).toArray cs) 3 fz):=by
    rw [heap_grow_old _ _ (by simpa using hbl)];simp [putRow,mapBlock,Sort.ahead,Array.getElem?_modify,hwb,onCells]
   have hsz:w.heap.size≤(grow (putRow (Value.int .i64) (Sort.ahead w n) b o (ks.mergeSort fun x y=>decide (x≤y)).toArray) os).heap.size:=by simp
   have hch:Chg (fun j=>j=b) h (grow (putRow (Value.int .i64) (Sort.ahead w n) b o (ks.mergeSort fun x y=>decide (x≤y)).toArray) os).heap:=⟨by rw [←hw];exact hsz,fun k hk hne=>by rw [hkeep k (by rw [hw];exact hk) hne,hw]⟩;have hcap:Cap (grow (putRow (Value.int .i64) (Sort.ahead w n) b o (ks.mergeSort fun x y=>decide (x≤y)).toArray) os).heap 1 3 (.slice (some ⟨b,o,none⟩) (ks.mergeSort fun x y=>decide (x≤y)).length c) ((ks.mergeSort fun x y=>decide (x≤y)).map iv):=
    ⟨_,_,_,rfl,by omega,h2,by simp,.inr ⟨b,o,_,fz,rfl,hat,by simpa [putCells] using hs,by simpa [putCells] using hfz,by rw [Nat.mul_one];exact cells_put (by omega)⟩⟩
   exact ⟨_,h5,⟨rfl,rfl,rfl⟩,_,rfl,List.mergeSort_perm _ _,hpw,ok.upd hch (fun j (hj:j=b)=>hj▸⟨o,ks.length,c,rfl⟩) (capI 1 3 (some ⟨b,o,none⟩,(ks.mergeSort fun x y=>decide (x≤y)).length,c) _) hcap fun j hj=>.inl (by obtain ⟨o2,n2,c2,e⟩:=hj;injection e with e1;injection e1 with e1;injection e1 with e1;exact ⟨o,ks.length,c,by rw [←e1]⟩)⟩
end Go.Proofs.YtndlpekckpdncaaGreat
