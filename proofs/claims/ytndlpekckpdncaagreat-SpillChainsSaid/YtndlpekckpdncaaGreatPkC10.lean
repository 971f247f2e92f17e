/- The pager that logs ahead, its power on: a first transaction is committed. Conditions: the pager is in order; nothing was logged. The pager that logs ahead as a store sees it, for one commit: it keeps what is committed. Conditions: not too much is done. The pager that keeps a journal, its power on: pages are saved into the journal; what is no page's is cut off. Conditions: the pager is in order. The pager that keeps a journal, its power on: pages are written into the file. Conditions: the pager is in order. The pager that keeps a journal, its power on: its pages, in its cache and under that. Conditions: those that each fact names. The pager that keeps a journal, its power on: a page is got, or put into the cache. Conditions: the pager is in order. The pager that keeps a journal, its power on: the file is made the present pages. Conditions: the pager is in order. The pager that keeps a journal: pages come and go. Conditions: the pager is in order. The pager that keeps a journal, its power on: its calls. Conditions: the pager is in order. The pager that keeps a journal, opened on a new disk; it keeps what is committed. Conditions: the power is on; not too much is done. -/
import Derived.Test.YtndlpekckpdncaaGreatPkC9
set_option maxRecDepth 100000
set_option maxHeartbeats 2000000
set_option linter.all false
namespace Go.Proofs.YtndlpekckpdncaaGreat
open Go Go.HL
theorem hacommitL_any {h:Heap} {p:Nat} {r:RHA} {D Fd cF Q:Nat→Prop} {S N:List (List UInt8)} (k:HAh r S N) (hin:r.in_=true) (hN:1≤N.length) (hh:hdOk (N.getD 0 []) r.size=true) (hcg:r.D.chg<300000000) (hnd:r.nd=0) (hfN:N.length*(16+r.size)+28≤16777216) (ok:Hp h D (pbsI Q r.bs::haL p r Fd cF (fun i=>S[i]?)) [] h) :
  HC Tryz.prog 270 #[.pointer (some ⟨p,0,none⟩)] h (fun v h'=>v=.int .i64 0∧∃(r':RHA) (Fd' cF':Nat→Prop),HAh r' N N∧r'.in_=false∧r'.size=r.size∧r'.D.chg≤r.D.chg+200000∧Hp h D (haL p r' Fd' cF' (fun i=>N[i]?)) [] h'):=by
 have hzc:=k.zc;have hsz:=hzc.2;have hfw:=k.few;have hnn:N≠[]:=by rintro rfl;simp at hN
 have hmn:=k.mn hin;have hsu:=k.su;have hndb:=k.ndb;have ok:Hp h D [pbsI Q r.bs,boxI p 202 [.int .i64 (r.fr:Int),.int .i64 (r.nd:Int),.int .u64 (r.link:Int),.map (some r.am),.bool r.in_,.int .i64 (r.many:Int),.map r.bm,.pointer (some ⟨r.d,0,none⟩),.int .i64 (r.size:Int),.int .i64 (r.sure:Int),.pointer (some ⟨r.c,0,none⟩),.bool false],mapI (Value.int .i64) r.am (atE r.at_),nowI r.bm r.bs,dgI r.d Fd r.D,cacI r.c cF (fun i=>S[i]?)] [] h:=ok;refine HC.go Tryz.func270 98 ?_;refine .s<|.z .asI<|.nil<|.seq<|.s<|.z .mvP<|.k 11 .func (hlook_any (r:=r) ok.m1)<|.z .asI<|.nil<|.s<|.z .mvI<|.z .neq<|.nil<|.cf<|.skip<|.seq<|.s<|.z .mvP<|.z .nil<|.z (.fa T.fd202_1)<|.z (.fa T.fd200_0)<|.z (.ldx T.ag4 ok.m1)<|.z .not<|.nil<|.cond (fun C1=>?_) (fun C1=>?_)
 ·
  rw [hin] at C1;simp at C1
 refine .skip<|.seq<|.s<|.z .mvP<|.c' 22 .func (hamay_any k hin (by omega) hh (Hp.lc6 (ok))) ?_;rintro _ η1 ⟨Fy1,rfl,q⟩;have ok:=Hp.lf6 (ok) q;refine .z .asI<|.nil<|.s<|.z .mvI<|.z .neq<|.nil<|.cf<|.skip<|.s<|.z .mvP<|.c' 30 .func (haunlike_any k hin (Hp.lc6 (ok))) ?_;rintro _ η2 ⟨Fu1,au1,cu1,rfl,q⟩;have ok:=Hp.lf6 (ok) q;have hul:(pgL (unlN N S)).length=(unlN N S).length:=pgL_len;refine .z .mvU<|.z .ex<|.z .ex<|.z .asS<|.z .asI<|.nil<|.seq<|.s<|.z .mvI<|.z .neq<|.nil<|.cf<|.skip<|.seq<|.seq<|.q (hm:=mixed)<|.z .mvS<|.z (.len T.el24)<|.z .eql<|.z .mvB<|.sd (fun G41=>?_) (fun G41=>?_)
 ·
  refine .z .mvP<|.z .nil<|.z (.fa T.fd202_1)<|.z (.fa T.fd200_1)<|.z (.ldx T.ag3 ok.m2)<|.z .mvP<|.z .nil<|.z (.fa T.fd202_4)<|.z (.ldx T.ag3 ok.m2)<|.z .eql<|.z .pkt<|.nil<|.cd (fun C4=>?_) (fun C4=>?_)
  ·
   refine .s<|.z .mvP<|.z (.bd #[.bool false,.int .i64 0,.map none] T.zr200 T.pl200 rfl)<|.z .nil<|.z (.fa T.fd202_1)<|.ur' (.stA (vs:=[.bool false,.int .i64 0,.map none]) T.sz200 ok.n2 (oneL rfl)) ?_;rintro η3 ⟨ok,cg⟩;refine .nil ?_;refine .s<|.z .asI<|.nil ?_;have hu0:unlN N S=[]:=List.eq_nil_of_length_eq_zero (by omega);have hNS:N=S:=unl_same hu0 (by omega);have ok:=ok.nowNil (bs:=[]);refine .ret ⟨.int .i64 0,Res.one rfl rfl,⟨rfl,{ r with in_:=false,many:=0,bm:=none,bs:=[] },Fd,Fu1,by rw [hNS];exact k.drop,rfl,rfl,by show r.D.chg≤_;omega,by rw [hNS];exact (ok.n7.n7.n2.n6.n4).k5⟩⟩
  refine .skip<|.seq<|.s<|.z .mvS<|.z (.len T.el24)<|.z .eql<|.nil<|.join (fun s hh=>∃(a5:Option Addr) (n5 c5:Nat),Has s [(0,.pointer (some ⟨p,0,none⟩)),(5,.slice a5 n5 c5)]∧Hp h D [capI 1 3 (a5,n5,c5) ((pgL (listN N S)).map iv),pbsI Q r.bs,boxI p 202 [.int .i64 (r.fr:Int),.int .i64 (r.nd:Int),.int .u64 (r.link:Int),.map (some r.am),.bool r.in_,.int .i64 (r.many:Int),.map r.bm,.pointer (some ⟨r.d,0,none⟩),.int .i64 (r.size:Int),.int .i64 (r.sure:Int),.pointer (some ⟨r.c,0,none⟩),.bool false],mapI (Value.int .i64) r.am (atE r.at_),nowI r.bm r.bs,dgI r.d Fd r.D,cacI r.c Fu1 (fun i=>S[i]?)] [] hh∧n5=(listN N S).length∧(listN N S)≠[]) ?_ ?_
  ·
   refine .cd (fun C5=>?_) (fun C5=>?_)
   ·
    have hu0:unlN N S=[]:=List.eq_nil_of_length_eq_zero (by omega);have hln:listN N S=[0]:=list_one hu0 (by omega);have hlne:listN N S≠[]:=by rw [hln];simp
    refine .r<|.a' 60 (.lit [.const (.int .i64 1)] (cs:=[.int .i64 1]) T.el24 T.sz3 T.zr3 ok ⟨rfl,trivial⟩) ?_;rintro _ η4 ⟨pb1,rfl,ok,xe⟩;refine .z .asS<|.nil<|.end<|⟨some ⟨pb1,0,none⟩,1,1,⟨rfl,rfl,trivial⟩,((ok.n7.n7.n7.n7.n7.n7.n6).cx (ys:=(pgL (listN N S)).map iv) (by rw [hln];rfl)).k7,by rw [hln];rfl,hlne⟩
   have hu1:unlN N S≠[]:=fun e=>by have h2:=congrArg List.length e;simp only [List.length_nil] at h2;omega
   have hln:listN N S=unlN N S:=if_neg (fun h=>hu1 h.1);have hlne:listN N S≠[]:=by rw [hln];exact hu1
   refine .skip<|.end<|⟨au1,(pgL (unlN N S)).length,cu1,⟨rfl,rfl,trivial⟩,((ok).cx (ys:=(pgL (listN N S)).map iv) (by rw [hln])).k7,by rw [hln];exact hul,hlne⟩
  rintro s η5 ⟨a5,n5,c5,hs,ok,hn5,hlne⟩;refine .frame hs fun τ=>?_;refine .seq<|?_;obtain rfl:n5=(pgL (listN N S)).length:=hn5.trans pgL_len.symm;have hpl:(pgL (listN N S)).length=(listN N S).length:=pgL_len;have ok:=(ok).frzI rfl;have hlim:(listN N S).length≤N.length:=listN_le hnn;have hmul:(listN N S).length*(16+r.size)≤N.length*(16+r.size):=Nat.mul_le_mul_right _ hlim;have hpm:(pgL (listN N S)).length*(16+r.size)=(listN N S).length*(16+r.size):=by rw [hpl]
  refine .r<|.z .mvS<|.z (.len T.el24)<|.z .mvP<|.z .nil<|.z (.fa T.fd202_3)<|.z (.ldx T.ag3 ok.m1)<|.z (.addI (a:=16))<|.z .mulI<|.z .asI<|.nil<|.seq<|.s<|.z .mvI<|.z (.addI (a:=20))<|.z .gtr<|.nil<|.cd (fun C6=>?_) (fun C6=>?_)
  ·
   omega
  refine .skip<|.seq<|.s<|.z .mvP<|.z .nil<|.z (.fa T.fd202_0)<|.z (.fa T.fd198_1)<|.z (.ldx T.ag3 ok.m1)<|.z .mvI<|.z .addI<|.z .gtr<|.nil<|.cd (fun C7=>?_) (fun C7=>?_)
  ·
   omega
  have hft:(if r.nd=0 then 20 else r.nd)+(listN N S).length*(16+r.size)≤16777216:=by rw [if_pos hnd];omega
  refine .skip<|.seq<|.seq<|?_;have hpne:pgL (listN N S)≠[]:=fun e=>by rw [e] at hpl;exact hlne (List.eq_nil_of_length_eq_zero hpl.symm)
  have hSd:∀i:Nat,((i:Int)+1)∉pgL (listN N S)→(i<r.many∨r.sure≤i)→∀l,S[i]? = some l→N[i]? = some l:=fun i hi hc l hl=>by
   rcases hc with hc | hc
   ·have h1:=listN_not (now:=N) (sure:=S) (i:=i) (by omega) (fun h=>hi (by unfold pgL;exact List.mem_map.2 ⟨i,h,rfl⟩));rw [←hl,h1,List.getElem?_eq_getElem (by omega)]
   ·rw [List.getElem?_eq_none (by omega)] at hl;cases hl
  refine .r<|.z .mvP<|.z .mvS<|.c' 89 .func (haput_any (r:=r) (ns:=(listN N S)) (a:=a5) (c:=c5) k hin (fun j hj=>(listN_pg hnn hj).1) (HAh.mis k hin hnn) (List.length_pos_iff.2 hlne) (show r.D.chg<400000000 by omega) hft (Hp.lc6 (ok))) ?_;rintro _ η6 ⟨rfl,Fdp1,Fcp1,Dp1,ndp1,lkp1,Lp1,Bp1,bgp1,bkp1,ptp1,q⟩;have hpc:Dp1.chg≤r.D.chg+10+(listN N S).length:=ptp1.chg;have hcm:=HAh.commit k hin hnn hh hlne bgp1 bkp1 ptp1 (by rw [bkp1.nd];exact hft);have ok:=Hp.lf6 (ok) q;refine .z .asI<|.nil<|.s<|.z .mvI<|.z .neq<|.nil<|.cf<|.skip<|.s<|.z .mvP<|.z .mvS<|.c' 97 .func (hadone_any (r:=({ r with D:=Dp1,fr:=r.fr+(listN N S).length,nd:=ndp1+(listN N S).length*(16+r.size),link:=linkL lkp1 (frmsN N (listN N S)),at_:=atsN r.size r.at_ ndp1 (listN N S) } : RHA)) (a:=a5) (c:=c5) (ks:=pgL (listN N S)) (S':=fun i=>N[i]?) hpne (by omega) (show r.many≤1048576 by omega) (show r.sure≤1048576 by omega) hSd (Hp.lc5 (ok.n5.n5.n5.n5.n5))) ?_;rintro _ η7 ⟨Fd1,rfl,q⟩;have ok:=Hp.lf5 (ok.n5.n5.n5.n5.n5) q;refine .nil ?_;refine .s<|.z .asI<|.nil<|.ret ⟨.int .i64 0,Res.one rfl rfl,⟨rfl,_,Fdp1,Fd1,hcm,rfl,rfl,by show Dp1.chg≤_;omega,(ok).k5.e0⟩⟩
 refine .y<|.y<|.y<|.y<|.y<|.y<|.y<|.y<|.y<|.y<|.z .pkf<|.nil<|.cf<|.skip<|.seq<|.s<|.z .mvS<|.z (.len T.el24)<|.z .eql<|.nil<|.join (fun s hh=>∃(a5:Option Addr) (n5 c5:Nat),Has s [(0,.pointer (some ⟨p,0,none⟩)),(5,.slice a5 n5 c5)]∧Hp h D [capI 1 3 (a5,n5,c5) ((pgL (listN N S)).map iv),pbsI Q r.bs,boxI p 202 [.int .i64 (r.fr:Int),.int .i64 (r.nd:Int),.int .u64 (r.link:Int),.map (some r.am),.bool r.in_,.int .i64 (r.many:Int),.map r.bm,.pointer (some ⟨r.d,0,none⟩),.int .i64 (r.size:Int),.int .i64 (r.sure:Int),.pointer (some ⟨r.c,0,none⟩),.bool false],mapI (Value.int .i64) r.am (atE r.at_),nowI r.bm r.bs,dgI r.d Fd r.D,cacI r.c Fu1 (fun i=>S[i]?)] [] hh∧n5=(listN N S).length∧(listN N S)≠[]) ?_ ?_
 ·
  refine .cd (fun C5=>?_) (fun C5=>?_)
  ·
   have hu0:unlN N S=[]:=List.eq_nil_of_length_eq_zero (by omega);have hln:listN N S=[0]:=list_one hu0 (by omega);have hlne:listN N S≠[]:=by rw [hln];simp
   refine .r<|.a' 60 (.lit [.const (.int .i64 1)] (cs:=[.int .i64 1]) T.el24 T.sz3 T.zr3 ok ⟨rfl,trivial⟩) ?_;rintro _ η8 ⟨pb2,rfl,ok,xe⟩;refine .z .asS<|.nil<|.end<|⟨some ⟨pb2,0,none⟩,1,1,⟨rfl,rfl,trivial⟩,((ok.n7.n7.n7.n7.n7.n7.n6).cx (ys:=(pgL (listN N S)).map iv) (by rw [hln];rfl)).k7,by rw [hln];rfl,hlne⟩
  have hu1:unlN N S≠[]:=fun e=>by have h2:=congrArg List.length e;simp only [List.length_nil] at h2;omega
  have hln:listN N S=unlN N S:=if_neg (fun h=>hu1 h.1);have hlne:listN N S≠[]:=by rw [hln];exact hu1
  refine .skip<|.end<|⟨au1,(pgL (unlN N S)).length,cu1,⟨rfl,rfl,trivial⟩,((ok).cx (ys:=(pgL (listN N S)).map iv) (by rw [hln])).k7,by rw [hln];exact hul,hlne⟩
 rintro s η9 ⟨a5,n5,c5,hs,ok,hn5,hlne⟩;refine .frame hs fun τ=>?_;refine .seq<|?_;obtain rfl:n5=(pgL (listN N S)).length:=hn5.trans pgL_len.symm;have hpl:(pgL (listN N S)).length=(listN N S).length:=pgL_len;have ok:=(ok).frzI rfl;have hlim:(listN N S).length≤N.length:=listN_le hnn;have hmul:(listN N S).length*(16+r.size)≤N.length*(16+r.size):=Nat.mul_le_mul_right _ hlim;have hpm:(pgL (listN N S)).length*(16+r.size)=(listN N S).length*(16+r.size):=by rw [hpl]
 refine .r<|.z .mvS<|.z (.len T.el24)<|.z .mvP<|.z .nil<|.z (.fa T.fd202_3)<|.z (.ldx T.ag3 ok.m1)<|.z (.addI (a:=16))<|.z .mulI<|.z .asI<|.nil<|.seq<|.s<|.z .mvI<|.z (.addI (a:=20))<|.z .gtr<|.nil<|.cd (fun C6=>?_) (fun C6=>?_)
 ·
  omega
 refine .skip<|.seq<|.s<|.z .mvP<|.z .nil<|.z (.fa T.fd202_0)<|.z (.fa T.fd198_1)<|.z (.ldx T.ag3 ok.m1)<|.z .mvI<|.z .addI<|.z .gtr<|.nil<|.cd (fun C7=>?_) (fun C7=>?_)
 ·
  omega
 have hft:(if r.nd=0 then 20 else r.nd)+(listN N S).length*(16+r.size)≤16777216:=by rw [if_pos hnd];omega
 refine .skip<|.seq<|.seq<|?_;have hpne:pgL (listN N S)≠[]:=fun e=>by rw [e] at hpl;exact hlne (List.eq_nil_of_length_eq_zero hpl.symm)
 have hSd:∀i:Nat,((i:Int)+1)∉pgL (listN N S)→(i<r.many∨r.sure≤i)→∀l,S[i]? = some l→N[i]? = some l:=fun i hi hc l hl=>by
  rcases hc with hc | hc
  ·have h1:=listN_not (now:=N) (sure:=S) (i:=i) (by omega) (fun h=>hi (by unfold pgL;exact List.mem_map.2 ⟨i,h,rfl⟩));rw [←hl,h1,List.getElem?_eq_getElem (by omega)]
  ·rw [List.getElem?_eq_none (by omega)] at hl;cases hl
 refine .r<|.z .mvP<|.z .mvS<|.c' 89 .func (haput_any (r:=r) (ns:=(listN N S)) (a:=a5) (c:=c5) k hin (fun j hj=>(listN_pg hnn hj).1) (HAh.mis k hin hnn) (List.length_pos_iff.2 hlne) (show r.D.chg<400000000 by omega) hft (Hp.lc6 (ok))) ?_;rintro _ η10 ⟨rfl,Fdp2,Fcp2,Dp2,ndp2,lkp2,Lp2,Bp2,bgp2,bkp2,ptp2,q⟩;have hpc:Dp2.chg≤r.D.chg+10+(listN N S).length:=ptp2.chg;have hcm:=HAh.commit k hin hnn hh hlne bgp2 bkp2 ptp2 (by rw [bkp2.nd];exact hft);have ok:=Hp.lf6 (ok) q;refine .z .asI<|.nil<|.s<|.z .mvI<|.z .neq<|.nil<|.cf<|.skip<|.s<|.z .mvP<|.z .mvS<|.c' 97 .func (hadone_any (r:=({ r with D:=Dp2,fr:=r.fr+(listN N S).length,nd:=ndp2+(listN N S).length*(16+r.size),link:=linkL lkp2 (frmsN N (listN N S)),at_:=atsN r.size r.at_ ndp2 (listN N S) } : RHA)) (a:=a5) (c:=c5) (ks:=pgL (listN N S)) (S':=fun i=>N[i]?) hpne (by omega) (show r.many≤1048576 by omega) (show r.sure≤1048576 by omega) hSd (Hp.lc5 (ok.n5.n5.n5.n5.n5))) ?_;rintro _ η11 ⟨Fd2,rfl,q⟩;have ok:=Hp.lf5 (ok.n5.n5.n5.n5.n5) q;refine .nil ?_;refine .s<|.z .asI<|.nil<|.ret ⟨.int .i64 0,Res.one rfl rfl,⟨rfl,_,Fdp2,Fd2,hcm,rfl,rfl,by show Dp2.chg≤_;omega,(ok).k5.e0⟩⟩
structure HaG (z k:Nat) where
 r:RHA
 Fd:Nat→Prop
 cF:Nat→Prop
 P:List (List UInt8)
 ha:HAh r P P
 in_:r.in_=false
 sz:r.size=z
 ch:r.D.chg≤10+250000*(k:Int)
 hc:r.D.chg≤280000000
 nd:k=0→r.nd=0
structure HaT (z k:Nat) where
 r:RHA
 Fd:Nat→Prop
 cF:Nat→Prop
 Q:Nat→Prop
 S:List (List UInt8)
 P:List (List UInt8)
 ha:HAh r S P
 in_:r.in_=true
 sz:r.size=z
 ch:r.D.chg≤10+250000*(k:Int)
 hc:r.D.chg≤280000000
 nd:k=0→r.nd=0
@[reducible] def hgL {z k:Nat} (p:Nat) (a:HaG z k):List Itm:=haL p a.r a.Fd a.cF (fun i=>a.P[i]?)
@[reducible] def htL {z k:Nat} (p:Nat) (a:HaT z k):List Itm:=pbsI a.Q a.r.bs::haL p a.r a.Fd a.cF (fun i=>a.S[i]?)
section
variable {z k p no m:Nat} {h:Heap} {D:Nat→Prop} {b:List UInt8}
theorem hg_opn {a:HaG z k} {R:List Itm} (ok:Hp h D [starI (hgL p a)] R h):Hp h D (hgL p a) R h:=by
 have o:=Hp.unstar (l:=hgL p a) (M:=[]) ok;rwa [List.append_nil] at o
theorem ht_opn {a:HaT z k} {R:List Itm} (ok:Hp h D [starI (htL p a)] R h):Hp h D (htL p a) R h:=by
 have o:=Hp.unstar (l:=htL p a) (M:=[]) ok;rwa [List.append_nil] at o
theorem hg_bs {a:HaG z k} (ok:Hp h D (hgL p a) [] h):Hp h D (pbsI none_ a.r.bs::haL p a.r a.Fd a.cF (fun i=>a.P[i]?)) [] h:=by
 rw [(a.ha.out a.in_).2.2];have o:=ok.newM (Ext.refl h) (pbsI none_ []) Pbs.nil (fun _ f=>f.elim);show Hp h D (pbsI none_ []::hgL p a) [] h;exact o
theorem hg_cPages {a:HaG z k} (hp:(starI (hgL p a)).p h):HC Tryz.prog 271 #[pv p] h (fun v h'=>v=.int .i64 (a.P.length:Int)∧h'=h):=by
 rw [←a.ha.pgs];exact haPages_any (hp.1 _ List.mem_cons_self)
theorem hg_cRead {a:HaG z k} {nI:Int} (ok:Hp h D [starI (hgL p a)] [] h) (h1:1≤nI) (hg:a.P[(nI-1).toNat]? = some b):HC Tryz.prog 272 #[pv p,.int .i64 nI] h (fun v h'=>∃(a':HaG z k) (x:Option Addr) (c:Nat),v=.tuple #[.slice x b.length c,.int .i64 0]∧a'.P=a.P∧Hp h D [capI 1 5 (x,b.length,c) (b.map bv),starI (hgL p a')] [] h'):=by
 obtain ⟨j,rfl⟩:∃j:Nat,nI=(j:Int):=⟨nI.toNat,by omega⟩;refine (haread_any (no:=j) (l:=b) a.ha (by omega) (by rw [show j-1=((j:Int)-1).toNat by omega];exact hg) (hg_bs (hg_opn ok))).mono fun v h' ⟨F',x,c,hv,q⟩=>?_;refine ⟨⟨a.r,a.Fd,F',a.P,a.ha,a.in_,a.sz,a.ch,a.hc,a.nd⟩,x,c,hv,rfl,?_⟩;exact (Hp.star (l:=haL p a.r a.Fd F' (fun i=>a.P[i]?)) (M:=[capI 1 5 (x,b.length,c) (b.map bv),pbsI none_ a.r.bs]) (q.perm (M':=haL p a.r a.Fd F' (fun i=>a.P[i]?)++[capI 1 5 (x,b.length,c) (b.map bv),pbsI none_ a.r.bs]) (List.perm_append_comm (l₁:=[capI 1 5 (x,b.length,c) (b.map bv),pbsI none_ a.r.bs])).symm)).k2.n1
theorem hg_cBegin {a:HaG z k} (ok:Hp h D [starI (hgL p a)] [] h):HC Tryz.prog 269 #[pv p] h (fun v h'=>v=.int .i64 0∧∃(b:HaT z k),b.P=a.P∧Hp h D [starI (htL p b)] [] h'):=
 (habegin_any a.ha a.in_ (hg_bs (hg_opn ok))).mono fun v h' ⟨hv,m,q⟩=>⟨hv,⟨_,a.Fd,a.cF,none_,a.P,a.P,a.ha.begin m,rfl,a.sz,a.ch,a.hc,a.nd⟩,rfl,Hp.star (M:=[]) (by rw [List.append_nil];exact q)⟩
theorem ht_cResize {a:HaT z k} (hm:m*(z+16)+28≤16777216) (ok:Hp h D [starI (htL p a)] [] h):HC Tryz.prog 273 #[pv p,.int .i64 (m:Int)] h (fun v h'=>v=.int .i64 0∧∃(b:HaT z k),b.P=rszP a.P m z∧Hp h D [starI (htL p b)] [] h'):=by
 have hz:=a.sz;have h1:m*z≤m*(z+16):=Nat.mul_le_mul_left _ (by omega);have h2:m*16≤m*(z+16):=Nat.mul_le_mul_left _ (by omega);have h3:m*a.r.size≤16777216:=by rw [hz];omega
 exact (haresize_any a.ha a.in_ (by omega) h3 (ht_opn ok)).mono fun v h' ⟨hv,Q',mb,bj,k0,k1,g1,g2,g3,g4,q⟩=>⟨hv,⟨_,a.Fd,a.cF,Q',a.S,_,a.ha.resize a.in_ g1 g2 g3 g4 h3,a.in_,a.sz,a.ch,a.hc,a.nd⟩,congrArg (rszP a.P m) hz,Hp.star (M:=[]) (by rw [List.append_nil];exact q)⟩
theorem ht_cWrite {a:HaT z k} {F2 E2:Nat→Prop} {x:Option Addr} {c:Nat} (h1:1≤no) (h2:no≤a.P.length) (hb:b.length=z) (ok:Hp h D [starI (htL p a)] [rdI F2 E2 (x,b.length,c) b] h):HC Tryz.prog 275 #[pv p,.int .i64 (no:Int),.slice x b.length c] h (fun v h'=>v=.int .i64 0∧∃(b':HaT z k),b'.P=a.P.set (no-1) b∧Hp h D [starI (htL p b')] [] h'):=
 (hawrite_any a.ha a.in_ h1 h2 (by rw [a.sz];exact hb) (ht_opn ok)).mono fun v h' ⟨hv,Q',m,x,c2,q⟩=>⟨hv,⟨_,a.Fd,a.cF,Q',a.S,_,a.ha.write a.in_ (m:=m) (x:=⟨x,c2,b⟩) h1 h2 (by rw [a.sz];exact hb),a.in_,a.sz,a.ch,a.hc,a.nd⟩,rfl,Hp.star (M:=[]) (by rw [List.append_nil];exact q)⟩
theorem ht_cCommit {a:HaT z k} (hk:k=0) (h1:1≤a.P.length) (hh:hok (a.P.getD (1-1) []) z) (hf:a.P.length*(z+16)+28≤16777216) (ok:Hp h D [starI (htL p a)] [] h):HC Tryz.prog 270 #[pv p] h (fun v h'=>v=.int .i64 0∧∃(b:HaG z (k+1)),b.P=a.P∧Hp h D [starI (hgL p b)] [] h'):=by
 have hz:=a.sz;have hc:=a.hc;have ch:=a.ch;refine (hacommitL_any a.ha a.in_ h1 (by rw [hz];exact decide_eq_true hh) (by omega) (a.nd hk) (by rw [hz,Nat.add_comm 16 z];exact hf) (ht_opn ok)).mono fun v h' ⟨hv,r',Fd',cF',k',hi,hs,hcg,q⟩=>?_;exact ⟨hv,⟨r',Fd',cF',a.P,k',hi,hs.trans hz,by omega,by omega,fun h=>absurd h (by omega)⟩,rfl,Hp.star (l:=haL p r' Fd' cF' (fun i=>a.P[i]?)) (M:=[]) (by rw [List.append_nil];exact q)⟩
end
def haG (z k n:Nat):Pgr where
 α:=HaG z k
 it p _ a:=starI (hgL p a)
 sure a:=a.P
 tid:=117
 fPages:=271
 fRead:=272
 mPages p w:=by kernel_rfl
 mRead p w:=by kernel_rfl
 cPages hp:=hg_cPages hp
 cRead ok h1 hg:=(hg_cRead ok h1 hg).mono fun v h' ⟨a',x,c,q⟩=>⟨none_,a',x,c,q⟩
def haT (z k n:Nat):PgT where
 α:=HaT z k
 it p _ a:=starI (htL p a)
 sure a:=a.P
def haC (z:Nat):PgrC where
 z:=z
 lim k _:=k≤1
 limM h1 _ h:=Nat.le_trans h1 h
 G:=haG z
 T:=haT z
 tid _ _ _ _:=rfl
 up {k n k' n' h p F a} h1 h2 hp:=⟨⟨a.r,a.Fd,a.cF,a.P,a.ha,a.in_,a.sz,by have:=a.ch;omega,a.hc,fun h=>a.nd (by omega)⟩,rfl,hp,fun _ f=>f⟩
 fBegin:=269
 fResize:=273
 fWrite:=275
 fCommit:=270
 mBegin k n p w:=by kernel_rfl
 mResize k n p w:=by kernel_rfl
 mWrite k n p w:=by kernel_rfl
 mCommit k n p w:=by kernel_rfl
 cBegin _ ok:=(hg_cBegin ok).mono fun v h' ⟨hv,b,hb,q⟩=>⟨hv,none_,b,hb,q⟩
 cResize hm ok:=(ht_cResize hm ok).mono fun v h' ⟨hv,b,hb,q⟩=>⟨hv,none_,b,hb,q⟩
 cWrite _ h1 h2 hb ok:=(ht_cWrite h1 h2 hb ok).mono fun v h' ⟨hv,b,hb,q⟩=>⟨hv,none_,b,hb,q⟩
 cCommit hl h1 hh hf ok:=(ht_cCommit (Nat.le_zero.1 (Nat.le_of_succ_le_succ hl)) h1 hh hf ok).mono fun v h' ⟨hv,b,hb,q⟩=>⟨hv,none_,b,hb,q⟩
open Go Go.HL
theorem hstart_ok {h:Heap} {n k s:Nat} (hn:n<4294967296) (hk:k<4294967296) (hs:s<18446744073709551616) (ho:okJ n k=true) :
  HC Tryz.prog 212 #[.int .i64 (n:Int),.int .i64 (k:Int),.int .u64 (s:Int)] h (fun v h'=>∃w,v=.tuple #[w,.int .i64 0]∧Own h h' 1 5 w ((jheadN n k s).map bv)):=
 (jstart_any hn hk hs).mono fun v h' q=>q.elim (fun q=>absurd q.1 (by rw [ho];decide)) fun q=>q.2
theorem hentry_ok {h:Heap} {F E:Nat→Prop} {s p:Nat} {a:Option Addr} {c:Nat} {l:List UInt8} (hs:s<18446744073709551616) (hN:l.length≤10000000) (hl:RdL h F E (a,l.length,c) l) (ho:okE ⟨(p:Int),0,l⟩=true) :
  HC Tryz.prog 317 #[.int .u64 (s:Int),.agg #[.int .i64 (p:Int),.int .i64 0,.slice a l.length c]] h (fun v h'=>∃w,v=.tuple #[w,.int .i64 0]∧Own h h' 1 5 w ((jputN s p l).map bv)):=
 (jentry_any hs hN hl).mono fun v h' q=>q.elim (fun q=>absurd q.1 (by rw [ho];decide)) fun q=>q.2
section
variable {r:RH} {ks:List Int} {mm:Nat}
theorem sv_fit (k:HC0 r) (hn:ks.Nodup) (hr:∀x∈ks,1≤x∧x≤(r.sure:Int)):28+ks.length*(r.size+8)≤16777216:=by
 have h1:=Nat.mul_le_mul_right (r.size+8) (inner_fit hn hr);have:=k.ms;omega
theorem sv_add (hl:ks.length=r.kept.length+mm):ks.length*(r.size+8)=r.kept.length*(r.size+8)+mm*(r.size+8):=by rw [hl,Nat.add_mul]
theorem HC0.okj (k:HC0 r):okJ r.size r.sure=true:=by
 have h1:=k.ms;have h2:=okSz_c k.sz;have h3:r.sure*264≤r.sure*(r.size+8):=Nat.mul_le_mul_left _ (by omega);have h4:r.size*r.sure≤r.sure*(r.size+8):=by rw [Nat.mul_comm];exact Nat.mul_le_mul_left _ (by omega)
 exact okJ_t (okZ_of k.sz) (by omega) (by omega)
theorem nd_snoc {x:Int} (h:ks.Nodup) (hx:x∉ks):(ks++[x]).Nodup:=List.nodup_append.2 ⟨h,by simp,fun a ha b hb e=>hx (by rw [List.mem_singleton.1 hb] at e;exact e▸ha)⟩
theorem mem_snoc {P:Int→Prop} {x:Int} (h:∀y∈ks,P y) (hx:P x):∀y∈ks++[x],P y:=fun y hy=>(List.mem_append.1 hy).elim (h y) fun h=>by rw [List.mem_singleton.1 h];exact hx
end
theorem hcount_any {h:Heap} {p:Nat} {r:RH} {D Fd F2 E2:Nat→Prop} {a:Option Addr} {c many:Nat} {l:List UInt8} (hd:HD r.D) (hcg:r.D.chg<800000000) (hsz:r.size≤4096) (hmk:r.marked≤1048577) (hmn:many≤1048577) (hbg:r.begun=true→1≤r.marked) (hft:(if r.begun=true then 28+(r.marked-1)*(r.size+8) else 0)+l.length≤16777216) (ok:Hp h D [hboxI p r,kepI r.km r.kept,dgI r.d Fd r.D] [rdI F2 E2 (a,l.length,c) l] h) :
  HC Tryz.prog 318 #[.pointer (some ⟨p,0,none⟩),.slice a l.length c,.int .i64 (many:Int)] h (fun v h'=>v=.int .i64 0∧∃Fd' D' mk',mk'=r.marked+(if r.begun=true then many else many+1)∧HD D'∧cont D' nT=cont r.D nT∧D'.chg≤r.D.chg+4∧Hp h D [hboxI p { r with begun:=true,marked:=mk',D:=D' },kepI r.km r.kept,dgI r.d Fd' D'] [] h'):=by
 have hmul:(r.marked-1)*(r.size+8)≤1048576*4104:=Nat.mul_le_mul (by omega) (by omega);have hlc:=ok.r0.c;refine HC.go Tryz.func318 83 ?_;refine .s<|.z .asI<|.nil<|.s<|.z .asI<|.nil<|.seq<|.s<|.z .mvP<|.z .nil<|.z (.fa T.fd212_0)<|.z (.fa T.fd210_3)<|.z (.ldx T.ag4 ok.m0)<|.nil<|.join (fun s hh=>∃(aa:Nat) (mm:Nat),Has s [(0,.pointer (some ⟨p,0,none⟩)),(1,.slice a l.length c),(2,.int .i64 (mm:Int)),(7,.int .i64 (aa:Int))]∧Hp h D [boxI p 212 [.bool r.in_,.int .i64 (r.now:Int),.int .i64 (r.valid:Int),.bool r.begun,.int .u64 (r.nonce:Int),.map r.km,.int .i64 (r.marked:Int),.pointer (some ⟨r.d,0,none⟩),.int .i64 (r.size:Int),.pointer (some ⟨r.c,0,none⟩),.int .i64 (r.sure:Int),.int .i64 (r.bytes:Int),.bool false],kepI r.km r.kept,dgI r.d Fd r.D] [rdI F2 E2 (a,l.length,c) l] hh∧aa+l.length≤16777216∧(if r.begun=true then many else many+1)=mm∧mm≤1048578) ?_ ?_
 ·
  refine .cond (fun C0=>?_) (fun C0=>?_)
  ·
   have hb1:=hbg C0;refine .q (hm:=mixed)<|.z .mvP<|.z .nil<|.z (.fa T.fd212_0)<|.z (.fa T.fd210_6)<|.z (.ldx T.ag3 ok.m0)<|.z .sub<|?_;rw [show (((r.marked:Int)-1):Int)=((r.marked-1:Nat):Int) from by omega];refine .z .mvP<|.z .nil<|.z (.fa T.fd212_2)<|.z (.ldx T.ag3 ok.m0)<|.z (.addI (b:=8))<|.z .mulI<|.z (.addI (a:=28))<|.z .asI<|.nil<|.end<|⟨(28+((r.marked-1)*(r.size+8))),many,⟨rfl,rfl,rfl,rfl,trivial⟩,ok.n2.n2.n2,by rw [if_pos C0] at hft;omega,by rw [if_pos C0],by omega⟩
  refine .r<|.z .mvI<|.z (.addI (b:=1))<|.z .asI<|.nil<|.end<|⟨0,(many+1),⟨rfl,rfl,rfl,rfl,trivial⟩,ok.n2.n2.n2,by omega,by rw [if_neg (by simp [C0])],by omega⟩
 rintro s η1 ⟨aa,mm,hs,ok,haa,hmm,hml⟩;refine .frame hs fun τ=>?_;refine .seq<|.s<|.z .mvP<|.z .nil<|.z (.fa T.fd212_1)<|.z (.ldx T.ag63 ok.m0)<|.z .mvI<|.z .mvS<|.c' 37 .func (hwrite_any (D:=r.D) (n:=nJ) (p:=aa) (l:=l) hd (by omega) nJ_h (by omega) (ok.n2).loc1) ?_;rintro _ η2 ⟨rfl,Fy1,Dy1,uy1,q⟩;have ok:=(ok.n2).lift1 q;have hcy1:=uy1.chg;refine .z .asI<|.nil<|.s<|.z .mvI<|.z .neq<|.nil<|.cf<|.skip<|.seq<|.s<|.z .mvP<|.z .nil<|.z (.fa T.fd212_1)<|.z (.ldx T.ag63 ok.m1)<|.c' 45 .func (hsync_any (D:=Dy1) (n:=nJ) (b:=wrB ((cont r.D nJ).getD []) aa l) uy1.hd (by omega) nJ_h uy1.at_ (ok).loc0) ?_;rintro _ η3 ⟨rfl,Fy2,Dy2,uy2,q⟩;have ok:=(ok).lift1 q;have hcy2:=uy2.chg;refine .z .asI<|.nil<|.s<|.z .mvI<|.z .neq<|.nil<|.cf<|.skip<|.seq<|.seq<|?_;obtain ⟨zl,hzl,rfl⟩:∃zl:List UInt8,List.replicate zl.length (0:UInt8)=zl∧zl.length=mm:=⟨List.replicate mm 0,by simp,by simp⟩;refine .a 11 (fun fl hh=>cond fl True (Hp h D [boxI p 212 [.bool r.in_,.int .i64 (r.now:Int),.int .i64 (r.valid:Int),.bool r.begun,.int .u64 (r.nonce:Int),.map r.km,.int .i64 (r.marked:Int),.pointer (some ⟨r.d,0,none⟩),.int .i64 (r.size:Int),.pointer (some ⟨r.c,0,none⟩),.int .i64 (r.sure:Int),.int .i64 (r.bytes:Int),.bool false]] [] hh)) mixed ?_;have hS:=ok.n1.k1.tR;refine .g 0 false rfl 49 hS (fun _=>.mvP)<|.g 1 false rfl 50 hS (fun _=>.nil)<|.g 2 false rfl 51 hS (fun _=>.fa T.fd212_1)<|.l 3 false rfl 52 hS (fun _ hS=>.ldx T.ag63 hS.m0)<|.g 4 false rfl 53 hS (fun _=>.mvP)<|.g 5 false rfl 54 hS (fun _=>.nil)<|.g 6 false rfl 55 hS (fun _=>.fa T.fd212_0)<|.g 7 false rfl 56 hS (fun _=>.fa T.fd210_6)<|.l 8 false rfl 57 hS (fun _ hS=>.ldx T.ag3 hS.m0)<|.g 9 false rfl 58 hS (fun _=>.mvI)<|.o1 10<|.a' false rfl 59 (.mks zl.length zl.length T.el44 T.sz5 T.by5 T.zr5 ok) ?_;rintro _ η4 ⟨pb1,rfl,ok,xe⟩;have ok:=ok.cx (ys:=(List.replicate zl.length (0:UInt8)).map bv) (zeros8 _);rw [hzl] at ok;refine ⟨ok.n2.k1.tR,?_⟩;have hS:=ok.n2.k1.tR;refine .o1 11<|.c' true rfl 60 .func (hwrite_any (D:=Dy2) (n:=nM) (p:=r.marked) (l:=zl) uy2.hd (by omega) nM_h (by omega) (ok.n1).locW) ?_;rintro _ η5 ⟨rfl,Fy3,Dy3,uy3,q⟩;have ok:=(ok.n1).lift1 q;have hcy3:=uy3.chg;refine ⟨trivial,?_⟩;refine .g 12 true rfl 10 trivial (fun _=>.asI)<|.e ?_;refine .s<|.z .mvI<|.z .neq<|.nil<|.cf<|.skip<|.s<|.z .mvP<|.z .nil<|.z (.fa T.fd212_0)<|.z (.fa T.fd210_3)<|.ur' (.stB T.sz4 ok.n2) ?_;rintro η6 ⟨ok,cg⟩;refine .nil ?_;refine .s<|.z .mvP<|.z .nil<|.z (.fa T.fd212_0)<|.z (.fa T.fd210_6)<|.z (.ldx T.ag3 ok.m0)<|.z .mvI<|.z .addI<|.z .nil<|.z (.fa T.fd212_0)<|.z (.fa T.fd210_6)<|.ur' (.stI T.sz3 ok) ?_;rintro η7 ⟨ok,cg⟩;refine .nil ?_;refine .s<|.z .mvP<|.z .nil<|.z (.fa T.fd212_1)<|.z (.ldx T.ag63 ok.m0)<|.c' 82 .func (hsync_any (D:=Dy3) (n:=nM) (b:=wrB ((cont Dy2 nM).getD []) r.marked zl) uy3.hd (by omega) nM_h uy3.at_ (ok.n1).loc0) ?_;rintro _ η8 ⟨rfl,Fy4,Dy4,uy4,q⟩;have ok:=(ok.n1).lift1 q;have hcy4:=uy4.chg;refine .z .asI<|.nil<|.ret ⟨.int .i64 0,Res.one rfl rfl,⟨rfl,Fy4,Dy4,r.marked+zl.length,by rw [hmm],uy4.hd,((uy4.ne _ (by decide)).trans ((uy3.ne _ (by decide)).trans ((uy2.ne _ (by decide)).trans ((uy1.ne _ (by decide)).trans rfl)))),by omega,(ok.n3.n2).k3.e0⟩⟩
theorem hsave_any {h:Heap} {p:Nat} {r:RH} {D Fd F2 E2:Nat→Prop} {a:Option Addr} {c:Nat} {li:List Int} (k:HC0 r) (hkm:∃m,r.km=some m) (hcg:r.D.chg<700000000) (hN:li.length≤1048576) (hpos:∀x∈li,1≤x∧x≤1048576) (ok:Hp h D [hboxI p r,kepI r.km r.kept,dgI r.d Fd r.D] [rdI F2 E2 (a,li.length,c) li] h) :
  HC Tryz.prog 312 #[.pointer (some ⟨p,0,none⟩),.slice a li.length c] h (fun v h'=>v=.int .i64 0∧∃r' Fd',SvH r r' 4∧Hp h D [hboxI p r',kepI r'.km r'.kept,dgI r'.d Fd' r'.D] [] h'):=by
 obtain ⟨mk,hkm⟩:=hkm;have hmc:=ok.r0.m;have hcc:=ok.r0.c;simp only at hmc hcc;have hszc:=okSz_c k.sz;have hsz:r.size≤4096:=by omega
 have hju:=okJ_le k.okj;have hch:=k.chg;refine HC.go Tryz.func312 107 ?_;refine .s<|.z .asI<|.nil<|.s<|.z .asS<|.nil<|.seq<|.seq<|?_;unfold hboxI at ok;rw [hkm] at ok;have ok:=Hp.kepSome (ok.n1);refine .r<|.z .mvP<|.z .nil<|.z (.fa T.fd212_0)<|.z (.fa T.fd210_3)<|.z (.ldx T.ag4 ok.m1)<|.z .not<|.nil<|.join (fun s hh=>∃(na:Nat) (b0:List UInt8) (a5:Option Addr) (c5:Nat),Has s [(0,.pointer (some ⟨p,0,none⟩)),(1,.slice a li.length c),(5,.slice a5 b0.length c5)]∧Hp h D [capI 1 5 (a5,b0.length,c5) (b0.map bv),boxI p 212 [.bool r.in_,.int .i64 (r.now:Int),.int .i64 (r.valid:Int),.bool r.begun,.int .u64 (na:Int),.map (some mk),.int .i64 (r.marked:Int),.pointer (some ⟨r.d,0,none⟩),.int .i64 (r.size:Int),.pointer (some ⟨r.c,0,none⟩),.int .i64 (r.sure:Int),.int .i64 (r.bytes:Int),.bool false],mapI (Value.int .i64) mk (setE r.kept),dgI r.d Fd r.D] [rdI F2 E2 (a,li.length,c) li] hh∧na<18446744073709551616∧(r.begun=true→b0.length=0)∧(r.begun=false→b0.length=28)) ?_ ?_
 ·
  refine .cond (fun C0=>?_) (fun C0=>?_)
  ·
   refine .s<|.z .mvP<|.z .mvP<|.z .nil<|.z (.fa T.fd212_1)<|.z (.ldx T.ag63 ok.m1)<|.k 24 .func (dgchanges_any (ok.n2).loc0)<|.z (.cvz T.in130 T.in3)<|.z .nil<|.z (.fa T.fd212_0)<|.z (.fa T.fd210_4)<|.ur' (.stI T.sz130 ok.n1) ?_;rintro η1 ⟨ok,cg⟩;refine .nil ?_;refine .a 13 (fun fl hh=>cond fl True (Hp h D [boxI p 212 [.bool r.in_,.int .i64 (r.now:Int),.int .i64 (r.valid:Int),.bool r.begun,.int .u64 (((r.D.chg%18446744073709551616).toNat:Nat):Int),.map (some mk),.int .i64 (r.marked:Int),.pointer (some ⟨r.d,0,none⟩),.int .i64 (r.size:Int),.pointer (some ⟨r.c,0,none⟩),.int .i64 (r.sure:Int),.int .i64 (r.bytes:Int),.bool false],mapI (Value.int .i64) mk (setE r.kept),dgI r.d Fd r.D] [rdI F2 E2 (a,li.length,c) li] hh)) mixed ?_;have hS:=ok;refine .g 0 false rfl 30 hS (fun _=>.mvP)<|.g 1 false rfl 31 hS (fun _=>.nil)<|.g 2 false rfl 32 hS (fun _=>.fa T.fd212_2)<|.l 3 false rfl 33 hS (fun _ hS=>.ldx T.ag3 hS.m0)<|.g 4 false rfl 34 hS (fun _=>.mvP)<|.g 5 false rfl 35 hS (fun _=>.nil)<|.g 6 false rfl 36 hS (fun _=>.fa T.fd212_4)<|.l 7 false rfl 37 hS (fun _ hS=>.ldx T.ag3 hS.m0)<|.g 8 false rfl 38 hS (fun _=>.mvP)<|.g 9 false rfl 39 hS (fun _=>.nil)<|.g 10 false rfl 40 hS (fun _=>.fa T.fd212_0)<|.g 11 false rfl 41 hS (fun _=>.fa T.fd210_4)<|.l 12 false rfl 42 hS (fun _ hS=>.ldx T.ag130 hS.m0)<|.o1 13<|.c' true rfl 43 .func (hstart_ok (n:=r.size) (k:=r.sure) (s:=(r.D.chg%18446744073709551616).toNat) (by omega) (by omega) (by omega) k.okj) ?_;rintro _ η2 ⟨yw1,rfl,own⟩;obtain ⟨ya1,yc1,rfl⟩:=own.formB;have ok:=ok.own own;refine ⟨trivial,?_⟩;refine .g 14 true rfl 29 trivial (fun _=>.mvU)<|.g 15 true rfl 44 trivial (fun _=>.ex)<|.g 16 true rfl 45 trivial (fun _=>.ex)<|.g 17 true rfl 5 trivial (fun _=>.asS)<|.e ?_;refine .end<|⟨((r.D.chg%18446744073709551616).toNat),(jheadN r.size r.sure ((r.D.chg%18446744073709551616).toNat)),ya1,yc1,⟨rfl,rfl,rfl,trivial⟩,ok.n3.n3.n3.n3.cx (by rfl),by omega,fun h=>absurd h (by simpa using C0),fun _=>jheadN_len _ _ _⟩
  have ok:=ok.nilC (k:=1) (e:=5);refine .skip<|.end<|⟨r.nonce,[],none,0,⟨rfl,rfl,rfl,trivial⟩,ok.n3.n2.n3.n3.cx (by rfl),k.no,fun _=>rfl,fun h=>by simp [h] at C0⟩
 rintro s η3 ⟨na,b0,a5,c5,hs,ok,hnl,hb1,hb2⟩;refine .frame hs fun τ=>?_;refine .s<|.z .asI<|.nil<|.seq<|.s<|.z .mvS<|.z (.len T.el24)<|.z .mvI<|.nil<|.block fun K0 hK0=>.loop (fun m s hh=>∃(i:Nat) (bb:List UInt8) (ks:List Int) (mm:Nat) (ab:Option Addr) (cb:Nat),Has s [(0,.pointer (some ⟨p,0,none⟩)),(5,.slice ab bb.length cb),(6,.int .i64 (mm:Int)),(46,.slice a li.length c),(47,.int .i64 (li.length:Int)),(48,.int .i64 (i:Int))]∧Hp h D [capI 1 5 (ab,bb.length,cb) (bb.map bv),boxI p 212 [.bool r.in_,.int .i64 (r.now:Int),.int .i64 (r.valid:Int),.bool r.begun,.int .u64 (na:Int),.map (some mk),.int .i64 (r.marked:Int),.pointer (some ⟨r.d,0,none⟩),.int .i64 (r.size:Int),.pointer (some ⟨r.c,0,none⟩),.int .i64 (r.sure:Int),.int .i64 (r.bytes:Int),.bool false],mapI (Value.int .i64) mk (setE ks),dgI r.d Fd r.D] [rdI F2 E2 (a,li.length,c) li] hh∧i≤li.length∧mm≤i∧ks.length=r.kept.length+mm∧ks.Nodup∧(∀x∈ks,1≤x∧x≤(r.sure:Int))∧bb.length=b0.length+mm*(r.size+8)∧m=li.length-i) ?_ ?_
 ·exact ⟨_,0,b0,r.kept,0,a5,c5,⟨rfl,rfl,rfl,rfl,rfl,rfl,trivial⟩,ok.n3.n3.n3.n3.cx (by rfl),Nat.zero_le _,Nat.le_refl _,rfl,k.kn,k.kr,by omega,rfl⟩
 rintro _ _ η4 ⟨i,bb,ks,mm,ab,cb,hs,ok,hi,hmi,hks,hkd,hkr,hbb,rfl⟩ J0 hJ0;refine .frame hs fun τ=>?_;refine .s<|.z .lss<|.nil<|.seq<|.cdr (fun C1=>?_) (fun C1=>?_)
 ·
  refine .exit<|hK0 _ _<|.seq<|.seq<|?_;have hks2:=sv_fit k hkd hkr;have hks3:=sv_add hks;have hkl:=inner_fit hkd hkr;have hkl0:=inner_fit k.kn k.kr;have hmk0:r.marked≤1048577:=by
   cases h:r.begun
   ·have:=k.jn h;omega
   ·have:=k.jb h;omega
  refine .r<|.z .mvS<|.z (.len T.el44)<|.z .eql<|.nil<|.cd (fun C4=>?_) (fun C4=>?_)
  ·
   refine .s<|.z .asI<|.nil<|.ret ⟨.int .i64 0,Res.one rfl rfl,⟨rfl,({ r with nonce:=na,km:=some mk,kept:=ks } : RH),Fd,⟨rfl,rfl,rfl,hkm.symm,rfl,rfl,rfl,rfl,rfl,rfl,(by show r.begun=true;cases h:r.begun;(have:=hb2 h;omega);rfl),(by
    have h0:bb.length=0:=by omega
    have hb3:r.begun=true:=by cases h:r.begun;(have:=hb2 h;omega);rfl
    have hm0:mm=0:=by rcases Nat.eq_zero_or_pos mm with h | h;exact h;(have:=Nat.mul_le_mul h (show 8≤r.size+8 by omega);omega)
    exact ⟨k.sz,k.hd,k.by_,k.fit,k.ms,fun h=>by have:=k.jb h;show r.marked=ks.length+1;omega,fun h=>absurd (show r.begun=false from h) (by rw [hb3];decide),hkd,hkr,hnl,k.chg⟩),(by show r.D.chg≤_;omega)⟩,(ok.n3.n3.n3).k3.e0⟩⟩
  have hcf:(if r.begun=true then 28+(r.marked-1)*(r.size+8) else 0)+bb.length≤16777216:=by
   split
   ·rename_i h;have:=k.jb h;rw [show r.marked-1=r.kept.length by omega];have:=hb1 h;omega
   ·rename_i h;have h2:r.begun=false:=by simpa using h
    have:=hb2 h2;have:=k.jn h2;rw [this.1] at hks3;simp at hks3;omega
  refine .skip<|.s<|.z .mvP<|.z .mvS<|.z .mvI<|?_;have ok:=(ok).frzB (l:=bb) rfl;refine .c' 106 .func (hcount_any (p:=p) (r:=({ r with nonce:=na,km:=(some mk),kept:=ks } : RH)) (a:=ab) (c:=cb) (l:=bb) (many:=mm) k.hd (by show r.D.chg<_;omega) hsz (show r.marked≤1048577 from hmk0) (by omega) (fun h=>show 1≤r.marked by have:=k.jb h;omega) hcf (ok).lc3.e1) ?_;rintro _ η5 ⟨rfl,Fdc1,Dc1,mkc1,hmkc1,hdc1,hctc1,hcgc1,q⟩;have ok:=(ok).lf33 q;refine .z .asI<|.nil<|.ret ⟨.int .i64 0,Res.one rfl rfl,⟨rfl,({ r with begun:=true,nonce:=na,km:=some mk,kept:=ks,marked:=mkc1,D:=Dc1 } : RH),Fdc1,⟨rfl,rfl,rfl,hkm.symm,rfl,rfl,rfl,rfl,rfl,hctc1,rfl,(by
   refine ⟨k.sz,hdc1,?_,k.fit,k.ms,fun _=>?_,fun h=>(by cases h),hkd,hkr,hnl,hdc1.dk.chg⟩
   ·show (fT Dc1).length=r.bytes;unfold fT;rw [hctc1];exact k.by_
   ·show mkc1=ks.length+1;rw [hmkc1];cases h:r.begun
    ·have:=k.jn h;rw [this.1] at hks;simp at hks⊢;omega
    ·have:=k.jb h;simp;omega),hcgc1⟩,(ok).k3.e0⟩⟩
 refine .skip<|.seq<|.block fun K1 hK1=>.s<|?_;obtain ⟨bb1,oo1,rfl,fb1⟩:=ok.r0.pos (by omega);refine .z (.ix1 i T.el24 T.sz3)<|.z (.ld T.ag3 (ok.r0.i64 (i:=i) (by omega)))<|?_;have hil:i<li.length:=by omega
 have hnp:=hpos _ (List.getElem_mem (l:=li) (n:=i) hil);obtain ⟨nn,hnn⟩:∃nn:Nat,li[i]=(nn:Int):=⟨li[i].toNat,by omega⟩;rw [hnn] at hnp;rw [hnn];refine .z .asI<|.nil<|.seq<|.s<|.z .mvI<|.z .mvP<|.z .nil<|.z (.fa T.fd212_4)<|.z (.ldx T.ag3 ok.m1)<|.z .gtr<|.z .mvB<|.sd (fun G58=>?_) (fun G58=>?_)
 ·
  refine .y<|.y<|.y<|.y<|.y<|.y<|.y<|.z .pkt<|.nil<|.ct<|.exit<|hK1 _ _<|.r<|.z (.addI (b:=1))<|.z .mvI<|.nil<|.end<|hJ0 _ _ _ ⟨i+1,bb,ks,mm,ab,cb,⟨rfl,rfl,rfl,rfl,rfl,rfl,trivial⟩,ok.n3.n3.n3.n3.cx (by rfl),by omega,by omega,hks,hkd,hkr,hbb,rfl⟩ (by omega)
 refine .z .mvP<|.z .nil<|.z (.fa T.fd212_0)<|.z (.fa T.fd210_5)<|.z (.ldx T.ag208 ok.m1)<|.z .mvI<|.z (.lk (KV.int .i64) (nn:Int) (v:=.bool (decide ((nn:Int)∈ks))) T.mp208 (inB_iff T.in3) T.zr4 ok.m2 (by exact setE_get))<|.z .pkf<|.nil<|.cd (fun C2=>?_) (fun C2=>?_)
 ·
  refine .exit<|hK1 _ _<|.r<|.z (.addI (b:=1))<|.z .mvI<|.nil<|.end<|hJ0 _ _ _ ⟨i+1,bb,ks,mm,ab,cb,⟨rfl,rfl,rfl,rfl,rfl,rfl,trivial⟩,ok.n3.n3.n3.n3.cx (by rfl),by omega,by omega,hks,hkd,hkr,hbb,rfl⟩ (by omega)
 refine .skip<|.s<|.z .mvP<|.z .mvI<|.c' 70 .func (hold_any (p:=p) (r:=({ r with nonce:=na,km:=(some mk),kept:=ks } : RH)) (no:=nn) k.hd hsz (by omega) (ok.n3.n2).lc2.e0) ?_;rintro _ η6 ⟨ao1,co1,rfl,q⟩;have ok:=(ok.n3.n2).lf23 q;refine .z .mvU<|.z .ex<|.z .ex<|.z .asS<|.z .asI<|.nil<|.seq<|.s<|.z .mvI<|.z .neq<|.nil<|.cf<|.skip<|.s<|.z .mvP<|.z .nil<|.z (.fa T.fd212_0)<|.z (.fa T.fd210_4)<|.z (.ldx T.ag130 ok.m1)<|.z .mvI<|.z .mvS<|.z (.bd #[.int .i64 (nn:Int),.int .i64 0,.slice ao1 ((pgF r.size (fT r.D) (nn-1)).length) co1] T.zr277 T.pl277 rfl)<|.c' 85 .func (hentry_ok (s:=na) (p:=nn) hnl (by rw [pgF_len];omega) (a:=ao1) (c:=co1) (l:=(pgF r.size (fT r.D) (nn-1))) (RdL.ofCapB (v:=(ao1,(pgF r.size (fT r.D) (nn-1)).length,co1)) (l:=(pgF r.size (fT r.D) (nn-1))) ok.m0) (okE_t (by rw [pgF_len];exact okZ_of k.sz) ⟨by omega,by omega,rfl⟩)) ?_;rintro _ η7 ⟨yw2,rfl,own⟩;obtain ⟨ya2,yc2,rfl⟩:=own.formB;have ok:=ok.own own;refine .z .mvU<|.z .ex<|.z .ex<|.z .asS<|.z .asI<|.nil<|.seq<|?_;have hmb:mm*(r.size+8)≤1048576*4104:=Nat.mul_le_mul (by omega) (by omega);have hb3:b0.length≤28:=by
  cases h:r.begun
  ·have:=hb2 h;omega
  ·have:=hb1 h;omega
 refine .r<|.z .mvS<|.z .mvS<|.a' 90 (.app (news:=(jputN na nn (pgF r.size (fT r.D) (nn-1))).map bv) T.el44 T.sz5 T.by5 T.zr5 ok.n4 (ok.n4.m1).sl bv_all (by simp only [List.length_map,jputN_len,pgF_len];omega)) ?_;rintro _ η8 ⟨ya3,yn3,yc3,rfl,ok,ap⟩;have ok:=ok.cx (ys:=(bb++(jputN na nn (pgF r.size (fT r.D) (nn-1)))).map bv) (by simp [bv]);obtain rfl:yn3=(bb++(jputN na nn (pgF r.size (fT r.D) (nn-1)))).length:=ok.lenB;refine .z .asS<|.nil<|.s<|.z .mvP<|.z .nil<|.z (.fa T.fd212_0)<|.z (.fa T.fd210_5)<|.z (.ldx T.ag208 ok.m3)<|.z .mvI<|.ur' (.mpu (KV.int .i64) V.sbI (nn:Int) (v:=.bool true) T.mp208 (inB_iff T.in3) ok.n5) ?_;rintro η9 ok;rw [setE_put C2] at ok;refine .nil ?_;refine .r<|.z .mvI<|.z (.addI (b:=1))<|.z .asI<|.nil<|.end<|hK1 _ _<|.r<|.z (.addI (b:=1))<|.z .mvI<|.nil<|.end<|hJ0 _ _ _ ⟨i+1,bb++(jputN na nn (pgF r.size (fT r.D) (nn-1))),ks++[(nn:Int)],mm+1,ya3,yc3,⟨rfl,rfl,rfl,rfl,rfl,rfl,trivial⟩,ok.n5.n1.n5.n3.k4.cx (by rfl),by omega,by omega,(by rw [List.length_append,hks];rfl),nd_snoc hkd C2,mem_snoc hkr ⟨by omega,by omega⟩,(by rw [List.length_append,jputN_len,pgF_len,hbb,Nat.succ_mul];omega),rfl⟩ (by omega)
def rngI (a n:Nat):List Int:=(List.range n).map fun i=>((a+1+i:Nat):Int)
theorem rngI_len {a n:Nat} : (rngI a n).length=n:=by simp [rngI]
theorem rngI_s {a n:Nat} : rngI a (n+1)=rngI a n++[((a+1+n:Nat):Int)]:=by unfold rngI;rw [List.range_succ,List.map_append];rfl
theorem rngI_mem {a n:Nat} {x:Int} (h:x∈rngI a n):(a:Int)+1≤x∧x≤(a+n:Nat):=by
 obtain ⟨i,hi,rfl⟩:=List.mem_map.1 h;have:=List.mem_range.1 hi;omega
structure CU (r r':RH):Prop where
 in_:r'.in_=r.in_
 now:r'.now=r.now
 valid:r'.valid=r.valid
 km:r'.km=r.km
 d:r'.d=r.d
 size:r'.size=r.size
 c:r'.c=r.c
 sure:r'.sure=r.sure
 bytes:r'.bytes=min r.bytes (r.valid*r.size)
 bg:r.begun=true→r'.begun=true
 bs:r'.begun=true∨r'=r
 ft:fT r'.D=(fT r.D).take (r.valid*r.size)
 ok:HC0 r'
 chg:r'.D.chg≤r.D.chg+5
theorem cont_pos {D:Dk} (h:0<(fT D).length):cont D nT=some (fT D):=by
 unfold fT at h⊢;cases hc:cont D nT with
 | none=>rw [hc] at h;simp at h
 | some b=>rfl
theorem hcut_any {h:Heap} {p:Nat} {r:RH} {D Fd:Nat→Prop} (k:HC0 r) (hkm:∃m,r.km=some m) (hcg:r.D.chg<600000000) (hv:r.valid*r.size≤16777216) (ok:Hp h D [hboxI p r,kepI r.km r.kept,dgI r.d Fd r.D] [] h) :
  HC Tryz.prog 314 #[.pointer (some ⟨p,0,none⟩)] h (fun v h'=>v=.int .i64 0∧∃r' Fd',CU r r'∧Hp h D [hboxI p r',kepI r'.km r'.kept,dgI r'.d Fd' r'.D] [] h'):=by
 have hszc:=okSz_c k.sz;have hju:=okJ_le k.okj;have hvl:r.valid≤r.valid*r.size:=Nat.le_mul_of_pos_right _ (by omega);have hby:=k.by_;have hfit:=k.fit;refine HC.go Tryz.func314 57 ?_;refine .s<|.z .asI<|.nil<|.seq<|.q (hm:=mixed)<|.z .mvP<|.z .nil<|.z (.fa T.fd212_0)<|.z (.fa T.fd210_2)<|.z (.ldx T.ag3 ok.m0)<|.z .mvP<|.z .nil<|.z (.fa T.fd212_2)<|.z (.ldx T.ag3 ok.m0)<|.z .mulI<|.z .asI<|.nil<|.seq<|.s<|.z .mvP<|.z .nil<|.z (.fa T.fd212_5)<|.z (.ldx T.ag3 ok.m0)<|.z .mvI<|.z .leq<|.nil<|.cd (fun C0=>?_) (fun C0=>?_)
 ·
  refine .s<|.z .asI<|.nil<|.ret ⟨.int .i64 0,Res.one rfl rfl,⟨rfl,r,Fd,⟨rfl,rfl,rfl,rfl,rfl,rfl,rfl,rfl,by omega,id,.inr rfl,(List.take_of_length_le (by omega)).symm,k,by omega⟩,ok⟩⟩
 refine .skip<|.s<|.z .asS<|?_;have ok:=ok.nilC (k:=1) (e:=3);refine .nil ?_;refine .seq<|.s<|.z .mvP<|.z .nil<|.z (.fa T.fd212_0)<|.z (.fa T.fd210_2)<|.z (.ldx T.ag3 ok.m1)<|.z (.addI (b:=1))<|.z .asI<|.nil<|.block fun K0 hK0=>.loop (fun m s hh=>∃(i:Nat) (a4:Option Addr) (c4:Nat),Has s [(0,.pointer (some ⟨p,0,none⟩)),(3,.int .i64 ((r.valid*r.size:Nat):Int)),(4,.slice a4 ((rngI r.valid i).length) c4),(5,.int .i64 ((r.valid+1+i:Nat):Int))]∧Hp h D [capI 1 3 (a4,(rngI r.valid i).length,c4) ((rngI r.valid i).map iv),boxI p 212 [.bool r.in_,.int .i64 (r.now:Int),.int .i64 (r.valid:Int),.bool r.begun,.int .u64 (r.nonce:Int),.map r.km,.int .i64 (r.marked:Int),.pointer (some ⟨r.d,0,none⟩),.int .i64 (r.size:Int),.pointer (some ⟨r.c,0,none⟩),.int .i64 (r.sure:Int),.int .i64 (r.bytes:Int),.bool false],kepI r.km r.kept,dgI r.d Fd r.D] [] hh∧i≤r.sure-r.valid∧m=r.sure-r.valid-i) ?_ ?_
 ·exact ⟨_,0,none,0,⟨rfl,rfl,rfl,rfl,trivial⟩,(ok).k4,Nat.zero_le _,rfl⟩
 rintro _ _ η1 ⟨i,a4,c4,hs,ok,hi,rfl⟩ J0 hJ0;refine .frame hs fun τ=>?_;refine .seq<|.s<|.z .mvI<|.z .mvP<|.z .nil<|.z (.fa T.fd212_4)<|.z (.ldx T.ag3 ok.m1)<|.z .leq<|.nil<|.cdr (fun C1=>?_) (fun C1=>?_)
 ·
  refine .exit<|hK0 _ _<|.seq<|.s<|.z .mvP<|.z .mvS<|?_;have ok:=(ok).frzI (l:=(rngI r.valid i)) rfl;refine .c' 43 .func (hsave_any (p:=p) (r:=r) (a:=a4) (c:=c4) (li:=(rngI r.valid i)) k hkm (by omega) (by rw [rngI_len];omega) (fun x hx=>by have:=rngI_mem hx;omega) (ok).lc3) ?_;rintro _ η2 ⟨rfl,rs1,Fds1,ss1,q⟩;have ok:=(ok).lf33 q;have hcs1:=ss1.chg;refine .z .asI<|.nil<|.s<|.z .mvI<|.z .neq<|.nil<|.cf<|.skip<|.s<|.z .mvP<|.z .mvI<|.z .nil<|.z (.fa T.fd212_5)<|.ur' (.stI T.sz3 ok) ?_;rintro η3 ⟨ok,cg⟩;refine .nil ?_;refine .s<|.z .mvP<|.z .nil<|.z (.fa T.fd212_1)<|.z (.ldx T.ag63 ok.m0)<|.z .mvI<|.c' 56 .func (htrunc_any (D:=rs1.D) (n:=nT) (b:=(fT r.D)) (z:=(r.valid*r.size)) ss1.ok.hd (by omega) nT_h (ss1.ct.trans (cont_pos (by omega))) (by omega) (ok.n2).loc0) ?_;rintro _ η4 ⟨rfl,Fy1,Dy1,uy1,q⟩;have ok:=(ok.n2).lift1 q;have hcy1:=uy1.chg;refine .z .asI<|.nil ?_;have hft:fT Dy1=(fT r.D).take (r.valid*r.size):=by show (cont Dy1 nT).getD []=_;rw [uy1.at_,Option.getD_some,longN_le (by rw [hby];omega)]
  refine .ret ⟨.int .i64 0,Res.one rfl rfl,⟨rfl,({ rs1 with bytes:=r.valid*r.size,D:=Dy1 } : RH),Fy1,⟨ss1.in_,ss1.now,ss1.valid,ss1.km,ss1.d,ss1.size,ss1.c,ss1.sure,(by show r.valid*r.size=_;omega),(fun _=>ss1.bg),.inl ss1.bg,hft,⟨ss1.ok.sz,uy1.hd,(by show (fT Dy1).length=r.valid*r.size;rw [hft,List.length_take,hby];omega),(by show r.valid*r.size≤_;omega),ss1.ok.ms,ss1.ok.jb,ss1.ok.jn,ss1.ok.kn,ss1.ok.kr,ss1.ok.no,uy1.hd.dk.chg⟩,(by show Dy1.chg≤_;omega)⟩,(ok.n2.n2).k3.e0⟩⟩
 refine .skip<|.seq<|.block fun K1 hK1=>.r<|.z .mvS<|.z .mvI<|.a' 39 (.lit [.tmp 38] (cs:=[.int .i64 ((r.valid+1+i:Nat):Int)]) T.el24 T.sz3 T.zr3 ok ⟨rfl,trivial⟩) ?_;rintro _ η5 ⟨pb1,rfl,ok,xe⟩;refine .a' 40 (.app (news:=[.int .i64 ((r.valid+1+i:Nat):Int)]) T.el24 T.sz3 T.by3 T.zr3 ok.n1 (ok.n1.m1).sl (oneL rfl) (by simp only [List.length_map,rngI_len,List.length_cons,List.length_nil];omega)) ?_;rintro _ η6 ⟨ya1,yn1,yc1,rfl,ok,ap⟩;have ok:=ok.cx (ys:=(rngI r.valid (i+1)).map iv) (by rw [rngI_s,List.map_append];rfl);obtain rfl:yn1=(rngI r.valid (i+1)).length:=ok.lenI3;refine .z .asS<|.nil<|.end<|hK1 _ _<|.r<|.z .mvI<|.z (.addI (b:=1))<|.z .asI<|.nil<|.end<|hJ0 _ _ _ ⟨i+1,ya1,yc1,⟨rfl,rfl,rfl,rfl,trivial⟩,(ok.n4.n4.n4.n3).k4,by omega,rfl⟩ (by omega)
open Go Go.HL
theorem frH_map {l:List AFr} {i:Nat} (hi:i<l.length):frN (l.map AFr.fr) i=l[i].fr:=by simp [frN,hi]
def pgH (f:List Fr):List Int:=f.map (·.page)
theorem pgH_len {f:List Fr} : (pgH f).length=f.length:=List.length_map _
theorem pgH_take {f:List Fr} {i:Nat} (hi:i<f.length):(pgH (f.take i)).map iv++[Value.int .i64 (frN f i).page]=(pgH (f.take (i+1))).map iv:=by unfold pgH;rw [List.take_succ_eq_append_getElem hi,List.map_append,List.map_append,show frN f i=f[i] by simp [frN,hi]];rfl
def layP (z:Nat) (x:List UInt8 × Nat) (l:List AFr):List UInt8 × Nat:=l.foldl (fun x f=>(wrB x.1 ((f.page.toNat-1)*z) f.b,max x.2 f.page.toNat)) x
theorem layP_s {z j:Nat} {x:List UInt8 × Nat} {l:List AFr} (h:j<l.length):layP z x (l.take (j+1))=(wrB (layP z x (l.take j)).1 ((l[j].page.toNat-1)*z) l[j].b,max (layP z x (l.take j)).2 l[j].page.toNat):=by
 unfold layP;rw [List.take_succ_eq_append_getElem h,List.foldl_append];rfl
theorem max_mul {a b c:Nat} : max (a*c) (b*c)=max a b*c:=by
 rcases Nat.le_total a b with h | h
 ·rw [Nat.max_eq_right h,Nat.max_eq_right (Nat.mul_le_mul_right c h)]
 ·rw [Nat.max_eq_left h,Nat.max_eq_left (Nat.mul_le_mul_right c h)]
structure FL (r r':RH) (l:List AFr):Prop where
 in_:r'.in_=r.in_
 now:r'.now=r.now
 km:r'.km=r.km
 d:r'.d=r.d
 size:r'.size=r.size
 c:r'.c=r.c
 sure:r'.sure=r.sure
 lay:(fT r'.D,r'.valid)=layP r.size ((fT r.D).take (r.valid*r.size),r.valid) l
 bytes:r'.bytes=r'.valid*r.size
 bg:r'.begun=true
 ok:HC0 r'
 chg:r'.D.chg≤r.D.chg+9+l.length
theorem hflush_any {h:Heap} {p:Nat} {r:RH} {D Fd Fl El:Nat→Prop} {a:Option Addr} {c:Nat} {fl:List Fr} {l:List AFr} (k:HC0 r) (hkm:l≠[]→∃m,r.km=some m) (hcg:r.D.chg<500000000) (hvb:l≠[]→r.valid*r.size≤r.bytes) (hfl:fl=l.map AFr.fr) (hN:l.length≤1048576) (hpos:∀f∈l,1≤f.page∧f.page≤1048576∧f.page.toNat*r.size≤16777216∧f.b.length=r.size) (ok:Hp h D [hboxI p r,kepI r.km r.kept,dgI r.d Fd r.D] [rdI Fl El (a,fl.length,c) fl] h) :
  HC Tryz.prog 313 #[.pointer (some ⟨p,0,none⟩),.slice a fl.length c] h (fun v h'=>v=.int .i64 0∧∃r' Fd',((l=[]∧r'=r)∨(l≠[]∧FL r r' l))∧Hp h D [hboxI p r',kepI r'.km r'.kept,dgI r'.d Fd' r'.D] [] h'):=by
 have hmc:=ok.r0.m;have hcc:=ok.r0.c;simp only at hmc hcc;have hfll:fl.length=l.length:=by rw [hfl,List.length_map]
 have hcz:=k.chg;have hszk:=okSz_c k.sz;have hsz:r.size≤4096:=by omega
 have hfit:=k.fit;have hpp:∀x∈pgH fl,1≤x∧x≤1048576:=fun x hx=>by
  rw [pgH,hfl,List.map_map] at hx;obtain ⟨f,hf,rfl⟩:=List.mem_map.1 hx;have:=hpos f hf;exact ⟨this.1,this.2.1⟩
 obtain ⟨xa,xc,hf⟩:=RdL.frs ok.r0;have ok:=ok.d0 (frsI Fl El (a,fl.length,c) fl xa xc) hf;refine HC.go Tryz.func313 91 ?_;refine .s<|.z .asI<|.nil<|.seq<|.s<|.z .mvS<|.z (.len T.el252)<|.z .eql<|.nil<|.cd (fun C0=>?_) (fun C0=>?_)
 ·
  refine .s<|.z .asI<|.nil<|.ret ⟨.int .i64 0,Res.one rfl rfl,⟨rfl,r,Fd,.inl ⟨List.eq_nil_of_length_eq_zero (by omega),rfl⟩,ok.tR.tR⟩⟩
 refine .skip<|.seq<|?_;have hl0:l≠[]:=fun h=>C0 (by rw [hfll,h];rfl);replace hkm:=hkm hl0;replace hvb:=hvb hl0;refine .r<|.z .asS<|.nil<|.seq<|.seq<|?_;have ok:=ok.nilC (k:=1) (e:=3);refine .r<|.z .mvS<|.z (.len T.el252)<|.z .mvI<|.nil<|.block fun K0 hK0=>.loop (fun m s hh=>∃(i:Nat) (a5:Option Addr) (n5 c5:Nat),Has s [(0,.pointer (some ⟨p,0,none⟩)),(1,.slice a fl.length c),(5,.slice a5 n5 c5),(16,.slice a fl.length c),(17,.int .i64 (fl.length:Int)),(18,.int .i64 (i:Int))]∧Hp h D [capI 1 3 (a5,n5,c5) ((pgH (fl.take i)).map iv),boxI p 212 [.bool r.in_,.int .i64 (r.now:Int),.int .i64 (r.valid:Int),.bool r.begun,.int .u64 (r.nonce:Int),.map r.km,.int .i64 (r.marked:Int),.pointer (some ⟨r.d,0,none⟩),.int .i64 (r.size:Int),.pointer (some ⟨r.c,0,none⟩),.int .i64 (r.sure:Int),.int .i64 (r.bytes:Int),.bool false],kepI r.km r.kept,dgI r.d Fd r.D] [frsI Fl El (a,fl.length,c) fl xa xc,rdI Fl El (a,fl.length,c) fl] hh∧i≤fl.length∧m=fl.length-i) ?_ ?_
 ·exact ⟨_,0,none,0,0,⟨rfl,rfl,rfl,rfl,rfl,rfl,trivial⟩,(ok).k4.f1.f1.e2,Nat.zero_le _,rfl⟩
 rintro _ _ η1 ⟨i,a5,n5,c5,hs,ok,hi,rfl⟩ J0 hJ0;refine .frame hs fun τ=>?_;refine .s<|.z .lss<|.nil<|.seq<|.cdr (fun C1=>?_) (fun C1=>?_)
 ·
  refine .exit<|hK0 _ _<|.seq<|.seq<|?_;obtain rfl:i=fl.length:=by omega
  have ok:=ok;rw [List.take_length] at ok;obtain rfl:n5=(pgH fl).length:=by have:=(Cap.sl ok.m0).cells.len;simpa using this.symm
  refine .r<|.z .mvP<|.z .mvS<|?_;have ok:=(ok).frzI (l:=(pgH fl)) rfl;refine .c' 30 .func (hsave_any (p:=p) (r:=r) (a:=a5) (c:=c5) (li:=(pgH fl)) k hkm (by omega) (by rw [pgH_len];omega) hpp (ok).lc3.e1) ?_;rintro _ η2 ⟨rfl,rs1,Fds1,ss1,q⟩;have ok:=(ok).lf33 q;have hcs1:=ss1.chg;refine .z .asI<|.nil<|.s<|.z .mvI<|.z .neq<|.nil<|.cf<|.skip<|.seq<|.s<|.z .mvP<|.c' 35 .func (hcut_any (p:=p) (r:=rs1) ss1.ok (by rw [ss1.km];exact hkm) (by omega) (by rw [ss1.valid,ss1.size];omega) (ok).lc3.e0) ?_;rintro _ η3 ⟨rfl,rt1,Fdt1,tt1,q⟩;have ok:=(ok).lf33 q;have hct1:=tt1.chg;refine .z .asI<|.nil<|.s<|.z .mvI<|.z .neq<|.nil<|.cf<|.skip<|.seq<|.seq<|?_;have hsi:rt1.size=r.size:=tt1.size.trans ss1.size;have hva:rt1.valid=r.valid:=tt1.valid.trans ss1.valid;have hf0:fT rt1.D=(fT r.D).take (r.valid*r.size):=by rw [tt1.ft,ss1.valid,ss1.size];unfold fT;rw [ss1.ct]
  have hb0:rt1.bytes=r.valid*r.size:=by rw [tt1.bytes,ss1.valid,ss1.size,ss1.bytes];omega
  have hy0:=tt1.ok.by_;have hdi:=tt1.d.trans ss1.d;refine .r<|.z .mvS<|.z (.len T.el252)<|.z .mvI<|.nil<|.block fun K2 hK2=>.loop (fun m s hh=>∃(j:Nat) (Dj:Dk) (va by_:Nat) (Fj:Nat→Prop),Has s [(0,.pointer (some ⟨p,0,none⟩)),(39,.slice a fl.length c),(40,.int .i64 (fl.length:Int)),(41,.int .i64 (j:Int))]∧Hp h D [boxI p 212 [.bool rt1.in_,.int .i64 (rt1.now:Int),.int .i64 (va:Int),.bool rt1.begun,.int .u64 (rt1.nonce:Int),.map rt1.km,.int .i64 (rt1.marked:Int),.pointer (some ⟨rt1.d,0,none⟩),.int .i64 (rt1.size:Int),.pointer (some ⟨rt1.c,0,none⟩),.int .i64 (rt1.sure:Int),.int .i64 (by_:Int),.bool false],kepI rt1.km rt1.kept,dgI rt1.d Fj Dj] [rdI (blkC (sv (a5,(pgH fl).length,c5))) none_ (a5,(pgH fl).length,c5) (pgH fl),frsI Fl El (a,fl.length,c) fl xa xc,rdI Fl El (a,fl.length,c) fl] hh∧j≤l.length∧HD Dj∧(fT Dj,va)=layP r.size ((fT r.D).take (r.valid*r.size),r.valid) (l.take j)∧by_=va*r.size∧(fT Dj).length=by_∧by_≤16777216∧Dj.chg≤rt1.D.chg+j∧m=l.length-j) ?_ ?_
  ·exact ⟨_,0,rt1.D,rt1.valid,rt1.bytes,Fdt1,⟨rfl,rfl,rfl,rfl,trivial⟩,(ok).k3.f2.f2.f2.e3,Nat.zero_le _,tt1.ok.hd,(by rw [hf0,hva];rfl),(by rw [hb0,hva]),hy0,tt1.ok.fit,by omega,rfl⟩
  rintro _ _ η4 ⟨j,Dj,va,by_,Fj,hs,ok,hj,hdj,hly,hby,hfl2,hb24,hcj,rfl⟩ J1 hJ1;refine .frame hs fun τ=>?_;refine .s<|.z .lss<|.nil<|.seq<|.cdr (fun C4=>?_) (fun C4=>?_)
  ·
   refine .exit<|hK2 _ _<|.s<|.z .asI<|.nil ?_;rw [show j=l.length by omega,List.take_length] at hly;refine .ret ⟨.int .i64 0,Res.one rfl rfl,⟨rfl,({ rt1 with valid:=va,bytes:=by_,D:=Dj } : RH),Fj,.inr ⟨hl0,⟨(tt1.in_.trans ss1.in_),(tt1.now.trans ss1.now),(tt1.km.trans ss1.km),(tt1.d.trans ss1.d),(tt1.size.trans ss1.size),(tt1.c.trans ss1.c),(tt1.sure.trans ss1.sure),hly,hby,tt1.bg ss1.bg,⟨tt1.ok.sz,hdj,hfl2,hb24,tt1.ok.ms,tt1.ok.jb,tt1.ok.jn,tt1.ok.kn,tt1.ok.kr,tt1.ok.no,hdj.dk.chg⟩,(by show Dj.chg≤_;omega)⟩⟩,(ok).k3.e0⟩⟩
  refine .skip<|.seq<|.block fun K3 hK3=>.s<|?_;obtain ⟨bb1,oo1,rfl,fb1⟩:=ok.r1.pos (by omega);refine .z (.ix j T.el252 T.sz277)<|?_;have ok:=ok.d1 (rdI El El ((xa j),(frN fl j).b.length,(xc j)) ((frN fl j).b)) ((ok.r1).b j (by omega)) (fun _ h=>.inr (h.elim id id));refine .z (.ldc (vs:=vfN fl xa xc j) T.ag277 (frs_ats (ok.r2).sl (i:=j) (by omega)) T.sz277)<|?_;have hjl:j<l.length:=by omega
  have hfj:=frH_map hjl;rw [←hfl] at hfj;have hpj:=hpos l[j] (List.getElem_mem hjl);obtain ⟨pn,hpn⟩:∃pn:Nat,l[j].page=(pn:Int):=⟨l[j].page.toNat,by omega⟩;have hfp:(frN fl j).page=(pn:Int):=by rw [hfj];exact hpn
  have hfb:(frN fl j).b=l[j].b:=by rw [hfj];rfl
  have hpz:=hpj.2.2.1;rw [hpn,Int.toNat_natCast] at hpz;have hbl:(frN fl j).b.length=r.size:=by rw [hfb];exact hpj.2.2.2
  have hps:(pn-1)*rt1.size+r.size=pn*r.size:=by rw [hsi,←Nat.succ_mul];congr 1;omega
  have hpm:pn*rt1.size=pn*r.size:=by rw [hsi]
  refine .a' 11 (.alA T.zr277 ok) ?_;rintro _ η5 ⟨pb1,rfl,ok,xe⟩;refine .ur' (.stW (vs:=[.int .i64 ((frN fl j).page),.int .i64 ((frN fl j).commit),.slice (xa j) ((frN fl j).b.length) (xc j)]) T.sz277 ok (oneL rfl)) ?_;rintro η6 ⟨ok,cg⟩;refine .nil ?_;refine .seq<|.seq<|?_;rw [hfp] at ok;refine .t 14 mixed ?_;simp only [List.take_succ_cons,List.take_zero,List.drop_succ_cons,List.drop_zero];refine .z .mvP<|.z .nil<|.z (.fa T.fd212_1)<|.z (.ldx T.ag63 ok.m1)<|.z (.fa T.fd277_0)<|.z (.ldx T.ag3 ok.m0)<|.z .sub<|?_;rw [show (((pn:Int)-1):Int)=((pn-1:Nat):Int) from by omega];refine .z .mvP<|.z .nil<|.z (.fa T.fd212_2)<|.z (.ldx T.ag3 ok.m1)<|.z .mulI<|.z (.fa T.fd277_2)<|.z (.ldx T.ag44 ok.m0)<|.nil ?_;refine .c' 59 .func (hwrite_any (D:=Dj) (n:=nT) (p:=((pn-1)*rt1.size)) (l:=(frN fl j).b) hdj (by omega) nT_h (by omega) (ok.n3).loc1) ?_;rintro _ η7 ⟨rfl,Fy1,Dy1,uy1,q⟩;have ok:=(ok.n3).lift1 q;have hcy1:=uy1.chg;refine .z .asI<|.nil<|.s<|.z .mvI<|.z .neq<|.nil<|.cf<|.skip<|.seq<|.t 15 mixed ?_;simp only [List.take_succ_cons,List.take_zero,List.drop_succ_cons,List.drop_zero];refine .z .mvP<|.z .mvP<|.z .nil<|.z (.fa T.fd212_5)<|.z (.ldx T.ag3 ok.m2)<|.z (.fa T.fd277_0)<|.z (.ldx T.ag3 ok.m1)<|.z .mvP<|.z .nil<|.z (.fa T.fd212_2)<|.z (.ldx T.ag3 ok.m2)<|.z .mulI<|.z .maxn<|.z .nil<|.z (.fa T.fd212_5)<|.nil ?_;refine .ur' (.stI T.sz3 ok.n2) ?_;rintro η8 ⟨ok,cg⟩;refine .nil ?_;refine .t 12 mixed ?_;simp only [List.take_succ_cons,List.take_zero,List.drop_succ_cons,List.drop_zero];refine .z .mvP<|.z .mvP<|.z .nil<|.z (.fa T.fd212_0)<|.z (.fa T.fd210_2)<|.z (.ldx T.ag3 ok.m0)<|.z (.fa T.fd277_0)<|.z (.ldx T.ag3 ok.m2)<|.z .maxn<|.z .nil<|.z (.fa T.fd212_0)<|.z (.fa T.fd210_2)<|.nil ?_;refine .ur' (.stI T.sz3 ok) ?_;rintro η9 ⟨ok,cg⟩;refine .nil ?_;refine .end<|hK3 _ _<|.r<|.z (.addI (b:=1))<|.z .mvI<|.nil<|.end<|hJ1 _ _ _ ⟨j+1,Dy1,(max va pn),(max by_ (pn*rt1.size)),Fy1,⟨rfl,rfl,rfl,rfl,trivial⟩,(ok.n1.n3.n2).k3.f3.f3.f3.e3,(by omega),uy1.hd,(by rw [layP_s hjl,←hly,hpn,Int.toNat_natCast,←hfb];show (fT Dy1,_)=(wrB (fT Dj) _ _,max va pn);unfold fT;rw [uy1.at_,hsi];rfl),(by rw [hsi,hby,max_mul]),(by show ((cont Dy1 nT).getD []).length=_;rw [uy1.at_,Option.getD_some,wrB_len];have e1:((cont Dj nT).getD []).length=by_:=hfl2;rw [e1];omega),(by omega),(by omega),rfl⟩ (by omega)
 refine .skip<|.seq<|.block fun K1 hK1=>.s<|?_;obtain ⟨bb2,oo2,rfl,fb2⟩:=ok.r0.pos (by omega);refine .z (.ix i T.el252 T.sz277)<|?_;have ok:=ok.d0 (rdI El El ((xa i),(frN fl i).b.length,(xc i)) ((frN fl i).b)) ((ok.r0).b i (by omega)) (fun _ h=>.inr (h.elim id id));refine .z (.ldc (vs:=vfN fl xa xc i) T.ag277 (frs_ats (ok.r1).sl (i:=i) (by omega)) T.sz277)<|.a' 7 (.alA T.zr277 ok) ?_;rintro _ η10 ⟨pb2,rfl,ok,xe⟩;refine .ur' (.stW (vs:=[.int .i64 ((frN fl i).page),.int .i64 ((frN fl i).commit),.slice (xa i) ((frN fl i).b.length) (xc i)]) T.sz277 ok (oneL rfl)) ?_;rintro η11 ⟨ok,cg⟩;refine .nil ?_;refine .r<|.z .mvS<|.z (.fa T.fd277_0)<|.z (.ldx T.ag3 ok.m0)<|.a' 25 (.lit [.tmp 24] (cs:=[.int .i64 ((frN fl i).page)]) T.el24 T.sz3 T.zr3 ok ⟨rfl,trivial⟩) ?_;rintro _ η12 ⟨pb3,rfl,ok,xe⟩;refine .a' 26 (.app (news:=[.int .i64 ((frN fl i).page)]) T.el24 T.sz3 T.by3 T.zr3 ok.n2 (ok.n2.m1).sl (oneL rfl) (by simp only [List.length_map,List.length_cons,List.length_nil,pgH_len,List.length_take];omega)) ?_;rintro _ η13 ⟨ya1,yn1,yc1,rfl,ok,ap⟩;refine .z .asS<|.nil<|.end<|hK1 _ _<|.r<|.z (.addI (b:=1))<|.z .mvI<|.nil<|.end<|hJ0 _ _ _ ⟨i+1,ya1,yn1,yc1,⟨rfl,rfl,rfl,rfl,rfl,rfl,trivial⟩,((ok.n5.n5.n5.n3).k4.f2.f2.e2).cx (by exact pgH_take (by omega)),by omega,rfl⟩ (by omega)
def upZ (z v:Nat) (f:List UInt8) (i:Nat):List UInt8:=if v≤i then List.replicate z 0 else pgF z f i
theorem upF_in {r:RH} (h:r.in_=true) {f:List UInt8} {i:Nat} : upF r f i=upZ r.size r.valid f i:=by unfold upF upZ;simp [h]
theorem pgF_take {z v i:Nat} {f:List UInt8} (h:i<v):pgF z (f.take (v*z)) i=pgF z f i:=pgF_ext pgF_len fun j hj=>by
 have h1:(i+1)*z≤v*z:=Nat.mul_le_mul_right z h;rw [Nat.succ_mul] at h1;rw [gd_take,if_pos (by omega),gd_pgF hj]
theorem upZ_take {z v i:Nat} {f:List UInt8} : upZ z v (f.take (v*z)) i=upZ z v f i:=by
 unfold upZ;split
 ·rfl
 ·exact pgF_take (by omega)
theorem wr_up {z v p:Nat} {f b:List UInt8} (hf:f.length=v*z) (hb:b.length=z):(wrB f (p*z) b).length=max v (p+1)*z∧∀i,upZ z (max v (p+1)) (wrB f (p*z) b) i=if i=p then b else upZ z v f i:=by
 have hm:(p+1)*z=p*z+z:=Nat.succ_mul _ _;refine ⟨by rw [wrB_len,hf,hb,←hm,max_mul],fun i=>?_⟩;by_cases hi:i=p
 ·subst hi;rw [if_pos rfl];unfold upZ;rw [if_neg (by omega)];exact pgF_ext hb fun j hj=>by rw [gd_wrB,if_pos (by omega),Nat.add_sub_cancel_left]
 ·rw [if_neg hi];have hout:∀j,j<z→¬(p*z≤i*z+j∧i*z+j<p*z+b.length):=fun j hj h=>by
   rcases Nat.lt_or_gt_of_ne hi with h1 | h1
   ·have h2:(i+1)*z≤p*z:=Nat.mul_le_mul_right z h1;rw [Nat.succ_mul] at h2;omega
   ·have h2:(p+1)*z≤i*z:=Nat.mul_le_mul_right z h1;omega
  unfold upZ;by_cases h1:max v (p+1)≤i
  ·rw [if_pos h1,if_pos (by omega)]
  ·rw [if_neg h1];by_cases h2:v≤i
   ·rw [if_pos h2];have h3:v*z≤i*z:=Nat.mul_le_mul_right z h2;exact pgF_ext List.length_replicate fun j hj=>by rw [gd_wrB,if_neg (hout j hj),gd_zeros,gd_ge (by omega)]
   ·rw [if_neg h2];exact pgF_ext pgF_len fun j hj=>by rw [gd_wrB,if_neg (hout j hj),gd_pgF hj]
theorem layP_up {z:Nat} : ∀ {l:List AFr} {f:List UInt8} {v:Nat},f.length=v*z→(∀g∈l,1≤g.page∧g.b.length=z)→(layP z (f,v) l).1.length=(layP z (f,v) l).2*z∧v≤(layP z (f,v) l).2∧(∀N:Nat,v≤N→(∀g∈l,g.page≤N)→(layP z (f,v) l).2≤N)∧
  (∀i:Nat,(∀g∈l,g.page≠i+1)→upZ z (layP z (f,v) l).2 (layP z (f,v) l).1 i=upZ z v f i)∧((l.map (·.page)).Nodup→∀g∈l,upZ z (layP z (f,v) l).2 (layP z (f,v) l).1 (g.page-1).toNat=g.b)
 | [],f,v,hf,_=>⟨hf,Nat.le_refl _,fun _ h _=>h,fun _ _=>rfl,fun _ _ h=>by cases h⟩
 | a::l,f,v,hf,h=>by
  obtain ⟨ha,hb⟩:=h a List.mem_cons_self;obtain ⟨p,hp⟩:∃p:Nat,a.page.toNat=p+1:=⟨a.page.toNat-1,by omega⟩;have e:layP z (f,v) (a::l)=layP z (wrB f (p*z) a.b,max v (p+1)) l:=by
   show layP z (wrB f ((a.page.toNat-1)*z) a.b,max v a.page.toNat) l=_;rw [hp];rfl
  obtain ⟨w1,w2⟩:=wr_up (p:=p) hf hb;obtain ⟨q1,q2,q5,q3,q4⟩:=layP_up (l:=l) w1 fun g hg=>h g (List.mem_cons_of_mem _ hg);rw [e];refine ⟨q1,by omega,fun N h1 h2=>q5 N (by have:=h2 a List.mem_cons_self;omega) fun g hg=>h2 g (List.mem_cons_of_mem _ hg),fun i hi=>?_,fun hn g hg=>?_⟩
  ·rw [q3 i fun g hg=>hi g (List.mem_cons_of_mem _ hg),w2,if_neg (by have:=hi a List.mem_cons_self;omega)]
  ·rw [List.map_cons,List.nodup_cons] at hn;rcases List.mem_cons.1 hg with rfl | hg
   ·rw [show (g.page-1).toNat=p by omega,q3 p fun x hx ex=>hn.1 (List.mem_map.2 ⟨x,hx,by omega⟩),w2,if_pos rfl]
   ·exact q4 hn.2 g hg
structure HB (r:RH) (room:Int) (L:List AP) (P:List (List UInt8)):Prop where
 k:HC0 r
 np:presH r=P.length
 pl:∀x∈P,x.length=r.size
 mp:P.length*(r.size+8)+28≤16777216
 nd:(nos L).Nodup
 rm:1≤room∧room≤1048576∧(L.length:Int)≤room
 rg:∀x∈L,1≤x.no∧x.no≤P.length
 at_:∀x∈L,x.b=P.getD (x.no-1).toNat []
 un:∀i:Nat,i<P.length→(∀x∈L,x.no=i+1→x.d=false)→upF r (fT r.D) i=P.getD i []
 nt:r.in_=false→∀x∈L,x.d=false
 vn:r.in_=true→r.valid≤r.now∧r.valid*r.size≤r.bytes
 km:r.in_=true→∃m,r.km=some m
 out:r.in_=false→r.begun=false
 bs:r.begun=false→r.bytes=r.sure*r.size
section
variable {r r':RH} {room:Int} {L:List AP} {P:List (List UInt8)} {no:Nat} {b:List UInt8} {d:Bool}
theorem HB.zc (k:HB r room L P):256≤r.size∧r.size≤4096:=by have:=okSz_c k.k.sz;omega
theorem HB.few (k:HB r room L P):P.length*r.size≤16777216∧P.length≤65536:=by
 have h1:=k.mp;have h2:=k.zc;rw [Nat.mul_add] at h1;have h3:P.length*256≤P.length*r.size:=Nat.mul_le_mul_left _ h2.1;omega
theorem HB.page_len (k:HB r room L P) {i:Nat} (h:i<P.length):(P.getD i []).length=r.size:=by
 have e:P.getD i []=P[i]:=by simp [h]
 rw [e];exact k.pl _ (List.getElem_mem h)
def gotH (r:RH) (L:List AP) (no:Nat):List UInt8:=match hit (no:Int) L with
 | some x=>x.b
 | none=>upF r (fT r.D) (no-1)
theorem HB.get (k:HB r room L P) (h1:1≤no) (h2:no≤P.length):gotH r L no=P.getD (no-1) []∧HB r room (getL no L) P:=by
 refine ⟨?_,k.k,k.np,k.pl,k.mp,bgetL_nd k.nd,⟨k.rm.1,k.rm.2.1,by have:=getL_len (no:=(no:Int)) k.nd;have:=k.rm.2.2;omega⟩,fun x hx=>k.rg x ((bgetL_mem k.nd).1 hx),fun x hx=>k.at_ x ((bgetL_mem k.nd).1 hx),fun i hi h=>k.un i hi fun x hx=>h x ((bgetL_mem k.nd).2 hx),fun h x hx=>k.nt h x ((bgetL_mem k.nd).1 hx),k.vn,k.km,k.out,k.bs⟩;unfold gotH;cases hh:hit (no:Int) L with
 | some x=>
  have:=k.at_ x (hit_some hh).1;rw [(hit_some hh).2,show ((no:Int)-1).toNat=no-1 by omega] at this;exact this
 | none=>exact k.un (no-1) (by omega) fun x hx e=>absurd (show x.no=(no:Int) by omega) (hit_none hh x hx)
theorem HB.ptA (k:HB r room L P) (h1:1≤no):(putA room no b d L).length≤1∧(∀f∈putA room no b d L,∃x∈L,x.no≠no∧x.d=true∧f=⟨x.no,0,x.b⟩)∧(putA room no b d L≠[]→r.in_=true):=by
 obtain ⟨ev,e1,e2,e3,_⟩:=put_cases (L:=L) (room:=room) (b:=b) (d:=d) (show 1≤(no:Int) by omega) k.rm.1;have key:∀f∈putA room no b d L,∃x∈L,x.no≠no∧x.d=true∧f=⟨x.no,0,x.b⟩:=fun f hf=>by
  rw [e2] at hf;unfold toldL at hf;cases ev with
  | none=>cases hf
  | some x=>
   obtain ⟨g1,g2⟩:=mem_rid.1 (e3 x rfl);by_cases hd:x.d=true
   ·simp only [hd,if_true,List.mem_singleton] at hf;exact ⟨x,g1,g2,hd,hf⟩
   ·simp [hd] at hf
 refine ⟨by rw [e2];unfold toldL;split<;>(try split)<;>simp,key,fun hne=>?_⟩;obtain ⟨f,hf⟩:=List.exists_mem_of_ne_nil _ hne;obtain ⟨x,g1,_,g2,_⟩:=key f hf;cases hi:r.in_ with
 | true=>rfl
 | false=>rw [k.nt hi x g1] at g2;cases g2
theorem HB.fok (k:HB r room L P) {f:AFr} {x:AP} (hx:x∈L) (e:f=⟨x.no,0,x.b⟩):1≤f.page∧f.page≤1048576∧f.page.toNat*r.size≤16777216∧f.b.length=r.size:=by
 subst e;have g:=k.rg x hx;have h:=k.few;refine ⟨g.1,by show x.no≤_;omega,?_,?_⟩
 ·have:x.no.toNat*r.size≤P.length*r.size:=Nat.mul_le_mul_right _ (by omega);show x.no.toNat*r.size≤_;omega
 ·show x.b.length=_;rw [k.at_ x hx];exact k.page_len (by omega)
theorem HB.fl (k:HB r room L P) {l:List AFr} (hin:r.in_=true) (hl:∀f∈l,1≤f.page∧f.page≤P.length∧f.b.length=r.size) (q:FL r r' l):r'.valid≤r'.now∧r'.valid*r.size=r'.bytes∧(∀i:Nat,(∀f∈l,f.page≠i+1)→upF r' (fT r'.D) i=upF r (fT r.D) i)∧((l.map (·.page)).Nodup→∀f∈l,upF r' (fT r'.D) (f.page-1).toNat=f.b):=by
 have v:=k.vn hin;have hby:=k.k.by_;have hf0:((fT r.D).take (r.valid*r.size)).length=r.valid*r.size:=by rw [List.length_take];omega
 have hnow:r.now=P.length:=by have:=k.np;unfold presH at this;rw [if_pos hin] at this;exact this
 obtain ⟨q1,q2,q5,q3,q4⟩:=layP_up (l:=l) hf0 fun g hg=>⟨(hl g hg).1,(hl g hg).2.2⟩;rw [←q.lay] at q1 q2 q3 q4 q5;have h5:r'.valid≤P.length:=q5 P.length (by omega) fun g hg=>(hl g hg).2.1;have hin':r'.in_=true:=q.in_.trans hin;refine ⟨by rw [q.now];omega,q.bytes.symm,fun i hi=>?_,fun hn f hf=>?_⟩
 ·rw [upF_in hin',upF_in hin,q.size];have:=q3 i hi;simp only at this;rw [this,upZ_take]
 ·rw [upF_in hin',q.size];exact q4 hn f hf
theorem HB.put (k:HB r room L P) (h1:1≤no) (h2:no≤P.length) (hb:b.length=r.size) (hd0:d=false→b=P.getD (no-1) []) (hd1:d=true→r.in_=true) (q:(putA room no b d L=[]∧r'=r)∨(putA room no b d L≠[]∧FL r r' (putA room no b d L))):HB r' room (putL room no b d L) (P.set (no-1) b):=by
 obtain ⟨hA1,hA2,hA3⟩:=k.ptA (b:=b) (d:=d) h1;obtain ⟨ev,e1,e2,e3,e4⟩:=put_cases (L:=L) (room:=room) (b:=b) (d:=d) (show 1≤(no:Int) by omega) k.rm.1;have hk:no-1<P.length:=by omega
 have hnd1:(nos (putL1 (no:Int) b d L)).Nodup:=by
  show ((no:Int)::nos (rid (no:Int) L)).Nodup;rw [List.nodup_cons];exact ⟨by rw [nos_rid];simp,nd_rid k.nd⟩
 have hsub:∀y∈putL room (no:Int) b d L,y∈putL1 (no:Int) b d L:=fun y hy=>by rw [e1];exact List.mem_append_left _ hy
 have hL1:∀ {y:AP},y∈putL1 (no:Int) b d L→y=⟨(no:Int),b,d || wasD (no:Int) L⟩∨(y∈L∧y.no≠no):=fun {y} hy=>(List.mem_cons.1 hy).imp id fun h=>mem_rid.1 h;have hnew:(⟨(no:Int),b,d || wasD (no:Int) L⟩:AP)∈putL room (no:Int) b d L:=by
  have h3:(⟨(no:Int),b,d || wasD (no:Int) L⟩:AP)∈putL1 (no:Int) b d L:=List.mem_cons_self;rw [e1] at h3;rcases List.mem_append.1 h3 with h3 | h3
  ·exact h3
  ·cases ev with
   | none=>cases h3
   | some x=>
    have h5:(⟨(no:Int),b,d || wasD (no:Int) L⟩:AP)=x:=by simpa using h3
    have:=(mem_rid.1 (e3 x rfl)).2;rw [←h5] at this;exact absurd rfl this
 have hlen:((putL room (no:Int) b d L).length:Int)≤room:=e4 (by have:=rid_len (no:Int) L;have:=k.rm.2.2;simp only [putL1,List.length_cons];omega);have hq:HC0 r'∧r'.in_=r.in_∧r'.now=r.now∧r'.sure=r.sure∧r'.size=r.size∧r'.km=r.km∧(r.in_=true→r'.valid≤r'.now∧r'.valid*r'.size≤r'.bytes)∧(r.in_=false→r'=r)∧(r'.begun=false→r'.bytes=r'.sure*r'.size)∧(∀i:Nat,(∀f∈putA room no b d L,f.page≠i+1)→upF r' (fT r'.D) i=upF r (fT r.D) i)∧(∀f∈putA room no b d L,upF r' (fT r'.D) (f.page-1).toNat=f.b):=by
  rcases q with ⟨q0,rfl⟩ | ⟨q0,q⟩
  ·rw [q0];exact ⟨k.k,rfl,rfl,rfl,rfl,rfl,k.vn,fun _=>rfl,k.bs,fun _ _=>rfl,fun _ h=>by cases h⟩
  ·have hin:=hA3 q0;obtain ⟨f1,f2,f3,f4⟩:=k.fl hin (fun f hf=>by
    obtain ⟨x,g1,_,_,rfl⟩:=hA2 f hf;exact ⟨(k.rg x g1).1,(k.rg x g1).2,(k.fok g1 rfl).2.2.2⟩) q
   refine ⟨q.ok,q.in_,q.now,q.sure,q.size,q.km,fun _=>⟨f1,by rw [q.size,f2];exact Nat.le_refl _⟩,fun h=>(by rw [hin] at h;cases h),fun h=>absurd h (by rw [q.bg];decide),f3,f4 ?_⟩
   match h:putA room no b d L with
   | []=>simp
   | [f]=>simp
   | f::g::l=>rw [h] at hA1;simp at hA1
 obtain ⟨c1,c2,c3,c4,c5,c6,c7,c8,c9,q7,q6⟩:=hq;refine ⟨c1,?_,?_,?_,?_,⟨k.rm.1,k.rm.2.1,hlen⟩,?_,?_,?_,?_,fun h=>c7 (c2▸h),fun h=>by rw [c6];exact k.km (c2▸h),fun h=>?_,c9⟩
 ·unfold presH;rw [c2,c3,c4,List.length_set];exact k.np
 ·intro x hx;rw [c5];rcases List.mem_or_eq_of_mem_set hx with h | h
  ·exact k.pl x h
  ·rw [h];exact hb
 ·rw [List.length_set,c5];exact k.mp
 ·refine hnd1.sublist ?_;rw [e1];unfold nos;rw [List.map_append];exact List.sublist_append_left _ _
 ·intro y hy;rw [List.length_set];rcases hL1 (hsub y hy) with rfl | ⟨h,_⟩
  ·simp only;omega
  ·exact k.rg y h
 ·intro y hy;rcases hL1 (hsub y hy) with rfl | ⟨h,h'⟩
  ·simp only;rw [show ((no:Int)-1).toNat=no-1 by omega,getD_set hk,if_pos rfl]
  ·have:=k.rg y h;rw [getD_set hk,if_neg (by omega)];exact k.at_ y h
 ·intro i hi h;rw [List.length_set] at hi;by_cases hin:i=no-1
  ·subst hin;have h5:=h _ hnew (by simp only;omega);simp only [Bool.or_eq_false_iff] at h5;rw [getD_set hk,if_pos rfl,q7 _ fun f hf=>by
    obtain ⟨x,_,g,_,rfl⟩:=hA2 f hf;simp only;omega]
   rw [k.un _ hi fun x hx e=>wasD_of k.nd h5.2 x hx (by omega),hd0 h5.1]
  ·rw [getD_set hk,if_neg hin];by_cases hev:∃f∈putA room no b d L,f.page=i+1
   ·obtain ⟨f,hf,e⟩:=hev;have h6:=q6 f hf;obtain ⟨x,g1,_,_,rfl⟩:=hA2 f hf;simp only at e h6;rw [show (x.no-1).toNat=i by omega,k.at_ x g1,show (x.no-1).toNat=i by omega] at h6;exact h6
   ·rw [q7 i fun f hf e=>hev ⟨f,hf,e⟩];refine k.un i hi fun x hx e=>?_;cases hd:x.d with
    | false=>rfl
    | true=>
     have h7:x∈putL1 (no:Int) b d L:=List.mem_cons_of_mem _ (mem_rid.2 ⟨hx,by omega⟩);rw [e1] at h7;rcases List.mem_append.1 h7 with h7 | h7
     ·rw [h x h7 e] at hd;cases hd
     ·cases ev with
      | none=>cases h7
      | some y=>
       have:x=y:=by simpa using h7
       subst this;exact absurd ⟨⟨x.no,0,x.b⟩,by rw [e2];unfold toldL;simp [hd],e⟩ hev
 ·intro hi y hy;rw [c2] at hi;rcases hL1 (hsub y hy) with rfl | ⟨h,_⟩
  ·simp only [Bool.or_eq_false_iff];refine ⟨by cases d;rfl;exact absurd (hd1 rfl) (by rw [hi];decide),?_⟩;unfold wasD;cases hh:hit (no:Int) L with
   | none=>rfl
   | some x=>exact k.nt hi x (hit_some hh).1
  ·exact k.nt hi y h
 ·have e:=c8 (c2▸h);subst e;exact k.out h
end
end Go.Proofs.YtndlpekckpdncaaGreat
namespace Go.HL
open Go Go.Proofs.YtndlpekckpdncaaGreat
section
variable {h0 h h':Heap} {D:Nat→Prop} {M R:List Itm} {a b c d w x y z a':Itm}
theorem Hp.lc3F {cc:Nat} {F:Nat→Prop} {room:Int} {L:List AP} {s:SV} {fl:List Fr} (ok:Hp h0 D (a::b::c::cacL cc F room L::M) R h) (hf:RdL h F F s fl):Hp h (starI [a,b,c]).F [a,b,c] [rdI F F s fl] h:=by
 have o:=ok.lc3.e0;refine ⟨o.chg,o.m,fun i hi=>?_,o.mm,fun m hm i hi j hj hj2=>?_⟩
 ·rw [List.mem_singleton.1 hi];exact ⟨hf,fun j hj=>((ok.m (cacL cc F room L) (by simp)).2 j (hj.elim id id)).1⟩
 ·rw [List.mem_singleton.1 hi] at hj2;have hm3:=List.pairwise_append.1 (show ([a,b,c]++(cacL cc F room L::M)).Pairwise _ from ok.mm);exact hm3.2.2 m hm (cacL cc F room L) List.mem_cons_self j hj (hj2.elim id id)
theorem Hp.liftH (ok:Hp h0 D (a::M) R h) (q:Hp h a.F [a'] [x] h') (hx:∀j,x.F j→a.F j∨h.size≤j):Hp h0 D (a'::M) (x::R) h':=by
 have o:=ok.upd q.chg (fun _ x=>x) a' q.m0 fun j hj=>by
  have h1:=(q.m _ List.mem_cons_self).2 j hj;exact h1.2.imp id fun h=>⟨h,h1.1⟩
 refine ⟨o.chg,o.m,fun i hi=>?_,o.mm,fun m hm z hz j hj hj2=>?_⟩
 ·rcases List.mem_cons.1 hi with rfl | hi
  ·exact q.r _ (by simp)
  ·exact o.r i hi
 ·rcases List.mem_cons.1 hz with rfl | hz
  ·rcases List.mem_cons.1 hm with rfl | hm
   ·exact q.mr _ (by simp) _ (by simp) j hj hj2
   ·rcases hx j hj2 with h1 | h1
    ·exact (List.pairwise_cons.1 ok.mm).1 m hm j h1 hj
    ·have:=((ok.m m (List.mem_cons_of_mem _ hm)).2 j hj).1;omega
  ·exact o.mr m hm z hz j hj hj2
theorem Hp.fresh4 (ok:Hp h0 (starI [w,x,y,z]).F (a::w::x::y::z::M) R h):∀j,a.F j→h0.size≤j:=fun j hj=>by
 rcases ((ok.m a List.mem_cons_self).2 j hj).2 with ⟨i,hi,h2⟩ | h1
 ·exact absurd h2 ((List.pairwise_cons.1 ok.mm).1 i (by simp at hi⊢;rcases hi with h | h | h | h<;>simp [h]) j hj)
 ·exact h1
theorem Hp.lf4R (ok:Hp h0 D (a::b::c::d::M) R h) (q:Hp h (starI [a,b,c,d]).F [a,b,c,d] [x] h') (hx:∀j,x.F j→h.size≤j):Hp h0 D (a::b::c::d::M) (x::R) h':=by
 have o:Hp h0 D (starI [a,b,c,d]::M) R h:=Hp.star (l:=[a,b,c,d]) ok;have q2:Hp h (starI [a,b,c,d]).F (starI [a,b,c,d]::[]) [x] h':=Hp.star (l:=[a,b,c,d]) (M:=[]) q;exact Hp.unstar (l:=[a,b,c,d]) (o.liftH q2 fun j hj=>.inr (hx j hj))
end
end Go.HL
namespace Go.Proofs.YtndlpekckpdncaaGreat
open Go Go.HL
theorem hget_any {h:Heap} {p no:Nat} {r:RH} {D Fd Fc:Nat→Prop} {room:Int} {L:List AP} (k:HD r.D) (hsz:r.size≤4096) (hno:1≤no∧no≤1048576) (ok:Hp h D [hboxI p r,dgI r.d Fd r.D,cacL r.c Fc room L] [] h) :
  HC Tryz.prog 304 #[.pointer (some ⟨p,0,none⟩),.int .i64 (no:Int)] h (fun v h'=>∃Fc' a c,v=.tuple #[.slice a (gotH r L no).length c,.int .i64 0]∧Hp h D [capI 1 5 (a,(gotH r L no).length,c) ((gotH r L no).map bv),hboxI p r,dgI r.d Fd r.D,cacL r.c Fc' room (getL no L)] [] h'):=by
 refine HC.go Tryz.func304 43 ?_;refine .s<|.z .asS<|.z .asI<|.nil<|.seq<|.s<|.z .mvP<|.z .nil<|.z (.fa T.fd212_3)<|.z (.ldx T.ag194 ok.m0)<|.z .mvI<|.c' 14 .func (lget_any (no:=(no:Int)) (ok.n2).m0) ?_;rintro _ η1 ⟨Fg1,(⟨ag1,cg1,xg1,rfl,hhg1,q⟩ | ⟨ag1,ng1,cg1,rfl,hhg1,q⟩)⟩
 ·
  have ok:=(ok.n2).lift2 q;refine .z .mvU<|.z .ex<|.z .ex<|.z .asS<|.z .asB<|.nil<|.s<|.z .mvB<|.nil<|.ct<|.s<|.z .mvS<|.z .asS<|.z .asI<|.nil ?_;have hg:gotH r L no=xg1.b:=by unfold gotH;rw [hhg1]
  refine .ret ⟨.tuple #[.slice ag1 xg1.b.length cg1,.int .i64 0],Res.two rfl rfl rfl,⟨Fg1,ag1,cg1,(by rw [hg]),(by rw [hg];exact (ok.n1.n3.n3.n3).k4)⟩⟩
 have ok:=(ok.n2).lift1 q;refine .z .mvU<|.z .ex<|.z .ex<|.z .asS<|.z .asB<|.nil<|.s<|.z .mvB<|.nil<|.cf<|.skip<|.seq<|.s<|.z .mvP<|.z .nil<|.z (.fa T.fd212_0)<|.z (.fa T.fd210_0)<|.z (.ldx T.ag4 ok.m1)<|.z .mvB<|.spl (fun G24=>?_) (fun G24=>?_)
 ·
  refine .z .mvI<|.z .mvP<|.z .nil<|.z (.fa T.fd212_0)<|.z (.fa T.fd210_2)<|.z (.ldx T.ag3 ok.m1)<|.z .gtr<|.z .pkt<|.nil<|.cd (fun C1=>?_) (fun C1=>?_)
  ·
   refine .s<|.z .mvP<|.z .nil<|.z (.fa T.fd212_2)<|.z (.ldx T.ag3 ok.m1)<|.a' 37 (.mks r.size r.size T.el44 T.sz5 T.by5 T.zr5 ok) ?_;rintro _ η2 ⟨pb1,rfl,ok,xe⟩;have ok:=ok.cx (ys:=(List.replicate r.size (0:UInt8)).map bv) (zeros8 _);refine .z .asS<|.z .asI<|.nil ?_;have hg:gotH r L no=List.replicate r.size 0:=by unfold gotH;rw [hhg1];exact if_pos ⟨by simpa using G24,by omega⟩
   refine .ret ⟨.tuple #[.slice (some ⟨pb1,0,none⟩) r.size r.size,.int .i64 0],Res.two rfl rfl rfl,⟨Fg1,some ⟨pb1,0,none⟩,r.size,(by rw [hg];simp only [List.length_replicate]),(by rw [hg];simp only [List.length_replicate];exact (ok.n1.n3.n3.n3).k4)⟩⟩
  refine .skip<|.s<|.z .mvP<|.z .mvI<|.c' 40 .func (hold_any (p:=p) (r:=r) (no:=no) k hsz (by omega) (ok.n2.n2).lc2) ?_;rintro _ η3 ⟨ao1,co1,rfl,q⟩;have ok:=(ok.n2.n2).lf23 q;refine .z .ex<|.z .ex<|.z .asS<|.z .asI<|.nil ?_;have hg:gotH r L no=pgF r.size (fT r.D) (no-1):=by unfold gotH;rw [hhg1];exact if_neg (by rintro ⟨_,h1⟩;omega)
  refine .ret ⟨.tuple #[.slice ao1 ((pgF r.size (fT r.D) (no-1)).length) co1,.int .i64 0],Res.two rfl rfl rfl,⟨Fg1,ao1,co1,(by rw [hg]),(by rw [hg];exact (ok).k4)⟩⟩
 refine .y<|.y<|.y<|.y<|.y<|.y<|.y<|.z .pkf<|.nil<|.cf<|.skip<|.s<|.z .mvP<|.z .mvI<|.c' 40 .func (hold_any (p:=p) (r:=r) (no:=no) k hsz (by omega) (ok.n2.n2).lc2) ?_;rintro _ η4 ⟨ao2,co2,rfl,q⟩;have ok:=(ok.n2.n2).lf23 q;refine .z .ex<|.z .ex<|.z .asS<|.z .asI<|.nil ?_;have hg:gotH r L no=pgF r.size (fT r.D) (no-1):=by unfold gotH;rw [hhg1];exact if_neg (by rintro ⟨h1,_⟩;simp [h1] at G24)
 refine .ret ⟨.tuple #[.slice ao2 ((pgF r.size (fT r.D) (no-1)).length) co2,.int .i64 0],Res.two rfl rfl rfl,⟨Fg1,ao2,co2,(by rw [hg]),(by rw [hg];exact (ok).k4)⟩⟩
theorem hput_any {h:Heap} {p no:Nat} {r:RH} {D Fd Fc F2 E2:Nat→Prop} {room:Int} {L:List AP} {P:List (List UInt8)} {a:Option Addr} {c:Nat} {l:List UInt8} {d:Bool} (k:HB r room L P) (h1:1≤no) (hcg:r.D.chg<490000000) (hl:l.length≤1000000) (ok:Hp h D [hboxI p r,kepI r.km r.kept,dgI r.d Fd r.D,cacL r.c Fc room L] [rdI F2 E2 (a,l.length,c) l] h) :
  HC Tryz.prog 308 #[.pointer (some ⟨p,0,none⟩),.int .i64 (no:Int),.slice a l.length c,.bool d] h (fun v h'=>v=.int .i64 0∧∃r' Fd' Fc',((putA room no l d L=[]∧r'=r)∨(putA room no l d L≠[]∧FL r r' (putA room no l d L)))∧Hp h D [hboxI p r',kepI r'.km r'.kept,dgI r'.d Fd' r'.D,cacL r.c Fc' room (putL room no l d L)] [] h'):=by
 obtain ⟨hA1,hA2,hA3⟩:=k.ptA (b:=l) (d:=d) h1;have hrm:=k.rm;refine HC.go Tryz.func308 19 ?_;refine .s<|.z .asI<|.nil<|.s<|.z .mvP<|.z .mvP<|.z .nil<|.z (.fa T.fd212_3)<|.z (.ldx T.ag194 ok.m0)<|.z .mvI<|.z .mvS<|.z .mvB<|.c' 17 .func (lput_any (no:=(no:Int)) (a:=a) (n:=c) (l:=l) (d:=d) (ok.n3).m0 ok.n3.r0 hl hrm.1 (by omega)) ?_;rintro vp1 η1 ⟨Fp1,q,hfrp1⟩;have ok:=(ok.n3).lift1 q;obtain ⟨⟨ap1,np1,cp1⟩,rfl,hfp1⟩:=hfrp1;obtain rfl:np1=((putA room (no:Int) l d L).map AFr.fr).length:=hfp1.n;rw [show sv (ap1,((putA room (no:Int) l d L).map AFr.fr).length,cp1)=.slice ap1 ((putA room (no:Int) l d L).map AFr.fr).length cp1 from rfl];refine .c' 18 .func (hflush_any (p:=p) (r:=r) (l:=(putA room (no:Int) l d L)) (a:=ap1) (c:=cp1) k.k (fun h=>k.km (hA3 h)) (by omega) (fun h=>(k.vn (hA3 h)).2) rfl (by omega) (fun f hf=>let ⟨x,g,_,_,e⟩:=hA2 f hf;k.fok g e) ((ok.n3.n3.n3).lc3F hfp1)) ?_;rintro _ η2 ⟨rfl,rw1,Fdw1,ww1,q⟩;have ok:=(ok.n3.n3.n3).lf33 q;refine .z .asI<|.nil<|.ret ⟨.int .i64 0,Res.one rfl rfl,⟨rfl,rw1,Fdw1,Fp1,ww1,(ok).k4.e0⟩⟩
def unP (r:RH) (f:AFr):Bool:=decide ((r.valid:Int)<f.page∨r.begun=true∨pgF r.size (fT r.D) (f.page.toNat-1)≠f.b)
def unlH (r:RH) (L:List AP):List AFr:=(dirtyB L).filter (unP r)
theorem unG_s {l:List AFr} {O:List Nat} {i:Nat} (hi:i<l.length):unG l (O++[i])=unG l O++[l[i]]:=by simp [unG,hi]
theorem flt_take {l:List AFr} {i:Nat} {Q:AFr→Bool} (hi:i<l.length):(l.take (i+1)).filter Q=(l.take i).filter Q++(if Q l[i]=true then [l[i]] else []):=by
 rw [List.take_succ_eq_append_getElem hi,List.filter_append,List.filter_cons];split<;>rfl
theorem HB.nrng {r:RH} {room:Int} {L:List AP} {P:List (List UInt8)} (k:HB r room L P):∀n∈nos L,-9223372036854775808≤n∧n≤9223372036854775807:=fun n hn=>by
 obtain ⟨x,hx,rfl⟩:=List.mem_map.1 hn;have h1:=k.rg x hx;have h2:=k.few;omega
theorem HB.dirty {r:RH} {room:Int} {L:List AP} {P:List (List UInt8)} (k:HB r room L P) {f:AFr} : f∈dirtyB L↔∃x∈L,x.d=true∧f=⟨x.no,0,x.b⟩:=by
 unfold dirtyB dirtyS;rw [List.mem_flatMap];constructor
 ·rintro ⟨n,hn,hf⟩;unfold dirty1 toldL at hf;cases hh:hit n L with
  | none=>rw [hh] at hf;cases hf
  | some x=>
   rw [hh] at hf;by_cases hd:x.d=true
   ·simp only [hd,if_true,List.mem_singleton] at hf;exact ⟨x,(hit_some hh).1,hd,hf⟩
   ·simp [hd] at hf
 ·rintro ⟨x,hx,hd,rfl⟩;refine ⟨x.no,by rw [List.mem_mergeSort];exact List.mem_map.2 ⟨x,hx,rfl⟩,?_⟩;unfold dirty1 toldL;rw [hit_of k.nd hx];simp [hd]
theorem HB.dpos {r:RH} {room:Int} {L:List AP} {P:List (List UInt8)} (k:HB r room L P):∀f∈dirtyB L,1≤f.page∧f.page≤1048576:=fun f hf=>by
 obtain ⟨x,hx,_,rfl⟩:=k.dirty.1 hf;have h1:=k.rg x hx;have h2:=k.few;exact ⟨h1.1,by show x.no≤_;omega⟩
theorem hunlike_any {h:Heap} {p:Nat} {r:RH} {Fd Fc:Nat→Prop} {room:Int} {L:List AP} {P:List (List UInt8)} (k:HB r room L P) (ok:Hp h (starI [hboxI p r,kepI r.km r.kept,dgI r.d Fd r.D,cacL r.c Fc room L]).F [hboxI p r,kepI r.km r.kept,dgI r.d Fd r.D,cacL r.c Fc room L] [] h) :
  HC Tryz.prog 311 #[.pointer (some ⟨p,0,none⟩)] h (fun v h'=>∃x Eo,v=.tuple #[sv x,.int .i64 0]∧Hp h (starI [hboxI p r,kepI r.km r.kept,dgI r.d Fd r.D,cacL r.c Fc room L]).F [hboxI p r,kepI r.km r.kept,dgI r.d Fd r.D,cacL r.c Fc room L] [rdI Eo Eo x ((unlH r L).map AFr.fr)] h'∧∀j,Eo j∨Eo j→h.size≤j):=by
 have hszk:=k.zc;have hsz:=hszk.2;have hrm:=k.rm;refine HC.go Tryz.func311 59 ?_;refine .s<|.z .asS<|.z .asI<|.nil<|.s<|.z .asS<|.nil<|.seq<|.s<|.z .mvP<|.z .nil<|.z (.fa T.fd212_3)<|.z (.ldx T.ag194 ok.m0)<|.c' 13 .func (dirty_any (ok.n3).m0 k.nrng) ?_;rintro _ η1 ⟨S,hSp,hSs,hfr,hx⟩;rw [dirty_srt hSp hSs] at hfr;obtain ⟨⟨a0,n0,c0⟩,rfl,hf0⟩:=hfr;obtain ⟨fl,hfl⟩:∃fl,fl=(dirtyB L).map AFr.fr:=⟨_,rfl⟩;rw [←hfl] at hf0;obtain rfl:n0=fl.length:=hf0.n;rw [show sv (a0,fl.length,c0)=.slice a0 fl.length c0 from rfl];have ok:=ok.ret hx hf0;have hmc:=ok.r0.m;have hcc:=ok.r0.c;simp only at hmc hcc;obtain ⟨xa,xc,hf⟩:=RdL.frs ok.r0;have ok:=ok.d0 (frsI (Nw h η1) (Nw h η1) (a0,fl.length,c0) fl xa xc) hf (fun _ h=>h);have hfll:fl.length=(dirtyB L).length:=by rw [hfl,List.length_map]
 have hdl:=dirtyB_len (L:=L);refine .z (.len T.el252)<|.z .mvI<|?_;have ok:=ok.nilC (k:=3) (e:=277);refine .nil ?_;refine .block fun K0 hK0=>.loop (fun m s hh=>∃(i:Nat) (O:List Nat) (a4:Option Addr) (n4 c4:Nat),Has s [(0,.pointer (some ⟨p,0,none⟩)),(4,.slice a4 n4 c4),(13,.slice a0 fl.length c0),(14,.int .i64 (fl.length:Int)),(15,.int .i64 (i:Int))]∧Hp h (starI [hboxI p r,kepI r.km r.kept,dgI r.d Fd r.D,cacL r.c Fc room L]).F [capI 3 277 (a4,n4,c4) (O.flatMap (vfN fl xa xc)),boxI p 212 [.bool r.in_,.int .i64 (r.now:Int),.int .i64 (r.valid:Int),.bool r.begun,.int .u64 (r.nonce:Int),.map r.km,.int .i64 (r.marked:Int),.pointer (some ⟨r.d,0,none⟩),.int .i64 (r.size:Int),.pointer (some ⟨r.c,0,none⟩),.int .i64 (r.sure:Int),.int .i64 (r.bytes:Int),.bool false],kepI r.km r.kept,dgI r.d Fd r.D,cacL r.c Fc room L] [frsI (Nw h η1) (Nw h η1) (a0,fl.length,c0) fl xa xc,rdI (Nw h η1) (Nw h η1) (a0,fl.length,c0) fl] hh∧i≤fl.length∧unG (dirtyB L) O=((dirtyB L).take i).filter (unP r)∧(∀j∈O,j<(dirtyB L).length)∧O.length≤i∧m=fl.length-i) ?_ ?_
 ·exact ⟨_,0,[],none,0,0,⟨rfl,rfl,rfl,rfl,rfl,trivial⟩,(ok).k5.f1.f1.e2,Nat.zero_le _,rfl,(fun _ h=>by cases h),Nat.le_refl _,rfl⟩
 rintro _ _ η2 ⟨i,O,a4,n4,c4,hs,ok,hi,hun,hO,hOl,rfl⟩ J0 hJ0;refine .frame hs fun τ=>?_;refine .s<|.z .lss<|.nil<|.seq<|.cdr (fun C0=>?_) (fun C0=>?_)
 ·
  refine .exit<|hK0 _ _<|.s<|.z .mvS<|.z .asS<|.z .asI<|.nil ?_;have hun2:unlH r L=unG (dirtyB L) O:=by rw [hun,show i=(dirtyB L).length by omega,List.take_length];rfl
  have ok:=ok;have hfr:=Hp.fresh4 ok;have ok:=Hp.idxR (ok) (fun j hj=>by rw [hfll];exact hO j hj);rw [hfl,unG_fr hO,←hun2] at ok;refine .ret ⟨.tuple #[.slice a4 n4 c4,.int .i64 0],Res.two rfl rfl rfl,⟨(a4,n4,c4),(fun j=>blkC (sv (a4,n4,c4)) j∨(Nw h η1) j),rfl,ok.k4.e1,(fun j hj=>(hj.elim id id).elim (fun h=>hfr j h) fun h=>h.1)⟩⟩
 refine .skip<|.seq<|.block fun K1 hK1=>.s<|?_;obtain ⟨bb1,oo1,rfl,fb1⟩:=ok.r0.pos (by omega);refine .z (.ix i T.el252 T.sz277)<|?_;have ok:=ok.d0 (rdI (Nw h η1) (Nw h η1) ((xa i),(frN fl i).b.length,(xc i)) ((frN fl i).b)) ((ok.r0).b i (by omega)) (fun _ h=>.inr (h.elim id id));refine .z (.ldc (vs:=vfN fl xa xc i) T.ag277 (frs_ats (ok.r1).sl (i:=i) (by omega)) T.sz277)<|.a' 6 (.alA T.zr277 ok) ?_;rintro _ η3 ⟨pb1,rfl,ok,xe⟩;refine .ur' (.stW (vs:=[.int .i64 ((frN fl i).page),.int .i64 ((frN fl i).commit),.slice (xa i) ((frN fl i).b.length) (xc i)]) T.sz277 ok (oneL rfl)) ?_;rintro η4 ⟨ok,cg⟩;refine .nil ?_;refine .seq<|.seq<|?_;have hil:i<(dirtyB L).length:=by omega
 have hfj:=frH_map hil;rw [←hfl] at hfj;have hpj:=k.dpos (dirtyB L)[i] (List.getElem_mem hil);obtain ⟨pn,hpn⟩:∃pn:Nat,(dirtyB L)[i].page=(pn:Int):=⟨(dirtyB L)[i].page.toNat,by omega⟩;have hfp:(frN fl i).page=(pn:Int):=by rw [hfj];exact hpn
 have hfb:(frN fl i).b=(dirtyB L)[i].b:=by rw [hfj];rfl
 rw [hfp] at ok;refine .q (hm:=mixed)<|.z (.fa T.fd277_0)<|.z (.ldx T.ag3 ok.m0)<|.z .mvP<|.z .nil<|.z (.fa T.fd212_0)<|.z (.fa T.fd210_2)<|.z (.ldx T.ag3 ok.m2)<|.z .gtr<|.z .mvB<|.sd (fun G27=>?_) (fun G27=>?_)
 ·
  refine .y<|.y<|.y<|.y<|.y<|.z .pkt<|.nil<|.ct<|.s<|.z .mvS<|.z (.ldb T.ag277 ok.m0 T.sz277)<|.a' 36 (.lit [.tmp 35] (cs:=[.int .i64 (pn:Int),.int .i64 ((frN fl i).commit),.slice (xa i) ((frN fl i).b.length) (xc i)]) T.el252 T.sz277 T.zr277 ok ⟨rfl,trivial⟩) ?_;rintro _ η5 ⟨pb2,rfl,ok,xe⟩;refine .a' 37 (.app (news:=[.int .i64 (pn:Int),.int .i64 ((frN fl i).commit),.slice (xa i) ((frN fl i).b.length) (xc i)]) T.el252 T.sz277 T.by277 T.zr277 ok.n2 (ok.n2.m1).sl (oneL rfl) (by rw [flat_len (vfN_len fl xa xc)];simp only [List.length_cons,List.length_nil];omega)) ?_;rintro _ η6 ⟨ya1,yn1,yc1,rfl,ok,ap⟩;have ok:=(ok).cx (ys:=(O++[i]).flatMap (vfN fl xa xc)) (by rw [List.flatMap_append];simp only [vfN,hfp,List.flatMap_cons,List.flatMap_nil,List.append_nil]);refine .z .asS<|.nil<|.exit<|hK1 _ _<|.r<|.z (.addI (b:=1))<|.z .mvI<|.nil<|.end<|hJ0 _ _ _ ⟨i+1,O++[i],ya1,yn1,yc1,⟨rfl,rfl,rfl,rfl,rfl,trivial⟩,(ok.n6.n6.n6.n6.n4).k5.f2.f2.e2,by omega,(by rw [unG_s hil,flt_take hil,if_pos (show unP r (dirtyB L)[i]=true from decide_eq_true (by rw [hpn,Int.toNat_natCast,←hfb];exact .inl (by first | omega | (simpa using G27)))),hun]),(fun j hj=>(List.mem_append.1 hj).elim (hO j) fun h=>by rw [List.mem_singleton.1 h];exact hil),(by simp;omega),rfl⟩ (by omega)
 refine .z .mvP<|.z .nil<|.z (.fa T.fd212_0)<|.z (.fa T.fd210_3)<|.z (.ldx T.ag4 ok.m2)<|.z .pkf<|.nil<|.cond (fun C1=>?_) (fun C1=>?_)
 ·
  refine .s<|.z .mvS<|.z (.ldb T.ag277 ok.m0 T.sz277)<|.a' 36 (.lit [.tmp 35] (cs:=[.int .i64 (pn:Int),.int .i64 ((frN fl i).commit),.slice (xa i) ((frN fl i).b.length) (xc i)]) T.el252 T.sz277 T.zr277 ok ⟨rfl,trivial⟩) ?_;rintro _ η7 ⟨pb3,rfl,ok,xe⟩;refine .a' 37 (.app (news:=[.int .i64 (pn:Int),.int .i64 ((frN fl i).commit),.slice (xa i) ((frN fl i).b.length) (xc i)]) T.el252 T.sz277 T.by277 T.zr277 ok.n2 (ok.n2.m1).sl (oneL rfl) (by rw [flat_len (vfN_len fl xa xc)];simp only [List.length_cons,List.length_nil];omega)) ?_;rintro _ η8 ⟨ya2,yn2,yc2,rfl,ok,ap⟩;have ok:=(ok).cx (ys:=(O++[i]).flatMap (vfN fl xa xc)) (by rw [List.flatMap_append];simp only [vfN,hfp,List.flatMap_cons,List.flatMap_nil,List.append_nil]);refine .z .asS<|.nil<|.exit<|hK1 _ _<|.r<|.z (.addI (b:=1))<|.z .mvI<|.nil<|.end<|hJ0 _ _ _ ⟨i+1,O++[i],ya2,yn2,yc2,⟨rfl,rfl,rfl,rfl,rfl,trivial⟩,(ok.n6.n6.n6.n6.n4).k5.f2.f2.e2,by omega,(by rw [unG_s hil,flt_take hil,if_pos (show unP r (dirtyB L)[i]=true from decide_eq_true (by rw [hpn,Int.toNat_natCast,←hfb];exact .inr (.inl C1))),hun]),(fun j hj=>(List.mem_append.1 hj).elim (hO j) fun h=>by rw [List.mem_singleton.1 h];exact hil),(by simp;omega),rfl⟩ (by omega)
 refine .skip<|.s<|.z .mvP<|.z (.fa T.fd277_0)<|.z (.ldx T.ag3 ok.m0)<|.c' 42 .func (hold_any (p:=p) (r:=r) (no:=pn) k.k.hd hsz (by omega) (ok.n4.n3).lc2.e0) ?_;rintro _ η9 ⟨ao1,co1,rfl,q⟩;have ok:=(ok.n4.n3).lf23 q;refine .z .mvU<|.z .ex<|.z .ex<|.z .asS<|.z .asI<|.nil<|.seq<|.s<|.z .mvI<|.z .neq<|.nil<|.cf<|.skip<|.s<|.z .mvS<|.z (.fa T.fd277_2)<|.z (.ldx T.ag44 ok.m3)<|.k 51 .func (equal_any (a:=ao1) (c:=co1) (l:=(pgF r.size (fT r.D) (pn-1))) (b:=(xa i)) (d:=(xc i)) (l2:=(frN fl i).b) (RdL.ofCapB (v:=(ao1,(pgF r.size (fT r.D) (pn-1)).length,co1)) (l:=(pgF r.size (fT r.D) (pn-1))) ok.m0) ok.r0)<|.z .notd<|.nil<|.cd (fun C3=>?_) (fun C3=>?_)
 ·
  have ho3:pgF r.size (fT r.D) (pn-1)≠(frN fl i).b:=by simpa using C3
  refine .r<|.z .mvS<|.z (.ldb T.ag277 ok.m3 T.sz277)<|.a' 55 (.lit [.tmp 54] (cs:=[.int .i64 (pn:Int),.int .i64 ((frN fl i).commit),.slice (xa i) ((frN fl i).b.length) (xc i)]) T.el252 T.sz277 T.zr277 ok ⟨rfl,trivial⟩) ?_;rintro _ η10 ⟨pb4,rfl,ok,xe⟩;refine .a' 56 (.app (news:=[.int .i64 (pn:Int),.int .i64 ((frN fl i).commit),.slice (xa i) ((frN fl i).b.length) (xc i)]) T.el252 T.sz277 T.by277 T.zr277 ok.n5 (ok.n5.m1).sl (oneL rfl) (by rw [flat_len (vfN_len fl xa xc)];simp only [List.length_cons,List.length_nil];omega)) ?_;rintro _ η11 ⟨ya3,yn3,yc3,rfl,ok,ap⟩;have ok:=(ok).cx (ys:=(O++[i]).flatMap (vfN fl xa xc)) (by rw [List.flatMap_append];simp only [vfN,hfp,List.flatMap_cons,List.flatMap_nil,List.append_nil]);refine .z .asS<|.nil<|.end<|hK1 _ _<|.r<|.z (.addI (b:=1))<|.z .mvI<|.nil<|.end<|hJ0 _ _ _ ⟨i+1,O++[i],ya3,yn3,yc3,⟨rfl,rfl,rfl,rfl,rfl,trivial⟩,(ok.n7.n5.n7.n6.n4).k5.f2.f2.e2,by omega,(by rw [unG_s hil,flt_take hil,if_pos (show unP r (dirtyB L)[i]=true from decide_eq_true (by rw [hpn,Int.toNat_natCast,←hfb];exact .inr (.inr ho3))),hun]),(fun j hj=>(List.mem_append.1 hj).elim (hO j) fun h=>by rw [List.mem_singleton.1 h];exact hil),(by simp;omega),rfl⟩ (by omega)
 have ho3:pgF r.size (fT r.D) (pn-1)=(frN fl i).b:=by simpa using C3
 refine .skip<|.end<|hK1 _ _<|.r<|.z (.addI (b:=1))<|.z .mvI<|.nil<|.end<|hJ0 _ _ _ ⟨i+1,O,a4,n4,c4,⟨rfl,rfl,rfl,rfl,rfl,trivial⟩,(ok.n6.n3.n6.n4.n6).k5.f2.f2.e2,by omega,(by rw [flt_take hil,if_neg (by rw [show unP r (dirtyB L)[i]=false from decide_eq_false (by rw [hpn,Int.toNat_natCast,←hfb];rintro (h | h | h);(first | omega | exact G27 (by simpa using h));simp [h] at C1;exact h ho3)];decide),List.append_nil];exact hun),hO,(by omega),rfl⟩ (by omega)
theorem un_nodup {r:RH} {room:Int} {L:List AP} {P:List (List UInt8)} (k:HB r room L P):((unlH r L).map (·.page)).Nodup:=by
 have h1:((dirtyB L).map (·.page)).Sublist ((nos L).mergeSort fun a b=>decide (a≤b)):=dirtyS_sub;have h2:((nos L).mergeSort fun a b=>decide (a≤b)).Nodup:=(List.mergeSort_perm _ _).nodup_iff.2 k.nd;exact (h2.sublist h1).sublist (List.filter_sublist.map _)
theorem un_ok {r:RH} {room:Int} {L:List AP} {P:List (List UInt8)} (k:HB r room L P) {f:AFr} (hf:f∈unlH r L):∃x∈L,x.d=true∧f=⟨x.no,0,x.b⟩:=k.dirty.1 (List.mem_filter.1 hf).1
theorem un_few {r:RH} {room:Int} {L:List AP} {P:List (List UInt8)} (k:HB r room L P):(unlH r L).length≤1048576:=by
 have h1:(unlH r L).length≤(dirtyB L).length:=List.length_filter_le _ _;have h2:=dirtyB_len (L:=L);have:=k.rm;omega
theorem HB.laid {r:RH} {room:Int} {L:List AP} {P:List (List UInt8)} (k:HB r room L P) (hin:r.in_=true) {f1:List UInt8} {v1:Nat} (e:(f1,v1)=layP r.size ((fT r.D).take (r.valid*r.size),r.valid) (unlH r L)) :
  (longN f1 (P.length*r.size)).length=P.length*r.size∧∀i,i<P.length→pgF r.size (longN f1 (P.length*r.size)) i=P.getD i []:=by
 have v:=k.vn hin;have hby:=k.k.by_;have hf0:((fT r.D).take (r.valid*r.size)).length=r.valid*r.size:=by rw [List.length_take];omega
 obtain ⟨q1,q2,q5,q3,q4⟩:=layP_up (l:=unlH r L) hf0 fun g hg=>by
  obtain ⟨x,hx,_,rfl⟩:=un_ok k hg;exact ⟨(k.rg x hx).1,by show x.b.length=_;rw [k.at_ x hx];exact k.page_len (by have:=k.rg x hx;omega)⟩
 rw [←e] at q1 q3 q4;simp only at q1 q3 q4;refine ⟨longN_len _ _,fun i hi=>?_⟩;have hup:upZ r.size v1 f1 i=P.getD i []:=by
  by_cases hx:∃x∈L,x.no=i+1∧x.d=true
  ·obtain ⟨x,hx,hno,hd⟩:=hx;have hb:x.b=P.getD i []:=by rw [k.at_ x hx,show (x.no-1).toNat=i by omega]
   by_cases hu:(⟨x.no,0,x.b⟩:AFr)∈unlH r L
   ·have:=q4 (un_nodup k) _ hu;simp only at this;rw [show (x.no-1).toNat=i by omega] at this;rw [this,hb]
   ·have hdt:(⟨x.no,0,x.b⟩:AFr)∈dirtyB L:=k.dirty.2 ⟨x,hx,hd,rfl⟩;have hp:unP r ⟨x.no,0,x.b⟩=false:=by
     cases h:unP r ⟨x.no,0,x.b⟩ with
     | false=>rfl
     | true=>exact absurd (List.mem_filter.2 ⟨hdt,h⟩) hu
    have hp2:=of_decide_eq_false hp;simp only at hp2;have h1:¬(r.valid:Int)<x.no:=fun h=>hp2 (.inl h);have h2:pgF r.size (fT r.D) (x.no.toNat-1)=x.b:=Classical.byContradiction fun h=>hp2 (.inr (.inr h));rw [q3 i fun g hg hpg=>?_,upZ_take]
    ·unfold upZ;rw [if_neg (by omega),←hb,←h2,show x.no.toNat-1=i by omega]
    ·obtain ⟨y,hy,_,rfl⟩:=un_ok k hg;have:y=x:=nos_inj k.nd hy hx (by simp only at hpg;omega);subst this;exact hu hg
  ·rw [q3 i fun g hg hpg=>?_,upZ_take,←upF_in hin,k.un i hi fun x hx' hno=>?_]
   ·cases hd:x.d with
    | false=>rfl
    | true=>exact absurd ⟨x,hx',hno,hd⟩ hx
   ·obtain ⟨y,hy,hd,rfl⟩:=un_ok k hg;exact hx ⟨y,hy,hpg,hd⟩
 rw [←hup];have hiz:(i+1)*r.size≤P.length*r.size:=Nat.mul_le_mul_right _ hi;rw [Nat.succ_mul] at hiz;unfold upZ;split
 ·rename_i h;have h3:v1*r.size≤i*r.size:=Nat.mul_le_mul_right _ h;exact pgF_ext List.length_replicate fun j hj=>by rw [gd_longN,if_pos (by omega),gd_zeros,gd_ge (by omega)]
 ·exact pgF_ext pgF_len fun j hj=>by rw [gd_longN,if_pos (by omega),gd_pgF hj]
structure FB (r r':RH) (l:List AFr):Prop where
 in_:r'.in_=r.in_
 now:r'.now=r.now
 km:r'.km=r.km
 d:r'.d=r.d
 size:r'.size=r.size
 c:r'.c=r.c
 sure:r'.sure=r.sure
 lay:((fT r'.D).take (r'.valid*r'.size),r'.valid)=layP r.size ((fT r.D).take (r.valid*r.size),r.valid) l
 bytes:r'.valid*r'.size≤r'.bytes
 ok:HC0 r'
 chg:r'.D.chg≤r.D.chg+9+l.length
theorem fl_both {r r':RH} {l:List AFr} (k:HC0 r) (hv:r.valid*r.size≤r.bytes) (q:(l=[]∧r'=r)∨(l≠[]∧FL r r' l)):FB r r' l:=by
 rcases q with ⟨rfl,rfl⟩ | ⟨_,q⟩
 ·exact ⟨rfl,rfl,rfl,rfl,rfl,rfl,rfl,rfl,hv,k,by show r'.D.chg≤r'.D.chg+9+0;omega⟩
 ·exact ⟨q.in_,q.now,q.km,q.d,q.size,q.c,q.sure,by rw [List.take_of_length_le (by rw [q.ok.by_,q.bytes,q.size];exact Nat.le_refl _)];exact q.lay,by rw [q.bytes,q.size];exact Nat.le_refl _,q.ok,q.chg⟩
structure LA (L':List AP) (r r':RH) (P:List (List UInt8)):Prop where
 now:r'.now=r.now
 d:r'.d=r.d
 size:r'.size=r.size
 c:r'.c=r.c
 len:(fT r'.D).length=P.length*r.size
 pg:∀i,i<P.length→pgF r.size (fT r'.D) i=P.getD i []
 bytes:r'.bytes=P.length*r.size
 hd:HD r'.D
 chg:r'.D.chg≤r.D.chg+30+(unlH r L').length
theorem cont_is {D:Dk} (h:(cont D nT).isSome=true):cont D nT=some (fT D):=by unfold fT;cases hc:cont D nT with | none=>rw [hc] at h;cases h | some b=>rfl
theorem cont_isn {D:Dk} (h:¬(cont D nT).isSome=true):cont D nT=none:=by cases hc:cont D nT with | none=>rfl | some b=>rw [hc] at h;exact absurd rfl h
theorem hlay_any {h:Heap} {p:Nat} {r:RH} {D Fd Fc:Nat→Prop} {room:Int} {L:List AP} {P:List (List UInt8)} (k:HB r room L P) (hin:r.in_=true) (hP:1≤P.length) (hcg:r.D.chg<400000000) (ok:Hp h D [hboxI p r,kepI r.km r.kept,dgI r.d Fd r.D,cacL r.c Fc room L] [] h) :
  HC Tryz.prog 305 #[.pointer (some ⟨p,0,none⟩)] h (fun v h'=>v=.int .i64 0∧∃r' Fd',LA L r r' P∧Hp h D [hboxI p r',kepI r'.km r'.kept,dgI r'.d Fd' r'.D,cacL r.c Fc room L] [] h'):=by
 have hzc:=k.zc;have hvn:=k.vn hin;have hby:=k.k.by_;have hfw:=k.few;have hun:=un_few k;have hnow:r.now=P.length:=by have:=k.np;unfold presH at this;rw [if_pos hin] at this;exact this
 have hpz:256≤P.length*r.size:=Nat.le_trans hzc.1 (Nat.le_mul_of_pos_left _ hP);refine HC.go Tryz.func305 140 ?_;refine .s<|.z .asI<|.nil<|.s<|.z .mvP<|.c' 14 .func (hunlike_any (p:=p) (r:=r) (L:=L) k (ok).lc4) ?_;rintro _ η1 ⟨xu,Eo,rfl,q,hEo⟩;have ok:=Hp.lf4R (ok) q hEo;obtain ⟨ax,nx,cx⟩:=xu;obtain rfl:nx=((unlH r L).map AFr.fr).length:=ok.r0.n;rw [show sv (ax,((unlH r L).map AFr.fr).length,cx)=.slice ax ((unlH r L).map AFr.fr).length cx from rfl];refine .z .mvU<|.z .ex<|.z .ex<|.z .asS<|.z .asI<|.nil<|.seq<|.s<|.z .mvI<|.z .neq<|.nil<|.cf<|.skip<|.seq<|.seq<|.join (fun s hh=>∃(qb:Bool),Has s [(0,.pointer (some ⟨p,0,none⟩)),(3,.slice ax (((unlH r L).map AFr.fr).length) cx),(54,.bool qb)]∧Hp h D [boxI p 212 [.bool r.in_,.int .i64 (r.now:Int),.int .i64 (r.valid:Int),.bool r.begun,.int .u64 (r.nonce:Int),.map r.km,.int .i64 (r.marked:Int),.pointer (some ⟨r.d,0,none⟩),.int .i64 (r.size:Int),.pointer (some ⟨r.c,0,none⟩),.int .i64 (r.sure:Int),.int .i64 (r.bytes:Int),.bool false],kepI r.km r.kept,dgI r.d Fd r.D,cacL r.c Fc room L] [rdI Eo Eo (ax,((unlH r L).map AFr.fr).length,cx) ((unlH r L).map AFr.fr)] hh∧(qb=true→unlH r L=[]∧r.now=r.sure∧r.valid=r.sure∧r.begun=false)) ?_ ?_
 ·
  refine .q (hm:=mixed)<|.z .mvS<|.z (.len T.el252)<|.z .eql<|.z .mvB<|.sd (fun G23=>?_) (fun G23=>?_)
  ·
   refine .z .mvP<|.z .nil<|.z (.fa T.fd212_0)<|.z (.fa T.fd210_1)<|.z (.ldx T.ag3 ok.m0)<|.z .mvP<|.z .nil<|.z (.fa T.fd212_4)<|.z (.ldx T.ag3 ok.m0)<|.z .eql<|.z .pkt<|.z .mvB<|.sd (fun G35=>?_) (fun G35=>?_)
   ·
    refine .z .mvP<|.z .nil<|.z (.fa T.fd212_0)<|.z (.fa T.fd210_2)<|.z (.ldx T.ag3 ok.m0)<|.z .mvP<|.z .nil<|.z (.fa T.fd212_4)<|.z (.ldx T.ag3 ok.m0)<|.z .eql<|.z .pkt<|.z .mvB<|.sd (fun G47=>?_) (fun G47=>?_)
    ·
     refine .z .mvP<|.z .nil<|.z (.fa T.fd212_0)<|.z (.fa T.fd210_3)<|.z (.ldx T.ag4 ok.m0)<|.z .not<|.z .pkt<|.nil<|.end<|⟨(!r.begun),⟨rfl,rfl,rfl,trivial⟩,ok.n3.n3.n3.n3,fun h=>⟨List.eq_nil_of_length_eq_zero (by rw [List.length_map] at G23;omega),by omega,by omega,by simpa using h⟩⟩
    refine .y<|.y<|.y<|.y<|.y<|.y<|.z .pkf<|.nil<|.end<|⟨false,⟨rfl,rfl,rfl,trivial⟩,ok.n3.n3.n3.n3,fun h=>by cases h⟩
   refine .y<|.y<|.y<|.y<|.y<|.y<|.y<|.y<|.y<|.y<|.z .pkf<|.z .mvB<|.y<|.y<|.y<|.y<|.y<|.y<|.z .pkf<|.nil<|.end<|⟨false,⟨rfl,rfl,rfl,trivial⟩,ok.n3.n3.n3.n3,fun h=>by cases h⟩
  refine .y<|.y<|.y<|.y<|.y<|.y<|.y<|.y<|.y<|.y<|.z .pkf<|.z .mvB<|.y<|.y<|.y<|.y<|.y<|.y<|.y<|.y<|.y<|.y<|.z .pkf<|.z .mvB<|.y<|.y<|.y<|.y<|.y<|.y<|.z .pkf<|.nil<|.end<|⟨false,⟨rfl,rfl,rfl,trivial⟩,ok.n3.n3.n3.n3,fun h=>by cases h⟩
 rintro s η2 ⟨qb,hs,ok,hqb⟩;refine .frame hs fun τ=>?_;refine .cond (fun C1=>?_) (fun C1=>?_)
 ·
  refine .s<|.z .asI<|.nil ?_;obtain ⟨hu,hn1,hv1,hb1⟩:=hqb C1;have hbs:=k.bs hb1;have hln:(fT r.D).length=P.length*r.size:=by rw [hby,hbs,←hn1,hnow]
  have hla:=k.laid hin (f1:=fT r.D) (v1:=r.valid) (by rw [hu,List.take_of_length_le (by rw [hln,hv1,←hn1,hnow];exact Nat.le_refl _)];rfl);rw [longN_self (by rw [hln])] at hla;refine .ret ⟨.int .i64 0,Res.one rfl rfl,⟨rfl,r,Fd,⟨rfl,rfl,rfl,rfl,hla.1,hla.2,by rw [hbs,←hn1,hnow],k.k.hd,by omega⟩,(ok).k4.e0⟩⟩
 refine .skip<|.seq<|.s<|.z .mvP<|?_;have ok:=ok.dE (rdI none_ none_ (none,0,0) ([]:List Int)) (RdL.nil _ none_ none_) (fun _ f=>f.elim id id);refine .c' 56 .func (hsave_any (p:=p) (r:=r) (a:=none) (c:=0) (li:=([]:List Int)) k.k (k.km hin) (by omega) (by simp) (fun x hx=>by cases hx) (ok).lc3.e1) ?_;rintro _ η3 ⟨rfl,rs1,Fds1,ss1,q⟩;have ok:=(ok).lf33 q;have hcs1:=ss1.chg;refine .z .asI<|.nil<|.s<|.z .mvI<|.z .neq<|.nil<|.cf<|.skip<|.seq<|.s<|.z .mvP<|.z .mvS<|.c' 62 .func (hflush_any (p:=p) (r:=rs1) (l:=(unlH r L)) (a:=ax) (c:=cx) ss1.ok (fun _=>by rw [ss1.km];exact k.km hin) (by omega) (fun _=>by rw [ss1.valid,ss1.size,ss1.bytes];exact hvn.2) rfl (un_few k) (fun f hf=>by rw [ss1.size];obtain ⟨x,hx,_,e⟩:=un_ok k hf;exact k.fok hx e) (ok.f1).lc3.e1) ?_;rintro _ η4 ⟨rfl,rw1,Fdw1,ww1,q⟩;have ok:=(ok).lf33 q;have bw1:=fl_both ss1.ok (by rw [ss1.valid,ss1.size,ss1.bytes];exact hvn.2) ww1;have hcb:=bw1.chg;refine .z .asI<|.nil<|.s<|.z .mvI<|.z .neq<|.nil<|.cf<|.skip<|.seq<|.s<|.z .mvP<|.c' 67 .func (hcut_any (p:=p) (r:=rw1) bw1.ok (by rw [bw1.km,ss1.km];exact k.km hin) (by omega) (by have:=bw1.bytes;have:=bw1.ok.fit;omega) (ok).lc3.e0) ?_;rintro _ η5 ⟨rfl,rt1,Fdt1,tt1,q⟩;have ok:=(ok).lf33 q;have hct1:=tt1.chg;refine .z .asI<|.nil<|.s<|.z .mvI<|.z .neq<|.nil<|.cf<|.skip<|.seq<|.seq<|?_;have hsi:rt1.size=r.size:=tt1.size.trans (bw1.size.trans ss1.size);have hno:rt1.now=P.length:=(tt1.now.trans (bw1.now.trans ss1.now)).trans hnow;have hft:(fT rt1.D,rt1.valid)=layP r.size ((fT r.D).take (r.valid*r.size),r.valid) (unlH r L):=by
  have h1:=bw1.lay;rw [ss1.size,ss1.valid,show fT rs1.D=fT r.D from by unfold fT;rw [ss1.ct]] at h1;rw [←h1,tt1.ft,tt1.valid]
 have hby1:=tt1.ok.by_;have hmz:rt1.now*rt1.size=P.length*r.size:=by rw [hno,hsi]
 refine .q (hm:=mixed)<|.z .mvP<|.z .nil<|.z (.fa T.fd212_5)<|.z (.ldx T.ag3 ok.m0)<|.z .mvP<|.z .nil<|.z (.fa T.fd212_0)<|.z (.fa T.fd210_1)<|.z (.ldx T.ag3 ok.m0)<|.z .mvP<|.z .nil<|.z (.fa T.fd212_2)<|.z (.ldx T.ag3 ok.m0)<|.z .mulI<|.z .neq<|.nil<|.join (fun s hh=>∃(Dj:Dk) (Fj:Nat→Prop),Has s [(0,.pointer (some ⟨p,0,none⟩))]∧Hp h D [boxI p 212 [.bool rt1.in_,.int .i64 (rt1.now:Int),.int .i64 (rt1.valid:Int),.bool rt1.begun,.int .u64 (rt1.nonce:Int),.map rt1.km,.int .i64 (rt1.marked:Int),.pointer (some ⟨rt1.d,0,none⟩),.int .i64 (rt1.size:Int),.pointer (some ⟨rt1.c,0,none⟩),.int .i64 (rt1.sure:Int),.int .i64 (rt1.bytes:Int),.bool false],kepI rt1.km rt1.kept,dgI rt1.d Fj Dj,cacL r.c Fc room L] [] hh∧HD Dj∧cont Dj nT=some (fT rt1.D)∧Dj.chg≤rt1.D.chg+1) ?_ ?_
 ·
  refine .cd (fun C5=>?_) (fun C5=>?_)
  ·
   refine .s<|.z .mvP<|.z .nil<|.z (.fa T.fd212_1)<|.z (.ldx T.ag63 ok.m0)<|.k 91 .func (hysizeX_any (n:=nT) tt1.ok.hd (ok.n2).loc0)<|.z .mvU<|.z .ex<|.z .ex<|.z .asI<|.z .asB<|.nil<|.s<|.z .mvB<|.z .not<|.nil<|.cond (fun C6=>?_) (fun C6=>?_)
   ·
    refine .s<|.z .mvP<|.z .nil<|.z (.fa T.fd212_1)<|.z (.ldx T.ag63 ok.m0)<|?_;have ok:=ok.dE (rdI none_ none_ (none,0,0) ([]:List UInt8)) (RdL.nil _ none_ none_) (fun _ f=>f.elim id id);refine .c' 100 .func (hwrite_any (D:=rt1.D) (n:=nT) (p:=0) (l:=([]:List UInt8)) tt1.ok.hd (by omega) nT_h (by simp) (ok.n2).loc1) ?_;rintro _ η6 ⟨rfl,Fy1,Dy1,uy1,q⟩;have ok:=(ok.n2).lift1 q;have hcy1:=uy1.chg;refine .z .asI<|.nil<|.s<|.z .mvI<|.z .neq<|.nil<|.cf<|.skip<|.end<|⟨Dy1,Fy1,⟨rfl,trivial⟩,(ok.n3.n1.n3.n3).k4.e0,uy1.hd,(by rw [uy1.at_,cont_isn (by simpa using C6)];unfold fT;rw [cont_isn (by simpa using C6)];rfl),(by omega)⟩
   refine .skip<|.end<|⟨rt1.D,Fdt1,⟨rfl,trivial⟩,(ok).k4.e0,tt1.ok.hd,(cont_is (by simpa using C6)),(by omega)⟩
  refine .skip<|.end<|⟨rt1.D,Fdt1,⟨rfl,trivial⟩,(ok).k4.e0,tt1.ok.hd,(cont_pos (by omega)),(by omega)⟩
 rintro s η7 ⟨Dj,Fj,hs,ok,hdj,hcj,hgj⟩;refine .frame hs fun τ=>?_;refine .seq<|.seq<|.t 14 mixed ?_;simp only [List.take_succ_cons,List.take_zero,List.drop_succ_cons,List.drop_zero];refine .z .mvP<|.z .nil<|.z (.fa T.fd212_1)<|.z (.ldx T.ag63 ok.m0)<|.z .mvP<|.z .nil<|.z (.fa T.fd212_0)<|.z (.fa T.fd210_1)<|.z (.ldx T.ag3 ok.m0)<|.z .mvP<|.z .nil<|.z (.fa T.fd212_2)<|.z (.ldx T.ag3 ok.m0)<|.z .mulI<|.nil ?_;refine .c' 118 .func (hlen_any (D:=Dj) (b:=(fT rt1.D)) (n:=(rt1.now*rt1.size)) hdj hcj (by omega) (by omega) (ok.n2).loc0) ?_;rintro _ η8 ⟨rfl,Fn1,Dn1,hdn1,hctn1,hcgn1,q⟩;have ok:=(ok.n2).lift1 q;refine .z .asI<|.nil<|.s<|.z .mvI<|.z .neq<|.nil<|.cf<|.skip<|.seq<|.t 13 mixed ?_;simp only [List.take_succ_cons,List.take_zero,List.drop_succ_cons,List.drop_zero];refine .z .mvP<|.z .mvP<|.z .nil<|.z (.fa T.fd212_0)<|.z (.fa T.fd210_1)<|.z (.ldx T.ag3 ok.m1)<|.z .mvP<|.z .nil<|.z (.fa T.fd212_2)<|.z (.ldx T.ag3 ok.m1)<|.z .mulI<|.z .nil<|.z (.fa T.fd212_5)<|.nil ?_;refine .ur' (.stI T.sz3 ok.n1) ?_;rintro η9 ⟨ok,cg⟩;refine .nil ?_;refine .s<|.z .mvP<|.z .nil<|.z (.fa T.fd212_1)<|.z (.ldx T.ag63 ok.m0)<|.c' 139 .func (hover_any (D:=Dn1) hdn1 (by omega) (ok.n1).loc0) ?_;rintro _ η10 ⟨rfl,Fv1,Dv1,hdv1,hctv1,hcgv1,q⟩;have ok:=(ok.n1).lift1 q;refine .z .asI<|.nil ?_;have hfin:fT Dv1=longN (fT rt1.D) (P.length*r.size):=by unfold fT;rw [(hctv1.trans hctn1),hmz];rfl
 have hla:=k.laid hin hft;refine .ret ⟨.int .i64 0,Res.one rfl rfl,⟨rfl,({ rt1 with bytes:=rt1.now*rt1.size,D:=Dv1 } : RH),Fv1,⟨tt1.now.trans (bw1.now.trans ss1.now),tt1.d.trans (bw1.d.trans ss1.d),tt1.size.trans (bw1.size.trans ss1.size),tt1.c.trans (bw1.c.trans ss1.c),(by show (fT Dv1).length=_;rw [hfin];exact hla.1),(by show ∀i,i<P.length→pgF r.size (fT Dv1) i=_;rw [hfin];exact hla.2),hmz,hdv1,(by show Dv1.chg≤_;omega)⟩,(ok.n3.n1.n3.n3).k4.e0⟩⟩
def rzL (n:Int) (s:List Int) (L:List AP):List AP:=L.filter fun x=>decide (¬(x.no∈s∧n<x.no))
theorem rz_0 {n:Int} {L:List AP} : rzL n [] L=L:=by unfold rzL;simp
theorem rz_all {n:Int} {L:List AP} : rzL n (nos L) L=L.filter fun x=>decide (x.no≤n):=by
 unfold rzL;refine List.filter_congr fun x hx=>?_;have:x.no∈nos L:=List.mem_map.2 ⟨x,hx,rfl⟩;by_cases h:x.no≤n
 ·simp [h,Int.not_lt.2 h]
 ·simp [h,this,Int.not_le.1 h]
theorem take_mem {s:List Int} {i:Nat} (hi:i<s.length) (y:Int):y∈s.take (i+1)↔y∈s.take i∨y=s[i]:=by rw [List.take_succ_eq_append_getElem hi];simp only [List.mem_append,List.mem_singleton]
theorem rz_skip {n:Int} {L:List AP} {s:List Int} {i:Nat} (hi:i<s.length) (h:¬n<s[i]):rzL n (s.take (i+1)) L=rzL n (s.take i) L:=by
 unfold rzL;refine List.filter_congr fun x _=>?_;simp only [take_mem hi];by_cases e:x.no=s[i]
 ·rw [e];simp [h]
 ·simp [e]
theorem rz_drop {n:Int} {L:List AP} {s:List Int} {i:Nat} (hi:i<s.length) (h:n<s[i]):dr [s[i]] (rzL n (s.take i) L)=rzL n (s.take (i+1)) L:=by
 unfold rzL dr;rw [List.filter_filter];refine List.filter_congr fun x _=>?_;simp only [take_mem hi];by_cases e:x.no=s[i]
 ·rw [e];simp [h]
 ·simp [e]
theorem ldrop1_any {h:Heap} {c:Nat} {F:Nat→Prop} {room:Int} {L:List AP} {x:SV} {no:Int} (q:CRep h F c room L) (hl:Sl h 1 (sv x) ([no].map iv)) (hd:∀b,blk (sv x) b→¬F b) :
  HC Tryz.prog 286 #[.pointer (some ⟨c,0,none⟩),sv x] h (fun v h'=>∃F',v=.tuple #[]∧Hp h F [cacL c F' room (dr [no] L)] [] h'):=
 (dropl_any q hl (by simp) hd).mono fun v h' ⟨F',hv,hr,hs⟩=>⟨F',hv,Step.hp (x:=cacL c F room L) (it:=cacL c F' room (dr [no] L)) q q.lt rfl hs hr hr.lt rfl⟩
theorem lclean_any {h:Heap} {c:Nat} {F:Nat→Prop} {room:Int} {L:List AP} (q:CRep h F c room L) :
  HC Tryz.prog 306 #[.pointer (some ⟨c,0,none⟩),.slice none 0 0] h (fun v h'=>v=.tuple #[]∧Hp h F [cacL c F room (cl (nos L) L)] [] h'):=by
 refine (clean_any q (lv:=(none,0,0)) (l:=[]) (Sl.nil _ 1) (by simp)).mono fun v h' ⟨hv,hr,hc⟩=>⟨hv,?_⟩;have e:cl (if ([]:List Int)=[] then (nos L).reverse else []) L=cl (nos L) L:=by
  rw [if_pos rfl];unfold cl;exact List.map_congr_left fun x _=>by simp
 rw [e] at hr;exact Step.hp (x:=cacL c F room L) (it:=cacL c F room (cl (nos L) L)) q q.lt rfl ⟨hc,fun _ h=>.inl h⟩ hr hr.lt rfl
section
variable {r:RH} {room:Int} {L:List AP} {P:List (List UInt8)}
def begH (r:RH) (m:Nat):RH:={ r with in_:=true,now:=r.sure,valid:=r.sure,begun:=false,nonce:=0,km:=some m,kept:=[],marked:=0 }
theorem HB.begin (k:HB r room L P) (hi:r.in_=false) (m:Nat):HB (begH r m) room L P:=by
 have hb:=k.bs (k.out hi);have hs:r.sure=P.length:=by have:=k.np;unfold presH at this;rw [if_neg (by rw [hi];decide)] at this;exact this
 have hby:=k.k.by_;refine ⟨⟨k.k.sz,k.k.hd,k.k.by_,k.k.fit,k.k.ms,fun h=>(by cases h),fun _=>⟨rfl,rfl⟩,.nil,fun x hx=>(by cases hx),by show (0:Nat)<_;decide,k.k.chg⟩,?_,k.pl,k.mp,k.nd,k.rm,k.rg,k.at_,fun i h1 h2=>?_,fun h=>(by cases h),fun _=>⟨Nat.le_refl _,by show r.sure*r.size≤r.bytes;omega⟩,fun _=>⟨m,rfl⟩,fun h=>(by cases h),fun _=>hb⟩
 ·unfold presH begH;simpa using hs
 ·rw [←k.un i h1 h2];unfold upF begH;simp only [hi];rw [if_neg (by rintro ⟨_,h⟩;omega),if_neg (by rintro ⟨h,_⟩;cases h)]
def rszH (r:RH) (n:Nat):RH:={ r with now:=n,valid:=min r.valid n }
theorem HB.resize (k:HB r room L P) (hi:r.in_=true) {n:Nat} (h3:n*(r.size+8)+28≤16777216):HB (rszH r n) room (L.filter fun x=>decide (x.no≤(n:Int))) (rszP P n r.size):=by
 have v:=k.vn hi;have hn:r.now=P.length:=by have:=k.np;unfold presH at this;rw [if_pos hi] at this;exact this
 have hmem:∀ {x:AP},x∈L.filter (fun x=>decide (x.no≤(n:Int)))↔x∈L∧x.no≤n:=fun {x}=>by simp
 refine ⟨⟨k.k.sz,k.k.hd,k.k.by_,k.k.fit,k.k.ms,k.k.jb,k.k.jn,k.k.kn,k.k.kr,k.k.no,k.k.chg⟩,?_,fun x hx=>?_,by rw [rszP_len];exact h3,?_,⟨k.rm.1,k.rm.2.1,?_⟩,fun x hx=>?_,fun x hx=>?_,fun i hi2 h=>?_,fun h=>absurd (show r.in_=false from h) (by rw [hi];decide),fun _=>⟨Nat.min_le_right _ _,Nat.le_trans (Nat.mul_le_mul_right _ (Nat.min_le_left _ _)) v.2⟩,k.km,k.out,k.bs⟩
 ·unfold presH rszH;simp only [hi,if_true,rszP_len]
 ·obtain ⟨i,hi2,rfl⟩:=List.mem_iff_getElem.1 hx;rw [rszP_len] at hi2;have e:=rszP_get (P:=P) (z:=r.size) hi2;rw [List.getD_eq_getElem?_getD,List.getElem?_eq_getElem (by rw [rszP_len];exact hi2),Option.getD_some] at e;rw [e];split
  ·rename_i h;exact k.page_len h
  ·exact List.length_replicate
 ·unfold nos;exact (List.filter_sublist.map _).nodup k.nd
 ·have:=List.length_filter_le (fun x:AP=>decide (x.no≤(n:Int))) L;have:=k.rm.2.2;omega
 ·have h1:=hmem.1 hx;rw [rszP_len];exact ⟨(k.rg x h1.1).1,h1.2⟩
 ·have h1:=hmem.1 hx;have h2:=k.rg x h1.1;rw [rszP_get (by omega),if_pos (by omega)];exact k.at_ x h1.1
 ·rw [rszP_len] at hi2;rw [rszP_get hi2];have hin2:(rszH r n).in_=true:=hi;rw [upF_in hin2];show upZ r.size (min r.valid n) (fT r.D) i=_;by_cases hp:i<P.length
  ·rw [if_pos hp,←k.un i hp (fun x hx hno=>h x (hmem.2 ⟨hx,by omega⟩) hno),upF_in hi];unfold upZ;by_cases hv:r.valid≤i
   ·rw [if_pos (by omega),if_pos hv]
   ·rw [if_neg (by omega),if_neg hv]
  ·rw [if_neg hp];unfold upZ;rw [if_pos (by omega)]
def cmtH (r':RH):RH:={ r' with in_:=false,now:=0,valid:=0,begun:=false,nonce:=0,km:=none,kept:=[],marked:=0,sure:=r'.now }
theorem HB.commit {r':RH} {L':List AP} (k:HB r room L P) (hi:r.in_=true) (q:LA L' r r' P):HB (cmtH r') room (cl (nos L) L) P:=by
 have hn:r'.now=P.length:=by have:=k.np;unfold presH at this;rw [if_pos hi] at this;exact q.now.trans this
 have hcl:∀ {y:AP},y∈cl (nos L) L→∃x∈L,y=⟨x.no,x.b,false⟩:=fun {y} hy=>by
  unfold cl at hy;obtain ⟨x,hx,rfl⟩:=List.mem_map.1 hy;exact ⟨x,hx,if_pos (show x.no∈nos L from List.mem_map.2 ⟨x,hx,rfl⟩)⟩
 have hnos:nos (cl (nos L) L)=nos L:=by
  unfold nos cl;rw [List.map_map];exact List.map_congr_left fun x _=>by show (if _ then _ else _:AP).no=x.no;split<;>rfl
 have hf:=k.few;refine ⟨⟨by show okSz r'.size=true;rw [q.size];exact k.k.sz,q.hd,by show (fT r'.D).length=r'.bytes;rw [q.len,q.bytes],by show r'.bytes≤_;rw [q.bytes];exact hf.1,by show r'.now*(r'.size+8)+28≤_;rw [q.size,hn];exact k.mp,fun h=>(by cases h),fun _=>⟨rfl,rfl⟩,.nil,fun x hx=>(by cases hx),by show (0:Nat)<_;decide,q.hd.dk.chg⟩,?_,fun x hx=>by show x.length=r'.size;rw [q.size];exact k.pl x hx,by show P.length*(r'.size+8)+28≤_;rw [q.size];exact k.mp,by rw [hnos];exact k.nd,⟨k.rm.1,k.rm.2.1,by have h1:(cl (nos L) L).length=L.length:=List.length_map _;rw [h1];exact k.rm.2.2⟩,fun y hy=>?_,fun y hy=>?_,fun i h1 _=>?_,fun _ y hy=>?_,fun h=>(by cases h),fun h=>(by cases h),fun _=>rfl,fun _=>?_⟩
 ·unfold presH cmtH;simpa using hn
 ·obtain ⟨x,hx,rfl⟩:=hcl hy;exact k.rg x hx
 ·obtain ⟨x,hx,rfl⟩:=hcl hy;exact k.at_ x hx
 ·rw [←q.pg i h1];unfold upF cmtH;rw [if_neg (by rintro ⟨h,_⟩;cases h)];show pgF r'.size _ i=_;rw [q.size]
 ·obtain ⟨x,hx,rfl⟩:=hcl hy;rfl
 ·show r'.bytes=r'.now*r'.size;rw [q.bytes,q.size,hn]
end
theorem hbegin_any {h:Heap} {p:Nat} {r:RH} {D Fd Fc:Nat→Prop} {room:Int} {L:List AP} {P:List (List UInt8)} (k:HB r room L P) (hin:r.in_=false) (ok:Hp h D [hboxI p r,kepI r.km r.kept,dgI r.d Fd r.D,cacL r.c Fc room L] [] h) :
  HC Tryz.prog 294 #[.pointer (some ⟨p,0,none⟩)] h (fun v h'=>v=.int .i64 0∧∃m,Hp h D [hboxI p (begH r m),kepI (some m) [],dgI r.d Fd r.D,cacL r.c Fc room L] [] h'):=by
 refine HC.go Tryz.func294 27 ?_;refine .s<|.z .asI<|.nil<|.seq<|.s<|.z .mvP<|.k 5 .func (hst_any (r:=r) ok.m0)<|.z .asI<|.nil<|.s<|.z .mvI<|.z .neq<|.nil<|.cf<|.skip<|.seq<|.s<|.z .mvP<|.z .nil<|.z (.fa T.fd212_0)<|.z (.fa T.fd210_0)<|.z (.ldx T.ag4 ok.m0)<|.nil<|.cond (fun C1=>?_) (fun C1=>?_)
 ·
  rw [hin] at C1;cases C1
 refine .skip<|.seq<|.a 13 (fun fl hh=>cond fl True (Hp h D [boxI p 212 [.bool r.in_,.int .i64 (r.now:Int),.int .i64 (r.valid:Int),.bool r.begun,.int .u64 (r.nonce:Int),.map r.km,.int .i64 (r.marked:Int),.pointer (some ⟨r.d,0,none⟩),.int .i64 (r.size:Int),.pointer (some ⟨r.c,0,none⟩),.int .i64 (r.sure:Int),.int .i64 (r.bytes:Int),.bool false],kepI r.km r.kept,dgI r.d Fd r.D,cacL r.c Fc room L] [] hh)) mixed ?_;have hS:=ok;refine .g 0 false rfl 14 hS (fun _=>.mvP)<|.g 1 false rfl 15 hS (fun _=>.mvP)<|.g 2 false rfl 16 hS (fun _=>.nil)<|.g 3 false rfl 17 hS (fun _=>.fa T.fd212_4)<|.l 4 false rfl 18 hS (fun _ hS=>.ldx T.ag3 hS.m0)<|.g 5 false rfl 19 hS (fun _=>.mvP)<|.g 6 false rfl 20 hS (fun _=>.nil)<|.g 7 false rfl 21 hS (fun _=>.fa T.fd212_4)<|.l 8 false rfl 22 hS (fun _ hS=>.ldx T.ag3 hS.m0)<|.o1 9<|.a' false rfl 23 (.mkm (Value.int .i64) ok) ?_;rintro _ η1 ⟨mb1,rfl,ok⟩;refine ⟨ok.n4.n4.n4.n4.k4,?_⟩;have hS:=ok.n4.n4.n4.n4.k4;refine .g 10 false rfl 24 hS (fun _=>.bd #[.bool true,.int .i64 (r.sure:Int),.int .i64 (r.sure:Int),.bool false,.int .u64 0,.map (some mb1),.int .i64 0] T.zr210 T.pl210 (by kernel_rfl))<|.g 11 false rfl 25 hS (fun _=>.nil)<|.g 12 false rfl 26 hS (fun _=>.fa T.fd212_0)<|.o1 13<|.ur' true rfl (.stA (vs:=[.bool true,.int .i64 (r.sure:Int),.int .i64 (r.sure:Int),.bool false,.int .u64 0,.map (some mb1),.int .i64 0]) T.sz210 ok.n1 (oneL rfl)) ?_;rintro η2 ⟨ok,cg⟩;refine ⟨trivial,?_⟩;refine .e ?_;refine .s<|.z .asI<|.nil<|.ret ⟨.int .i64 0,Res.one rfl rfl,⟨rfl,mb1,(ok.n4.n4.n3.n3).k4⟩⟩
theorem hresize_any {h:Heap} {p:Nat} {r:RH} {D Fd Fc:Nat→Prop} {room:Int} {L:List AP} {P:List (List UInt8)} {n:Nat} (k:HB r room L P) (hin:r.in_=true) (hn:n*(r.size+8)+28≤16777216) (ok:Hp h D [hboxI p r,kepI r.km r.kept,dgI r.d Fd r.D,cacL r.c Fc room L] [] h) :
  HC Tryz.prog 299 #[.pointer (some ⟨p,0,none⟩),.int .i64 (n:Int)] h (fun v h'=>v=.int .i64 0∧∃Fc',Hp h D [hboxI p (rszH r n),kepI r.km r.kept,dgI r.d Fd r.D,cacL r.c Fc' room (L.filter fun x=>decide (x.no≤(n:Int)))] [] h'):=by
 have hzc:=k.zc;have hnm:n≤mostB r.size:=by unfold mostB;rw [Nat.le_div_iff_mul_le (by omega)];omega
 have hnz:n*264≤n*(r.size+8):=Nat.mul_le_mul_left _ (by omega);have hrm:=k.rm;have hfw:=k.few;refine HC.go Tryz.func299 72 ?_;refine .s<|.z .asI<|.nil<|.seq<|.s<|.z .mvP<|.k 9 .func (hst_any (r:=r) ok.m0)<|.z .asI<|.nil<|.s<|.z .mvI<|.z .neq<|.nil<|.cf<|.skip<|.seq<|.block fun K0 hK0=>.s<|.z .mvP<|.z .nil<|.z (.fa T.fd212_0)<|.z (.fa T.fd210_0)<|.z (.ldx T.ag4 ok.m0)<|.z .not<|.z .asB<|.nil<|.cond (fun C1=>?_) (fun C1=>?_)
 ·
  rw [hin] at C1;simp at C1
 refine .s<|.z .mvI<|.z .lss<|.z .asB<|.nil<|.cd (fun C2=>?_) (fun C2=>?_)
 ·
  omega
 refine .s<|.z .mvI<|.z .gtr<|.z .mvB<|.sd (fun G26=>?_) (fun G26=>?_)
 ·
  omega
 refine .z .mvI<|.z .mvP<|.z .nil<|.z (.fa T.fd212_2)<|.z (.ldx T.ag3 ok.m0)<|.k 32 .func (most_any (n:=r.size) (by omega))<|.z .gtr<|.z .pkf<|.z .asB<|.nil<|.cd (fun C3=>?_) (fun C3=>?_)
 ·
  omega
 refine .skip<|.end<|hK0 _ _<|.seq<|.s<|.z .mvP<|.z .nil<|.z (.fa T.fd212_3)<|.z (.ldx T.ag194 ok.m0)<|.c' 39 .func (pages_any (ok.n3).m0) ?_;rintro _ η1 own;obtain ⟨ya1,yn1,yc1,rfl⟩:=own.form3;have ok:=ok.own own;obtain rfl:yn1=(nos L).length:=by have:=(Cap.sl ok.m0).cells.len;simpa using this.symm
 have ok:=ok.frzI (l:=(nos L)) rfl;have hmc:=ok.r0.m;have hcc:=ok.r0.c;simp only at hmc hcc;refine .z (.len T.el24)<|.z .mvI<|.nil<|.block fun K1 hK1=>.loop (fun m s hh=>∃(i:Nat) (Fi:Nat→Prop),Has s [(0,.pointer (some ⟨p,0,none⟩)),(1,.int .i64 (n:Int)),(39,.slice ya1 ((nos L).length) yc1),(40,.int .i64 (((nos L).length:Nat):Int)),(41,.int .i64 (i:Int))]∧Hp h D [boxI p 212 [.bool r.in_,.int .i64 (r.now:Int),.int .i64 (r.valid:Int),.bool r.begun,.int .u64 (r.nonce:Int),.map r.km,.int .i64 (r.marked:Int),.pointer (some ⟨r.d,0,none⟩),.int .i64 (r.size:Int),.pointer (some ⟨r.c,0,none⟩),.int .i64 (r.sure:Int),.int .i64 (r.bytes:Int),.bool false],kepI r.km r.kept,dgI r.d Fd r.D,cacL r.c Fi room (rzL (n:Int) ((nos L).take i) L)] [rdI (blkC (sv (ya1,(nos L).length,yc1))) none_ (ya1,(nos L).length,yc1) (nos L)] hh∧i≤(nos L).length∧m=(nos L).length-i) ?_ ?_;have ok:=ok.n3;rw [show cacL r.c Fc room L=cacL r.c Fc room (rzL (n:Int) ((nos L).take 0) L) from by rw [show (rzL (n:Int) ((nos L).take 0) L)=L from rz_0]] at ok
 ·exact ⟨_,0,Fc,⟨rfl,rfl,rfl,rfl,rfl,trivial⟩,(ok.n3.n3.n3).k4,Nat.zero_le _,rfl⟩
 rintro _ _ η2 ⟨i,Fi,hs,ok,hi,rfl⟩ J0 hJ0;refine .frame hs fun τ=>?_;refine .s<|.z .lss<|.nil<|.seq<|.cdr (fun C4=>?_) (fun C4=>?_)
 ·
  refine .exit<|hK1 _ _<|.seq<|?_;have hrz:(rzL (n:Int) ((nos L).take i) L)=L.filter fun x=>decide (x.no≤(n:Int)):=by rw [show i=(nos L).length by omega,List.take_length];exact rz_all
  rw [hrz] at ok;refine .r<|.z .mvP<|.z .mvP<|.z .mvI<|.z .mvP<|.z .nil<|.z (.fa T.fd212_0)<|.z (.fa T.fd210_2)<|.z (.ldx T.ag3 ok.m0)<|.z .mvI<|.z .min2<|?_;rw [show ((min (r.valid:Int) (n:Int)):Int)=((min r.valid n:Nat):Int) from by omega];refine .z .nil<|.z (.fa T.fd212_0)<|.z (.fa T.fd210_1)<|.ur' (.stI T.sz3 ok) ?_;rintro η3 ⟨ok,cg⟩;refine .z .nil<|.z (.fa T.fd212_0)<|.z (.fa T.fd210_2)<|.ur' (.stI T.sz3 ok) ?_;rintro η4 ⟨ok,cg⟩;refine .nil ?_;refine .s<|.z .asI<|.nil<|.ret ⟨.int .i64 0,Res.one rfl rfl,⟨rfl,Fi,(ok).k4.e0⟩⟩
 refine .skip<|.seq<|.block fun K2 hK2=>.s<|?_;obtain ⟨bb1,oo1,rfl,fb1⟩:=ok.r0.pos (by omega);refine .z (.ix1 i T.el24 T.sz3)<|.z (.ld T.ag3 (ok.r0.i64 (i:=i) (by omega)))<|.z .asI<|.nil<|.s<|.z .mvI<|.z .mvI<|.z .gtr<|.nil<|.cd (fun C5=>?_) (fun C5=>?_)
 ·
  refine .r<|.z .mvP<|.z .nil<|.z (.fa T.fd212_3)<|.z (.ldx T.ag194 ok.m0)<|.z .mvI<|.a' 53 (.lit [.tmp 52] (cs:=[.int .i64 ((nos L)[i])]) T.el24 T.sz3 T.zr3 ok ⟨rfl,trivial⟩) ?_;rintro _ η5 ⟨pb1,rfl,ok,xe⟩;refine .c' 54 .func (ldrop1_any (x:=(some ⟨pb1,0,none⟩,1,1)) (no:=(nos L)[i]) (ok.n4).m0 (ok.n4).m1.sl (fun b hb hF=>(List.pairwise_cons.1 (ok.n4).mm).1 _ List.mem_cons_self b hF (blk_toC hb))) ?_;rintro _ η6 ⟨Fd1,rfl,q⟩;have ok:=(ok.n4).lift1 q;refine .nil ?_;refine .end<|hK2 _ _<|.r<|.z (.addI (b:=1))<|.z .mvI<|.nil<|.end<|?_;have ok:=ok;rw [rz_drop (by omega) C5] at ok;refine hJ0 _ _ _ ⟨i+1,Fd1,⟨rfl,rfl,rfl,rfl,rfl,trivial⟩,(ok.n4.n4.n4).k4,by omega,rfl⟩ (by omega)
 refine .skip<|.end<|hK2 _ _<|.r<|.z (.addI (b:=1))<|.z .mvI<|.nil<|.end<|?_;have ok:=ok.n3;rw [←rz_skip (by omega) (by omega)] at ok;refine hJ0 _ _ _ ⟨i+1,Fi,⟨rfl,rfl,rfl,rfl,rfl,trivial⟩,(ok.n3.n3.n3).k4,by omega,rfl⟩ (by omega)
structure KP (r r':RH):Prop where
 in_:r'.in_=r.in_
 size:r'.size=r.size
 c:r'.c=r.c
 chg:r'.D.chg≤r.D.chg+20
 ro:r.in_=false→r'=r
theorem pt_kp {r r':RH} {l:List AFr} {Q:Prop} (h:l.length≤1∧Q∧(l≠[]→r.in_=true)) (q:(l=[]∧r'=r)∨(l≠[]∧FL r r' l)):KP r r':=by
 rcases q with ⟨_,rfl⟩ | ⟨hl,q⟩
 ·exact ⟨rfl,rfl,rfl,by omega,fun _=>rfl⟩
 ·exact ⟨q.in_,q.size,q.c,by have:=q.chg;have:=h.1;omega,fun hi=>by rw [h.2.2 hl] at hi;cases hi⟩
theorem hbwrite_any {h:Heap} {p:Nat} {r:RH} {D Fd Fc F2 E2:Nat→Prop} {room:Int} {L:List AP} {P:List (List UInt8)} {no:Nat} {a:Option Addr} {c:Nat} {b:List UInt8} (k:HB r room L P) (hin:r.in_=true) (hcg:r.D.chg<480000000) (h1:1≤no) (h2:no≤P.length) (hb:b.length=r.size) (ok:Hp h D [hboxI p r,kepI r.km r.kept,dgI r.d Fd r.D,cacL r.c Fc room L] [rdI F2 E2 (a,b.length,c) b] h) :
  HC Tryz.prog 301 #[.pointer (some ⟨p,0,none⟩),.int .i64 (no:Int),.slice a b.length c] h (fun v h'=>v=.int .i64 0∧∃r' Fd' Fc' L',HB r' room L' (P.set (no-1) b)∧KP r r'∧Hp h D [hboxI p r',kepI r'.km r'.kept,dgI r'.d Fd' r'.D,cacL r'.c Fc' room L'] [] h'):=by
 have hzc:=k.zc;have hsz:=hzc.2;have hfw:=k.few;have hnow:r.now=P.length:=by have:=k.np;unfold presH at this;rw [if_pos hin] at this;exact this
 refine HC.goD Tryz.func301 61 ?_;refine .seq<|.lift<|.r<|.a' 6 (.alI T.zr34 ok) ?_;rintro _ η1 ⟨pb1,rfl,ok,xe⟩;refine .nil ?_;refine .end<|HSD.on<|.seq<|.seq<|.lift<|.r<|.z .mvP<|.k 10 .func (hst_any (r:=r) ok.m1)<|.z .asI<|.nil<|.end<|HSD.on<|.seq<|.lift<|.r<|.z .mvI<|.z .neq<|.nil<|.end<|HSD.on<|.lift<|.cf<|.skip<|.end<|HSD.on<|.seq<|.rd<|.z .mvP<|.df (args:=[.pointer (some ⟨p,0,none⟩),.pointer (some ⟨pb1,0,none⟩)]) rfl<|?_;refine .seq<|.block fun K0 hK0=>.s<|.z .mvP<|.z .nil<|.z (.fa T.fd212_0)<|.z (.fa T.fd210_0)<|.z (.ldx T.ag4 ok.m1)<|.z .not<|.z .asB<|.nil<|.cond (fun C1=>?_) (fun C1=>?_)
 ·
  rw [hin] at C1;simp at C1
 refine .s<|.z .mvI<|.z .lss<|.z .mvB<|.sd (fun G25=>?_) (fun G25=>?_)
 ·
  omega
 refine .z .mvI<|.z .mvP<|.z .nil<|.z (.fa T.fd212_0)<|.z (.fa T.fd210_1)<|.z (.ldx T.ag3 ok.m1)<|.z .gtr<|.z .pkf<|.z .mvB<|.sd (fun G34=>?_) (fun G34=>?_)
 ·
  omega
 refine .z .mvS<|.z (.len T.el44)<|.z .mvP<|.z .nil<|.z (.fa T.fd212_2)<|.z (.ldx T.ag3 ok.m1)<|.z .neq<|.z .pkf<|.z .asB<|.nil<|.cd (fun C2=>?_) (fun C2=>?_)
 ·
  omega
 refine .skip<|.end<|hK0 _ _<|.s<|.z .mvP<|.z .mvI<|.c' 46 .func (hget_any (p:=p) (r:=r) (L:=L) (no:=no) k.k.hd hsz (by omega) (ok.n4.n4.n3).lc3.e0) ?_;rintro _ η2 ⟨Fg1,ag1,cg1,rfl,q⟩;have ok:=(ok.n4.n4.n3).lf34 q;have hgot:=k.get (no:=no) (by omega) (by omega);rw [hgot.1] at ok⊢;have hgl:(P.getD (no-1) []).length=r.size:=k.page_len (by omega);refine .z .mvU<|.z .ex<|.z .ex<|.z .asS<|.ur' (.stI T.sz34 ok.n4) ?_;rintro η3 ⟨ok,cg⟩;refine .nil ?_;refine .seq<|.s<|.z (.ldx T.ag34 ok.m0)<|.z .neq<|.z .mvB<|.z .mvS<|.z .mvS<|.k 54 .func (equal_any (a:=ag1) (c:=cg1) (l:=(P.getD (no-1) [])) (b:=a) (d:=c) (l2:=b) (RdL.ofCapB (v:=(ag1,(P.getD (no-1) []).length,cg1)) (l:=(P.getD (no-1) [])) ok.m1) ok.r0)<|.z .pkf<|.nil<|.cd (fun C3=>?_) (fun C3=>?_)
 ·
  refine .s<|.z (.ldx T.ag34 ok.m0)<|.ur' (.stI T.sz34 ok) ?_;rintro η4 ⟨ok,cg⟩;refine .nil ?_;refine .ret ⟨_,_,_,rfl,(hend_any (p:=p) (q:=pb1) (r:=r) (ok.m2) (ok.m0)),?_⟩;rintro _ _ ⟨rfl,rfl⟩;refine ⟨.int .i64 0,Res.many (vs:=[.int .i64 0]) rfl ⟨⟨_,rfl,load_1 T.ag34 ok.m0⟩,trivial⟩ rfl,⟨rfl,r,Fd,Fg1,_,(by rw [show b=P.getD (no-1) [] from C3.symm,set_same (by omega)];exact hgot.2),⟨rfl,rfl,rfl,by omega,fun _=>rfl⟩,(ok.n4.n4.n5.n5).k4.e0⟩⟩
 refine .skip<|.s<|.z .mvP<|.z .mvI<|.z .mvS<|.c' 60 .func (hput_any (p:=p) (r:=r) (L:=(getL (no:Int) L)) (no:=no) (a:=a) (c:=c) (l:=b) (d:=true) hgot.2 (by omega) (by omega) (by omega) (ok.n4.n4.n5.n5).lc4) ?_;rintro _ η5 ⟨rfl,rp1,Fdp1,Fcp1,wp1,q⟩;have ok:=(ok.n4.n4.n5.n5).lf44 q;have hbp1:=hgot.2.put (no:=no) (b:=b) (d:=true) (r':=rp1) (by omega) (by omega) hb (fun h=>by cases h) (fun _=>hin) wp1;refine .ur' (.stI T.sz34 ok.n4) ?_;rintro η6 ⟨ok,cg⟩;refine .nil ?_;refine .ret ⟨_,_,_,rfl,(hend_any (p:=p) (q:=pb1) (r:=rp1) (ok.m1) (ok.m0)),?_⟩;rintro _ _ ⟨rfl,rfl⟩;have hkp:=pt_kp (hgot.2.ptA (by omega)) wp1;refine ⟨.int .i64 0,Res.many (vs:=[.int .i64 0]) rfl ⟨⟨_,rfl,load_1 T.ag34 ok.m0⟩,trivial⟩ rfl,⟨rfl,rp1,Fdp1,Fcp1,_,hbp1,hkp,(by rw [hkp.c];exact (ok.n4.n4.n4.n4).k4.e0)⟩⟩
theorem hbread_any {h:Heap} {p:Nat} {r:RH} {D Fd Fc:Nat→Prop} {room:Int} {L:List AP} {P:List (List UInt8)} {no:Nat} (k:HB r room L P) (hcg:r.D.chg<480000000) (h1:1≤no) (h2:no≤P.length) (ok:Hp h D [hboxI p r,kepI r.km r.kept,dgI r.d Fd r.D,cacL r.c Fc room L] [] h) :
  HC Tryz.prog 298 #[.pointer (some ⟨p,0,none⟩),.int .i64 (no:Int)] h (fun v h'=>∃x c,v=.tuple #[.slice x (P.getD (no-1) []).length c,.int .i64 0]∧∃r' Fd' Fc' L',HB r' room L' P∧KP r r'∧Hp h D [capI 1 5 (x,(P.getD (no-1) []).length,c) ((P.getD (no-1) []).map bv),hboxI p r',kepI r'.km r'.kept,dgI r'.d Fd' r'.D,cacL r'.c Fc' room L'] [] h'):=by
 have hzc:=k.zc;have hsz:=hzc.2;have hfw:=k.few;have hnp:=k.np;refine HC.goD Tryz.func298 37 ?_;refine .seq<|.lift<|.r<|.z .asS<|.a' 5 (.alI T.zr34 ok) ?_;rintro _ η1 ⟨pb1,rfl,ok,xe⟩;refine .nil ?_;refine .end<|HSD.on<|.seq<|.seq<|.lift<|.r<|.z .mvP<|.k 8 .func (hst_any (r:=r) ok.m1)<|.z .asI<|.nil<|.end<|HSD.on<|.seq<|.lift<|.r<|.z .mvI<|.z .neq<|.nil<|.end<|HSD.on<|.lift<|.cf<|.skip<|.end<|HSD.on<|.seq<|.rd<|.z .mvP<|.df (args:=[.pointer (some ⟨p,0,none⟩),.pointer (some ⟨pb1,0,none⟩)]) rfl<|?_;refine .seq<|.s<|.z .mvI<|.z .lss<|.z .mvB<|.sd (fun G15=>?_) (fun G15=>?_)
 ·
  omega
 refine .z .mvI<|.z .mvP<|.k 18 .func (hpres_any (r:=r) ok.m1)<|.z .gtr<|.z .pkf<|.nil<|.cd (fun C1=>?_) (fun C1=>?_)
 ·
  omega
 refine .skip<|.s<|.z .mvP<|.z .mvI<|.c' 24 .func (hget_any (p:=p) (r:=r) (L:=L) (no:=no) k.k.hd hsz (by omega) (ok.n4.n4.n3).lc3) ?_;rintro _ η2 ⟨Fg1,ag1,cg1,rfl,q⟩;have ok:=(ok.n4.n4.n3).lf34 q;have hgot:=k.get (no:=no) (by omega) (by omega);rw [hgot.1] at ok⊢;have hgl:(P.getD (no-1) []).length=r.size:=k.page_len (by omega);refine .z .mvU<|.z .ex<|.z .ex<|.z .asS<|.ur' (.stI T.sz34 ok.n4) ?_;rintro η3 ⟨ok,cg⟩;refine .nil ?_;refine .seq<|.s<|.z (.ldx T.ag34 ok.m0)<|.z .eql<|.nil<|.ct<|.r<|.z .mvP<|.z .mvI<|.z .mvS<|.c' 32 .func (hput_any (p:=p) (r:=r) (L:=(getL (no:Int) L)) (no:=no) (a:=ag1) (c:=cg1) (l:=(P.getD (no-1) [])) (d:=false) hgot.2 (by omega) (by omega) (by omega) ((ok.n1.n4.n4.n5.n5).n4.frzB (l:=(P.getD (no-1) [])) rfl).lc4) ?_;rintro _ η4 ⟨rfl,rp1,Fdp1,Fcp1,wp1,q⟩;have ok:=(ok.n1.n4.n4.n5.n5).lf44 q;have hbp1:=hgot.2.put (no:=no) (b:=(P.getD (no-1) [])) (d:=false) (r':=rp1) (by omega) (by omega) hgl (fun _=>rfl) (fun h=>by cases h) wp1;refine .ur' (.stI T.sz34 ok.n5) ?_;rintro η5 ⟨ok,cg⟩;refine .nil ?_;refine .seq<|.s<|.z (.ldx T.ag34 ok.m0)<|.z .neq<|.nil<|.cf<|.skip<|.s<|.z .mvS<|.z .asS<|.ur' (.stI T.sz34 ok) ?_;rintro η6 ⟨ok,cg⟩;refine .nil ?_;refine .ret ⟨_,_,_,rfl,(hend_any (p:=p) (q:=pb1) (r:=rp1) (ok.m1) (ok.m0)),?_⟩;rintro _ _ ⟨rfl,rfl⟩;have hkp:=pt_kp (hgot.2.ptA (by omega)) wp1;rw [set_same (by omega)] at hbp1;refine ⟨.tuple #[.slice ag1 ((P.getD (no-1) []).length) cg1,.int .i64 0],Res.many (vs:=[.slice ag1 ((P.getD (no-1) []).length) cg1,.int .i64 0]) rfl ⟨rfl,⟨_,rfl,load_1 T.ag34 ok.m0⟩,trivial⟩ rfl,⟨_,_,rfl,rp1,Fdp1,Fcp1,_,hbp1,hkp,(by rw [hkp.c];exact (ok.n4.n4.n4.n4.n5).k5)⟩⟩
theorem hbcommit_any {h:Heap} {p:Nat} {r:RH} {D Fd Fc:Nat→Prop} {room:Int} {L:List AP} {P:List (List UInt8)} (k:HB r room L P) (hin:r.in_=true) (hP:1≤P.length) (hh:hok (P.getD (1-1) []) r.size) (hcg:r.D.chg<390000000) (ok:Hp h D [hboxI p r,kepI r.km r.kept,dgI r.d Fd r.D,cacL r.c Fc room L] [] h) :
  HC Tryz.prog 295 #[.pointer (some ⟨p,0,none⟩)] h (fun v h'=>v=.int .i64 0∧∃r' Fd' Fc' L',HB r' room L' P∧r'.in_=false∧r'.size=r.size∧r'.D.chg≤r.D.chg+30+(unlH r (getL (1:Int) L)).length∧Hp h D [hboxI p r',kepI r'.km r'.kept,dgI r'.d Fd' r'.D,cacL r'.c Fc' room L'] [] h'):=by
 have hzc:=k.zc;have hsz:=hzc.2;have hfw:=k.few;have hnow:r.now=P.length:=by have:=k.np;unfold presH at this;rw [if_pos hin] at this;exact this
 have hh1:=hh.1;have hh2:=hh.2;refine HC.goD Tryz.func295 73 ?_;refine .seq<|.lift<|.r<|.a' 2 (.alI T.zr34 ok) ?_;rintro _ η1 ⟨pb1,rfl,ok,xe⟩;refine .nil ?_;refine .end<|HSD.on<|.seq<|.seq<|.lift<|.r<|.z .mvP<|.k 10 .func (hst_any (r:=r) ok.m1)<|.z .asI<|.nil<|.end<|HSD.on<|.seq<|.lift<|.r<|.z .mvI<|.z .neq<|.nil<|.end<|HSD.on<|.lift<|.cf<|.skip<|.end<|HSD.on<|.seq<|.rd<|.z .mvP<|.df (args:=[.pointer (some ⟨p,0,none⟩),.pointer (some ⟨pb1,0,none⟩)]) rfl<|?_;refine .seq<|.s<|.z .mvP<|.z .nil<|.z (.fa T.fd212_0)<|.z (.fa T.fd210_0)<|.z (.ldx T.ag4 ok.m1)<|.z .not<|.nil<|.cond (fun C1=>?_) (fun C1=>?_)
 ·
  rw [hin] at C1;simp at C1
 refine .skip<|.seq<|.s<|.z .mvP<|.z .nil<|.z (.fa T.fd212_0)<|.z (.fa T.fd210_1)<|.z (.ldx T.ag3 ok.m1)<|.z .gtr<|.nil<|.cd (fun C2=>?_) (fun C2=>?_)
 ·
  refine .s<|.z .mvP<|.c' 29 .func (hget_any (p:=p) (r:=r) (L:=L) (no:=1) k.k.hd hsz (by omega) (ok.n4.n4.n3).lc3) ?_;rintro _ η2 ⟨Fg1,ag1,cg1,rfl,q⟩;have ok:=(ok.n4.n4.n3).lf34 q;have hgot:=k.get (no:=1) (by omega) (by omega);rw [hgot.1] at ok⊢;have hgl:(P.getD (1-1) []).length=r.size:=k.page_len (by omega);refine .z .mvU<|.z .ex<|.z .ex<|.z .asS<|.z .asI<|.nil<|.seq<|.s<|.z .mvI<|.z .neq<|.nil<|.cf<|.skip<|.s<|.z .mvS<|.c' 37 .func (dec_any (a:=ag1) (c:=cg1) (l:=(P.getD (1-1) [])) (RdL.ofCapB (v:=(ag1,(P.getD (1-1) []).length,cg1)) (l:=(P.getD (1-1) [])) ok.m0)) ?_;rintro _ η3 ⟨rfl,hx⟩;rw [show (decN (P.getD (1-1) [])).1.val=.agg #[.int .i64 (decN (P.getD (1-1) [])).1.size,.int .i64 (decN (P.getD (1-1) [])).1.pages,.int .i64 (decN (P.getD (1-1) [])).1.free,.int .i64 (decN (P.getD (1-1) [])).1.many,.int .i64 (decN (P.getD (1-1) [])).1.cookie,.int .i64 (decN (P.getD (1-1) [])).1.version] from rfl];have ok:=ok.ext hx;refine .z .mvU<|.z .ex<|.z .ex<|.a' 6 (.alA T.zr38 ok) ?_;rintro _ η4 ⟨pb2,rfl,ok,xe⟩;refine .ur' (.stW (vs:=[.int .i64 ((decN (P.getD (1-1) [])).1.size),.int .i64 ((decN (P.getD (1-1) [])).1.pages),.int .i64 ((decN (P.getD (1-1) [])).1.free),.int .i64 ((decN (P.getD (1-1) [])).1.many),.int .i64 ((decN (P.getD (1-1) [])).1.cookie),.int .i64 ((decN (P.getD (1-1) [])).1.version)]) T.sz38 ok (oneL rfl)) ?_;rintro η5 ⟨ok,cg⟩;refine .z .asI<|.nil<|.seq<|.q (hm:=mixed)<|.z .mvI<|.z .neq<|.z .mvB<|.sd (fun G42=>?_) (fun G42=>?_)
  ·
   exact absurd (congrArg Int.ofNat hh1) G42
  refine .z (.fa T.fd38_0)<|.z (.ldx T.ag3 ok.m0)<|.z .mvP<|.z .nil<|.z (.fa T.fd212_2)<|.z (.ldx T.ag3 ok.m2)<|.z .neq<|.z .pkf<|.nil<|.cd (fun C4=>?_) (fun C4=>?_)
  ·
   exact absurd hh2 C4
  refine .skip<|.seq<|.s<|.z .mvP<|.c' 52 .func (hlay_any (p:=p) (r:=r) (L:=(getL (1:Int) L)) hgot.2 hin (by omega) (by omega) (ok.n4.n4.n6.n5).lc4) ?_;rintro _ η6 ⟨rfl,rl1,Fdl1,lal1,q⟩;have ok:=(ok.n4.n4.n6.n5).lf44 q;rw [←lal1.c] at ok;refine .z .asI<|.nil<|.s<|.z .mvI<|.z .neq<|.nil<|.cf<|.skip<|.s<|.z .mvP<|.z .nil<|.z (.fa T.fd212_3)<|.z (.ldx T.ag194 ok.m0)<|.c' 60 .func (lclean_any (ok.n3).m0) ?_;rintro _ η7 ⟨rfl,q⟩;have ok:=(ok.n3).lift1 q;refine .nil ?_;refine .s<|.z .mvP<|.z .mvP<|.z .nil<|.z (.fa T.fd212_0)<|.z (.fa T.fd210_1)<|.z (.ldx T.ag3 ok.m1)<|.z .nil<|.z (.fa T.fd212_4)<|.ur' (.stI T.sz3 ok.n1) ?_;rintro η8 ⟨ok,cg⟩;refine .nil ?_;refine .s<|.z .mvP<|.z (.bd #[.bool false,.int .i64 0,.int .i64 0,.bool false,.int .u64 0,.map none,.int .i64 0] T.zr210 T.pl210 rfl)<|.z .nil<|.z (.fa T.fd212_0)<|.ur' (.stA (vs:=[.bool false,.int .i64 0,.int .i64 0,.bool false,.int .u64 0,.map none,.int .i64 0]) T.sz210 ok (oneL rfl)) ?_;rintro η9 ⟨ok,cg⟩;refine .nil ?_;refine .s<|.ur' (.stI T.sz34 ok.n6) ?_;rintro η10 ⟨ok,cg⟩;refine .nil ?_;refine .ret ⟨_,_,_,rfl,(hend_any (p:=p) (q:=pb1) (r:=({ rl1 with in_:=false,now:=0,valid:=0,begun:=false,nonce:=0,km:=none,marked:=0,sure:=rl1.now } : RH)) (ok.m1) (ok.m0)),?_⟩;rintro _ _ ⟨rfl,rfl⟩;refine ⟨.int .i64 0,Res.many (vs:=[.int .i64 0]) rfl ⟨⟨_,rfl,load_1 T.ag34 ok.m0⟩,trivial⟩ rfl,⟨rfl,cmtH rl1,Fdl1,Fg1,_,hgot.2.commit hin lal1,rfl,lal1.size,lal1.chg,((((ok.n2.n4.n4.n4).k4.e0).n1.tM).kepNil (kept:=[])).n1⟩⟩
 omega
open Go Go.HL
theorem hcnew_any {h:Heap} {room:Int} : HC Tryz.prog 133 #[.int .i64 room] h (fun v h'=>(¬(1≤room∧room≤1048576)∧v=.tuple #[.pointer none,.int .i64 1]∧Ext h h')∨
  ((1≤room∧room≤1048576)∧∃c F,v=.tuple #[.pointer (some ⟨c,0,none⟩),.int .i64 0]∧Ext h h'∧(cacL c F room []).p h'∧∀j,F j→Nw h h' j)):=
 (cnew_any (h:=h) (room:=room)).mono fun v h' q=>q.imp (fun ⟨h1,h2,h3⟩=>⟨h1,h2,by rw [h3];exact Ext.refl _⟩) fun ⟨h1,p,F,hv,hr,hx,hn⟩=>⟨h1,p,F,hv,hx,hr,fun j hj=>⟨hn j hj,hr.lt j hj⟩⟩
def newH (d c z:Nat):RH:=⟨false,0,0,false,0,none,[],0,d,newN,z,c,0,0⟩
theorem HB.new {d c z:Nat} {room:Int} (hz:okSz z=true) (hr:1≤room∧room≤1048576):HB (newH d c z) room [] []:=
 ⟨⟨hz,HD.new,rfl,by show 0≤16777216;omega,by show 0*(z+8)+28≤16777216;omega,fun h=>(by cases h),fun _=>⟨rfl,rfl⟩,.nil,fun x h=>(by cases h),by show (0:Nat)<_;decide,by show (0:Int)≤0;decide⟩,rfl,by simp,by simp,.nil,⟨hr.1,hr.2,by simp;omega⟩,by simp,by simp,by simp,fun _ x h=>(by cases h),fun h=>(by cases h),fun h=>(by cases h),fun _=>rfl,fun _=>by show 0=0*z;omega⟩
theorem hbopen_any {h:Heap} {d z:Nat} {room:Int} {F:Nat→Prop} (ok:Hp h F [dgI d F newN] [] h) (hz:okSz z=true) (hr:1≤room∧room≤1024) :
  HC Tryz.prog 88 #[.pointer (some ⟨d,0,none⟩),.int .i64 (z:Int),.int .i64 room] h (fun v h'=>∃p c Fd Fc,HB (newH d c z) room [] []∧v=.tuple #[.pointer (some ⟨p,0,none⟩),.int .i64 0]∧Hp h F [hboxI p (newH d c z),kepI none [],dgI d Fd newN,cacL c Fc room []] [] h'):=by
 have hzc:=okSz_c hz;have hpw:=(and_pow z (by omega) (by omega)).2 (by omega);refine HC.go Tryz.func88 62 ?_;refine .s<|.z .asP<|.z .asI<|.nil<|.seq<|.block fun K0 hK0=>.s<|.z .mvP<|.z (.pEqS T.pt63)<|.z .asB<|.nil<|.cf<|.s<|.z .mvI<|.z .lss<|.z .mvB<|.sd (fun G18=>?_) (fun G18=>?_)
 ·
  omega
 refine .z .mvI<|.z .gtr<|.z .pkf<|.z .mvB<|.sd (fun G22=>?_) (fun G22=>?_)
 ·
  omega
 refine .z .mvI<|.z .mvI<|.z .sub<|.z (.bandI z (z-1))<|.z .neq<|.z .pkf<|.z .asB<|.nil<|.cd (fun C1=>?_) (fun C1=>?_)
 ·
  omega
 refine .skip<|.end<|hK0 _ _<|.s<|.z .mvI<|.c' 31 .func (hcnew_any (room:=room)) ?_;rintro _ η1 (⟨hrm,rfl,hx⟩ | ⟨hrm,cc,cF,rfl,hx,hcac,hnw⟩)
 ·
  exact absurd hrm (by omega)
 have ok:=ok.newM hx (cacL cc cF room []) hcac hnw;refine .z .mvU<|.z .ex<|.z .ex<|.z .asP<|.z .asI<|.nil<|.seq<|.s<|.z .mvI<|.z .neq<|.nil<|.cf<|.skip<|.seq<|.s<|.z .mvP<|.k 38 .func (ndark_any (ok.n1).loc0)<|.nil<|.cf<|.skip<|.seq<|.s<|.z .mvP<|.k 40 .func (nheal_any (ok.n1).loc0)<|.z .asI<|.nil<|.s<|.z .mvI<|.z .neq<|.nil<|.cf<|.skip<|.s<|.z .mvP<|.z .mvI<|.k 47 .func (nlook_any (z:=(z:Int)) (ok.n1).loc0)<|.z .mvU<|.z .ex<|.z .ex<|.z .asI<|.z .asI<|.nil<|.seq<|.s<|.z .mvI<|.z .neq<|.nil<|.cf<|.skip<|.s<|.z .mvP<|.z .mvI<|.z .mvP<|.z .mvI<|.z .mvI<|.z .quo<|.z .mvI<|.z (.bd #[.bool false,.int .i64 0,.int .i64 0,.bool false,.int .u64 0,.map none,.int .i64 0,.pointer (some ⟨d,0,none⟩),.int .i64 (z:Int),.pointer (some ⟨cc,0,none⟩),.int .i64 (0 / (z:Int)),.int .i64 0,.bool false] T.zr212 T.pl212 (by kernel_rfl))<|.a' 61 (.bxA (cs:=[.bool false,.int .i64 0,.int .i64 0,.bool false,.int .u64 0,.map none,.int .i64 0,.pointer (some ⟨d,0,none⟩),.int .i64 (z:Int),.pointer (some ⟨cc,0,none⟩),.int .i64 (0 / (z:Int)),.int .i64 0,.bool false]) ok) ?_;rintro _ η2 ⟨pb1,rfl,ok,xe⟩;refine .z .asP<|.z .asI<|.nil<|.ret ⟨.tuple #[.pointer (some ⟨pb1,0,none⟩),.int .i64 0],Res.two rfl rfl rfl,⟨pb1,_,_,_,HB.new hz (by omega),rfl,by have o:=(ok.n1.n2.n2).k3;rw [Int.zero_ediv] at o;exact (o.kepNil (kept:=[])).n1⟩⟩
structure HbA (z:Nat) (i:Bool) (k n:Nat) where
 r:RH
 Fd:Nat→Prop
 Fc:Nat→Prop
 room:Int
 L:List AP
 P:List (List UInt8)
 hb:HB r room L P
 in_:r.in_=i
 sz:r.size=z
 ch:r.D.chg≤66000*(k:Int)+20*(n:Int)
 hc:r.D.chg<400000000
@[reducible] def hbL {z k n:Nat} {i:Bool} (p:Nat) (a:HbA z i k n):List Itm:=[hboxI p a.r,kepI a.r.km a.r.kept,dgI a.r.d a.Fd a.r.D,cacL a.r.c a.Fc a.room a.L]
section
variable {z k n p no m:Nat} {h:Heap} {D:Nat→Prop} {i:Bool} {b:List UInt8}
theorem hb_opn {a:HbA z i k n} {R:List Itm} (ok:Hp h D [starI (hbL p a)] R h):Hp h D [hboxI p a.r,kepI a.r.km a.r.kept,dgI a.r.d a.Fd a.r.D,cacL a.r.c a.Fc a.room a.L] R h:=Hp.unstar (l:=hbL p a) (M:=[]) ok
theorem hb_np {a:HbA z i k n} : presH a.r=a.P.length:=a.hb.np
theorem hb_cPages {a:HbA z i k n} (hp:(starI (hbL p a)).p h):HC Tryz.prog 297 #[pv p] h (fun v h'=>v=.int .i64 (a.P.length:Int)∧h'=h):=by
 rw [←hb_np (a:=a)];exact hPages_any (hp.1 _ List.mem_cons_self)
theorem hb_cRead {a:HbA z false k n} {nI:Int} (ok:Hp h D [starI (hbL p a)] [] h) (h1:1≤nI) (hg:a.P[(nI-1).toNat]? = some b):HC Tryz.prog 298 #[pv p,.int .i64 nI] h (fun v h'=>∃(a':HbA z false k n) (x:Option Addr) (c:Nat),v=.tuple #[.slice x b.length c,.int .i64 0]∧a'.P=a.P∧Hp h D [capI 1 5 (x,b.length,c) (b.map bv),starI (hbL p a')] [] h'):=by
 obtain ⟨j,rfl⟩:∃j:Nat,nI=(j:Int):=⟨nI.toNat,by omega⟩;have hlt:=(List.getElem?_eq_some_iff.1 hg).1;have hb:a.P.getD (j-1) []=b:=by rw [List.getD_eq_getElem?_getD,show j-1=((j:Int)-1).toNat by omega,hg];rfl
 have hc:=a.hc;refine (hbread_any (no:=j) a.hb (by omega) (by omega) (by omega) (hb_opn ok)).mono fun v h' ⟨x,c,hv,r',Fd',Fc',L',k',kp,q⟩=>?_;rw [hb] at hv q;obtain rfl:=kp.ro a.in_;exact ⟨⟨a.r,Fd',Fc',a.room,L',a.P,k',a.in_,a.sz,a.ch,hc⟩,x,c,hv,rfl,(Hp.star (l:=[hboxI p a.r,kepI a.r.km a.r.kept,dgI a.r.d Fd' a.r.D,cacL a.r.c Fc' a.room L']) (M:=[capI 1 5 (x,b.length,c) (b.map bv)]) q.n4.n4.n4.n4).n1⟩
theorem hb_cBegin {a:HbA z false k n} (ok:Hp h D [starI (hbL p a)] [] h):HC Tryz.prog 294 #[pv p] h (fun v h'=>v=.int .i64 0∧∃(b:HbA z true k n),b.P=a.P∧Hp h D [starI (hbL p b)] [] h'):=by
 refine (hbegin_any a.hb a.in_ (hb_opn ok)).mono fun v h' ⟨hv,m,q⟩=>⟨hv,⟨begH a.r m,a.Fd,a.Fc,a.room,a.L,a.P,a.hb.begin a.in_ m,rfl,a.sz,a.ch,a.hc⟩,rfl,Hp.star (l:=[hboxI p (begH a.r m),kepI (some m) [],dgI a.r.d a.Fd a.r.D,cacL a.r.c a.Fc a.room a.L]) (M:=[]) q⟩
theorem hb_cResize {a:HbA z true k n} (hm:m*(z+16)+28≤16777216) (ok:Hp h D [starI (hbL p a)] [] h):HC Tryz.prog 299 #[pv p,.int .i64 (m:Int)] h (fun v h'=>v=.int .i64 0∧∃(b:HbA z true k n),b.P=rszP a.P m z∧Hp h D [starI (hbL p b)] [] h'):=by
 have hz:=a.sz;have hm2:m*(a.r.size+8)+28≤16777216:=by
  rw [hz];have:m*(z+8)≤m*(z+16):=Nat.mul_le_mul_left _ (by omega);omega
 refine (hresize_any a.hb a.in_ hm2 (hb_opn ok)).mono fun v h' ⟨hv,Fc',q⟩=>⟨hv,⟨rszH a.r m,a.Fd,Fc',a.room,_,_,a.hb.resize a.in_ hm2,a.in_,a.sz,a.ch,a.hc⟩,congrArg (rszP a.P m) hz,Hp.star (l:=[hboxI p (rszH a.r m),kepI a.r.km a.r.kept,dgI a.r.d a.Fd a.r.D,cacL a.r.c Fc' a.room (a.L.filter fun x=>decide (x.no≤(m:Int)))]) (M:=[]) q⟩
def hbLim (k n:Nat):Prop:=k≤4000∧n≤4000000
theorem hb_cWrite {a:HbA z true k n} {F2 E2:Nat→Prop} {x:Option Addr} {c:Nat} (hl:hbLim (k+1) (n+1)) (h1:1≤no) (h2:no≤a.P.length) (hb:b.length=z) (ok:Hp h D [starI (hbL p a)] [rdI F2 E2 (x,b.length,c) b] h):HC Tryz.prog 301 #[pv p,.int .i64 (no:Int),.slice x b.length c] h (fun v h'=>v=.int .i64 0∧∃(b':HbA z true k (n+1)),b'.P=a.P.set (no-1) b∧Hp h D [starI (hbL p b')] [] h'):=by
 have hc:=a.hc;have ch:=a.ch;have hl1:=hl.1;have hl2:=hl.2;refine (hbwrite_any a.hb a.in_ (by omega) h1 h2 (by rw [a.sz];exact hb) (hb_opn ok)).mono fun v h' ⟨hv,r',Fd',Fc',L',k',kp,q⟩=>?_;have hcg:=kp.chg;exact ⟨hv,⟨r',Fd',Fc',a.room,L',_,k',kp.in_.trans a.in_,kp.size.trans a.sz,by omega,by omega⟩,rfl,Hp.star (l:=[hboxI p r',kepI r'.km r'.kept,dgI r'.d Fd' r'.D,cacL r'.c Fc' a.room L']) (M:=[]) q⟩
theorem hb_cCommit {a:HbA z true k n} (hl:hbLim (k+1) n) (h1:1≤a.P.length) (hh:hok (a.P.getD (1-1) []) z) (ok:Hp h D [starI (hbL p a)] [] h):HC Tryz.prog 295 #[pv p] h (fun v h'=>v=.int .i64 0∧∃(b:HbA z false (k+1) n),b.P=a.P∧Hp h D [starI (hbL p b)] [] h'):=by
 have hc:=a.hc;have ch:=a.ch;have hl1:=hl.1;have hl2:=hl.2;have hun:(unlH a.r (getL (1:Int) a.L)).length≤65536:=by
  have hg:=(a.hb.get (no:=1) (by omega) h1).2;have hf:=hg.few;have h3:=inner_fit (n:=a.P.length) (un_nodup hg) (fun x hx=>by obtain ⟨f,hf,rfl⟩:=List.mem_map.1 hx;obtain ⟨y,hy,_,rfl⟩:=un_ok hg hf;exact hg.rg y hy);rw [List.length_map] at h3;have h4:=hf.2;have h6:(unlH a.r (getL ((1:Nat):Int) a.L)).length=(unlH a.r (getL (1:Int) a.L)).length:=rfl;omega
 refine (hbcommit_any a.hb a.in_ h1 (by rw [a.sz];exact hh) (by omega) (hb_opn ok)).mono fun v h' ⟨hv,r',Fd',Fc',L',k',hi,hs,hcg,q⟩=>?_;exact ⟨hv,⟨r',Fd',Fc',a.room,L',a.P,k',hi,hs.trans a.sz,by omega,by omega⟩,rfl,Hp.star (l:=[hboxI p r',kepI r'.km r'.kept,dgI r'.d Fd' r'.D,cacL r'.c Fc' a.room L']) (M:=[]) q⟩
end
def hbG (z k n:Nat):Pgr where
 α:=HbA z false k n
 it p _ a:=starI (hbL p a)
 sure a:=a.P
 tid:=140
 fPages:=297
 fRead:=298
 mPages p w:=by kernel_rfl
 mRead p w:=by kernel_rfl
 cPages hp:=hb_cPages hp
 cRead ok h1 hg:=(hb_cRead ok h1 hg).mono fun v h' ⟨a',x,c,q⟩=>⟨none_,a',x,c,q⟩
def hbT (z k n:Nat):PgT where
 α:=HbA z true k n
 it p _ a:=starI (hbL p a)
 sure a:=a.P
def hbC (z:Nat):PgrC where
 z:=z
 lim:=hbLim
 limM h1 h2 h:=⟨Nat.le_trans h1 h.1,Nat.le_trans h2 h.2⟩
 G:=hbG z
 T:=hbT z
 tid _ _ _ _:=rfl
 up {k n k' n' h p F a} h1 h2 hp:=⟨⟨a.r,a.Fd,a.Fc,a.room,a.L,a.P,a.hb,a.in_,a.sz,by have:=a.ch;omega,a.hc⟩,rfl,hp,fun _ f=>f⟩
 fBegin:=294
 fResize:=299
 fWrite:=301
 fCommit:=295
 mBegin k n p w:=by kernel_rfl
 mResize k n p w:=by kernel_rfl
 mWrite k n p w:=by kernel_rfl
 mCommit k n p w:=by kernel_rfl
 cBegin _ ok:=(hb_cBegin ok).mono fun v h' ⟨hv,b,hb,q⟩=>⟨hv,none_,b,hb,q⟩
 cResize hm ok:=(hb_cResize hm ok).mono fun v h' ⟨hv,b,hb,q⟩=>⟨hv,none_,b,hb,q⟩
 cWrite hl h1 h2 hb ok:=(hb_cWrite hl h1 h2 hb ok).mono fun v h' ⟨hv,b,hb,q⟩=>⟨hv,none_,b,hb,q⟩
 cCommit hl h1 hh _ ok:=(hb_cCommit hl h1 hh ok).mono fun v h' ⟨hv,b,hb,q⟩=>⟨hv,none_,b,hb,q⟩
end Go.Proofs.YtndlpekckpdncaaGreat
