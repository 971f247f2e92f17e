/- Closed facts on the types of this translation, written by a program of this claim; each is decided by the kernel. Sums of bytes: sum.table, Sum, Next, foot, Seal, and the document's. Conditions: the slices are readable. Logs in plain terms: heads, frames, links, and how a log is scanned. Conditions: those that each fact names. A disk as one item that is told in plain terms alone; its calls so. Conditions: those that each fact names. A call of the laws keeps the two pagers alike, in plain terms, or the power goes; little pagers stay little. Conditions: those that each fact names. The law BackRooms: with any room the same calls answer the same, and leave the same file. Conditions: the calls are readable. Arrays of bytes that come in as arguments. Conditions: those that each fact names. Pages that are read, as rows of bytes. Conditions: none. The law BackQuiet: a transaction that changed nothing does nothing to the disk; behind each Commit and Rollback the file is the sure pages. Conditions: the calls are readable. The law BackQuiet at arguments as they come in. Conditions: they are readable. The law BackQuiet returns true at every input and leaves its arguments as they were. Conditions: none. -/
import Derived.Test.YtpeaicddbnghfaaGreatPkB9
import Derived.Test.YtpeaicddbnghfaaGreatProg
import Derived.OpenShut
import Derived.Test.YtpeaicddbnghfaaGreatRows
set_option maxRecDepth 100000
set_option maxHeartbeats 2000000
set_option linter.all false
namespace Go.Proofs.YtpeaicddbnghfaaGreat
open Go Go.HL
namespace T
theorem ar64:arB Go.Proofs.Tryz.prog 64=some (2,5):=by kernel_rfl
end T
open Go Go.HL
def nextB (p:Nat) (x:UInt8):Nat:=(p ^^^ x.toNat)*1099511628211%18446744073709551616
def nextN (p:Nat) (l:List UInt8):Nat:=l.foldl nextB p
def okF (f:Fr):Bool:=decide (1≤f.page∧f.page≤1048576∧0≤f.commit∧f.commit≤1048576) && okSz f.b.length
def linkN (p:Nat) (f:Fr):Nat:=nextN p (fixedN f.page.toNat 4++fixedN f.commit.toNat 4++f.b)
structure Sc where
 pos:Nat
 prev:Nat
 all:List Fr
 l:List Fr
 sure:Nat
 fin:Nat
def rawF (b:List UInt8) (size pos:Nat):Fr:=⟨rdN b pos 4,rdN b (pos+4) 4,(b.drop (pos+16)).take size⟩
def fits (b:List UInt8) (size pos prev:Nat):Prop:=pos+16+size≤b.length∧okF (rawF b size pos)=true∧linkN prev (rawF b size pos)=rdN b (pos+8) 8
def stepF (size:Nat) (s:Sc) (f:Fr):Sc:=
 let p:=linkN s.prev f
 if f.commit≠0 then ⟨s.pos+16+size,p,s.all++[f],s.all++[f],p,s.pos+16+size⟩ else ⟨s.pos+16+size,p,s.all++[f],s.l,s.sure,s.fin⟩
inductive Reach (b:List UInt8) (size:Nat):Sc→Sc→Prop
 | refl (s):Reach b size s s
 | step {s s'} : Reach b size s s'→fits b size s'.pos s'.prev→Reach b size s (stepF size s' (rawF b size s'.pos))
section
variable {h h':Heap} {d p:Nat} {F G E E':Nat→Prop} {D:Dk} {r r':RD}
section
variable {n:List UInt8} {z y:Int} {a:Option Addr} {c:Nat} {l:List UInt8} {F2 E2:Nat→Prop}
theorem dgsize_any (ok:Hp h F [dgI d F D] [] h) :
  HC Tryz.prog 24 #[.pointer (some ⟨d,0,none⟩),.string (BA n)] h (fun v h'=>v=.tuple #[.int .i64 ((sizeN D n).1:Int),.bool (sizeN D n).2]∧h'=h):=by
 obtain ⟨r,E,rfl,o,hf,he⟩:=dg_open ok;exact size_anyD o.m0
theorem dgread_any (ok:Hp h F [dgI d F D] [] h) (hk:DkOk D) (hy : -9223372036854775808≤y∧y≤9223372036854775807) (hz : -9223372036854775808≤z∧z≤9223372036854775807) :
  HC Tryz.prog 23 #[.pointer (some ⟨d,0,none⟩),.string (BA n),.int .i64 y,.int .i64 z] h (fun v h'=>∃w,v=.tuple #[w,.int .i64 ((readN D n y z).2:Int)]∧Own h h' 1 5 w ((readN D n y z).1.map bv)):=by
 obtain ⟨r,E,rfl,o,hf,he⟩:=dg_open ok;exact read_anyD o.rdo hk hy hz
theorem dgchanges_any (ok:Hp h F [dgI d F D] [] h) :
  HC Tryz.prog 38 #[.pointer (some ⟨d,0,none⟩)] h (fun v h'=>v=.int .i64 D.chg∧h'=h):=by
 obtain ⟨r,E,rfl,o,hf,he⟩:=dg_open ok;exact changes_any (dsk_parts o.m0).1
end
end
open Go Go.HL
section
variable {A:Bk} {w:WPg} {x:PO6} (R:RelB A w)
include R
theorem RelB.step0 (hl:A.dk.left<0):told13 A w x∧RelB (stepB A w.z x).1 (stepQ w x).1∧(stepB A w.z x).1.dk.left<0:=by
 rcases R.step (x:=x) with ⟨h1,h2,h3⟩ | ⟨_,h | h⟩
 ·exact ⟨h1,h2,h3 hl⟩
 ·have:=h.left;omega
 ·have:=h.2.2.left;omega
end
open Go Go.HL
theorem newWp_lim {z:Nat} : LimW (newWp z).abs:=⟨by simp [newWp,RWp.abs,pgs],by simp [newWp,RWp.abs,pgs]⟩
end Go.Proofs.YtpeaicddbnghfaaGreat
namespace Go.HL
open Go Go.RowKit Go.ChangeShapes Go.WideShapes Go.ChangeAt
theorem okWide_array {P:Program} {w:World} {r:Reach} {base:Nat} {t e:TypeId} {n:Nat} {v:Value} (ht:P.underlying t=some (.array n e)) (h:Value.okWide P w r base t v):∃cs,v=.agg cs∧cs.size=P.cellsOf t:=by
 simp only [Value.okWide,ht] at h;obtain ⟨cs,h1,h2,_⟩:=h;exact ⟨cs,h1,h2⟩
theorem all_bv:∀ {cs:List Value},(∀i (h:i<cs.length),∃y:UInt8,cs[i]=bv y)→∃l:List UInt8,cs=l.map bv
 | [],_=>⟨[],rfl⟩
 | c::cs,h=>by
  obtain ⟨y,hy⟩:=h 0 (by simp);obtain ⟨l,hl⟩:=all_bv (cs:=cs) fun i hi=>by
   have:=h (i+1) (by simp;omega);simpa using this
  exact ⟨y::l,by rw [hl,List.map_cons,←hy];rfl⟩
theorem Opn.arrU8 {P:Program} {t e:TypeId} {n:Nat} (ht:P.underlying t=some (.array n e)) (he:P.underlying e=some (.int .u8)) (hc:P.cellsOf t=n) (hc1:P.cellsOf e=1):Opn P t (fun _ cs (l:List UInt8)=>cs=l.map bv∧l.length=n):=⟨fun {_ _ _ _ _ _ cs _} hx=>by
 obtain ⟨xs,m,_,_,hl,hn,hel⟩:=DataW.trod_array ht hx;rw [hc] at hl;obtain ⟨l,rfl⟩:=all_bv (cs:=cs) fun i hi=>by
  have h1:=hel i (by omega);rw [hc1,List.getElem?_eq_getElem (by omega)] at h1;obtain ⟨y,hy⟩:=(Opn.u8 he).run h1;refine ⟨y,?_⟩;have h2:((cs.drop (i*1)).take 1)[0]? = some (bv y):=by rw [hy];rfl
  rw [List.getElem?_take_of_lt (by omega),List.getElem?_drop,Nat.mul_one,Nat.add_zero,List.getElem?_eq_getElem hi] at h2;injection h2
 exact ⟨l,rfl,by simpa using hl⟩⟩
theorem len_2 {l:List UInt8} (h:l.length=2):∃a b,l=[a,b]:=by
 match l,h with
 | [a,b],_=>exact ⟨a,b,rfl⟩
end Go.HL
namespace Go.Proofs.YtpeaicddbnghfaaGreat
open Go Go.HL
theorem PgB.rows {h:Heap} {E:Nat→Prop} {x:SV} {l:List RB} (r:PgB h E x l):RdL h E E x (pgs l):=by
 obtain ⟨a,n,c⟩:=x;have hn:n=l.length:=r.n;refine ⟨by rw [pgs_len];exact r.n,r.m.1,r.m.2,fun hp=>?_⟩;rw [pgs_len] at hp;obtain ⟨b,o,rfl,hE⟩:=r.pos (by omega);refine ⟨b,o,rfl,hE,fun i hi=>?_⟩;have hil:i<l.length:=by rwa [pgs_len] at hi
 refine ⟨[.slice l[i].a l[i].l.length l[i].c],⟨(l[i].a,l[i].l.length,l[i].c),rfl,by rw [pgs_at hil];exact r.by' _ (List.getElem_mem hil)⟩,fun j v hj=>?_⟩;have hj0:j=0:=by have:=(List.getElem?_eq_some_iff.1 hj).1;simpa using this
 subst hj0;have:=sl_at1 RB.cells_len r.sl hil (v:=v) hj;simpa [Rep.k] using this
theorem clean_q {s:List (List UInt8)} {D:Dk} (c:CleanB s D) (hf:s.flatten.length≤1048576):(sizeN D nJ).2=false∧(sizeN D nM).2=false∧∃k,readN D nT 0 1048576=(s.flatten,k)∧(k=0∨k=4∧s.flatten=[]):=by
 obtain ⟨T,S,hT⟩:=c;have sJ:FSt (D.fs nJ) none [] none:=by rw [S.J];exact .syn none
 have sM:FSt (D.fs nM) none [] none:=by rw [S.M];exact .syn none
 refine ⟨by rw [size_st S.hd sJ];rfl,by rw [size_st S.hd sM];rfl,?_⟩;cases T with
 | none=>
  have st:FSt (D.fs nT) none [] none:=by rw [S.T];exact .syn none
  exact ⟨4,by rw [←hT];exact read_no (p:=0) (z:=1048576) S.hd nT_ok st,.inr ⟨rfl,hT.symm⟩⟩
 | some b=>
  have st:FSt (D.fs nT) (some b) [] (some b):=by rw [S.T];exact .syn _
  have h:=read_st (p:=0) (z:=1048576) S.hd nT_ok st;have hb:b=s.flatten:=hT;rw [List.drop_zero,hb,List.take_of_length_le hf] at h;exact ⟨0,h,.inl rfl⟩
theorem dirty_no {L:List AP} (hd:∀x∈L,x.d=false) (hn:(nos L).Nodup):dirtyB L=[]:=by
 apply List.eq_nil_iff_forall_not_mem.2;intro f hf;obtain ⟨x,hx,h,_⟩:=(dirtyB_mem hn).1 hf;rw [hd x hx] at h;cases h
theorem lay_quick {C:Bk} (hd:∀x∈C.L,x.d=false) (hn:(nos C.L).Nodup) (h1:C.now=C.sure) (h2:C.valid=C.sure) (h3:C.begun=false):layB C=(C,0):=by
 have e:unlikeB C=([],0):=by unfold unlikeB;rw [dirty_no hd hn];rfl
 exact lay_2 (by rw [e]) ⟨by rw [e],h1,h2,h3⟩
theorem RL.empty {A:Bk} {w:WPg} (R:RL A w) (hi:w.in_=false):(beginB A).2=0∧(beginB A).1.dk=A.dk∧(commitB (beginB A).1).2=0∧(commitB (beginB A).1).1.dk=A.dk∧RL (commitB (beginB A).1).1 w:=by
 have hb:=beginP_2 (w:=w) (by rw [hi];decide);obtain ⟨e1,R1⟩:=R.begin hb;have d1:=(BPl.begin R.pl).2;have hpg:=R.R.R.pg;rw [R.R.z] at hpg;have hw:(⟨w.z,w.sure,[],false,w.fr⟩:WPg)=w:=by
  have h1:=R.R.no hi;obtain ⟨z,s,n,i,f⟩:=w;simp only at h1 hi;subst h1 hi;rfl
 have hc:commitQ { w with in_:=true,now:=w.sure } = (w,0):=by
  rw [commitQ_3 (by simp) (fun h=>by
   have h2:hdOk (w.sure.getD 0 []) w.z=false:=h.2;rw [hpg.1.hd h.1] at h2;cases h2)]
  exact congrArg (fun x=>(x,0)) hw
 obtain ⟨e2,R2⟩:=R1.commit hc;refine ⟨e1,d1,e2,?_,R2⟩;have hiA:=R.R.in_.trans hi;have hbr:=R.R.br;obtain ⟨cur,k,p⟩:=R.R.R.kp;have eb:beginB A=(actB A true A.sure A.sure,0):=by unfold beginB;rw [if_neg (by rw [hbr];decide),if_neg (by rw [hiA];decide)]
 rw [eb];have hin:(actB A true A.sure A.sure).in_=true:=rfl;have hnt:=p.nt hiA;have q1:layB (actB A true A.sure A.sure)=(actB A true A.sure A.sure,0):=lay_quick hnt p.nd rfl rfl rfl;have q2:layB (getB (actB A true A.sure A.sure) 1).1=((getB (actB A true A.sure A.sure) 1).1,0):=lay_quick (fun x hx=>hnt x ((bgetL_mem (no:=1) p.nd).1 hx)) (bgetL_nd (no:=1) p.nd) rfl rfl rfl;unfold commitB;rw [if_neg (show ¬(actB A true A.sure A.sure).broken=true by show ¬A.broken=true;rw [hbr];decide),if_neg (by rw [hin];decide),end_dk];split
 ·rw [q1];rfl
 ·simp only;split
  ·rfl
  ·split
   ·rfl
   ·rw [q2];rfl
theorem bquiet_walk {h:Heap} {EO:Nat→Prop} {a:Option Addr} {c:Nat} {l:List ROp6} (hl:RwB 6 ROp6.cells ROp6.sb h EO (a,l.length,c) l) (hop6:OpsOk6 l) {u v:Nat} (hu:u<256) (hv:v<256):HC Tryz.prog 6 #[.agg #[.int .u8 (u:Int),.int .u8 (v:Int)],.slice a l.length c] h (fun v h'=>v=.bool true∧Ext h h'):=by
 have hc2:=hl.m;have ok:=(Hp.nil h none_).old (opw6I (fun j=>EO j∧j<h.size) (a,l.length,c) l) (hl.lt (by decide)) (fun j hj=>hj.2);have hzb:=sizeZ_b u;have hcn:newN.chg=0:=rfl;refine HC.go Tryz.func6 147 ?_;refine .seq<|.r<|.a' 2 (.bxA (cs:=[.int .u8 (u:Int),.int .u8 (v:Int)]) ok) ?_;rintro _ η1 ⟨pb1,rfl,ok,xe⟩;refine .z .asB<|.nil ?_;refine .seq<|.r<|.c' 17 .func dgnew_any ?_;rintro _ η2 ⟨dnd1,Fnd1,rfl,q⟩;have ok:=Hp.addM ok q;refine .z .asP<|.nil ?_;refine .seq<|.a 15 (fun fl hh=>Hp h none_ [boxI pb1 64 [.int .u8 (u:Int),.int .u8 (v:Int)]] [opw6I (fun j=>EO j∧j<h.size) (a,l.length,c) l] hh) mixed ?_;have hS:=ok.n1.k1;refine .g 0 false rfl 19 hS (fun _=>.mvP)<|.g 1 false rfl 20 hS (fun _=>.ixa 0 T.ar64 T.sz5)<|.lw 2 false rfl 21 hS (fun _ _ hS=>.ldx T.ag5 hS.m0)<|.g 4 false rfl 23 hS (fun _=>.ixa 1 T.ar64 T.sz5)<|.lw 5 false rfl 24 hS (fun _ _ hS=>.ldx T.ag5 hS.m0)<|.g 6 false rfl 25 hS (fun _=>.remn (b:=6))<|.g 7 false rfl 26 hS (fun _=>.cvi T.in3 T.in5)<|.g 8 false rfl 27 hS (fun _=>.addI (b:=1))<|.o1 3<|.k false rfl 22 .func (size13_any (n:=u) (by omega)) hS<|.o1 9<|.c' false rfl 28 .func (gbopen0_any (d:=dnd1) (F:=Fnd1) (D:=newN) (z:=((sizeZ u:Nat):Int)) (room:=(((v%6)+1:Nat):Int)) (Hp.loc0 (ok)) newN_ok (by omega) (by omega) (by rw [(openB_new (z:=sizeZ u) (room:=(((v%6)+1:Nat):Int)) (sizeZ_ok u) ⟨by omega,by omega⟩).1]) (by rw [(openB_new (z:=sizeZ u) (room:=(((v%6)+1:Nat):Int)) (sizeZ_ok u) ⟨by omega,by omega⟩).1];exact ⟨newN_ok,[],(openB_new (z:=sizeZ u) (room:=(((v%6)+1:Nat):Int)) (sizeZ_ok u) ⟨by omega,by omega⟩).2⟩)) ?_;rintro _ η3 ⟨po1,Fo1,rfl,q⟩;have ok:=Hp.lift1 (ok) q;obtain ⟨Ao1,hAo1⟩:∃x:Bk,(openedB (openB newN ((sizeZ u:Nat):Int) (((v%6)+1:Nat):Int)).1 (Int.toNat ((sizeZ u:Nat):Int)) (((v%6)+1:Nat):Int) (openB newN ((sizeZ u:Nat):Int) (((v%6)+1:Nat):Int)).2.1:Bk)=x:=⟨_,rfl⟩;rw [hAo1] at ok;have hA0:Ao1=openedB newN (sizeZ u) (((v%6)+1:Nat):Int) 0:=by rw [←hAo1,(openB_new (z:=sizeZ u) (room:=(((v%6)+1:Nat):Int)) (sizeZ_ok u) ⟨by omega,by omega⟩).1];rfl
 have hrel0:RelB Ao1 (newWp (sizeZ u)).abs:=by rw [hA0];exact relB_new (sizeZ_ok u) ⟨by omega,by omega⟩
 refine ⟨ok.n1.k1,?_⟩;have hS:=ok.n1.k1;refine .g 10 false rfl 18 hS (fun _=>.mvU)<|.g 11 false rfl 29 hS (fun _=>.ex)<|.g 12 false rfl 30 hS (fun _=>.ex)<|.g 13 false rfl 6 hS (fun _=>.asP)<|.g 14 false rfl 7 hS (fun _=>.asI)<|.e ?_;refine .seq<|.r<|.z (.ixa 0 T.ar64 T.sz5)<|.z (.ldx T.ag5 ok.m1)<|.k 33 .func (size13_any (n:=u) (by omega))<|.z (.bd #[.int .i64 ((sizeZ u:Nat):Int),.slice none 0 0,.slice none 0 0,.bool false] T.zr51 T.pl51 rfl)<|.a' 8 (.alA T.zr51 ok) ?_;rintro _ η4 ⟨pb2,rfl,ok,xe⟩;refine .ur' (.stW (vs:=[.int .i64 ((sizeZ u:Nat):Int),.slice none 0 0,.slice none 0 0,.bool false]) T.sz51 ok (oneL rfl)) ?_;rintro η5 ⟨ok,cg⟩;refine .nil ?_;refine .seq<|.seq<|.r<|.z .mvP<|.z (.pEqS T.pt47)<|.z .mvB<|.z .mvI<|.z .neq<|.z .pkf<|.z .mvB<|.z .mvS<|.k 43 .func (small13_any (a:=a) (c:=c) (l:=l) ok.r0)<|.z .not<|.z .pkf<|.nil ?_;refine .cond (fun C0=>?_) (fun C0=>?_)
 ·
  refine .seq<|.r<|.c' 46 .func live13_any ?_;rintro _ η6 ⟨rfl,hx⟩;have ok:=ok.ext hx;refine .z .mvB<|.z .mvP<|.z (.pNeS T.pt47)<|.z .pkt<|.z .asB<|.nil ?_;refine .ret ⟨.bool true,Res.one rfl rfl,⟨rfl,ok.chg⟩⟩
 have hsm:=smallB6_iff.1 (by simpa using C0);refine .skip<|.seq<|.seq<|?_;have ok:=ok.dE (dcpI none_ (newWp (sizeZ u))) newWp_doc (fun _ f=>f);refine .r<|.z .asI<|.nil ?_;refine .block fun K0 hK0=>.loop (fun m s hh=>∃(i:Nat) (F:Nat→Prop) (A:Bk) (E:Nat→Prop) (w:RWp),Has s [(1,.slice a l.length c),(5,.pointer (some ⟨dnd1,0,none⟩)),(6,.pointer (some ⟨po1,0,none⟩)),(8,.pointer (some ⟨pb2,0,none⟩)),(9,.int .i64 (i:Int))]∧Hp h none_ [bgI po1 dnd1 F A,boxI pb2 51 [.int .i64 (w.z:Int),.slice w.sa w.sl.length w.sc,.slice w.na w.nl.length w.nc,.bool w.i]] [dcpI E w,opw6I (fun j=>EO j∧j<h.size) (a,l.length,c) l] hh∧i≤l.length∧A.dk.chg≤4000000*i∧RelB A w.abs∧A.dk.left<0∧LimW w.abs∧w.z=sizeZ u∧m=l.length-i) ?_ ?_
 ·exact ⟨_,0,Fo1,Ao1,none_,newWp (sizeZ u),⟨rfl,rfl,rfl,rfl,rfl,trivial⟩,(ok.n1).k2.f1.f1,Nat.zero_le _,by rw [hA0];exact Int.le_refl 0,hrel0,by rw [hA0];exact (by decide:(-1:Int)<0),newWp_lim,rfl,rfl⟩
 rintro _ _ η7 ⟨i,F,A,E,w,hs,ok,hi,hcg,hrel,hlf,hlim,hwz,rfl⟩ J0 hJ0;refine .frame hs fun τ=>?_;refine .seq<|.seq<|.r<|.z .mvI<|.z .mvS<|.z (.len T.el46)<|.z .lss<|.nil ?_;refine .cdr (fun C1=>?_) (fun C1=>?_)
 ·
  refine .exit<|hK0 _ _<|.seq<|.r<|.c' 146 .func live13_any ?_;rintro _ η8 ⟨rfl,hx⟩;have ok:=ok.ext hx;refine .z .asB<|.nil ?_;refine .ret ⟨.bool true,Res.one rfl rfl,⟨rfl,ok.chg⟩⟩
 have hil:i<l.length:=by omega
 have hzw:okSz w.z=true:=by rw [hwz];exact sizeZ_ok _
 have hz256:=okSz_b hzw;have hnl9:w.nl.length≤40:=by have:=hlim.n;rwa [show w.abs.now=pgs w.nl from rfl,pgs_len] at this
 have hsl9:w.sl.length≤40:=by have:=hlim.s;rwa [show w.abs.sure=pgs w.sl from rfl,pgs_len] at this
 have P0:=bg_pl (ok).m0;refine .skip<|.seq<|.block fun K1 hK1=>.seq<|.seq<|.r<|.z .mvS<|.z .mvI<|?_;obtain ⟨bb1,oo1,rfl,fb1⟩:=ok.r1.pos (by omega);refine .z (.ix i T.el46 T.sz54)<|.z (.fa T.fd54_0)<|.z (.ld T.ag5 (sl_at ROp6.cells_len (ok.r1).sl (i:=i) (j:=0) (by omega) rfl))<|.z .eql<|.nil ?_;refine .cd (fun C2=>?_) (fun C2=>?_)
 ·
  refine .exit<|hK1 _ _<|.r<|.z .mvI<|.z (.addI (b:=1))<|.z .asI<|.nil ?_;refine .end<|hJ0 _ _ _ ⟨i+1,F,A,E,w,⟨rfl,rfl,rfl,rfl,rfl,trivial⟩,(ok).k2.f1.f1,by omega,by omega,hrel,hlf,hlim,hwz,rfl⟩ (by omega)
 refine .skip<|.seq<|?_;have ok:=ok.d1 (rdI (fun j=>EO j∧j<h.size) (fun j=>EO j∧j<h.size) (l[i].ba,l[i].bl.length,l[i].bc) l[i].bl) ((ok.r1).by' _ (List.getElem_mem hil)) (fun _ h=>h.elim id id);refine .a 6 (fun fl hh=>cond fl True (Hp h none_ [boxI pb2 51 [.int .i64 (w.z:Int),.slice w.sa w.sl.length w.sc,.slice w.na w.nl.length w.nc,.bool w.i]] [rdI (fun j=>EO j∧j<h.size) (fun j=>EO j∧j<h.size) (l[i].ba,l[i].bl.length,l[i].bc) (l[i].bl),dcpI E w,opw6I (fun j=>EO j∧j<h.size) (some ⟨bb1,oo1,none⟩,l.length,c) l] hh)) mixed ?_;have hS:=ok.n1.k1;refine .g 0 false rfl 64 hS (fun _=>.mvP)<|.l 1 false rfl 65 hS (fun _ hS=>.ldb T.ag51 hS.m0 T.sz51)<|.g 2 false rfl 66 hS (fun _=>.mvS)<|.g 3 false rfl 67 hS (fun _=>.mvI)<|.g 4 false rfl 68 hS (fun _=>.ix i T.el46 T.sz54)<|.l 5 false rfl 69 (v:=.agg #[.int .u8 (l[i].k:Int),.int .i64 (l[i].no),.int .i64 (l[i].n),.int .u8 (l[i].fb.toNat:Int),.bool (l[i].hd),.slice (l[i].ba) (l[i].bl.length) (l[i].bc)]) hS (fun _ hS=>.ldc (vs:=ROp6.cells l[i]) T.ag54 (sl_ats ROp6.cells_len (hS.r2).sl (i:=i) (by omega)) T.sz54)<|.o1 6<|.c' true rfl 70 .func (call13_any (p:=po1) (d:=dnd1) (F:=F) (A:=A) (E:=E) (z:=w.z) (sa:=w.sa) (sc:=w.sc) (sl:=w.sl) (na:=w.na) (nc:=w.nc) (nl:=w.nl) (ib:=w.i) (fr:=w.fr) (k:=l[i].k) (no:=l[i].no) (n:=l[i].n) (fb:=l[i].fb) (hd:=l[i].hd) (ba:=l[i].ba) (bc:=l[i].bc) (bl:=l[i].bl) (ok.f1).loc2 (by omega) hzw (by omega) (hop6 _ (List.getElem_mem hil)).1 (hop6 _ (List.getElem_mem hil)).2.1 (hop6 _ (List.getElem_mem hil)).2.2) ?_;rintro _ η9 ⟨Fk1,wk1,Ek1,bk1,rfl,hak1,hbk1,q,hEk1⟩;have Pk1:=bg_pl (ok.f1).m0;have hzk1:=ok.chg.size;have ok:=(ok.f1).turnR q hEk1;obtain ⟨Ak1,hAk1⟩:∃x:Bk,(stepB A w.z l[i].abs).1=x:=⟨_,rfl⟩;rw [show (stepB A w.z ⟨l[i].k,l[i].no,l[i].n,l[i].fb,l[i].hd,l[i].bl⟩).1=Ak1 from hAk1] at ok;have hck1:Ak1.dk.chg≤A.dk.chg+1200000:=by rw [←hAk1];exact (step_pl Pk1).2
 obtain ⟨htk1,hRk1,hlk1⟩:=hrel.step0 hlf (x:=l[i].abs);have hrelk1:RelB Ak1 wk1.abs:=by rw [hak1,←hAk1];exact hRk1
 have hlfk1:Ak1.dk.left<0:=by rw [←hAk1];exact hlk1
 have hlimk1:LimW wk1.abs:=by rw [hak1];exact hlim.step (of_decide_eq_true (hsm.2 i hil))
 have hwzk1:wk1.z=sizeZ u:=(congrArg WPg.z hak1).trans (step_z.trans hwz);refine ⟨trivial,?_⟩;refine .g 7 true rfl 63 trivial (fun _=>.mvU)<|.g 8 true rfl 71 trivial (fun _=>.ex)<|.g 9 true rfl 72 trivial (fun _=>.ex)<|.g 10 true rfl 73 trivial (fun _=>.ex)<|.o1 11<|.ur' true rfl (.stW (vs:=[.int .i64 (wk1.z:Int),.slice wk1.sa wk1.sl.length wk1.sc,.slice wk1.na wk1.nl.length wk1.nc,.bool wk1.i]) T.sz51 ok.n1 (oneL rfl)) ?_;rintro η10 ⟨ok,cg⟩;refine ⟨trivial,?_⟩;refine .e ?_;refine .seq<|.seq<|.r<|.z (.fa T.fd51_3)<|.z (.ldx T.ag4 ok.m0)<|.nil ?_;refine .cond (fun C3=>?_) (fun C3=>?_)
 ·
  refine .exit<|hK1 _ _<|.r<|.z .mvI<|.z (.addI (b:=1))<|.z .asI<|.nil ?_;refine .end<|hJ0 _ _ _ ⟨i+1,Fk1,Ak1,Ek1,wk1,⟨rfl,rfl,rfl,rfl,rfl,trivial⟩,(ok.n1).k2.f2.f1.e2,by omega,by omega,hrelk1,hlfk1,hlimk1,hwzk1,rfl⟩ (by omega)
 refine .skip<|.seq<|?_;have hinw:wk1.i=false:=by simpa using C3
 have RQ:RL Ak1 wk1.abs:=⟨hrelk1,hlfk1⟩;have hcl:=RQ.clean hinw;have PQ:=RQ.pl;have hsl:wk1.abs.sure.length≤40:=hlimk1.s;have hpgs:=hrelk1.R.pg.1;rw [show Ak1.size=sizeZ u from hrelk1.z.trans hwzk1] at hpgs;have hfl:wk1.abs.sure.flatten.length≤1048576:=by rw [flat_lenZ hpgs.len];exact Nat.le_trans (Nat.mul_le_mul hsl hzb.2) (by decide)
 obtain ⟨hsJ,hsM,kr,hrd,hkr⟩:=clean_q hcl hfl;obtain ⟨hb0,hb1,hc0,hc1,hRE⟩:=RQ.empty hinw;refine .r<|.z .mvP<|.k 78 .func ((dgsize_any (d:=dnd1) (F:=Fk1) (D:=Ak1.dk) (n:=([116,111,109,101,46,98,97,99,107]:List UInt8)) (Hp.loc0 (bg_dgo (ok.n1)))).mono fun _ _ q=>(by rw [show sizeN Ak1.dk ([116,111,109,101,46,98,97,99,107]:List UInt8)=((sizeN Ak1.dk nJ).1,false) from Prod.ext rfl hsJ] at q;exact q:_=(Value.tuple #[.int .i64 (((sizeN Ak1.dk nJ).1:Nat):Int),.bool false])∧_))<|.z .mvU<|.z .ex<|.z .ex<|.z .asI<|.z .asB<|.nil ?_;refine .seq<|.r<|.z .mvP<|.k 83 .func ((dgsize_any (d:=dnd1) (F:=Fk1) (D:=Ak1.dk) (n:=([116,111,109,101,46,109,97,114,107]:List UInt8)) (Hp.loc0 (bg_dgo (ok.n1)))).mono fun _ _ q=>(by rw [show sizeN Ak1.dk ([116,111,109,101,46,109,97,114,107]:List UInt8)=((sizeN Ak1.dk nM).1,false) from Prod.ext rfl hsM] at q;exact q:_=(Value.tuple #[.int .i64 (((sizeN Ak1.dk nM).1:Nat):Int),.bool false])∧_))<|.z .mvU<|.z .ex<|.z .ex<|.z .asI<|.z .asB<|.nil ?_;refine .seq<|.r<|.z .mvP<|.c' 88 .func (dgread_any (d:=dnd1) (F:=Fk1) (D:=Ak1.dk) (n:=([116,111,109,101]:List UInt8)) (y:=0) (z:=1048576) (Hp.loc0 (bg_dgo (ok.n1))) PQ.ok (by omega) (by omega)) ?_;rintro _ η11 ⟨xrd1,rfl,own⟩;rw [show readN Ak1.dk ([116,111,109,101]:List UInt8) 0 1048576=((pgs wk1.sl).flatten,kr) from hrd] at own⊢;replace own:Own _ _ 1 5 xrd1 ((pgs wk1.sl).flatten.map bv):=own;obtain ⟨ard1,crd1,rfl⟩:=own.formB;have ok:=ok.own own;refine .z .mvU<|.z .ex<|.z .ex<|.z .asS<|.z .asI<|.nil ?_;refine .seq<|.seq<|.r<|.z .mvB<|.z .mvB<|.z .mvB<|.z .pkf<|.z .mvB<|.z .mvI<|.z .neq<|.z .mvB<|.sd (fun G98=>?_) (fun G98=>?_)
 ·
  refine .z .mvI<|.z .neq<|.z .mvB<|.sd (fun G101=>?_) (fun G101=>?_)
  ·
   exfalso;rcases hkr with h9 | ⟨h9,_⟩<;>omega
  refine .z (.fa T.fd51_1)<|.z (.ldx T.ag26 ok.m1)<|.z (.len T.el26)<|.z .gtr<|.z .pkf<|.z .pkt<|.z .pkf<|.z .mvB<|.sd (fun G109=>?_) (fun G109=>?_)
  ·
   exfalso;have h8:=flat_lenZ hpgs.len;have h7:wk1.abs.sure.length=wk1.sl.length:=pgs_len;rcases hkr with h9 | ⟨_,h9⟩
   ·omega
   ·rw [h9] at h8;rcases Nat.mul_eq_zero.1 h8.symm with h6 | h6<;>omega
  refine .z .mvS<|.z (.fa T.fd51_1)<|.z (.ldx T.ag26 ok.m1)<|.c' 113 .func (join_any (x:=(wk1.sa,wk1.sl.length,wk1.sc)) (PgB.rows (show DocP _ _ _ from ok.r0).s) (Nat.le_trans hfl (by decide))) ?_;rintro _ η12 own;obtain ⟨ya1,yc1,rfl⟩:=own.formB;have ok:=ok.own own;refine .k 114 .func (same_any (a:=ard1) (c:=crd1) (l:=(pgs wk1.sl).flatten) (b:=ya1) (d:=yc1) (l2:=(pgs wk1.sl).flatten) (RdL.ofCapB (v:=(ard1,(pgs wk1.sl).flatten.length,crd1)) (l:=((pgs wk1.sl).flatten)) ok.m1) (RdL.ofCapB (v:=(ya1,(pgs wk1.sl).flatten.length,yc1)) (l:=((pgs wk1.sl).flatten)) ok.m0))<|.z .notd<|.z .pkf<|.nil ?_;refine .cd (fun C4=>?_) (fun C4=>?_)
  ·
   exact absurd rfl C4
  refine .skip<|.seq<|.r<|.z .mvP<|.k 118 .func (dgchanges_any (d:=dnd1) (F:=Fk1) (D:=Ak1.dk) (Hp.loc0 (bg_dgo (ok.n3))))<|.z .asI<|.nil ?_;refine .seq<|.seq<|.r<|.z .mvP<|.c' 120 .func (gbbegin_any (p:=po1) (d:=dnd1) (F:=Fk1) (A:=Ak1) (ok.n3).loc0 (by omega)) ?_;rintro _ η13 ⟨Fg1,rfl,q⟩;have Pg1:=bg_pl (ok.n3).m0;have ok:=(ok.n3).lift1 q;obtain ⟨Ag1,hAg1⟩:∃x:Bk,(beginB Ak1).1=x:=⟨_,rfl⟩;rw [hAg1] at ok;have hcg1:Ag1.dk.chg≤Ak1.dk.chg+1200000:=by rw [←hAg1];exact (by rw [Pg1.begin.2];omega)
  have hb1q:=hb1;rw [hAg1] at hb1q hc0;refine .z .neq<|.z .mvB<|.sd (fun G122=>?_) (fun G122=>?_)
  ·
   exact absurd (by rw [hb0];rfl) G122
  refine .z .mvP<|.c' 124 .func (gbcommit_any (p:=po1) (d:=dnd1) (F:=Fg1) (A:=Ag1) (ok).loc0 (by omega)) ?_;rintro _ η14 ⟨Fg2,rfl,q⟩;have Pg2:=bg_pl (ok).m0;have ok:=(ok).lift1 q;obtain ⟨Ag2,hAg2⟩:∃x:Bk,(commitB Ag1).1=x:=⟨_,rfl⟩;rw [hAg2] at ok;have hcg2:Ag2.dk.chg≤Ag1.dk.chg+1200000:=by rw [←hAg2];exact (by have:=Pg2.commit.2;omega)
  have hREq:=hRE;rw [hAg1,hAg2] at hREq;have hrelE:=hREq.R;have hlfE:=hREq.l;have hdkE:Ag2.dk=Ak1.dk:=by rw [←hAg2,←hAg1];exact hc1
  refine .z .neq<|.z .mvB<|.sd (fun G126=>?_) (fun G126=>?_)
  ·
   exact absurd (by rw [hc0];rfl) G126
  refine .y<|.y<|.y<|.y<|.z .pkf<|.z .pkf<|.nil ?_;refine .cf<|.skip<|.seq<|.r<|.z .mvP<|.k 134 .func ((gbin_any (p:=po1) (d:=dnd1) (F:=Fg2) (A:=Ag2) ok.m0).mono fun _ _ q=>(by rw [hrelE.br,show Ag2.in_=false from hrelE.in_.trans hinw] at q;exact q:_=(.bool false:Value)∧_))<|.z .mvB<|.y<|.y<|.y<|.z .pkf<|.z .mvB<|.z .mvP<|.k 142 .func (dgchanges_any (d:=dnd1) (F:=Fg2) (D:=Ag2.dk) (Hp.loc0 (bg_dgo (ok))))<|.z .mvI<|.z .neq<|.z .pkf<|.nil ?_;refine .cd (fun C6=>?_) (fun C6=>?_)
  ·
   exact absurd (congrArg Dk.chg hdkE) C6
  refine .skip<|.end<|hK1 _ _<|.r<|.z .mvI<|.z (.addI (b:=1))<|.z .asI<|.nil ?_;refine .end<|hJ0 _ _ _ ⟨i+1,Fg2,Ag2,Ek1,wk1,⟨rfl,rfl,rfl,rfl,rfl,trivial⟩,(ok.n3.n1).k2.f2.f1.e2,by omega,by omega,hrelE,hlfE,hlimk1,hwzk1,rfl⟩ (by omega)
 refine .y<|.y<|.y<|.y<|.y<|.y<|.y<|.y<|.z .pkf<|.z .pkf<|.z .mvB<|.z .mvS<|.z (.fa T.fd51_1)<|.z (.ldx T.ag26 ok.m1)<|.c' 113 .func (join_any (x:=(wk1.sa,wk1.sl.length,wk1.sc)) (PgB.rows (show DocP _ _ _ from ok.r0).s) (Nat.le_trans hfl (by decide))) ?_;rintro _ η15 own;obtain ⟨ya2,yc2,rfl⟩:=own.formB;have ok:=ok.own own;refine .k 114 .func (same_any (a:=ard1) (c:=crd1) (l:=(pgs wk1.sl).flatten) (b:=ya2) (d:=yc2) (l2:=(pgs wk1.sl).flatten) (RdL.ofCapB (v:=(ard1,(pgs wk1.sl).flatten.length,crd1)) (l:=((pgs wk1.sl).flatten)) ok.m1) (RdL.ofCapB (v:=(ya2,(pgs wk1.sl).flatten.length,yc2)) (l:=((pgs wk1.sl).flatten)) ok.m0))<|.z .notd<|.z .pkf<|.nil ?_;refine .cd (fun C4=>?_) (fun C4=>?_)
 ·
  exact absurd rfl C4
 refine .skip<|.seq<|.r<|.z .mvP<|.k 118 .func (dgchanges_any (d:=dnd1) (F:=Fk1) (D:=Ak1.dk) (Hp.loc0 (bg_dgo (ok.n3))))<|.z .asI<|.nil ?_;refine .seq<|.seq<|.r<|.z .mvP<|.c' 120 .func (gbbegin_any (p:=po1) (d:=dnd1) (F:=Fk1) (A:=Ak1) (ok.n3).loc0 (by omega)) ?_;rintro _ η16 ⟨Fg3,rfl,q⟩;have Pg3:=bg_pl (ok.n3).m0;have ok:=(ok.n3).lift1 q;obtain ⟨Ag3,hAg3⟩:∃x:Bk,(beginB Ak1).1=x:=⟨_,rfl⟩;rw [hAg3] at ok;have hcg3:Ag3.dk.chg≤Ak1.dk.chg+1200000:=by rw [←hAg3];exact (by rw [Pg3.begin.2];omega)
 have hb1q:=hb1;rw [hAg3] at hb1q hc0;refine .z .neq<|.z .mvB<|.sd (fun G122=>?_) (fun G122=>?_)
 ·
  exact absurd (by rw [hb0];rfl) G122
 refine .z .mvP<|.c' 124 .func (gbcommit_any (p:=po1) (d:=dnd1) (F:=Fg3) (A:=Ag3) (ok).loc0 (by omega)) ?_;rintro _ η17 ⟨Fg4,rfl,q⟩;have Pg4:=bg_pl (ok).m0;have ok:=(ok).lift1 q;obtain ⟨Ag4,hAg4⟩:∃x:Bk,(commitB Ag3).1=x:=⟨_,rfl⟩;rw [hAg4] at ok;have hcg4:Ag4.dk.chg≤Ag3.dk.chg+1200000:=by rw [←hAg4];exact (by have:=Pg4.commit.2;omega)
 have hREq:=hRE;rw [hAg3,hAg4] at hREq;have hrelE:=hREq.R;have hlfE:=hREq.l;have hdkE:Ag4.dk=Ak1.dk:=by rw [←hAg4,←hAg3];exact hc1
 refine .z .neq<|.z .mvB<|.sd (fun G126=>?_) (fun G126=>?_)
 ·
  exact absurd (by rw [hc0];rfl) G126
 refine .y<|.y<|.y<|.y<|.z .pkf<|.z .pkf<|.nil ?_;refine .cf<|.skip<|.seq<|.r<|.z .mvP<|.k 134 .func ((gbin_any (p:=po1) (d:=dnd1) (F:=Fg4) (A:=Ag4) ok.m0).mono fun _ _ q=>(by rw [hrelE.br,show Ag4.in_=false from hrelE.in_.trans hinw] at q;exact q:_=(.bool false:Value)∧_))<|.z .mvB<|.y<|.y<|.y<|.z .pkf<|.z .mvB<|.z .mvP<|.k 142 .func (dgchanges_any (d:=dnd1) (F:=Fg4) (D:=Ag4.dk) (Hp.loc0 (bg_dgo (ok))))<|.z .mvI<|.z .neq<|.z .pkf<|.nil ?_;refine .cd (fun C6=>?_) (fun C6=>?_)
 ·
  exact absurd (congrArg Dk.chg hdkE) C6
 refine .skip<|.end<|hK1 _ _<|.r<|.z .mvI<|.z (.addI (b:=1))<|.z .asI<|.nil ?_;refine .end<|hJ0 _ _ _ ⟨i+1,Fg4,Ag4,Ek1,wk1,⟨rfl,rfl,rfl,rfl,rfl,trivial⟩,(ok.n3.n1).k2.f2.f1.e2,by omega,by omega,hrelE,hlfE,hlimk1,hwzk1,rfl⟩ (by omega)
theorem bquiet_row {h:Heap} {a:Option Addr} {n c:Nat} {l:List ROp6} {x y:UInt8} (hl:RwB 6 ROp6.cells ROp6.sb h any_ (a,n,c) l∧OpsOk6 l):HC Tryz.prog 6 #[.agg #[bv x,bv y],.slice a n c] h (fun v h'=>v=.bool true∧Ext h h'):=by
 obtain ⟨hl,hs⟩:=hl;obtain rfl:n=l.length:=hl.n;exact bquiet_walk hl hs x.toNat_lt y.toNat_lt
open Go.ChangeShapes Go.WideShapes Go.ChangeAt Go.RowKit
theorem backQuiet_lifted (os:Os) (started:os.Started) (H:Type) (enc:TypeId × Value→H) :
  ReturnsInHanded {} Tryz.checked os 6 .any (Rows.backQuietSpec.pre6 enc Tryz.prog Tryz.f6 Rows.backQuietRow.domain false) (Rows.backQuietSpec.post enc Tryz.prog Tryz.f6 false true false false):=by
 refine returnsInHanded_of_change (C:=Tryz.checked) own_knob started (by kernel_rfl) Tryz.func6
  (ChangeSpec.witness6 (enc:=enc) (C:=Tryz.checked) false ⟨#[],#[.agg #[.int .u8 0,.int .u8 0],.slice none 0 0],[]⟩ 8 (by kernel_rfl) (by kernel_rfl) (by kernel_rfl) (by kernel_rfl)) ?_
 intro W base args ds gs before hval0 hW hcnd _;have hval:∀(j:Nat) t v,Tryz.f6.params[j]? = some t→args[j]? = some v→Value.okWide Tryz.prog W .any base t v:=hval0;have hW':=hW;obtain ⟨p,q,hA0,hV,rfl,hfz,hnd⟩:=hW;have hA:DataW.TrodAll enc Tryz.prog W 0 (fun _=>true) true Tryz.f6.params.toList args.toList ds p:=hA0;rw [Tryz.params6] at hA hval;obtain ⟨v0,vs0,d0,ds0,p0,q0,hargs,rfl,rfl,h0,r0⟩:=trodAll_cons hA;obtain ⟨v1,vs1,d1,ds1,p1,q1,rfl,rfl,rfl,h1,r1⟩:=trodAll_cons r0;obtain ⟨rfl,rfl,rfl⟩:=trodAll_nil r1;obtain rfl:args = #[v0,v1]:=by cases args;simp_all
 obtain ⟨cs0,rfl,_⟩:=okWide_array Tryz.underlying64 (hval 0 64 v0 rfl rfl);obtain ⟨l0,hy0,hl0⟩:=(Opn.arrU8 Tryz.underlying64 Tryz.underlying5 (by kernel_rfl) (by kernel_rfl)).arg h0;obtain ⟨x0a,x0b,rfl⟩:=Go.HL.len_2 hl0;obtain ⟨ys0⟩:=cs0;obtain rfl:ys0=_:=hy0;obtain ⟨a1,n1,c1,rfl⟩:=okWide_slice Tryz.underlying46 (hval 1 46 v1 rfl rfl);obtain ⟨l1,y1,hy1,hl1⟩:=opn_ops13.arg h1;obtain rfl:=sv_cells hy1;refine ((bquiet_row (x:=x0a) (y:=x0b) hl1).2 _ W (At.self W)).mono fun e W' ⟨v,h',he,at',hv,hx⟩=>?_;subst he;subst hv;exact ⟨_,rfl,law_post laid_out hW' rfl (by kernel_rfl) rfl Tryz.underlying4 rfl at' hx⟩
theorem backQuiet_holds:Rows.BackQuietSaid:=
 OpenClaim.holds_of_wide 6 Tryz.f6 rfl rfl rfl rfl rfl rfl rfl ⟨rfl,rfl,rfl,rfl,rfl⟩ rfl rfl rfl rfl rfl (by kernel_rfl) Tryz.func6 (by kernel_rfl)
  (of_decide_eq_true (by kernel_rfl)) (by unfold Func.isWrapper;first | (rw [if_pos (by decide +kernel)];kernel_rfl) | (rw [if_neg (by decide +kernel)];exact ⟨rfl,rfl⟩))
  (fun os started H enc _=>backQuiet_lifted os started H enc)
end Go.Proofs.YtpeaicddbnghfaaGreat
