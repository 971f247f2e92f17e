/- A node is joined with the one beside it. Conditions: shorter ways are settled. A way is settled. Conditions: the tree but for its last node stands; there is room. Entries of a tree: keys with their bytes, kept in cells and chains. Conditions: those that each fact names. A leaf's cells turn, in plain terms. Conditions: those that each fact names. A leaf's cells turn: Put's and Drop's closures. Conditions: what the chains do is known. A tree's Put and Drop. Conditions: the tree stands; there is room. A tree is made, a key is put or dropped. Conditions: the tree stands; there is room. A node is read by a walk; a node's child. Conditions: the page is there. The least entry not below a key, the greatest one not above it, in plain terms. Conditions: those that each fact names. The least entry not below a key, the greatest one not above it. Conditions: the tree stands. A cursor's moves. Conditions: the tree stands. -/
import Derived.Test.YtfegfklipbnhjaaGreatPkZ9
set_option maxRecDepth 100000
set_option maxHeartbeats 2000000
set_option linter.all false
namespace Go.Proofs.YtfegfklipbnhjaaGreat
open Go Go.HL
theorem iclone_any {h:Heap} {F E:Nat->Prop} {a:Option Addr} {c:Nat} {l:List Int} (hl:RdL h F E (a,l.length,c) l) (hN:l.length<=1000000) :
  Hc 195 #[.slice a l.length c] h (fun v h'=>Own h h' 1 3 v (l.map iv)):=by
 have hlm:=hl.m;have hlc:=hl.c;simp only at hlm hlc;have ok:=(Hp.nil h none_).arg hl;refine HC.go Tryz.func195 8 ?_;refine .s<|.z .asS<|.nil<|.seq<|.s<|.z .mvS<|.z (.sEq T.el93)<|.nil<|.cond (fun C0=>?_) (fun C0=>?_)
 ·
  obtain rfl:=RdL.isNone hl C0;refine .s<|.z .asS<|.nil<|.ret ⟨.N,Res.one rfl rfl,Own.nil ok.chg _ _⟩
 refine .skip<|.s<|.a' 5 (.lit [] (cs:=[]) T.el93 T.sz3 T.zr3 ok trivial) ?_;rintro _ U1 ⟨pb1,rfl,ok,xe⟩;refine .z .mvS<|.a' 7 (.app (news:=l.map iv) T.el93 T.sz3 T.by3 T.zr3 ok (ok.r0).ints iv_all (by simp;omega)) ?_;rintro _ U2 ⟨ya1,yn1,yc1,rfl,ok,ap⟩;refine .z .asS<|.nil<|.ret ⟨.slice ya1 yn1 yc1,Res.one rfl rfl,ok.toOwn⟩
theorem tjoin_any {G:Pgr} {so B z m:Nat} {root:Int} {Y:List Int} {esT:List Cel} (hset:SetC G so B z root Y esT m) {h:Heap} {D F E:Nat->Prop} {w:St} {Q:Trk} {X:List Int} {d:Nat} {up ss:List Stp} {u p:Stp} {lo hi:Option Int} {L R es:List Cel} {pc pb:List Int} {a:Option Addr} {c:Nat} (ok:Hp h D [accI 154 (a,m+2,c) (none,0,0) E (ss++[p]++[u]) [],dsI G so F w] [] h) (hss:ss=up.reverse) (hm:up.length=m) (hst:Stl w Q X Y root d (p::up) u.no u.n lo hi L R es pc pb) (hz0:w.z=z) (hes:L++(es++R)=esT) (hN:w.now.length<=B) (hX:X.length+8*(m+2)<=B) (hBB:B*z<=16777216) (hB1:B<=1000000) (hm14:m<=14) (hf:FitNd u.n w.z) :
  Hc 149 #[.P so,.slice a (m+2) c] h (fun v h'=>∃F' w' Q',v=.J 0/\Fin_ w w' Q' Y root esT/\w'.now.length<=B/\Hp h D [dsI G so F' w'] [] h'):=by
 obtain ⟨wb,wo,rfl,_⟩:=(Acc.rd ok.m0).pos (by simp);have hown:=ok.ownR;have ok:=ok.frz;have ok:=ok.d0 (rdI (blkC (sv (some ⟨wb,wo,none⟩,m+2,c))) E (some ⟨wb,wo,none⟩,m+2,c) (ss++[p]++[u])) (Acc.rd ok.r0) (fun _ h=>h.elim .inl (fun h=>.inr (.inr h)));have hsm:ss.length=m:=by rw [hss,List.length_reverse];exact hm
 have hlc:=ok.r0.c;simp only at hlc;have hz:=hst.own.fr.z;have hzc:=hst.own.fr.zc;obtain ⟨xu,cu,hvu,hwu⟩:=RdL.stpL (ss:=ss++[p]) (q:=m+1) ok.r0 (by simp [hsm]);have ok:=ok.d0 (rdI E E (xu,u.n.cells.length,cu) u.n.cells) hwu (fun _ h=>.inr (h.elim id id));have ok:=ok.d1 (celI wb (wo+(m+1)*5) [.J u.no,.J (u.at_:Int),.J (u.n.kind:Int),.slice xu u.n.cells.length cu,.J (u.n.right:Int)]) hvu (fun j e=>by subst e;exact .inl ⟨_,_,_,rfl⟩);obtain ⟨xp,cp,hvp,hwp⟩:=RdL.stpP (ss:=ss) ok.r2 hsm;have ok:=ok.d2 (rdI E E (xp,p.n.cells.length,cp) p.n.cells) hwp (fun _ h=>.inr (h.elim id id));have ok:=ok.d3 (celI wb (wo+m*5) [.J p.no,.J (p.at_:Int),.J (p.n.kind:Int),.slice xp p.n.cells.length cp,.J (p.n.right:Int)]) hvp (fun j e=>by subst e;exact .inl ⟨_,_,_,rfl⟩);have ok:=ok.sub (R':=[celI wb (wo+m*5) [.J p.no,.J (p.at_:Int),.J (p.n.kind:Int),.slice xp p.n.cells.length cp,.J (p.n.right:Int)],rdI E E (xp,p.n.cells.length,cp) p.n.cells,celI wb (wo+(m+1)*5) [.J u.no,.J (u.at_:Int),.J (u.n.kind:Int),.slice xu u.n.cells.length cu,.J (u.n.right:Int)],rdI E E (xu,u.n.cells.length,cu) u.n.cells,accI 154 (some ⟨wb,wo,none⟩,m+2,c) (none,0,0) E (ss++[p]++[u]) []]) (by simp);obtain ⟨ka1,kb,ya,yb,k1,k2,nA,nB,n',y,Z,k',hcs,hkne,hkk,hyk,hkl,hnk',hkX,hmne,hmk12,hmk,hpz,hsY,hlo,hokp,hftp,hyi,hoA,hoB,hABk,hBk,hJne,hsib⟩:=hst.sib hf;have hk12:u.n.kind=1\/u.n.kind=2:=by rw [<-hmk];exact hmk12
 have hAk:nA.kind=u.n.kind:=by rcases hcs with ⟨_,_,_,_,e,_⟩ | ⟨_,_,_,_,e,_⟩<;>rw [e];exact hmk
 have hAe:(⟨u.n.kind,nA.cells,nA.right⟩:Nod)=nA:=by rw [<-hAk]
 have hBe:(⟨u.n.kind,nB.cells,nB.right⟩:Nod)=nB:=by rw [<-hAk,hABk]
 obtain ⟨J,hJ⟩:∃J,J=joinN nA y nB:=⟨_,rfl⟩;rw [<-hJ] at hlo hJne hsib;have hJk:J.kind=u.n.kind:=by rw [hJ];exact hAk
 have hJr:J.right=nB.right:=by rw [hJ];rfl
 have hrg:=hst.own.rg hkX;have hfw:=hst.own.fr.few;have hftn:=(decNd_some hnk').2.1;rw [hst.own.plen hkX] at hftn;have htn:=tks_n hftn;have htu:=tks_n (show FitNd u.n w.z from hf);have htp:=tks_n hftp;have hAl:nA.cells.length<=4096:=by rcases hcs with ⟨_,_,_,_,e,_⟩ | ⟨_,_,_,_,e,_⟩<;>rw [e]<;>omega
 have hBl:nB.cells.length<=4096:=by rcases hcs with ⟨_,_,_,_,_,e⟩ | ⟨_,_,_,_,_,e⟩<;>rw [e]<;>omega
 have hrd:rdT w k' (m+2)=some n':=rdT_of (by omega) hrg.1 (by rw [hst.own.fr.pgs];exact hrg.2.1) (by rw [hst.own.fr.pgs];exact hnk') ⟨hmk12,by have:=kC.2 hmne;omega⟩;have hkn:(kidsN p.n).length=p.n.cells.length+1:=kidsN_len;have hk5:=congrArg List.length hkk;simp only [qA,qV,qB] at hk5;have hg1:(kidsN p.n)[ka1.length]? = some k1:=by rw [hkk];simp
 obtain ⟨hgl1,hg1⟩:=List.getElem?_eq_some_iff.1 hg1;have hg2:(kidsN p.n)[ka1.length+1]? = some k2:=by rw [hkk];simp
 obtain ⟨hgl2,hg2⟩:=List.getElem?_eq_some_iff.1 hg2;have hgy:(keysN p.n)[ka1.length]? = some y:=by rw [hyk,hkl];simp
 have hgy:p.n.cells[ka1.length]?.map Cel.key=some y:=by rw [<-List.getElem?_map];exact hgy
 have hgyl:ka1.length<p.n.cells.length:=by omega
 rw [List.getElem?_eq_getElem hgyl] at hgy;injection hgy with hgy;refine HC.go Tryz.func149 129 ?_;refine .s<|.z .asI<|.nil<|.s<|.z .mvS<|.z (.len T.el150)<|.z .sub<|?_;rw [show (((m+2:Nat):Int)-1)=((m+1:Nat):Int) from by omega];refine .z .asI<|.nil<|.seq<|.join (fun s hh=>∃(b6:Nat) (b7:Nat),Has s [(0,.P so),(1,.slice (some ⟨wb,wo,none⟩) (m+2) c),(5,.J ((m+1:Nat):Int)),(6,.P b6),(7,.P b7)]/\Hp h D [boxI b6 154 [.J u.no,.J (u.at_:Int),.J (u.n.kind:Int),.slice xu u.n.cells.length cu,.J (u.n.right:Int)],boxI b7 154 [.J p.no,.J (p.at_:Int),.J (p.n.kind:Int),.slice xp p.n.cells.length cp,.J (p.n.right:Int)],dsI G so F w] [rdI E E (xp,p.n.cells.length,cp) p.n.cells,rdI E E (xu,u.n.cells.length,cu) u.n.cells,accI 154 (some ⟨wb,wo,none⟩,m+2,c) (none,0,0) E (ss++[p]++[u]) []] hh) ?_ ?_
 ·
  refine .a 12 (fun fl hh=>cond fl True (Hp h D [dsI G so F w] [celI wb (wo+m*5) [.J p.no,.J (p.at_:Int),.J (p.n.kind:Int),.slice xp p.n.cells.length cp,.J (p.n.right:Int)],rdI E E (xp,p.n.cells.length,cp) p.n.cells,celI wb (wo+(m+1)*5) [.J u.no,.J (u.at_:Int),.J (u.n.kind:Int),.slice xu u.n.cells.length cu,.J (u.n.right:Int)],rdI E E (xu,u.n.cells.length,cu) u.n.cells,accI 154 (some ⟨wb,wo,none⟩,m+2,c) (none,0,0) E (ss++[p]++[u]) []] hh)) mixed ?_;have hS:=ok;refine .g 0 false rfl 21 hS (fun _=>.mvS)<|.g 1 false rfl 22 hS (fun _=>.mvI)<|.g 2 false rfl 23 hS (fun _=>.ix (m+1) T.el150 T.sz154)<|.l 3 false rfl 24 hS (fun _ hS=>.ldc (vs:=[.J u.no,.J (u.at_:Int),.J (u.n.kind:Int),.slice xu u.n.cells.length cu,.J (u.n.right:Int)]) T.ag154 hS.r2 T.sz154)<|.g 4 false rfl 25 hS (fun _=>.mvS)<|.g 5 false rfl 26 hS (fun _=>.mvI)<|.g 6 false rfl 27 hS (fun _=>.sub)<|?_;rw [show (((m+1:Nat):Int)-1)=(m:Int) from by omega];refine .g 7 false rfl 28 hS (fun _=>.ix m T.el150 T.sz154)<|.l 8 false rfl 29 hS (fun _ hS=>.ldc (vs:=[.J p.no,.J (p.at_:Int),.J (p.n.kind:Int),.slice xp p.n.cells.length cp,.J (p.n.right:Int)]) T.ag154 hS.r0 T.sz154)<|.o2 9 10 ?_ ?_
  ·
   refine .a' false rfl 6 (.alA T.zr154 ok) ?_;rintro _ U1 ⟨pb1,rfl,ok,xe⟩;refine ⟨ok.n1.k1,?_⟩;have hS:=ok.n1.k1;refine .o1 10<|.a' false rfl 7 (.alA T.zr154 ok) ?_;rintro _ U2 ⟨pb2,rfl,ok,xe⟩;refine ⟨ok.n2.k1,?_⟩;have hS:=ok.n2.k1;refine .o1 11<|.ur' false rfl (.stW (vs:=[.J u.no,.J (u.at_:Int),.J (u.n.kind:Int),.slice xu u.n.cells.length cu,.J (u.n.right:Int)]) T.sz154 ok.n1 (oneL rfl)) ?_;rintro U3 ⟨ok,cg⟩;refine ⟨ok.n2.k1,?_⟩;have hS:=ok.n2.k1;refine .o1 12<|.ur' true rfl (.stW (vs:=[.J p.no,.J (p.at_:Int),.J (p.n.kind:Int),.slice xp p.n.cells.length cp,.J (p.n.right:Int)]) T.sz154 ok.n1 (oneL rfl)) ?_;rintro U4 ⟨ok,cg⟩;refine ⟨trivial,?_⟩;refine .e ?_;refine .end<|⟨pb1,pb2,⟨rfl,rfl,rfl,rfl,rfl,trivial⟩,ok.n2.n1.n2.f4.f4.f3.e3⟩
  ·
   refine .a' false rfl 7 (.alA T.zr154 ok) ?_;rintro _ U5 ⟨pb3,rfl,ok,xe⟩;refine ⟨ok.n1.k1,?_⟩;have hS:=ok.n1.k1;refine .o1 9<|.a' false rfl 6 (.alA T.zr154 ok) ?_;rintro _ U6 ⟨pb4,rfl,ok,xe⟩;refine ⟨ok.n2.k1,?_⟩;have hS:=ok.n2.k1;refine .o1 11<|.ur' false rfl (.stW (vs:=[.J u.no,.J (u.at_:Int),.J (u.n.kind:Int),.slice xu u.n.cells.length cu,.J (u.n.right:Int)]) T.sz154 ok (oneL rfl)) ?_;rintro U7 ⟨ok,cg⟩;refine ⟨ok.n2.k1,?_⟩;have hS:=ok.n2.k1;refine .o1 12<|.ur' true rfl (.stW (vs:=[.J p.no,.J (p.at_:Int),.J (p.n.kind:Int),.slice xp p.n.cells.length cp,.J (p.n.right:Int)]) T.sz154 ok.n1 (oneL rfl)) ?_;rintro U8 ⟨ok,cg⟩;refine ⟨trivial,?_⟩;refine .e ?_;refine .end<|⟨pb4,pb3,⟨rfl,rfl,rfl,rfl,rfl,trivial⟩,ok.n2.n1.n2.f4.f4.f3.e3⟩
 rintro s U9 ⟨b6,b7,hs,ok⟩;refine .frame hs fun τ=>?_;refine .s<|.z (.fa T.fd154_2)<|.z (.ldc (vs:=[.J (p.n.kind:Int),.slice xp p.n.cells.length cp,.J (p.n.right:Int)]) T.ag116 (at_part (o:=2) (n:=3) ok.m1) T.sz116)<|.c' 32 .func (tkids_any (k:=p.n.kind) (rt:=p.n.right) (a:=xp) (c:=cp) (l:=p.n.cells) ok.r0 (by omega)) ?_;rintro _ U10 ⟨ka,kc,rfl,q⟩;have ok:=(ok.addML q).plC;have hkc:p.n.cells.length+1<=kc:=Cap.le ok.m0;refine .z .asS<|.nil<|.s<|.z (.fa T.fd154_1)<|.z (.ldx T.ag3 ok.m2)<|.z .sub<|.z .max2<|?_;rw [show (max ((p.at_:Int)-1) 0)=(ka1.length:Int) from by rcases hcs with ⟨_,_,_⟩ | ⟨_,_,_⟩<;>omega];refine .z .asI<|.nil<|.s<|.z .mvS<|.z .mvI<|?_;obtain ⟨bb1,oo1,rfl,fb1⟩:=ok.m0.pos (n:=(p.n.cells.length+1)) (by omega);refine .z (.ix1 ka1.length T.el93 T.sz3)<|.z (.ld T.ag3 (Cap.i64R (l:=(kidsN p.n)) ok.m0 (i:=ka1.length) (by omega)))<|?_;rw [hg1];refine .z .asI<|.nil<|.seq<|.s<|.z .mvI<|.z (.fa T.fd154_0)<|.z (.ldx T.ag3 ok.m1)<|.z .eql<|.nil<|.join (fun s hh=>∃(bs:Int),Has s [(0,.P so),(1,.slice (some ⟨wb,wo,none⟩) (m+2) c),(5,.J ((m+1:Nat):Int)),(6,.P b6),(7,.P b7),(8,.slice (some ⟨bb1,oo1,none⟩) (p.n.cells.length+1) kc),(9,.J (ka1.length:Int)),(10,.J bs)]/\Hp h D [capI 1 3 (some ⟨bb1,oo1,none⟩,(p.n.cells.length+1),kc) ((kidsN p.n).map iv),boxI b6 154 [.J u.no,.J (u.at_:Int),.J (u.n.kind:Int),.slice xu u.n.cells.length cu,.J (u.n.right:Int)],boxI b7 154 [.J p.no,.J (p.at_:Int),.J (p.n.kind:Int),.slice xp p.n.cells.length cp,.J (p.n.right:Int)],dsI G so F w] [rdI E E (xp,p.n.cells.length,cp) p.n.cells,rdI E E (xu,u.n.cells.length,cu) u.n.cells,accI 154 (some ⟨wb,wo,none⟩,m+2,c) (none,0,0) E (ss++[p]++[u]) []] hh/\bs=k') ?_ ?_
 ·
  refine .cd (fun C0=>?_) (fun C0=>?_)
  ·
   refine .r<|.z .mvS<|.z .mvI<|.z (.addI (b:=1))<|.z (.ix1 (ka1.length+1) T.el93 T.sz3)<|.z (.ld T.ag3 (Cap.i64R (l:=(kidsN p.n)) ok.m0 (i:=(ka1.length+1)) (by omega)))<|?_;rw [hg2];refine .z .asI<|.nil<|.end<|⟨k2,⟨rfl,rfl,rfl,rfl,rfl,rfl,rfl,rfl,trivial⟩,ok.n3.n3.n3.n3,by rcases hcs with ⟨_,_,e1,e2,_⟩ | ⟨_,_,e1,e2,_⟩<;>omega⟩
  refine .skip<|.end<|⟨k1,⟨rfl,rfl,rfl,rfl,rfl,rfl,rfl,rfl,trivial⟩,ok.n3.n3.n3.n3,by rcases hcs with ⟨_,_,e1,e2,_⟩ | ⟨_,_,e1,e2,_⟩<;>omega⟩
 rintro s U11 ⟨bs,hs,ok,hbs⟩;refine .frame hs fun τ=>?_;obtain rfl:=hbs.symm;refine .s<|.z .mvP<|.z .mvI<|.z .mvI<|.z (.addI (b:=1))<|?_;rw [show (((m+1)+1:Nat):Int)=((m+2:Nat):Int) from by omega];refine .c' 55 .func (tread_any (G:=G) (w:=w) (no:=k') (deep:=m+2) (ok.n3).loc0 hst.own.pgz ⟨by omega,by omega⟩ (by omega)) ?_;rintro _ U12 (⟨F9,n9,x9,c9,E9,hr9,rfl,q⟩ | ⟨F9,hr9,rfl,q⟩)
 ·
  rw [hrd] at hr9;injection hr9 with hr9;subst hr9;have ok:=((ok.n3).lift2 q).frz;have ok:=ok.d0 (rdI (blkC (sv (x9,n'.cells.length,c9))) E9 (x9,n'.cells.length,c9) n'.cells) (Acc.rd ok.r0) (fun _ h=>h.elim .inl (fun h=>.inr (.inr h)));rw [show (n'.kind:Int)=(u.n.kind:Int) from by rw [hmk]];refine .z .mvU<|.z .ex<|.z .ex<|.a' 11 (.alA T.zr116 ok) ?_;rintro _ U13 ⟨pb5,rfl,ok,xe⟩;refine .ur' (.stW (vs:=[.J (u.n.kind:Int),.slice x9 n'.cells.length c9,.J (n'.right:Int)]) T.sz116 ok (oneL rfl)) ?_;rintro U14 ⟨ok,cg⟩;refine .z .asI<|.nil<|.seq<|.s<|.z .mvI<|.z .neq<|.nil<|.cf<|.skip<|.seq<|.join (fun s hh=>∃(b13:Nat) (b14:Nat),Has s [(0,.P so),(1,.slice (some ⟨wb,wo,none⟩) (m+2) c),(5,.J ((m+1:Nat):Int)),(6,.P b6),(7,.P b7),(8,.slice (some ⟨bb1,oo1,none⟩) (p.n.cells.length+1) kc),(9,.J (ka1.length:Int)),(11,.P pb5),(13,.P b13),(14,.P b14)]/\Hp h D [boxI b13 116 [.J (u.n.kind:Int),.slice x9 n'.cells.length c9,.J (n'.right:Int)],boxI b14 116 [.J (u.n.kind:Int),.slice xu u.n.cells.length cu,.J (u.n.right:Int)],boxI pb5 116 [.J (u.n.kind:Int),.slice x9 n'.cells.length c9,.J (n'.right:Int)],dsI G so F9 w,capI 1 3 (some ⟨bb1,oo1,none⟩,(p.n.cells.length+1),kc) ((kidsN p.n).map iv),boxI b6 154 [.J u.no,.J (u.at_:Int),.J (u.n.kind:Int),.slice xu u.n.cells.length cu,.J (u.n.right:Int)],boxI b7 154 [.J p.no,.J (p.at_:Int),.J (p.n.kind:Int),.slice xp p.n.cells.length cp,.J (p.n.right:Int)]] [rdI (blkC (sv (x9,n'.cells.length,c9))) E9 (x9,n'.cells.length,c9) n'.cells,accI 113 (x9,n'.cells.length,c9) (none,0,0) E9 n'.cells [],rdI E E (xp,p.n.cells.length,cp) p.n.cells,rdI E E (xu,u.n.cells.length,cu) u.n.cells,accI 154 (some ⟨wb,wo,none⟩,m+2,c) (none,0,0) E (ss++[p]++[u]) []] hh) ?_ ?_
  ·
   refine .a 6 (fun fl hh=>cond fl True (Hp h D [boxI pb5 116 [.J (u.n.kind:Int),.slice x9 n'.cells.length c9,.J (n'.right:Int)],dsI G so F9 w,capI 1 3 (some ⟨bb1,oo1,none⟩,(p.n.cells.length+1),kc) ((kidsN p.n).map iv),boxI b6 154 [.J u.no,.J (u.at_:Int),.J (u.n.kind:Int),.slice xu u.n.cells.length cu,.J (u.n.right:Int)],boxI b7 154 [.J p.no,.J (p.at_:Int),.J (p.n.kind:Int),.slice xp p.n.cells.length cp,.J (p.n.right:Int)]] [rdI (blkC (sv (x9,n'.cells.length,c9))) E9 (x9,n'.cells.length,c9) n'.cells,accI 113 (x9,n'.cells.length,c9) (none,0,0) E9 n'.cells [],rdI E E (xp,p.n.cells.length,cp) p.n.cells,rdI E E (xu,u.n.cells.length,cu) u.n.cells,accI 154 (some ⟨wb,wo,none⟩,m+2,c) (none,0,0) E (ss++[p]++[u]) []] hh)) mixed ?_;have hS:=ok;refine .l 0 false rfl 61 hS (fun _ hS=>.ldb T.ag116 hS.m0 T.sz116)<|.g 1 false rfl 62 hS (fun _=>.fa T.fd154_2)<|.l 2 false rfl 63 hS (fun _ hS=>.ldc (vs:=[.J (u.n.kind:Int),.slice xu u.n.cells.length cu,.J (u.n.right:Int)]) T.ag116 (at_part (o:=2) (n:=3) hS.m3) T.sz116)<|.o2 3 4 ?_ ?_
   ·
    refine .a' false rfl 13 (.alA T.zr116 ok) ?_;rintro _ U15 ⟨pb6,rfl,ok,xe⟩;refine ⟨ok.n5.n5.n5.n5.n5.k5,?_⟩;have hS:=ok.n5.n5.n5.n5.n5.k5;refine .o1 4<|.a' false rfl 14 (.alA T.zr116 ok) ?_;rintro _ U16 ⟨pb7,rfl,ok,xe⟩;refine ⟨ok.n6.n6.n6.n6.n6.k5,?_⟩;have hS:=ok.n6.n6.n6.n6.n6.k5;refine .o1 5<|.ur' false rfl (.stW (vs:=[.J (u.n.kind:Int),.slice x9 n'.cells.length c9,.J (n'.right:Int)]) T.sz116 ok.n1 (oneL rfl)) ?_;rintro U17 ⟨ok,cg⟩;refine ⟨ok.n6.n6.n6.n6.n6.k5,?_⟩;have hS:=ok.n6.n6.n6.n6.n6.k5;refine .o1 6<|.ur' true rfl (.stW (vs:=[.J (u.n.kind:Int),.slice xu u.n.cells.length cu,.J (u.n.right:Int)]) T.sz116 ok.n1 (oneL rfl)) ?_;rintro U18 ⟨ok,cg⟩;refine ⟨trivial,?_⟩;refine .e ?_;refine .end<|⟨pb6,pb7,⟨rfl,rfl,rfl,rfl,rfl,rfl,rfl,rfl,rfl,rfl,trivial⟩,ok.n6.n6.n6.n6.n6.n5.n6⟩
   ·
    refine .a' false rfl 14 (.alA T.zr116 ok) ?_;rintro _ U19 ⟨pb8,rfl,ok,xe⟩;refine ⟨ok.n5.n5.n5.n5.n5.k5,?_⟩;have hS:=ok.n5.n5.n5.n5.n5.k5;refine .o1 3<|.a' false rfl 13 (.alA T.zr116 ok) ?_;rintro _ U20 ⟨pb9,rfl,ok,xe⟩;refine ⟨ok.n6.n6.n6.n6.n6.k5,?_⟩;have hS:=ok.n6.n6.n6.n6.n6.k5;refine .o1 5<|.ur' false rfl (.stW (vs:=[.J (u.n.kind:Int),.slice x9 n'.cells.length c9,.J (n'.right:Int)]) T.sz116 ok (oneL rfl)) ?_;rintro U21 ⟨ok,cg⟩;refine ⟨ok.n6.n6.n6.n6.n6.k5,?_⟩;have hS:=ok.n6.n6.n6.n6.n6.k5;refine .o1 6<|.ur' true rfl (.stW (vs:=[.J (u.n.kind:Int),.slice xu u.n.cells.length cu,.J (u.n.right:Int)]) T.sz116 ok.n1 (oneL rfl)) ?_;rintro U22 ⟨ok,cg⟩;refine ⟨trivial,?_⟩;refine .e ?_;refine .end<|⟨pb9,pb8,⟨rfl,rfl,rfl,rfl,rfl,rfl,rfl,rfl,rfl,rfl,trivial⟩,ok.n6.n6.n6.n6.n6.n5.n6⟩
  rintro s U23 ⟨b13,b14,hs,ok⟩;refine .frame hs fun τ=>?_;refine .seq<|.s<|.z (.fa T.fd154_1)<|.z (.ldx T.ag3 ok.m6)<|.z .mvI<|.z .eql<|.nil<|.join (fun s hh=>∃(sa sb:Option Addr) (ca cb:Nat) (FA EA FB EB:Nat->Prop),Has s [(0,.P so),(1,.slice (some ⟨wb,wo,none⟩) (m+2) c),(5,.J ((m+1:Nat):Int)),(6,.P b6),(7,.P b7),(8,.slice (some ⟨bb1,oo1,none⟩) (p.n.cells.length+1) kc),(9,.J (ka1.length:Int)),(13,.P b13),(14,.P b14)]/\Hp h D [boxI b13 116 [.J (u.n.kind:Int),.slice sa nA.cells.length ca,.J (nA.right:Int)],boxI b14 116 [.J (u.n.kind:Int),.slice sb nB.cells.length cb,.J (nB.right:Int)],boxI pb5 116 [.J (u.n.kind:Int),.slice x9 n'.cells.length c9,.J (n'.right:Int)],boxI b7 154 [.J p.no,.J (p.at_:Int),.J (p.n.kind:Int),.slice xp p.n.cells.length cp,.J (p.n.right:Int)],boxI b6 154 [.J u.no,.J (u.at_:Int),.J (u.n.kind:Int),.slice xu u.n.cells.length cu,.J (u.n.right:Int)],capI 1 3 (some ⟨bb1,oo1,none⟩,(p.n.cells.length+1),kc) ((kidsN p.n).map iv),dsI G so F9 w] [rdI FA EA (sa,nA.cells.length,ca) nA.cells,rdI FB EB (sb,nB.cells.length,cb) nB.cells,rdI E E (xp,p.n.cells.length,cp) p.n.cells,rdI E E (xu,u.n.cells.length,cu) u.n.cells,accI 154 (some ⟨wb,wo,none⟩,m+2,c) (none,0,0) E (ss++[p]++[u]) []] hh) ?_ ?_
  ·
   refine .cd (fun C2=>?_) (fun C2=>?_)
   ·
    obtain ⟨eA,eB⟩:nA=u.n/\nB=n':=by rcases hcs with ⟨_,_,_,_,e1,e2⟩ | ⟨_,_,_,_,e1,e2⟩<;>first | exact ⟨e1,e2⟩ | (exfalso;omega)
    refine .a 4 (fun fl hh=>cond fl True (Hp h D [boxI b14 116 [.J (u.n.kind:Int),.slice xu u.n.cells.length cu,.J (u.n.right:Int)],boxI pb5 116 [.J (u.n.kind:Int),.slice x9 n'.cells.length c9,.J (n'.right:Int)],dsI G so F9 w,capI 1 3 (some ⟨bb1,oo1,none⟩,(p.n.cells.length+1),kc) ((kidsN p.n).map iv),boxI b6 154 [.J u.no,.J (u.at_:Int),.J (u.n.kind:Int),.slice xu u.n.cells.length cu,.J (u.n.right:Int)],boxI b7 154 [.J p.no,.J (p.at_:Int),.J (p.n.kind:Int),.slice xp p.n.cells.length cp,.J (p.n.right:Int)]] [rdI (blkC (sv (x9,n'.cells.length,c9))) E9 (x9,n'.cells.length,c9) n'.cells,accI 113 (x9,n'.cells.length,c9) (none,0,0) E9 n'.cells [],rdI E E (xp,p.n.cells.length,cp) p.n.cells,rdI E E (xu,u.n.cells.length,cu) u.n.cells,accI 154 (some ⟨wb,wo,none⟩,m+2,c) (none,0,0) E (ss++[p]++[u]) []] hh)) mixed ?_;have hS:=ok.n6.n6.n6.n6.n6.n6.k6;refine .g 0 false rfl 68 hS (fun _=>.fa T.fd154_2)<|.l 1 false rfl 69 hS (fun _ hS=>.ldc (vs:=[.J (u.n.kind:Int),.slice xu u.n.cells.length cu,.J (u.n.right:Int)]) T.ag116 (at_part (o:=2) (n:=3) hS.m4) T.sz116)<|.l 2 false rfl 70 hS (fun _ hS=>.ldb T.ag116 hS.m1 T.sz116)<|.o1 3<|.ur' false rfl (.stW (vs:=[.J (u.n.kind:Int),.slice xu u.n.cells.length cu,.J (u.n.right:Int)]) T.sz116 ok (oneL rfl)) ?_;rintro U24 ⟨ok,cg⟩;refine ⟨ok.n6.n6.n6.n6.n6.n6.k6,?_⟩;have hS:=ok.n6.n6.n6.n6.n6.n6.k6;refine .o1 4<|.ur' true rfl (.stW (vs:=[.J (u.n.kind:Int),.slice x9 n'.cells.length c9,.J (n'.right:Int)]) T.sz116 ok.n1 (oneL rfl)) ?_;rintro U25 ⟨ok,cg⟩;refine ⟨trivial,?_⟩;refine .e ?_;refine .end<|⟨xu,x9,cu,c9,_,_,_,_,⟨rfl,rfl,rfl,rfl,rfl,rfl,rfl,rfl,rfl,trivial⟩,(by rw [eA,eB];exact (ok.n3.n4.n5.n6.n6.n5.n6.k7).sub (R':=[rdI E E (xu,u.n.cells.length,cu) u.n.cells,rdI (blkC (sv (x9,n'.cells.length,c9))) E9 (x9,n'.cells.length,c9) n'.cells,rdI E E (xp,p.n.cells.length,cp) p.n.cells,rdI E E (xu,u.n.cells.length,cu) u.n.cells,accI 154 (some ⟨wb,wo,none⟩,m+2,c) (none,0,0) E (ss++[p]++[u]) []]) (by simp))⟩
   obtain ⟨eA,eB⟩:nA=n'/\nB=u.n:=by rcases hcs with ⟨_,_,_,_,e1,e2⟩ | ⟨_,_,_,_,e1,e2⟩<;>first | exact ⟨e1,e2⟩ | (exfalso;omega)
   refine .skip<|.end<|⟨x9,xu,c9,cu,_,_,_,_,⟨rfl,rfl,rfl,rfl,rfl,rfl,rfl,rfl,rfl,trivial⟩,(by rw [eA,eB];exact (ok.n3.n4.n5.n6.n6.n6.n6.k7).sub (R':=[rdI (blkC (sv (x9,n'.cells.length,c9))) E9 (x9,n'.cells.length,c9) n'.cells,rdI E E (xu,u.n.cells.length,cu) u.n.cells,rdI E E (xp,p.n.cells.length,cp) p.n.cells,rdI E E (xu,u.n.cells.length,cu) u.n.cells,accI 154 (some ⟨wb,wo,none⟩,m+2,c) (none,0,0) E (ss++[p]++[u]) []]) (by simp))⟩
  rintro s U26 ⟨sa,sb,ca,cb,FA,EA,FB,EB,hs,ok⟩;refine .frame hs fun τ=>?_;refine .seq<|.join (fun s hh=>∃(b15:Nat) (x7:Option Addr) (c7:Nat) (E7:Nat->Prop),Has s [(0,.P so),(1,.slice (some ⟨wb,wo,none⟩) (m+2) c),(5,.J ((m+1:Nat):Int)),(6,.P b6),(8,.slice (some ⟨bb1,oo1,none⟩) (p.n.cells.length+1) kc),(9,.J (ka1.length:Int)),(12,.J 0),(15,.P b15)]/\Hp h D [boxI b15 116 [.J (J.kind:Int),.slice x7 J.cells.length c7,.J (J.right:Int)],boxI b13 116 [.J (u.n.kind:Int),.slice sa nA.cells.length ca,.J (nA.right:Int)],boxI b14 116 [.J (u.n.kind:Int),.slice sb nB.cells.length cb,.J (nB.right:Int)],boxI pb5 116 [.J (u.n.kind:Int),.slice x9 n'.cells.length c9,.J (n'.right:Int)],boxI b7 154 [.J p.no,.J (p.at_:Int),.J (p.n.kind:Int),.slice xp p.n.cells.length cp,.J (p.n.right:Int)],boxI b6 154 [.J u.no,.J (u.at_:Int),.J (u.n.kind:Int),.slice xu u.n.cells.length cu,.J (u.n.right:Int)],capI 1 3 (some ⟨bb1,oo1,none⟩,(p.n.cells.length+1),kc) ((kidsN p.n).map iv),dsI G so F9 w] [rdI (blkC (sv (x7,J.cells.length,c7))) E7 (x7,J.cells.length,c7) J.cells,accI 113 (x7,J.cells.length,c7) (none,0,0) E7 J.cells [],rdI FA EA (sa,nA.cells.length,ca) nA.cells,rdI FB EB (sb,nB.cells.length,cb) nB.cells,rdI E E (xp,p.n.cells.length,cp) p.n.cells,rdI E E (xu,u.n.cells.length,cu) u.n.cells,accI 154 (some ⟨wb,wo,none⟩,m+2,c) (none,0,0) E (ss++[p]++[u]) []] hh) ?_ ?_
  ·
   refine .a 15 (fun fl hh=>cond fl True (Hp h D [boxI b13 116 [.J (u.n.kind:Int),.slice sa nA.cells.length ca,.J (nA.right:Int)],boxI b14 116 [.J (u.n.kind:Int),.slice sb nB.cells.length cb,.J (nB.right:Int)],boxI pb5 116 [.J (u.n.kind:Int),.slice x9 n'.cells.length c9,.J (n'.right:Int)],boxI b7 154 [.J p.no,.J (p.at_:Int),.J (p.n.kind:Int),.slice xp p.n.cells.length cp,.J (p.n.right:Int)],boxI b6 154 [.J u.no,.J (u.at_:Int),.J (u.n.kind:Int),.slice xu u.n.cells.length cu,.J (u.n.right:Int)],capI 1 3 (some ⟨bb1,oo1,none⟩,(p.n.cells.length+1),kc) ((kidsN p.n).map iv),dsI G so F9 w] [rdI FA EA (sa,nA.cells.length,ca) nA.cells,rdI FB EB (sb,nB.cells.length,cb) nB.cells,rdI E E (xp,p.n.cells.length,cp) p.n.cells,rdI E E (xu,u.n.cells.length,cu) u.n.cells,accI 154 (some ⟨wb,wo,none⟩,m+2,c) (none,0,0) E (ss++[p]++[u]) []] hh)) mixed ?_;have hS:=ok;refine .l 0 false rfl 72 hS (fun _ hS=>.ldb T.ag116 hS.m0 T.sz116)<|.g 1 false rfl 73 hS (fun _=>.fa T.fd154_2)<|.g 2 false rfl 74 hS (fun _=>.fa T.fd116_1)<|.l 3 false rfl 75 hS (fun _ hS=>.ldx T.ag114 hS.m3)<|.g 4 false rfl 76 hS (fun _=>.mvI)<|?_;obtain ⟨bb2,oo2,rfl,fb2⟩:=ok.r2.pos (by omega);refine .g 5 false rfl 77 hS (fun _=>.ix ka1.length T.el114 T.sz113)<|.g 6 false rfl 78 hS (fun _=>.fa T.fd113_0)<|.l 7 false rfl 79 hS (fun _ hS=>.ld T.ag2 (hS.r2.celf (i:=ka1.length) (by omega)).1)<|?_;rw [hgy];refine .g 8 false rfl 80 hS (fun _=>.bd #[.J y,.J 0,.J 0,.N,.J 0] T.zr113 T.pl113 rfl)<|.l 9 false rfl 81 hS (fun _ hS=>.ldb T.ag116 hS.m1 T.sz116)<|.o2 10 14 ?_ ?_
   ·
    have hc8:Hc 194 #[.agg #[.J (u.n.kind:Int),.slice sa nA.cells.length ca,.J (nA.right:Int)],.agg #[.J y,.J 0,.J 0,.N,.J 0],.agg #[.J (u.n.kind:Int),.slice sb nB.cells.length cb,.J (nB.right:Int)]] U26 (fun v h'=>∃x c2,v=.tuple #[.agg #[.J (J.kind:Int),.slice x J.cells.length c2,.J (J.right:Int)],.J 0]/\Ext U26 h'/\OwnC U26 h' x J.cells.length c2 J.cells):=by
     have h1:=ndjoin_any (k:=u.n.kind) (ra:=nA.right) (rb:=nB.right) (y:=y) ok.r0 ok.r1 (by rw [hAe];exact hoA) (by rw [hBe];exact hoB) hk12 hyi (by omega) (by omega);rw [hAe,hBe,<-hJ] at h1;rw [hJk,hJr];exact h1
    refine .c' false rfl 82 .func hc8 ?_;rintro _ U27 ⟨x7,c7,rfl,hx,oc⟩;obtain ⟨E7,ok⟩:=ok.ownC hx oc;have ok:=ok.frz;have ok:=ok.d0 (rdI (blkC (sv (x7,J.cells.length,c7))) E7 (x7,J.cells.length,c7) J.cells) (Acc.rd ok.r0) (fun _ h=>h.elim .inl (fun h=>.inr (.inr h)));refine ⟨ok.tR.tR,?_⟩;have hS:=ok.tR.tR;refine .g 11 false rfl 71 hS (fun _=>.mvU)<|.g 12 false rfl 83 hS (fun _=>.ex)<|.g 13 false rfl 84 hS (fun _=>.ex)<|.o1 14<|.a' false rfl 15 (.alA T.zr116 ok) ?_;rintro _ U28 ⟨pb10,rfl,ok,xe⟩;refine ⟨ok.n7.n7.n7.n7.n7.n7.n7.k7.tR.tR,?_⟩;have hS:=ok.n7.n7.n7.n7.n7.n7.n7.k7.tR.tR;refine .o1 15<|.ur' true rfl (.stW (vs:=[.J (J.kind:Int),.slice x7 J.cells.length c7,.J (J.right:Int)]) T.sz116 ok (oneL rfl)) ?_;rintro U29 ⟨ok,cg⟩;refine ⟨trivial,?_⟩;refine .g 16 true rfl 12 trivial (fun _=>.asI)<|.e ?_;refine .end<|⟨pb10,x7,c7,E7,⟨rfl,rfl,rfl,rfl,rfl,rfl,rfl,rfl,trivial⟩,ok.n7.n7.n7.n7.n7.n7.n7.n7⟩
   ·
    refine .a' false rfl 15 (.alA T.zr116 ok) ?_;rintro _ U30 ⟨pb11,rfl,ok,xe⟩;refine ⟨ok.n7.n7.n7.n7.n7.n7.n7.k7,?_⟩;have hS:=ok.n7.n7.n7.n7.n7.n7.n7.k7;refine .o1 10<|?_;have hc8:Hc 194 #[.agg #[.J (u.n.kind:Int),.slice sa nA.cells.length ca,.J (nA.right:Int)],.agg #[.J y,.J 0,.J 0,.N,.J 0],.agg #[.J (u.n.kind:Int),.slice sb nB.cells.length cb,.J (nB.right:Int)]] U30 (fun v h'=>∃x c2,v=.tuple #[.agg #[.J (J.kind:Int),.slice x J.cells.length c2,.J (J.right:Int)],.J 0]/\Ext U30 h'/\OwnC U30 h' x J.cells.length c2 J.cells):=by
     have h1:=ndjoin_any (k:=u.n.kind) (ra:=nA.right) (rb:=nB.right) (y:=y) ok.r0 ok.r1 (by rw [hAe];exact hoA) (by rw [hBe];exact hoB) hk12 hyi (by omega) (by omega);rw [hAe,hBe,<-hJ] at h1;rw [hJk,hJr];exact h1
    refine .c' false rfl 82 .func hc8 ?_;rintro _ U31 ⟨x7,c7,rfl,hx,oc⟩;obtain ⟨E7,ok⟩:=ok.ownC hx oc;have ok:=ok.frz;have ok:=ok.d0 (rdI (blkC (sv (x7,J.cells.length,c7))) E7 (x7,J.cells.length,c7) J.cells) (Acc.rd ok.r0) (fun _ h=>h.elim .inl (fun h=>.inr (.inr h)));refine ⟨ok.n7.n7.n7.n7.n7.n7.n7.k7.tR.tR,?_⟩;have hS:=ok.n7.n7.n7.n7.n7.n7.n7.k7.tR.tR;refine .g 11 false rfl 71 hS (fun _=>.mvU)<|.g 12 false rfl 83 hS (fun _=>.ex)<|.g 13 false rfl 84 hS (fun _=>.ex)<|.o1 15<|.ur' true rfl (.stW (vs:=[.J (J.kind:Int),.slice x7 J.cells.length c7,.J (J.right:Int)]) T.sz116 ok (oneL rfl)) ?_;rintro U32 ⟨ok,cg⟩;refine ⟨trivial,?_⟩;refine .g 16 true rfl 12 trivial (fun _=>.asI)<|.e ?_;refine .end<|⟨pb11,x7,c7,E7,⟨rfl,rfl,rfl,rfl,rfl,rfl,rfl,rfl,trivial⟩,ok.n7.n7.n7.n7.n7.n7.n7.n7⟩
  rintro s U33 ⟨b15,x7,c7,E7,hs,ok⟩;refine .frame hs fun τ=>?_;refine .seq<|.s<|.z .mvI<|.z .neq<|.nil<|.cf<|.skip<|.seq<|.seq<|.join (fun s hh=>∃(bb:Bool),Has s [(0,.P so),(1,.slice (some ⟨wb,wo,none⟩) (m+2) c),(5,.J ((m+1:Nat):Int)),(6,.P b6),(8,.slice (some ⟨bb1,oo1,none⟩) (p.n.cells.length+1) kc),(9,.J (ka1.length:Int)),(15,.P b15),(98,.bool bb)]/\Hp h D [boxI b15 116 [.J (J.kind:Int),.slice x7 J.cells.length c7,.J (J.right:Int)],boxI b13 116 [.J (u.n.kind:Int),.slice sa nA.cells.length ca,.J (nA.right:Int)],boxI b14 116 [.J (u.n.kind:Int),.slice sb nB.cells.length cb,.J (nB.right:Int)],boxI pb5 116 [.J (u.n.kind:Int),.slice x9 n'.cells.length c9,.J (n'.right:Int)],boxI b7 154 [.J p.no,.J (p.at_:Int),.J (p.n.kind:Int),.slice xp p.n.cells.length cp,.J (p.n.right:Int)],boxI b6 154 [.J u.no,.J (u.at_:Int),.J (u.n.kind:Int),.slice xu u.n.cells.length cu,.J (u.n.right:Int)],capI 1 3 (some ⟨bb1,oo1,none⟩,(p.n.cells.length+1),kc) ((kidsN p.n).map iv),dsI G so F9 w] [rdI (blkC (sv (x7,J.cells.length,c7))) E7 (x7,J.cells.length,c7) J.cells,accI 113 (x7,J.cells.length,c7) (none,0,0) E7 J.cells [],rdI FA EA (sa,nA.cells.length,ca) nA.cells,rdI FB EB (sb,nB.cells.length,cb) nB.cells,rdI E E (xp,p.n.cells.length,cp) p.n.cells,rdI E E (xu,u.n.cells.length,cu) u.n.cells,accI 154 (some ⟨wb,wo,none⟩,m+2,c) (none,0,0) E (ss++[p]++[u]) []] hh/\(bb=true↔u.n.cells.length≠0/\¬FitNd (⟨J.kind,J.cells,J.right⟩:Nod) w.z)) ?_ ?_
  ·
   refine .a 12 (fun fl hh=>Hp h D [boxI b15 116 [.J (J.kind:Int),.slice x7 J.cells.length c7,.J (J.right:Int)],boxI b13 116 [.J (u.n.kind:Int),.slice sa nA.cells.length ca,.J (nA.right:Int)],boxI b14 116 [.J (u.n.kind:Int),.slice sb nB.cells.length cb,.J (nB.right:Int)],boxI pb5 116 [.J (u.n.kind:Int),.slice x9 n'.cells.length c9,.J (n'.right:Int)],boxI b7 154 [.J p.no,.J (p.at_:Int),.J (p.n.kind:Int),.slice xp p.n.cells.length cp,.J (p.n.right:Int)],boxI b6 154 [.J u.no,.J (u.at_:Int),.J (u.n.kind:Int),.slice xu u.n.cells.length cu,.J (u.n.right:Int)],capI 1 3 (some ⟨bb1,oo1,none⟩,(p.n.cells.length+1),kc) ((kidsN p.n).map iv),dsI G so F9 w] [rdI (blkC (sv (x7,J.cells.length,c7))) E7 (x7,J.cells.length,c7) J.cells,accI 113 (x7,J.cells.length,c7) (none,0,0) E7 J.cells [],rdI FA EA (sa,nA.cells.length,ca) nA.cells,rdI FB EB (sb,nB.cells.length,cb) nB.cells,rdI E E (xp,p.n.cells.length,cp) p.n.cells,rdI E E (xu,u.n.cells.length,cu) u.n.cells,accI 154 (some ⟨wb,wo,none⟩,m+2,c) (none,0,0) E (ss++[p]++[u]) []] hh) mixed ?_;have hS:=ok;refine .g 0 false rfl 87 hS (fun _=>.fa T.fd154_2)<|.g 1 false rfl 88 hS (fun _=>.fa T.fd116_1)<|.lw 2 false rfl 89 hS (fun _ _ hS=>.ldx T.ag114 hS.m5)<|.g 3 false rfl 90 hS (fun _=>.len T.el114)<|.g 4 false rfl 91 hS (fun _=>.gtr)<|.g 5 false rfl 92 hS (fun _=>.mvB)<|.sd (fun G92=>?_) (fun G92=>?_)
   ·
    refine .lw 6 false rfl 93 hS (fun _ _ hS=>.ldb T.ag116 hS.m0 T.sz116)<|.g 7 false rfl 94 hS (fun _=>.mvP)<|.o1 8<|.k false rfl 95 .func (sSize_any (G:=G) (F:=F9) (w:=w) ok.m7) hS<|.o1 9<|.c' false rfl 96 .func (ndFits_any (z:=w.z) (k:=J.kind) (rt:=J.right) (l:=J.cells) ok.r0 hlo.o hz hlo.nl) ?_;rintro _ U34 ⟨rfl,hx⟩;have ok:=ok.ext hx;refine ⟨ok,?_⟩;have hS:=ok;refine .g 10 false rfl 97 hS (fun _=>.notd)<|.g 11 false rfl 98 hS (fun _=>.pkt)<|.e ?_;refine .end<|⟨_,⟨rfl,rfl,rfl,rfl,rfl,rfl,rfl,rfl,trivial⟩,ok.n7.n7.n7.n7.n7.n7.n7.n7,by first | exact ⟨fun h=>(by cases h),fun h=>absurd h.1 (by omega)⟩ | (constructor;(intro h;exact ⟨by omega,by simpa using h⟩);(intro h;simpa using h.2))⟩
   refine .x 6 false rfl 93 hS<|.x 7 false rfl 94 hS<|.x 8 false rfl 95 hS<|.x 9 false rfl 96 hS<|.x 10 false rfl 97 hS<|.g 11 false rfl 98 hS (fun _=>.pkf)<|.e ?_;refine .end<|⟨_,⟨rfl,rfl,rfl,rfl,rfl,rfl,rfl,rfl,trivial⟩,ok.n7.n7.n7.n7.n7.n7.n7.n7,by first | exact ⟨fun h=>(by cases h),fun h=>absurd h.1 (by omega)⟩ | (constructor;(intro h;exact ⟨by omega,by simpa using h⟩);(intro h;simpa using h.2))⟩
  rintro s U35 ⟨bb,hs,ok,hbb⟩;refine .frame hs fun τ=>?_;refine .cond (fun C4=>?_) (fun C4=>?_)
  ·
   have hbc:=hbb.1 C4;refine .s<|.z .mvP<|.z (.fa T.fd154_0)<|.z (.ldx T.ag3 ok.m5)<|.z (.fa T.fd154_2)<|.z (.ldc (vs:=[.J (u.n.kind:Int),.slice xu u.n.cells.length cu,.J (u.n.right:Int)]) T.ag116 (at_part (o:=2) (n:=3) ok.m5) T.sz116)<|?_;obtain ⟨w5,hw5,ho5,hpg5,hk5,hl5⟩:=(hst.own.perm hst.px.symm).write (b:=encNd u.n w.z) (encNd_len hf);refine .c' 104 .func (ansE (ci:=0) (twrite_any (G:=G) (w:=w) (no:=u.no) (k:=u.n.kind) (rt:=u.n.right) (l:=u.n.cells) (ok.n7).loc0 ok.r5 hst.ok hf hz (by omega)) hw5 rfl) ?_;rintro _ U36 ⟨F8,rfl,q⟩;have ok:=(ok.n7).lift1 q;refine .z .asI<|.nil<|.ret ⟨.J 0,Res.one rfl rfl,⟨F8,w5,Q,rfl,by rw [<-hes];exact hst.done (List.cons_ne_nil _ _) (fun e=>hbc.1 (by rw [e];rfl)) ho5 (by unfold ndAt;rw [hpg5];exact decNd_enc hf (by omega) hst.ok) hk5,by omega,(ok).k1.e0⟩⟩
  refine .skip<|.seq<|.a 8 (fun fl hh=>cond fl True (Hp h D [boxI b15 116 [.J (J.kind:Int),.slice x7 J.cells.length c7,.J (J.right:Int)],boxI b13 116 [.J (u.n.kind:Int),.slice sa nA.cells.length ca,.J (nA.right:Int)],boxI b14 116 [.J (u.n.kind:Int),.slice sb nB.cells.length cb,.J (nB.right:Int)],boxI pb5 116 [.J (u.n.kind:Int),.slice x9 n'.cells.length c9,.J (n'.right:Int)],boxI b7 154 [.J p.no,.J (p.at_:Int),.J (p.n.kind:Int),.slice xp p.n.cells.length cp,.J (p.n.right:Int)],boxI b6 154 [.J u.no,.J (u.at_:Int),.J (u.n.kind:Int),.slice xu u.n.cells.length cu,.J (u.n.right:Int)],capI 1 3 (some ⟨bb1,oo1,none⟩,(p.n.cells.length+1),kc) ((kidsN p.n).map iv),dsI G so F9 w] [rdI (blkC (sv (x7,J.cells.length,c7))) E7 (x7,J.cells.length,c7) J.cells,accI 113 (x7,J.cells.length,c7) (none,0,0) E7 J.cells [],rdI FA EA (sa,nA.cells.length,ca) nA.cells,rdI FB EB (sb,nB.cells.length,cb) nB.cells,rdI E E (xp,p.n.cells.length,cp) p.n.cells,rdI E E (xu,u.n.cells.length,cu) u.n.cells,accI 154 (some ⟨wb,wo,none⟩,m+2,c) (none,0,0) E (ss++[p]++[u]) []] hh)) mixed ?_;have hS:=ok;refine .g 0 false rfl 106 hS (fun _=>.mvP)<|.l 1 false rfl 107 hS (fun _ hS=>.ldb T.ag116 hS.m0 T.sz116)<|.g 2 false rfl 108 hS (fun _=>.mvS)<|.g 3 false rfl 109 hS (fun _=>.mvI)<|.g 4 false rfl 110 hS (fun _=>.mvI)<|.g 5 false rfl 111 hS (fun _=>.addI (b:=2))<|.g 6 false rfl 112 hS (fun _=>.slh ka1.length (ka1.length+2) T.el93 T.sz3)<|?_;generalize hg1:cutA (some ⟨bb1,oo1,none⟩) ka1.length kc 1=g1;generalize hg2:(ka1.length+2)-ka1.length=g2;generalize hg3:kc-ka1.length=g3;obtain rfl:g2=2:=by rw [<-hg2];omega
  obtain ⟨F8,E8,hk12r⟩:∃F8 E8:Nat->Prop,RdL U35 F8 E8 (g1,2,g3) [k1,k2]:=⟨_,_,by
   have h1:=(RdL.of_cap1 (f:=iv) (E:=none_) (l:=kidsN p.n) (x:=(some ⟨bb1,oo1,none⟩,p.n.cells.length+1,kc)) rfl (fun _ _ _=>rfl) ok.m6).cut (i:=ka1.length) (j:=ka1.length+2) (by omega) (by omega);rw [show ((kidsN p.n).drop ka1.length).take (ka1.length+2-ka1.length)=[k1,k2] from by rw [hkk,List.drop_left' rfl,show ka1.length+2-ka1.length=2 by omega];rfl,hg2] at h1;rw [<-hg1,<-hg3];exact h1⟩
  refine .o1 7<|.c' false rfl 113 .func (iclone_any (l:=[k1,k2]) hk12r (by simp)) ?_;rintro _ U37 own;obtain ⟨tha,thn,thc,rfl⟩:=own.form3;have ok:=ok.own own;obtain rfl:thn=2:=by have:=(Cap.sl ok.m0).cells.1;simpa using this.symm
  refine ⟨ok.n8.n8.n8.n8.n8.n8.n8.n8.k8,?_⟩;have hS:=ok.n8.n8.n8.n8.n8.n8.n8.n8.k8;refine .o1 8<|.c' true rfl 114 .func (tlay_any (B:=B) (there:=[k1,k2]) (Z:=Z) (k:=J.kind) (rt:=J.right) (l:=J.cells) (Hp.lc2 (ok.n8).e0) ok.r0 rfl hst.own hpz hlo.o hlo.nl hlo.m hlo.p hlo.f hN (by omega) (by rw [hz0];exact hBB)) ?_;rintro _ U38 ⟨F1,w1,Q1,nos,na,nc,ba,bc,rfl,hnl,ho1,hk1,hb1,hnd,q⟩;have ok:=Hp.lf2 (ok.n8) q;obtain ⟨bt,hbt⟩:∃bt,bt=(splN (⟨J.kind,J.cells,J.right⟩:Nod) w.z).2.map Cel.key:=⟨_,rfl⟩;have hbl:(splN (⟨J.kind,J.cells,J.right⟩:Nod) w.z).2.length=bt.length:=by rw [hbt,qM]
  rw [<-hnl,hbl,<-hbt] at ok;rw [<-hnl,hbl];have ok:=Hp.plC (ok.n2);refine ⟨trivial,?_⟩;refine .g 9 true rfl 105 trivial (fun _=>.mvU)<|.g 10 true rfl 115 trivial (fun _=>.ex)<|.g 11 true rfl 116 trivial (fun _=>.ex)<|.g 12 true rfl 117 trivial (fun _=>.ex)<|.g 13 true rfl 16 trivial (fun _=>.asS)<|.g 14 true rfl 17 trivial (fun _=>.asS)<|.g 15 true rfl 12 trivial (fun _=>.asI)<|.e ?_;refine .seq<|.s<|.z .mvI<|.z .neq<|.nil<|.cf<|.skip<|.seq<|?_;have hnb:nos.length=bt.length+1:=by rw [hnl,hbl.symm];exact hlo.l
  have hb5:bt.length<=5:=by rw [<-hbl];exact hlo.f.2
  obtain ⟨lo1,hi1,L1,R1,es1,pc1,pb1,hes1,hst1⟩:=hsib ho1 hk1 hnl hnd;rw [show (splN J w.z).2.map Cel.key=bt from hbt.symm] at hst1;have hes1:=hes1.symm.trans hes;have hrp:=rplOk (km:=[k1,k2]) (ym:=[y]) hst1.ok hkk hyk hkl rfl hnb fun k hk=>by have:=ho1.rg (k:=k) (qU _ hk);omega
  have hx0:=hpz.length_eq;simp only [qV,qA,qB] at hx0;refine .r<|.z .mvP<|.z .mvS<|.z .mvI<|.z (.sl_h (m+1) T.el150 T.sz154)<|.z .mvI<|.z .mvS<|.z .mvS<|?_;have okx:=(Hp.accDn (m:=m+1) (Hp.thawR (ok.n2.n2.k3.sub (R':=[accI 154 (some ⟨wb,wo,none⟩,m+2,c) (none,0,0) E (ss++[p]++[u]) []]) (by simp)) hown) (by omega));rw [List.take_left' (show (ss++[p]).length=m+1 by simp [hsm])] at okx;have hc9:=trepl_any hset (ka1:=ka1) (kb:=kb) (ya:=ya) (yb:=yb) (km:=[k1,k2]) (ym:=[y]) (nos:=nos) (bt:=bt) (i:=ka1.length) (many:=2) (by rw [hsm];exact Hp.lc4 okx) hss hm hkk hyk rfl hkl.symm rfl rfl hst1 (by rw [hk1.z];exact hz0) hes1 hb1 (by simp only [qA];omega) hB1 (by have:=tks_n hftp;omega) hrp.1 hrp.2.1 hrp.2.2 (by rw [hnl];exact hlo.f.1);rw [hsm] at hc9;refine .c' 128 .func hc9 ?_;rintro _ U39 ⟨F9,w9,Q9,rfl,hf9,hb9,q⟩;refine .z .asI<|.nil<|.ret ⟨.J 0,Res.one rfl rfl,⟨F9,w9,Q9,rfl,hf9.from_ (hk1.mono fun j hj=>hsY j hj),hb9,(Hp.lf4 okx q).k1⟩⟩
 rw [hrd] at hr9;cases hr9
theorem tsettle0_any {G:Pgr} {so B z:Nat} {root:Int} {Y:List Int} {esT:List Cel} {h:Heap} {D F E:Nat->Prop} {w:St} {Q:Trk} {X:List Int} {d:Nat} {u:Stp} {lo hi:Option Int} {L R es:List Cel} {pc pb:List Int} {a:Option Addr} {c:Nat} {less:Bool} (ok:Hp h D [accI 154 (a,1,c) (none,0,0) E ([u]) [],dsI G so F w] [] h) (hst:Stl w Q X Y root d [] u.no u.n lo hi L R es pc pb) (hz0:w.z=z) (hes:L++(es++R)=esT) (hN:w.now.length<=B) (hX:X.length+8<=B) (hBB:B*z<=16777216) (hcl:u.n.cells.length<=100000) :
  Hc 101 #[.P so,.slice a 1 c,.bool less] h (fun v h'=>∃F' w' Q',v=.J 0/\Fin_ w w' Q' Y root esT/\w'.now.length<=B/\Hp h D [dsI G so F' w'] [] h'):=by
 obtain ⟨wb,wo,rfl,_⟩:=(Acc.rd ok.m0).pos (by simp);have hown:=ok.ownR;have ok:=ok.frz;have ok:=ok.d0 (rdI (blkC (sv (some ⟨wb,wo,none⟩,1,c))) E (some ⟨wb,wo,none⟩,1,c) ([u])) (Acc.rd ok.r0) (fun _ h=>h.elim .inl (fun h=>.inr (.inr h)));have hlc:=ok.r0.c;simp only at hlc;have hz:=hst.own.fr.z;have hzc:=hst.own.fr.zc;obtain ⟨xu,cu,hvu,hwu⟩:=RdL.stpL (ss:=[]) (q:=0) ok.r0 rfl;have ok:=ok.d0 (rdI E E (xu,u.n.cells.length,cu) u.n.cells) hwu (fun _ h=>.inr (h.elim id id));have ok:=ok.d1 (celI wb (wo+0*5) [.J u.no,.J (u.at_:Int),.J (u.n.kind:Int),.slice xu u.n.cells.length cu,.J (u.n.right:Int)]) hvu (fun j e=>by subst e;exact .inl ⟨_,_,_,rfl⟩);refine HC.go Tryz.func101 50 ?_;refine .s<|.z .asI<|.nil<|.s<|.z .mvS<|.z (.len T.el150)<|.z .sub<|?_;rw [show (((1:Nat):Int)-1)=0 from rfl];refine .z .asI<|.nil<|.s<|.z .mvS<|.z .mvI<|.z (.ix 0 T.el150 T.sz154)<|.z (.ldc (vs:=[.J u.no,.J (u.at_:Int),.J (u.n.kind:Int),.slice xu u.n.cells.length cu,.J (u.n.right:Int)]) T.ag154 ok.r0 T.sz154)<|.a' 8 (.alA T.zr154 ok) ?_;rintro _ U1 ⟨pb1,rfl,ok,xe⟩;refine .ur' (.stW (vs:=[.J u.no,.J (u.at_:Int),.J (u.n.kind:Int),.slice xu u.n.cells.length cu,.J (u.n.right:Int)]) T.sz154 ok (oneL rfl)) ?_;rintro U2 ⟨ok,cg⟩;refine .nil ?_;refine .seq<|.block fun K0 hK0=>.seq<|.a 4 (fun fl hh=>cond fl True (Hp h D [boxI pb1 154 [.J u.no,.J (u.at_:Int),.J (u.n.kind:Int),.slice xu u.n.cells.length cu,.J (u.n.right:Int)],dsI G so F w] [celI wb (wo+0*5) [.J u.no,.J (u.at_:Int),.J (u.n.kind:Int),.slice xu u.n.cells.length cu,.J (u.n.right:Int)],rdI E E (xu,u.n.cells.length,cu) u.n.cells,rdI (blkC (sv (some ⟨wb,wo,none⟩,1,c))) E (some ⟨wb,wo,none⟩,1,c) [u],accI 154 (some ⟨wb,wo,none⟩,1,c) (none,0,0) E ([u]) []] hh)) mixed ?_;have hS:=ok;refine .g 0 false rfl 17 hS (fun _=>.fa T.fd154_2)<|.l 1 false rfl 18 hS (fun _ hS=>.ldc (vs:=[.J (u.n.kind:Int),.slice xu u.n.cells.length cu,.J (u.n.right:Int)]) T.ag116 (at_part (o:=2) (n:=3) hS.m0) T.sz116)<|.g 2 false rfl 19 hS (fun _=>.mvP)<|.o1 3<|.k false rfl 20 .func (sSize_any (G:=G) (F:=F) (w:=w) ok.m1) hS<|.o1 4<|.c' true rfl 21 .func (ndFits_any (z:=w.z) (k:=u.n.kind) (rt:=u.n.right) (l:=u.n.cells) ok.r1 hst.ok hz hcl) ?_;rintro _ U3 ⟨rfl,hx⟩;have ok:=ok.ext hx;refine ⟨trivial,?_⟩;refine .g 5 true rfl 22 trivial (fun _=>.notd)<|.g 6 true rfl 16 trivial (fun _=>.asB)<|.e ?_;refine .cd (fun C0=>?_) (fun C0=>?_)
 ·
  have hnf:¬FitNd u.n w.z:=(by simpa using C0);refine .s<|.z .mvP<|.z .mvS<|?_;have okx:=(Hp.thawR ((ok.n1.k1).sub (R':=[accI 154 (some ⟨wb,wo,none⟩,1,c) (none,0,0) E ([u]) []]) (by simp)) hown);refine .c' 25 .func (tpart0_any (B:=B) (Hp.lc2 okx) hst hz0 hes hN hX hBB hnf) ?_;rintro _ U4 ⟨F9,w9,Q9,rfl,hf9,hb9,q⟩;refine .z .asI<|.nil<|.ret ⟨.J 0,Res.one rfl rfl,⟨F9,w9,Q9,rfl,hf9,hb9,(Hp.lf2 okx q).k1⟩⟩
 have hf:FitNd u.n w.z:=(by simpa using C0);refine .s<|.z .mvI<|.z .eql<|.z .asB<|.nil<|.ct<|.s<|.z .mvP<|.z (.ldb T.ag154 ok.m0 T.sz154)<|.c' 31 .func (ttop_any (at1:=(u.at_:Int)) (no:=u.no) (k:=u.n.kind) (rt:=u.n.right) (l:=u.n.cells) ((ok.n1).sub (R':=[rdI E E (xu,u.n.cells.length,cu) u.n.cells,accI 154 (some ⟨wb,wo,none⟩,1,c) (none,0,0) E ([u]) []]) (by simp)).loc1 hst hf) ?_;rintro _ U5 ⟨F9,w9,Q9,rfl,hf9,hl9,q⟩;have ok:=(ok.n1).lift1 q;refine .z .asI<|.nil<|.ret ⟨.J 0,Res.one rfl rfl,⟨F9,w9,Q9,rfl,by rw [<-hes];exact hf9,by omega,(ok).k1.e0⟩⟩
theorem tsettleS_any {G:Pgr} {so B z m:Nat} {root:Int} {Y:List Int} {esT:List Cel} (hset:SetC G so B z root Y esT m) {h:Heap} {D F E:Nat->Prop} {w:St} {Q:Trk} {X:List Int} {d:Nat} {up ss:List Stp} {u p:Stp} {lo hi:Option Int} {L R es:List Cel} {pc pb:List Int} {a:Option Addr} {c:Nat} {less:Bool} (ok:Hp h D [accI 154 (a,m+2,c) (none,0,0) E (ss++[p]++[u]) [],dsI G so F w] [] h) (hss:ss=up.reverse) (hm:up.length=m) (hst:Stl w Q X Y root d (p::up) u.no u.n lo hi L R es pc pb) (hz0:w.z=z) (hes:L++(es++R)=esT) (hN:w.now.length<=B) (hX:X.length+8*(m+2)<=B) (hBB:B*z<=16777216) (hB1:B<=1000000) (hm14:m<=14) (hcl:u.n.cells.length<=100000) :
  Hc 101 #[.P so,.slice a (m+2) c,.bool less] h (fun v h'=>∃F' w' Q',v=.J 0/\Fin_ w w' Q' Y root esT/\w'.now.length<=B/\Hp h D [dsI G so F' w'] [] h'):=by
 have hsm:ss.length=m:=by rw [hss,List.length_reverse];exact hm
 obtain ⟨wb,wo,rfl,_⟩:=(Acc.rd ok.m0).pos (by simp);have hown:=ok.ownR;have ok:=ok.frz;have ok:=ok.d0 (rdI (blkC (sv (some ⟨wb,wo,none⟩,m+2,c))) E (some ⟨wb,wo,none⟩,m+2,c) (ss++[p]++[u])) (Acc.rd ok.r0) (fun _ h=>h.elim .inl (fun h=>.inr (.inr h)));have hlc:=ok.r0.c;simp only at hlc;have hz:=hst.own.fr.z;have hzc:=hst.own.fr.zc;obtain ⟨xu,cu,hvu,hwu⟩:=RdL.stpL (ss:=ss++[p]) (q:=(m+1)) ok.r0 (by simp [hsm]);have ok:=ok.d0 (rdI E E (xu,u.n.cells.length,cu) u.n.cells) hwu (fun _ h=>.inr (h.elim id id));have ok:=ok.d1 (celI wb (wo+(m+1)*5) [.J u.no,.J (u.at_:Int),.J (u.n.kind:Int),.slice xu u.n.cells.length cu,.J (u.n.right:Int)]) hvu (fun j e=>by subst e;exact .inl ⟨_,_,_,rfl⟩);refine HC.go Tryz.func101 50 ?_;refine .s<|.z .asI<|.nil<|.s<|.z .mvS<|.z (.len T.el150)<|.z .sub<|?_;rw [show (((m+2:Nat):Int)-1)=((m+1:Nat):Int) from by omega];refine .z .asI<|.nil<|.s<|.z .mvS<|.z .mvI<|.z (.ix (m+1) T.el150 T.sz154)<|.z (.ldc (vs:=[.J u.no,.J (u.at_:Int),.J (u.n.kind:Int),.slice xu u.n.cells.length cu,.J (u.n.right:Int)]) T.ag154 ok.r0 T.sz154)<|.a' 8 (.alA T.zr154 ok) ?_;rintro _ U1 ⟨pb1,rfl,ok,xe⟩;refine .ur' (.stW (vs:=[.J u.no,.J (u.at_:Int),.J (u.n.kind:Int),.slice xu u.n.cells.length cu,.J (u.n.right:Int)]) T.sz154 ok (oneL rfl)) ?_;rintro U2 ⟨ok,cg⟩;refine .nil ?_;refine .seq<|.block fun K0 hK0=>.seq<|.a 4 (fun fl hh=>cond fl True (Hp h D [boxI pb1 154 [.J u.no,.J (u.at_:Int),.J (u.n.kind:Int),.slice xu u.n.cells.length cu,.J (u.n.right:Int)],dsI G so F w] [celI wb (wo+(m+1)*5) [.J u.no,.J (u.at_:Int),.J (u.n.kind:Int),.slice xu u.n.cells.length cu,.J (u.n.right:Int)],rdI E E (xu,u.n.cells.length,cu) u.n.cells,rdI (blkC (sv (some ⟨wb,wo,none⟩,m+2,c))) E (some ⟨wb,wo,none⟩,m+2,c) (ss++[p]++[u]),accI 154 (some ⟨wb,wo,none⟩,m+2,c) (none,0,0) E (ss++[p]++[u]) []] hh)) mixed ?_;have hS:=ok;refine .g 0 false rfl 17 hS (fun _=>.fa T.fd154_2)<|.l 1 false rfl 18 hS (fun _ hS=>.ldc (vs:=[.J (u.n.kind:Int),.slice xu u.n.cells.length cu,.J (u.n.right:Int)]) T.ag116 (at_part (o:=2) (n:=3) hS.m0) T.sz116)<|.g 2 false rfl 19 hS (fun _=>.mvP)<|.o1 3<|.k false rfl 20 .func (sSize_any (G:=G) (F:=F) (w:=w) ok.m1) hS<|.o1 4<|.c' true rfl 21 .func (ndFits_any (z:=w.z) (k:=u.n.kind) (rt:=u.n.right) (l:=u.n.cells) ok.r1 hst.ok hz hcl) ?_;rintro _ U3 ⟨rfl,hx⟩;have ok:=ok.ext hx;refine ⟨trivial,?_⟩;refine .g 5 true rfl 22 trivial (fun _=>.notd)<|.g 6 true rfl 16 trivial (fun _=>.asB)<|.e ?_;refine .cd (fun C0=>?_) (fun C0=>?_)
 ·
  have hnf:¬FitNd u.n w.z:=(by simpa using C0);refine .s<|.z .mvP<|.z .mvS<|?_;have okx:=(Hp.thawR ((ok.n1.k1).sub (R':=[accI 154 (some ⟨wb,wo,none⟩,m+2,c) (none,0,0) E (ss++[p]++[u]) []]) (by simp)) hown);refine .c' 25 .func (tpartS_any hset (Hp.lc2 okx) hss hm hst hz0 hes hN hX hBB hB1 hnf) ?_;rintro _ U4 ⟨F9,w9,Q9,rfl,hf9,hb9,q⟩;refine .z .asI<|.nil<|.ret ⟨.J 0,Res.one rfl rfl,⟨F9,w9,Q9,rfl,hf9,hb9,(Hp.lf2 okx q).k1⟩⟩
 have hf:FitNd u.n w.z:=(by simpa using C0);refine .s<|.z .mvI<|.z .eql<|.z .asB<|.nil<|.cd (fun C1=>?_) (fun C1=>?_)
 ·
  omega
 refine .seq<|.join (fun s hh=>∃(bb:Bool),Has s [(0,.P so),(1,.slice (some ⟨wb,wo,none⟩) (m+2) c),(8,.P pb1),(32,.bool bb)]/\Hp h D [boxI pb1 154 [.J u.no,.J (u.at_:Int),.J (u.n.kind:Int),.slice xu u.n.cells.length cu,.J (u.n.right:Int)],dsI G so F w] [celI wb (wo+(m+1)*5) [.J u.no,.J (u.at_:Int),.J (u.n.kind:Int),.slice xu u.n.cells.length cu,.J (u.n.right:Int)],rdI E E (xu,u.n.cells.length,cu) u.n.cells,rdI (blkC (sv (some ⟨wb,wo,none⟩,m+2,c))) E (some ⟨wb,wo,none⟩,m+2,c) (ss++[p]++[u]),accI 154 (some ⟨wb,wo,none⟩,m+2,c) (none,0,0) E (ss++[p]++[u]) []] hh/\(bb=false->u.n.cells.length≠0)) ?_ ?_
 ·
  refine .r<|.z .mvB<|.z .mvB<|.spl (fun G34=>?_) (fun G34=>?_)
  ·
   refine .y<|.y<|.y<|.y<|.y<|.z .pkt<|.z .asB<|.nil<|.end<|⟨_,⟨rfl,rfl,rfl,rfl,trivial⟩,ok.n1.n1,by first | exact fun h=>(by cases h) | exact fun h=>(by have:=of_decide_eq_false h;omega)⟩
  refine .z (.fa T.fd154_2)<|.z (.fa T.fd116_1)<|.z (.ldx T.ag114 ok.m0)<|.z (.len T.el114)<|.z .eql<|.z .pkf<|.z .asB<|.nil<|.end<|⟨_,⟨rfl,rfl,rfl,rfl,trivial⟩,ok.n1.n1,by first | exact fun h=>(by cases h) | exact fun h=>(by have:=of_decide_eq_false h;omega)⟩
 rintro s U5 ⟨bb,hs,ok,hbb⟩;refine .frame hs fun τ=>?_;refine .cond (fun C2=>?_) (fun C2=>?_)
 ·
  refine .s<|.z .mvP<|.z .mvS<|?_;have okx:=(Hp.thawR ((ok.n1.k1).sub (R':=[accI 154 (some ⟨wb,wo,none⟩,m+2,c) (none,0,0) E (ss++[p]++[u]) []]) (by simp)) hown);refine .c' 43 .func (tjoin_any hset (Hp.lc2 okx) hss hm hst hz0 hes hN hX hBB hB1 hm14 hf) ?_;rintro _ U6 ⟨F9,w9,Q9,rfl,hf9,hb9,q⟩;refine .z .asI<|.nil<|.ret ⟨.J 0,Res.one rfl rfl,⟨F9,w9,Q9,rfl,hf9,hb9,(Hp.lf2 okx q).k1⟩⟩
 have hne:=hbb (by simpa using C2);refine .skip<|.end<|hK0 _ _<|.s<|.z .mvP<|.z (.fa T.fd154_0)<|.z (.ldx T.ag3 ok.m0)<|.z (.fa T.fd154_2)<|.z (.ldc (vs:=[.J (u.n.kind:Int),.slice xu u.n.cells.length cu,.J (u.n.right:Int)]) T.ag116 (at_part (o:=2) (n:=3) ok.m0) T.sz116)<|?_;obtain ⟨w5,hw5,ho5,hpg5,hk5,hl5⟩:=(hst.own.perm hst.px.symm).write (b:=encNd u.n w.z) (encNd_len hf);refine .c' 49 .func (ansE (ci:=0) (twrite_any (G:=G) (w:=w) (no:=u.no) (k:=u.n.kind) (rt:=u.n.right) (l:=u.n.cells) (ok.n1).loc0 ok.r1 hst.ok hf hz hcl) hw5 rfl) ?_;rintro _ U7 ⟨F8,rfl,q⟩;have ok:=(ok.n1).lift1 q;refine .z .asI<|.nil<|.ret ⟨.J 0,Res.one rfl rfl,⟨F8,w5,Q,rfl,by rw [<-hes];exact hst.done (List.cons_ne_nil _ _) (fun e=>hne (by rw [e];rfl)) ho5 (by unfold ndAt;rw [hpg5];exact decNd_enc hf (by omega) hst.ok) hk5,by omega,(ok).k1.e0⟩⟩
theorem setC_all {G:Pgr} {so B z:Nat} {root:Int} {Y:List Int} {esT:List Cel} (hBB:B*z<=16777216):∀m,m<=15->SetC G so B z root Y esT m
 | 0,hm15=>fun less ok hss hm hst hz hes hN hX hB1 hcl=>by
  rename_i h D F E w Q X d up ss u lo hi L R es pc pb a c;obtain rfl:=qW hm;obtain rfl:ss=[]:=hss;exact tsettle0_any ok hst hz hes hN (by omega) hBB hcl
 | m+1,hm15=>fun less ok hss hm hst hz hes hN hX hB1 hcl=>by
  rename_i h D F E w Q X d up ss u lo hi L R es pc pb a c;cases up with
  | nil=>simp at hm
  | cons p up=>
   rw [List.reverse_cons] at hss;subst hss;have hl:(up.reverse++[p]++[u]).length=m+2:=by simp only [qA,List.length_reverse,qV,qB] at hm⊢;omega
   rw [hl] at ok⊢;exact tsettleS_any (setC_all hBB m (by omega)) ok rfl (by simpa using hm) hst hz hes hN (by omega) hBB hB1 (by omega) hcl
abbrev En:=Int × List UInt8
def nbE (z:Nat) (b:List UInt8):Nat:=min b.length (z / 4-36)
structure CelE (P:List (List UInt8)) (z:Nat) (c:Cel) (e:En) (pl:List Int):Prop where
 ky:c.key=e.1
 i:i64K e.1
 ch:c.child=0
 t:c.total=e.2.length
 l:c.loc=e.2.take (nbE z e.2)
 c:ChL P z (c.spill:Int) pl (e.2.drop (nbE z e.2))
 m:e.2.length<=16384
inductive Ents (P:List (List UInt8)) (z:Nat):List Cel->List En->List Int->Prop
 | nil:Ents P z [] [] []
 | cons {c:Cel} {e:En} {pl:List Int} {es:List Cel} {l:List En} {ps:List Int} : CelE P z c e pl->Ents P z es l ps->Ents P z (c::es) (e::l) (pl++ps)
section
variable {P Q:List (List UInt8)} {z:Nat} {a b:List Cel} {l m:List En} {p q:List Int} {c:Cel} {e:En} {pl:List Int}
theorem Ents.app (h:Ents P z a l p) (g:Ents P z b m q):Ents P z (a++b) (l++m) (p++q):=by
 induction h with
 | nil=>exact g
 | cons h _ ih=>rw [qZ];exact .cons h ih
theorem Ents.split:∀ {a:List Cel} {l:List En} {p:List Int},Ents P z (a++b) l p->∃l1 l2 p1 p2,l=l1++l2/\p=p1++p2/\Ents P z a l1 p1/\Ents P z b l2 p2
 | [],l,p,h=>⟨[],l,[],p,rfl,rfl,.nil,h⟩
 | c::a,_,_,.cons h g=>by
  obtain ⟨l1,l2,p1,p2,rfl,rfl,h1,h2⟩:=Ents.split (a:=a) g;exact ⟨_::l1,l2,_++p1,p2,rfl,(qZ ..).symm,.cons h h1,h2⟩
theorem CelE.congr (h:CelE P z c e pl) (g:∀k∈pl,pageAt Q k=pageAt P k):CelE Q z c e pl:=⟨h.ky,h.i,h.ch,h.t,h.l,h.c.congr g,h.m⟩
theorem Ents.congr (h:Ents P z a l p):(∀k∈p,pageAt Q k=pageAt P k)->Ents Q z a l p:=by
 induction h with
 | nil=>intro _;exact .nil
 | cons h _ ih=>intro g;exact .cons (h.congr fun k hk=>g k (qU _ hk)) (ih fun k hk=>g k (qI _ hk))
theorem Ents.keys (h:Ents P z a l p):a.map Cel.key=l.map Prod.fst:=by
 induction h with
 | nil=>rfl
 | cons h _ ih=>rw [kE,kE,ih,h.ky]
theorem Ents.len (h:Ents P z a l p):a.length=l.length:=by simpa using congrArg List.length h.keys
theorem Ents.at_ (h:Ents P z a l p) {i:Nat} (hi:i<a.length):∃l1 e l2 p1 pl p2,l=l1++e::l2/\p=p1++(pl++p2)/\l1.length=i/\Ents P z (a.take i) l1 p1/\CelE P z a[i] e pl/\Ents P z (a.drop (i+1)) l2 p2:=by
 have e0:a=a.take i++a[i]::a.drop (i+1):=by rw [List.getElem_cons_drop,qT]
 rw [e0] at h;obtain ⟨l1,l2,p1,p2,rfl,rfl,h1,h2⟩:=h.split;cases h2 with
 | cons h3 h4=>
  refine ⟨l1,_,_,p1,_,_,rfl,rfl,?_,h1,h3,h4⟩;rw [<-h1.len,qJ];omega
theorem CelE.lc (h:CelE P z c e pl):c.loc.length=nbE z e.2:=by rw [h.l,qJ];unfold nbE;omega
theorem CelE.rest (h:CelE P z c e pl):(c.total:Int)-(c.loc.length:Int)=((e.2.drop (nbE z e.2)).length:Int):=by
 rw [h.lc,h.t,qH];unfold nbE;omega
theorem CelE.ok (h:CelE P z c e pl) (hr:∀k∈pl,1<=k/\k<=1048576):okCl 1 c:=by
 refine ⟨rfl,h.ch,by rw [if_pos (by decide),h.ky];exact h.i,?_⟩;have h1:=h.lc;have h2:=h.t;have h3:=h.m;have h4:=h.c;rw [if_pos (by decide:hasPy 1=true)];refine ⟨by omega,by rw [h1,h2];unfold nbE;omega,?_⟩;split
 ·rename_i h5;have:e.2.drop (nbE z e.2)=[]:=qN (by omega);rw [this] at h4;cases pl with
  | nil=>have:=h4.1;omega
  | cons k l=>exact absurd rfl h4.2.1
 ·rename_i h5;cases pl with
  | nil=>
   have h6:=congrArg List.length h4.2;rw [qH] at h6;have:nbE z e.2<=e.2.length:=by unfold nbE;omega
   simp only [qB] at h6;omega
  | cons k l=>
   have h6:=hr k (by simp);have h7:(c.spill:Int)=k:=h4.1;unfold pgNo;rw [decide_eq_true_eq];omega
theorem CelE.sm (h:CelE P z c e pl) (hz:256<=z/\z<=4096) (hr:∀k∈pl,1<=k/\k<=1048576):SmC 1 z c:=smC_leaf hz (h.ok hr) (by rw [h.lc];unfold nbE;omega)
theorem Ents.all (h:Ents P z a l p) {G:Cel->Prop} (f:∀c e pl,CelE P z c e pl->(∀k∈pl,k∈p)->G c):∀c∈a,G c:=by
 induction h with
 | nil=>simp
 | cons h _ ih=>
  intro c hc;rcases qK.1 hc with rfl | hc
  ·exact f _ _ _ h fun k hk=>qU _ hk
  ·exact ih (fun c e pl g hs=>f c e pl g fun k hk=>qI _ (hs k hk)) c hc
theorem ChL.len {P:List (List UInt8)} (hz:5<=z):∀ {l:List Int} {a:Int} {b:List UInt8},ChL P z a l b->l.length*(z-4)<=b.length+(z-5)
 | [],_,_,_=>by simp
 | k::l,a,b,⟨_,h2,_,_,h5⟩=>by
  have ih:=ChL.len hz h5;have hb:=kC.2 h2;rw [qH] at ih;rw [qV,Nat.succ_mul];by_cases h6:z-4<=b.length
  ·omega
  ·have h7:l.length=0:=by
    cases l with
    | nil=>rfl
    | cons k' l'=>
     exfalso;exact h5.2.1 (qN (by omega))
   rw [h7];omega
theorem Ents.few {M:Nat} (hz:256<=z) (h:Ents P z a l p):(∀e∈l,e.2.length<=M)->p.length<=l.length*(M / 252+1):=by
 induction h with
 | nil=>intro _;simp
 | @cons c e pl es l ps h _ ih=>
  intro g;have h1:=ih fun x hx=>g x (qQ _ hx);have h2:=ChL.len (by omega) h.c;have h3:=g e (by simp);have h4:pl.length<=M / 252+1:=by
   rw [qH] at h2;by_cases h0:pl.length=0
   ·omega
   ·have h5:(pl.length-1)*252<=M:=by
     have h6:pl.length*(z-4)=(pl.length-1)*(z-4)+(z-4):=by
      conv=>lhs;rw [show pl.length=pl.length-1+1 by omega]
      rw [Nat.succ_mul]
     have h7:(pl.length-1)*252<=(pl.length-1)*(z-4):=Nat.mul_le_mul_left _ (by omega);omega
    have:=(Nat.le_div_iff_mul_le (by omega:0<252)).2 h5;omega
  rw [qA,qV,Nat.succ_mul];omega
end
section
variable {P:List (List UInt8)} {root:Int} {d:Nat} {lo hi m:Option Int} {ks ys:List Int} {es L R:List Cel} {ps:List Int}
theorem Sb.lt {k:Int} {a b:Option Int} {e:List Cel} {p:List Int} (s:Sb P d k a b e p):(∀x y,a=some x->b=some y->x<y):=by
 intro x y hx hy;obtain ⟨c,hc⟩:=List.exists_mem_of_ne_nil _ s.srt.2;have:=s.srt.1.b c hc;have h1:=this.1 x hx;have h2:=this.2 y hy;omega
theorem SgL.bnd (s:SgL (Sb P d) lo m ks ys es ps):(∀c∈es,∃y,m=some y/\c.key<=y)/\∀a,lo=some a->∃y,m=some y/\a<=y:=by
 induction s with
 | nil=>exact ⟨by simp,fun a h=>⟨a,h,Int.le_refl _⟩⟩
 | @cons k y lo m ks ys e1 e2 p1 p2 h _ ih=>
  obtain ⟨x,hx,hyx⟩:=ih.2 y rfl;refine ⟨fun c hc=>?_,fun a ha=>⟨x,hx,?_⟩⟩
  ·rcases qD.1 hc with hc | hc
   ·have:=(h.srt.1.b c hc).2 y rfl;exact ⟨x,hx,by omega⟩
   ·exact ih.1 c hc
  ·have:=h.lt a y ha rfl;omega
theorem SgR.bnd (s:SgR (Sb P d) m hi ys ks es ps):(∀c∈es,∃y,m=some y/\y<c.key)/\∀b,hi=some b->∃y,m=some y/\y<=b:=by
 induction s with
 | nil=>exact ⟨by simp,fun a h=>⟨a,h,Int.le_refl _⟩⟩
 | @cons k y m hi ks ys e1 e2 p1 p2 h _ ih=>
  refine ⟨fun c hc=>⟨y,rfl,?_⟩,fun b hb=>⟨y,rfl,?_⟩⟩
  ·rcases qD.1 hc with hc | hc
   ·exact (h.srt.1.b c hc).1 y rfl
   ·obtain ⟨x,hx,hxc⟩:=ih.1 c hc;have:=h.lt y x rfl hx;omega
  ·obtain ⟨x,hx,hxb⟩:=ih.2 b hb;have:=h.lt y x rfl hx;omega
theorem Ctx.bnd {up:List Stp} {k:Int} (c:Ctx P root d up k lo hi L R ps):(∀x∈L,∃a,lo=some a/\x.key<=a)/\∀x∈R,∃b,hi=some b/\b<x.key:=by
 induction c with
 | top=>exact ⟨by simp,by simp⟩
 | @step d u up k lo hi m m' L R ea eb ps pa pb ka kb ya yb h1 h2 h3 h4 h5 h6 h7 h8 h9 h10 ih=>
  refine ⟨fun x hx=>?_,fun x hx=>?_⟩
  ·rcases qD.1 hx with hx | hx
   ·obtain ⟨a,ha,hxa⟩:=ih.1 x hx;obtain ⟨y,hy,hay⟩:=h9.bnd.2 a ha;exact ⟨y,hy,by omega⟩
   ·exact h9.bnd.1 x hx
  ·rcases qD.1 hx with hx | hx
   ·exact h10.bnd.1 x hx
   ·obtain ⟨b,hb,hxb⟩:=ih.2 x hx;obtain ⟨y,hy,hyb⟩:=h10.bnd.2 b hb;exact ⟨y,hy,by omega⟩
theorem Tree.srt {D:Nat} (t:Tree P root D es ps):(es.map Cel.key).Pairwise (· < ·):=by
 obtain ⟨n,q,_,h2,_⟩:=t;exact h2.srt.1.s
end
def getE (l:List En) (key:Int):Option (List UInt8):=(l.find? fun e=>decide (e.1=key)).map Prod.snd
def putE (l:List En) (key:Int) (b:List UInt8):List En:=l.filter (fun e=>decide (e.1<key))++(key,b)::l.filter (fun e=>decide (key<e.1))
def delE (l:List En) (key:Int):List En:=l.filter fun e=>!decide (e.1=key)
theorem fil_all {α:Type} {f:α->Bool} {l:List α} (h:∀x∈l,f x=true):l.filter f=l:=List.filter_eq_self.2 h
theorem fil_no {α:Type} {f:α->Bool} {l:List α} (h:∀x∈l,f x=false):l.filter f=[]:=List.filter_eq_nil_iff.2 fun x hx=>by simp [h x hx]
section
variable {l1 l2 l3:List En} {key:Int} {b:List UInt8}
theorem putE_mid (h1:∀e∈l1,e.1<key) (h3:∀e∈l3,key<e.1):putE (l1++(l2++l3)) key b=l1++(putE l2 key b++l3):=by
 unfold putE;rw [List.filter_append,List.filter_append,List.filter_append,List.filter_append,fil_all (l:=l1) fun e he=>by simpa using h1 e he,fil_no (l:=l3) fun e he=>by have:=h3 e he;simp;omega,fil_no (l:=l1) fun e he=>by have:=h1 e he;simp;omega,fil_all (l:=l3) fun e he=>by simpa using h3 e he];simp
theorem delE_mid (h1:∀e∈l1,e.1<key) (h3:∀e∈l3,key<e.1):delE (l1++(l2++l3)) key=l1++(delE l2 key++l3):=by
 unfold delE;rw [List.filter_append,List.filter_append,fil_all (l:=l1) fun e he=>by have:=h1 e he;simp;omega,fil_all (l:=l3) fun e he=>by have:=h3 e he;simp;omega]
theorem getE_mid (h1:∀e∈l1,e.1<key) (h3:∀e∈l3,key<e.1):getE (l1++(l2++l3)) key=getE l2 key:=by
 unfold getE;have e1:l1.find? (fun e=>decide (e.1=key))=none:=List.find?_eq_none.2 fun e he=>by have:=h1 e he;simp;omega
 have e3:l3.find? (fun e=>decide (e.1=key))=none:=List.find?_eq_none.2 fun e he=>by have:=h3 e he;simp;omega
 rw [List.find?_append,List.find?_append,e1,e3];simp
end
section
variable {P:List (List UInt8)} {z:Nat} {cs:List Cel} {l:List En} {p:List Int} {key:Int} {i:Nat} {is:Bool}
theorem PlcN.gt (hp:PlcN cs key i is) (hs:(cs.map Cel.key).Pairwise (· < ·)) {j:Nat} (hj:j<cs.length) (h:i+(if is=true then 1 else 0)<=j):key<cs[j].key:=by
 cases is with
 | true=>
  obtain ⟨h1,h2⟩:=hp.is rfl;rw [<-h2];exact key_lt hs h1 hj (by simp at h;omega)
 | false=>
  simp only [Bool.false_eq_true,if_false,Nat.add_zero] at h;have h1:=hp.no rfl (by omega);have h2:=hp.hi hs i (by omega) (qR _);rcases Nat.lt_or_eq_of_le h with h3 | h3
  ·have:=key_lt hs (by omega) hj h3;omega
  ·subst h3;omega
theorem PlcN.ent (hp:PlcN cs key i is) (h:Ents P z cs l p) (hs:(cs.map Cel.key).Pairwise (· < ·)):(∀e∈l.take i,e.1<key)/\(∀e∈l.drop (i+if is=true then 1 else 0),key<e.1)/\(is=true->∃b,l=l.take i++(key,b)::l.drop (i+1)/\∃h:i<l.length,l[i]=(key,b)):=by
 have hk:=h.keys;have hl:=h.len;have hg:∀j (hj:j<l.length),l[j].1=(cs[j]'(by omega)).key:=fun j hj=>by
  have h1:(cs.map Cel.key)[j]? = (l.map Prod.fst)[j]?:=by rw [hk]
  rw [List.getElem?_map,List.getElem?_map,List.getElem?_eq_getElem (by omega),List.getElem?_eq_getElem hj] at h1;simpa using h1.symm
 refine ⟨fun e he=>?_,fun e he=>?_,fun hi=>?_⟩
 ·obtain ⟨j,hj,rfl⟩:=qO.1 he;rw [qJ] at hj;rw [List.getElem_take,hg j (by omega)];exact hp.lo hs j (by omega) (by omega)
 ·obtain ⟨j,hj,rfl⟩:=qO.1 he;rw [qH] at hj;rw [List.getElem_drop,hg _ (by omega)];exact hp.gt hs (by omega) (by omega)
 ·obtain ⟨h1,h2⟩:=hp.is hi;have h3:=hg i (by omega);have h4:l[i]=(key,l[i].2):=Prod.ext (by rw [h3,h2]) rfl;refine ⟨l[i].2,?_,by omega,h4⟩;rw [<-h4,List.getElem_cons_drop,qT]
theorem PlcN.put (hp:PlcN cs key i is) (h:Ents P z cs l p) (hs:(cs.map Cel.key).Pairwise (· < ·)) {b:List UInt8} : putE l key b=l.take i++(key,b)::l.drop (i+if is=true then 1 else 0):=by
 obtain ⟨h1,h2,h3⟩:=hp.ent h hs;unfold putE;cases is with
 | true=>
  obtain ⟨b',h4,_⟩:=h3 rfl;simp only [if_true] at h2⊢;generalize l.take i=l1 at *;generalize l.drop (i+1)=l2 at *;subst h4;rw [List.filter_append,List.filter_append,List.filter_cons,List.filter_cons,fil_all (l:=l1) fun e he=>by simpa using h1 e he,fil_no (l:=l2) fun e he=>by have:=h2 e he;simp;omega,fil_no (l:=l1) fun e he=>by have:=h1 e he;simp;omega,fil_all (l:=l2) fun e he=>by simpa using h2 e he];simp
 | false=>
  simp only [Bool.false_eq_true,if_false,Nat.add_zero] at h2⊢;have h4:=qT i l;generalize l.take i=l1 at *;generalize l.drop i=l2 at *;subst h4;rw [List.filter_append,List.filter_append,fil_all (l:=l1) fun e he=>by simpa using h1 e he,fil_no (l:=l2) fun e he=>by have:=h2 e he;simp;omega,fil_no (l:=l1) fun e he=>by have:=h1 e he;simp;omega,fil_all (l:=l2) fun e he=>by simpa using h2 e he];simp
theorem PlcN.del (hp:PlcN cs key i is) (h:Ents P z cs l p) (hs:(cs.map Cel.key).Pairwise (· < ·)):delE l key=l.take i++l.drop (i+if is=true then 1 else 0):=by
 obtain ⟨h1,h2,h3⟩:=hp.ent h hs;unfold delE;cases is with
 | true=>
  obtain ⟨b',h4,_⟩:=h3 rfl;simp only [if_true] at h2⊢;generalize l.take i=l1 at *;generalize l.drop (i+1)=l2 at *;subst h4;rw [List.filter_append,List.filter_cons,fil_all (l:=l1) fun e he=>by have:=h1 e he;simp;omega,fil_all (l:=l2) fun e he=>by have:=h2 e he;simp;omega];simp
 | false=>
  simp only [Bool.false_eq_true,if_false,Nat.add_zero] at h2⊢;have h4:=qT i l;generalize l.take i=l1 at *;generalize l.drop i=l2 at *;subst h4;rw [List.filter_append,fil_all (l:=l1) fun e he=>by have:=h1 e he;simp;omega,fil_all (l:=l2) fun e he=>by have:=h2 e he;simp;omega]
theorem PlcN.get (hp:PlcN cs key i is) (h:Ents P z cs l p) (hs:(cs.map Cel.key).Pairwise (· < ·)):(is=true->∃h:i<l.length,l[i].1=key/\getE l key=some l[i].2)/\(is=false->getE l key=none):=by
 obtain ⟨h1,h2,h3⟩:=hp.ent h hs;unfold getE;refine ⟨fun hi=>?_,fun hi=>?_⟩
 ·subst hi;obtain ⟨b',h4,hil,h5⟩:=h3 rfl;refine ⟨hil,by rw [h5],?_⟩;rw [h5];have e1:(l.take i).find? (fun e=>decide (e.1=key))=none:=List.find?_eq_none.2 fun e he=>by have:=h1 e he;simp;omega
  conv=>lhs;rw [h4]
  rw [List.find?_append,e1];simp
 ·subst hi;simp only [Bool.false_eq_true,if_false,Nat.add_zero] at h2;have h4:=qT i l;have e1:(l.take i).find? (fun e=>decide (e.1=key))=none:=List.find?_eq_none.2 fun e he=>by have:=h1 e he;simp;omega
  have e2:(l.drop i).find? (fun e=>decide (e.1=key))=none:=List.find?_eq_none.2 fun e he=>by have:=h2 e he;simp;omega
  rw [<-h4,List.find?_append,e1,e2];rfl
end
open Go Go.HL
section
variable {cs:List Cel} {b:List UInt8}
structure TW (w:St) (Q:Trk) (X Y:List Int) (root:Int) (D:Nat) (es:List Cel) (l:List En) (tp cp:List Int):Prop where
 o:Own_ w Q X
 px:X.Perm (tp++(cp++Y))
 t:Tree w.now root D es tp
 e:Ents w.now w.z es l cp
structure MidL (w w1:St) (Q1:Trk) (X1 Y tp:List Int) (L R ca cb:List Cel) (l lA lB:List En) (key:Int) (pA pB:List Int):Prop where
 o:Own_ w1 Q1 X1
 px:X1.Perm (tp++((pA++pB)++Y))
 k:KX w w1 X1
 n:w1.now.length=w.now.length
 a:Ents w1.now w1.z (L++ca) lA pA
 b:Ents w1.now w1.z (cb++R) lB pB
 del:delE l key=lA++lB
 put:∀b,putE l key b=lA++(key,b)::lB
section
variable {w w1:St} {Q Q1:Trk} {X X1 Y tp cp pc pb pA pB:List Int} {root key no:Int} {D i:Nat} {is:Bool} {es e0 L R:List Cel} {l lA lB:List En} {up:List Stp} {n:Nod} {lo hi:Option Int}
theorem WayS.sides (s:WayS w root D es tp key 0 up no n lo hi L R e0 pc pb):(∀c∈L,c.key<key)/\(∀c∈R,key<c.key)/\e0=n.cells/\pb=[]/\n.kind=1/\(n.cells.map Cel.key).Pairwise (· < ·)/\∀c∈n.cells,Inb lo hi c.key:=by
 obtain ⟨h1,h2,h3,h4,h5⟩:=s.l;have hb:=s.c.bnd;refine ⟨fun c hc=>?_,fun c hc=>?_,h2,h3,h1,h4,h5⟩
 ·obtain ⟨a,ha,hca⟩:=hb.1 c hc;have:=s.k.1 a ha;omega
 ·obtain ⟨a,ha,hca⟩:=hb.2 c hc;have:=s.k.2 a ha;omega
theorem ents_lt {P:List (List UInt8)} {z:Nat} {l:List En} {p:List Int} (h:Ents P z cs l p) {G:Int->Prop} (hk:∀c∈cs,G c.key):∀e∈l,G e.1:=by
 intro e he;have:e.1∈l.map Prod.fst:=List.mem_map_of_mem he;rw [<-h.keys] at this;obtain ⟨c,hc,e1⟩:=kS.1 this;rw [<-e1];exact hk c hc
theorem WayS.ents (s:WayS w root D es tp key 0 up no n lo hi L R e0 pc pb) (h:Ents w.now w.z es l cp):∃l1 l2 l3 p1 p2 p3,l=l1++(l2++l3)/\cp=p1++(p2++p3)/\Ents w.now w.z L l1 p1/\Ents w.now w.z n.cells l2 p2/\Ents w.now w.z R l3 p3/\(∀e∈l1,e.1<key)/\∀e∈l3,key<e.1:=by
 obtain ⟨g1,g2,g3,_⟩:=s.sides;have he:=s.es;rw [g3] at he;subst he;obtain ⟨l1,lx,p1,px,rfl,rfl,h1,hx⟩:=h.split;obtain ⟨l2,l3,p2,p3,rfl,rfl,h2,h3⟩:=hx.split;exact ⟨l1,l2,l3,p1,p2,p3,rfl,rfl,h1,h2,h3,ents_lt (G:=fun y=>y<key) h1 g1,ents_lt (G:=fun y=>key<y) h3 g2⟩
theorem TW.get (t:TW w Q X Y root D es l tp cp) (s:WayS w root D es tp key 0 up no n lo hi L R e0 pc pb) (hp:PlcN n.cells key i is):(is=true->∃(h:i<n.cells.length) (b:List UInt8) (pl:List Int),getE l key=some b/\CelE w.now w.z n.cells[i] (key,b) pl/\(∀k∈pl,k∈X)/\pl.Nodup)/\(is=false->getE l key=none):=by
 obtain ⟨l1,l2,l3,p1,p2,p3,rfl,rfl,h1,h2,h3,g1,g3⟩:=s.ents t.e;have hs:=s.sides.2.2.2.2.2.1;rw [getE_mid g1 g3];obtain ⟨q1,q2⟩:=hp.get h2 hs;refine ⟨fun hi=>?_,q2⟩;obtain ⟨hil,q3,q4⟩:=q1 hi;have hic:i<n.cells.length:=by rw [h2.len];exact hil
 obtain ⟨la,e,lb,pa,pl,pb',rfl,rfl,ea,_,hc,_⟩:=h2.at_ hic;have hel:(la++e::lb)[i]=e:=by simp [List.getElem_append,ea]
 rw [hel] at q3 q4;refine ⟨hic,e.2,pl,q4,?_,fun k hk=>t.px.mem_iff.2 (by simp [hk]),?_⟩
 ·rw [<-q3];exact hc
 ·have:=t.px.nodup_iff.1 t.o.nx;have:=(kT.1 this).2.1;have:=(kT.1 this).1;have:=(kT.1 this).2.1;have:=(kT.1 this).1;have:=(kT.1 this).2.1;exact (kT.1 this).1
theorem TW.chain (t:TW w Q X Y root D es l tp cp) {c:Cel} {pl:List Int} (hc:CelE w.now w.z c (key,b) pl) (hx:∀k∈pl,k∈X) (hn:pl.Nodup):chF w (c.spill:Int) ((c.total:Int)-(c.loc.length:Int))=(pl,b.drop (nbE w.z b),0)/\c.loc++b.drop (nbE w.z b)=b:=by
 have hz:=t.o.fr.zc;refine ⟨?_,by rw [hc.l];exact qT _ _⟩;rw [hc.rest];refine ChL.get (z:=w.z) (by omega) (by rw [t.o.fr.pgs];exact hc.c) hn (fun k hk=>by have:=t.o.rg (hx k hk);rw [t.o.fr.pgs];exact ⟨this.1,this.2.1⟩) ?_;have:=hc.m;rw [qH];simp only at this⊢;omega
theorem TW.mid (t:TW w Q X Y root D es l tp cp) (s:WayS w root D es tp key 0 up no n lo hi L R e0 pc pb) (hp:PlcN n.cells key i is):∃w1 Q1 X1 lA lB pA pB,(is=true->∃h:i<n.cells.length,dropF w (n.cells[i].spill:Int) ((n.cells[i].total:Int)-(n.cells[i].loc.length:Int))=(w1,0))/\(is=false->w1=w)/\X1.length<=X.length/\MidL w w1 Q1 X1 Y tp L R (n.cells.take i) (n.cells.drop (i+if is=true then 1 else 0)) l lA lB key pA pB:=by
 obtain ⟨l1,l2,l3,p1,p2,p3,rfl,rfl,h1,h2,h3,g1,g3⟩:=s.ents t.e;have hs:=s.sides.2.2.2.2.2.1;have hd:=hp.del h2 hs;have hpu:=fun b=>hp.put h2 hs (b:=b);cases is with
 | false=>
  simp only [Bool.false_eq_true,if_false,Nat.add_zero] at hd hpu⊢;have h4:=h2;rw [<-qT i n.cells] at h4;obtain ⟨la,lb,pa,pb',e1,e2,ha,hb⟩:=h4.split;have hla:la.length=i:=by rw [<-ha.len,qJ];have:=hp.le;omega
  have t1:l2.take i=la:=by rw [e1,List.take_left' hla]
  have t2:l2.drop i=lb:=by rw [e1,List.drop_left' hla]
  rw [t1,t2] at hd hpu;refine ⟨w,Q,X,l1++la,lb++l3,p1++pa,pb'++p3,fun h=>(by cases h),fun _=>rfl,qR _,t.o,?_,KX.refl _ _,rfl,h1.app ha,hb.app h3,?_,fun b=>?_⟩
  ·rw [e2] at t;have:=t.px;simpa using this
  ·rw [delE_mid g1 g3,hd];simp
  ·rw [putE_mid g1 g3,hpu];simp
 | true=>
  simp only [if_true] at hd hpu⊢;obtain ⟨hi,hik⟩:=hp.is rfl;obtain ⟨la,e,lb,pa,pl,pb',e1,e2,hla,ha,hc,hb⟩:=h2.at_ hi;have t1:l2.take i=la:=by rw [e1,List.take_left' hla]
  have t2:l2.drop (i+1)=lb:=by rw [e1,<-List.drop_drop,List.drop_left' hla];rfl
  rw [t1,t2] at hd hpu;subst e1 e2;have hpx:X.Perm (pl++(tp++(((p1++pa)++(pb'++p3))++Y))):=by
   refine t.px.trans ?_;rw [List.perm_iff_count];intro a;simp only [List.count_append];omega
  have hm:=hc.m;obtain ⟨w1,Q1,d1,d2,d3,d4⟩:=(t.o.perm hpx.symm).drop hc.c (by rw [qH];omega);rw [<-hc.rest] at d1;have hkp:∀k,k∈p1++pa\/k∈pb'++p3->pageAt w1.now k=pageAt w.now k:=fun k hk=>d3.pg k (by simp at hk⊢;grind);refine ⟨w1,Q1,_,l1++la,lb++l3,p1++pa,pb'++p3,fun _=>⟨hi,d1⟩,fun h=>(by cases h),?_,d2,.refl _,d3,d4,?_,?_,?_,fun b=>?_⟩
  ·rw [hpx.length_eq];simp
  ·rw [d3.z];exact (h1.app ha).congr fun k hk=>hkp k (.inl hk)
  ·rw [d3.z];exact (hb.app h3).congr fun k hk=>hkp k (.inr hk)
  ·rw [delE_mid g1 g3,hd];simp
  ·rw [putE_mid g1 g3,hpu];simp
theorem parts_few {n:Nat} (hn:252<=n) (h:b.length<=16384):(parts b n).length<=66:=by
 have:=(parts_len (n:=n) (by omega) b.length b (qR _)).1;apply Nat.le_of_not_lt;intro h67;have:67*n<=(parts b n).length*n:=qE _ h67;omega
theorem WayS.stl {Q2:Trk} {w2:St} {X2 Y2:List Int} {l2:List En} {cp2:List Int} (s:WayS w root D es tp key 0 up no n lo hi L R e0 pc pb) (hno:(pageAt w.now no).length=w.z) (o:Own_ w2 Q2 X2) (px:X2.Perm (tp++(cp2++Y2))) (k:KX w w2 tp) (e:Ents w2.now w2.z (L++(cs++R)) l2 cp2) (hsr:(cs.map Cel.key).Pairwise (· < ·)) (hin:∀c∈cs,Inb lo hi c.key) (htk:tksC 1 cs<=tksC 1 n.cells+w.z / 4):Stl w2 Q2 X2 (cp2++Y2) root 0 up no ⟨n.kind,cs,n.right⟩ lo hi L R cs pc []:=by
 obtain ⟨_,_,g3,g4,g5,g6,g7⟩:=s.sides;have hz:=o.fr.zc;have hd:=decNd_some s.nd;have hft:=hd.2.1;have hps:=s.ps;rw [g4,kX] at hps;have hrg:∀k∈cp2,1<=k/\k<=1048576:=fun j hj=>by
  have:=o.rg (px.mem_iff.2 (qI _ (qU _ hj)));have:=o.fr.few;omega
 have hall:∀c∈L++(cs++R),okCl 1 c/\SmC 1 w2.z c:=e.all fun c e pl hc hp=>⟨hc.ok fun j hj=>hrg j (hp j hj),hc.sm (by omega) fun j hj=>hrg j (hp j hj)⟩;refine ⟨o,?_,s.c.congr fun j hj=>k.nd (hps.mem_iff.2 (qQ _ hj)),⟨g5,rfl,rfl,hsr,hin⟩,⟨?_,?_,fun c hc=>?_⟩,fun a b ha hb=>?_,fun c hc=>(hall c hc).2,?_⟩
 ·refine px.trans ?_;have:=hps.append_right (cp2++Y2);simpa using this
 ·show okKd n.kind=true;rw [g5];rfl
 ·exact hd.1.r
 ·show okCl n.kind c;rw [g5];exact (hall c (by simp [hc])).1
 ·have h1:=s.k.1 a ha;have h2:=s.k.2 b hb;omega
 ·rw [hno] at hft;have h1:tksC n.kind n.cells+10<=w.z:=hft;have hkz:=k.z;show tksC n.kind cs<=_;rw [g5] at h1⊢;omega
theorem tksC_cut {k i j:Nat} (h:i<=j):tksC k (cs.take i++cs.drop j)<=tksC k cs:=by
 rw [tksC_app];have h1:=tksC_split (k:=k) (cs:=cs) i;have h2:=tksC_split (k:=k) (cs:=cs.drop i) (j-i);rw [List.drop_drop,show i+(j-i)=j by omega] at h2;omega
theorem MidL.dlt (m:MidL w w1 Q1 X1 Y tp L R (n.cells.take i) (n.cells.drop (i+if is=true then 1 else 0)) l lA lB key pA pB) (s:WayS w root D es tp key 0 up no n lo hi L R e0 pc pb) (hno:(pageAt w.now no).length=w.z):Stl w1 Q1 X1 ((pA++pB)++Y) root 0 up no ⟨n.kind,n.cells.take i++n.cells.drop (i+if is=true then 1 else 0),n.right⟩ lo hi L R (n.cells.take i++n.cells.drop (i+if is=true then 1 else 0)) pc []/\Ents w1.now w1.z (L++((n.cells.take i++n.cells.drop (i+if is=true then 1 else 0))++R)) (delE l key) (pA++pB):=by
 have he:=m.a.app m.b;rw [<-m.del] at he;have e1:L++n.cells.take i++(n.cells.drop (i+if is=true then 1 else 0)++R)=L++((n.cells.take i++n.cells.drop (i+if is=true then 1 else 0))++R):=by simp
 rw [e1] at he;obtain ⟨_,_,g3,g4,g5,g6,g7⟩:=s.sides;refine ⟨s.stl hno m.o m.px (m.k.mono fun j hj=>m.px.mem_iff.2 (qU _ hj)) he ?_ (fun c hc=>?_) ?_,he⟩
 ·have hsub:(n.cells.take i++n.cells.drop (i+if is=true then 1 else 0)).Sublist n.cells:=by
   conv=>rhs;rw [<-qT i n.cells]
   exact List.Sublist.append_left (List.drop_sublist_drop_left _ (by omega)) _
  exact g6.sublist (hsub.map _)
 ·rcases qD.1 hc with h | h
  ·exact g7 c (qC h)
  ·exact g7 c (kQ h)
 ·have:=tksC_cut (k:=1) (cs:=n.cells) (show i<=i+if is=true then 1 else 0 by omega);omega
theorem MidL.ins (m:MidL w w1 Q1 X1 Y tp L R (n.cells.take i) (n.cells.drop (i+if is=true then 1 else 0)) l lA lB key pA pB) (s:WayS w root D es tp key 0 up no n lo hi L R e0 pc pb) (hp:PlcN n.cells key i is) (hno:(pageAt w.now no).length=w.z) (hb:b.length<=16384) (hk:i64K key) {B:Nat} (hN:w.now.length<=B) (hX:X1.length+67<=B) (hBB:(B+70)*w.z<=16777216) :
  ∃w2 Q2 first pl,putF w1 (b.drop (nbE w1.z b))=(w2,first,0)/\0<=first/\first<=1048576/\pl.length<=66/\w2.now.length<=B/\KX w w2 X1/\Stl w2 Q2 (pl++X1) ((pA++(pl++pB))++Y) root 0 up no ⟨n.kind,n.cells.take i++(⟨key,0,b.length,b.take (nbE w1.z b),first.toNat⟩:Cel)::n.cells.drop (i+if is=true then 1 else 0),n.right⟩ lo hi L R (n.cells.take i++(⟨key,0,b.length,b.take (nbE w1.z b),first.toNat⟩:Cel)::n.cells.drop (i+if is=true then 1 else 0)) pc []/\
   Ents w2.now w2.z (L++((n.cells.take i++(⟨key,0,b.length,b.take (nbE w1.z b),first.toNat⟩:Cel)::n.cells.drop (i+if is=true then 1 else 0))++R)) (putE l key b) (pA++(pl++pB)):=by
 have hz:=m.o.fr.zc;have hkz:=m.k.z;have hbd:(b.drop (nbE w1.z b)).length<=16384:=by rw [qH];omega
 have hpf:=parts_few (b:=b.drop (nbE w1.z b)) (n:=w1.z-4) (by omega) hbd;have hmn:=m.n;obtain ⟨w2,Q2,pl,q1,q2,q3,q4,q5,q6⟩:=m.o.put hbd (by
  refine kN (qE _ (show w1.now.length+(parts (b.drop (nbE w1.z b)) (w1.z-4)).length<=B+70 by omega)) ?_;rw [hkz];exact hBB)
 have hf:0<=pl.getD 0 0/\pl.getD 0 0<=1048576:=by
  cases hpl:pl with
  | nil=>exact ⟨Int.le_refl _,by decide⟩
  | cons k pl'=>
   have:=q2.rg (k:=k) (by rw [hpl];simp);have:=q2.fr.few;exact ⟨by show 0<=k;omega,by show k<=1048576;omega⟩
 have hc:CelE w2.now w2.z (⟨key,0,b.length,b.take (nbE w1.z b),(pl.getD 0 0).toNat⟩:Cel) (key,b) pl:=⟨rfl,hk,rfl,rfl,by rw [q4.z],by
  show ChL w2.now w2.z (((pl.getD 0 0).toNat:Nat):Int) pl (b.drop (nbE w2.z b));rw [Int.toNat_of_nonneg hf.1,q4.z];exact q3,hb⟩
 have hin1:∀j,j∈pA\/j∈pB->j∈X1:=fun j hj=>m.px.mem_iff.2 (by simp;grind);have he:=(m.a.congr (Q:=w2.now) fun j hj=>q4.pg j (hin1 j (.inl hj)));have he2:=(m.b.congr (Q:=w2.now) fun j hj=>q4.pg j (hin1 j (.inr hj)));rw [<-q4.z] at he he2;have hE:=he.app (.cons hc he2);rw [<-m.put] at hE;have e1:∀c:Cel,L++n.cells.take i++c::(n.cells.drop (i+if is=true then 1 else 0)++R)=L++((n.cells.take i++c::n.cells.drop (i+if is=true then 1 else 0))++R):=fun c=>by simp
 rw [e1] at hE;obtain ⟨_,_,g3,g4,g5,g6,g7⟩:=s.sides;have hkx:KX w w2 X1:=m.k.trans q4 fun _ h=>h;have hsm:SmC 1 w2.z (⟨key,0,b.length,b.take (nbE w1.z b),(pl.getD 0 0).toNat⟩:Cel):=hc.sm (by rw [q4.z];omega) fun j hj=>by
  have:=q2.rg (k:=j) (qU _ hj);have:=q2.fr.few;omega
 refine ⟨w2,Q2,_,pl,q1,hf.1,hf.2,by omega,?_,hkx,s.stl hno q2 ?_ (hkx.mono fun j hj=>m.px.mem_iff.2 (qU _ hj)) hE ?_ (fun c hc=>?_) ?_,hE⟩
 ·rw [qA] at q5;omega
 ·refine (m.px.append_left pl).trans ?_;rw [List.perm_iff_count];intro a;simp only [List.count_append];omega
 ·rw [kJ,kE,List.pairwise_append];refine ⟨g6.sublist ((List.take_sublist _ _).map _),kK.2 ⟨fun y hy=>?_,g6.sublist ((List.drop_sublist _ _).map _)⟩,fun x hx y hy=>?_⟩
  ·obtain ⟨c,hc,rfl⟩:=kS.1 hy;obtain ⟨j,hj,rfl⟩:=qO.1 hc;rw [qH] at hj;rw [List.getElem_drop];exact hp.gt g6 (by omega) (by omega)
  ·obtain ⟨c,hc,rfl⟩:=kS.1 hx;obtain ⟨j,hj,rfl⟩:=qO.1 hc;rw [qJ] at hj;rw [List.getElem_take];have h1:=hp.lo g6 j (by omega) (by omega);rcases qK.1 hy with rfl | hy
   ·exact h1
   ·obtain ⟨c,hc,rfl⟩:=kS.1 hy;obtain ⟨j',hj',rfl⟩:=qO.1 hc;rw [qH] at hj';rw [List.getElem_drop];have h2:=hp.gt g6 (j:=i+(if is=true then 1 else 0)+j') (by omega) (by omega);omega
 ·rcases qD.1 hc with h | h
  ·exact g7 c (qC h)
  ·rcases qK.1 h with rfl | h
   ·exact s.k
   ·exact g7 c (kQ h)
 ·have h1:=tksC_cut (k:=1) (cs:=n.cells) (show i<=i+if is=true then 1 else 0 by omega);have h2:=hsm.w;rw [tksC_app] at h1⊢;show _+(wC 1 _+tksC 1 _)<=_;have hzz:=q4.z.trans hkz;omega
end
theorem Fin_.tw {w2 w3:St} {Q3:Trk} {Y cp:List Int} {root:Int} {es:List Cel} {l:List En} (f:Fin_ w2 w3 Q3 (cp++Y) root es) (e:Ents w2.now w2.z es l cp):∃X3 D tp,TW w3 Q3 X3 Y root D es l tp cp/\KX w2 w3 Y:=by
 obtain ⟨X3,D,tp,h1,h2,h3,h4⟩:=f;exact ⟨X3,D,tp,⟨h1,h2,h3,by rw [h4.z];exact e.congr fun k hk=>h4.pg k (qU _ hk)⟩,h4.mono fun j hj=>qI _ hj⟩
end
end Go.Proofs.YtfegfklipbnhjaaGreat
namespace Go.HL
open Go Go.Proofs.YtfegfklipbnhjaaGreat
theorem Hp.part2 {h0 h:Heap} {D:Nat->Prop} {M R:List Itm} {a:Itm} (ok:Hp h0 D (a::M) R h) (x y:Itm) (hx:x.p h) (hy:y.p h) (fx:∀j,x.F j->a.F j) (fy:∀j,y.F j->a.F j) (hd:∀j,x.F j->¬y.F j):Hp h0 D (x::y::M) R h:=by
 have hm:=kK.1 ok.mm;have ha:=ok.m a qX;refine ⟨ok.chg,fun i hi=>?_,ok.r,kK.2 ⟨fun b hb j hj hb2=>?_,kK.2 ⟨fun b hb j hj hb2=>hm.1 b hb j (fy j hj) hb2,hm.2⟩⟩,fun i hi b hb j hj hb2=>?_⟩
 ·rcases qK.1 hi with rfl | hi
  ·exact ⟨hx,fun j hj=>ha.2 j (fx j hj)⟩
  ·rcases qK.1 hi with rfl | hi
   ·exact ⟨hy,fun j hj=>ha.2 j (fy j hj)⟩
   ·exact ok.m i (qQ _ hi)
 ·rcases qK.1 hb with rfl | hb
  ·exact hd j hj hb2
  ·exact hm.1 b hb j (fx j hj) hb2
 ·rcases qK.1 hi with rfl | hi
  ·exact ok.mr a qX b hb j (fx j hj) hb2
  ·rcases qK.1 hi with rfl | hi
   ·exact ok.mr a qX b hb j (fy j hj) hb2
   ·exact ok.mr i (qQ _ hi) b hb j hj hb2
theorem OpA.litB {P:Program} {s:Slots} {h0 h:Heap} {D:Nat->Prop} {M R:List Itm} {d:Option Tmp} {ty t:TypeId} {pos:String} {af:Array Edge} {g:Option (Nat × Bool)} (xs:List Operand) {n k:Nat} {e:TypeId} {z:Value} {l:List (Nat × Operand)} {cs:List Value} (ht:elB P t=some e) (hk:szB P e=some k) (hz:zrB P e=some z) (ok:Hp h0 D M R h) (hx:V.AllSz s k xs) (hcs:(xs.flatMap fun x=>(ev s x).cells.toList)=cs:=by exact rfl)
  (hl:l=V.idx 0 xs:=by exact rfl) (hn:n=xs.length:=by exact rfl) (hnk:Nat.ble (n*k) 16777216=true:=by exact rfl) :
  OpA P ⟨d,.buildSlice t n l.toArray,ty,pos,af,g⟩ s h (fun v h'=>∃b,v=.slice (some ⟨b,0,none⟩) n n/\Hp h0 D (boxI b e cs::M) R h'):=fun E w at'=>by
 subst hl hn;obtain ⟨w',at2,hr⟩:=V.buildSlice (d:=d) (ty:=ty) (pos:=pos) (af:=af) (g:=g) (t:=t) (h:=h) xs ht hk hz rfl rfl hnk hx (cs:=cs.toArray) (by simpa using hcs) E w at';exact ⟨_,_,w',⟨h.size,rfl,ok.newM (Ext.push _ _) _ (push_same _ _) (fun j hj=>by simp at hj⊢;omega)⟩,at2,hr⟩
@[reducible] def pcI (E:Nat->Prop) (css:List (List Value)) (l:List Cel):Itm:=⟨fun h=>All2 (Rep.rd h E) css l,E,fun _ _ _ c d hp=>hp.mono fun _ _ q=>Rep.st c d q⟩
section
variable {h0 h:Heap} {D E:Nat->Prop} {M R:List Itm} {e eb:TypeId} {a x:Option Addr} {n c c' i:Nat} {l:List Cel} {css:List (List Value)} {v:Cel} {k:Int}
theorem Hp.accOpen (ok:Hp h0 D (accI e (a,n,c) (none,0,0) E l []::M) R h):∃css,css.length=l.length/\Hp h0 D (capI 5 e (a,n,c) css.flatten::pcI E css l::M) R h:=by
 have c0:Acc h e (a,n,c) (none,0,0) E l []:=ok.m0;obtain ⟨css,h1,h2⟩:=c0.cap;exact ⟨css,h2.1,ok.part2 _ _ h1 h2 (fun _ h=>.inl h) (fun _ h=>.inr (.inr h)) fun j hj he=>c0.apart j he hj⟩
theorem Hp.accShut (ok:Hp h0 D (capI 5 e (a,n,c) css.flatten::pcI E css l::M) R h):Hp h0 D (accI e (a,n,c) (none,0,0) E l []::M) R h:=by
 have hm:=kK.1 ok.mm;exact ok.fuse _ ⟨⟨css,ok.m0,ok.m1⟩,RdL.nil _ _ _,fun _ _ _ _ _ _ _ h=>(by cases h),fun j hj hb=>hm.1 _ qX j hb hj⟩ fun j hj=>by
  rcases hj with h | h | h
  ·exact .inl h
  ·obtain ⟨_,_,_,e⟩:=h;cases e
  ·exact .inr h
theorem flat_take5 (r:All2 (Rep.rd h E) css l) {m:Nat} : css.flatten.take (m*5)=(css.take m).flatten:=All2.flat_take r
theorem flat_drop5 (r:All2 (Rep.rd h E) css l) {m:Nat} : css.flatten.drop (m*5)=(css.drop m).flatten:=by
 have h1:=flat_take5 r (m:=m);have h2:css.flatten=(css.take m).flatten++(css.drop m).flatten:=by rw [<-List.flatten_append,qT]
 have h3:=qT (m*5) css.flatten;rw [h1] at h3;exact List.append_cancel_left (h3.trans h2)
theorem All2.drop {α β:Type} {R:α->β->Prop} {l:List α} {m:List β} (h:All2 R l m) (k:Nat):All2 R (l.drop k) (m.drop k):=⟨by rw [qH,qH,h.1],fun i h1 h2=>by rw [List.getElem_drop,List.getElem_drop];exact h.2 _ _ _⟩
theorem Hp.pcDel (ok:Hp h0 D (capI 5 e (a,n,c) (css.flatten.take (i*5)++css.flatten.drop ((i+1)*5))::pcI E css l::M) R h):Hp h0 D (capI 5 e (a,n,c) (css.take i++css.drop (i+1)).flatten::pcI E (css.take i++css.drop (i+1)) (l.take i++l.drop (i+1))::M) R h:=by
 have h2:All2 (Rep.rd h E) css l:=ok.m1;rw [flat_take5 h2,flat_drop5 h2,<-List.flatten_append] at ok;exact (ok.n1.re (pcI E (css.take i++css.drop (i+1)) (l.take i++l.drop (i+1))) (All2.append (h2.take i) (h2.drop (i+1))) fun _ h=>h).n1
theorem Hp.pcIns (ok:Hp h0 D (capI 5 e (a,n,c) (css.flatten.take (i*5)++[.J v.key,.J (v.child:Int),.J (v.total:Int),.slice x v.loc.length c',.J (v.spill:Int)]++css.flatten.drop (i*5))::pcI E css l::capI 1 eb (x,v.loc.length,c') (v.loc.map bv)::M) R h) (hk:i64K v.key):Hp h0 D (accI e (a,n,c) (none,0,0) (fun j=>E j\/blkC (.slice x v.loc.length c') j) (l.take i++v::l.drop i) []::M) R h:=by
 have h2:All2 (Rep.rd h E) css l:=ok.m1;have hb:RdL h (blkC (.slice x v.loc.length c')) none_ (x,v.loc.length,c') v.loc:=RdL.of_cap1 (f:=bv) rfl (fun _ _ _=>rfl) ok.m2;rw [flat_take5 h2,flat_drop5 h2] at ok;have e1:∀c0:List Value,(css.take i).flatten++c0++(css.drop i).flatten=(css.take i++c0::css.drop i).flatten:=fun c0=>by simp
 rw [e1] at ok;have ok2:=(ok.n1.n2).fuse (pcI (fun j=>E j\/blkC (.slice x v.loc.length c') j) (css.take i++[.J v.key,.J (v.child:Int),.J (v.total:Int),.slice x v.loc.length c',.J (v.spill:Int)]::css.drop i) (l.take i++v::l.drop i)) ?_ ?_
 ·exact Hp.accShut ok2.n1
 ·exact All2.append ((h2.take i).mono fun _ _ r=>Rep.mono (fun _ h=>.inl h) r) (.cons ⟨(x,v.loc.length,c'),rfl,hb.mono (fun _ h=>.inr h) (fun _ h=>h.elim),hk.1,hk.2⟩ ((h2.drop i).mono fun _ _ r=>Rep.mono (fun _ h=>.inl h) r))
 ·exact fun j hj=>hj.elim .inr .inl
end
end Go.HL
namespace Go.Proofs.YtfegfklipbnhjaaGreat
open Go Go.HL
section
variable {l:List Cel} {i:Nat}
theorem del_len (h:i<l.length):i+(l.length-(i+1))=(l.take i++l.drop (i+1)).length:=by rw [qA,qJ,qH];omega
theorem ins_cut1 {j:Nat} {v:Cel} (h:i<=l.length):(l.take i++l.drop j).take i++v::(l.take i++l.drop j).drop i=l.take i++v::l.drop j:=by
 have hl:(l.take i).length=i:=by rw [qJ];omega
 rw [List.take_left' hl,List.drop_left' hl]
theorem okCl1_b {c:Cel} (h:okCl 1 c):c.loc.length<=c.total/\c.total<=16384/\c.spill<=1048576:=by
 have h4:=h.2.2.2;rw [if_pos (by decide:hasPy 1=true)] at h4;refine ⟨h4.2.1,h4.1,?_⟩;have h5:=h4.2.2;split at h5
 ·omega
 ·have:=pgNo_b h5;omega
theorem tput1_any {G:Pgr} {h:Heap} {D F E E9:Nat->Prop} {so wb wo c dx sb kb bb bc nb:Nat} {x ba:Option Addr} {v0 v1 v2 v4:Value} {ss:List Stp} {w w1 w2:St} {is:Bool} {key:Int} {fs:Nat} {bl:List UInt8} {Fl El:Nat->Prop} (ok:Hp h D [wyI 154 (some ⟨wb,wo,none⟩,ss.length+1,c) E ss [v0,v1,v2,.slice x l.length dx,v4],accI 113 (x,l.length,dx) (none,0,0) E9 l [],dsI G so F w] [celI sb 0 [.P so],celI kb 0 [.J key],celI bb 0 [.slice ba bl.length bc],rdI Fl El (ba,bl.length,bc) bl] h) (hi:i<=l.length) (hN:l.length<=100000) (hoc:∀c∈l,okCl 1 c) (hyes:is=true->∃h:i<l.length,dropF w (l[i].spill:Int) ((l[i].total:Int)-(l[i].loc.length:Int))=(w1,0)) (hno:is=false->w1=w) (hz1:okSz w1.z=true) (hnb:nb=min bl.length (w1.z / 4-36)) (hbl:bl.length<=16384) (hpt:putF w1 (bl.drop nb)=(w2,(fs:Int),0)) (hky:i64K key) :
  Hc 60 #[.pointer (some ⟨wb,wo+ss.length*5+2,none⟩),.J (i:Int),.bool is,.P sb,.P kb,.P bb] h (fun v h'=>∃F' x' d' E',v=.tuple #[.bool true,.J 0]/\Hp h D [wyI 154 (some ⟨wb,wo,none⟩,ss.length+1,c) E ss [v0,v1,v2,.slice x' (l.take i++(⟨key,0,bl.length,bl.take nb,fs⟩:Cel)::l.drop (i+if is=true then 1 else 0)).length d',v4],accI 113 (x',(l.take i++(⟨key,0,bl.length,bl.take nb,fs⟩:Cel)::l.drop (i+if is=true then 1 else 0)).length,d') (none,0,0) E' (l.take i++(⟨key,0,bl.length,bl.take nb,fs⟩:Cel)::l.drop (i+if is=true then 1 else 0)) [],dsI G so F' w2] [] h'):=by
 have hiL:i<=(l.take i++l.drop (i+if is=true then 1 else 0)).length:=by rw [qA,qJ];omega
 have hLN:(l.take i++l.drop (i+if is=true then 1 else 0)).length<=100000:=by rw [qA,qJ,qH];omega
 have hln:(l.take i++l.drop (i+if is=true then 1 else 0)).length+1=(l.take i++(⟨key,0,bl.length,bl.take nb,fs⟩:Cel)::l.drop (i+if is=true then 1 else 0)).length:=by simp only [qA,qV];omega
 refine HC.go Tryz.func60 59 ?_;refine .s<|.z .asB<|.z .asI<|.nil<|.seq<|.s<|.z .mvB<|.nil<|.join (fun s hh=>∃(x1:Option Addr) (d1:Nat) (css:List (List Value)) (F1:Nat->Prop),Has s [(0,.pointer (some ⟨wb,wo+ss.length*5+2,none⟩)),(1,.J (i:Int)),(3,.P sb),(4,.P kb),(5,.P bb)]/\Hp h D [capI 5 113 (x1,(l.take i++l.drop (i+if is=true then 1 else 0)).length,d1) css.flatten,pcI E9 css (l.take i++l.drop (i+if is=true then 1 else 0)),wyI 154 (some ⟨wb,wo,none⟩,ss.length+1,c) E ss [v0,v1,v2,.slice x1 ((l.take i++l.drop (i+if is=true then 1 else 0)).length) d1,v4],dsI G so F1 w1] [celI sb 0 [.P so],celI kb 0 [.J key],celI bb 0 [.slice ba bl.length bc],rdI Fl El (ba,bl.length,bc) bl] hh) ?_ ?_
 ·
  refine .cond (fun C0=>?_) (fun C0=>?_)
  ·
   obtain ⟨hil,hdr⟩:=hyes (by simpa using C0);have hci:=hoc _ (qP hil);have hcb:=okCl1_b hci;obtain ⟨xb,xo,rfl,_⟩:=(Acc.rd ok.m1).pos (by show 0<l.length;omega);refine .seq<|.seq<|.t 8 mixed ?_;simp only [kZ,kM,kH,kY];refine .z (.ld T.ag24 (ok.r0 0 _ rfl))<|.z .mvP<|.z .nil<|.z (.fa T.fd116_1)<|.z (.ld T.ag114 (Hp.wyAt (ok)).2.2.2.1)<|.z .mvI<|.z (.ix i T.el114 T.sz113)<|?_;obtain ⟨xa1,xc1,hv1,hw1,hk1⟩:=RdL.cel (Acc.rd ok.m1) (i:=i) hil;refine .z (.ldc (vs:=celV l[i] xa1 xc1) T.ag113 hv1 T.sz113)<|.nil ?_;refine .c' 23 .func (tloose_any (G:=G) (ky:=l[i].key) (ch:=l[i].child) (tt:=l[i].total) (la:=xa1) (lcc:=xc1) (lc:=l[i].loc) (sp:=l[i].spill) (w2:=w1) (cd:=0) ⟨by omega,by omega⟩ ⟨by omega,by omega⟩ (ok.n2).loc0 hdr) ?_;rintro _ U1 ⟨F1,rfl,q⟩;have ok:=(ok.n2).lift1 q;refine .z .asI<|.nil<|.s<|.z .mvI<|.z .neq<|.nil<|.cf<|.skip<|.r<|.z .mvP<|.z .mvP<|.z .nil<|.z (.fa T.fd116_1)<|.z (.ld T.ag114 (Hp.wyAt (ok.n1)).2.2.2.1)<|.z .mvI<|.z .mvI<|.z (.addI (b:=1))<|?_;rw [show ((i+1:Nat):Int)=((i+1:Nat):Int) from by omega];obtain ⟨css,hcl,ok⟩:=(ok.n2).accOpen;refine .c' 35 .func (delC_any (i:=i) (j:=i+1) (n:=l.length) ok.loc0 (by omega) (by omega) (All2.one ok.m1) (by omega)) ?_;rintro _ U2 ⟨rfl,q⟩;have ok:=(ok.lift1 q).pcDel;rw [del_len hil] at ok⊢;refine .z .nil<|.z (.fa T.fd116_1)<|.ur' (.stWy1 T.sz114 (ok.n3) rfl rfl) ?_;rintro U3 ok;refine .nil ?_;refine .end<|⟨some ⟨xb,xo,none⟩,dx,css.take i++css.drop (i+1),F1,⟨rfl,rfl,rfl,rfl,rfl,trivial⟩,(by rw [show l.take i++l.drop (i+if is=true then 1 else 0)=l.take i++l.drop (i+1) from by rw [show is=true from (by simpa using C0)];rfl];exact ok.n3.n1.n3.n3.k4)⟩
  refine .skip<|.end<|?_;obtain ⟨css,hcl,ok⟩:=(ok.n1).accOpen;obtain rfl:=hno (by simpa using C0);have hli:l.take i++l.drop (i+if is=true then 1 else 0)=l:=by rw [show is=false from (by simpa using C0)];simp
  refine ⟨x,dx,css,F,⟨rfl,rfl,rfl,rfl,rfl,trivial⟩,(by rw [hli];exact ok.k4)⟩
 rintro s U4 ⟨x1,d1,css,F1,hs,ok⟩;refine .frame hs fun τ=>?_;refine .s<|.z (.ld T.ag24 (ok.r0 0 _ rfl))<|.z (.ld T.ag2 (ok.r1 0 _ rfl))<|.z (.ld T.ag35 (ok.r2 0 _ rfl))<|.c' 42 .func (tcell_any (key:=key) (first:=(fs:Int)) (nb:=nb) (w2:=w2) (ok.n3.f3).loc1 hz1 hnb (by omega) hpt) ?_;rintro _ U5 ⟨F2,xb1,cb1,rfl,q⟩;have ok:=(ok.n3).lift2 q;refine .z .mvU<|.z .ex<|.z .ex<|.a' 12 (.alA T.zr113 ok) ?_;rintro _ U6 ⟨pb1,rfl,ok,xe⟩;refine .ur' (.stW (vs:=[.J key,.J 0,.J (bl.length:Int),.slice xb1 ((bl.take nb).length) cb1,.J (fs:Int)]) T.sz113 ok (oneL rfl)) ?_;rintro U7 ⟨ok,cg⟩;refine .z .asI<|.nil<|.seq<|.s<|.z .mvI<|.z .neq<|.nil<|.cf<|.skip<|.seq<|.a 11 (fun fl hh=>cond fl True (Hp h D [boxI pb1 113 [.J key,.J 0,.J (bl.length:Int),.slice xb1 ((bl.take nb).length) cb1,.J (fs:Int)],dsI G so F2 w2,wyI 154 (some ⟨wb,wo,none⟩,ss.length+1,c) E ss [v0,v1,v2,.slice x1 ((l.take i++l.drop (i+if is=true then 1 else 0)).length) d1,v4]] [celI sb 0 [.P so],celI kb 0 [.J key],celI bb 0 [.slice ba bl.length bc],rdI Fl El (ba,bl.length,bc) bl] hh)) mixed ?_;have hS:=ok.n5.n3.n2.k3;refine .g 0 false rfl 48 hS (fun _=>.mvP)<|.g 1 false rfl 49 hS (fun _=>.mvP)<|.g 2 false rfl 50 hS (fun _=>.nil)<|.g 3 false rfl 51 hS (fun _=>.fa T.fd116_1)<|.l 4 false rfl 52 hS (fun _ hS=>.ld T.ag114 (Hp.wyAt (hS.n2)).2.2.2.1)<|.g 5 false rfl 53 hS (fun _=>.mvI)<|.l 6 false rfl 54 hS (fun _ hS=>.ldb T.ag113 hS.m0 T.sz113)<|.o1 7<|.a' false rfl 55 (.litB [.tmp 54] (cs:=[.J key,.J 0,.J (bl.length:Int),.slice xb1 ((bl.take nb).length) cb1,.J (fs:Int)]) T.el114 T.sz113 T.zr113 ok ⟨rfl,trivial⟩) ?_;rintro _ U8 ⟨lb1,rfl,ok⟩;refine ⟨ok.n6.n4.n3.k3,?_⟩;have hS:=ok.n6.n4.n3.k3;refine .o1 8<|.c' false rfl 56 .func (insC_any (i:=i) (m:=1) (n:=(l.take i++l.drop (i+if is=true then 1 else 0)).length) (Hp.locM2 (ok.n4)) rfl (by omega) hiL (All2.one ok.m5) (by intro u hu;simp only [qK,List.not_mem_nil,or_false] at hu;rcases hu with rfl | rfl | rfl | rfl | rfl<;>rfl) (by omega)) ?_;rintro _ U9 ⟨x2,d2,rfl,q⟩;have ok:=(ok.n4).lift1 q;have ok:=Hp.pcIns (v:=(⟨key,0,bl.length,bl.take nb,fs⟩:Cel)) (ok.n3.n5.n2) hky;rw [ins_cut1 hi,hln] at ok;rw [hln];refine ⟨ok.n4.n4.n4.k3,?_⟩;have hS:=ok.n4.n4.n4.k3;refine .g 9 false rfl 57 hS (fun _=>.nil)<|.g 10 false rfl 58 hS (fun _=>.fa T.fd116_1)<|.o1 11<|.ur' true rfl (.stWy1 T.sz114 (ok.n4) rfl rfl) ?_;rintro U10 ok;refine ⟨trivial,?_⟩;refine .e ?_;refine .s<|.z .asB<|.z .asI<|.nil<|.ret ⟨.tuple #[.bool true,.J 0],Res.two rfl rfl rfl,⟨F2,x2,d2,_,rfl,(ok.n4.n2.n2).k3.e0⟩⟩
theorem tdrop1_any {G:Pgr} {h:Heap} {D F E E9:Nat->Prop} {so wb wo c dx sb:Nat} {x:Option Addr} {v0 v1 v2 v4:Value} {ss:List Stp} {w w1:St} {is:Bool} (ok:Hp h D [wyI 154 (some ⟨wb,wo,none⟩,ss.length+1,c) E ss [v0,v1,v2,.slice x l.length dx,v4],accI 113 (x,l.length,dx) (none,0,0) E9 l [],dsI G so F w] [celI sb 0 [.P so]] h) (hi:i<=l.length) (hN:l.length<=100000) (hoc:∀c∈l,okCl 1 c) (hyes:is=true->∃h:i<l.length,dropF w (l[i].spill:Int) ((l[i].total:Int)-(l[i].loc.length:Int))=(w1,0)) (hno:is=false->w1=w) :
  Hc 57 #[.pointer (some ⟨wb,wo+ss.length*5+2,none⟩),.J (i:Int),.bool is,.P sb] h (fun v h'=>∃F' x' d' E',v=.tuple #[.bool is,.J 0]/\Hp h D [wyI 154 (some ⟨wb,wo,none⟩,ss.length+1,c) E ss [v0,v1,v2,.slice x' (l.take i++l.drop (i+if is=true then 1 else 0)).length d',v4],accI 113 (x',(l.take i++l.drop (i+if is=true then 1 else 0)).length,d') (none,0,0) E' (l.take i++l.drop (i+if is=true then 1 else 0)) [],dsI G so F' w1] [] h'):=by
 refine HC.go Tryz.func57 33 ?_;refine .s<|.z .asB<|.z .asI<|.nil<|.seq<|.s<|.z .mvB<|.z .not<|.nil<|.cond (fun C0=>?_) (fun C0=>?_)
 ·
  refine .s<|.z .asB<|.z .asI<|.nil<|.ret ⟨.tuple #[.bool false,.J 0],Res.two rfl rfl rfl,(by
   have hf:is=false:=(by simpa using C0);obtain rfl:=hno hf;have hli:l.take i++l.drop (i+if is=true then 1 else 0)=l:=by rw [hf];simp
   exact ⟨_,x,dx,_,by rw [hf],by rw [hli];exact (ok).k3.e0⟩)⟩
 obtain ⟨hil,hdr⟩:=hyes (by simpa using C0);have hci:=hoc _ (qP hil);have hcb:=okCl1_b hci;have hli:l.take i++l.drop (i+if is=true then 1 else 0)=l.take i++l.drop (i+1):=by rw [show is=true from (by simpa using C0)];rfl
 obtain ⟨xb,xo,rfl,_⟩:=(Acc.rd ok.m1).pos (by show 0<l.length;omega);refine .skip<|.s<|.z .mvP<|.z .nil<|.z (.fa T.fd116_1)<|.z (.ld T.ag114 (Hp.wyAt (ok)).2.2.2.1)<|.z .mvI<|.z (.ix i T.el114 T.sz113)<|?_;obtain ⟨xa1,xc1,hv1,hw1,hk1⟩:=RdL.cel (Acc.rd ok.m1) (i:=i) hil;refine .z (.ldc (vs:=celV l[i] xa1 xc1) T.ag113 hv1 T.sz113)<|.a' 9 (.alA T.zr113 ok) ?_;rintro _ U1 ⟨pb1,rfl,ok,xe⟩;refine .ur' (.stW (vs:=[.J (l[i].key),.J (l[i].child:Int),.J (l[i].total:Int),.slice xa1 (l[i].loc.length) xc1,.J (l[i].spill:Int)]) T.sz113 ok (oneL rfl)) ?_;rintro U2 ⟨ok,cg⟩;refine .nil ?_;refine .s<|.z .mvP<|.z .mvP<|.z .nil<|.z (.fa T.fd116_1)<|.z (.ld T.ag114 (Hp.wyAt (ok.n1)).2.2.2.1)<|.z .mvI<|.z .mvI<|.z (.addI (b:=1))<|?_;rw [show ((i+1:Nat):Int)=((i+1:Nat):Int) from by omega];obtain ⟨css,hcl,ok⟩:=(ok.n2).accOpen;refine .c' 27 .func (delC_any (i:=i) (j:=i+1) (n:=l.length) ok.loc0 (by omega) (by omega) (All2.one ok.m1) (by omega)) ?_;rintro _ U3 ⟨rfl,q⟩;have ok:=(ok.lift1 q).pcDel;rw [del_len hil] at ok⊢;refine .z .nil<|.z (.fa T.fd116_1)<|.ur' (.stWy1 T.sz114 (ok.n3) rfl rfl) ?_;rintro U4 ok;refine .nil ?_;refine .s<|.z (.ld T.ag24 (ok.r0 0 _ rfl))<|.z (.ldb T.ag113 ok.m3 T.sz113)<|.c' 32 .func (tloose_any (G:=G) (ky:=l[i].key) (ch:=l[i].child) (tt:=l[i].total) (la:=xa1) (lcc:=xc1) (lc:=l[i].loc) (sp:=l[i].spill) (w2:=w1) (cd:=0) ⟨by omega,by omega⟩ ⟨by omega,by omega⟩ (ok.n4).loc0 hdr) ?_;rintro _ U5 ⟨F1,rfl,q⟩;have ok:=(ok.n4).lift1 q;refine .z .asB<|.z .asI<|.nil<|.ret ⟨.tuple #[.bool true,.J 0],Res.two rfl rfl rfl,⟨F1,some ⟨xb,xo,none⟩,dx,_,by rw [show is=true from (by simpa using C0)],by rw [hli];exact (Hp.accShut (ok.n3.n3)).n1.n1.n2.k3.e0⟩⟩
end
open Go Go.HL
section
variable {w:St} {Q:Trk} {X Y tp cp:List Int} {root key:Int} {es:List Cel} {l:List En}
theorem TW.none {w:St} {Q:Trk} {X Y tp cp:List Int} {root key:Int} {D:Nat} {es:List Cel} {l:List En} (t:TW w Q X Y root D es l tp cp) (h:getE l key=none):delE l key=l:=by
 unfold getE at h;rw [Option.map_eq_none_iff,List.find?_eq_none] at h;exact List.filter_eq_self.2 fun e he=>by have:=h e he;simpa using this
theorem TW.deep {w:St} {Q:Trk} {X Y tp cp:List Int} {root:Int} {D:Nat} {es:List Cel} {l:List En} (t:TW w Q X Y root D es l tp cp) (h:l.length<32768):D<=14:=by
 have:=t.t.deep (by rw [t.e.len];exact h);omega
theorem WayS.pln {no:Int} {D d:Nat} {e0 L R:List Cel} {up:List Stp} {n:Nod} {lo hi:Option Int} {pc pb:List Int} (s:WayS w root D es tp key d up no n lo hi L R e0 pc pb) (t:TW w Q X Y root D es l tp cp):(pageAt w.now no).length=w.z/\FitNd n w.z/\n.cells.length<=4096:=by
 have hin:no∈X:=t.px.mem_iff.2 (qU _ (s.ps.mem_iff.2 qX));have h1:=t.o.plen hin;have h2:=(decNd_some s.nd).2.1;rw [h1] at h2;have:=tks_n h2;have:=t.o.fr.zc;exact ⟨h1,h2,by omega⟩
theorem SmC.few {k z:Nat} {l:List Cel} (h:tksC k l<=2*z+z / 4) (hz:z<=4096):l.length<=100000:=by
 have:=tksC_ge (k:=k) (l:=l);omega
theorem tatP_any {G:Pgr} {h:Heap} {D F Fl El:Nat->Prop} {so B Dp sb kb bb bc:Nat} {ba:Option Addr} {bl:List UInt8} (ok:Hp h D [dsI G so F w] [celI sb 0 [.P so],celI kb 0 [.J key],celI bb 0 [.slice ba bl.length bc],rdI Fl El (ba,bl.length,bc) bl] h) (tw:TW w Q X Y root Dp es l tp cp) (hle:l.length<32768) (hky:i64K key) (hbl:bl.length<=16384) (hN:w.now.length<=B) (hX:X.length+250<=B) (hBB:(B+70)*w.z<=16777216) (hB1:B<=1000000) :
  Hc 56 #[.P so,.J root,.J key,.func (.func 60) #[] #[.P sb,.P kb,.P bb]] h (fun v h'=>∃F' w' Q' X' D' es' tp' cp' is,v=.tuple #[.bool is,.J 0]/\TW w' Q' X' Y root D' es' (putE l key bl) tp' cp'/\KX w w' Y/\w'.now.length<=B/\Hp h D [dsI G so F' w'] [] h'):=by
 have hDp:=tw.deep hle;have hBz:B*w.z<=16777216:=kN (qE _ (by omega)) hBB;refine HC.go Tryz.func56 74 ?_;refine .s<|.z .asB<|.z .asI<|.nil<|.s<|.z .mvP<|.z .mvI<|.z .mvI<|.c' 21 .func (tway_any (G:=G) (w:=w) (key:=key) (Hp.lc1 (ok)).e0 tw.o tw.px tw.t (by omega)) ?_;rintro _ U1 ⟨F1,up,no,n,lo,hi,L,R,e0,pc,pb,a,c,E,x9,c9,E9,rfl,hw,q⟩;have hup:=hw.u;obtain ⟨ss,hss⟩:∃ss,ss=up.reverse:=⟨_,rfl⟩;have hsl:up.length=ss.length:=by rw [hss,List.length_reverse]
 rw [hsl,<-hss] at q;rw [hsl];have ok:=Hp.lf1 (ok) q;obtain ⟨wb,wo,rfl⟩:=ok.wyPos;have hpn:=hw.pln tw;have hnk:=hw.sides.2.2.2.2.1;have hnok:=(decNd_some hw.nd).1;refine .z .mvU<|.z .ex<|.z .ex<|.z .asS<|.z .asI<|.nil<|.seq<|.s<|.z .mvI<|.z .neq<|.nil<|.cf<|.skip<|.s<|.z .mvS<|.z .mvS<|.z (.len T.el150)<|.z .sub<|?_;rw [show (((ss.length+1:Nat):Int)-1)=(ss.length:Int) from by omega];refine .z (.ix ss.length T.el150 T.sz154)<|.z (.fa T.fd154_2)<|.z .asP<|.nil<|.s<|.z .mvP<|.z .nil<|.z (.fa T.fd116_1)<|.z (.ld T.ag114 (Hp.wyAt (ok)).2.2.2.1)<|.z .mvI<|.c' 39 .func (tplace_any (kk:=key) (a:=x9) (c:=c9) (l:=n.cells) (Acc.rd ok.m1) (by omega)) ?_;rintro _ U2 ⟨i,is,rfl,hp,hx⟩;have ok:=ok.ext hx;have hi:=hp.le;obtain ⟨w1,Q1,X1,lA,lB,pA,pB,hyes,hno,hx1,hmid⟩:=tw.mid hw hp;obtain ⟨w2,Q2,first,pl,hpt,hf0,hf1,hpl,hb2,hk2,hst,hen⟩:=hmid.ins hw hp hpn.1 hbl hky (B:=B) hN (by omega) hBB;obtain ⟨fs,rfl⟩:∃fs:Nat,first=(fs:Int):=⟨first.toNat,(Int.toNat_of_nonneg hf0).symm⟩
 rw [Int.toNat_natCast] at hst hen;have hz1:=hmid.o.fr.z;have hzz:=hk2.z;have hxl:(pl++X1).length<=X.length+66:=by rw [qA];omega
 refine .z .mvU<|.z .ex<|.z .ex<|.z .asI<|.z .asB<|.nil<|.s<|.z .mvP<|.z .nil<|.z (.fa T.fd116_1)<|.z (.ld T.ag114 (Hp.wyAt (ok)).2.2.2.1)<|.z (.len T.el114)<|.z .asI<|.nil<|.s<|.z .mvF<|.z .mvP<|.z .mvI<|.z .mvB<|.c' 52 .dyn (tput1_any (G:=G) (w:=w) (w1:=w1) (i:=i) (l:=n.cells) (is:=is) (Hp.lc3 (ok)) (w2:=w2) (nb:=nbE w1.z bl) (bl:=bl) (key:=key) (fs:=fs) hi (by omega) (fun c hc=>by have:=hnok.c c hc;rwa [hnk] at this) hyes hno hz1 rfl hbl hpt hky) ?_;rintro _ U3 ⟨F2,x2,d2,E2,rfl,q⟩;have ok:=(Hp.lf3 (ok) q);refine .z .mvU<|.z .ex<|.z .ex<|.z .asB<|.z .asI<|.nil<|.seq<|.s<|.z .mvI<|.z .neq<|.z .mvB<|.z .mvB<|.z .not<|.z .pkf<|.nil<|.cf<|.skip<|.s<|.z .mvB<|.z .mvP<|.z .mvS<|.z .mvP<|.z .nil<|.z (.fa T.fd116_1)<|.z (.ld T.ag114 (Hp.wyAt (ok)).2.2.2.1)<|.z (.len T.el114)<|.z .mvI<|.z .lss<|?_;have ok2:=(Hp.wyClose (u:=(⟨no,0,(⟨n.kind,n.cells.take i++(⟨key,0,bl.length,bl.take (nbE w1.z bl),fs⟩:Cel)::n.cells.drop (i+if is=true then 1 else 0),n.right⟩:Nod)⟩:Stp)) (ok)).k2.e0;have hc9:=setC_all (G:=G) (so:=so) (B:=B) (z:=w2.z) (root:=root) (Y:=(pA++(pl++pB))++Y) (esT:=L++((n.cells.take i++(⟨key,0,bl.length,bl.take (nbE w1.z bl),fs⟩:Cel)::n.cells.drop (i+if is=true then 1 else 0))++R)) (by rw [hzz];exact hBz) up.length (by omega) (u:=(⟨no,0,(⟨n.kind,n.cells.take i++(⟨key,0,bl.length,bl.take (nbE w1.z bl),fs⟩:Cel)::n.cells.drop (i+if is=true then 1 else 0),n.right⟩:Nod)⟩:Stp)) (decide ((((n.cells.take i++(⟨key,0,bl.length,bl.take (nbE w1.z bl),fs⟩:Cel)::n.cells.drop (i+if is=true then 1 else 0)).length:Nat):Int)<(n.cells.length:Int))) (Hp.lc2 ok2) hss rfl hst rfl rfl hb2 (by omega) hB1 (by show (n.cells.take i++(⟨key,0,bl.length,bl.take (nbE w1.z bl),fs⟩:Cel)::n.cells.drop (i+if is=true then 1 else 0)).length<=_;exact SmC.few hst.tk (by rw [hzz];have:=tw.o.fr.zc;omega));rw [show (ss++[(⟨no,0,(⟨n.kind,n.cells.take i++(⟨key,0,bl.length,bl.take (nbE w1.z bl),fs⟩:Cel)::n.cells.drop (i+if is=true then 1 else 0),n.right⟩:Nod)⟩:Stp)]).length=ss.length+1 from qA] at hc9 ok2;refine .c' 73 .func hc9 ?_;rintro _ U4 ⟨F9,w9,Q9,rfl,hf9,hb9,q⟩;refine .z .asB<|.z .asI<|.nil<|.ret ⟨.tuple #[.bool is,.J 0],Res.two rfl rfl rfl,(by
  obtain ⟨X3,D3,tp3,hT,hk3⟩:=hf9.tw hen;exact ⟨F9,w9,Q9,X3,D3,_,tp3,_,is,rfl,hT,(hk2.mono fun j hj=>hmid.px.mem_iff.2 (by simp [hj])).trans hk3 (fun _ h=>h),hb9,(Hp.lf2 ok2 q).k1⟩)⟩
theorem tatD_any {G:Pgr} {h:Heap} {D F:Nat->Prop} {so B Dp sb:Nat} (ok:Hp h D [dsI G so F w] [celI sb 0 [.P so]] h) (tw:TW w Q X Y root Dp es l tp cp) (hle:l.length<32768) (hky:i64K key) (hN:w.now.length<=B) (hX:X.length+250<=B) (hBB:(B+70)*w.z<=16777216) (hB1:B<=1000000) :
  Hc 56 #[.P so,.J root,.J key,.func (.func 57) #[] #[.P sb]] h (fun v h'=>∃F' w' Q' X' D' es' tp' cp',v=.tuple #[.bool (getE l key).isSome,.J 0]/\TW w' Q' X' Y root D' es' (delE l key) tp' cp'/\KX w w' Y/\w'.now.length<=B/\Hp h D [dsI G so F' w'] [] h'):=by
 have hDp:=tw.deep hle;have hBz:B*w.z<=16777216:=kN (qE _ (by omega)) hBB;refine HC.go Tryz.func56 74 ?_;refine .s<|.z .asB<|.z .asI<|.nil<|.s<|.z .mvP<|.z .mvI<|.z .mvI<|.c' 21 .func (tway_any (G:=G) (w:=w) (key:=key) (Hp.lc1 (ok)).e0 tw.o tw.px tw.t (by omega)) ?_;rintro _ U1 ⟨F1,up,no,n,lo,hi,L,R,e0,pc,pb,a,c,E,x9,c9,E9,rfl,hw,q⟩;have hup:=hw.u;obtain ⟨ss,hss⟩:∃ss,ss=up.reverse:=⟨_,rfl⟩;have hsl:up.length=ss.length:=by rw [hss,List.length_reverse]
 rw [hsl,<-hss] at q;rw [hsl];have ok:=Hp.lf1 (ok) q;obtain ⟨wb,wo,rfl⟩:=ok.wyPos;have hpn:=hw.pln tw;have hnk:=hw.sides.2.2.2.2.1;have hnok:=(decNd_some hw.nd).1;refine .z .mvU<|.z .ex<|.z .ex<|.z .asS<|.z .asI<|.nil<|.seq<|.s<|.z .mvI<|.z .neq<|.nil<|.cf<|.skip<|.s<|.z .mvS<|.z .mvS<|.z (.len T.el150)<|.z .sub<|?_;rw [show (((ss.length+1:Nat):Int)-1)=(ss.length:Int) from by omega];refine .z (.ix ss.length T.el150 T.sz154)<|.z (.fa T.fd154_2)<|.z .asP<|.nil<|.s<|.z .mvP<|.z .nil<|.z (.fa T.fd116_1)<|.z (.ld T.ag114 (Hp.wyAt (ok)).2.2.2.1)<|.z .mvI<|.c' 39 .func (tplace_any (kk:=key) (a:=x9) (c:=c9) (l:=n.cells) (Acc.rd ok.m1) (by omega)) ?_;rintro _ U2 ⟨i,is,rfl,hp,hx⟩;have ok:=ok.ext hx;have hi:=hp.le;obtain ⟨w1,Q1,X1,lA,lB,pA,pB,hyes,hno,hx1,hmid⟩:=tw.mid hw hp;obtain ⟨hst,hen⟩:=hmid.dlt hw hpn.1;have hzz:=hmid.k.z;have hgt:=tw.get hw hp;have hgs:(getE l key).isSome=is:=by
  cases is with
  | true=>obtain ⟨_,_,_,h1,_⟩:=hgt.1 rfl;rw [h1];rfl
  | false=>rw [hgt.2 rfl];rfl
 refine .z .mvU<|.z .ex<|.z .ex<|.z .asI<|.z .asB<|.nil<|.s<|.z .mvP<|.z .nil<|.z (.fa T.fd116_1)<|.z (.ld T.ag114 (Hp.wyAt (ok)).2.2.2.1)<|.z (.len T.el114)<|.z .asI<|.nil<|.s<|.z .mvF<|.z .mvP<|.z .mvI<|.z .mvB<|.c' 52 .dyn (tdrop1_any (G:=G) (w:=w) (w1:=w1) (i:=i) (l:=n.cells) (is:=is) (Hp.lc3 (ok)) hi (by omega) (fun c hc=>by have:=hnok.c c hc;rwa [hnk] at this) hyes hno) ?_;rintro _ U3 ⟨F2,x2,d2,E2,rfl,q⟩;have ok:=(Hp.lf3 (ok) q);refine .z .mvU<|.z .ex<|.z .ex<|.z .asB<|.z .asI<|.nil<|.seq<|.s<|.z .mvI<|.z .neq<|.z .mvB<|.z .mvB<|.z .not<|.z .pkf<|.nil<|.cond (fun C1=>?_) (fun C1=>?_)
 ·
  refine .s<|.z .mvB<|.z .mvI<|.z .asB<|.z .asI<|.nil<|.ret ⟨.tuple #[.bool is,.J 0],Res.two rfl rfl rfl,(by
   have hf:is=false:=(by simpa using C1);have hw1:=hno hf;have hgn:=hgt.2 hf;exact ⟨_,w1,Q,X,Dp,es,tp,cp,by rw [hgs],by rw [hw1,tw.none hgn];exact tw,by rw [hw1];exact KX.refl _ _,by rw [hw1];exact hN,(ok.n2).k1.e0⟩)⟩
 refine .skip<|.s<|.z .mvB<|.z .mvP<|.z .mvS<|.z .mvP<|.z .nil<|.z (.fa T.fd116_1)<|.z (.ld T.ag114 (Hp.wyAt (ok)).2.2.2.1)<|.z (.len T.el114)<|.z .mvI<|.z .lss<|?_;have ok2:=(Hp.wyClose (u:=(⟨no,0,(⟨n.kind,n.cells.take i++n.cells.drop (i+if is=true then 1 else 0),n.right⟩:Nod)⟩:Stp)) (ok)).k2.e0;have hc9:=setC_all (G:=G) (so:=so) (B:=B) (z:=w1.z) (root:=root) (Y:=(pA++pB)++Y) (esT:=L++((n.cells.take i++n.cells.drop (i+if is=true then 1 else 0))++R)) (by rw [hzz];exact hBz) up.length (by omega) (u:=(⟨no,0,(⟨n.kind,n.cells.take i++n.cells.drop (i+if is=true then 1 else 0),n.right⟩:Nod)⟩:Stp)) (decide ((((n.cells.take i++n.cells.drop (i+if is=true then 1 else 0)).length:Nat):Int)<(n.cells.length:Int))) (Hp.lc2 ok2) hss rfl hst rfl rfl (by have:=hmid.n;omega) (by omega) hB1 (by show (n.cells.take i++n.cells.drop (i+if is=true then 1 else 0)).length<=_;exact SmC.few hst.tk (by rw [hzz];have:=tw.o.fr.zc;omega));rw [show (ss++[(⟨no,0,(⟨n.kind,n.cells.take i++n.cells.drop (i+if is=true then 1 else 0),n.right⟩:Nod)⟩:Stp)]).length=ss.length+1 from qA] at hc9 ok2;refine .c' 73 .func hc9 ?_;rintro _ U4 ⟨F9,w9,Q9,rfl,hf9,hb9,q⟩;refine .z .asB<|.z .asI<|.nil<|.ret ⟨.tuple #[.bool is,.J 0],Res.two rfl rfl rfl,(by
  obtain ⟨X3,D3,tp3,hT,hk3⟩:=hf9.tw hen;exact ⟨F9,w9,Q9,X3,D3,_,tp3,_,by rw [hgs],hT,(hmid.k.mono fun j hj=>hmid.px.mem_iff.2 (by simp [hj])).trans hk3 (fun _ h=>h),hb9,(Hp.lf2 ok2 q).k1⟩)⟩
end
open Go Go.HL
section
variable {w:St} {Q:Trk} {X:List Int} {B so:Nat} {G:Pgr} {h:Heap} {F D:Nat->Prop}
theorem Own_.made (o:Own_ w Q X) (hN:w.now.length<=B) (hX:X.length+3<=B) (hBB:B*w.z<=16777216):∃w1 w2 Q2 no,takeF w=(w1,no,0)/\w1.z=w.z/\FitNd (⟨1,[],0⟩:Nod) w1.z/\OkNd (⟨1,[],0⟩:Nod)/\w1.write no (encNd (⟨1,[],0⟩:Nod) w1.z)=(w2,0)/\TW w2 Q2 (no::X) X no 0 [] [] [no] []/\KX w w2 X/\w2.now.length<=B/\(2<=no/\no<=65536):=by
 obtain ⟨w1,Q1,no,h1,h2,h3,h4⟩:=take_ok o hN (by omega) hBB;have hz:=h2.fr.zc;have hf:FitNd (⟨1,[],0⟩:Nod) w1.z:=by show 0+10<=w1.z;omega
 have ho:OkNd (⟨1,[],0⟩:Nod):=⟨rfl,rfl,by simp⟩;have hr:=h2.rg (k:=no) (by simp);have hw:=h2.fr.few;obtain ⟨w2,g1,g2,g3,g4,g5⟩:=h2.write (b:=encNd (⟨1,[],0⟩:Nod) w1.z) (encNd_len hf);refine ⟨w1,w2,Q1,no,h1,h3.z,hf,ho,g1,⟨g2,by simp,⟨⟨1,[],0⟩,[],by unfold ndAt;rw [g3];exact decNd_enc hf (by omega) ho,⟨rfl,rfl,rfl,.nil,by simp⟩,fun h=>absurd rfl h,rfl⟩,.nil⟩,h3.trans g4 fun _ h=>h,by omega,hr.1,by omega⟩
theorem treadyT_any (hd:(dsI G so F w).p h) (hin:w.in_=true) :
  Hc 55 #[.P so] h (fun v h'=>v=.J 0/\h'=h):=by
 refine HC.go Tryz.func55 10 ?_;refine .s<|.z .asI<|.nil<|.seq<|.block fun K0 hK0=>.s<|.z .mvP<|.z (.pEqS T.pt24)<|.z .asB<|.nil<|.cf<|.s<|.z .mvP<|.k 8 .func (sIn_any hd)<|.z .not<|.z .asB<|.nil<|.cond (fun C1=>?_) (fun C1=>?_)
 ·
  rw [hin] at C1;cases C1
 refine .skip<|.end<|hK0 _ _<|.s<|.z .asI<|.nil<|.ret ⟨.J 0,Res.one rfl rfl,⟨rfl,rfl⟩⟩
theorem tput_any {Fl El:Nat->Prop} {Dp bc:Nat} {ba:Option Addr} {Y tp cp:List Int} {root key:Int} {es:List Cel} {l:List En} {bl:List UInt8} (ok:Hp h D [dsI G so F w] [rdI Fl El (ba,bl.length,bc) bl] h) (tw:TW w Q X Y root Dp es l tp cp) (hle:l.length<32768) (hky:i64K key) (hbl:bl.length<=16384) (hN:w.now.length<=B) (hX:X.length+250<=B) (hBB:(B+70)*w.z<=16777216) (hB1:B<=1000000) :
  Hc 17 #[.P so,.J root,.J key,.slice ba bl.length bc] h (fun v h'=>∃F' w' Q' X' D' es' tp' cp',v=.J 0/\TW w' Q' X' Y root D' es' (putE l key bl) tp' cp'/\KX w w' Y/\w'.now.length<=B/\Hp h D [dsI G so F' w'] [] h'):=by
 have hin:=tw.o.fr.i;refine HC.go Tryz.func17 29 ?_;refine .s<|.a' 4 (.bxP ok) ?_;rintro _ U1 ⟨pb1,rfl,ok,xe⟩;refine .a' 6 (.bxI ok) ?_;rintro _ U2 ⟨pb2,rfl,ok,xe⟩;refine .a' 7 (.bxS ok) ?_;rintro _ U3 ⟨pb3,rfl,ok,xe⟩;refine .z .asI<|.nil<|.seq<|.s<|.z (.ldx T.ag24 ok.m2)<|.k 13 .func (treadyT_any (G:=G) (F:=F) (w:=w) ok.m3 hin)<|.z .asI<|.nil<|.s<|.z .mvI<|.z .neq<|.nil<|.cf<|.skip<|.seq<|.s<|.z (.ldx T.ag35 ok.m0)<|.z (.len T.el35)<|.z .gtr<|.nil<|.cd (fun C1=>?_) (fun C1=>?_)
 ·
  omega
 refine .skip<|.seq<|?_;have ok:=(ok).frz;have ok:=ok.d0 (celI pb3 0 [.slice ba bl.length bc]) (box_cel ok.r0) (fun _ x=>x);have ok:=(ok).frz;have ok:=ok.d0 (celI pb2 0 [.J key]) (box_cel ok.r0) (fun _ x=>x);have ok:=(ok).frz;have ok:=ok.d0 (celI pb1 0 [.P so]) (box_cel ok.r0) (fun _ x=>x);have ok:=ok.sub (R':=[celI pb1 0 [.P so],celI pb2 0 [.J key],celI pb3 0 [.slice ba bl.length bc],rdI Fl El (ba,bl.length,bc) bl]) (by simp);refine .r<|.z (.ld T.ag24 (ok.r0 0 _ rfl))<|.z .mvI<|.z (.ld T.ag2 (ok.r1 0 _ rfl))<|.z (.mkf (vs:=[.P pb1,.P pb2,.P pb3]))<|.c' 25 .func (tatP_any (Hp.lc1 (ok)) tw hle hky hbl hN hX hBB hB1) ?_;rintro _ U4 ⟨F',w',Q',X',D',es',tp',cp',is,rfl,h1,h2,h3,q⟩;refine .z .mvU<|.z .ex<|.z .ex<|.z .asB<|.z .asI<|.nil<|.s<|.z .mvI<|.z .asI<|.nil<|.ret ⟨.J 0,Res.one rfl rfl,⟨F',w',Q',X',D',es',tp',cp',rfl,h1,h2,h3,(Hp.lf1 (ok) q).k1.e0⟩⟩
theorem tdrop_any {Dp:Nat} {Y tp cp:List Int} {root key:Int} {es:List Cel} {l:List En} (ok:Hp h D [dsI G so F w] [] h) (tw:TW w Q X Y root Dp es l tp cp) (hle:l.length<32768) (hky:i64K key) (hN:w.now.length<=B) (hX:X.length+250<=B) (hBB:(B+70)*w.z<=16777216) (hB1:B<=1000000) :
  Hc 16 #[.P so,.J root,.J key] h (fun v h'=>∃F' w' Q' X' D' es' tp' cp',v=.tuple #[.bool (getE l key).isSome,.J 0]/\TW w' Q' X' Y root D' es' (delE l key) tp' cp'/\KX w w' Y/\w'.now.length<=B/\Hp h D [dsI G so F' w'] [] h'):=by
 have hin:=tw.o.fr.i;refine HC.go Tryz.func16 30 ?_;refine .s<|.a' 3 (.bxP ok) ?_;rintro _ U1 ⟨pb1,rfl,ok,xe⟩;refine .z .asB<|.z .asI<|.nil<|.seq<|.s<|.z (.ldx T.ag24 ok.m0)<|.k 12 .func (treadyT_any (G:=G) (F:=F) (w:=w) ok.m1 hin)<|.z .asI<|.nil<|.s<|.z .mvI<|.z .neq<|.nil<|.cf<|.skip<|.seq<|?_;have ok:=(ok).frz;have ok:=ok.d0 (celI pb1 0 [.P so]) (box_cel ok.r0) (fun _ x=>x);have ok:=ok.sub (R':=[celI pb1 0 [.P so]]) (by simp);refine .r<|.z (.ld T.ag24 (ok.r0 0 _ rfl))<|.z .mvI<|.z .mvI<|.z (.mkf (vs:=[.P pb1]))<|.c' 21 .func (tatD_any (Hp.lc1 (ok)) tw hle hky hN hX hBB hB1) ?_;rintro _ U2 ⟨F',w',Q',X',D',es',tp',cp',rfl,h1,h2,h3,q⟩;refine .z .mvU<|.z .ex<|.z .ex<|.z .asB<|.z .asI<|.nil<|.s<|.z .mvB<|.z .mvB<|.spl (fun G25=>?_) (fun G25=>?_)
 ·
  refine .z .mvI<|.z .eql<|.z .pkt<|.z .mvI<|.z .asB<|.z .asI<|.nil<|.ret ⟨.tuple #[.bool true,.J 0],Res.two rfl rfl rfl,⟨F',w',Q',X',D',es',tp',cp',by cases hg:(getE l key).isSome<;>simp_all,h1,h2,h3,(Hp.lf1 (ok) q).k1.e0⟩⟩
 refine .y<|.y<|.z .pkf<|.z .mvI<|.z .asB<|.z .asI<|.nil<|.ret ⟨.tuple #[.bool false,.J 0],Res.two rfl rfl rfl,⟨F',w',Q',X',D',es',tp',cp',by cases hg:(getE l key).isSome<;>simp_all,h1,h2,h3,(Hp.lf1 (ok) q).k1.e0⟩⟩
theorem tcreate_any (ok:Hp h D [dsI G so F w] [] h) (o:Own_ w Q X) (hN:w.now.length<=B) (hX:X.length+3<=B) (hBB:B*w.z<=16777216) :
  Hc 45 #[.P so] h (fun v h'=>∃F' w' Q' no,v=.tuple #[.J no,.J 0]/\TW w' Q' (no::X) X no 0 [] [] [no] []/\KX w w' X/\w'.now.length<=B/\(2<=no/\no<=65536)/\Hp h D [dsI G so F' w'] [] h'):=by
 have hin:=o.fr.i;obtain ⟨w1,w2,Q2,no,ht,hzz,hfi,hok,hw,htw,hkx,hn2,hno⟩:=o.made hN hX hBB;refine HC.go Tryz.func45 29 ?_;refine .s<|.z .asI<|.z .asI<|.nil<|.seq<|.s<|.z .mvP<|.k 9 .func (treadyT_any (G:=G) (F:=F) (w:=w) ok.m0 hin)<|.z .asI<|.nil<|.s<|.z .mvI<|.z .neq<|.nil<|.cf<|.skip<|.s<|.z .mvP<|.c' 15 .func (ansT (ci:=0) (ftake_any (G:=G) (w:=w) (ok).loc0) ht rfl) ?_;rintro _ U1 ⟨F1,rfl,q⟩;have ok:=(ok).lift1 q;refine .z .mvU<|.z .ex<|.z .ex<|.z .asI<|.z .asI<|.nil<|.seq<|.s<|.z .mvI<|.z .neq<|.nil<|.cf<|.skip<|.seq<|.s<|.z .mvP<|.z .mvI<|.z (.bd #[.J 1,.N,.J 0] T.zr116 T.pl116 rfl)<|.c' 24 .func (ansE (ci:=0) (twrite_any (G:=G) (w:=w1) (no:=no) (k:=1) (rt:=0) (l:=([]:List Cel)) (a:=none) (c:=0) (Hp.lc1 (ok)) (RdL.nil _ none_ none_) hok hfi (by rw [hzz];exact o.fr.z) (by simp)) hw rfl) ?_;rintro _ U2 ⟨F2,rfl,q⟩;have ok:=Hp.lf1 (ok) q;refine .z .asI<|.nil<|.s<|.z .mvI<|.z .neq<|.nil<|.cf<|.skip<|.s<|.z .mvI<|.z .asI<|.z .asI<|.nil<|.ret ⟨.tuple #[.J no,.J 0],Res.two rfl rfl rfl,⟨F2,w2,Q2,no,rfl,htw,hkx,hn2,hno,(ok).k1⟩⟩
end
open Go Go.HL
def okW (n:Nod):Prop:=n.kind=1\/n.kind=2
theorem ndAt_none {P:List (List UInt8)} {no:Int} (h:decNd (pageAt P no)=none):∀n,ndAt P no=some n->¬okW n:=fun n hn=>by unfold ndAt at hn;rw [h] at hn;cases hn
theorem ndAt_bad {P:List (List UInt8)} {no:Int} {n:Nod} (h:decNd (pageAt P no)=some n) (hk:¬okW n):∀m,ndAt P no=some m->¬okW m:=fun m hm=>by unfold ndAt at hm;rw [h] at hm;injection hm with hm;subst hm;exact hk
def kidW (l:List Cel) (rt i:Nat):Int:=if h:i<l.length then (l[i].child:Int) else (rt:Int)
theorem kidW_at {n:Nod} {i:Nat} {k:Int} (h:(kidsN n)[i]? = some k):kidW n.cells n.right i=k:=by
 unfold kidsN at h;unfold kidW;split
 ·rename_i hi;rw [List.getElem?_append_left (by simpa using hi),List.getElem?_map,List.getElem?_eq_getElem hi] at h;injection h
 ·rename_i hi;rw [List.getElem?_append_right (by simp;omega)] at h;obtain ⟨hl,h⟩:=List.getElem?_eq_some_iff.1 h;simpa using h
theorem wread_any {G:Pgr} {h:Heap} {D F:Nat->Prop} {so deep:Nat} {w:St} {no:Int} (ok:Hp h D [dsI G so F w] [] h) (hp:PgZ w) (h1:1<=no) (h2:no<=(w.pgs.length:Int)) (hd:deep<=20) :
  Hc 108 #[.P so,.J no,.J (deep:Int)] h (fun v h'=>(∃F' n x c2 E,ndAt w.pgs no=some n/\okW n/\v=.tuple #[.agg #[.J (n.kind:Int),.slice x n.cells.length c2,.J (n.right:Int)],.J 0]/\Hp h D [accI 113 (x,n.cells.length,c2) (none,0,0) E n.cells [],dsI G so F' w] [] h')\/(∃F',(∀n,ndAt w.pgs no=some n->¬okW n)/\v=.tuple #[.agg #[.J 0,.N,.J 0],.J 14]/\Hp h D [dsI G so F' w] [] h')):=by
 have hpl:=hp.at_ (no:=no) h1 h2;refine HC.go Tryz.func108 43 ?_;refine .s<|.a' 6 (.alA T.zr116 ok) ?_;rintro _ U1 ⟨pb1,rfl,ok,xe⟩;refine .z .asI<|.nil<|.seq<|.s<|.z .mvI<|.z .gtr<|.nil<|.cd (fun C0=>?_) (fun C0=>?_)
 ·
  omega
 refine .skip<|.s<|.z .mvP<|.z .mvI<|.c' 17 .func (sReadOk_any (G:=G) (w:=w) (no:=no) (b:=(pageAt w.pgs no)) (ok.n1).loc0 h1 h2 rfl) ?_;rintro _ U2 ⟨Fr1,xr1,cr1,rfl,hlr1,q⟩;have ok:=(ok.n1).lift2 q;refine .z .mvU<|.z .ex<|.z .ex<|.z .asS<|.z .asI<|.nil<|.seq<|.s<|.z .mvI<|.z .neq<|.nil<|.cf<|.skip<|.s<|.z .mvS<|.c' 26 .func (nddec_any (RdL.ofCapB (v:=(xr1,(pageAt w.pgs no).length,cr1)) (l:=(pageAt w.pgs no)) ok.m0) (by rw [hpl];exact hp.z)) ?_;rintro _ U3 (⟨n,xn,cn,hdn,rfl,hx,ocn⟩ | ⟨hdn,rfl,hx⟩)
 ·
  obtain ⟨En,ok⟩:=ok.ownC hx ocn;refine .z .mvU<|.z .ex<|.z .ex<|.a' 10 (.alA T.zr116 ok) ?_;rintro _ U4 ⟨pb2,rfl,ok,xe⟩;refine .ur' (.stW (vs:=[.J (n.kind:Int),.slice xn n.cells.length cn,.J (n.right:Int)]) T.sz116 ok (oneL rfl)) ?_;rintro U5 ⟨ok,cg⟩;refine .z .asI<|.nil<|.seq<|.s<|.z .mvI<|.z .neq<|.nil<|.cf<|.skip<|.seq<|.s<|.z (.fa T.fd116_0)<|.z (.ldx T.ag3 ok.m0)<|.z .neq<|.z .mvB<|.sd (fun G36=>?_) (fun G36=>?_)
  ·
   refine .z (.fa T.fd116_0)<|.z (.ldx T.ag3 ok.m0)<|.z .neq<|.z .pkt<|.nil<|.cd (fun C3=>?_) (fun C3=>?_)
   ·
    refine .s<|.z (.bd #[.J 0,.N,.J 0] T.zr116 T.pl116 rfl)<|.ur' (.stW (vs:=[.J 0,.N,.J 0]) T.sz116 ok.n4 (oneL rfl)) ?_;rintro U6 ⟨ok,cg⟩;refine .z .asI<|.nil<|.ret ⟨.tuple #[.agg #[.J 0,.N,.J 0],.J 14],Res.many (vs:=[.agg #[.J 0,.N,.J 0],.J 14]) rfl ⟨⟨_,rfl,load_ag T.ag116 ok.m0 T.sz116⟩,rfl,trivial⟩ rfl,.inr ⟨Fr1,ndAt_bad hdn (by unfold okW;omega),rfl,(ok.n4).k1⟩⟩
   refine .skip<|.s<|.z (.ldb T.ag116 ok.m0 T.sz116)<|.ur' (.stW (vs:=[.J (n.kind:Int),.slice xn n.cells.length cn,.J (n.right:Int)]) T.sz116 ok.n4 (oneL rfl)) ?_;rintro U7 ⟨ok,cg⟩;refine .z .asI<|.nil<|.ret ⟨.tuple #[.agg #[.J (n.kind:Int),.slice xn n.cells.length cn,.J (n.right:Int)],.J 0],Res.many (vs:=[.agg #[.J (n.kind:Int),.slice xn n.cells.length cn,.J (n.right:Int)],.J 0]) rfl ⟨⟨_,rfl,load_ag T.ag116 ok.m0 T.sz116⟩,rfl,trivial⟩ rfl,.inl ⟨Fr1,n,xn,cn,_,hdn,by unfold okW;omega,rfl,(ok.n4.n3).k2⟩⟩
  refine .y<|.y<|.y<|.z .pkf<|.nil<|.cf<|.skip<|.s<|.z (.ldb T.ag116 ok.m0 T.sz116)<|.ur' (.stW (vs:=[.J (n.kind:Int),.slice xn n.cells.length cn,.J (n.right:Int)]) T.sz116 ok.n4 (oneL rfl)) ?_;rintro U8 ⟨ok,cg⟩;refine .z .asI<|.nil<|.ret ⟨.tuple #[.agg #[.J (n.kind:Int),.slice xn n.cells.length cn,.J (n.right:Int)],.J 0],Res.many (vs:=[.agg #[.J (n.kind:Int),.slice xn n.cells.length cn,.J (n.right:Int)],.J 0]) rfl ⟨⟨_,rfl,load_ag T.ag116 ok.m0 T.sz116⟩,rfl,trivial⟩ rfl,.inl ⟨Fr1,n,xn,cn,_,hdn,by unfold okW;omega,rfl,(ok.n4.n3).k2⟩⟩
 have ok:=ok.ext hx;refine .z .mvU<|.z .ex<|.z .ex<|.a' 10 (.alA T.zr116 ok) ?_;rintro _ U9 ⟨pb3,rfl,ok,xe⟩;refine .ur' (.stW (vs:=[.J 0,.N,.J 0]) T.sz116 ok (oneL rfl)) ?_;rintro U10 ⟨ok,cg⟩;refine .z .asI<|.nil<|.seq<|.s<|.z .mvI<|.z .neq<|.nil<|.ct<|.s<|.z (.bd #[.J 0,.N,.J 0] T.zr116 T.pl116 rfl)<|.z .mvI<|.ur' (.stW (vs:=[.J 0,.N,.J 0]) T.sz116 ok.n3 (oneL rfl)) ?_;rintro U11 ⟨ok,cg⟩;refine .z .asI<|.nil<|.ret ⟨.tuple #[.agg #[.J 0,.N,.J 0],.J 14],Res.many (vs:=[.agg #[.J 0,.N,.J 0],.J 14]) rfl ⟨⟨_,rfl,load_ag T.ag116 ok.m0 T.sz116⟩,rfl,trivial⟩ rfl,.inr ⟨Fr1,ndAt_none hdn,rfl,(ok.n3).k1⟩⟩
theorem wchild_any {h:Heap} {F E:Nat->Prop} {k rt c i:Nat} {a:Option Addr} {l:List Cel} (hl:RdL h F E (a,l.length,c) l) (hi:i<=l.length) :
  Hc 109 #[.agg #[.J (k:Int),.slice a l.length c,.J (rt:Int)],.J (i:Int)] h (fun v h'=>v=.J (kidW l rt i)/\Ext h h'):=by
 have ok:=(Hp.nil h none_).arg hl;have hlm:=hl.m;have hlc:=hl.c;simp only at hlm hlc;refine HC.go Tryz.func109 18 ?_;refine .s<|.a' 2 (.bxA (cs:=[.J (k:Int),.slice a l.length c,.J (rt:Int)]) ok) ?_;rintro _ U1 ⟨pb1,rfl,ok,xe⟩;refine .z .asI<|.nil<|.seq<|.s<|.z .mvI<|.z (.fa T.fd116_1)<|.z (.ldx T.ag114 ok.m0)<|.z (.len T.el114)<|.z .eql<|.nil<|.cd (fun C0=>?_) (fun C0=>?_)
 ·
  refine .s<|.z (.fa T.fd116_2)<|.z (.ldx T.ag3 ok.m0)<|.z .asI<|.nil<|.ret ⟨.J (rt:Int),Res.one rfl rfl,⟨by unfold kidW;rw [dif_neg (by omega)],ok.chg⟩⟩
 have hil:i<l.length:=by omega
 refine .skip<|.s<|.z (.fa T.fd116_1)<|.z (.ldx T.ag114 ok.m0)<|.z .mvI<|?_;obtain ⟨bb1,oo1,rfl,fb1⟩:=ok.r0.pos (by omega);refine .z (.ix i T.el114 T.sz113 (hi:=by omega))<|.z (.fa T.fd113_1)<|.z (.ld T.ag3 (ok.r0.celf (i:=i) (by omega)).2.1)<|.z .asI<|.nil<|.ret ⟨.J (l[i].child:Int),Res.one rfl rfl,⟨by unfold kidW;rw [dif_pos hil],ok.chg⟩⟩
def geE (key:Int) (es:List Cel):Option Cel:=es.find? fun c=>decide (key<=c.key)
section
variable {P:List (List UInt8)} {d i:Nat} {lo hi:Option Int} {ks ys:List Int} {es a b:List Cel} {ps:List Int} {key:Int} {n:Nod}
theorem geE_app:geE key (a++b)=(geE key a).or (geE key b):=List.find?_append
theorem geE_no (h:∀c∈a,c.key<key):geE key a=none:=List.find?_eq_none.2 fun c hc=>by have:=h c hc;simp;omega
theorem geE_leaf (hj:∀j (h:j<es.length),j<i->es[j].key<key) (hi:i<=es.length):geE key es=geE key (es.drop i):=by
 conv=>lhs;rw [<-qT i es,geE_app]
 rw [geE_no (a:=es.take i) fun c hc=>?_]
 ·rfl
 ·obtain ⟨j,hj2,rfl⟩:=qO.1 hc;rw [qJ] at hj2;rw [List.getElem_take];exact hj j (by omega) (by omega)
theorem geE_at (h:i<es.length) (hk:key<=es[i].key):geE key (es.drop i)=some es[i]:=by
 rw [qF h];unfold geE;rw [List.find?_cons_of_pos (by simpa using hk)]
def TchR (P:List (List UInt8)) (d:Nat) (n:Nod) (i:Nat) (es:List Cel) (ps:List Int):Prop:=∃lo hi,TCh (Sb P d) lo hi ((kidsN n).drop i) ((keysN n).drop i) es ps
theorem TCh.ub (t:TCh (Sb P d) lo hi ks ys es ps):∀c∈es,Inb lo hi c.key:=fun c hc=>(t.srt fun k a b e p s=>s.srt).1.b c hc
theorem low_skip (hl:Lv P (d+1) n lo hi es ps) (hi:i<=n.cells.length) (hj:∀j (h:j<n.cells.length),j<i->n.cells[j].key<key):∃es' ps',TchR P d n i es' ps'/\geE key es=geE key es'/\∀k∈ps',k∈ps:=by
 obtain ⟨_,t⟩:=hl;have t:TCh (Sb P d) _ _ (kidsN n) (keysN n) es ps:=t;by_cases h0:i=0
 ·subst h0;exact ⟨es,ps,⟨_,_,t⟩,rfl,fun _ h=>h⟩
 ·have hil:i-1<n.cells.length:=by omega
  have hkl:i-1<(keysN n).length:=by rw [keysN_len];exact hil
  have e1:keysN n=(keysN n).take (i-1)++(keysN n)[i-1]::(keysN n).drop i:=by
   conv=>lhs;rw [<-qT (i-1) (keysN n),qF hkl]
   rw [show i-1+1=i by omega]
  obtain ⟨ea,eb,pa,pb,t1,t2,rfl,rfl⟩:=t.split (qT i (kidsN n)).symm e1 (by rw [qJ,qJ,kidsN_len,keysN_len];omega);refine ⟨eb,pb,⟨_,_,t2⟩,?_,fun k hk=>qI _ hk⟩;rw [geE_app,geE_no fun c hc=>?_]
  ·rfl
  ·have h1:=(t1.ub c hc).2 _ rfl;have h2:=hj (i-1) hil (by omega);have h3:(keysN n)[i-1]=n.cells[i-1].key:=by simp [keysN]
   omega
theorem low_step (t:TchR P d n i es ps) (hi:i<=n.cells.length):∃k m q m0 m1 e0,(kidsN n)[i]? = some k/\ndAt P k=some m/\m.cells≠[]/\Lv P d m m0 m1 e0 q/\(∀j,j=k\/j∈q->j∈ps)/\(∀c,geE key e0=some c->geE key es=some c)/\(geE key e0=none->i=n.cells.length->geE key es=none)/\(geE key e0=none->i<n.cells.length->∃es' ps',TchR P d n (i+1) es' ps'/\geE key es=geE key es'/\∀k∈ps',k∈ps):=by
 obtain ⟨l1,h1,t⟩:=t;have hkl:i<(kidsN n).length:=by rw [kidsN_len];omega
 rw [qF hkl] at t;generalize hy:(keysN n).drop i=yy at t;generalize hk2:(kidsN n).drop (i+1)=kk at t;cases t with
 | one h=>
  obtain ⟨m,q,g1,g2,g3,rfl⟩:=id h;have hln:i=n.cells.length:=by
   have:=congrArg List.length hy;rw [qH,keysN_len] at this;simp at this;omega
  exact ⟨_,m,q,_,_,_,List.getElem?_eq_getElem hkl,g1,g2,g3,fun j hj=>by simpa using hj,fun c hc=>hc,fun hn _=>hn,fun _ h=>by omega⟩
 | @cons _ y _ _ _ ys e1 e2 p1 p2 h t2=>
  obtain ⟨m,q,g1,g2,g3,rfl⟩:=id h;have hln:i<n.cells.length:=by
   have:=congrArg List.length hy;rw [qH,keysN_len] at this;simp at this;omega
  have hd:(keysN n).drop (i+1)=ys:=by
   rw [<-List.drop_drop,hy];rfl
  refine ⟨_,m,q,_,_,e1,List.getElem?_eq_getElem hkl,g1,g2,g3,fun j hj=>by simp at hj⊢;grind,fun c hc=>by rw [geE_app,hc];rfl,fun _ h=>by omega,fun hn _=>⟨e2,p2,⟨some y,h1,by rw [hd,hk2];exact t2⟩,by rw [geE_app,hn];rfl,fun j hj=>by simp [hj]⟩⟩
end
open Go Go.HL
def celA (c:Cel) (x:Option Addr) (n:Nat):Value:=.agg #[.J c.key,.J (c.child:Int),.J (c.total:Int),.slice x c.loc.length n,.J (c.spill:Int)]
def celZ:Value:=.agg #[.J 0,.J 0,.J 0,.N,.J 0]
def FndR (G:Pgr) (so:Nat) (w:St) (h:Heap) (D:Nat->Prop) (fd:Option Cel) (v:Value) (h':Heap):Prop:=
 (∃F' c x n E,fd=some c/\v=.tuple #[celA c x n,.bool true,.J 0]/\Hp h D [rdI E E (x,c.loc.length,n) c.loc,dsI G so F' w] [] h')\/(∃F',fd=none/\v=.tuple #[celZ,.bool false,.J 0]/\Hp h D [dsI G so F' w] [] h')
def LowC (G:Pgr) (so:Nat) (w:St) (d:Nat):Prop:=∀ {h:Heap} {D F:Nat->Prop} {no key:Int} {deep:Nat} {n:Nod} {lo hi:Option Int} {es:List Cel} {q:List Int},Hp h D [dsI G so F w] [] h->ndAt w.pgs no=some n->Lv w.pgs d n lo hi es q->(∀k,k=no\/k∈q->1<=k/\k<=(w.pgs.length:Int))->deep+d<=20->
  Hc 64 #[.P so,.J no,.J (deep:Int),.J key] h (FndR G so w h D (geE key es))
theorem Lv.okW {P:List (List UInt8)} {d:Nat} {n:Nod} {lo hi:Option Int} {es:List Cel} {q:List Int} (hl:Lv P d n lo hi es q):okW n/\(n.kind=1↔d=0):=by
 cases d with
 | zero=>have:=hl.1;exact ⟨.inl this,by simp [this]⟩
 | succ d=>have:=hl.1;exact ⟨.inr this,by simp [this]⟩
theorem PgZ.cells {w:St} (p:PgZ w) {no:Int} {n:Nod} (hn:ndAt w.pgs no=some n) (h1:1<=no) (h2:no<=(w.pgs.length:Int)):n.cells.length<=4096:=by
 have h3:=(decNd_some hn).2.1;rw [p.at_ h1 h2] at h3;have:=tks_n h3;have:=okSz_c p.z;omega
theorem wlow_any {G:Pgr} {h:Heap} {D F:Nat->Prop} {so deep d:Nat} {w:St} {no key:Int} {n:Nod} {lo hi:Option Int} {es:List Cel} {qs:List Int} (hp:PgZ w) (ih:∀ {d'},d=d'+1->LowC G so w d') (ok:Hp h D [dsI G so F w] [] h) (hn:ndAt w.pgs no=some n) (hl:Lv w.pgs d n lo hi es qs) (hqr:∀k,k=no\/k∈qs->1<=k/\k<=(w.pgs.length:Int)) (hdd:deep+d<=20) :
  Hc 64 #[.P so,.J no,.J (deep:Int),.J key] h (FndR G so w h D (geE key es)):=by
 obtain ⟨hkw,hk0⟩:=hl.okW;have hno:=hqr no (.inl rfl);have hcl:=hp.cells hn hno.1 hno.2;have hpn:=hp.n;refine HC.go Tryz.func64 87 ?_;refine .s<|.a' 8 (.alA T.zr113 ok) ?_;rintro _ U1 ⟨pb1,rfl,ok,xe⟩;refine .z .asB<|.z .asI<|.nil<|.s<|.z .mvP<|.z .mvI<|.z .mvI<|.c' 21 .func (wread_any (G:=G) (w:=w) (no:=no) (deep:=deep) (Hp.lc1 (ok.n1)) hp hno.1 hno.2 (by omega)) ?_;rintro _ U2 (⟨F9,n9,x9,c9,E9,hr9,_,rfl,q⟩ | ⟨F9,hr9,rfl,q⟩)
 ·
  rw [hn] at hr9;injection hr9 with hr9;subst hr9;have ok:=Hp.lf1 (ok.n1) q;have hown9:=ok.ownR;have ok:=ok.frz;have ok:=ok.d0 (rdI (blkC (sv (x9,n.cells.length,c9))) E9 (x9,n.cells.length,c9) n.cells) (Acc.rd ok.r0) (fun _ h=>h.elim .inl (fun h=>.inr (.inr h)));refine .z .mvU<|.z .ex<|.z .ex<|.a' 11 (.alA T.zr116 ok) ?_;rintro _ U3 ⟨pb2,rfl,ok,xe⟩;refine .ur' (.stW (vs:=[.J (n.kind:Int),.slice x9 n.cells.length c9,.J (n.right:Int)]) T.sz116 ok (oneL rfl)) ?_;rintro U4 ⟨ok,cg⟩;refine .z .asI<|.nil<|.seq<|.s<|.z .mvI<|.z .neq<|.nil<|.cf<|.skip<|.s<|.z .asI<|.nil<|.seq<|.join (fun s hh=>∃(i:Nat) (F2:Nat->Prop),Has s [(0,.P so),(2,.J (deep:Int)),(3,.J key),(8,.P pb1),(11,.P pb2),(13,.J (i:Int))]/\Hp h D [boxI pb1 113 [.J 0,.J 0,.J 0,.N,.J 0],boxI pb2 116 [.J (n.kind:Int),.slice x9 n.cells.length c9,.J (n.right:Int)],dsI G so F2 w] [rdI (blkC (sv (x9,n.cells.length,c9))) E9 (x9,n.cells.length,c9) n.cells,accI 113 (x9,n.cells.length,c9) (none,0,0) E9 n.cells []] hh/\i<=n.cells.length/\(∀j (h:j<n.cells.length),j<i->n.cells[j].key<key)/\(∀h:i<n.cells.length,key<=n.cells[i].key)) ?_ ?_
  ·
   refine .block fun K0 hK0=>.loop (fun m s hh=>∃(i:Nat) (F1:Nat->Prop),Has s [(0,.P so),(2,.J (deep:Int)),(3,.J key),(8,.P pb1),(11,.P pb2),(13,.J (i:Int))]/\Hp h D [boxI pb1 113 [.J 0,.J 0,.J 0,.N,.J 0],boxI pb2 116 [.J (n.kind:Int),.slice x9 n.cells.length c9,.J (n.right:Int)],dsI G so F1 w] [rdI (blkC (sv (x9,n.cells.length,c9))) E9 (x9,n.cells.length,c9) n.cells,accI 113 (x9,n.cells.length,c9) (none,0,0) E9 n.cells []] hh/\i<=n.cells.length/\(∀j (h:j<n.cells.length),j<i->n.cells[j].key<key)/\m=n.cells.length-i) ?_ ?_
   ·exact ⟨_,0,F9,⟨rfl,rfl,rfl,rfl,rfl,rfl,trivial⟩,(((ok.n1.n1.n2).k3).sub (R':=[rdI (blkC (sv (x9,n.cells.length,c9))) E9 (x9,n.cells.length,c9) n.cells,accI 113 (x9,n.cells.length,c9) (none,0,0) E9 n.cells []]) (by simp)),qL _,fun _ _ h=>absurd h (Nat.not_lt_zero _),rfl⟩
   rintro _ _ U5 ⟨i,F1,hs,ok,hil,hj,rfl⟩ J0 hJ0;refine .frame hs fun τ=>?_;refine .seq<|.s<|.z .mvI<|.z (.fa T.fd116_1)<|.z (.ldx T.ag114 ok.m1)<|.z (.len T.el114)<|.z .lss<|.z .mvB<|.sd (fun G33=>?_) (fun G33=>?_)
   ·
    have hin0:i<n.cells.length:=by omega
    refine .z (.fa T.fd116_1)<|.z (.ldx T.ag114 ok.m1)<|.z .mvI<|?_;obtain ⟨bb1,oo1,rfl,fb1⟩:=ok.r0.pos (by omega);refine .z (.ix i T.el114 T.sz113 (hi:=by omega))<|.z (.fa T.fd113_0)<|.z (.ld T.ag2 (ok.r0.celf (i:=i) (by omega)).1)<|.z .mvI<|.z .lss<|.z .pkt<|.nil<|.cdr (fun C1=>?_) (fun C1=>?_)
    ·
     refine .exit<|hK0 _ _<|.end<|⟨i,F1,⟨rfl,rfl,rfl,rfl,rfl,rfl,trivial⟩,(((ok).k3).sub (R':=[rdI (blkC (sv (some ⟨bb1,oo1,none⟩,n.cells.length,c9))) E9 (some ⟨bb1,oo1,none⟩,n.cells.length,c9) n.cells,accI 113 (some ⟨bb1,oo1,none⟩,n.cells.length,c9) (none,0,0) E9 n.cells []]) (by simp)),hil,hj,fun h=>by omega⟩
    have hlt:n.cells[i].key<key:=by omega
    refine .skip<|.block fun K1 hK1=>.r<|.z .mvI<|.z (.addI (b:=1))<|.z .asI<|.nil<|.end<|hK1 _ _<|.end<|hJ0 _ _ _ ⟨i+1,F1,⟨rfl,rfl,rfl,rfl,rfl,rfl,trivial⟩,(((ok).k3).sub (R':=[rdI (blkC (sv (some ⟨bb1,oo1,none⟩,n.cells.length,c9))) E9 (some ⟨bb1,oo1,none⟩,n.cells.length,c9) n.cells,accI 113 (some ⟨bb1,oo1,none⟩,n.cells.length,c9) (none,0,0) E9 n.cells []]) (by simp)),by omega,fun j h hji=>(by by_cases hje:j=i;(subst hje;exact hlt);exact hj j h (by omega)),rfl⟩ (by omega)
   refine .y<|.y<|.y<|.y<|.y<|.y<|.y<|.y<|.z .pkf<|.nil<|.cf<|.exit<|hK0 _ _<|.end<|⟨i,F1,⟨rfl,rfl,rfl,rfl,rfl,rfl,trivial⟩,(((ok).k3).sub (R':=[rdI (blkC (sv (x9,n.cells.length,c9))) E9 (x9,n.cells.length,c9) n.cells,accI 113 (x9,n.cells.length,c9) (none,0,0) E9 n.cells []]) (by simp)),hil,hj,fun h=>by omega⟩
  rintro s U6 ⟨i,F2,hs,ok,hil,hj,hge⟩;refine .frame hs fun τ=>?_;refine .seq<|.s<|.z (.fa T.fd116_0)<|.z (.ldx T.ag3 ok.m1)<|.z .eql<|.nil<|.cd (fun C2=>?_) (fun C2=>?_)
  ·
   obtain rfl:d=0:=hk0.1 (by omega);have hes:es=n.cells:=hl.2.1;have hgl:=geE_leaf (key:=key) hj hil;refine .seq<|.s<|.z .mvI<|.z (.fa T.fd116_1)<|.z (.ldx T.ag114 ok.m1)<|.z (.len T.el114)<|.z .eql<|.nil<|.cd (fun C3=>?_) (fun C3=>?_)
   ·
    refine .s<|.z (.bd #[.J 0,.J 0,.J 0,.N,.J 0] T.zr113 T.pl113 rfl)<|.ur' (.stW (vs:=[.J 0,.J 0,.J 0,.N,.J 0]) T.sz113 ok (oneL rfl)) ?_;rintro U7 ⟨ok,cg⟩;refine .z .asB<|.z .asI<|.nil<|.ret ⟨.tuple #[.agg #[.J 0,.J 0,.J 0,.N,.J 0],.bool false,.J 0],Res.many (vs:=[.agg #[.J 0,.J 0,.J 0,.N,.J 0],.bool false,.J 0]) rfl ⟨⟨_,rfl,load_ag T.ag113 ok.m0 T.sz113⟩,rfl,rfl,trivial⟩ rfl,.inr ⟨F2,by rw [hes,hgl,qN (by omega)];rfl,rfl,(ok.n2).k1.e0⟩⟩
   have hil2:i<n.cells.length:=by omega
   refine .skip<|.s<|.z (.fa T.fd116_1)<|.z (.ldx T.ag114 ok.m1)<|.z .mvI<|?_;obtain ⟨bb2,oo2,rfl,fb2⟩:=ok.r0.pos (by omega);refine .z (.ix i T.el114 T.sz113 (hi:=by omega))<|?_;obtain ⟨xa1,xc1,hv1,hw1,hk1⟩:=ok.r0.cel (i:=i) (by omega);have ok:=ok.d0 (rdI E9 E9 (xa1,n.cells[i].loc.length,xc1) (n.cells[i].loc)) hw1 (fun _ h=>.inr (h.elim id id));refine .z (.ldc (vs:=celV n.cells[i] xa1 xc1) T.ag113 hv1 T.sz113)<|.ur' (.stW (vs:=[.J (n.cells[i].key),.J (n.cells[i].child:Int),.J (n.cells[i].total:Int),.slice xa1 (n.cells[i].loc.length) xc1,.J (n.cells[i].spill:Int)]) T.sz113 ok (oneL rfl)) ?_;rintro U8 ⟨ok,cg⟩;refine .z .asB<|.z .asI<|.nil<|.ret ⟨.tuple #[.agg #[.J (n.cells[i].key),.J (n.cells[i].child:Int),.J (n.cells[i].total:Int),.slice xa1 (n.cells[i].loc.length) xc1,.J (n.cells[i].spill:Int)],.bool true,.J 0],Res.many (vs:=[.agg #[.J (n.cells[i].key),.J (n.cells[i].child:Int),.J (n.cells[i].total:Int),.slice xa1 (n.cells[i].loc.length) xc1,.J (n.cells[i].spill:Int)],.bool true,.J 0]) rfl ⟨⟨_,rfl,load_ag T.ag113 ok.m0 T.sz113⟩,rfl,rfl,trivial⟩ rfl,.inl ⟨F2,n.cells[i],xa1,xc1,_,by rw [hes,hgl];exact geE_at hil2 (hge hil2),rfl,(((Hp.thawR (((ok.n2).k1).sub (R':=[accI 113 (some ⟨bb2,oo2,none⟩,n.cells.length,c9) (none,0,0) E9 n.cells []]) (by simp)) hown9).re (rdI E9 E9 (xa1,n.cells[i].loc.length,xc1) n.cells[i].loc) ok.r0 (fun j h=>.inr (.inr (h.elim id id))))).k2⟩⟩
  obtain ⟨d2,rfl⟩:∃d2,d=d2+1:=⟨d-1,by have:=hk0.2;omega⟩;obtain ⟨es1,ps1,htc,hge1,hin⟩:=low_skip (key:=key) hl hil hj;refine .skip<|.seq<|.block fun K2 hK2=>.loop (fun m s hh=>∃(i:Nat) (F3:Nat->Prop) (es1:List Cel) (ps1:List Int),Has s [(0,.P so),(2,.J (deep:Int)),(3,.J key),(8,.P pb1),(11,.P pb2),(13,.J (i:Int))]/\Hp h D [boxI pb1 113 [.J 0,.J 0,.J 0,.N,.J 0],boxI pb2 116 [.J (n.kind:Int),.slice x9 n.cells.length c9,.J (n.right:Int)],dsI G so F3 w] [rdI (blkC (sv (x9,n.cells.length,c9))) E9 (x9,n.cells.length,c9) n.cells,accI 113 (x9,n.cells.length,c9) (none,0,0) E9 n.cells []] hh/\i<=n.cells.length+1/\(i<=n.cells.length->TchR w.pgs d2 n i es1 ps1)/\geE key es=geE key es1/\(∀k∈ps1,k∈qs)/\(n.cells.length<i->geE key es=none)/\m=n.cells.length+1-i) ?_ ?_
  ·exact ⟨_,i,F2,es1,ps1,⟨rfl,rfl,rfl,rfl,rfl,rfl,trivial⟩,(((ok).k3).sub (R':=[rdI (blkC (sv (x9,n.cells.length,c9))) E9 (x9,n.cells.length,c9) n.cells,accI 113 (x9,n.cells.length,c9) (none,0,0) E9 n.cells []]) (by simp)),by omega,fun _=>htc,hge1,hin,fun h=>by omega,rfl⟩
  rintro _ _ U9 ⟨i,F3,es1,ps1,hs,ok,hil,htc,hge,hin,hend,rfl⟩ J1 hJ1;refine .frame hs fun τ=>?_;refine .seq<|.s<|.z .mvI<|.z (.fa T.fd116_1)<|.z (.ldx T.ag114 ok.m1)<|.z (.len T.el114)<|.z .leq<|.nil<|.cdr (fun C4=>?_) (fun C4=>?_)
  ·
   have hno2:=hend (by omega);refine .exit<|hK2 _ _<|.s<|.z (.bd #[.J 0,.J 0,.J 0,.N,.J 0] T.zr113 T.pl113 rfl)<|.ur' (.stW (vs:=[.J 0,.J 0,.J 0,.N,.J 0]) T.sz113 ok (oneL rfl)) ?_;rintro U10 ⟨ok,cg⟩;refine .z .asB<|.z .asI<|.nil<|.ret ⟨.tuple #[.agg #[.J 0,.J 0,.J 0,.N,.J 0],.bool false,.J 0],Res.many (vs:=[.agg #[.J 0,.J 0,.J 0,.N,.J 0],.bool false,.J 0]) rfl ⟨⟨_,rfl,load_ag T.ag113 ok.m0 T.sz113⟩,rfl,rfl,trivial⟩ rfl,.inr ⟨F3,hno2,rfl,(ok.n2).k1.e0⟩⟩
  have hie:i<=n.cells.length:=by omega
  have htc:=htc hie;refine .skip<|.seq<|.block fun K3 hK3=>.s<|.z .mvP<|.z (.ldb T.ag116 ok.m1 T.sz116)<|.z .mvI<|.c' 70 .func (wchild_any (k:=n.kind) (rt:=n.right) (l:=n.cells) (i:=i) ok.r0 (by omega)) ?_;rintro _ U11 ⟨rfl,hx⟩;have ok:=ok.ext hx;refine .z .mvI<|.z (.addI (b:=1))<|.z .mvI<|?_;obtain ⟨k,m,qk,m0,m1,e0,hk1,hk2,hk3,hk4,hk5,hk6,hk7,hk8⟩:=low_step (key:=key) htc (by omega);rw [kidW_at hk1];refine .c' 74 .func (ih (d':=d2) rfl (deep:=deep+1) (key:=key) (Hp.lc1 (ok.n2)).e0 hk2 hk4 (fun j hj=>hqr j (.inr (hin j (hk5 j hj)))) (by omega)) ?_;rintro _ U12 (⟨F8,cf,xf,nf,Ef,hf,rfl,q⟩ | ⟨F8,hf,rfl,q⟩)
  ·
   have ok:=Hp.lf1 (ok.n2) q;refine .z .mvU<|.z .ex<|.z .ex<|.z .ex<|.a' 14 (.alA T.zr113 ok) ?_;rintro _ U13 ⟨pb3,rfl,ok,xe⟩;refine .ur' (.stW (vs:=[.J cf.key,.J (cf.child:Int),.J (cf.total:Int),.slice xf cf.loc.length nf,.J (cf.spill:Int)]) T.sz113 ok (oneL rfl)) ?_;rintro U14 ⟨ok,cg⟩;refine .z .asB<|.z .asI<|.nil<|.s<|.z .mvB<|.z .mvB<|.y<|.y<|.z .pkt<|.nil<|.ct<|.s<|.z (.ldb T.ag113 ok.m0 T.sz113)<|.z .mvB<|.z .mvI<|.ur' (.stW (vs:=[.J cf.key,.J (cf.child:Int),.J (cf.total:Int),.slice xf cf.loc.length nf,.J (cf.spill:Int)]) T.sz113 ok.n3 (oneL rfl)) ?_;rintro U15 ⟨ok,cg⟩;refine .z .asB<|.z .asI<|.nil<|.ret ⟨.tuple #[.agg #[.J cf.key,.J (cf.child:Int),.J (cf.total:Int),.slice xf cf.loc.length nf,.J (cf.spill:Int)],.bool true,.J 0],Res.many (vs:=[.agg #[.J cf.key,.J (cf.child:Int),.J (cf.total:Int),.slice xf cf.loc.length nf,.J (cf.spill:Int)],.bool true,.J 0]) rfl ⟨⟨_,rfl,load_ag T.ag113 ok.m0 T.sz113⟩,rfl,rfl,trivial⟩ rfl,.inl ⟨F8,cf,xf,nf,Ef,hge.trans (hk6 _ hf),rfl,(ok.n3.n3).k2.e0⟩⟩
  have ok:=Hp.lf1 (ok.n2) q;refine .z .mvU<|.z .ex<|.z .ex<|.z .ex<|.a' 14 (.alA T.zr113 ok) ?_;rintro _ U16 ⟨pb4,rfl,ok,xe⟩;refine .ur' (.stW (vs:=[.J 0,.J 0,.J 0,.N,.J 0]) T.sz113 ok (oneL rfl)) ?_;rintro U17 ⟨ok,cg⟩;refine .z .asB<|.z .asI<|.nil<|.s<|.z .mvB<|.z .mvB<|.z .mvI<|.z .neq<|.z .pkf<|.nil<|.cf<|.skip<|.end<|hK3 _ _<|?_;obtain ⟨es2,ps2,htc2,hge2,hin2,hend2⟩:∃es2 ps2,(i+1<=n.cells.length->TchR w.pgs d2 n (i+1) es2 ps2)/\geE key es=geE key es2/\(∀k∈ps2,k∈qs)/\(n.cells.length<i+1->geE key es=none):=by
   by_cases hie:i=n.cells.length
   ·exact ⟨es1,ps1,fun h=>by omega,hge,hin,fun _=>hge.trans (hk7 hf hie)⟩
   ·obtain ⟨es2,ps2,g1,g2,g3⟩:=hk8 hf (by omega);exact ⟨es2,ps2,fun _=>g1,hge.trans g2,fun k hk=>hin k (g3 k hk),fun h=>by omega⟩
  refine .r<|.z .mvI<|.z (.addI (b:=1))<|.z .asI<|.nil<|.end<|hJ1 _ _ _ ⟨i+1,F8,es2,ps2,⟨rfl,rfl,rfl,rfl,rfl,rfl,trivial⟩,(((ok.n1.n3.n3).k3).sub (R':=[rdI (blkC (sv (x9,n.cells.length,c9))) E9 (x9,n.cells.length,c9) n.cells,accI 113 (x9,n.cells.length,c9) (none,0,0) E9 n.cells []]) (by simp)),by omega,htc2,hge2,hin2,hend2,rfl⟩ (by omega)
 exact absurd hkw (hr9 _ hn)
theorem lowC_all {G:Pgr} {so:Nat} {w:St} (hp:PgZ w):∀d,LowC G so w d
 | 0=>fun ok hn hl hqr hdd=>wlow_any hp (fun h=>by omega) ok hn hl hqr hdd
 | d+1=>fun ok hn hl hqr hdd=>wlow_any hp (fun {d'} h=>by obtain rfl:d'=d:=(by omega);exact lowC_all hp d') ok hn hl hqr hdd
section
variable {cb:Nat} {on:Bool} {key0:Int} {v0 v1:Value}
def geL (key:Int) (l:List En):Option En:=l.find? fun e=>decide (key<=e.1)
theorem geE_ent {P:List (List UInt8)} {z:Nat} {es:List Cel} {l:List En} {p:List Int} {key:Int} (h:Ents P z es l p):(geE key es=none/\geL key l=none)\/∃c e pl,geE key es=some c/\geL key l=some e/\CelE P z c e pl/\(∀k∈pl,k∈p)/\(p.Nodup->pl.Nodup):=by
 induction h with
 | nil=>exact .inl ⟨rfl,rfl⟩
 | @cons c e pl es l ps h _ ih=>
  unfold geE geL;by_cases hk:key<=c.key
  ·rw [List.find?_cons_of_pos (by simpa using hk),List.find?_cons_of_pos (by rw [<-h.ky];simpa using hk)];exact .inr ⟨c,e,pl,rfl,rfl,h,fun k hk=>qU _ hk,fun hn=>(kT.1 hn).1⟩
  ·rw [List.find?_cons_of_neg (by simpa using hk),List.find?_cons_of_neg (by rw [<-h.ky];simpa using hk)];rcases ih with h1 | ⟨c',e',pl',g1,g2,g3,g4,g5⟩
   ·exact .inl h1
   ·exact .inr ⟨c',e',pl',g1,g2,g3,fun k hk=>qI _ (g4 k hk),fun hn=>g5 (kT.1 hn).2.1⟩
def onO (o:Option En):Bool:=o.isSome
def kyO (o:Option En):Int:=(o.getD (0,[])).1
theorem geE_cur {P:List (List UInt8)} {z:Nat} {es:List Cel} {l:List En} {p:List Int} {key:Int} (h:Ents P z es l p):(geE key es).isSome=onO (geL key l)/\((geE key es).getD cel0).key=kyO (geL key l):=by
 rcases geE_ent (key:=key) h with ⟨h1,h2⟩ | ⟨c,e,pl,h1,h2,h3,_⟩
 ·rw [h1,h2];exact ⟨rfl,rfl⟩
 ·rw [h1,h2];exact ⟨rfl,h3.ky⟩
section
variable {G:Pgr} {h:Heap} {D F:Nat->Prop} {so Dp:Nat} {w:St} {Q:Trk} {X Y tp cp:List Int} {root key:Int} {es:List Cel} {l:List En}
theorem _root_.Go.HL.Hp.addO {h0 h:Heap} {D:Nat->Prop} {M R:List Itm} (ok:Hp h0 D M R h):Hp h0 D (rdI none_ none_ (none,0,0) ([]:List UInt8)::M) R h:=ok.newM (Ext.refl h) _ (RdL.nil _ _ _) fun _ hj=>hj.elim (fun h=>h.elim) (fun h=>h.elim)
theorem FndR.uni {fd:Option Cel} {v:Value} {h':Heap} (f:FndR G so w h D fd v h'):∃F' x n E,v=.tuple #[celA (fd.getD cel0) x n,.bool fd.isSome,.J 0]/\Hp h D [rdI E E (x,(fd.getD cel0).loc.length,n) (fd.getD cel0).loc,dsI G so F' w] [] h':=by
 rcases f with ⟨F',c,x,n,E,rfl,rfl,q⟩ | ⟨F',rfl,rfl,q⟩
 ·exact ⟨F',x,n,E,rfl,q⟩
 ·exact ⟨F',.none,0,none_,rfl,Hp.addO q⟩
theorem TW.rd {w:St} (t:TW w Q X Y root Dp es l tp cp):PgZ w/\∃n q,ndAt w.pgs root=some n/\Lv w.pgs Dp n .none .none es q/\∀k,k=root\/k∈q->1<=k/\k<=(w.pgs.length:Int):=by
 obtain ⟨n,q,h1,h2,_,h4⟩:=t.t;rw [t.o.fr.pgs];refine ⟨t.o.pgz,n,q,h1,h2,fun k hk=>?_⟩;have:=t.o.rg (t.px.mem_iff.2 (qU _ (show k∈tp by rw [h4];simpa using hk)));omega
theorem wlowT_any (ok:Hp h D [dsI G so F w] [] h) (tw:TW w Q X Y root Dp es l tp cp) (hD:Dp<=14) :
  Hc 64 #[.P so,.J root,.J 1,.J key] h (fun v h'=>∃F' x n E,v=.tuple #[celA ((geE key es).getD cel0) x n,.bool (geE key es).isSome,.J 0]/\Hp h D [rdI E E (x,((geE key es).getD cel0).loc.length,n) ((geE key es).getD cel0).loc,dsI G so F' w] [] h'):=by
 obtain ⟨hp,n,q,h1,h2,h3⟩:=tw.rd;exact HC.mono (lowC_all hp Dp (deep:=1) ok h1 h2 h3 (by omega)) fun v h' f=>f.uni
end
theorem wnew_any {h:Heap} {so:Nat} {root:Int} :
  Hc 18 #[.P so,.J root] h (fun v h'=>∃cb,v=.P cb/\Hp h none_ [boxI cb 124 [.P so,.J root,.bool false,.J 0]] [] h'):=by
 have ok:=Hp.nil h none_;refine HC.go Tryz.func18 11 ?_;refine .s<|.z .asP<|.nil<|.seq<|.s<|.z .mvP<|.z (.pEqS T.pt24)<|.nil<|.cf<|.skip<|.s<|.z .mvP<|.z .mvI<|.z (.bd #[.P so,.J root,.bool false,.J 0] T.zr124 T.pl124 rfl)<|.a' 10 (.bxA (cs:=[.P so,.J root,.bool false,.J 0]) ok) ?_;rintro _ U1 ⟨pb1,rfl,ok,xe⟩;refine .z .asP<|.nil<|.ret ⟨.P pb1,Res.one rfl rfl,⟨_,rfl,ok⟩⟩
theorem wstand_any {h:Heap} {D:Nat->Prop} {ch tt ln lcc sp:Nat} {la:Option Addr} {v2 v3:Value} {ky:Int} (ok:Hp h D [boxI cb 124 [v0,v1,v2,v3]] [] h) :
  Hc 63 #[.P cb,.agg #[.J ky,.J (ch:Int),.J (tt:Int),.slice la ln lcc,.J (sp:Int)],.bool on,.J 0] h (fun v h'=>v=.tuple #[.bool on,.J 0]/\Hp h D [boxI cb 124 [v0,v1,.bool on,.J ky]] [] h'):=by
 refine HC.go Tryz.func63 23 ?_;refine .s<|.a' 5 (.bxA (cs:=[.J ky,.J (ch:Int),.J (tt:Int),.slice la ln lcc,.J (sp:Int)]) ok) ?_;rintro _ U1 ⟨pb1,rfl,ok,xe⟩;refine .z .asB<|.z .asI<|.nil<|.seq<|.s<|.z .mvI<|.z .neq<|.nil<|.cf<|.skip<|.seq<|.a 10 (fun fl hh=>cond fl True (Hp h D [boxI pb1 113 [.J ky,.J (ch:Int),.J (tt:Int),.slice la ln lcc,.J (sp:Int)]] [] hh)) mixed ?_;have hS:=ok.k1;refine .g 0 false rfl 13 hS (fun _=>.mvP)<|.g 1 false rfl 14 hS (fun _=>.mvP)<|.g 2 false rfl 15 hS (fun _=>.mvB)<|.g 3 false rfl 16 hS (fun _=>.fa T.fd113_0)<|.l 4 false rfl 17 hS (fun _ hS=>.ldx T.ag2 hS.m0)<|.g 5 false rfl 18 hS (fun _=>.nil)<|.g 6 false rfl 19 hS (fun _=>.fa T.fd124_2)<|.o1 7<|.ur' false rfl (.stB T.sz4 ok.n1) ?_;rintro U2 ⟨ok,cg⟩;refine ⟨ok.n1.k1,?_⟩;have hS:=ok.n1.k1;refine .g 8 false rfl 20 hS (fun _=>.nil)<|.g 9 false rfl 21 hS (fun _=>.fa T.fd124_3)<|.o1 10<|.ur' true rfl (.stI T.sz2 ok) ?_;rintro U3 ⟨ok,cg⟩;refine ⟨trivial,?_⟩;refine .e ?_;refine .s<|.z .mvB<|.z .asB<|.z .asI<|.nil<|.ret ⟨.tuple #[.bool on,.J 0],Res.two rfl rfl rfl,⟨rfl,(ok).k1⟩⟩
theorem wto_any {G:Pgr} {h:Heap} {D F:Nat->Prop} {so Dp:Nat} {w:St} {Q:Trk} {X Y tp cp:List Int} {root key:Int} {es:List Cel} {l:List En} (ok:Hp h D [boxI cb 124 [.P so,.J root,.bool on,.J key0],dsI G so F w] [] h) (tw:TW w Q X Y root Dp es l tp cp) (hD:Dp<=14) :
  Hc 19 #[.P cb,.J key] h (fun v h'=>∃F',v=.tuple #[.bool (onO (geL key l)),.J 0]/\Hp h D [boxI cb 124 [.P so,.J root,.bool (onO (geL key l)),.J (kyO (geL key l))],dsI G so F' w] [] h'):=by
 refine HC.go Tryz.func19 25 ?_;refine .s<|.z .asB<|.z .asI<|.nil<|.seq<|.s<|.z .mvP<|.z (.pEqS T.pt44)<|.nil<|.cf<|.skip<|.seq<|.a 10 (fun fl hh=>cond fl True (Hp h D [boxI cb 124 [.P so,.J root,.bool on,.J key0],dsI G so F w] [] hh)) mixed ?_;have hS:=ok;refine .g 0 false rfl 8 hS (fun _=>.mvP)<|.g 1 false rfl 9 hS (fun _=>.mvP)<|.g 2 false rfl 10 hS (fun _=>.nil)<|.g 3 false rfl 11 hS (fun _=>.fa T.fd124_0)<|.l 4 false rfl 12 hS (fun _ hS=>.ldx T.ag24 hS.m0)<|.g 5 false rfl 13 hS (fun _=>.mvP)<|.g 6 false rfl 14 hS (fun _=>.nil)<|.g 7 false rfl 15 hS (fun _=>.fa T.fd124_1)<|.l 8 false rfl 16 hS (fun _ hS=>.ldx T.ag3 hS.m0)<|.g 9 false rfl 17 hS (fun _=>.mvI)<|.o1 10<|.c' true rfl 18 .func (wlowT_any (key:=key) ((Hp.lc1 (ok.n1))) tw hD) ?_;rintro _ U1 ⟨F8,xf,nf,Ef,rfl,q⟩;have ok:=Hp.lf1 (ok.n1) q;refine ⟨trivial,?_⟩;refine .g 11 true rfl 19 trivial (fun _=>.ex)<|.g 12 true rfl 20 trivial (fun _=>.ex)<|.g 13 true rfl 21 trivial (fun _=>.ex)<|.o1 14<|.c' true rfl 22 .func (wstand_any (ky:=(((geE key es).getD cel0).key)) (ch:=((geE key es).getD cel0).child) (tt:=((geE key es).getD cel0).total) (la:=xf) (ln:=(((geE key es).getD cel0).loc.length)) (lcc:=nf) (sp:=((geE key es).getD cel0).spill) (on:=((geE key es).isSome)) ((Hp.lc1 (ok.n2)))) ?_;rintro _ U2 ⟨rfl,q⟩;have ok:=Hp.lf1 (ok.n2) q;refine ⟨trivial,?_⟩;refine .g 15 true rfl 23 trivial (fun _=>.ex)<|.g 16 true rfl 24 trivial (fun _=>.ex)<|.g 17 true rfl 4 trivial (fun _=>.asB)<|.g 18 true rfl 5 trivial (fun _=>.asI)<|.e ?_;refine .ret ⟨.tuple #[.bool ((geE key es).isSome),.J 0],Res.two rfl rfl rfl,⟨F8,by rw [(geE_cur tw.e).1],by rw [<-(geE_cur tw.e).1,<-(geE_cur tw.e).2];exact (ok.n2.n1).k2⟩⟩
theorem wfirst_any {G:Pgr} {h:Heap} {D F:Nat->Prop} {so Dp:Nat} {w:St} {Q:Trk} {X Y tp cp:List Int} {root:Int} {es:List Cel} {l:List En} (ok:Hp h D [boxI cb 124 [.P so,.J root,.bool on,.J key0],dsI G so F w] [] h) (tw:TW w Q X Y root Dp es l tp cp) (hD:Dp<=14) :
  Hc 23 #[.P cb] h (fun v h'=>∃F',v=.tuple #[.bool (onO (geL (-9223372036854775808) l)),.J 0]/\Hp h D [boxI cb 124 [.P so,.J root,.bool (onO (geL (-9223372036854775808) l)),.J (kyO (geL (-9223372036854775808) l))],dsI G so F' w] [] h'):=by
 refine HC.go Tryz.func23 8 ?_;refine .s<|.z .asB<|.z .asI<|.nil<|.s<|.z .mvP<|.c' 5 .func (wto_any (key:=(-9223372036854775808)) (Hp.lc2 (ok)) tw hD) ?_;rintro _ U1 ⟨F8,rfl,q⟩;have ok:=Hp.lf2 (ok) q;refine .z .ex<|.z .ex<|.z .asB<|.z .asI<|.nil<|.ret ⟨.tuple #[.bool (onO (geL (-9223372036854775808) l)),.J 0],Res.two rfl rfl rfl,⟨F8,rfl,(ok).k2⟩⟩
theorem wnow_any {h:Heap} {D:Nat->Prop} {v2 v3:Value} (ok:Hp h D [boxI cb 124 [v0,v1,v2,v3]] [] h) :
  Hc 68 #[.P cb] h (fun v h'=>v=.tuple #[.bool false,.J 0]/\Hp h D [boxI cb 124 [v0,v1,.bool false,.J 0]] [] h'):=by
 refine HC.go Tryz.func68 10 ?_;refine .s<|.z .asB<|.z .asI<|.nil<|.s<|.z .mvP<|.z .mvP<|.z .nil<|.z (.fa T.fd124_2)<|.ur' (.stB T.sz4 ok) ?_;rintro U1 ⟨ok,cg⟩;refine .z .nil<|.z (.fa T.fd124_3)<|.ur' (.stI T.sz2 ok) ?_;rintro U2 ⟨ok,cg⟩;refine .nil ?_;refine .s<|.z .asB<|.z .asI<|.nil<|.ret ⟨.tuple #[.bool false,.J 0],Res.two rfl rfl rfl,⟨rfl,(ok).k1⟩⟩
def nxO (on:Bool) (key:Int) (l:List En):Option En:=if on=true/\key≠9223372036854775807 then geL (key+1) l else none
theorem wnext_any {G:Pgr} {h:Heap} {D F:Nat->Prop} {so Dp:Nat} {w:St} {Q:Trk} {X Y tp cp:List Int} {root:Int} {es:List Cel} {l:List En} (ok:Hp h D [boxI cb 124 [.P so,.J root,.bool on,.J key0],dsI G so F w] [] h) (hk0:i64K key0) (tw:TW w Q X Y root Dp es l tp cp) (hD:Dp<=14) :
  Hc 22 #[.P cb] h (fun v h'=>∃F',v=.tuple #[.bool (onO (nxO on key0 l)),.J 0]/\Hp h D [boxI cb 124 [.P so,.J root,.bool (onO (nxO on key0 l)),.J (kyO (nxO on key0 l))],dsI G so F' w] [] h'):=by
 obtain ⟨hk1,hk2⟩:=hk0;refine HC.go Tryz.func22 33 ?_;refine .s<|.z .asB<|.z .asI<|.nil<|.seq<|.block fun K0 hK0=>.s<|.z .mvP<|.z (.pEqS T.pt44)<|.z .asB<|.nil<|.cf<|.seq<|.join (fun s hh=>∃(bb:Bool),Has s [(0,.P cb),(7,.bool bb)]/\Hp h D [boxI cb 124 [.P so,.J root,.bool on,.J key0],dsI G so F w] [] hh/\(bb=true↔¬(on=true/\key0≠9223372036854775807))) ?_ ?_
 ·
  refine .r<|.z .mvP<|.z .nil<|.z (.fa T.fd124_2)<|.z (.ldx T.ag4 ok.m0)<|.z .not<|.z .mvB<|.spl (fun G13=>?_) (fun G13=>?_)
  ·
   refine .y<|.y<|.y<|.y<|.y<|.z .pkt<|.z .asB<|.nil<|.end<|⟨_,⟨rfl,rfl,trivial⟩,ok.n1.n1,by simp_all⟩
  refine .z .mvP<|.z .nil<|.z (.fa T.fd124_3)<|.z (.ldx T.ag2 ok.m0)<|.z .eql<|.z .pkf<|.z .asB<|.nil<|.end<|⟨_,⟨rfl,rfl,trivial⟩,ok.n1.n1,by simp_all⟩
 rintro s U1 ⟨bb,hs,ok,hbb⟩;refine .frame hs fun τ=>?_;refine .cond (fun C1=>?_) (fun C1=>?_)
 ·
  have hno:=hbb.1 C1;refine .s<|.z .mvP<|.c' 21 .func (wnow_any ((Hp.lc1 (ok)))) ?_;rintro _ U2 ⟨rfl,q⟩;have ok:=Hp.lf1 (ok) q;refine .z .ex<|.z .ex<|.z .asB<|.z .asI<|.nil<|.ret ⟨.tuple #[.bool false,.J 0],Res.two rfl rfl rfl,⟨F,by unfold nxO;rw [if_neg hno];rfl,by unfold nxO;rw [if_neg hno];exact (ok).k2⟩⟩
 have hyes:on=true/\key0≠9223372036854775807:=Classical.not_not.1 (fun h=>by have h9:=hbb.2 h;rw [C1] at h9;cases h9);refine .skip<|.end<|hK0 _ _<|.s<|.z .mvP<|.z .mvP<|.z .nil<|.z (.fa T.fd124_3)<|.z (.ldx T.ag2 ok.m0)<|.z .add<|.c' 30 .func (wto_any (key:=(key0+1)) (Hp.lc2 (ok)) tw hD) ?_;rintro _ U3 ⟨F8,rfl,q⟩;have ok:=Hp.lf2 (ok) q;refine .z .ex<|.z .ex<|.z .asB<|.z .asI<|.nil<|.ret ⟨.tuple #[.bool (onO (geL (key0+1) l)),.J 0],Res.two rfl rfl rfl,⟨F8,by unfold nxO;rw [if_pos hyes],by unfold nxO;rw [if_pos hyes];exact (ok).k2⟩⟩
theorem wkey_any {h:Heap} (hb:(boxI cb 124 [v0,v1,.bool on,.J key0]).p h) (hz:on=false->key0=0) :
  Hc 20 #[.P cb] h (fun v h'=>v=.J key0/\h'=h):=by
 refine HC.go Tryz.func20 16 ?_;refine .s<|.z .asI<|.nil<|.seq<|.s<|.z .mvP<|.z (.pEqS T.pt44)<|.z .mvB<|.z .mvP<|.z .nil<|.z (.fa T.fd124_2)<|.z (.ldx T.ag4 hb)<|.z .not<|.z .pkf<|.nil<|.cond (fun C0=>?_) (fun C0=>?_)
 ·
  refine .s<|.z .asI<|.nil<|.ret ⟨.J 0,Res.one rfl rfl,⟨by rw [hz (by simp_all)],rfl⟩⟩
 refine .skip<|.s<|.z .mvP<|.z .nil<|.z (.fa T.fd124_3)<|.z (.ldx T.ag2 hb)<|.z .asI<|.nil<|.ret ⟨.J key0,Res.one rfl rfl,⟨rfl,rfl⟩⟩
end
end Go.Proofs.YtfegfklipbnhjaaGreat
