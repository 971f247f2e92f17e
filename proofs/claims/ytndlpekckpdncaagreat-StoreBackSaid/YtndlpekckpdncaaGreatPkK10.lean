/- The pager that keeps a journal, its power on: its pages, in its cache and under that. Conditions: those that each fact names. The pager that keeps a journal, its power on: a page is got, or put into the cache. Conditions: the pager is in order. The pager that keeps a journal, its power on: the file is made the present pages. Conditions: the pager is in order. The pager that keeps a journal: pages come and go. Conditions: the pager is in order. The pager that keeps a journal, its power on: its calls. Conditions: the pager is in order. The pager that keeps a journal, opened on a new disk; it keeps what is committed. Conditions: the power is on; not too much is done. The store's commit. Conditions: the pager keeps what is committed, and may. The store's commit, told by the document's state. Conditions: the pager keeps what is committed, and may. A store is opened on a new disk, with the pager that keeps a journal, and what is committed. Conditions: the size and the room may be. A store is opened on a new disk, with the pager that logs ahead, and what is committed. Conditions: the size and the room may be. The chapter's first example of the store. Conditions: none. How a law whose call returns true and turns nothing old closes its row. Conditions: those that each fact names. How arguments that come in read: types opened one by one. Conditions: those that each fact names. Arguments of the laws on the store, opened: modes, heads, deeds. Conditions: none. -/
import Derived.Test.YtndlpekckpdncaaGreatPkK9
import Derived.ProofKit
import Derived.OpenShut
import Derived.Below
import Derived.Carry
import Derived.Deep.Slices
import Derived.ChangeArms
import Derived.ChangeMaps5
set_option maxRecDepth 100000
set_option maxHeartbeats 2000000
set_option linter.all false
namespace Go.Proofs.YtndlpekckpdncaaGreat
open Go Go.HL
def upZ (z v:Nat) (f:List UInt8) (i:Nat):List UInt8:=if v≤i then List.replicate z 0 else pgF z f i
theorem upF_in {r:RH} (h:r.in_=true) {f:List UInt8} {i:Nat} : upF r f i=upZ r.size r.valid f i:=by unfold upF upZ;simp [h]
theorem pgF_take {z v i:Nat} {f:List UInt8} (h:i<v):pgF z (f.take (v*z)) i=pgF z f i:=pgF_ext pgF_len fun j hj=>by
 have h1:(i+1)*z≤v*z:=Nat.mul_le_mul_right z h;rw [Nat.succ_mul] at h1;rw [gd_take,if_pos (by omega),gd_pgF hj]
theorem upZ_take {z v i:Nat} {f:List UInt8} : upZ z v (f.take (v*z)) i=upZ z v f i:=by
 unfold upZ;split
 ·rfl
 ·exact pgF_take (by omega)
theorem wr_up {z v p:Nat} {f b:List UInt8} (hf:f.length=v*z) (hb:b.length=z):(wrB f (p*z) b).length=max v (p+1)*z∧∀i,upZ z (max v (p+1)) (wrB f (p*z) b) i=if i=p then b else upZ z v f i:=by
 have hm:(p+1)*z=p*z+z:=Nat.succ_mul _ _;refine ⟨by rw [wrB_len,hf,hb,←hm,max_mul],fun i=>?_⟩;by_cases hi:i=p
 ·subst hi;rw [if_pos rfl];unfold upZ;rw [if_neg (by omega)];exact pgF_ext hb fun j hj=>by rw [gd_wrB,if_pos (by omega),Nat.add_sub_cancel_left]
 ·rw [if_neg hi];have hout:∀j,j<z→¬(p*z≤i*z+j∧i*z+j<p*z+b.length):=fun j hj h=>by
   rcases Nat.lt_or_gt_of_ne hi with h1 | h1
   ·have h2:(i+1)*z≤p*z:=Nat.mul_le_mul_right z h1;rw [Nat.succ_mul] at h2;omega
   ·have h2:(p+1)*z≤i*z:=Nat.mul_le_mul_right z h1;omega
  unfold upZ;by_cases h1:max v (p+1)≤i
  ·rw [if_pos h1,if_pos (by omega)]
  ·rw [if_neg h1];by_cases h2:v≤i
   ·rw [if_pos h2];have h3:v*z≤i*z:=Nat.mul_le_mul_right z h2;exact pgF_ext List.length_replicate fun j hj=>by rw [gd_wrB,if_neg (hout j hj),gd_zeros,gd_ge (by omega)]
   ·rw [if_neg h2];exact pgF_ext pgF_len fun j hj=>by rw [gd_wrB,if_neg (hout j hj),gd_pgF hj]
theorem layP_up {z:Nat} : ∀ {l:List AFr} {f:List UInt8} {v:Nat},f.length=v*z→(∀g∈l,1≤g.page∧g.b.length=z)→(layP z (f,v) l).1.length=(layP z (f,v) l).2*z∧v≤(layP z (f,v) l).2∧(∀N:Nat,v≤N→(∀g∈l,g.page≤N)→(layP z (f,v) l).2≤N)∧
  (∀i:Nat,(∀g∈l,g.page≠i+1)→upZ z (layP z (f,v) l).2 (layP z (f,v) l).1 i=upZ z v f i)∧((l.map (·.page)).Nodup→∀g∈l,upZ z (layP z (f,v) l).2 (layP z (f,v) l).1 (g.page-1).toNat=g.b)
 | [],f,v,hf,_=>⟨hf,Nat.le_refl _,fun _ h _=>h,fun _ _=>rfl,fun _ _ h=>by cases h⟩
 | a::l,f,v,hf,h=>by
  obtain ⟨ha,hb⟩:=h a List.mem_cons_self;obtain ⟨p,hp⟩:∃p:Nat,a.page.toNat=p+1:=⟨a.page.toNat-1,by omega⟩;have e:layP z (f,v) (a::l)=layP z (wrB f (p*z) a.b,max v (p+1)) l:=by
   show layP z (wrB f ((a.page.toNat-1)*z) a.b,max v a.page.toNat) l=_;rw [hp];rfl
  obtain ⟨w1,w2⟩:=wr_up (p:=p) hf hb;obtain ⟨q1,q2,q5,q3,q4⟩:=layP_up (l:=l) w1 fun g hg=>h g (List.mem_cons_of_mem _ hg);rw [e];refine ⟨q1,by omega,fun N h1 h2=>q5 N (by have:=h2 a List.mem_cons_self;omega) fun g hg=>h2 g (List.mem_cons_of_mem _ hg),fun i hi=>?_,fun hn g hg=>?_⟩
  ·rw [q3 i fun g hg=>hi g (List.mem_cons_of_mem _ hg),w2,if_neg (by have:=hi a List.mem_cons_self;omega)]
  ·rw [List.map_cons,List.nodup_cons] at hn;rcases List.mem_cons.1 hg with rfl | hg
   ·rw [show (g.page-1).toNat=p by omega,q3 p fun x hx ex=>hn.1 (List.mem_map.2 ⟨x,hx,by omega⟩),w2,if_pos rfl]
   ·exact q4 hn.2 g hg
structure HB (r:RH) (room:Int) (L:List AP) (P:List (List UInt8)):Prop where
 k:HC0 r
 np:presH r=P.length
 pl:∀x∈P,x.length=r.size
 mp:P.length*(r.size+8)+28≤16777216
 nd:(nos L).Nodup
 rm:1≤room∧room≤1048576∧(L.length:Int)≤room
 rg:∀x∈L,1≤x.no∧x.no≤P.length
 at_:∀x∈L,x.b=P.getD (x.no-1).toNat []
 un:∀i:Nat,i<P.length→(∀x∈L,x.no=i+1→x.d=false)→upF r (fT r.D) i=P.getD i []
 nt:r.in_=false→∀x∈L,x.d=false
 vn:r.in_=true→r.valid≤r.now∧r.valid*r.size≤r.bytes
 km:r.in_=true→∃m,r.km=some m
 out:r.in_=false→r.begun=false
 bs:r.begun=false→r.bytes=r.sure*r.size
section
variable {r r':RH} {room:Int} {L:List AP} {P:List (List UInt8)} {no:Nat} {b:List UInt8} {d:Bool}
theorem HB.zc (k:HB r room L P):256≤r.size∧r.size≤4096:=by have:=okSz_c k.k.sz;omega
theorem HB.few (k:HB r room L P):P.length*r.size≤16777216∧P.length≤65536:=by
 have h1:=k.mp;have h2:=k.zc;rw [Nat.mul_add] at h1;have h3:P.length*256≤P.length*r.size:=Nat.mul_le_mul_left _ h2.1;omega
theorem HB.page_len (k:HB r room L P) {i:Nat} (h:i<P.length):(P.getD i []).length=r.size:=by
 have e:P.getD i []=P[i]:=by simp [h]
 rw [e];exact k.pl _ (List.getElem_mem h)
def gotH (r:RH) (L:List AP) (no:Nat):List UInt8:=match hit (no:Int) L with
 | some x=>x.b
 | none=>upF r (fT r.D) (no-1)
theorem HB.get (k:HB r room L P) (h1:1≤no) (h2:no≤P.length):gotH r L no=P.getD (no-1) []∧HB r room (getL no L) P:=by
 refine ⟨?_,k.k,k.np,k.pl,k.mp,bgetL_nd k.nd,⟨k.rm.1,k.rm.2.1,by have:=getL_len (no:=(no:Int)) k.nd;have:=k.rm.2.2;omega⟩,fun x hx=>k.rg x ((bgetL_mem k.nd).1 hx),fun x hx=>k.at_ x ((bgetL_mem k.nd).1 hx),fun i hi h=>k.un i hi fun x hx=>h x ((bgetL_mem k.nd).2 hx),fun h x hx=>k.nt h x ((bgetL_mem k.nd).1 hx),k.vn,k.km,k.out,k.bs⟩;unfold gotH;cases hh:hit (no:Int) L with
 | some x=>
  have:=k.at_ x (hit_some hh).1;rw [(hit_some hh).2,show ((no:Int)-1).toNat=no-1 by omega] at this;exact this
 | none=>exact k.un (no-1) (by omega) fun x hx e=>absurd (show x.no=(no:Int) by omega) (hit_none hh x hx)
theorem HB.ptA (k:HB r room L P) (h1:1≤no):(putA room no b d L).length≤1∧(∀f∈putA room no b d L,∃x∈L,x.no≠no∧x.d=true∧f=⟨x.no,0,x.b⟩)∧(putA room no b d L≠[]→r.in_=true):=by
 obtain ⟨ev,e1,e2,e3,_⟩:=put_cases (L:=L) (room:=room) (b:=b) (d:=d) (show 1≤(no:Int) by omega) k.rm.1;have key:∀f∈putA room no b d L,∃x∈L,x.no≠no∧x.d=true∧f=⟨x.no,0,x.b⟩:=fun f hf=>by
  rw [e2] at hf;unfold toldL at hf;cases ev with
  | none=>cases hf
  | some x=>
   obtain ⟨g1,g2⟩:=mem_rid.1 (e3 x rfl);by_cases hd:x.d=true
   ·simp only [hd,if_true,List.mem_singleton] at hf;exact ⟨x,g1,g2,hd,hf⟩
   ·simp [hd] at hf
 refine ⟨by rw [e2];unfold toldL;split<;>(try split)<;>simp,key,fun hne=>?_⟩;obtain ⟨f,hf⟩:=List.exists_mem_of_ne_nil _ hne;obtain ⟨x,g1,_,g2,_⟩:=key f hf;cases hi:r.in_ with
 | true=>rfl
 | false=>rw [k.nt hi x g1] at g2;cases g2
theorem HB.fok (k:HB r room L P) {f:AFr} {x:AP} (hx:x∈L) (e:f=⟨x.no,0,x.b⟩):1≤f.page∧f.page≤1048576∧f.page.toNat*r.size≤16777216∧f.b.length=r.size:=by
 subst e;have g:=k.rg x hx;have h:=k.few;refine ⟨g.1,by show x.no≤_;omega,?_,?_⟩
 ·have:x.no.toNat*r.size≤P.length*r.size:=Nat.mul_le_mul_right _ (by omega);show x.no.toNat*r.size≤_;omega
 ·show x.b.length=_;rw [k.at_ x hx];exact k.page_len (by omega)
theorem HB.fl (k:HB r room L P) {l:List AFr} (hin:r.in_=true) (hl:∀f∈l,1≤f.page∧f.page≤P.length∧f.b.length=r.size) (q:FL r r' l):r'.valid≤r'.now∧r'.valid*r.size=r'.bytes∧(∀i:Nat,(∀f∈l,f.page≠i+1)→upF r' (fT r'.D) i=upF r (fT r.D) i)∧((l.map (·.page)).Nodup→∀f∈l,upF r' (fT r'.D) (f.page-1).toNat=f.b):=by
 have v:=k.vn hin;have hby:=k.k.by_;have hf0:((fT r.D).take (r.valid*r.size)).length=r.valid*r.size:=by rw [List.length_take];omega
 have hnow:r.now=P.length:=by have:=k.np;unfold presH at this;rw [if_pos hin] at this;exact this
 obtain ⟨q1,q2,q5,q3,q4⟩:=layP_up (l:=l) hf0 fun g hg=>⟨(hl g hg).1,(hl g hg).2.2⟩;rw [←q.lay] at q1 q2 q3 q4 q5;have h5:r'.valid≤P.length:=q5 P.length (by omega) fun g hg=>(hl g hg).2.1;have hin':r'.in_=true:=q.in_.trans hin;refine ⟨by rw [q.now];omega,q.bytes.symm,fun i hi=>?_,fun hn f hf=>?_⟩
 ·rw [upF_in hin',upF_in hin,q.size];have:=q3 i hi;simp only at this;rw [this,upZ_take]
 ·rw [upF_in hin',q.size];exact q4 hn f hf
theorem HB.put (k:HB r room L P) (h1:1≤no) (h2:no≤P.length) (hb:b.length=r.size) (hd0:d=false→b=P.getD (no-1) []) (hd1:d=true→r.in_=true) (q:(putA room no b d L=[]∧r'=r)∨(putA room no b d L≠[]∧FL r r' (putA room no b d L))):HB r' room (putL room no b d L) (P.set (no-1) b):=by
 obtain ⟨hA1,hA2,hA3⟩:=k.ptA (b:=b) (d:=d) h1;obtain ⟨ev,e1,e2,e3,e4⟩:=put_cases (L:=L) (room:=room) (b:=b) (d:=d) (show 1≤(no:Int) by omega) k.rm.1;have hk:no-1<P.length:=by omega
 have hnd1:(nos (putL1 (no:Int) b d L)).Nodup:=by
  show ((no:Int)::nos (rid (no:Int) L)).Nodup;rw [List.nodup_cons];exact ⟨by rw [nos_rid];simp,nd_rid k.nd⟩
 have hsub:∀y∈putL room (no:Int) b d L,y∈putL1 (no:Int) b d L:=fun y hy=>by rw [e1];exact List.mem_append_left _ hy
 have hL1:∀ {y:AP},y∈putL1 (no:Int) b d L→y=⟨(no:Int),b,d || wasD (no:Int) L⟩∨(y∈L∧y.no≠no):=fun {y} hy=>(List.mem_cons.1 hy).imp id fun h=>mem_rid.1 h;have hnew:(⟨(no:Int),b,d || wasD (no:Int) L⟩:AP)∈putL room (no:Int) b d L:=by
  have h3:(⟨(no:Int),b,d || wasD (no:Int) L⟩:AP)∈putL1 (no:Int) b d L:=List.mem_cons_self;rw [e1] at h3;rcases List.mem_append.1 h3 with h3 | h3
  ·exact h3
  ·cases ev with
   | none=>cases h3
   | some x=>
    have h5:(⟨(no:Int),b,d || wasD (no:Int) L⟩:AP)=x:=by simpa using h3
    have:=(mem_rid.1 (e3 x rfl)).2;rw [←h5] at this;exact absurd rfl this
 have hlen:((putL room (no:Int) b d L).length:Int)≤room:=e4 (by have:=rid_len (no:Int) L;have:=k.rm.2.2;simp only [putL1,List.length_cons];omega);have hq:HC0 r'∧r'.in_=r.in_∧r'.now=r.now∧r'.sure=r.sure∧r'.size=r.size∧r'.km=r.km∧(r.in_=true→r'.valid≤r'.now∧r'.valid*r'.size≤r'.bytes)∧(r.in_=false→r'=r)∧(r'.begun=false→r'.bytes=r'.sure*r'.size)∧(∀i:Nat,(∀f∈putA room no b d L,f.page≠i+1)→upF r' (fT r'.D) i=upF r (fT r.D) i)∧(∀f∈putA room no b d L,upF r' (fT r'.D) (f.page-1).toNat=f.b):=by
  rcases q with ⟨q0,rfl⟩ | ⟨q0,q⟩
  ·rw [q0];exact ⟨k.k,rfl,rfl,rfl,rfl,rfl,k.vn,fun _=>rfl,k.bs,fun _ _=>rfl,fun _ h=>by cases h⟩
  ·have hin:=hA3 q0;obtain ⟨f1,f2,f3,f4⟩:=k.fl hin (fun f hf=>by
    obtain ⟨x,g1,_,_,rfl⟩:=hA2 f hf;exact ⟨(k.rg x g1).1,(k.rg x g1).2,(k.fok g1 rfl).2.2.2⟩) q
   refine ⟨q.ok,q.in_,q.now,q.sure,q.size,q.km,fun _=>⟨f1,by rw [q.size,f2];exact Nat.le_refl _⟩,fun h=>(by rw [hin] at h;cases h),fun h=>absurd h (by rw [q.bg];decide),f3,f4 ?_⟩
   match h:putA room no b d L with
   | []=>simp
   | [f]=>simp
   | f::g::l=>rw [h] at hA1;simp at hA1
 obtain ⟨c1,c2,c3,c4,c5,c6,c7,c8,c9,q7,q6⟩:=hq;refine ⟨c1,?_,?_,?_,?_,⟨k.rm.1,k.rm.2.1,hlen⟩,?_,?_,?_,?_,fun h=>c7 (c2▸h),fun h=>by rw [c6];exact k.km (c2▸h),fun h=>?_,c9⟩
 ·unfold presH;rw [c2,c3,c4,List.length_set];exact k.np
 ·intro x hx;rw [c5];rcases List.mem_or_eq_of_mem_set hx with h | h
  ·exact k.pl x h
  ·rw [h];exact hb
 ·rw [List.length_set,c5];exact k.mp
 ·refine hnd1.sublist ?_;rw [e1];unfold nos;rw [List.map_append];exact List.sublist_append_left _ _
 ·intro y hy;rw [List.length_set];rcases hL1 (hsub y hy) with rfl | ⟨h,_⟩
  ·simp only;omega
  ·exact k.rg y h
 ·intro y hy;rcases hL1 (hsub y hy) with rfl | ⟨h,h'⟩
  ·simp only;rw [show ((no:Int)-1).toNat=no-1 by omega,getD_set hk,if_pos rfl]
  ·have:=k.rg y h;rw [getD_set hk,if_neg (by omega)];exact k.at_ y h
 ·intro i hi h;rw [List.length_set] at hi;by_cases hin:i=no-1
  ·subst hin;have h5:=h _ hnew (by simp only;omega);simp only [Bool.or_eq_false_iff] at h5;rw [getD_set hk,if_pos rfl,q7 _ fun f hf=>by
    obtain ⟨x,_,g,_,rfl⟩:=hA2 f hf;simp only;omega]
   rw [k.un _ hi fun x hx e=>wasD_of k.nd h5.2 x hx (by omega),hd0 h5.1]
  ·rw [getD_set hk,if_neg hin];by_cases hev:∃f∈putA room no b d L,f.page=i+1
   ·obtain ⟨f,hf,e⟩:=hev;have h6:=q6 f hf;obtain ⟨x,g1,_,_,rfl⟩:=hA2 f hf;simp only at e h6;rw [show (x.no-1).toNat=i by omega,k.at_ x g1,show (x.no-1).toNat=i by omega] at h6;exact h6
   ·rw [q7 i fun f hf e=>hev ⟨f,hf,e⟩];refine k.un i hi fun x hx e=>?_;cases hd:x.d with
    | false=>rfl
    | true=>
     have h7:x∈putL1 (no:Int) b d L:=List.mem_cons_of_mem _ (mem_rid.2 ⟨hx,by omega⟩);rw [e1] at h7;rcases List.mem_append.1 h7 with h7 | h7
     ·rw [h x h7 e] at hd;cases hd
     ·cases ev with
      | none=>cases h7
      | some y=>
       have:x=y:=by simpa using h7
       subst this;exact absurd ⟨⟨x.no,0,x.b⟩,by rw [e2];unfold toldL;simp [hd],e⟩ hev
 ·intro hi y hy;rw [c2] at hi;rcases hL1 (hsub y hy) with rfl | ⟨h,_⟩
  ·simp only [Bool.or_eq_false_iff];refine ⟨by cases d;rfl;exact absurd (hd1 rfl) (by rw [hi];decide),?_⟩;unfold wasD;cases hh:hit (no:Int) L with
   | none=>rfl
   | some x=>exact k.nt hi x (hit_some hh).1
  ·exact k.nt hi y h
 ·have e:=c8 (c2▸h);subst e;exact k.out h
end
end Go.Proofs.YtndlpekckpdncaaGreat
namespace Go.HL
open Go Go.Proofs.YtndlpekckpdncaaGreat
section
variable {h0 h h':Heap} {D:Nat→Prop} {M R:List Itm} {a b c d w x y z a':Itm}
theorem Hp.lc3F {cc:Nat} {F:Nat→Prop} {room:Int} {L:List AP} {s:SV} {fl:List Fr} (ok:Hp h0 D (a::b::c::cacL cc F room L::M) R h) (hf:RdL h F F s fl):Hp h (starI [a,b,c]).F [a,b,c] [rdI F F s fl] h:=by
 have o:=ok.lc3.e0;refine ⟨o.chg,o.m,fun i hi=>?_,o.mm,fun m hm i hi j hj hj2=>?_⟩
 ·rw [List.mem_singleton.1 hi];exact ⟨hf,fun j hj=>((ok.m (cacL cc F room L) (by simp)).2 j (hj.elim id id)).1⟩
 ·rw [List.mem_singleton.1 hi] at hj2;have hm3:=List.pairwise_append.1 (show ([a,b,c]++(cacL cc F room L::M)).Pairwise _ from ok.mm);exact hm3.2.2 m hm (cacL cc F room L) List.mem_cons_self j hj (hj2.elim id id)
theorem Hp.liftH (ok:Hp h0 D (a::M) R h) (q:Hp h a.F [a'] [x] h') (hx:∀j,x.F j→a.F j∨h.size≤j):Hp h0 D (a'::M) (x::R) h':=by
 have o:=ok.upd q.chg (fun _ x=>x) a' q.m0 fun j hj=>by
  have h1:=(q.m _ List.mem_cons_self).2 j hj;exact h1.2.imp id fun h=>⟨h,h1.1⟩
 refine ⟨o.chg,o.m,fun i hi=>?_,o.mm,fun m hm z hz j hj hj2=>?_⟩
 ·rcases List.mem_cons.1 hi with rfl | hi
  ·exact q.r _ (by simp)
  ·exact o.r i hi
 ·rcases List.mem_cons.1 hz with rfl | hz
  ·rcases List.mem_cons.1 hm with rfl | hm
   ·exact q.mr _ (by simp) _ (by simp) j hj hj2
   ·rcases hx j hj2 with h1 | h1
    ·exact (List.pairwise_cons.1 ok.mm).1 m hm j h1 hj
    ·have:=((ok.m m (List.mem_cons_of_mem _ hm)).2 j hj).1;omega
  ·exact o.mr m hm z hz j hj hj2
theorem Hp.fresh4 (ok:Hp h0 (starI [w,x,y,z]).F (a::w::x::y::z::M) R h):∀j,a.F j→h0.size≤j:=fun j hj=>by
 rcases ((ok.m a List.mem_cons_self).2 j hj).2 with ⟨i,hi,h2⟩ | h1
 ·exact absurd h2 ((List.pairwise_cons.1 ok.mm).1 i (by simp at hi⊢;rcases hi with h | h | h | h<;>simp [h]) j hj)
 ·exact h1
theorem Hp.lf4R (ok:Hp h0 D (a::b::c::d::M) R h) (q:Hp h (starI [a,b,c,d]).F [a,b,c,d] [x] h') (hx:∀j,x.F j→h.size≤j):Hp h0 D (a::b::c::d::M) (x::R) h':=by
 have o:Hp h0 D (starI [a,b,c,d]::M) R h:=Hp.star (l:=[a,b,c,d]) ok;have q2:Hp h (starI [a,b,c,d]).F (starI [a,b,c,d]::[]) [x] h':=Hp.star (l:=[a,b,c,d]) (M:=[]) q;exact Hp.unstar (l:=[a,b,c,d]) (o.liftH q2 fun j hj=>.inr (hx j hj))
end
end Go.HL
namespace Go.Proofs.YtndlpekckpdncaaGreat
open Go Go.HL
theorem hget_any {h:Heap} {p no:Nat} {r:RH} {D Fd Fc:Nat→Prop} {room:Int} {L:List AP} (k:HD r.D) (hsz:r.size≤4096) (hno:1≤no∧no≤1048576) (ok:Hp h D [hboxI p r,dgI r.d Fd r.D,cacL r.c Fc room L] [] h) :
  HC Tryz.prog 304 #[.pointer (some ⟨p,0,none⟩),.int .i64 (no:Int)] h (fun v h'=>∃Fc' a c,v=.tuple #[.slice a (gotH r L no).length c,.int .i64 0]∧Hp h D [capI 1 5 (a,(gotH r L no).length,c) ((gotH r L no).map bv),hboxI p r,dgI r.d Fd r.D,cacL r.c Fc' room (getL no L)] [] h'):=by
 refine HC.go Tryz.func304 43 ?_;refine .seq<|.r<|.z .asS<|.z .asI<|.nil ?_;refine .seq<|.seq<|.r<|.z .mvP<|.z .nil<|.z (.fa T.fd212_3)<|.z (.ldx T.ag194 ok.m0)<|.z .mvI<|.c' 14 .func (lget_any (no:=(no:Int)) (ok.n2).m0) ?_;rintro _ η1 ⟨Fg1,(⟨ag1,cg1,xg1,rfl,hhg1,q⟩ | ⟨ag1,ng1,cg1,rfl,hhg1,q⟩)⟩
 ·
  have ok:=(ok.n2).lift2 q;refine .z .mvU<|.z .ex<|.z .ex<|.z .asS<|.z .asB<|.nil ?_;refine .seq<|.r<|.z .mvB<|.nil ?_;refine .ct<|.seq<|.r<|.z .mvS<|.z .asS<|.z .asI<|.nil ?_;have hg:gotH r L no=xg1.b:=by unfold gotH;rw [hhg1]
  refine .ret ⟨.tuple #[.slice ag1 xg1.b.length cg1,.int .i64 0],Res.two rfl rfl rfl,⟨Fg1,ag1,cg1,(by rw [hg]),(by rw [hg];exact (ok.n1.n3.n3.n3).k4)⟩⟩
 have ok:=(ok.n2).lift1 q;refine .z .mvU<|.z .ex<|.z .ex<|.z .asS<|.z .asB<|.nil ?_;refine .seq<|.r<|.z .mvB<|.nil ?_;refine .cf<|.skip<|.seq<|.seq<|.r<|.z .mvP<|.z .nil<|.z (.fa T.fd212_0)<|.z (.fa T.fd210_0)<|.z (.ldx T.ag4 ok.m1)<|.z .mvB<|.spl (fun G24=>?_) (fun G24=>?_)
 ·
  refine .z .mvI<|.z .mvP<|.z .nil<|.z (.fa T.fd212_0)<|.z (.fa T.fd210_2)<|.z (.ldx T.ag3 ok.m1)<|.z .gtr<|.z .pkt<|.nil ?_;refine .cd (fun C1=>?_) (fun C1=>?_)
  ·
   refine .seq<|.r<|.z .mvP<|.z .nil<|.z (.fa T.fd212_2)<|.z (.ldx T.ag3 ok.m1)<|.a' 37 (.mks r.size r.size T.el44 T.sz5 T.by5 T.zr5 ok) ?_;rintro _ η2 ⟨pb1,rfl,ok,xe⟩;have ok:=ok.cx (ys:=(List.replicate r.size (0:UInt8)).map bv) (zeros8 _);refine .z .asS<|.z .asI<|.nil ?_;have hg:gotH r L no=List.replicate r.size 0:=by unfold gotH;rw [hhg1];exact if_pos ⟨by simpa using G24,by omega⟩
   refine .ret ⟨.tuple #[.slice (some ⟨pb1,0,none⟩) r.size r.size,.int .i64 0],Res.two rfl rfl rfl,⟨Fg1,some ⟨pb1,0,none⟩,r.size,(by rw [hg];simp only [List.length_replicate]),(by rw [hg];simp only [List.length_replicate];exact (ok.n1.n3.n3.n3).k4)⟩⟩
  refine .skip<|.seq<|.r<|.z .mvP<|.z .mvI<|.c' 40 .func (hold_any (p:=p) (r:=r) (no:=no) k hsz (by omega) (ok.n2.n2).lc2) ?_;rintro _ η3 ⟨ao1,co1,rfl,q⟩;have ok:=(ok.n2.n2).lf23 q;refine .z .ex<|.z .ex<|.z .asS<|.z .asI<|.nil ?_;have hg:gotH r L no=pgF r.size (fT r.D) (no-1):=by unfold gotH;rw [hhg1];exact if_neg (by rintro ⟨_,h1⟩;omega)
  refine .ret ⟨.tuple #[.slice ao1 ((pgF r.size (fT r.D) (no-1)).length) co1,.int .i64 0],Res.two rfl rfl rfl,⟨Fg1,ao1,co1,(by rw [hg]),(by rw [hg];exact (ok).k4)⟩⟩
 refine .y<|.y<|.y<|.y<|.y<|.y<|.y<|.z .pkf<|.nil ?_;refine .cf<|.skip<|.seq<|.r<|.z .mvP<|.z .mvI<|.c' 40 .func (hold_any (p:=p) (r:=r) (no:=no) k hsz (by omega) (ok.n2.n2).lc2) ?_;rintro _ η4 ⟨ao2,co2,rfl,q⟩;have ok:=(ok.n2.n2).lf23 q;refine .z .ex<|.z .ex<|.z .asS<|.z .asI<|.nil ?_;have hg:gotH r L no=pgF r.size (fT r.D) (no-1):=by unfold gotH;rw [hhg1];exact if_neg (by rintro ⟨h1,_⟩;simp [h1] at G24)
 refine .ret ⟨.tuple #[.slice ao2 ((pgF r.size (fT r.D) (no-1)).length) co2,.int .i64 0],Res.two rfl rfl rfl,⟨Fg1,ao2,co2,(by rw [hg]),(by rw [hg];exact (ok).k4)⟩⟩
theorem hput_any {h:Heap} {p no:Nat} {r:RH} {D Fd Fc F2 E2:Nat→Prop} {room:Int} {L:List AP} {P:List (List UInt8)} {a:Option Addr} {c:Nat} {l:List UInt8} {d:Bool} (k:HB r room L P) (h1:1≤no) (hcg:r.D.chg<490000000) (hl:l.length≤1000000) (ok:Hp h D [hboxI p r,kepI r.km r.kept,dgI r.d Fd r.D,cacL r.c Fc room L] [rdI F2 E2 (a,l.length,c) l] h) :
  HC Tryz.prog 308 #[.pointer (some ⟨p,0,none⟩),.int .i64 (no:Int),.slice a l.length c,.bool d] h (fun v h'=>v=.int .i64 0∧∃r' Fd' Fc',((putA room no l d L=[]∧r'=r)∨(putA room no l d L≠[]∧FL r r' (putA room no l d L)))∧Hp h D [hboxI p r',kepI r'.km r'.kept,dgI r'.d Fd' r'.D,cacL r.c Fc' room (putL room no l d L)] [] h'):=by
 obtain ⟨hA1,hA2,hA3⟩:=k.ptA (b:=l) (d:=d) h1;have hrm:=k.rm;refine HC.go Tryz.func308 19 ?_;refine .seq<|.r<|.z .asI<|.nil ?_;refine .seq<|.r<|.z .mvP<|.z .mvP<|.z .nil<|.z (.fa T.fd212_3)<|.z (.ldx T.ag194 ok.m0)<|.z .mvI<|.z .mvS<|.z .mvB<|.c' 17 .func (lput_any (no:=(no:Int)) (a:=a) (n:=c) (l:=l) (d:=d) (ok.n3).m0 ok.n3.r0 hl hrm.1 (by omega)) ?_;rintro vp1 η1 ⟨Fp1,q,hfrp1⟩;have ok:=(ok.n3).lift1 q;obtain ⟨⟨ap1,np1,cp1⟩,rfl,hfp1⟩:=hfrp1;obtain rfl:np1=((putA room (no:Int) l d L).map AFr.fr).length:=hfp1.n;rw [show sv (ap1,((putA room (no:Int) l d L).map AFr.fr).length,cp1)=.slice ap1 ((putA room (no:Int) l d L).map AFr.fr).length cp1 from rfl];refine .c' 18 .func (hflush_any (p:=p) (r:=r) (l:=(putA room (no:Int) l d L)) (a:=ap1) (c:=cp1) k.k (fun h=>k.km (hA3 h)) (by omega) (fun h=>(k.vn (hA3 h)).2) rfl (by omega) (fun f hf=>let ⟨x,g,_,_,e⟩:=hA2 f hf;k.fok g e) ((ok.n3.n3.n3).lc3F hfp1)) ?_;rintro _ η2 ⟨rfl,rw1,Fdw1,ww1,q⟩;have ok:=(ok.n3.n3.n3).lf33 q;refine .z .asI<|.nil ?_;refine .ret ⟨.int .i64 0,Res.one rfl rfl,⟨rfl,rw1,Fdw1,Fp1,ww1,(ok).k4.e0⟩⟩
def unP (r:RH) (f:AFr):Bool:=decide ((r.valid:Int)<f.page∨r.begun=true∨pgF r.size (fT r.D) (f.page.toNat-1)≠f.b)
def unlH (r:RH) (L:List AP):List AFr:=(dirtyB L).filter (unP r)
theorem unG_s {l:List AFr} {O:List Nat} {i:Nat} (hi:i<l.length):unG l (O++[i])=unG l O++[l[i]]:=by simp [unG,hi]
theorem flt_take {l:List AFr} {i:Nat} {Q:AFr→Bool} (hi:i<l.length):(l.take (i+1)).filter Q=(l.take i).filter Q++(if Q l[i]=true then [l[i]] else []):=by
 rw [List.take_succ_eq_append_getElem hi,List.filter_append,List.filter_cons];split<;>rfl
theorem HB.nrng {r:RH} {room:Int} {L:List AP} {P:List (List UInt8)} (k:HB r room L P):∀n∈nos L,-9223372036854775808≤n∧n≤9223372036854775807:=fun n hn=>by
 obtain ⟨x,hx,rfl⟩:=List.mem_map.1 hn;have h1:=k.rg x hx;have h2:=k.few;omega
theorem HB.dirty {r:RH} {room:Int} {L:List AP} {P:List (List UInt8)} (k:HB r room L P) {f:AFr} : f∈dirtyB L↔∃x∈L,x.d=true∧f=⟨x.no,0,x.b⟩:=by
 unfold dirtyB dirtyS;rw [List.mem_flatMap];constructor
 ·rintro ⟨n,hn,hf⟩;unfold dirty1 toldL at hf;cases hh:hit n L with
  | none=>rw [hh] at hf;cases hf
  | some x=>
   rw [hh] at hf;by_cases hd:x.d=true
   ·simp only [hd,if_true,List.mem_singleton] at hf;exact ⟨x,(hit_some hh).1,hd,hf⟩
   ·simp [hd] at hf
 ·rintro ⟨x,hx,hd,rfl⟩;refine ⟨x.no,by rw [List.mem_mergeSort];exact List.mem_map.2 ⟨x,hx,rfl⟩,?_⟩;unfold dirty1 toldL;rw [hit_of k.nd hx];simp [hd]
theorem HB.dpos {r:RH} {room:Int} {L:List AP} {P:List (List UInt8)} (k:HB r room L P):∀f∈dirtyB L,1≤f.page∧f.page≤1048576:=fun f hf=>by
 obtain ⟨x,hx,_,rfl⟩:=k.dirty.1 hf;have h1:=k.rg x hx;have h2:=k.few;exact ⟨h1.1,by show x.no≤_;omega⟩
theorem hunlike_any {h:Heap} {p:Nat} {r:RH} {Fd Fc:Nat→Prop} {room:Int} {L:List AP} {P:List (List UInt8)} (k:HB r room L P) (ok:Hp h (starI [hboxI p r,kepI r.km r.kept,dgI r.d Fd r.D,cacL r.c Fc room L]).F [hboxI p r,kepI r.km r.kept,dgI r.d Fd r.D,cacL r.c Fc room L] [] h) :
  HC Tryz.prog 311 #[.pointer (some ⟨p,0,none⟩)] h (fun v h'=>∃x Eo,v=.tuple #[sv x,.int .i64 0]∧Hp h (starI [hboxI p r,kepI r.km r.kept,dgI r.d Fd r.D,cacL r.c Fc room L]).F [hboxI p r,kepI r.km r.kept,dgI r.d Fd r.D,cacL r.c Fc room L] [rdI Eo Eo x ((unlH r L).map AFr.fr)] h'∧∀j,Eo j∨Eo j→h.size≤j):=by
 have hszk:=k.zc;have hsz:=hszk.2;have hrm:=k.rm;refine HC.go Tryz.func311 59 ?_;refine .seq<|.r<|.z .asS<|.z .asI<|.nil ?_;refine .seq<|.r<|.z .asS<|.nil ?_;refine .seq<|.seq<|.r<|.z .mvP<|.z .nil<|.z (.fa T.fd212_3)<|.z (.ldx T.ag194 ok.m0)<|.c' 13 .func (dirty_any (ok.n3).m0 k.nrng) ?_;rintro _ η1 ⟨S,hSp,hSs,hfr,hx⟩;rw [dirty_srt hSp hSs] at hfr;obtain ⟨⟨a0,n0,c0⟩,rfl,hf0⟩:=hfr;obtain ⟨fl,hfl⟩:∃fl,fl=(dirtyB L).map AFr.fr:=⟨_,rfl⟩;rw [←hfl] at hf0;obtain rfl:n0=fl.length:=hf0.n;rw [show sv (a0,fl.length,c0)=.slice a0 fl.length c0 from rfl];have ok:=ok.ret hx hf0;have hmc:=ok.r0.m;have hcc:=ok.r0.c;simp only at hmc hcc;obtain ⟨xa,xc,hf⟩:=RdL.frs ok.r0;have ok:=ok.d0 (frsI (Nw h η1) (Nw h η1) (a0,fl.length,c0) fl xa xc) hf (fun _ h=>h);have hfll:fl.length=(dirtyB L).length:=by rw [hfl,List.length_map]
 have hdl:=dirtyB_len (L:=L);refine .z (.len T.el252)<|.z .mvI<|?_;have ok:=ok.nilC (k:=3) (e:=277);refine .nil ?_;refine .block fun K0 hK0=>.loop (fun m s hh=>∃(i:Nat) (O:List Nat) (a4:Option Addr) (n4 c4:Nat),Has s [(0,.pointer (some ⟨p,0,none⟩)),(4,.slice a4 n4 c4),(13,.slice a0 fl.length c0),(14,.int .i64 (fl.length:Int)),(15,.int .i64 (i:Int))]∧Hp h (starI [hboxI p r,kepI r.km r.kept,dgI r.d Fd r.D,cacL r.c Fc room L]).F [capI 3 277 (a4,n4,c4) (O.flatMap (vfN fl xa xc)),boxI p 212 [.bool r.in_,.int .i64 (r.now:Int),.int .i64 (r.valid:Int),.bool r.begun,.int .u64 (r.nonce:Int),.map r.km,.int .i64 (r.marked:Int),.pointer (some ⟨r.d,0,none⟩),.int .i64 (r.size:Int),.pointer (some ⟨r.c,0,none⟩),.int .i64 (r.sure:Int),.int .i64 (r.bytes:Int),.bool false],kepI r.km r.kept,dgI r.d Fd r.D,cacL r.c Fc room L] [frsI (Nw h η1) (Nw h η1) (a0,fl.length,c0) fl xa xc,rdI (Nw h η1) (Nw h η1) (a0,fl.length,c0) fl] hh∧i≤fl.length∧unG (dirtyB L) O=((dirtyB L).take i).filter (unP r)∧(∀j∈O,j<(dirtyB L).length)∧O.length≤i∧m=fl.length-i) ?_ ?_
 ·exact ⟨_,0,[],none,0,0,⟨rfl,rfl,rfl,rfl,rfl,trivial⟩,(ok).k5.f1.f1.e2,Nat.zero_le _,rfl,(fun _ h=>by cases h),Nat.le_refl _,rfl⟩
 rintro _ _ η2 ⟨i,O,a4,n4,c4,hs,ok,hi,hun,hO,hOl,rfl⟩ J0 hJ0;refine .frame hs fun τ=>?_;refine .seq<|.r<|.z .lss<|.nil ?_;refine .seq<|.cdr (fun C0=>?_) (fun C0=>?_)
 ·
  refine .exit<|hK0 _ _<|.seq<|.r<|.z .mvS<|.z .asS<|.z .asI<|.nil ?_;have hun2:unlH r L=unG (dirtyB L) O:=by rw [hun,show i=(dirtyB L).length by omega,List.take_length];rfl
  have ok:=ok;have hfr:=Hp.fresh4 ok;have ok:=Hp.idxR (ok) (fun j hj=>by rw [hfll];exact hO j hj);rw [hfl,unG_fr hO,←hun2] at ok;refine .ret ⟨.tuple #[.slice a4 n4 c4,.int .i64 0],Res.two rfl rfl rfl,⟨(a4,n4,c4),(fun j=>blkC (sv (a4,n4,c4)) j∨(Nw h η1) j),rfl,ok.k4.e1,(fun j hj=>(hj.elim id id).elim (fun h=>hfr j h) fun h=>h.1)⟩⟩
 refine .skip<|.seq<|.block fun K1 hK1=>.seq<|.r<|?_;obtain ⟨bb1,oo1,rfl,fb1⟩:=ok.r0.pos (by omega);refine .z (.ix i T.el252 T.sz277)<|?_;have ok:=ok.d0 (rdI (Nw h η1) (Nw h η1) ((xa i),(frN fl i).b.length,(xc i)) ((frN fl i).b)) ((ok.r0).b i (by omega)) (fun _ h=>.inr (h.elim id id));refine .z (.ldc (vs:=vfN fl xa xc i) T.ag277 (frs_ats (ok.r1).sl (i:=i) (by omega)) T.sz277)<|.a' 6 (.alA T.zr277 ok) ?_;rintro _ η3 ⟨pb1,rfl,ok,xe⟩;refine .ur' (.stW (vs:=[.int .i64 ((frN fl i).page),.int .i64 ((frN fl i).commit),.slice (xa i) ((frN fl i).b.length) (xc i)]) T.sz277 ok (oneL rfl)) ?_;rintro η4 ⟨ok,cg⟩;refine .nil ?_;refine .seq<|.seq<|?_;have hil:i<(dirtyB L).length:=by omega
 have hfj:=frH_map hil;rw [←hfl] at hfj;have hpj:=k.dpos (dirtyB L)[i] (List.getElem_mem hil);obtain ⟨pn,hpn⟩:∃pn:Nat,(dirtyB L)[i].page=(pn:Int):=⟨(dirtyB L)[i].page.toNat,by omega⟩;have hfp:(frN fl i).page=(pn:Int):=by rw [hfj];exact hpn
 have hfb:(frN fl i).b=(dirtyB L)[i].b:=by rw [hfj];rfl
 rw [hfp] at ok;refine .q (hm:=mixed)<|.z (.fa T.fd277_0)<|.z (.ldx T.ag3 ok.m0)<|.z .mvP<|.z .nil<|.z (.fa T.fd212_0)<|.z (.fa T.fd210_2)<|.z (.ldx T.ag3 ok.m2)<|.z .gtr<|.z .mvB<|.sd (fun G27=>?_) (fun G27=>?_)
 ·
  refine .y<|.y<|.y<|.y<|.y<|.z .pkt<|.nil ?_;refine .ct<|.seq<|.r<|.z .mvS<|.z (.ldb T.ag277 ok.m0 T.sz277)<|.a' 36 (.lit [.tmp 35] (cs:=[.int .i64 (pn:Int),.int .i64 ((frN fl i).commit),.slice (xa i) ((frN fl i).b.length) (xc i)]) T.el252 T.sz277 T.zr277 ok ⟨rfl,trivial⟩) ?_;rintro _ η5 ⟨pb2,rfl,ok,xe⟩;refine .a' 37 (.app (news:=[.int .i64 (pn:Int),.int .i64 ((frN fl i).commit),.slice (xa i) ((frN fl i).b.length) (xc i)]) T.el252 T.sz277 T.by277 T.zr277 ok.n2 (ok.n2.m1).sl (oneL rfl) (by rw [flat_len (vfN_len fl xa xc)];simp only [List.length_cons,List.length_nil];omega)) ?_;rintro _ η6 ⟨ya1,yn1,yc1,rfl,ok,ap⟩;have ok:=(ok).cx (ys:=(O++[i]).flatMap (vfN fl xa xc)) (by rw [List.flatMap_append];simp only [vfN,hfp,List.flatMap_cons,List.flatMap_nil,List.append_nil]);refine .z .asS<|.nil ?_;refine .exit<|hK1 _ _<|.r<|.z (.addI (b:=1))<|.z .mvI<|.nil ?_;refine .end<|hJ0 _ _ _ ⟨i+1,O++[i],ya1,yn1,yc1,⟨rfl,rfl,rfl,rfl,rfl,trivial⟩,(ok.n6.n6.n6.n6.n4).k5.f2.f2.e2,by omega,(by rw [unG_s hil,flt_take hil,if_pos (show unP r (dirtyB L)[i]=true from decide_eq_true (by rw [hpn,Int.toNat_natCast,←hfb];exact .inl (by first | omega | (simpa using G27)))),hun]),(fun j hj=>(List.mem_append.1 hj).elim (hO j) fun h=>by rw [List.mem_singleton.1 h];exact hil),(by simp;omega),rfl⟩ (by omega)
 refine .z .mvP<|.z .nil<|.z (.fa T.fd212_0)<|.z (.fa T.fd210_3)<|.z (.ldx T.ag4 ok.m2)<|.z .pkf<|.nil ?_;refine .cond (fun C1=>?_) (fun C1=>?_)
 ·
  refine .seq<|.r<|.z .mvS<|.z (.ldb T.ag277 ok.m0 T.sz277)<|.a' 36 (.lit [.tmp 35] (cs:=[.int .i64 (pn:Int),.int .i64 ((frN fl i).commit),.slice (xa i) ((frN fl i).b.length) (xc i)]) T.el252 T.sz277 T.zr277 ok ⟨rfl,trivial⟩) ?_;rintro _ η7 ⟨pb3,rfl,ok,xe⟩;refine .a' 37 (.app (news:=[.int .i64 (pn:Int),.int .i64 ((frN fl i).commit),.slice (xa i) ((frN fl i).b.length) (xc i)]) T.el252 T.sz277 T.by277 T.zr277 ok.n2 (ok.n2.m1).sl (oneL rfl) (by rw [flat_len (vfN_len fl xa xc)];simp only [List.length_cons,List.length_nil];omega)) ?_;rintro _ η8 ⟨ya2,yn2,yc2,rfl,ok,ap⟩;have ok:=(ok).cx (ys:=(O++[i]).flatMap (vfN fl xa xc)) (by rw [List.flatMap_append];simp only [vfN,hfp,List.flatMap_cons,List.flatMap_nil,List.append_nil]);refine .z .asS<|.nil ?_;refine .exit<|hK1 _ _<|.r<|.z (.addI (b:=1))<|.z .mvI<|.nil ?_;refine .end<|hJ0 _ _ _ ⟨i+1,O++[i],ya2,yn2,yc2,⟨rfl,rfl,rfl,rfl,rfl,trivial⟩,(ok.n6.n6.n6.n6.n4).k5.f2.f2.e2,by omega,(by rw [unG_s hil,flt_take hil,if_pos (show unP r (dirtyB L)[i]=true from decide_eq_true (by rw [hpn,Int.toNat_natCast,←hfb];exact .inr (.inl C1))),hun]),(fun j hj=>(List.mem_append.1 hj).elim (hO j) fun h=>by rw [List.mem_singleton.1 h];exact hil),(by simp;omega),rfl⟩ (by omega)
 refine .skip<|.seq<|.r<|.z .mvP<|.z (.fa T.fd277_0)<|.z (.ldx T.ag3 ok.m0)<|.c' 42 .func (hold_any (p:=p) (r:=r) (no:=pn) k.k.hd hsz (by omega) (ok.n4.n3).lc2.e0) ?_;rintro _ η9 ⟨ao1,co1,rfl,q⟩;have ok:=(ok.n4.n3).lf23 q;refine .z .mvU<|.z .ex<|.z .ex<|.z .asS<|.z .asI<|.nil ?_;refine .seq<|.seq<|.r<|.z .mvI<|.z .neq<|.nil ?_;refine .cf<|.skip<|.seq<|.r<|.z .mvS<|.z (.fa T.fd277_2)<|.z (.ldx T.ag44 ok.m3)<|.k 51 .func (equal_any (a:=ao1) (c:=co1) (l:=(pgF r.size (fT r.D) (pn-1))) (b:=(xa i)) (d:=(xc i)) (l2:=(frN fl i).b) (RdL.ofCapB (v:=(ao1,(pgF r.size (fT r.D) (pn-1)).length,co1)) (l:=(pgF r.size (fT r.D) (pn-1))) ok.m0) ok.r0)<|.z .notd<|.nil ?_;refine .cd (fun C3=>?_) (fun C3=>?_)
 ·
  have ho3:pgF r.size (fT r.D) (pn-1)≠(frN fl i).b:=by simpa using C3
  refine .r<|.z .mvS<|.z (.ldb T.ag277 ok.m3 T.sz277)<|.a' 55 (.lit [.tmp 54] (cs:=[.int .i64 (pn:Int),.int .i64 ((frN fl i).commit),.slice (xa i) ((frN fl i).b.length) (xc i)]) T.el252 T.sz277 T.zr277 ok ⟨rfl,trivial⟩) ?_;rintro _ η10 ⟨pb4,rfl,ok,xe⟩;refine .a' 56 (.app (news:=[.int .i64 (pn:Int),.int .i64 ((frN fl i).commit),.slice (xa i) ((frN fl i).b.length) (xc i)]) T.el252 T.sz277 T.by277 T.zr277 ok.n5 (ok.n5.m1).sl (oneL rfl) (by rw [flat_len (vfN_len fl xa xc)];simp only [List.length_cons,List.length_nil];omega)) ?_;rintro _ η11 ⟨ya3,yn3,yc3,rfl,ok,ap⟩;have ok:=(ok).cx (ys:=(O++[i]).flatMap (vfN fl xa xc)) (by rw [List.flatMap_append];simp only [vfN,hfp,List.flatMap_cons,List.flatMap_nil,List.append_nil]);refine .z .asS<|.nil ?_;refine .end<|hK1 _ _<|.r<|.z (.addI (b:=1))<|.z .mvI<|.nil ?_;refine .end<|hJ0 _ _ _ ⟨i+1,O++[i],ya3,yn3,yc3,⟨rfl,rfl,rfl,rfl,rfl,trivial⟩,(ok.n7.n5.n7.n6.n4).k5.f2.f2.e2,by omega,(by rw [unG_s hil,flt_take hil,if_pos (show unP r (dirtyB L)[i]=true from decide_eq_true (by rw [hpn,Int.toNat_natCast,←hfb];exact .inr (.inr ho3))),hun]),(fun j hj=>(List.mem_append.1 hj).elim (hO j) fun h=>by rw [List.mem_singleton.1 h];exact hil),(by simp;omega),rfl⟩ (by omega)
 have ho3:pgF r.size (fT r.D) (pn-1)=(frN fl i).b:=by simpa using C3
 refine .skip<|.end<|hK1 _ _<|.r<|.z (.addI (b:=1))<|.z .mvI<|.nil ?_;refine .end<|hJ0 _ _ _ ⟨i+1,O,a4,n4,c4,⟨rfl,rfl,rfl,rfl,rfl,trivial⟩,(ok.n6.n3.n6.n4.n6).k5.f2.f2.e2,by omega,(by rw [flt_take hil,if_neg (by rw [show unP r (dirtyB L)[i]=false from decide_eq_false (by rw [hpn,Int.toNat_natCast,←hfb];rintro (h | h | h);(first | omega | exact G27 (by simpa using h));simp [h] at C1;exact h ho3)];decide),List.append_nil];exact hun),hO,(by omega),rfl⟩ (by omega)
theorem un_nodup {r:RH} {room:Int} {L:List AP} {P:List (List UInt8)} (k:HB r room L P):((unlH r L).map (·.page)).Nodup:=by
 have h1:((dirtyB L).map (·.page)).Sublist ((nos L).mergeSort fun a b=>decide (a≤b)):=dirtyS_sub;have h2:((nos L).mergeSort fun a b=>decide (a≤b)).Nodup:=(List.mergeSort_perm _ _).nodup_iff.2 k.nd;exact (h2.sublist h1).sublist (List.filter_sublist.map _)
theorem un_ok {r:RH} {room:Int} {L:List AP} {P:List (List UInt8)} (k:HB r room L P) {f:AFr} (hf:f∈unlH r L):∃x∈L,x.d=true∧f=⟨x.no,0,x.b⟩:=k.dirty.1 (List.mem_filter.1 hf).1
theorem un_few {r:RH} {room:Int} {L:List AP} {P:List (List UInt8)} (k:HB r room L P):(unlH r L).length≤1048576:=by
 have h1:(unlH r L).length≤(dirtyB L).length:=List.length_filter_le _ _;have h2:=dirtyB_len (L:=L);have:=k.rm;omega
theorem HB.laid {r:RH} {room:Int} {L:List AP} {P:List (List UInt8)} (k:HB r room L P) (hin:r.in_=true) {f1:List UInt8} {v1:Nat} (e:(f1,v1)=layP r.size ((fT r.D).take (r.valid*r.size),r.valid) (unlH r L)) :
  (longN f1 (P.length*r.size)).length=P.length*r.size∧∀i,i<P.length→pgF r.size (longN f1 (P.length*r.size)) i=P.getD i []:=by
 have v:=k.vn hin;have hby:=k.k.by_;have hf0:((fT r.D).take (r.valid*r.size)).length=r.valid*r.size:=by rw [List.length_take];omega
 obtain ⟨q1,q2,q5,q3,q4⟩:=layP_up (l:=unlH r L) hf0 fun g hg=>by
  obtain ⟨x,hx,_,rfl⟩:=un_ok k hg;exact ⟨(k.rg x hx).1,by show x.b.length=_;rw [k.at_ x hx];exact k.page_len (by have:=k.rg x hx;omega)⟩
 rw [←e] at q1 q3 q4;simp only at q1 q3 q4;refine ⟨longN_len _ _,fun i hi=>?_⟩;have hup:upZ r.size v1 f1 i=P.getD i []:=by
  by_cases hx:∃x∈L,x.no=i+1∧x.d=true
  ·obtain ⟨x,hx,hno,hd⟩:=hx;have hb:x.b=P.getD i []:=by rw [k.at_ x hx,show (x.no-1).toNat=i by omega]
   by_cases hu:(⟨x.no,0,x.b⟩:AFr)∈unlH r L
   ·have:=q4 (un_nodup k) _ hu;simp only at this;rw [show (x.no-1).toNat=i by omega] at this;rw [this,hb]
   ·have hdt:(⟨x.no,0,x.b⟩:AFr)∈dirtyB L:=k.dirty.2 ⟨x,hx,hd,rfl⟩;have hp:unP r ⟨x.no,0,x.b⟩=false:=by
     cases h:unP r ⟨x.no,0,x.b⟩ with
     | false=>rfl
     | true=>exact absurd (List.mem_filter.2 ⟨hdt,h⟩) hu
    have hp2:=of_decide_eq_false hp;simp only at hp2;have h1:¬(r.valid:Int)<x.no:=fun h=>hp2 (.inl h);have h2:pgF r.size (fT r.D) (x.no.toNat-1)=x.b:=Classical.byContradiction fun h=>hp2 (.inr (.inr h));rw [q3 i fun g hg hpg=>?_,upZ_take]
    ·unfold upZ;rw [if_neg (by omega),←hb,←h2,show x.no.toNat-1=i by omega]
    ·obtain ⟨y,hy,_,rfl⟩:=un_ok k hg;have:y=x:=nos_inj k.nd hy hx (by simp only at hpg;omega);subst this;exact hu hg
  ·rw [q3 i fun g hg hpg=>?_,upZ_take,←upF_in hin,k.un i hi fun x hx' hno=>?_]
   ·cases hd:x.d with
    | false=>rfl
    | true=>exact absurd ⟨x,hx',hno,hd⟩ hx
   ·obtain ⟨y,hy,hd,rfl⟩:=un_ok k hg;exact hx ⟨y,hy,hpg,hd⟩
 rw [←hup];have hiz:(i+1)*r.size≤P.length*r.size:=Nat.mul_le_mul_right _ hi;rw [Nat.succ_mul] at hiz;unfold upZ;split
 ·rename_i h;have h3:v1*r.size≤i*r.size:=Nat.mul_le_mul_right _ h;exact pgF_ext List.length_replicate fun j hj=>by rw [gd_longN,if_pos (by omega),gd_zeros,gd_ge (by omega)]
 ·exact pgF_ext pgF_len fun j hj=>by rw [gd_longN,if_pos (by omega),gd_pgF hj]
structure FB (r r':RH) (l:List AFr):Prop where
 in_:r'.in_=r.in_
 now:r'.now=r.now
 km:r'.km=r.km
 d:r'.d=r.d
 size:r'.size=r.size
 c:r'.c=r.c
 sure:r'.sure=r.sure
 lay:((fT r'.D).take (r'.valid*r'.size),r'.valid)=layP r.size ((fT r.D).take (r.valid*r.size),r.valid) l
 bytes:r'.valid*r'.size≤r'.bytes
 ok:HC0 r'
 chg:r'.D.chg≤r.D.chg+9+l.length
theorem fl_both {r r':RH} {l:List AFr} (k:HC0 r) (hv:r.valid*r.size≤r.bytes) (q:(l=[]∧r'=r)∨(l≠[]∧FL r r' l)):FB r r' l:=by
 rcases q with ⟨rfl,rfl⟩ | ⟨_,q⟩
 ·exact ⟨rfl,rfl,rfl,rfl,rfl,rfl,rfl,rfl,hv,k,by show r'.D.chg≤r'.D.chg+9+0;omega⟩
 ·exact ⟨q.in_,q.now,q.km,q.d,q.size,q.c,q.sure,by rw [List.take_of_length_le (by rw [q.ok.by_,q.bytes,q.size];exact Nat.le_refl _)];exact q.lay,by rw [q.bytes,q.size];exact Nat.le_refl _,q.ok,q.chg⟩
structure LA (L':List AP) (r r':RH) (P:List (List UInt8)):Prop where
 now:r'.now=r.now
 d:r'.d=r.d
 size:r'.size=r.size
 c:r'.c=r.c
 len:(fT r'.D).length=P.length*r.size
 pg:∀i,i<P.length→pgF r.size (fT r'.D) i=P.getD i []
 bytes:r'.bytes=P.length*r.size
 hd:HD r'.D
 chg:r'.D.chg≤r.D.chg+30+(unlH r L').length
theorem cont_is {D:Dk} (h:(cont D nT).isSome=true):cont D nT=some (fT D):=by unfold fT;cases hc:cont D nT with | none=>rw [hc] at h;cases h | some b=>rfl
theorem cont_isn {D:Dk} (h:¬(cont D nT).isSome=true):cont D nT=none:=by cases hc:cont D nT with | none=>rfl | some b=>rw [hc] at h;exact absurd rfl h
theorem hlay_any {h:Heap} {p:Nat} {r:RH} {D Fd Fc:Nat→Prop} {room:Int} {L:List AP} {P:List (List UInt8)} (k:HB r room L P) (hin:r.in_=true) (hP:1≤P.length) (hcg:r.D.chg<400000000) (ok:Hp h D [hboxI p r,kepI r.km r.kept,dgI r.d Fd r.D,cacL r.c Fc room L] [] h) :
  HC Tryz.prog 305 #[.pointer (some ⟨p,0,none⟩)] h (fun v h'=>v=.int .i64 0∧∃r' Fd',LA L r r' P∧Hp h D [hboxI p r',kepI r'.km r'.kept,dgI r'.d Fd' r'.D,cacL r.c Fc room L] [] h'):=by
 have hzc:=k.zc;have hvn:=k.vn hin;have hby:=k.k.by_;have hfw:=k.few;have hun:=un_few k;have hnow:r.now=P.length:=by have:=k.np;unfold presH at this;rw [if_pos hin] at this;exact this
 have hpz:256≤P.length*r.size:=Nat.le_trans hzc.1 (Nat.le_mul_of_pos_left _ hP);refine HC.go Tryz.func305 140 ?_;refine .seq<|.r<|.z .asI<|.nil ?_;refine .seq<|.r<|.z .mvP<|.c' 14 .func (hunlike_any (p:=p) (r:=r) (L:=L) k (ok).lc4) ?_;rintro _ η1 ⟨xu,Eo,rfl,q,hEo⟩;have ok:=Hp.lf4R (ok) q hEo;obtain ⟨ax,nx,cx⟩:=xu;obtain rfl:nx=((unlH r L).map AFr.fr).length:=ok.r0.n;rw [show sv (ax,((unlH r L).map AFr.fr).length,cx)=.slice ax ((unlH r L).map AFr.fr).length cx from rfl];refine .z .mvU<|.z .ex<|.z .ex<|.z .asS<|.z .asI<|.nil ?_;refine .seq<|.seq<|.r<|.z .mvI<|.z .neq<|.nil ?_;refine .cf<|.skip<|.seq<|.seq<|.join (fun s hh=>∃(qb:Bool),Has s [(0,.pointer (some ⟨p,0,none⟩)),(3,.slice ax (((unlH r L).map AFr.fr).length) cx),(54,.bool qb)]∧Hp h D [boxI p 212 [.bool r.in_,.int .i64 (r.now:Int),.int .i64 (r.valid:Int),.bool r.begun,.int .u64 (r.nonce:Int),.map r.km,.int .i64 (r.marked:Int),.pointer (some ⟨r.d,0,none⟩),.int .i64 (r.size:Int),.pointer (some ⟨r.c,0,none⟩),.int .i64 (r.sure:Int),.int .i64 (r.bytes:Int),.bool false],kepI r.km r.kept,dgI r.d Fd r.D,cacL r.c Fc room L] [rdI Eo Eo (ax,((unlH r L).map AFr.fr).length,cx) ((unlH r L).map AFr.fr)] hh∧(qb=true→unlH r L=[]∧r.now=r.sure∧r.valid=r.sure∧r.begun=false)) ?_ ?_
 ·
  refine .q (hm:=mixed)<|.z .mvS<|.z (.len T.el252)<|.z .eql<|.z .mvB<|.sd (fun G23=>?_) (fun G23=>?_)
  ·
   refine .z .mvP<|.z .nil<|.z (.fa T.fd212_0)<|.z (.fa T.fd210_1)<|.z (.ldx T.ag3 ok.m0)<|.z .mvP<|.z .nil<|.z (.fa T.fd212_4)<|.z (.ldx T.ag3 ok.m0)<|.z .eql<|.z .pkt<|.z .mvB<|.sd (fun G35=>?_) (fun G35=>?_)
   ·
    refine .z .mvP<|.z .nil<|.z (.fa T.fd212_0)<|.z (.fa T.fd210_2)<|.z (.ldx T.ag3 ok.m0)<|.z .mvP<|.z .nil<|.z (.fa T.fd212_4)<|.z (.ldx T.ag3 ok.m0)<|.z .eql<|.z .pkt<|.z .mvB<|.sd (fun G47=>?_) (fun G47=>?_)
    ·
     refine .z .mvP<|.z .nil<|.z (.fa T.fd212_0)<|.z (.fa T.fd210_3)<|.z (.ldx T.ag4 ok.m0)<|.z .not<|.z .pkt<|.nil ?_;refine .end<|⟨(!r.begun),⟨rfl,rfl,rfl,trivial⟩,ok.n3.n3.n3.n3,fun h=>⟨List.eq_nil_of_length_eq_zero (by rw [List.length_map] at G23;omega),by omega,by omega,by simpa using h⟩⟩
    refine .y<|.y<|.y<|.y<|.y<|.y<|.z .pkf<|.nil ?_;refine .end<|⟨false,⟨rfl,rfl,rfl,trivial⟩,ok.n3.n3.n3.n3,fun h=>by cases h⟩
   refine .y<|.y<|.y<|.y<|.y<|.y<|.y<|.y<|.y<|.y<|.z .pkf<|.z .mvB<|.y<|.y<|.y<|.y<|.y<|.y<|.z .pkf<|.nil ?_;refine .end<|⟨false,⟨rfl,rfl,rfl,trivial⟩,ok.n3.n3.n3.n3,fun h=>by cases h⟩
  refine .y<|.y<|.y<|.y<|.y<|.y<|.y<|.y<|.y<|.y<|.z .pkf<|.z .mvB<|.y<|.y<|.y<|.y<|.y<|.y<|.y<|.y<|.y<|.y<|.z .pkf<|.z .mvB<|.y<|.y<|.y<|.y<|.y<|.y<|.z .pkf<|.nil ?_;refine .end<|⟨false,⟨rfl,rfl,rfl,trivial⟩,ok.n3.n3.n3.n3,fun h=>by cases h⟩
 rintro s η2 ⟨qb,hs,ok,hqb⟩;refine .frame hs fun τ=>?_;refine .cond (fun C1=>?_) (fun C1=>?_)
 ·
  refine .seq<|.r<|.z .asI<|.nil ?_;obtain ⟨hu,hn1,hv1,hb1⟩:=hqb C1;have hbs:=k.bs hb1;have hln:(fT r.D).length=P.length*r.size:=by rw [hby,hbs,←hn1,hnow]
  have hla:=k.laid hin (f1:=fT r.D) (v1:=r.valid) (by rw [hu,List.take_of_length_le (by rw [hln,hv1,←hn1,hnow];exact Nat.le_refl _)];rfl);rw [longN_self (by rw [hln])] at hla;refine .ret ⟨.int .i64 0,Res.one rfl rfl,⟨rfl,r,Fd,⟨rfl,rfl,rfl,rfl,hla.1,hla.2,by rw [hbs,←hn1,hnow],k.k.hd,by omega⟩,(ok).k4.e0⟩⟩
 refine .skip<|.seq<|.seq<|.r<|.z .mvP<|?_;have ok:=ok.dE (rdI none_ none_ (none,0,0) ([]:List Int)) (RdL.nil _ none_ none_) (fun _ f=>f.elim id id);refine .c' 56 .func (hsave_any (p:=p) (r:=r) (a:=none) (c:=0) (li:=([]:List Int)) k.k (k.km hin) (by omega) (by simp) (fun x hx=>by cases hx) (ok).lc3.e1) ?_;rintro _ η3 ⟨rfl,rs1,Fds1,ss1,q⟩;have ok:=(ok).lf33 q;have hcs1:=ss1.chg;refine .z .asI<|.nil ?_;refine .seq<|.r<|.z .mvI<|.z .neq<|.nil ?_;refine .cf<|.skip<|.seq<|.seq<|.r<|.z .mvP<|.z .mvS<|.c' 62 .func (hflush_any (p:=p) (r:=rs1) (l:=(unlH r L)) (a:=ax) (c:=cx) ss1.ok (fun _=>by rw [ss1.km];exact k.km hin) (by omega) (fun _=>by rw [ss1.valid,ss1.size,ss1.bytes];exact hvn.2) rfl (un_few k) (fun f hf=>by rw [ss1.size];obtain ⟨x,hx,_,e⟩:=un_ok k hf;exact k.fok hx e) (ok.f1).lc3.e1) ?_;rintro _ η4 ⟨rfl,rw1,Fdw1,ww1,q⟩;have ok:=(ok).lf33 q;have bw1:=fl_both ss1.ok (by rw [ss1.valid,ss1.size,ss1.bytes];exact hvn.2) ww1;have hcb:=bw1.chg;refine .z .asI<|.nil ?_;refine .seq<|.r<|.z .mvI<|.z .neq<|.nil ?_;refine .cf<|.skip<|.seq<|.seq<|.r<|.z .mvP<|.c' 67 .func (hcut_any (p:=p) (r:=rw1) bw1.ok (by rw [bw1.km,ss1.km];exact k.km hin) (by omega) (by have:=bw1.bytes;have:=bw1.ok.fit;omega) (ok).lc3.e0) ?_;rintro _ η5 ⟨rfl,rt1,Fdt1,tt1,q⟩;have ok:=(ok).lf33 q;have hct1:=tt1.chg;refine .z .asI<|.nil ?_;refine .seq<|.r<|.z .mvI<|.z .neq<|.nil ?_;refine .cf<|.skip<|.seq<|.seq<|?_;have hsi:rt1.size=r.size:=tt1.size.trans (bw1.size.trans ss1.size);have hno:rt1.now=P.length:=(tt1.now.trans (bw1.now.trans ss1.now)).trans hnow;have hft:(fT rt1.D,rt1.valid)=layP r.size ((fT r.D).take (r.valid*r.size),r.valid) (unlH r L):=by
  have h1:=bw1.lay;rw [ss1.size,ss1.valid,show fT rs1.D=fT r.D from by unfold fT;rw [ss1.ct]] at h1;rw [←h1,tt1.ft,tt1.valid]
 have hby1:=tt1.ok.by_;have hmz:rt1.now*rt1.size=P.length*r.size:=by rw [hno,hsi]
 refine .q (hm:=mixed)<|.z .mvP<|.z .nil<|.z (.fa T.fd212_5)<|.z (.ldx T.ag3 ok.m0)<|.z .mvP<|.z .nil<|.z (.fa T.fd212_0)<|.z (.fa T.fd210_1)<|.z (.ldx T.ag3 ok.m0)<|.z .mvP<|.z .nil<|.z (.fa T.fd212_2)<|.z (.ldx T.ag3 ok.m0)<|.z .mulI<|.z .neq<|.nil ?_;refine .join (fun s hh=>∃(Dj:Dk) (Fj:Nat→Prop),Has s [(0,.pointer (some ⟨p,0,none⟩))]∧Hp h D [boxI p 212 [.bool rt1.in_,.int .i64 (rt1.now:Int),.int .i64 (rt1.valid:Int),.bool rt1.begun,.int .u64 (rt1.nonce:Int),.map rt1.km,.int .i64 (rt1.marked:Int),.pointer (some ⟨rt1.d,0,none⟩),.int .i64 (rt1.size:Int),.pointer (some ⟨rt1.c,0,none⟩),.int .i64 (rt1.sure:Int),.int .i64 (rt1.bytes:Int),.bool false],kepI rt1.km rt1.kept,dgI rt1.d Fj Dj,cacL r.c Fc room L] [] hh∧HD Dj∧cont Dj nT=some (fT rt1.D)∧Dj.chg≤rt1.D.chg+1) ?_ ?_
 ·
  refine .cd (fun C5=>?_) (fun C5=>?_)
  ·
   refine .seq<|.r<|.z .mvP<|.z .nil<|.z (.fa T.fd212_1)<|.z (.ldx T.ag63 ok.m0)<|.k 91 .func (hysizeX_any (n:=nT) tt1.ok.hd (ok.n2).loc0)<|.z .mvU<|.z .ex<|.z .ex<|.z .asI<|.z .asB<|.nil ?_;refine .seq<|.r<|.z .mvB<|.z .not<|.nil ?_;refine .cond (fun C6=>?_) (fun C6=>?_)
   ·
    refine .seq<|.r<|.z .mvP<|.z .nil<|.z (.fa T.fd212_1)<|.z (.ldx T.ag63 ok.m0)<|?_;have ok:=ok.dE (rdI none_ none_ (none,0,0) ([]:List UInt8)) (RdL.nil _ none_ none_) (fun _ f=>f.elim id id);refine .c' 100 .func (hwrite_any (D:=rt1.D) (n:=nT) (p:=0) (l:=([]:List UInt8)) tt1.ok.hd (by omega) nT_h (by simp) (ok.n2).loc1) ?_;rintro _ η6 ⟨rfl,Fy1,Dy1,uy1,q⟩;have ok:=(ok.n2).lift1 q;have hcy1:=uy1.chg;refine .z .asI<|.nil ?_;refine .seq<|.r<|.z .mvI<|.z .neq<|.nil ?_;refine .cf<|.skip<|.end<|⟨Dy1,Fy1,⟨rfl,trivial⟩,(ok.n3.n1.n3.n3).k4.e0,uy1.hd,(by rw [uy1.at_,cont_isn (by simpa using C6)];unfold fT;rw [cont_isn (by simpa using C6)];rfl),(by omega)⟩
   refine .skip<|.end<|⟨rt1.D,Fdt1,⟨rfl,trivial⟩,(ok).k4.e0,tt1.ok.hd,(cont_is (by simpa using C6)),(by omega)⟩
  refine .skip<|.end<|⟨rt1.D,Fdt1,⟨rfl,trivial⟩,(ok).k4.e0,tt1.ok.hd,(cont_pos (by omega)),(by omega)⟩
 rintro s η7 ⟨Dj,Fj,hs,ok,hdj,hcj,hgj⟩;refine .frame hs fun τ=>?_;refine .seq<|.seq<|.t 14 mixed ?_;simp only [List.take_succ_cons,List.take_zero,List.drop_succ_cons,List.drop_zero];refine .z .mvP<|.z .nil<|.z (.fa T.fd212_1)<|.z (.ldx T.ag63 ok.m0)<|.z .mvP<|.z .nil<|.z (.fa T.fd212_0)<|.z (.fa T.fd210_1)<|.z (.ldx T.ag3 ok.m0)<|.z .mvP<|.z .nil<|.z (.fa T.fd212_2)<|.z (.ldx T.ag3 ok.m0)<|.z .mulI<|.nil ?_;refine .c' 118 .func (hlen_any (D:=Dj) (b:=(fT rt1.D)) (n:=(rt1.now*rt1.size)) hdj hcj (by omega) (by omega) (ok.n2).loc0) ?_;rintro _ η8 ⟨rfl,Fn1,Dn1,hdn1,hctn1,hcgn1,q⟩;have ok:=(ok.n2).lift1 q;refine .z .asI<|.nil ?_;refine .seq<|.r<|.z .mvI<|.z .neq<|.nil ?_;refine .cf<|.skip<|.seq<|.t 13 mixed ?_;simp only [List.take_succ_cons,List.take_zero,List.drop_succ_cons,List.drop_zero];refine .z .mvP<|.z .mvP<|.z .nil<|.z (.fa T.fd212_0)<|.z (.fa T.fd210_1)<|.z (.ldx T.ag3 ok.m1)<|.z .mvP<|.z .nil<|.z (.fa T.fd212_2)<|.z (.ldx T.ag3 ok.m1)<|.z .mulI<|.z .nil<|.z (.fa T.fd212_5)<|.nil ?_;refine .ur' (.stI T.sz3 ok.n1) ?_;rintro η9 ⟨ok,cg⟩;refine .nil ?_;refine .seq<|.r<|.z .mvP<|.z .nil<|.z (.fa T.fd212_1)<|.z (.ldx T.ag63 ok.m0)<|.c' 139 .func (hover_any (D:=Dn1) hdn1 (by omega) (ok.n1).loc0) ?_;rintro _ η10 ⟨rfl,Fv1,Dv1,hdv1,hctv1,hcgv1,q⟩;have ok:=(ok.n1).lift1 q;refine .z .asI<|.nil ?_;have hfin:fT Dv1=longN (fT rt1.D) (P.length*r.size):=by unfold fT;rw [(hctv1.trans hctn1),hmz];rfl
 have hla:=k.laid hin hft;refine .ret ⟨.int .i64 0,Res.one rfl rfl,⟨rfl,({ rt1 with bytes:=rt1.now*rt1.size,D:=Dv1 } : RH),Fv1,⟨tt1.now.trans (bw1.now.trans ss1.now),tt1.d.trans (bw1.d.trans ss1.d),tt1.size.trans (bw1.size.trans ss1.size),tt1.c.trans (bw1.c.trans ss1.c),(by show (fT Dv1).length=_;rw [hfin];exact hla.1),(by show ∀i,i<P.length→pgF r.size (fT Dv1) i=_;rw [hfin];exact hla.2),hmz,hdv1,(by show Dv1.chg≤_;omega)⟩,(ok.n3.n1.n3.n3).k4.e0⟩⟩
def rzL (n:Int) (s:List Int) (L:List AP):List AP:=L.filter fun x=>decide (¬(x.no∈s∧n<x.no))
theorem rz_0 {n:Int} {L:List AP} : rzL n [] L=L:=by unfold rzL;simp
theorem rz_all {n:Int} {L:List AP} : rzL n (nos L) L=L.filter fun x=>decide (x.no≤n):=by
 unfold rzL;refine List.filter_congr fun x hx=>?_;have:x.no∈nos L:=List.mem_map.2 ⟨x,hx,rfl⟩;by_cases h:x.no≤n
 ·simp [h,Int.not_lt.2 h]
 ·simp [h,this,Int.not_le.1 h]
theorem take_mem {s:List Int} {i:Nat} (hi:i<s.length) (y:Int):y∈s.take (i+1)↔y∈s.take i∨y=s[i]:=by rw [List.take_succ_eq_append_getElem hi];simp only [List.mem_append,List.mem_singleton]
theorem rz_skip {n:Int} {L:List AP} {s:List Int} {i:Nat} (hi:i<s.length) (h:¬n<s[i]):rzL n (s.take (i+1)) L=rzL n (s.take i) L:=by
 unfold rzL;refine List.filter_congr fun x _=>?_;simp only [take_mem hi];by_cases e:x.no=s[i]
 ·rw [e];simp [h]
 ·simp [e]
theorem rz_drop {n:Int} {L:List AP} {s:List Int} {i:Nat} (hi:i<s.length) (h:n<s[i]):dr [s[i]] (rzL n (s.take i) L)=rzL n (s.take (i+1)) L:=by
 unfold rzL dr;rw [List.filter_filter];refine List.filter_congr fun x _=>?_;simp only [take_mem hi];by_cases e:x.no=s[i]
 ·rw [e];simp [h]
 ·simp [e]
theorem ldrop1_any {h:Heap} {c:Nat} {F:Nat→Prop} {room:Int} {L:List AP} {x:SV} {no:Int} (q:CRep h F c room L) (hl:Sl h 1 (sv x) ([no].map iv)) (hd:∀b,blk (sv x) b→¬F b) :
  HC Tryz.prog 286 #[.pointer (some ⟨c,0,none⟩),sv x] h (fun v h'=>∃F',v=.tuple #[]∧Hp h F [cacL c F' room (dr [no] L)] [] h'):=
 (dropl_any q hl (by simp) hd).mono fun v h' ⟨F',hv,hr,hs⟩=>⟨F',hv,Step.hp (x:=cacL c F room L) (it:=cacL c F' room (dr [no] L)) q q.lt rfl hs hr hr.lt rfl⟩
theorem lclean_any {h:Heap} {c:Nat} {F:Nat→Prop} {room:Int} {L:List AP} (q:CRep h F c room L) :
  HC Tryz.prog 306 #[.pointer (some ⟨c,0,none⟩),.slice none 0 0] h (fun v h'=>v=.tuple #[]∧Hp h F [cacL c F room (cl (nos L) L)] [] h'):=by
 refine (clean_any q (lv:=(none,0,0)) (l:=[]) (Sl.nil _ 1) (by simp)).mono fun v h' ⟨hv,hr,hc⟩=>⟨hv,?_⟩;have e:cl (if ([]:List Int)=[] then (nos L).reverse else []) L=cl (nos L) L:=by
  rw [if_pos rfl];unfold cl;exact List.map_congr_left fun x _=>by simp
 rw [e] at hr;exact Step.hp (x:=cacL c F room L) (it:=cacL c F room (cl (nos L) L)) q q.lt rfl ⟨hc,fun _ h=>.inl h⟩ hr hr.lt rfl
section
variable {r:RH} {room:Int} {L:List AP} {P:List (List UInt8)}
def begH (r:RH) (m:Nat):RH:={ r with in_:=true,now:=r.sure,valid:=r.sure,begun:=false,nonce:=0,km:=some m,kept:=[],marked:=0 }
theorem HB.begin (k:HB r room L P) (hi:r.in_=false) (m:Nat):HB (begH r m) room L P:=by
 have hb:=k.bs (k.out hi);have hs:r.sure=P.length:=by have:=k.np;unfold presH at this;rw [if_neg (by rw [hi];decide)] at this;exact this
 have hby:=k.k.by_;refine ⟨⟨k.k.sz,k.k.hd,k.k.by_,k.k.fit,k.k.ms,fun h=>(by cases h),fun _=>⟨rfl,rfl⟩,.nil,fun x hx=>(by cases hx),by show (0:Nat)<_;decide,k.k.chg⟩,?_,k.pl,k.mp,k.nd,k.rm,k.rg,k.at_,fun i h1 h2=>?_,fun h=>(by cases h),fun _=>⟨Nat.le_refl _,by show r.sure*r.size≤r.bytes;omega⟩,fun _=>⟨m,rfl⟩,fun h=>(by cases h),fun _=>hb⟩
 ·unfold presH begH;simpa using hs
 ·rw [←k.un i h1 h2];unfold upF begH;simp only [hi];rw [if_neg (by rintro ⟨_,h⟩;omega),if_neg (by rintro ⟨h,_⟩;cases h)]
def rszH (r:RH) (n:Nat):RH:={ r with now:=n,valid:=min r.valid n }
theorem HB.resize (k:HB r room L P) (hi:r.in_=true) {n:Nat} (h3:n*(r.size+8)+28≤16777216):HB (rszH r n) room (L.filter fun x=>decide (x.no≤(n:Int))) (rszP P n r.size):=by
 have v:=k.vn hi;have hn:r.now=P.length:=by have:=k.np;unfold presH at this;rw [if_pos hi] at this;exact this
 have hmem:∀ {x:AP},x∈L.filter (fun x=>decide (x.no≤(n:Int)))↔x∈L∧x.no≤n:=fun {x}=>by simp
 refine ⟨⟨k.k.sz,k.k.hd,k.k.by_,k.k.fit,k.k.ms,k.k.jb,k.k.jn,k.k.kn,k.k.kr,k.k.no,k.k.chg⟩,?_,fun x hx=>?_,by rw [rszP_len];exact h3,?_,⟨k.rm.1,k.rm.2.1,?_⟩,fun x hx=>?_,fun x hx=>?_,fun i hi2 h=>?_,fun h=>absurd (show r.in_=false from h) (by rw [hi];decide),fun _=>⟨Nat.min_le_right _ _,Nat.le_trans (Nat.mul_le_mul_right _ (Nat.min_le_left _ _)) v.2⟩,k.km,k.out,k.bs⟩
 ·unfold presH rszH;simp only [hi,if_true,rszP_len]
 ·obtain ⟨i,hi2,rfl⟩:=List.mem_iff_getElem.1 hx;rw [rszP_len] at hi2;have e:=rszP_get (P:=P) (z:=r.size) hi2;rw [List.getD_eq_getElem?_getD,List.getElem?_eq_getElem (by rw [rszP_len];exact hi2),Option.getD_some] at e;rw [e];split
  ·rename_i h;exact k.page_len h
  ·exact List.length_replicate
 ·unfold nos;exact (List.filter_sublist.map _).nodup k.nd
 ·have:=List.length_filter_le (fun x:AP=>decide (x.no≤(n:Int))) L;have:=k.rm.2.2;omega
 ·have h1:=hmem.1 hx;rw [rszP_len];exact ⟨(k.rg x h1.1).1,h1.2⟩
 ·have h1:=hmem.1 hx;have h2:=k.rg x h1.1;rw [rszP_get (by omega),if_pos (by omega)];exact k.at_ x h1.1
 ·rw [rszP_len] at hi2;rw [rszP_get hi2];have hin2:(rszH r n).in_=true:=hi;rw [upF_in hin2];show upZ r.size (min r.valid n) (fT r.D) i=_;by_cases hp:i<P.length
  ·rw [if_pos hp,←k.un i hp (fun x hx hno=>h x (hmem.2 ⟨hx,by omega⟩) hno),upF_in hi];unfold upZ;by_cases hv:r.valid≤i
   ·rw [if_pos (by omega),if_pos hv]
   ·rw [if_neg (by omega),if_neg hv]
  ·rw [if_neg hp];unfold upZ;rw [if_pos (by omega)]
def cmtH (r':RH):RH:={ r' with in_:=false,now:=0,valid:=0,begun:=false,nonce:=0,km:=none,kept:=[],marked:=0,sure:=r'.now }
theorem HB.commit {r':RH} {L':List AP} (k:HB r room L P) (hi:r.in_=true) (q:LA L' r r' P):HB (cmtH r') room (cl (nos L) L) P:=by
 have hn:r'.now=P.length:=by have:=k.np;unfold presH at this;rw [if_pos hi] at this;exact q.now.trans this
 have hcl:∀ {y:AP},y∈cl (nos L) L→∃x∈L,y=⟨x.no,x.b,false⟩:=fun {y} hy=>by
  unfold cl at hy;obtain ⟨x,hx,rfl⟩:=List.mem_map.1 hy;exact ⟨x,hx,if_pos (show x.no∈nos L from List.mem_map.2 ⟨x,hx,rfl⟩)⟩
 have hnos:nos (cl (nos L) L)=nos L:=by
  unfold nos cl;rw [List.map_map];exact List.map_congr_left fun x _=>by show (if _ then _ else _:AP).no=x.no;split<;>rfl
 have hf:=k.few;refine ⟨⟨by show okSz r'.size=true;rw [q.size];exact k.k.sz,q.hd,by show (fT r'.D).length=r'.bytes;rw [q.len,q.bytes],by show r'.bytes≤_;rw [q.bytes];exact hf.1,by show r'.now*(r'.size+8)+28≤_;rw [q.size,hn];exact k.mp,fun h=>(by cases h),fun _=>⟨rfl,rfl⟩,.nil,fun x hx=>(by cases hx),by show (0:Nat)<_;decide,q.hd.dk.chg⟩,?_,fun x hx=>by show x.length=r'.size;rw [q.size];exact k.pl x hx,by show P.length*(r'.size+8)+28≤_;rw [q.size];exact k.mp,by rw [hnos];exact k.nd,⟨k.rm.1,k.rm.2.1,by have h1:(cl (nos L) L).length=L.length:=List.length_map _;rw [h1];exact k.rm.2.2⟩,fun y hy=>?_,fun y hy=>?_,fun i h1 _=>?_,fun _ y hy=>?_,fun h=>(by cases h),fun h=>(by cases h),fun _=>rfl,fun _=>?_⟩
 ·unfold presH cmtH;simpa using hn
 ·obtain ⟨x,hx,rfl⟩:=hcl hy;exact k.rg x hx
 ·obtain ⟨x,hx,rfl⟩:=hcl hy;exact k.at_ x hx
 ·rw [←q.pg i h1];unfold upF cmtH;rw [if_neg (by rintro ⟨h,_⟩;cases h)];show pgF r'.size _ i=_;rw [q.size]
 ·obtain ⟨x,hx,rfl⟩:=hcl hy;rfl
 ·show r'.bytes=r'.now*r'.size;rw [q.bytes,q.size,hn]
end
theorem hbegin_any {h:Heap} {p:Nat} {r:RH} {D Fd Fc:Nat→Prop} {room:Int} {L:List AP} {P:List (List UInt8)} (k:HB r room L P) (hin:r.in_=false) (ok:Hp h D [hboxI p r,kepI r.km r.kept,dgI r.d Fd r.D,cacL r.c Fc room L] [] h) :
  HC Tryz.prog 294 #[.pointer (some ⟨p,0,none⟩)] h (fun v h'=>v=.int .i64 0∧∃m,Hp h D [hboxI p (begH r m),kepI (some m) [],dgI r.d Fd r.D,cacL r.c Fc room L] [] h'):=by
 refine HC.go Tryz.func294 27 ?_;refine .seq<|.r<|.z .asI<|.nil ?_;refine .seq<|.seq<|.r<|.z .mvP<|.k 5 .func (hst_any (r:=r) ok.m0)<|.z .asI<|.nil ?_;refine .seq<|.r<|.z .mvI<|.z .neq<|.nil ?_;refine .cf<|.skip<|.seq<|.seq<|.r<|.z .mvP<|.z .nil<|.z (.fa T.fd212_0)<|.z (.fa T.fd210_0)<|.z (.ldx T.ag4 ok.m0)<|.nil ?_;refine .cond (fun C1=>?_) (fun C1=>?_)
 ·
  rw [hin] at C1;cases C1
 refine .skip<|.seq<|.a 13 (fun fl hh=>cond fl True (Hp h D [boxI p 212 [.bool r.in_,.int .i64 (r.now:Int),.int .i64 (r.valid:Int),.bool r.begun,.int .u64 (r.nonce:Int),.map r.km,.int .i64 (r.marked:Int),.pointer (some ⟨r.d,0,none⟩),.int .i64 (r.size:Int),.pointer (some ⟨r.c,0,none⟩),.int .i64 (r.sure:Int),.int .i64 (r.bytes:Int),.bool false],kepI r.km r.kept,dgI r.d Fd r.D,cacL r.c Fc room L] [] hh)) mixed ?_;have hS:=ok;refine .g 0 false rfl 14 hS (fun _=>.mvP)<|.g 1 false rfl 15 hS (fun _=>.mvP)<|.g 2 false rfl 16 hS (fun _=>.nil)<|.g 3 false rfl 17 hS (fun _=>.fa T.fd212_4)<|.l 4 false rfl 18 hS (fun _ hS=>.ldx T.ag3 hS.m0)<|.g 5 false rfl 19 hS (fun _=>.mvP)<|.g 6 false rfl 20 hS (fun _=>.nil)<|.g 7 false rfl 21 hS (fun _=>.fa T.fd212_4)<|.l 8 false rfl 22 hS (fun _ hS=>.ldx T.ag3 hS.m0)<|.o1 9<|.a' false rfl 23 (.mkm (Value.int .i64) ok) ?_;rintro _ η1 ⟨mb1,rfl,ok⟩;refine ⟨ok.n4.n4.n4.n4.k4,?_⟩;have hS:=ok.n4.n4.n4.n4.k4;refine .g 10 false rfl 24 hS (fun _=>.bd #[.bool true,.int .i64 (r.sure:Int),.int .i64 (r.sure:Int),.bool false,.int .u64 0,.map (some mb1),.int .i64 0] T.zr210 T.pl210 (by kernel_rfl))<|.g 11 false rfl 25 hS (fun _=>.nil)<|.g 12 false rfl 26 hS (fun _=>.fa T.fd212_0)<|.o1 13<|.ur' true rfl (.stA (vs:=[.bool true,.int .i64 (r.sure:Int),.int .i64 (r.sure:Int),.bool false,.int .u64 0,.map (some mb1),.int .i64 0]) T.sz210 ok.n1 (oneL rfl)) ?_;rintro η2 ⟨ok,cg⟩;refine ⟨trivial,?_⟩;refine .e ?_;refine .seq<|.r<|.z .asI<|.nil ?_;refine .ret ⟨.int .i64 0,Res.one rfl rfl,⟨rfl,mb1,(ok.n4.n4.n3.n3).k4⟩⟩
theorem hresize_any {h:Heap} {p:Nat} {r:RH} {D Fd Fc:Nat→Prop} {room:Int} {L:List AP} {P:List (List UInt8)} {n:Nat} (k:HB r room L P) (hin:r.in_=true) (hn:n*(r.size+8)+28≤16777216) (ok:Hp h D [hboxI p r,kepI r.km r.kept,dgI r.d Fd r.D,cacL r.c Fc room L] [] h) :
  HC Tryz.prog 299 #[.pointer (some ⟨p,0,none⟩),.int .i64 (n:Int)] h (fun v h'=>v=.int .i64 0∧∃Fc',Hp h D [hboxI p (rszH r n),kepI r.km r.kept,dgI r.d Fd r.D,cacL r.c Fc' room (L.filter fun x=>decide (x.no≤(n:Int)))] [] h'):=by
 have hzc:=k.zc;have hnm:n≤mostB r.size:=by unfold mostB;rw [Nat.le_div_iff_mul_le (by omega)];omega
 have hnz:n*264≤n*(r.size+8):=Nat.mul_le_mul_left _ (by omega);have hrm:=k.rm;have hfw:=k.few;refine HC.go Tryz.func299 72 ?_;refine .seq<|.r<|.z .asI<|.nil ?_;refine .seq<|.seq<|.r<|.z .mvP<|.k 9 .func (hst_any (r:=r) ok.m0)<|.z .asI<|.nil ?_;refine .seq<|.r<|.z .mvI<|.z .neq<|.nil ?_;refine .cf<|.skip<|.seq<|.block fun K0 hK0=>.seq<|.r<|.z .mvP<|.z .nil<|.z (.fa T.fd212_0)<|.z (.fa T.fd210_0)<|.z (.ldx T.ag4 ok.m0)<|.z .not<|.z .asB<|.nil ?_;refine .cond (fun C1=>?_) (fun C1=>?_)
 ·
  rw [hin] at C1;simp at C1
 refine .seq<|.r<|.z .mvI<|.z .lss<|.z .asB<|.nil ?_;refine .cd (fun C2=>?_) (fun C2=>?_)
 ·
  omega
 refine .seq<|.r<|.z .mvI<|.z .gtr<|.z .mvB<|.sd (fun G26=>?_) (fun G26=>?_)
 ·
  omega
 refine .z .mvI<|.z .mvP<|.z .nil<|.z (.fa T.fd212_2)<|.z (.ldx T.ag3 ok.m0)<|.k 32 .func (most_any (n:=r.size) (by omega))<|.z .gtr<|.z .pkf<|.z .asB<|.nil ?_;refine .cd (fun C3=>?_) (fun C3=>?_)
 ·
  omega
 refine .skip<|.end<|hK0 _ _<|.seq<|.seq<|.r<|.z .mvP<|.z .nil<|.z (.fa T.fd212_3)<|.z (.ldx T.ag194 ok.m0)<|.c' 39 .func (pages_any (ok.n3).m0) ?_;rintro _ η1 own;obtain ⟨ya1,yn1,yc1,rfl⟩:=own.form3;have ok:=ok.own own;obtain rfl:yn1=(nos L).length:=by have:=(Cap.sl ok.m0).cells.len;simpa using this.symm
 have ok:=ok.frzI (l:=(nos L)) rfl;have hmc:=ok.r0.m;have hcc:=ok.r0.c;simp only at hmc hcc;refine .z (.len T.el24)<|.z .mvI<|.nil ?_;refine .block fun K1 hK1=>.loop (fun m s hh=>∃(i:Nat) (Fi:Nat→Prop),Has s [(0,.pointer (some ⟨p,0,none⟩)),(1,.int .i64 (n:Int)),(39,.slice ya1 ((nos L).length) yc1),(40,.int .i64 (((nos L).length:Nat):Int)),(41,.int .i64 (i:Int))]∧Hp h D [boxI p 212 [.bool r.in_,.int .i64 (r.now:Int),.int .i64 (r.valid:Int),.bool r.begun,.int .u64 (r.nonce:Int),.map r.km,.int .i64 (r.marked:Int),.pointer (some ⟨r.d,0,none⟩),.int .i64 (r.size:Int),.pointer (some ⟨r.c,0,none⟩),.int .i64 (r.sure:Int),.int .i64 (r.bytes:Int),.bool false],kepI r.km r.kept,dgI r.d Fd r.D,cacL r.c Fi room (rzL (n:Int) ((nos L).take i) L)] [rdI (blkC (sv (ya1,(nos L).length,yc1))) none_ (ya1,(nos L).length,yc1) (nos L)] hh∧i≤(nos L).length∧m=(nos L).length-i) ?_ ?_;have ok:=ok.n3;rw [show cacL r.c Fc room L=cacL r.c Fc room (rzL (n:Int) ((nos L).take 0) L) from by rw [show (rzL (n:Int) ((nos L).take 0) L)=L from rz_0]] at ok
 ·exact ⟨_,0,Fc,⟨rfl,rfl,rfl,rfl,rfl,trivial⟩,(ok.n3.n3.n3).k4,Nat.zero_le _,rfl⟩
 rintro _ _ η2 ⟨i,Fi,hs,ok,hi,rfl⟩ J0 hJ0;refine .frame hs fun τ=>?_;refine .seq<|.r<|.z .lss<|.nil ?_;refine .seq<|.cdr (fun C4=>?_) (fun C4=>?_)
 ·
  refine .exit<|hK1 _ _<|.seq<|?_;have hrz:(rzL (n:Int) ((nos L).take i) L)=L.filter fun x=>decide (x.no≤(n:Int)):=by rw [show i=(nos L).length by omega,List.take_length];exact rz_all
  rw [hrz] at ok;refine .r<|.z .mvP<|.z .mvP<|.z .mvI<|.z .mvP<|.z .nil<|.z (.fa T.fd212_0)<|.z (.fa T.fd210_2)<|.z (.ldx T.ag3 ok.m0)<|.z .mvI<|.z .min2<|?_;rw [show ((min (r.valid:Int) (n:Int)):Int)=((min r.valid n:Nat):Int) from by omega];refine .z .nil<|.z (.fa T.fd212_0)<|.z (.fa T.fd210_1)<|.ur' (.stI T.sz3 ok) ?_;rintro η3 ⟨ok,cg⟩;refine .z .nil<|.z (.fa T.fd212_0)<|.z (.fa T.fd210_2)<|.ur' (.stI T.sz3 ok) ?_;rintro η4 ⟨ok,cg⟩;refine .nil ?_;refine .seq<|.r<|.z .asI<|.nil ?_;refine .ret ⟨.int .i64 0,Res.one rfl rfl,⟨rfl,Fi,(ok).k4.e0⟩⟩
 refine .skip<|.seq<|.block fun K2 hK2=>.seq<|.r<|?_;obtain ⟨bb1,oo1,rfl,fb1⟩:=ok.r0.pos (by omega);refine .z (.ix1 i T.el24 T.sz3)<|.z (.ld T.ag3 (ok.r0.i64 (i:=i) (by omega)))<|.z .asI<|.nil ?_;refine .seq<|.r<|.z .mvI<|.z .mvI<|.z .gtr<|.nil ?_;refine .cd (fun C5=>?_) (fun C5=>?_)
 ·
  refine .r<|.z .mvP<|.z .nil<|.z (.fa T.fd212_3)<|.z (.ldx T.ag194 ok.m0)<|.z .mvI<|.a' 53 (.lit [.tmp 52] (cs:=[.int .i64 ((nos L)[i])]) T.el24 T.sz3 T.zr3 ok ⟨rfl,trivial⟩) ?_;rintro _ η5 ⟨pb1,rfl,ok,xe⟩;refine .c' 54 .func (ldrop1_any (x:=(some ⟨pb1,0,none⟩,1,1)) (no:=(nos L)[i]) (ok.n4).m0 (ok.n4).m1.sl (fun b hb hF=>(List.pairwise_cons.1 (ok.n4).mm).1 _ List.mem_cons_self b hF (blk_toC hb))) ?_;rintro _ η6 ⟨Fd1,rfl,q⟩;have ok:=(ok.n4).lift1 q;refine .nil ?_;refine .end<|hK2 _ _<|.r<|.z (.addI (b:=1))<|.z .mvI<|.nil ?_;refine .end<|?_;have ok:=ok;rw [rz_drop (by omega) C5] at ok;refine hJ0 _ _ _ ⟨i+1,Fd1,⟨rfl,rfl,rfl,rfl,rfl,trivial⟩,(ok.n4.n4.n4).k4,by omega,rfl⟩ (by omega)
 refine .skip<|.end<|hK2 _ _<|.r<|.z (.addI (b:=1))<|.z .mvI<|.nil ?_;refine .end<|?_;have ok:=ok.n3;rw [←rz_skip (by omega) (by omega)] at ok;refine hJ0 _ _ _ ⟨i+1,Fi,⟨rfl,rfl,rfl,rfl,rfl,trivial⟩,(ok.n3.n3.n3).k4,by omega,rfl⟩ (by omega)
structure KP (r r':RH):Prop where
 in_:r'.in_=r.in_
 size:r'.size=r.size
 c:r'.c=r.c
 chg:r'.D.chg≤r.D.chg+20
 ro:r.in_=false→r'=r
theorem pt_kp {r r':RH} {l:List AFr} {Q:Prop} (h:l.length≤1∧Q∧(l≠[]→r.in_=true)) (q:(l=[]∧r'=r)∨(l≠[]∧FL r r' l)):KP r r':=by
 rcases q with ⟨_,rfl⟩ | ⟨hl,q⟩
 ·exact ⟨rfl,rfl,rfl,by omega,fun _=>rfl⟩
 ·exact ⟨q.in_,q.size,q.c,by have:=q.chg;have:=h.1;omega,fun hi=>by rw [h.2.2 hl] at hi;cases hi⟩
theorem hbwrite_any {h:Heap} {p:Nat} {r:RH} {D Fd Fc F2 E2:Nat→Prop} {room:Int} {L:List AP} {P:List (List UInt8)} {no:Nat} {a:Option Addr} {c:Nat} {b:List UInt8} (k:HB r room L P) (hin:r.in_=true) (hcg:r.D.chg<480000000) (h1:1≤no) (h2:no≤P.length) (hb:b.length=r.size) (ok:Hp h D [hboxI p r,kepI r.km r.kept,dgI r.d Fd r.D,cacL r.c Fc room L] [rdI F2 E2 (a,b.length,c) b] h) :
  HC Tryz.prog 301 #[.pointer (some ⟨p,0,none⟩),.int .i64 (no:Int),.slice a b.length c] h (fun v h'=>v=.int .i64 0∧∃r' Fd' Fc' L',HB r' room L' (P.set (no-1) b)∧KP r r'∧Hp h D [hboxI p r',kepI r'.km r'.kept,dgI r'.d Fd' r'.D,cacL r'.c Fc' room L'] [] h'):=by
 have hzc:=k.zc;have hsz:=hzc.2;have hfw:=k.few;have hnow:r.now=P.length:=by have:=k.np;unfold presH at this;rw [if_pos hin] at this;exact this
 refine HC.goD Tryz.func301 61 ?_;refine .seq<|.lift<|.r<|.a' 6 (.alI T.zr34 ok) ?_;rintro _ η1 ⟨pb1,rfl,ok,xe⟩;refine .nil ?_;refine .end<|HSD.on<|.seq<|.seq<|.lift<|.r<|.z .mvP<|.k 10 .func (hst_any (r:=r) ok.m1)<|.z .asI<|.nil ?_;refine .end<|HSD.on<|.seq<|.lift<|.r<|.z .mvI<|.z .neq<|.nil ?_;refine .end<|HSD.on<|.lift<|.cf<|.skip<|.end<|HSD.on<|.seq<|.rd<|.z .mvP<|.df (args:=[.pointer (some ⟨p,0,none⟩),.pointer (some ⟨pb1,0,none⟩)]) rfl<|?_;refine .seq<|.block fun K0 hK0=>.seq<|.r<|.z .mvP<|.z .nil<|.z (.fa T.fd212_0)<|.z (.fa T.fd210_0)<|.z (.ldx T.ag4 ok.m1)<|.z .not<|.z .asB<|.nil ?_;refine .cond (fun C1=>?_) (fun C1=>?_)
 ·
  rw [hin] at C1;simp at C1
 refine .seq<|.r<|.z .mvI<|.z .lss<|.z .mvB<|.sd (fun G25=>?_) (fun G25=>?_)
 ·
  omega
 refine .z .mvI<|.z .mvP<|.z .nil<|.z (.fa T.fd212_0)<|.z (.fa T.fd210_1)<|.z (.ldx T.ag3 ok.m1)<|.z .gtr<|.z .pkf<|.z .mvB<|.sd (fun G34=>?_) (fun G34=>?_)
 ·
  omega
 refine .z .mvS<|.z (.len T.el44)<|.z .mvP<|.z .nil<|.z (.fa T.fd212_2)<|.z (.ldx T.ag3 ok.m1)<|.z .neq<|.z .pkf<|.z .asB<|.nil ?_;refine .cd (fun C2=>?_) (fun C2=>?_)
 ·
  omega
 refine .skip<|.end<|hK0 _ _<|.seq<|.r<|.z .mvP<|.z .mvI<|.c' 46 .func (hget_any (p:=p) (r:=r) (L:=L) (no:=no) k.k.hd hsz (by omega) (ok.n4.n4.n3).lc3.e0) ?_;rintro _ η2 ⟨Fg1,ag1,cg1,rfl,q⟩;have ok:=(ok.n4.n4.n3).lf34 q;have hgot:=k.get (no:=no) (by omega) (by omega);rw [hgot.1] at ok⊢;have hgl:(P.getD (no-1) []).length=r.size:=k.page_len (by omega);refine .z .mvU<|.z .ex<|.z .ex<|.z .asS<|.ur' (.stI T.sz34 ok.n4) ?_;rintro η3 ⟨ok,cg⟩;refine .nil ?_;refine .seq<|.seq<|.r<|.z (.ldx T.ag34 ok.m0)<|.z .neq<|.z .mvB<|.z .mvS<|.z .mvS<|.k 54 .func (equal_any (a:=ag1) (c:=cg1) (l:=(P.getD (no-1) [])) (b:=a) (d:=c) (l2:=b) (RdL.ofCapB (v:=(ag1,(P.getD (no-1) []).length,cg1)) (l:=(P.getD (no-1) [])) ok.m1) ok.r0)<|.z .pkf<|.nil ?_;refine .cd (fun C3=>?_) (fun C3=>?_)
 ·
  refine .seq<|.r<|.z (.ldx T.ag34 ok.m0)<|.ur' (.stI T.sz34 ok) ?_;rintro η4 ⟨ok,cg⟩;refine .nil ?_;refine .ret ⟨_,_,_,rfl,(hend_any (p:=p) (q:=pb1) (r:=r) (ok.m2) (ok.m0)),?_⟩;rintro _ _ ⟨rfl,rfl⟩;refine ⟨.int .i64 0,Res.many (vs:=[.int .i64 0]) rfl ⟨⟨_,rfl,load_1 T.ag34 ok.m0⟩,trivial⟩ rfl,⟨rfl,r,Fd,Fg1,_,(by rw [show b=P.getD (no-1) [] from C3.symm,set_same (by omega)];exact hgot.2),⟨rfl,rfl,rfl,by omega,fun _=>rfl⟩,(ok.n4.n4.n5.n5).k4.e0⟩⟩
 refine .skip<|.seq<|.r<|.z .mvP<|.z .mvI<|.z .mvS<|.c' 60 .func (hput_any (p:=p) (r:=r) (L:=(getL (no:Int) L)) (no:=no) (a:=a) (c:=c) (l:=b) (d:=true) hgot.2 (by omega) (by omega) (by omega) (ok.n4.n4.n5.n5).lc4) ?_;rintro _ η5 ⟨rfl,rp1,Fdp1,Fcp1,wp1,q⟩;have ok:=(ok.n4.n4.n5.n5).lf44 q;have hbp1:=hgot.2.put (no:=no) (b:=b) (d:=true) (r':=rp1) (by omega) (by omega) hb (fun h=>by cases h) (fun _=>hin) wp1;refine .ur' (.stI T.sz34 ok.n4) ?_;rintro η6 ⟨ok,cg⟩;refine .nil ?_;refine .ret ⟨_,_,_,rfl,(hend_any (p:=p) (q:=pb1) (r:=rp1) (ok.m1) (ok.m0)),?_⟩;rintro _ _ ⟨rfl,rfl⟩;have hkp:=pt_kp (hgot.2.ptA (by omega)) wp1;refine ⟨.int .i64 0,Res.many (vs:=[.int .i64 0]) rfl ⟨⟨_,rfl,load_1 T.ag34 ok.m0⟩,trivial⟩ rfl,⟨rfl,rp1,Fdp1,Fcp1,_,hbp1,hkp,(by rw [hkp.c];exact (ok.n4.n4.n4.n4).k4.e0)⟩⟩
theorem hbread_any {h:Heap} {p:Nat} {r:RH} {D Fd Fc:Nat→Prop} {room:Int} {L:List AP} {P:List (List UInt8)} {no:Nat} (k:HB r room L P) (hcg:r.D.chg<480000000) (h1:1≤no) (h2:no≤P.length) (ok:Hp h D [hboxI p r,kepI r.km r.kept,dgI r.d Fd r.D,cacL r.c Fc room L] [] h) :
  HC Tryz.prog 298 #[.pointer (some ⟨p,0,none⟩),.int .i64 (no:Int)] h (fun v h'=>∃x c,v=.tuple #[.slice x (P.getD (no-1) []).length c,.int .i64 0]∧∃r' Fd' Fc' L',HB r' room L' P∧KP r r'∧Hp h D [capI 1 5 (x,(P.getD (no-1) []).length,c) ((P.getD (no-1) []).map bv),hboxI p r',kepI r'.km r'.kept,dgI r'.d Fd' r'.D,cacL r'.c Fc' room L'] [] h'):=by
 have hzc:=k.zc;have hsz:=hzc.2;have hfw:=k.few;have hnp:=k.np;refine HC.goD Tryz.func298 37 ?_;refine .seq<|.lift<|.r<|.z .asS<|.a' 5 (.alI T.zr34 ok) ?_;rintro _ η1 ⟨pb1,rfl,ok,xe⟩;refine .nil ?_;refine .end<|HSD.on<|.seq<|.seq<|.lift<|.r<|.z .mvP<|.k 8 .func (hst_any (r:=r) ok.m1)<|.z .asI<|.nil ?_;refine .end<|HSD.on<|.seq<|.lift<|.r<|.z .mvI<|.z .neq<|.nil ?_;refine .end<|HSD.on<|.lift<|.cf<|.skip<|.end<|HSD.on<|.seq<|.rd<|.z .mvP<|.df (args:=[.pointer (some ⟨p,0,none⟩),.pointer (some ⟨pb1,0,none⟩)]) rfl<|?_;refine .seq<|.seq<|.r<|.z .mvI<|.z .lss<|.z .mvB<|.sd (fun G15=>?_) (fun G15=>?_)
 ·
  omega
 refine .z .mvI<|.z .mvP<|.k 18 .func (hpres_any (r:=r) ok.m1)<|.z .gtr<|.z .pkf<|.nil ?_;refine .cd (fun C1=>?_) (fun C1=>?_)
 ·
  omega
 refine .skip<|.seq<|.r<|.z .mvP<|.z .mvI<|.c' 24 .func (hget_any (p:=p) (r:=r) (L:=L) (no:=no) k.k.hd hsz (by omega) (ok.n4.n4.n3).lc3) ?_;rintro _ η2 ⟨Fg1,ag1,cg1,rfl,q⟩;have ok:=(ok.n4.n4.n3).lf34 q;have hgot:=k.get (no:=no) (by omega) (by omega);rw [hgot.1] at ok⊢;have hgl:(P.getD (no-1) []).length=r.size:=k.page_len (by omega);refine .z .mvU<|.z .ex<|.z .ex<|.z .asS<|.ur' (.stI T.sz34 ok.n4) ?_;rintro η3 ⟨ok,cg⟩;refine .nil ?_;refine .seq<|.seq<|.r<|.z (.ldx T.ag34 ok.m0)<|.z .eql<|.nil ?_;refine .ct<|.r<|.z .mvP<|.z .mvI<|.z .mvS<|.c' 32 .func (hput_any (p:=p) (r:=r) (L:=(getL (no:Int) L)) (no:=no) (a:=ag1) (c:=cg1) (l:=(P.getD (no-1) [])) (d:=false) hgot.2 (by omega) (by omega) (by omega) ((ok.n1.n4.n4.n5.n5).n4.frzB (l:=(P.getD (no-1) [])) rfl).lc4) ?_;rintro _ η4 ⟨rfl,rp1,Fdp1,Fcp1,wp1,q⟩;have ok:=(ok.n1.n4.n4.n5.n5).lf44 q;have hbp1:=hgot.2.put (no:=no) (b:=(P.getD (no-1) [])) (d:=false) (r':=rp1) (by omega) (by omega) hgl (fun _=>rfl) (fun h=>by cases h) wp1;refine .ur' (.stI T.sz34 ok.n5) ?_;rintro η5 ⟨ok,cg⟩;refine .nil ?_;refine .seq<|.seq<|.r<|.z (.ldx T.ag34 ok.m0)<|.z .neq<|.nil ?_;refine .cf<|.skip<|.seq<|.r<|.z .mvS<|.z .asS<|.ur' (.stI T.sz34 ok) ?_;rintro η6 ⟨ok,cg⟩;refine .nil ?_;refine .ret ⟨_,_,_,rfl,(hend_any (p:=p) (q:=pb1) (r:=rp1) (ok.m1) (ok.m0)),?_⟩;rintro _ _ ⟨rfl,rfl⟩;have hkp:=pt_kp (hgot.2.ptA (by omega)) wp1;rw [set_same (by omega)] at hbp1;refine ⟨.tuple #[.slice ag1 ((P.getD (no-1) []).length) cg1,.int .i64 0],Res.many (vs:=[.slice ag1 ((P.getD (no-1) []).length) cg1,.int .i64 0]) rfl ⟨rfl,⟨_,rfl,load_1 T.ag34 ok.m0⟩,trivial⟩ rfl,⟨_,_,rfl,rp1,Fdp1,Fcp1,_,hbp1,hkp,(by rw [hkp.c];exact (ok.n4.n4.n4.n4.n5).k5)⟩⟩
theorem hbcommit_any {h:Heap} {p:Nat} {r:RH} {D Fd Fc:Nat→Prop} {room:Int} {L:List AP} {P:List (List UInt8)} (k:HB r room L P) (hin:r.in_=true) (hP:1≤P.length) (hh:hok (P.getD (1-1) []) r.size) (hcg:r.D.chg<390000000) (ok:Hp h D [hboxI p r,kepI r.km r.kept,dgI r.d Fd r.D,cacL r.c Fc room L] [] h) :
  HC Tryz.prog 295 #[.pointer (some ⟨p,0,none⟩)] h (fun v h'=>v=.int .i64 0∧∃r' Fd' Fc' L',HB r' room L' P∧r'.in_=false∧r'.size=r.size∧r'.D.chg≤r.D.chg+30+(unlH r (getL (1:Int) L)).length∧Hp h D [hboxI p r',kepI r'.km r'.kept,dgI r'.d Fd' r'.D,cacL r'.c Fc' room L'] [] h'):=by
 have hzc:=k.zc;have hsz:=hzc.2;have hfw:=k.few;have hnow:r.now=P.length:=by have:=k.np;unfold presH at this;rw [if_pos hin] at this;exact this
 have hh1:=hh.1;have hh2:=hh.2;refine HC.goD Tryz.func295 73 ?_;refine .seq<|.lift<|.r<|.a' 2 (.alI T.zr34 ok) ?_;rintro _ η1 ⟨pb1,rfl,ok,xe⟩;refine .nil ?_;refine .end<|HSD.on<|.seq<|.seq<|.lift<|.r<|.z .mvP<|.k 10 .func (hst_any (r:=r) ok.m1)<|.z .asI<|.nil ?_;refine .end<|HSD.on<|.seq<|.lift<|.r<|.z .mvI<|.z .neq<|.nil ?_;refine .end<|HSD.on<|.lift<|.cf<|.skip<|.end<|HSD.on<|.seq<|.rd<|.z .mvP<|.df (args:=[.pointer (some ⟨p,0,none⟩),.pointer (some ⟨pb1,0,none⟩)]) rfl<|?_;refine .seq<|.seq<|.r<|.z .mvP<|.z .nil<|.z (.fa T.fd212_0)<|.z (.fa T.fd210_0)<|.z (.ldx T.ag4 ok.m1)<|.z .not<|.nil ?_;refine .cond (fun C1=>?_) (fun C1=>?_)
 ·
  rw [hin] at C1;simp at C1
 refine .skip<|.seq<|.seq<|.r<|.z .mvP<|.z .nil<|.z (.fa T.fd212_0)<|.z (.fa T.fd210_1)<|.z (.ldx T.ag3 ok.m1)<|.z .gtr<|.nil ?_;refine .cd (fun C2=>?_) (fun C2=>?_)
 ·
  refine .seq<|.r<|.z .mvP<|.c' 29 .func (hget_any (p:=p) (r:=r) (L:=L) (no:=1) k.k.hd hsz (by omega) (ok.n4.n4.n3).lc3) ?_;rintro _ η2 ⟨Fg1,ag1,cg1,rfl,q⟩;have ok:=(ok.n4.n4.n3).lf34 q;have hgot:=k.get (no:=1) (by omega) (by omega);rw [hgot.1] at ok⊢;have hgl:(P.getD (1-1) []).length=r.size:=k.page_len (by omega);refine .z .mvU<|.z .ex<|.z .ex<|.z .asS<|.z .asI<|.nil ?_;refine .seq<|.seq<|.r<|.z .mvI<|.z .neq<|.nil ?_;refine .cf<|.skip<|.seq<|.r<|.z .mvS<|.c' 37 .func (dec_any (a:=ag1) (c:=cg1) (l:=(P.getD (1-1) [])) (RdL.ofCapB (v:=(ag1,(P.getD (1-1) []).length,cg1)) (l:=(P.getD (1-1) [])) ok.m0)) ?_;rintro _ η3 ⟨rfl,hx⟩;rw [show (decN (P.getD (1-1) [])).1.val=.agg #[.int .i64 (decN (P.getD (1-1) [])).1.size,.int .i64 (decN (P.getD (1-1) [])).1.pages,.int .i64 (decN (P.getD (1-1) [])).1.free,.int .i64 (decN (P.getD (1-1) [])).1.many,.int .i64 (decN (P.getD (1-1) [])).1.cookie,.int .i64 (decN (P.getD (1-1) [])).1.version] from rfl];have ok:=ok.ext hx;refine .z .mvU<|.z .ex<|.z .ex<|.a' 6 (.alA T.zr38 ok) ?_;rintro _ η4 ⟨pb2,rfl,ok,xe⟩;refine .ur' (.stW (vs:=[.int .i64 ((decN (P.getD (1-1) [])).1.size),.int .i64 ((decN (P.getD (1-1) [])).1.pages),.int .i64 ((decN (P.getD (1-1) [])).1.free),.int .i64 ((decN (P.getD (1-1) [])).1.many),.int .i64 ((decN (P.getD (1-1) [])).1.cookie),.int .i64 ((decN (P.getD (1-1) [])).1.version)]) T.sz38 ok (oneL rfl)) ?_;rintro η5 ⟨ok,cg⟩;refine .z .asI<|.nil ?_;refine .seq<|.q (hm:=mixed)<|.z .mvI<|.z .neq<|.z .mvB<|.sd (fun G42=>?_) (fun G42=>?_)
  ·
   exact absurd (congrArg Int.ofNat hh1) G42
  refine .z (.fa T.fd38_0)<|.z (.ldx T.ag3 ok.m0)<|.z .mvP<|.z .nil<|.z (.fa T.fd212_2)<|.z (.ldx T.ag3 ok.m2)<|.z .neq<|.z .pkf<|.nil ?_;refine .cd (fun C4=>?_) (fun C4=>?_)
  ·
   exact absurd hh2 C4
  refine .skip<|.seq<|.seq<|.r<|.z .mvP<|.c' 52 .func (hlay_any (p:=p) (r:=r) (L:=(getL (1:Int) L)) hgot.2 hin (by omega) (by omega) (ok.n4.n4.n6.n5).lc4) ?_;rintro _ η6 ⟨rfl,rl1,Fdl1,lal1,q⟩;have ok:=(ok.n4.n4.n6.n5).lf44 q;rw [←lal1.c] at ok;refine .z .asI<|.nil ?_;refine .seq<|.r<|.z .mvI<|.z .neq<|.nil ?_;refine .cf<|.skip<|.seq<|.r<|.z .mvP<|.z .nil<|.z (.fa T.fd212_3)<|.z (.ldx T.ag194 ok.m0)<|.c' 60 .func (lclean_any (ok.n3).m0) ?_;rintro _ η7 ⟨rfl,q⟩;have ok:=(ok.n3).lift1 q;refine .nil ?_;refine .seq<|.r<|.z .mvP<|.z .mvP<|.z .nil<|.z (.fa T.fd212_0)<|.z (.fa T.fd210_1)<|.z (.ldx T.ag3 ok.m1)<|.z .nil<|.z (.fa T.fd212_4)<|.ur' (.stI T.sz3 ok.n1) ?_;rintro η8 ⟨ok,cg⟩;refine .nil ?_;refine .seq<|.r<|.z .mvP<|.z (.bd #[.bool false,.int .i64 0,.int .i64 0,.bool false,.int .u64 0,.map none,.int .i64 0] T.zr210 T.pl210 rfl)<|.z .nil<|.z (.fa T.fd212_0)<|.ur' (.stA (vs:=[.bool false,.int .i64 0,.int .i64 0,.bool false,.int .u64 0,.map none,.int .i64 0]) T.sz210 ok (oneL rfl)) ?_;rintro η9 ⟨ok,cg⟩;refine .nil ?_;refine .seq<|.r<|.ur' (.stI T.sz34 ok.n6) ?_;rintro η10 ⟨ok,cg⟩;refine .nil ?_;refine .ret ⟨_,_,_,rfl,(hend_any (p:=p) (q:=pb1) (r:=({ rl1 with in_:=false,now:=0,valid:=0,begun:=false,nonce:=0,km:=none,marked:=0,sure:=rl1.now } : RH)) (ok.m1) (ok.m0)),?_⟩;rintro _ _ ⟨rfl,rfl⟩;refine ⟨.int .i64 0,Res.many (vs:=[.int .i64 0]) rfl ⟨⟨_,rfl,load_1 T.ag34 ok.m0⟩,trivial⟩ rfl,⟨rfl,cmtH rl1,Fdl1,Fg1,_,hgot.2.commit hin lal1,rfl,lal1.size,lal1.chg,((((ok.n2.n4.n4.n4).k4.e0).n1.tM).kepNil (kept:=[])).n1⟩⟩
 omega
open Go Go.HL
theorem hcnew_any {h:Heap} {room:Int} : HC Tryz.prog 133 #[.int .i64 room] h (fun v h'=>(¬(1≤room∧room≤1048576)∧v=.tuple #[.pointer none,.int .i64 1]∧Ext h h')∨
  ((1≤room∧room≤1048576)∧∃c F,v=.tuple #[.pointer (some ⟨c,0,none⟩),.int .i64 0]∧Ext h h'∧(cacL c F room []).p h'∧∀j,F j→Nw h h' j)):=
 (cnew_any (h:=h) (room:=room)).mono fun v h' q=>q.imp (fun ⟨h1,h2,h3⟩=>⟨h1,h2,by rw [h3];exact Ext.refl _⟩) fun ⟨h1,p,F,hv,hr,hx,hn⟩=>⟨h1,p,F,hv,hx,hr,fun j hj=>⟨hn j hj,hr.lt j hj⟩⟩
def newH (d c z:Nat):RH:=⟨false,0,0,false,0,none,[],0,d,newN,z,c,0,0⟩
theorem HB.new {d c z:Nat} {room:Int} (hz:okSz z=true) (hr:1≤room∧room≤1048576):HB (newH d c z) room [] []:=
 ⟨⟨hz,HD.new,rfl,by show 0≤16777216;omega,by show 0*(z+8)+28≤16777216;omega,fun h=>(by cases h),fun _=>⟨rfl,rfl⟩,.nil,fun x h=>(by cases h),by show (0:Nat)<_;decide,by show (0:Int)≤0;decide⟩,rfl,by simp,by simp,.nil,⟨hr.1,hr.2,by simp;omega⟩,by simp,by simp,by simp,fun _ x h=>(by cases h),fun h=>(by cases h),fun h=>(by cases h),fun _=>rfl,fun _=>by show 0=0*z;omega⟩
theorem hbopen_any {h:Heap} {d z:Nat} {room:Int} {F:Nat→Prop} (ok:Hp h F [dgI d F newN] [] h) (hz:okSz z=true) (hr:1≤room∧room≤1024) :
  HC Tryz.prog 88 #[.pointer (some ⟨d,0,none⟩),.int .i64 (z:Int),.int .i64 room] h (fun v h'=>∃p c Fd Fc,HB (newH d c z) room [] []∧v=.tuple #[.pointer (some ⟨p,0,none⟩),.int .i64 0]∧Hp h F [hboxI p (newH d c z),kepI none [],dgI d Fd newN,cacL c Fc room []] [] h'):=by
 have hzc:=okSz_c hz;have hpw:=(and_pow z (by omega) (by omega)).2 (by omega);refine HC.go Tryz.func88 62 ?_;refine .seq<|.r<|.z .asP<|.z .asI<|.nil ?_;refine .seq<|.block fun K0 hK0=>.seq<|.r<|.z .mvP<|.z (.pEqS T.pt63)<|.z .asB<|.nil ?_;refine .cf<|.seq<|.r<|.z .mvI<|.z .lss<|.z .mvB<|.sd (fun G18=>?_) (fun G18=>?_)
 ·
  omega
 refine .z .mvI<|.z .gtr<|.z .pkf<|.z .mvB<|.sd (fun G22=>?_) (fun G22=>?_)
 ·
  omega
 refine .z .mvI<|.z .mvI<|.z .sub<|.z (.bandI z (z-1))<|.z .neq<|.z .pkf<|.z .asB<|.nil ?_;refine .cd (fun C1=>?_) (fun C1=>?_)
 ·
  omega
 refine .skip<|.end<|hK0 _ _<|.seq<|.r<|.z .mvI<|.c' 31 .func (hcnew_any (room:=room)) ?_;rintro _ η1 (⟨hrm,rfl,hx⟩ | ⟨hrm,cc,cF,rfl,hx,hcac,hnw⟩)
 ·
  exact absurd hrm (by omega)
 have ok:=ok.newM hx (cacL cc cF room []) hcac hnw;refine .z .mvU<|.z .ex<|.z .ex<|.z .asP<|.z .asI<|.nil ?_;refine .seq<|.seq<|.r<|.z .mvI<|.z .neq<|.nil ?_;refine .cf<|.skip<|.seq<|.seq<|.r<|.z .mvP<|.k 38 .func (ndark_any (ok.n1).loc0)<|.nil ?_;refine .cf<|.skip<|.seq<|.seq<|.r<|.z .mvP<|.k 40 .func (nheal_any (ok.n1).loc0)<|.z .asI<|.nil ?_;refine .seq<|.r<|.z .mvI<|.z .neq<|.nil ?_;refine .cf<|.skip<|.seq<|.r<|.z .mvP<|.z .mvI<|.k 47 .func (nlook_any (z:=(z:Int)) (ok.n1).loc0)<|.z .mvU<|.z .ex<|.z .ex<|.z .asI<|.z .asI<|.nil ?_;refine .seq<|.seq<|.r<|.z .mvI<|.z .neq<|.nil ?_;refine .cf<|.skip<|.seq<|.r<|.z .mvP<|.z .mvI<|.z .mvP<|.z .mvI<|.z .mvI<|.z .quo<|.z .mvI<|.z (.bd #[.bool false,.int .i64 0,.int .i64 0,.bool false,.int .u64 0,.map none,.int .i64 0,.pointer (some ⟨d,0,none⟩),.int .i64 (z:Int),.pointer (some ⟨cc,0,none⟩),.int .i64 (0 / (z:Int)),.int .i64 0,.bool false] T.zr212 T.pl212 (by kernel_rfl))<|.a' 61 (.bxA (cs:=[.bool false,.int .i64 0,.int .i64 0,.bool false,.int .u64 0,.map none,.int .i64 0,.pointer (some ⟨d,0,none⟩),.int .i64 (z:Int),.pointer (some ⟨cc,0,none⟩),.int .i64 (0 / (z:Int)),.int .i64 0,.bool false]) ok) ?_;rintro _ η2 ⟨pb1,rfl,ok,xe⟩;refine .z .asP<|.z .asI<|.nil ?_;refine .ret ⟨.tuple #[.pointer (some ⟨pb1,0,none⟩),.int .i64 0],Res.two rfl rfl rfl,⟨pb1,_,_,_,HB.new hz (by omega),rfl,by have o:=(ok.n1.n2.n2).k3;rw [Int.zero_ediv] at o;exact (o.kepNil (kept:=[])).n1⟩⟩
structure HbA (z:Nat) (i:Bool) (k n:Nat) where
 r:RH
 Fd:Nat→Prop
 Fc:Nat→Prop
 room:Int
 L:List AP
 P:List (List UInt8)
 hb:HB r room L P
 in_:r.in_=i
 sz:r.size=z
 ch:r.D.chg≤66000*(k:Int)+20*(n:Int)
 hc:r.D.chg<400000000
@[reducible] def hbL {z k n:Nat} {i:Bool} (p:Nat) (a:HbA z i k n):List Itm:=[hboxI p a.r,kepI a.r.km a.r.kept,dgI a.r.d a.Fd a.r.D,cacL a.r.c a.Fc a.room a.L]
section
variable {z k n p no m:Nat} {h:Heap} {D:Nat→Prop} {i:Bool} {b:List UInt8}
theorem hb_opn {a:HbA z i k n} {R:List Itm} (ok:Hp h D [starI (hbL p a)] R h):Hp h D [hboxI p a.r,kepI a.r.km a.r.kept,dgI a.r.d a.Fd a.r.D,cacL a.r.c a.Fc a.room a.L] R h:=Hp.unstar (l:=hbL p a) (M:=[]) ok
theorem hb_np {a:HbA z i k n} : presH a.r=a.P.length:=a.hb.np
theorem hb_cPages {a:HbA z i k n} (hp:(starI (hbL p a)).p h):HC Tryz.prog 297 #[pv p] h (fun v h'=>v=.int .i64 (a.P.length:Int)∧h'=h):=by
 rw [←hb_np (a:=a)];exact hPages_any (hp.1 _ List.mem_cons_self)
theorem hb_cRead {a:HbA z false k n} {nI:Int} (ok:Hp h D [starI (hbL p a)] [] h) (h1:1≤nI) (hg:a.P[(nI-1).toNat]? = some b):HC Tryz.prog 298 #[pv p,.int .i64 nI] h (fun v h'=>∃(a':HbA z false k n) (x:Option Addr) (c:Nat),v=.tuple #[.slice x b.length c,.int .i64 0]∧a'.P=a.P∧Hp h D [capI 1 5 (x,b.length,c) (b.map bv),starI (hbL p a')] [] h'):=by
 obtain ⟨j,rfl⟩:∃j:Nat,nI=(j:Int):=⟨nI.toNat,by omega⟩;have hlt:=(List.getElem?_eq_some_iff.1 hg).1;have hb:a.P.getD (j-1) []=b:=by rw [List.getD_eq_getElem?_getD,show j-1=((j:Int)-1).toNat by omega,hg];rfl
 have hc:=a.hc;refine (hbread_any (no:=j) a.hb (by omega) (by omega) (by omega) (hb_opn ok)).mono fun v h' ⟨x,c,hv,r',Fd',Fc',L',k',kp,q⟩=>?_;rw [hb] at hv q;obtain rfl:=kp.ro a.in_;exact ⟨⟨a.r,Fd',Fc',a.room,L',a.P,k',a.in_,a.sz,a.ch,hc⟩,x,c,hv,rfl,(Hp.star (l:=[hboxI p a.r,kepI a.r.km a.r.kept,dgI a.r.d Fd' a.r.D,cacL a.r.c Fc' a.room L']) (M:=[capI 1 5 (x,b.length,c) (b.map bv)]) q.n4.n4.n4.n4).n1⟩
theorem hb_cBegin {a:HbA z false k n} (ok:Hp h D [starI (hbL p a)] [] h):HC Tryz.prog 294 #[pv p] h (fun v h'=>v=.int .i64 0∧∃(b:HbA z true k n),b.P=a.P∧Hp h D [starI (hbL p b)] [] h'):=by
 refine (hbegin_any a.hb a.in_ (hb_opn ok)).mono fun v h' ⟨hv,m,q⟩=>⟨hv,⟨begH a.r m,a.Fd,a.Fc,a.room,a.L,a.P,a.hb.begin a.in_ m,rfl,a.sz,a.ch,a.hc⟩,rfl,Hp.star (l:=[hboxI p (begH a.r m),kepI (some m) [],dgI a.r.d a.Fd a.r.D,cacL a.r.c a.Fc a.room a.L]) (M:=[]) q⟩
theorem hb_cResize {a:HbA z true k n} (hm:m*(z+16)+28≤16777216) (ok:Hp h D [starI (hbL p a)] [] h):HC Tryz.prog 299 #[pv p,.int .i64 (m:Int)] h (fun v h'=>v=.int .i64 0∧∃(b:HbA z true k n),b.P=rszP a.P m z∧Hp h D [starI (hbL p b)] [] h'):=by
 have hz:=a.sz;have hm2:m*(a.r.size+8)+28≤16777216:=by
  rw [hz];have:m*(z+8)≤m*(z+16):=Nat.mul_le_mul_left _ (by omega);omega
 refine (hresize_any a.hb a.in_ hm2 (hb_opn ok)).mono fun v h' ⟨hv,Fc',q⟩=>⟨hv,⟨rszH a.r m,a.Fd,Fc',a.room,_,_,a.hb.resize a.in_ hm2,a.in_,a.sz,a.ch,a.hc⟩,congrArg (rszP a.P m) hz,Hp.star (l:=[hboxI p (rszH a.r m),kepI a.r.km a.r.kept,dgI a.r.d a.Fd a.r.D,cacL a.r.c Fc' a.room (a.L.filter fun x=>decide (x.no≤(m:Int)))]) (M:=[]) q⟩
def hbLim (k n:Nat):Prop:=k≤4000∧n≤4000000
theorem hb_cWrite {a:HbA z true k n} {F2 E2:Nat→Prop} {x:Option Addr} {c:Nat} (hl:hbLim (k+1) (n+1)) (h1:1≤no) (h2:no≤a.P.length) (hb:b.length=z) (ok:Hp h D [starI (hbL p a)] [rdI F2 E2 (x,b.length,c) b] h):HC Tryz.prog 301 #[pv p,.int .i64 (no:Int),.slice x b.length c] h (fun v h'=>v=.int .i64 0∧∃(b':HbA z true k (n+1)),b'.P=a.P.set (no-1) b∧Hp h D [starI (hbL p b')] [] h'):=by
 have hc:=a.hc;have ch:=a.ch;have hl1:=hl.1;have hl2:=hl.2;refine (hbwrite_any a.hb a.in_ (by omega) h1 h2 (by rw [a.sz];exact hb) (hb_opn ok)).mono fun v h' ⟨hv,r',Fd',Fc',L',k',kp,q⟩=>?_;have hcg:=kp.chg;exact ⟨hv,⟨r',Fd',Fc',a.room,L',_,k',kp.in_.trans a.in_,kp.size.trans a.sz,by omega,by omega⟩,rfl,Hp.star (l:=[hboxI p r',kepI r'.km r'.kept,dgI r'.d Fd' r'.D,cacL r'.c Fc' a.room L']) (M:=[]) q⟩
theorem hb_cCommit {a:HbA z true k n} (hl:hbLim (k+1) n) (h1:1≤a.P.length) (hh:hok (a.P.getD (1-1) []) z) (ok:Hp h D [starI (hbL p a)] [] h):HC Tryz.prog 295 #[pv p] h (fun v h'=>v=.int .i64 0∧∃(b:HbA z false (k+1) n),b.P=a.P∧Hp h D [starI (hbL p b)] [] h'):=by
 have hc:=a.hc;have ch:=a.ch;have hl1:=hl.1;have hl2:=hl.2;have hun:(unlH a.r (getL (1:Int) a.L)).length≤65536:=by
  have hg:=(a.hb.get (no:=1) (by omega) h1).2;have hf:=hg.few;have h3:=inner_fit (n:=a.P.length) (un_nodup hg) (fun x hx=>by obtain ⟨f,hf,rfl⟩:=List.mem_map.1 hx;obtain ⟨y,hy,_,rfl⟩:=un_ok hg hf;exact hg.rg y hy);rw [List.length_map] at h3;have h4:=hf.2;have h6:(unlH a.r (getL ((1:Nat):Int) a.L)).length=(unlH a.r (getL (1:Int) a.L)).length:=rfl;omega
 refine (hbcommit_any a.hb a.in_ h1 (by rw [a.sz];exact hh) (by omega) (hb_opn ok)).mono fun v h' ⟨hv,r',Fd',Fc',L',k',hi,hs,hcg,q⟩=>?_;exact ⟨hv,⟨r',Fd',Fc',a.room,L',a.P,k',hi,hs.trans a.sz,by omega,by omega⟩,rfl,Hp.star (l:=[hboxI p r',kepI r'.km r'.kept,dgI r'.d Fd' r'.D,cacL r'.c Fc' a.room L']) (M:=[]) q⟩
end
def hbG (z k n:Nat):Pgr where
 α:=HbA z false k n
 it p _ a:=starI (hbL p a)
 sure a:=a.P
 tid:=140
 fPages:=297
 fRead:=298
 mPages p w:=by kernel_rfl
 mRead p w:=by kernel_rfl
 cPages hp:=hb_cPages hp
 cRead ok h1 hg:=(hb_cRead ok h1 hg).mono fun v h' ⟨a',x,c,q⟩=>⟨none_,a',x,c,q⟩
def hbT (z k n:Nat):PgT where
 α:=HbA z true k n
 it p _ a:=starI (hbL p a)
 sure a:=a.P
def hbC (z:Nat):PgrC where
 z:=z
 lim:=hbLim
 limM h1 h2 h:=⟨Nat.le_trans h1 h.1,Nat.le_trans h2 h.2⟩
 G:=hbG z
 T:=hbT z
 tid _ _ _ _:=rfl
 up {k n k' n' h p F a} h1 h2 hp:=⟨⟨a.r,a.Fd,a.Fc,a.room,a.L,a.P,a.hb,a.in_,a.sz,by have:=a.ch;omega,a.hc⟩,rfl,hp,fun _ f=>f⟩
 fBegin:=294
 fResize:=299
 fWrite:=301
 fCommit:=295
 mBegin k n p w:=by kernel_rfl
 mResize k n p w:=by kernel_rfl
 mWrite k n p w:=by kernel_rfl
 mCommit k n p w:=by kernel_rfl
 cBegin _ ok:=(hb_cBegin ok).mono fun v h' ⟨hv,b,hb,q⟩=>⟨hv,none_,b,hb,q⟩
 cResize hm ok:=(hb_cResize hm ok).mono fun v h' ⟨hv,b,hb,q⟩=>⟨hv,none_,b,hb,q⟩
 cWrite hl h1 h2 hb ok:=(hb_cWrite hl h1 h2 hb ok).mono fun v h' ⟨hv,b,hb,q⟩=>⟨hv,none_,b,hb,q⟩
 cCommit hl h1 hh _ ok:=(hb_cCommit hl h1 hh ok).mono fun v h' ⟨hv,b,hb,q⟩=>⟨hv,none_,b,hb,q⟩
open Go Go.HL
theorem Cap.lnI {h:Heap} {e:TypeId} {a:Option Addr} {n c:Nat} {l:List Int} (r:Cap h 1 e (.slice a n c) (l.map iv)):n=l.length:=by
 obtain ⟨a',n',c',hv,_,_,h3,_⟩:=r;injection hv with _ h2 _;rw [List.length_map,Nat.mul_one] at h3;omega
theorem sunlike_any {G:Pgr} {h:Heap} {so:Nat} {r:RS G.α} {w:St} {E:Nat→Prop} (V:SVw G r w) (hin:w.in_=true) (ok:Hp h (starI [G.it r.p r.pF r.a,sboxI G so r,nowI r.om r.ov]).F [G.it r.p r.pF r.a,sboxI G so r,nowI r.om r.ov] [pbsI E r.ov] h) :
  HC Tryz.prog 100 #[.pointer (some ⟨so,0,none⟩)] h (fun v h'=>∃(Sk:List Int) (F':Nat→Prop) (a':G.α) (x:Option Addr) (c:Nat),v=.tuple #[.slice x (Sk.filter (ulK w.now w.sure)).length c,.int .i64 0]∧G.sure a'=w.sure∧(r.ov.map (·.1)).Nodup∧Sk.Perm (r.ov.map (·.1))∧Hp h (starI [G.it r.p r.pF r.a,sboxI G so r,nowI r.om r.ov]).F [capI 1 3 (x,(Sk.filter (ulK w.now w.sure)).length,c) ((Sk.filter (ulK w.now w.sure)).map iv),G.it r.p F' a',sboxI G so r,nowI r.om r.ov] [] h'):=by
 generalize (starI [G.it r.p r.pF r.a,sboxI G so r,nowI r.om r.ov]).F=DF at ok⊢;have hzc:=V.zc;have hnf:=V.nowfew;have hsf:=PgsK_few V.ok.sure V.zc;have hv:=(V.now hin).2;have hmn:=V.many hin;have hsu:=V.sure;obtain ⟨p,lg,z,in_,many,om,ov,sa,sc,svl,pF,ga⟩:=r;dsimp only at ok hv hmn hsu⊢;refine HC.go Tryz.func100 55 ?_;refine .seq<|?_;obtain ⟨mb,rfl⟩:=(V.now hin).1;have ok:=Hp.nowSome (ok.n2);refine .r<|.z .asS<|.z .asI<|.nil ?_;refine .seq<|.r<|.z .asS<|?_;have ok:=ok.nilC (k:=1) (e:=3);refine .nil ?_;refine .seq<|.seq<|.r<|.z .mvP<|.z .nil<|.z (.fa T.fd123_4)<|.z (.fa T.fd120_1)<|.z (.ldx T.ag118 ok.m3)<|.c' 14 .func bskeys_any ?_;rintro _ _ ⟨rfl,rfl⟩;have hmt:=ok.m1;have hnd:(ov.map (·.1)).Nodup:=by have:=MapT.nodup hmt;rwa [show (bsE ov).map (·.1)=ov.map (·.1) by simp [bsE]] at this
 rw [bsE_ks hnd] at hmt;have hkr:∀k∈ov.map (·.1),1≤k∧k≤(many:Int):=fun k hk=>by obtain ⟨y,hy,rfl⟩:=List.mem_map.1 hk;exact hv.key y hy
 have hkl:=ks_fit many _ hnd hkr;have ok:=ok.ext (Ext.push _ (.cells #[.map (some mb)] 118 (0,0)));refine .c' 15 .func (bssorted_any hmt (fun k hk=>by have:=hkr k hk;omega) (by omega)) ?_;rintro _ η1 ⟨Sk,hSp,hSs,own⟩;obtain ⟨aS,nS,cS,rfl⟩:=own.form3;have ok:=(ok.own own).frzI rfl;obtain rfl:nS=Sk.length:=ok.r0.n;have hSm:=ok.r0.m;have hSc:=ok.r0.c;simp only at hSm hSc;have hSl:Sk.length=(ov.map (·.1)).length:=hSp.length_eq;have hfs:=hv.ks hnd hSp;refine .z (.len T.el24)<|.z .mvI<|.nil ?_;refine .block fun K0 hK0=>.loop (fun m s hh=>∃(i:Nat) (a4:Option Addr) (n4 c4:Nat) (pFi:Nat→Prop) (gi:G.α),Has s [(0,.pointer (some ⟨so,0,none⟩)),(4,.slice a4 n4 c4),(15,.slice aS Sk.length cS),(16,.int .i64 (Sk.length:Int)),(17,.int .i64 (i:Int))]∧Hp h DF [capI 1 3 (a4,n4,c4) (((Sk.take i).filter (ulK w.now w.sure)).map iv),G.it p pFi gi,boxI so 123 [.iface G.tid (.pointer (some ⟨p,0,none⟩)),.pointer lg,.int .i64 (z:Int),.bool in_,.int .i64 (many:Int),.map (some mb),.slice sa svl.length sc,.bool false],mapI (Value.int .i64) mb (bsE ov)] [rdI (blkC (sv (aS,Sk.length,cS))) none_ (aS,Sk.length,cS) Sk,pbsI E ov] hh∧i≤Sk.length∧G.sure gi=w.sure∧m=Sk.length-i) ?_ ?_
 ·exact ⟨_,0,none,0,0,pF,ga,⟨rfl,rfl,rfl,rfl,rfl,trivial⟩,ok.n1.n3.n3.n3.cx (by simp),Nat.zero_le _,hsu,rfl⟩
 rintro _ _ η2 ⟨i,a4,n4,c4,pFi,gi,hs,ok,hi,hgi,rfl⟩ J0 hJ0;refine .frame hs fun τ=>?_;refine .seq<|.r<|.z .lss<|.nil ?_;refine .seq<|.cdr (fun C0=>?_) (fun C0=>?_)
 ·
  refine .exit<|hK0 _ _<|.seq<|?_;have hfin:((Sk.take i).filter (ulK w.now w.sure))=(Sk.filter (ulK w.now w.sure)):=by rw [show i=Sk.length by omega,List.take_length]
  obtain rfl:n4=((Sk.take i).filter (ulK w.now w.sure)).length:=Cap.lnI ok.m0;refine .r<|.z .mvS<|.z .asS<|.z .asI<|.nil ?_;refine .ret ⟨.tuple #[.slice a4 (((Sk.take i).filter (ulK w.now w.sure)).length) c4,.int .i64 0],Res.two rfl rfl rfl,⟨Sk,pFi,gi,a4,c4,by rw [hfin],hgi,hnd,hSp,by have o:=(ok).e0;rw [hfin] at o;exact o⟩⟩
 refine .skip<|.seq<|.block fun K1 hK1=>.seq<|?_;have hgl:=congrArg List.length hgi;have hiS:i<Sk.length:=by omega
 obtain ⟨w1,hkw,hwn,x,hx,hnl⟩:=hfs Sk[i] (List.getElem_mem hiS);refine .r<|?_;obtain ⟨bb1,oo1,rfl,fb1⟩:=ok.r0.pos (by omega);refine .z (.ix1 i T.el24 T.sz3)<|.z (.ld T.ag3 (ok.r0.i64 (i:=i) (by omega)))<|.z .asI<|.nil ?_;refine .seq<|.seq<|.r<|.z .mvI<|.z .mvP<|.z .nil<|.z (.fa T.fd123_0)<|.z (.ldx T.ag116 ok.m2)<|.k 26 (.inv (G.mPages _)) (G.cPages (F:=pFi) (a:=gi) ok.m1)<|.z .leq<|.nil ?_;refine .cd (fun C1=>?_) (fun C1=>?_)
 ·
  have hws:w1<w.sure.length:=by omega
  have hsw:w.sure[w1]? = some (w.sure.getD w1 []):=by rw [List.getD_eq_getElem?_getD,List.getElem?_eq_getElem hws];rfl
  have hsg:(G.sure gi)[(Sk[i]-1).toNat]? = some (w.sure.getD w1 []):=by rw [hgi,show (Sk[i]-1).toNat=w1 by omega];exact hsw
  have hsl:(w.sure.getD w1 []).length=w.z:=V.ok.sure.len _ (List.mem_of_getElem? hsw);refine .seq<|.r<|.z .mvP<|.z .nil<|.z (.fa T.fd123_0)<|.z (.ldx T.ag116 ok.m2)<|.z .mvI<|.c' 34 (.inv (G.mRead _)) (G.cRead (p:=p) (F:=pFi) (a:=gi) (no:=Sk[i]) (b:=(w.sure.getD w1 [])) (ok.n1).loc0 (by omega) hsg) ?_;rintro _ η3 ⟨Fg1,ag1,xg1,cg1,rfl,hsg1,q⟩;have ok:=(ok.n1).lift2 q;refine .z .mvU<|.z .ex<|.z .ex<|.z .asS<|.z .asI<|.nil ?_;refine .seq<|.seq<|.r<|.z .mvI<|.z .neq<|.nil ?_;refine .cf<|.skip<|.seq<|?_;have ok:=ok.d1 (rdI E E (bsA ov Sk[i],bsN ov Sk[i],bsC ov Sk[i]) x.l) (Pbs.rd ok.r1 hx rfl) (fun _ h=>h.elim id id);obtain hbn:bsN ov Sk[i]=x.l.length:=ok.r0.n;rw [hbn] at ok;refine .r<|.z .mvS<|.z .mvP<|.z .nil<|.z (.fa T.fd123_4)<|.z (.fa T.fd120_1)<|.z (.ldx T.ag118 ok.m3)<|.z .mvI<|.z (.lk (KV.int .i64) (Sk[i]) (v:=.slice (bsA ov Sk[i]) x.l.length (bsC ov Sk[i])) T.mp118 (inB_iff T.in3) T.zr44 ok.m4 (by rw [←hbn];exact bs_get))<|.k 48 .func (equal_any (a:=xg1) (c:=cg1) (l:=(w.sure.getD w1 [])) (b:=(bsA ov Sk[i])) (d:=(bsC ov Sk[i])) (l2:=x.l) (RdL.ofCapB (v:=(xg1,(w.sure.getD w1 []).length,cg1)) (l:=(w.sure.getD w1 [])) ok.m0) ok.r0)<|.nil ?_;refine .cd (fun C3=>?_) (fun C3=>?_)
  ·
   have hun:ulK w.now w.sure Sk[i]=false:=by unfold ulK;rw [show (Sk[i]-1).toNat=w1 by omega,hnl,hsw,←C3];simp
   refine .exit<|hK1 _ _<|.r<|.z (.addI (b:=1))<|.z .mvI<|.nil ?_;refine .end<|hJ0 _ _ _ ⟨i+1,a4,n4,c4,Fg1,ag1,⟨rfl,rfl,rfl,rfl,rfl,trivial⟩,ok.n4.n4.n3.n4.k4.tR.cx (by rw [filt_tk (by omega)];simp [hun,iv]),by omega,hsg1.trans hgi,rfl⟩ (by omega)
  have hun:ulK w.now w.sure Sk[i]=true:=by unfold ulK;rw [show (Sk[i]-1).toNat=w1 by omega,hnl,hsw];exact decide_eq_true (fun e=>C3 (by injection e with e;exact e.symm))
  refine .skip<|.r<|.z .mvS<|.z .mvI<|.a' 51 (.lit [.tmp 50] (cs:=[.int .i64 (Sk[i])]) T.el24 T.sz3 T.zr3 ok ⟨rfl,trivial⟩) ?_;rintro _ η4 ⟨pb1,rfl,ok,xe⟩;refine .a' 52 (.app (news:=[.int .i64 (Sk[i])]) T.el24 T.sz3 T.by3 T.zr3 ok.n3 (ok.n3.m1).sl (oneL rfl) (by have:=List.length_filter_le (ulK w.now w.sure) (Sk.take i);simp only [List.length_map,List.length_take,List.length_cons,List.length_nil] at this⊢;omega)) ?_;rintro _ η5 ⟨ya1,yn1,yc1,rfl,ok,ap⟩;refine .z .asS<|.nil ?_;refine .end<|hK1 _ _<|.r<|.z (.addI (b:=1))<|.z .mvI<|.nil ?_;refine .end<|hJ0 _ _ _ ⟨i+1,ya1,yn1,yc1,Fg1,ag1,⟨rfl,rfl,rfl,rfl,rfl,trivial⟩,ok.n5.n5.n5.n3.k4.tR.cx (by rw [filt_tk (by omega)];simp [hun,iv]),by omega,hsg1.trans hgi,rfl⟩ (by omega)
 have hun:ulK w.now w.sure Sk[i]=true:=by unfold ulK;rw [show (Sk[i]-1).toNat=w1 by omega,hnl,List.getElem?_eq_none (by omega)];rfl
 refine .skip<|.r<|.z .mvS<|.z .mvI<|.a' 51 (.lit [.tmp 50] (cs:=[.int .i64 (Sk[i])]) T.el24 T.sz3 T.zr3 ok ⟨rfl,trivial⟩) ?_;rintro _ η6 ⟨pb2,rfl,ok,xe⟩;refine .a' 52 (.app (news:=[.int .i64 (Sk[i])]) T.el24 T.sz3 T.by3 T.zr3 ok.n1 (ok.n1.m1).sl (oneL rfl) (by have:=List.length_filter_le (ulK w.now w.sure) (Sk.take i);simp only [List.length_map,List.length_take,List.length_cons,List.length_nil] at this⊢;omega)) ?_;rintro _ η7 ⟨ya2,yn2,yc2,rfl,ok,ap⟩;refine .z .asS<|.nil ?_;refine .end<|hK1 _ _<|.r<|.z (.addI (b:=1))<|.z .mvI<|.nil ?_;refine .end<|hJ0 _ _ _ ⟨i+1,ya2,yn2,yc2,pFi,gi,⟨rfl,rfl,rfl,rfl,rfl,trivial⟩,ok.n4.n4.n4.n3.k4.cx (by rw [filt_tk (by omega)];simp [hun,iv]),by omega,hgi,rfl⟩ (by omega)
@[reducible] def keepO (C:PgrC) (k n:Nat) (so:Nat) (r:RS (C.G k n).α) (k' n':Nat) (F:Nat→Prop) (a:(C.G k' n').α):List Itm:=[(C.G k' n').it r.p F a,sboxI (C.G k n) so r,nowI r.om r.ov]
theorem skeep_any {C:PgrC} {k n:Nat} {h:Heap} {so:Nat} {r:RS (C.G k n).α} {w:St} {E F2 E2:Nat→Prop} {Sk:List Int} {xa:Option Addr} {xc:Nat} (V:SVw (C.G k n) r w) (hin:w.in_=true) (hz:C.z=w.z) (hne:w.now≠[]) (hfit:w.now.length*(C.z+16)+28≤16777216) (hlm3:C.lim (k+1) (n+w.now.length)) (hnd:(r.ov.map (·.1)).Nodup) (hSp:Sk.Perm (r.ov.map (·.1))) (ok:Hp h (starI [(C.G k n).it r.p r.pF r.a,sboxI (C.G k n) so r,nowI r.om r.ov]).F [(C.G k n).it r.p r.pF r.a,sboxI (C.G k n) so r,nowI r.om r.ov] [rdI F2 E2 (xa,(Sk.filter (ulK w.now w.sure)).length,xc) (Sk.filter (ulK w.now w.sure)),pbsI E r.ov] h) :
  HC Tryz.prog 102 #[.pointer (some ⟨so,0,none⟩),.slice xa (Sk.filter (ulK w.now w.sure)).length xc] h (fun v h'=>v=.int .i64 0∧∃n' F' a',n'≤n+w.now.length∧(C.G (k+1) n').sure a'=w.now∧Hp h (starI [(C.G k n).it r.p r.pF r.a,sboxI (C.G k n) so r,nowI r.om r.ov]).F (keepO C k n so r (k+1) n' F' a') [] h'):=by
 unfold keepO;generalize (starI [(C.G k n).it r.p r.pF r.a,sboxI (C.G k n) so r,nowI r.om r.ov]).F=DF at ok⊢;have hzc:=V.zc;have hnf:=V.nowfew;have hv:=(V.now hin).2;have hmn:=V.many hin;have hsu:=V.sure;have hfs:=hv.ks hnd hSp;have hcl:(Sk.filter (ulK w.now w.sure)).length≤w.now.length:=ks_fit _ _ ((hSp.nodup_iff.2 hnd).filter _) (fun x hx=>by obtain ⟨i,h1,h2,_⟩:=hfs x (List.mem_filter.1 hx).1;omega);have hlm:C.lim (k+1) n:=C.limM (Nat.le_refl _) (by omega) hlm3;have hcm:=ok.r0.m;have hcc:=ok.r0.c;simp only at hcm hcc;obtain ⟨p,lg,z,in_,many,om,ov,sa,sc,svl,pF,ga⟩:=r;dsimp only at ok hv hmn hsu hfs hSp hnd⊢;rw [←hmn] at hfit;refine HC.go Tryz.func102 63 ?_;refine .seq<|?_;obtain ⟨mb,rfl⟩:=(V.now hin).1;have ok:=Hp.nowSome (ok.n2);refine .r<|.z .asI<|.nil ?_;refine .seq<|.seq<|.r<|.z .mvP<|.z .nil<|.z (.fa T.fd123_0)<|.z (.ldx T.ag116 ok.m2)<|.c' 14 (.inv (C.mBegin _ _ _)) (C.cBegin hlm (ok.n1).loc0) ?_;rintro _ η1 ⟨rfl,Fg1,bg1,hsg1,q⟩;have ok:=(ok.n1).lift1 q;refine .z .asI<|.nil ?_;refine .seq<|.r<|.z .mvI<|.z .neq<|.nil ?_;refine .cf<|.skip<|.seq<|.seq<|.t 11 mixed ?_;simp only [List.take_succ_cons,List.take_zero,List.drop_succ_cons,List.drop_zero];refine .z .mvP<|.z .nil<|.z (.fa T.fd123_0)<|.z (.ldx T.ag116 ok.m2)<|.z .mvP<|.z .nil<|.z (.fa T.fd123_4)<|.z (.fa T.fd120_0)<|.z (.ldx T.ag3 ok.m2)<|.z .nilIf<|.z .mvIf<|.nil ?_;refine .c' 29 (.inv (C.mResize _ _ _)) (C.cResize (k:=k) (n:=n) (m:=many) hfit (ok).loc0) ?_;rintro _ η2 ⟨rfl,Fg2,bg2,hsg2,q⟩;have ok:=(ok).lift1 q;refine .z .asI<|.nil ?_;refine .seq<|.r<|.z .mvI<|.z .neq<|.nil ?_;refine .cf<|.skip<|.seq<|.seq<|?_;have hon:OnW w.now ((C.T k n).sure bg2) (Sk.filter (ulK w.now w.sure)):=by rw [hsg2,hsg1,hsu];exact OnW.start hv hSp
 refine .r<|.z .mvS<|.z (.len T.el24)<|.z .mvI<|.nil ?_;refine .block fun K0 hK0=>.loop (fun m s hh=>∃(i:Nat) (pFi:Nat→Prop) (bi:(C.T k (n+i)).α),Has s [(0,.pointer (some ⟨so,0,none⟩)),(33,.slice xa ((Sk.filter (ulK w.now w.sure)).length) xc),(34,.int .i64 (((Sk.filter (ulK w.now w.sure)).length:Nat):Int)),(35,.int .i64 (i:Int))]∧Hp h DF [(C.T k (n+i)).it p pFi bi,boxI so 123 [.iface ((C.G k n).tid) (.pointer (some ⟨p,0,none⟩)),.pointer lg,.int .i64 (z:Int),.bool in_,.int .i64 (many:Int),.map (some mb),.slice sa svl.length sc,.bool false],mapI (Value.int .i64) mb (bsE ov)] [rdI F2 E2 (xa,(Sk.filter (ulK w.now w.sure)).length,xc) (Sk.filter (ulK w.now w.sure)),pbsI E ov] hh∧i≤(Sk.filter (ulK w.now w.sure)).length∧OnW w.now ((C.T k (n+i)).sure bi) ((Sk.filter (ulK w.now w.sure)).drop i)∧m=(Sk.filter (ulK w.now w.sure)).length-i) ?_ ?_
 ·exact ⟨_,0,Fg2,bg2,⟨rfl,rfl,rfl,rfl,trivial⟩,ok.n1.n2.n2,Nat.zero_le _,hon,rfl⟩
 rintro _ _ η3 ⟨i,pFi,bi,hs,ok,hi,hoi,rfl⟩ J0 hJ0;refine .frame hs fun τ=>?_;refine .seq<|.r<|.z .lss<|.nil ?_;refine .seq<|.cdr (fun C2=>?_) (fun C2=>?_)
 ·
  refine .exit<|hK0 _ _<|.seq<|?_;have hfin:(C.T k (n+i)).sure bi=w.now:=OnW.fin (by have h:=hoi;rwa [List.drop_of_length_le (by omega)] at h);have hpos:=List.length_pos_iff.2 hne;have hfl:((C.T k (n+i)).sure bi).length=w.now.length:=by rw [hfin]
  have hh0:hok (((C.T k (n+i)).sure bi).getD (1-1) []) C.z:=by rw [hfin,hz,List.getD_eq_getElem?_getD,←headD_get];exact V.ok.now.hd hne
  refine .r<|.z .mvP<|.z .nil<|.z (.fa T.fd123_0)<|.z (.ldx T.ag116 ok.m1)<|.c' 62 (.inv (C.mCommit _ _ _)) (C.cCommit (k:=k) (n:=(n+i)) (C.limM (Nat.le_refl _) (by omega) hlm3) (by omega) hh0 (by rw [hfl,←hmn];exact hfit) (ok).loc0) ?_;rintro _ η4 ⟨rfl,Fg3,ag3,hsg3,q⟩;have ok:=(ok).lift1 q;refine .z .asI<|.nil ?_;refine .ret ⟨.int .i64 0,Res.one rfl rfl,⟨rfl,_,Fg3,ag3,by omega,by rw [hsg3];exact hfin,(ok).k3.e0⟩⟩
 refine .skip<|.seq<|.block fun K1 hK1=>.seq<|?_;have hiS:i<(Sk.filter (ulK w.now w.sure)).length:=by omega
 have hel:=List.mem_filter.1 (List.getElem_mem hiS);obtain ⟨w1,hkw,hwn,x,hx,hnl⟩:=hfs _ hel.1;have hst:=OnW.step (by rw [List.drop_eq_getElem_cons hiS,hkw] at hoi;exact hoi) hnl;have hxl:x.l.length=C.z:=by rw [hz];exact V.ok.now.len _ (List.mem_of_getElem? hnl)
 have hpl:=hoi.1;have hlm2:C.lim (k+1) (n+i+1):=C.limM (Nat.le_refl _) (by omega) hlm3;have hkw2:(Sk.filter (ulK w.now w.sure))[i]=((w1+1:Nat):Int):=by omega
 rw [hkw2] at hx;refine .r<|?_;obtain ⟨bb1,oo1,rfl,fb1⟩:=ok.r0.pos (by omega);refine .z (.ix1 i T.el24 T.sz3)<|.z (.ld T.ag3 (ok.r0.i64 (i:=i) (by omega)))<|.z .asI<|.nil ?_;refine .seq<|?_;rw [hkw2];have ok:=ok.d1 (rdI E E (bsA ov ((w1+1:Nat):Int),bsN ov ((w1+1:Nat):Int),bsC ov ((w1+1:Nat):Int)) x.l) (Pbs.rd ok.r1 hx rfl) (fun _ h=>h.elim id id);obtain hbn:bsN ov ((w1+1:Nat):Int)=x.l.length:=ok.r0.n;rw [hbn] at ok;refine .t 14 mixed ?_;simp only [List.take_succ_cons,List.take_zero,List.drop_succ_cons,List.drop_zero];refine .z .mvP<|.z .nil<|.z (.fa T.fd123_0)<|.z (.ldx T.ag116 ok.m1)<|.z .mvI<|.z .mvP<|.z .nil<|.z (.fa T.fd123_4)<|.z (.fa T.fd120_1)<|.z (.ldx T.ag118 ok.m1)<|.z .mvI<|.z (.lk (KV.int .i64) ((w1+1:Nat):Int) (v:=.slice (bsA ov ((w1+1:Nat):Int)) x.l.length (bsC ov ((w1+1:Nat):Int))) T.mp118 (inB_iff T.in3) T.zr44 ok.m2 (by rw [←hbn];exact bs_get))<|.z .nilIf<|.z .mvIf<|.nil ?_;refine .c' 53 (.inv (C.mWrite _ _ _)) (C.cWrite (k:=k) (n:=(n+i)) (no:=(w1+1)) (l:=x.l) hlm2 (by omega) (by omega) hxl (ok).loc1) ?_;rintro _ η5 ⟨rfl,Fg4,bg4,hsg4,q⟩;have ok:=(ok).lift1 q;refine .z .asI<|.nil ?_;refine .seq<|.r<|.z .mvI<|.z .neq<|.nil ?_;refine .cf<|.skip<|.end<|hK1 _ _<|.r<|.z (.addI (b:=1))<|.z .mvI<|.nil ?_;refine .end<|hJ0 _ _ _ ⟨i+1,Fg4,bg4,⟨rfl,rfl,rfl,rfl,trivial⟩,ok.n2.n2.n2.tR,by omega,(show OnW w.now ((C.T k (n+i+1)).sure bg4) _ from by rw [hsg4];exact hst),rfl⟩ (by omega)
theorem sbox_tid {G G':Pgr} (ht:G.tid=G'.tid) {so p z many sc:Nat} {lg sa:Option Addr} {i:Bool} {om:Option Nat} {ov:List (Int × RB)} {sv:List RSv} {pF pF':Nat→Prop} {a:G.α} {a':G'.α} {h:Heap} (hb:(sboxI G so (⟨p,lg,z,i,many,om,ov,sa,sc,sv,pF,a⟩:RS G.α)).p h):(sboxI G' so (⟨p,lg,z,i,many,om,ov,sa,sc,sv,pF',a'⟩:RS G'.α)).p h:=by
 have h2:(boxI so 123 [.iface G.tid (pv p),.pointer lg,.int .i64 (z:Int),.bool i,.int .i64 (many:Int),.map om,.slice sa sv.length sc,.bool false]).p h:=hb;rw [ht] at h2;exact h2
theorem sCommit_any {C:PgrC} {k n:Nat} {h:Heap} {so:Nat} {F:Nat→Prop} {w:St} (hin:w.in_=true) (hz:C.z=w.z) (hne:w.now=[]→w.sure=[]) (hfit:w.now.length*(C.z+16)+28≤16777216) (hlm:C.lim (k+1) (n+w.now.length)) (ok:Hp h F [dsI (C.G k n) so F w] [] h) :
  HC Tryz.prog 47 #[.pointer (some ⟨so,0,none⟩)] h (fun v h'=>v=.int .i64 0∧∃F',Hp h F [dsI (C.G (k+1) (n+w.now.length)) so F' w.commit.1] [] h'):=by
 obtain ⟨r,E,V,ok,hf,he⟩:=ds_open ok;have hzc:=V.zc;have hnf:=V.nowfew;have hsu:(C.G k n).sure r.a=w.sure:=V.sure;obtain ⟨p,lg,z,in_,many,om,ov,sa,sc,svl,pF,ga⟩:=r;dsimp only at ok hf hsu;generalize stF (C.G k n) so _=DF at ok hf;obtain rfl:z=w.z:=V.z;obtain rfl:in_=w.in_:=V.in_;have hmn:many=w.now.length:=V.many hin;have hv:=(V.now hin).2;dsimp only at hv;have ok:Hp h DF [boxI so 123 [.iface ((C.G k n).tid) (.pointer (some ⟨p,0,none⟩)),.pointer lg,.int .i64 (w.z:Int),.bool w.in_,.int .i64 (many:Int),.map om,.slice sa svl.length sc,.bool false],nowI om ov,capI 2 120 (sa,svl.length,sc) (svl.flatMap RSv.cells),(C.G k n).it p pF ga] [pbsI E ov,svsI E svl] h:=ok;refine HC.go Tryz.func47 61 ?_;refine .seq<|.r<|.z .asI<|.nil ?_;refine .seq<|.seq<|.r<|.z .mvP<|.k 8 .func (swithin_any (G:=C.G k n) (r:=(⟨p,lg,w.z,w.in_,many,om,ov,sa,sc,svl,pF,ga⟩:RS (C.G k n).α)) (i:=w.in_) ok.m0 rfl)<|.z .asI<|.nil ?_;refine .seq<|.r<|.z .mvI<|.z .neq<|.nil ?_;refine .cd (fun C0=>?_) (fun C0=>?_)
 ·
  rw [hin] at C0;exact absurd rfl C0
 refine .skip<|.seq<|.r<|.z .mvP<|.c' 14 .func (sunlike_any (r:=(⟨p,lg,w.z,w.in_,many,om,ov,sa,sc,svl,pF,ga⟩:RS (C.G k n).α)) (E:=E) V hin ((Hp.locL [(C.G k n).it p pF ga,boxI so 123 [.iface ((C.G k n).tid) (.pointer (some ⟨p,0,none⟩)),.pointer lg,.int .i64 (w.z:Int),.bool w.in_,.int .i64 (many:Int),.map om,.slice sa svl.length sc,.bool false],nowI om ov] (ok.n1.n1.n3)).e1)) ?_;rintro _ η1 ⟨Sk,Fu1,au1,xu1,cu1,rfl,hsu1,hnd,hSp,q⟩;have ok:=Hp.liftL [(C.G k n).it p pF ga,boxI so 123 [.iface ((C.G k n).tid) (.pointer (some ⟨p,0,none⟩)),.pointer lg,.int .i64 (w.z:Int),.bool w.in_,.int .i64 (many:Int),.map om,.slice sa svl.length sc,.bool false],nowI om ov] (ok.n1.n1.n3) q;have hsg:(C.G k n).sure au1=w.sure:=hsu1;have ok:=ok.frzI (l:=(Sk.filter (ulK w.now w.sure))) rfl;refine .z .mvU<|.z .ex<|.z .ex<|.z .asS<|.z .asI<|.nil ?_;refine .seq<|.seq<|.r<|.z .mvI<|.z .neq<|.nil ?_;refine .cf<|.skip<|.seq<|.seq<|.a 16 (fun fl hh=>Hp h DF [(C.G k n).it p Fu1 au1,boxI so 123 [.iface ((C.G k n).tid) (.pointer (some ⟨p,0,none⟩)),.pointer lg,.int .i64 (w.z:Int),.bool w.in_,.int .i64 (many:Int),.map om,.slice sa svl.length sc,.bool false],nowI om ov,capI 2 120 (sa,svl.length,sc) (svl.flatMap RSv.cells)] [rdI (blkC (sv (xu1,(Sk.filter (ulK w.now w.sure)).length,cu1))) none_ (xu1,(Sk.filter (ulK w.now w.sure)).length,cu1) (Sk.filter (ulK w.now w.sure)),pbsI E ov,svsI E svl] hh) mixed ?_;have hS:=ok;refine .g 0 false rfl 22 hS (fun _=>.mvS)<|.g 1 false rfl 23 hS (fun _=>.len T.el24)<|.g 2 false rfl 24 hS (fun _=>.gtr)<|.g 3 false rfl 25 hS (fun _=>.mvB)<|.sd (fun G25=>?_) (fun G25=>?_)
 ·
  have hnn:w.now≠[]:=fun e0=>by
   obtain ⟨x,hx⟩:=List.exists_mem_of_length_pos (show 0<(Sk.filter (ulK w.now w.sure)).length by omega);obtain ⟨i,_,h2,_⟩:=hv.ks hnd hSp x (List.mem_filter.1 hx).1;rw [e0] at h2;cases h2
  refine .x 4 false rfl 26 hS<|.x 5 false rfl 27 hS<|.x 6 false rfl 28 hS<|.x 7 false rfl 29 hS<|.x 8 false rfl 30 hS<|.x 9 false rfl 31 hS<|.x 10 false rfl 32 hS<|.x 11 false rfl 33 hS<|.x 12 false rfl 34 hS<|.x 13 false rfl 35 hS<|.x 14 false rfl 36 hS<|.g 15 false rfl 37 hS (fun _=>.pkt)<|.e ?_;refine .ct<|.seq<|.r<|.z .mvP<|.z .mvS<|.c' 40 .func (skeep_any (C:=C) (r:=(⟨p,lg,w.z,w.in_,many,om,ov,sa,sc,svl,Fu1,au1⟩:RS (C.G k n).α)) (E:=E) (V.pg (F:=Fu1) (a:=au1) (hsg.trans hsu.symm)) hin hz hnn hfit hlm hnd hSp (Hp.locL [(C.G k n).it p Fu1 au1,boxI so 123 [.iface ((C.G k n).tid) (.pointer (some ⟨p,0,none⟩)),.pointer lg,.int .i64 (w.z:Int),.bool w.in_,.int .i64 (many:Int),.map om,.slice sa svl.length sc,.bool false],nowI om ov] (ok.f1.f1)).e2) ?_;rintro _ η2 ⟨rfl,nk1,Fk1,ak1,hnk1,hsk1,q⟩;have ok:=Hp.liftL [(C.G k n).it p Fu1 au1,boxI so 123 [.iface ((C.G k n).tid) (.pointer (some ⟨p,0,none⟩)),.pointer lg,.int .i64 (w.z:Int),.bool w.in_,.int .i64 (many:Int),.map om,.slice sa svl.length sc,.bool false],nowI om ov] (ok) q;obtain ⟨a2,ha2,hp2,hF2⟩:=C.up (Nat.le_refl (k+1)) hnk1 ok.m0;have ok:=ok.re _ hp2 hF2;have hfa:=ha2.trans hsk1;refine .z .asI<|.nil ?_;refine .seq<|.r<|.z .mvI<|.z .neq<|.nil ?_;refine .cf<|.skip<|.seq<|.r<|.z .mvP<|.c' 60 .func (send_any (G:=C.G k n) (r:=(⟨p,lg,w.z,w.in_,many,om,ov,sa,sc,svl,pF,ga⟩:RS (C.G k n).α)) (ok.n1).loc0) ?_;rintro _ η3 ⟨rfl,q⟩;have ok:=(ok.n1).lift1 q;have ok:=(ok.nowNil (bs:=[])).nilC (k:=2) (e:=120);have ok:=Hp.pbsNil (ok.f1);have ok:=Hp.svsNil (ok.f2);refine .nil ?_;refine .seq<|.r<|.z .asI<|.nil ?_;have ok:=ok.n3.n1.n2.n3;have ok:=ok.re (sboxI (C.G (k+1) (n+w.now.length)) so (⟨p,lg,w.z,false,0,none,[],none,0,[],Fk1,a2⟩:RS (C.G (k+1) (n+w.now.length)).α)) (sbox_tid (C.tid k n (k+1) (n+w.now.length)) ok.m0) (fun _ h=>h);refine .ret ⟨.int .i64 0,Res.one rfl rfl,⟨rfl,_,by rw [St.commit_0 hin];exact ds_close (r':=(⟨p,lg,w.z,false,0,none,[],none,0,[],Fk1,a2⟩:RS (C.G (k+1) (n+w.now.length)).α)) (E':=E) (ok.k4.f1) hf (fun j hj=>.inl (he j hj)) (V.commit hin (pF:=Fk1) hfa)⟩⟩
 refine .g 4 false rfl 26 hS (fun _=>.mvP)<|.g 5 false rfl 27 hS (fun _=>.nil)<|.g 6 false rfl 28 hS (fun _=>.fa T.fd123_4)<|.g 7 false rfl 29 hS (fun _=>.fa T.fd120_0)<|.lw 8 false rfl 30 hS (fun _ _ hS=>.ldx T.ag3 hS.m1)<|.g 9 false rfl 31 hS (fun _=>.mvP)<|.g 10 false rfl 32 hS (fun _=>.nil)<|.g 11 false rfl 33 hS (fun _=>.fa T.fd123_0)<|.lw 12 false rfl 34 hS (fun _ _ hS=>.ldx T.ag116 hS.m1)<|.o1 13<|.k false rfl 35 (.inv ((C.G k n).mPages _)) ((C.G k n).cPages (F:=Fu1) (a:=au1) ok.m0) hS<|.g 14 false rfl 36 hS (fun _=>.neq)<|.g 15 false rfl 37 hS (fun _=>.pkf)<|.e ?_;refine .cd (fun C2=>?_) (fun C2=>?_)
 ·
  have hnn:w.now≠[]:=fun e0=>by
   have h2:=hne e0;rw [hsg,h2,hmn,e0] at C2;exact C2 rfl
  refine .seq<|.r<|.z .mvP<|.z .mvS<|.c' 40 .func (skeep_any (C:=C) (r:=(⟨p,lg,w.z,w.in_,many,om,ov,sa,sc,svl,Fu1,au1⟩:RS (C.G k n).α)) (E:=E) (V.pg (F:=Fu1) (a:=au1) (hsg.trans hsu.symm)) hin hz hnn hfit hlm hnd hSp (Hp.locL [(C.G k n).it p Fu1 au1,boxI so 123 [.iface ((C.G k n).tid) (.pointer (some ⟨p,0,none⟩)),.pointer lg,.int .i64 (w.z:Int),.bool w.in_,.int .i64 (many:Int),.map om,.slice sa svl.length sc,.bool false],nowI om ov] (ok.f1.f1)).e2) ?_;rintro _ η4 ⟨rfl,nk2,Fk2,ak2,hnk2,hsk2,q⟩;have ok:=Hp.liftL [(C.G k n).it p Fu1 au1,boxI so 123 [.iface ((C.G k n).tid) (.pointer (some ⟨p,0,none⟩)),.pointer lg,.int .i64 (w.z:Int),.bool w.in_,.int .i64 (many:Int),.map om,.slice sa svl.length sc,.bool false],nowI om ov] (ok) q;obtain ⟨a2,ha2,hp2,hF2⟩:=C.up (Nat.le_refl (k+1)) hnk2 ok.m0;have ok:=ok.re _ hp2 hF2;have hfa:=ha2.trans hsk2;refine .z .asI<|.nil ?_;refine .seq<|.r<|.z .mvI<|.z .neq<|.nil ?_;refine .cf<|.skip<|.seq<|.r<|.z .mvP<|.c' 60 .func (send_any (G:=C.G k n) (r:=(⟨p,lg,w.z,w.in_,many,om,ov,sa,sc,svl,pF,ga⟩:RS (C.G k n).α)) (ok.n1).loc0) ?_;rintro _ η5 ⟨rfl,q⟩;have ok:=(ok.n1).lift1 q;have ok:=(ok.nowNil (bs:=[])).nilC (k:=2) (e:=120);have ok:=Hp.pbsNil (ok.f1);have ok:=Hp.svsNil (ok.f2);refine .nil ?_;refine .seq<|.r<|.z .asI<|.nil ?_;have ok:=ok.n3.n1.n2.n3;have ok:=ok.re (sboxI (C.G (k+1) (n+w.now.length)) so (⟨p,lg,w.z,false,0,none,[],none,0,[],Fk2,a2⟩:RS (C.G (k+1) (n+w.now.length)).α)) (sbox_tid (C.tid k n (k+1) (n+w.now.length)) ok.m0) (fun _ h=>h);refine .ret ⟨.int .i64 0,Res.one rfl rfl,⟨rfl,_,by rw [St.commit_0 hin];exact ds_close (r':=(⟨p,lg,w.z,false,0,none,[],none,0,[],Fk2,a2⟩:RS (C.G (k+1) (n+w.now.length)).α)) (E':=E) (ok.k4.f1) hf (fun j hj=>.inl (he j hj)) (V.commit hin (pF:=Fk2) hfa)⟩⟩
 have hsame:w.now=w.sure:=hv.same hSp (List.eq_nil_of_length_eq_zero (by omega)) (by rw [←hsg];omega);refine .skip<|.seq<|.r<|.z .mvP<|.c' 60 .func (send_any (G:=C.G k n) (r:=(⟨p,lg,w.z,w.in_,many,om,ov,sa,sc,svl,pF,ga⟩:RS (C.G k n).α)) (ok.n1).loc0) ?_;rintro _ η6 ⟨rfl,q⟩;have ok:=(ok.n1).lift1 q;have ok:=(ok.nowNil (bs:=[])).nilC (k:=2) (e:=120);have ok:=Hp.pbsNil (ok.f1);have ok:=Hp.svsNil (ok.f2);refine .nil ?_;refine .seq<|.r<|.z .asI<|.nil ?_;have ok:=ok.n3;obtain ⟨a2,ha2,hp2,hF2⟩:=C.up (k':=k+1) (n':=n+w.now.length) (Nat.le_succ k) (Nat.le_add_right n w.now.length) ok.m0;have ok:=ok.re _ hp2 hF2;have hfa:=(ha2.trans hsg).trans hsame.symm;have ok:=ok.n1.n2.n3;have ok:=ok.re (sboxI (C.G (k+1) (n+w.now.length)) so (⟨p,lg,w.z,false,0,none,[],none,0,[],Fu1,a2⟩:RS (C.G (k+1) (n+w.now.length)).α)) (sbox_tid (C.tid k n (k+1) (n+w.now.length)) ok.m0) (fun _ h=>h);refine .ret ⟨.int .i64 0,Res.one rfl rfl,⟨rfl,_,by rw [St.commit_0 hin];exact ds_close (r':=(⟨p,lg,w.z,false,0,none,[],none,0,[],Fu1,a2⟩:RS (C.G (k+1) (n+w.now.length)).α)) (E':=E) (ok.k4.f1) hf (fun j hj=>.inl (he j hj)) (V.commit hin (pF:=Fu1) hfa)⟩⟩
theorem hbopenK_any {h:Heap} {d z:Nat} {room:Int} {F:Nat→Prop} (ok:Hp h F [dgI d F newN] [] h) (hz:okSz z=true) (hr:1≤room∧room≤1024) :
  HC Tryz.prog 88 #[.pointer (some ⟨d,0,none⟩),.int .i64 (z:Int),.int .i64 room] h (fun v h'=>∃p,v=.tuple #[.pointer (some ⟨p,0,none⟩),.int .i64 0]∧∃a,(hbG z 0 0).sure a=[]∧Hp h F [(hbG z 0 0).it p none_ a] [] h'):=
 (hbopen_any ok hz hr).mono fun v h' ⟨p,c,Fd,Fc,k,hv,q⟩=>⟨p,hv,⟨newH d c z,Fd,Fc,room,[],[],k,rfl,rfl,by show (0:Int)≤_;omega,by show (0:Int)<_;decide⟩,rfl,Hp.star (l:=[hboxI p (newH d c z),kepI none [],dgI d Fd newN,cacL c Fc room []]) (M:=[]) q⟩
theorem sopnK_any {h:Heap} {d z:Nat} {room:Int} {F:Nat→Prop} (ok:Hp h F [dgI d F newN] [] h) (hz:okSz z=true) (hr:1≤room∧room≤1024) :
  HC Tryz.prog 36 #[.pointer (some ⟨d,0,none⟩),.agg #[.int .i64 (z:Int),.bool false,.int .i64 room]] h (fun v h'=>∃s,v=.tuple #[.pointer (some ⟨s,0,none⟩),.int .i64 0]∧∃F',Hp h F [dsI ((hbC z).G 0 0) s F' (newS z)] [] h'):=by
 have hzc:=okSz_c hz;have hpw:=(and_pow z (by omega) (by omega)).2 (by omega);refine HC.go Tryz.func36 80 ?_;refine .seq<|.r<|.a' 3 (.bxA (cs:=[.int .i64 (z:Int),.bool false,.int .i64 room]) ok) ?_;rintro _ η1 ⟨pb1,rfl,ok,xe⟩;refine .z .asP<|.z .asI<|.nil ?_;refine .seq<|.block fun K0 hK0=>.seq<|.r<|.z .mvP<|.z (.pEqS T.pt63)<|.z .asB<|.nil ?_;refine .cf<|.seq<|.r<|.z (.fa T.fd23_0)<|.z (.ldx T.ag3 ok.m0)<|.z .lss<|.z .mvB<|.sd (fun G17=>?_) (fun G17=>?_)
 ·
  omega
 refine .z (.fa T.fd23_0)<|.z (.ldx T.ag3 ok.m0)<|.z .gtr<|.z .pkf<|.z .mvB<|.sd (fun G22=>?_) (fun G22=>?_)
 ·
  omega
 refine .z (.fa T.fd23_0)<|.z (.ldx T.ag3 ok.m0)<|.z (.fa T.fd23_0)<|.z (.ldx T.ag3 ok.m0)<|.z .sub<|.z (.bandI z (z-1))<|.z .neq<|.z .pkf<|.z .mvB<|.sd (fun G31=>?_) (fun G31=>?_)
 ·
  omega
 refine .z (.fa T.fd23_2)<|.z (.ldx T.ag3 ok.m0)<|.z .lss<|.z .pkf<|.z .mvB<|.sd (fun G36=>?_) (fun G36=>?_)
 ·
  omega
 refine .z (.fa T.fd23_2)<|.z (.ldx T.ag3 ok.m0)<|.z .gtr<|.z .pkf<|.z .asB<|.nil ?_;refine .cd (fun C1=>?_) (fun C1=>?_)
 ·
  omega
 refine .skip<|.end<|hK0 _ _<|.seq<|.seq<|.r<|.z (.fa T.fd23_1)<|.z (.ldx T.ag4 ok.m0)<|.nil ?_;refine .cf<|.skip<|.seq<|.r<|.z .mvP<|.z (.fa T.fd23_0)<|.z (.ldx T.ag3 ok.m0)<|.z (.fa T.fd23_2)<|.z (.ldx T.ag3 ok.m0)<|.c' 68 .func (hbopenK_any (ok.n1).loc0 hz hr) ?_;rintro _ η2 ⟨pp,rfl,aa,haa,q⟩;have ok:=(ok.n1).lift1 q;refine .z .mvU<|.z .ex<|.z .ex<|.z .asP<|.z .asI<|.nil ?_;refine .seq<|.seq<|.r<|.z .mvI<|.z .neq<|.nil ?_;refine .cf<|.skip<|.seq<|.r<|.z .mvP<|.z (.mkI (by kernel_rfl))<|.z (.fa T.fd23_0)<|.z (.ldx T.ag3 ok.m1)<|.z (.bd #[.iface (140) (.pointer (some ⟨pp,0,none⟩)),.pointer none,.int .i64 (z:Int),.bool false,.int .i64 0,.map none,.slice none 0 0,.bool false] T.zr123 T.pl123 rfl)<|.a' 79 (.bxA (cs:=[.iface (140) (.pointer (some ⟨pp,0,none⟩)),.pointer none,.int .i64 (z:Int),.bool false,.int .i64 0,.map none,.slice none 0 0,.bool false]) ok) ?_;rintro _ η3 ⟨pb2,rfl,ok,xe⟩;refine .z .asP<|.z .asI<|.nil ?_;refine .ret ⟨.tuple #[.pointer (some ⟨pb2,0,none⟩),.int .i64 0],Res.two rfl rfl rfl,⟨pb2,rfl,ds_new (G:=hbG z 0 0) (a:=aa) (pF:=none_) haa hz (ok).k2⟩⟩
theorem haopenK_any {h:Heap} {d z:Nat} {room:Int} {F:Nat→Prop} (ok:Hp h F [dgI d F newN] [] h) (hz:okSz z=true) (hr:1≤room∧room≤1024) :
  HC Tryz.prog 87 #[.pointer (some ⟨d,0,none⟩),.int .i64 (z:Int),.int .i64 room] h (fun v h'=>∃p,v=.tuple #[.pointer (some ⟨p,0,none⟩),.int .i64 0]∧∃a,(haG z 0 0).sure a=[]∧Hp h F [(haG z 0 0).it p none_ a] [] h'):=
 (haopen_any ok hz hr).mono fun v h' ⟨p,c,am,D',Fd,cF,k,hc,hv,q⟩=>⟨p,hv,⟨newA d c am z D',Fd,cF,[],k,rfl,rfl,by have:D'.chg≤0+4:=hc;show D'.chg≤_;omega,by have:D'.chg≤0+4:=hc;show D'.chg≤_;omega⟩,rfl,Hp.star (l:=haL p (newA d c am z D') Fd cF (fun i=>([]:List (List UInt8))[i]?)) (M:=[]) (by rw [List.append_nil];exact q)⟩
theorem sopnKA_any {h:Heap} {d z:Nat} {room:Int} {F:Nat→Prop} (ok:Hp h F [dgI d F newN] [] h) (hz:okSz z=true) (hr:1≤room∧room≤1024) :
  HC Tryz.prog 36 #[.pointer (some ⟨d,0,none⟩),.agg #[.int .i64 (z:Int),.bool true,.int .i64 room]] h (fun v h'=>∃s,v=.tuple #[.pointer (some ⟨s,0,none⟩),.int .i64 0]∧∃F',Hp h F [dsI ((haC z).G 0 0) s F' (newS z)] [] h'):=by
 have hzc:=okSz_c hz;have hpw:=(and_pow z (by omega) (by omega)).2 (by omega);refine HC.go Tryz.func36 80 ?_;refine .seq<|.r<|.a' 3 (.bxA (cs:=[.int .i64 (z:Int),.bool true,.int .i64 room]) ok) ?_;rintro _ η1 ⟨pb1,rfl,ok,xe⟩;refine .z .asP<|.z .asI<|.nil ?_;refine .seq<|.block fun K0 hK0=>.seq<|.r<|.z .mvP<|.z (.pEqS T.pt63)<|.z .asB<|.nil ?_;refine .cf<|.seq<|.r<|.z (.fa T.fd23_0)<|.z (.ldx T.ag3 ok.m0)<|.z .lss<|.z .mvB<|.sd (fun G17=>?_) (fun G17=>?_)
 ·
  omega
 refine .z (.fa T.fd23_0)<|.z (.ldx T.ag3 ok.m0)<|.z .gtr<|.z .pkf<|.z .mvB<|.sd (fun G22=>?_) (fun G22=>?_)
 ·
  omega
 refine .z (.fa T.fd23_0)<|.z (.ldx T.ag3 ok.m0)<|.z (.fa T.fd23_0)<|.z (.ldx T.ag3 ok.m0)<|.z .sub<|.z (.bandI z (z-1))<|.z .neq<|.z .pkf<|.z .mvB<|.sd (fun G31=>?_) (fun G31=>?_)
 ·
  omega
 refine .z (.fa T.fd23_2)<|.z (.ldx T.ag3 ok.m0)<|.z .lss<|.z .pkf<|.z .mvB<|.sd (fun G36=>?_) (fun G36=>?_)
 ·
  omega
 refine .z (.fa T.fd23_2)<|.z (.ldx T.ag3 ok.m0)<|.z .gtr<|.z .pkf<|.z .asB<|.nil ?_;refine .cd (fun C1=>?_) (fun C1=>?_)
 ·
  omega
 refine .skip<|.end<|hK0 _ _<|.seq<|.seq<|.r<|.z (.fa T.fd23_1)<|.z (.ldx T.ag4 ok.m0)<|.nil ?_;refine .ct<|.seq<|.r<|.z .mvP<|.z (.fa T.fd23_0)<|.z (.ldx T.ag3 ok.m0)<|.z (.fa T.fd23_2)<|.z (.ldx T.ag3 ok.m0)<|.c' 49 .func (haopenK_any (ok.n1).loc0 hz hr) ?_;rintro _ η2 ⟨pp,rfl,aa,haa,q⟩;have ok:=(ok.n1).lift1 q;refine .z .mvU<|.z .ex<|.z .ex<|.z .asP<|.z .asI<|.nil ?_;refine .seq<|.seq<|.r<|.z .mvI<|.z .neq<|.nil ?_;refine .cf<|.skip<|.seq<|.r<|.z .mvP<|.z (.mkI (by kernel_rfl))<|.z .mvP<|.z (.fa T.fd23_0)<|.z (.ldx T.ag3 ok.m1)<|.z (.bd #[.iface (117) (.pointer (some ⟨pp,0,none⟩)),.pointer (some ⟨pp,0,none⟩),.int .i64 (z:Int),.bool false,.int .i64 0,.map none,.slice none 0 0,.bool false] T.zr123 T.pl123 rfl)<|.a' 61 (.bxA (cs:=[.iface (117) (.pointer (some ⟨pp,0,none⟩)),.pointer (some ⟨pp,0,none⟩),.int .i64 (z:Int),.bool false,.int .i64 0,.map none,.slice none 0 0,.bool false]) ok) ?_;rintro _ η3 ⟨pb2,rfl,ok,xe⟩;refine .z .asP<|.z .asI<|.nil ?_;refine .ret ⟨.tuple #[.pointer (some ⟨pb2,0,none⟩),.int .i64 0],Res.two rfl rfl rfl,⟨pb2,rfl,ds_new (G:=haG z 0 0) (a:=aa) (pF:=none_) haa hz (ok).k2⟩⟩
def hK:Bool→Nat→PgrC
 | true,z=>haC z
 | false,z=>hbC z
theorem sopnH_any {h:Heap} {d z:Nat} {ah:Bool} {room:Int} {F:Nat→Prop} (ok:Hp h F [dgI d F newN] [] h) (hz:okSz z=true) (hr:1≤room∧room≤1024) :
  HC Tryz.prog 36 #[.pointer (some ⟨d,0,none⟩),.agg #[.int .i64 (z:Int),.bool ah,.int .i64 room]] h (fun v h'=>∃s,v=.tuple #[.pointer (some ⟨s,0,none⟩),.int .i64 0]∧∃F',Hp h F [dsI ((hK ah z).G 0 0) s F' (newS z)] [] h'):=by
 cases ah
 ·exact sopnK_any ok hz hr
 ·exact sopnKA_any ok hz hr
def lv1 (s:Nat):List (List UInt8):=[pg1 256 (hd1 256),pageG 256 s]
def lvS (s:Nat) (sv:List (List (List UInt8))):St:=⟨256,[],true,lv1 s,sv⟩
def lvC:St:=⟨256,lv1 7,false,[],[]⟩
theorem lv_w {s:Nat} {l:List (List UInt8)} {sv:List (List (List UInt8))} (hl:l=[pg1 256 (hd1 256)]∨∃t,l=lv1 t):St.write ⟨256,[],true,l,sv⟩ 2 (pageG 256 s)=(lvS s sv,0):=by
 have hn:l≠[]∧1≤l.length:=by rcases hl with rfl | ⟨t,rfl⟩<;>exact ⟨by simp [lv1],by simp [lv1]⟩
 have e:=St.write_0 (w:=⟨256,[],true,l,sv⟩) (no:=2) (b:=pageG 256 s) rfl (by rintro (h | h | h | h);omega;(have:=hn.2;dsimp only at h;omega);exact hn.1 h;exact h pageG_len) (by dsimp only;rintro (h | h)<;>omega);refine e.trans ?_;rcases hl with rfl | ⟨t,rfl⟩<;>rfl
theorem live15_any {h:Heap} :
  HC Tryz.prog 37 #[] h (fun v h'=>v=.bool true∧Ext h h'):=by
 have ok:=Hp.nil h none_;refine HC.go Tryz.func37 75 ?_;refine .seq<|.r<|.z .asB<|.nil ?_;refine .seq<|.r<|.c' 5 .func dgnew_any ?_;rintro _ η1 ⟨dnd1,Fnd1,rfl,q⟩;have ok:=Hp.addM15 ok q;refine .z (.bd #[.int .i64 256,.bool false,.int .i64 4] T.zr23 T.pl23 rfl)<|.c' 7 .func (sopnK_any (z:=256) (room:=4) (ok).loc0 (by decide) (by decide)) ?_;rintro _ η2 ⟨so,rfl,Fo1,q⟩;have ok:=(ok).lift1 q;refine .z .mvU<|.z .ex<|.z .ex<|.z .asP<|.z .asI<|.nil ?_;refine .seq<|.seq<|.r<|.z .mvI<|.z .neq<|.z .mvB<|.z .mvP<|.c' 14 .func (ansE (ci:=0) (sBegin_any (G:=((hbC 256).G 0 0)) (w:=(newS 256)) (ok).loc0) op_begin rfl) ?_;rintro _ η3 ⟨Fb1,rfl,q⟩;have ok:=(ok).lift1 q;refine .z .neq<|.z .pkf<|.z .mvB<|.z .mvP<|.z (.bd #[.int .i64 256,.int .i64 1,.int .i64 0,.int .i64 0,.int .i64 0,.int .i64 0] T.zr38 T.pl38 rfl)<|.c' 20 .func (ansE (ci:=0) (sSetHead_any (G:=((hbC 256).G 0 0)) (w:=(opB 256)) (H:=(⟨256,1,0,0,0,0⟩:Hd)) (ok).loc0 (hd1_in (z:=256) (by decide))) (op_head (z:=256) (by decide)) rfl) ?_;rintro _ η4 ⟨Fs1,rfl,q⟩;have ok:=(ok).lift1 q;refine .z .neq<|.z .pkf<|.z .mvB<|.z .mvP<|.c' 25 .func (page15_any (z:=256) (seed:=7) (by omega) (by omega)) ?_;rintro _ η5 own;obtain ⟨ya1,yc1,rfl⟩:=own.formB;have ok:=ok.own own;refine .c' 26 .func (ansE (ci:=0) (sWriteC_any (G:=((hbC 256).G 0 0)) (w:=(opV 256 0)) (no:=2) (l:=(pageG 256 7)) (ok.n1) (by rw [pageG_len];omega)) (lv_w (.inl rfl)) rfl) ?_;rintro _ η6 ⟨Fk1,rfl,q⟩;have ok:=(ok.n1).lift1 q;refine .z .neq<|.z .pkf<|.z .mvB<|.z .mvP<|.c' 31 .func (ansE (ci:=0) (sSave_any (G:=((hbC 256).G 0 0)) (w:=(lvS 7 [])) (ok).loc0) rfl rfl) ?_;rintro _ η7 ⟨Fb2,rfl,q⟩;have ok:=(ok).lift1 q;refine .z .neq<|.z .pkf<|.z .mvB<|.z .mvP<|.c' 36 .func (page15_any (z:=256) (seed:=8) (by omega) (by omega)) ?_;rintro _ η8 own;obtain ⟨ya2,yc2,rfl⟩:=own.formB;have ok:=ok.own own;refine .c' 37 .func (ansE (ci:=0) (sWriteC_any (G:=((hbC 256).G 0 0)) (w:=(lvS 7 [lv1 7])) (no:=2) (l:=(pageG 256 8)) (ok.n1) (by rw [pageG_len];omega)) (lv_w (.inr ⟨7,rfl⟩)) rfl) ?_;rintro _ η9 ⟨Fk2,rfl,q⟩;have ok:=(ok.n1).lift1 q;refine .z .neq<|.z .pkf<|.z .mvB<|.z .mvP<|.c' 42 .func (ansE (ci:=0) (sBack_any (G:=((hbC 256).G 0 0)) (w:=(lvS 8 [lv1 7])) (n:=0) (ok).loc0) rfl rfl) ?_;rintro _ η10 ⟨Fb3,rfl,q⟩;have ok:=(ok).lift1 q;refine .z .neq<|.z .pkf<|.z .mvB<|.z .mvP<|.c' 47 .func (sCommit_any (C:=hbC 256) (k:=0) (n:=0) (w:=(lvS 7 [lv1 7])) rfl rfl (fun h=>by cases h) (by decide) (show hbLim _ _ from ⟨by decide,by decide⟩) (ok).loc0) ?_;rintro _ η11 ⟨rfl,Fc1,q⟩;have ok:=(ok).lift1 q;rw [show (lvS 7 [lv1 7]).commit.1=lvC from by rw [show St.commit (lvS 7 [lv1 7])=(lvC,0) from rfl]] at ok;refine .z .neq<|.z .pkf<|.nil ?_;refine .cf<|.skip<|.seq<|.r<|.z .mvP<|.c' 52 .func (sReadOk_any (G:=((hbC 256).G (0+1) (0+(lvS 7 [lv1 7]).now.length))) (w:=lvC) (no:=2) (b:=(pageG 256 7)) (ok).loc0 (by decide) (by decide) (by rfl)) ?_;rintro _ η12 ⟨Fr1,xr1,cr1,rfl,hlr1,q⟩;have ok:=(ok).lift2 q;refine .z .mvU<|.z .ex<|.z .ex<|.z .asS<|.z .asI<|.nil ?_;refine .seq<|?_;have ok:=(ok).frzB (l:=(pageG 256 7)) rfl;have hcr:=ok.r0.c;simp only at hcr;refine .a 21 (fun fl hh=>Hp h none_ [capI 1 5 (ya2,(pageG 256 8).length,yc2) ((pageG 256 8).map bv),capI 1 5 (ya1,(pageG 256 7).length,yc1) ((pageG 256 7).map bv)] [rdI (blkC (sv (xr1,(pageG 256 7).length,cr1))) none_ (xr1,(pageG 256 7).length,cr1) (pageG 256 7)] hh) mixed ?_;have hS:=ok.n2.n2.k2;refine .g 0 false rfl 55 hS (fun _=>.mvI)<|.g 1 false rfl 56 hS (fun _=>.eql)<|.g 2 false rfl 57 hS (fun _=>.mvB)<|.g 3 false rfl 58 hS (fun _=>.mvS)<|.lw 4 false rfl 59 hS (fun _ _ hS=>.bts T.el44 T.in5 T.st9 (hS.r0).by)<|.o1 5<|.c' false rfl 60 .func (page15_any (z:=256) (seed:=7) (by omega) (by omega)) ?_;rintro _ η13 own;obtain ⟨ya3,yc3,rfl⟩:=own.formB;have ok:=ok.own own;refine ⟨ok.n3.n3.k2,?_⟩;have hS:=ok.n3.n3.k2;refine .str (fun _ hh=>Hp h none_ [capI 1 5 (ya3,(pageG 256 7).length,yc3) ((pageG 256 7).map bv),capI 1 5 (ya2,(pageG 256 8).length,yc2) ((pageG 256 8).map bv),capI 1 5 (ya1,(pageG 256 7).length,yc1) ((pageG 256 7).map bv)] [rdI (blkC (sv (xr1,(pageG 256 7).length,cr1))) none_ (xr1,(pageG 256 7).length,cr1) (pageG 256 7)] hh) (fun _ _ h=>h.tM) ?_;have hS:=ok.n3.n3.n2.k3;refine .lw 6 false rfl 61 hS (fun _ _ hS=>.bts T.el44 T.in5 T.st9 (hS.m0).sl)<|.g 7 false rfl 62 hS (fun _=>.tEqB)<|.g 8 false rfl 63 hS (fun _=>.pkt)<|.g 9 false rfl 64 hS (fun _=>.mvB)<|.sd (fun G64=>?_) (fun G64=>?_)
 ·
  refine .g 10 false rfl 65 hS (fun _=>.mvP)<|.o1 11<|.c' false rfl 66 .func (sHead_any (G:=((hbC 256).G (0+1) (0+(lvS 7 [lv1 7]).now.length))) (w:=lvC) (ok.n1).loc0) ?_;rintro _ η14 ⟨Fh1,rfl,q⟩;have ok:=(ok.n1).lift1 q;rw [show lvC.head.val=.agg #[.int .i64 lvC.head.size,.int .i64 (lvC.pgs.length:Int),.int .i64 lvC.head.free,.int .i64 lvC.head.many,.int .i64 lvC.head.cookie,.int .i64 lvC.head.version] from (by rw [←St.head_pages];rfl)];refine ⟨ok.n3.n3.n3.k3,?_⟩;have hS:=ok.n3.n3.n3.k3;refine .g 12 false rfl 67 hS (fun _=>.fd T.fd38_1 T.ag3)<|.g 13 false rfl 68 hS (fun _=>.eql)<|.g 14 false rfl 69 hS (fun _=>.pkt)<|.g 15 false rfl 70 hS (fun _=>.mvB)<|.sd (fun G70=>?_) (fun G70=>?_)
  ·
   refine .g 16 false rfl 71 hS (fun _=>.mvP)<|.o1 17<|.k false rfl 72 .func (sIn_any (G:=((hbC 256).G (0+1) (0+(lvS 7 [lv1 7]).now.length))) (F:=Fh1) (w:=lvC) ok.m0) hS<|.g 18 false rfl 73 hS (fun _=>.not)<|.g 19 false rfl 74 hS (fun _=>.pkt)<|.g 20 false rfl 0 hS (fun _=>.asB)<|.e ?_;refine .ret ⟨.bool (!lvC.in_),Res.one rfl rfl,⟨rfl,ok.chg⟩⟩
  exact absurd (show ((St.pgs lvC).length:Int)=2 from rfl) G70
 exact absurd rfl G64
end Go.Proofs.YtndlpekckpdncaaGreat
namespace Go.HL
open Go Go.RowKit Go.ChangeShapes Go.WideShapes Go.ChangeAt
theorem Below.of {w w':World} {h':Heap} (a:At (Env.of w) h' w') (x:Ext w.heap h'):Below w.heap.size w w':=
 ⟨a.os,a.tape,a.output,by rw [a.heap];exact x.size,fun k hk=>by rw [a.heap];exact x.same k hk fun f=>f⟩
theorem trodAll_below {H:Type} {enc:TypeId × Value→H} {P:Program} (hl:laidOutB P=true) {W W':World} (hb:Below W.heap.size W W'):∀ {ts:List TypeId} {vs:List Value} {ds:List (DataW H)} {ps:List MemPlace},
  (ts.all fun t=>P.readableRec t && decide (t<P.types.size))=true→(∀x∈ps,x.block<W.heap.size)→DataW.TrodAll enc P W 0 (fun _=>true) true ts vs ds ps→DataW.TrodAll enc P W' 0 (fun b=>decide (b<W.heap.size)) true ts vs ds ps
 | [],[],[],_,_,_,h=>h
 | t::ts,v::vs,d::ds,ps,ht,hp,h=>by
  obtain ⟨p,q,h1,h2,rfl⟩:=h;simp only [List.all_cons,Bool.and_eq_true,decide_eq_true_eq] at ht;exact ⟨p,q,RowKit.Below.trod hl ht.1.1 ht.1.2 h1 hb (fun x hx=>hp x (List.mem_append_left _ hx)),trodAll_below hl hb (by simpa using ht.2) (fun x hx=>hp x (List.mem_append_right _ hx)) h2,rfl⟩
 | [],[],_::_,_,_,_,h=>h.elim
 | [],_::_,_,_,_,_,h=>h.elim
 | _::_,[],_,_,_,_,h=>h.elim
 | _::_,_::_,[],_,_,_,h=>h.elim
theorem law_post {H:Type} {enc:TypeId × Value→H} {P:Program} {f:Func} {s:ChangeSpec} {fresh handsOn:Bool} {W W':World} {args:Array Value} {ds gs:List (DataW H)} {before:List MemPlace} {tb:TypeId}
  (hl:laidOutB P=true) (hW:DataW.Whole enc P f.params.toList s.vars false W args.toList ds gs before) (hv:s.vars=[]) (ht:(f.params.toList.all fun t=>P.readableRec t && decide (t<P.types.size))=true)
  (hr:f.resultTypes = #[tb]) (hb:P.underlying tb=some .bool) (hs:s.fn H ds = { results:=[.lit (.bool true)],args:=ds }) {h':Heap} (a:At (Env.of W) h' W') (x:Ext W.heap h') :
  s.post enc P f false fresh handsOn false W args (.bool true) W':=by
 have bel:=Below.of a x;have hlt:=hW.lt;obtain ⟨p,q,hA,hV,rfl,hfz,hnd⟩:=hW;rw [hv] at hV;cases gs with
 | cons g gs=>exact hV.elim
 | nil=>
  have hq:q=[]:=hV;subst hq;rw [List.append_nil] at *;refine ⟨ds,[],p,[],p,[],⟨p,[],hA,by rw [hv];rfl,by simp,hfz,hnd⟩,?_,?_,?_,bel.frame _,fun h=>by cases h⟩
  ·rw [List.append_nil,hs,hr];exact trodAll_mk1 (shut_bool hb _)
  ·rw [List.append_nil,hs];exact trodAll_below hl bel ht (fun x hx=>hlt x (by simpa using hx)) hA
  ·rw [List.append_nil,hs,hv];rfl
theorem addr_add (b o j:Nat):(⟨b,o,none⟩:Addr).add j=⟨b,o+j,none⟩:=by unfold Addr.add;split<;>simp_all
theorem byte_val {z:Int} (w:(Lit.int .u8 z).wf=true):∃x:UInt8,z=(x.toNat:Int):=by
 have hr:0≤z∧z≤255:=by simpa [Lit.wf,IntKind.min,IntKind.max,IntKind.signed,IntKind.bits] using w
 refine ⟨UInt8.ofNat z.toNat,?_⟩;simp;omega
structure Opn (P:Program) (t:TypeId) {α:Type} (R:Heap→List Value→α→Prop):Prop where
 run:∀ {H:Type} {enc:TypeId × Value→H} {w:World} {sp:Nat→Bool} {held:Bool} {fuel:Nat} {cs:List Value} {x:DataW H × List MemPlace},DataW.trod enc P w 0 sp held fuel t cs=some x→∃a,R w.heap cs a
section
variable {P:Program} {t e:TypeId}
theorem Opn.mono {α β:Type} {R:Heap→List Value→α→Prop} {R':Heap→List Value→β→Prop} (o:Opn P t R) (h:∀hp cs a,R hp cs a→∃b,R' hp cs b):Opn P t R':=⟨fun hx=>let ⟨a,ha⟩:=o.run hx;h _ _ a ha⟩
theorem Opn.i64 (ht:P.underlying t=some (.int .i64)):Opn P t (fun _ cs (z:Int)=>cs=[.int .i64 z]∧-9223372036854775808≤z∧z≤9223372036854775807):=⟨fun hx=>by
 obtain ⟨n,rfl,_,hw⟩:=DataW.trod_int ht hx;exact ⟨n,rfl,by simpa [Lit.wf,IntKind.min,IntKind.max,IntKind.signed,IntKind.bits] using hw⟩⟩
theorem Opn.u8 (ht:P.underlying t=some (.int .u8)):Opn P t (fun _ cs (x:UInt8)=>cs=[bv x]):=⟨fun hx=>by
 obtain ⟨n,rfl,_,hw⟩:=DataW.trod_int ht hx;obtain ⟨x,rfl⟩:=byte_val hw;exact ⟨x,rfl⟩⟩
theorem cells_spot {w:World} {base k:Nat} {b o:Nat} {spot:_} {cs:List Value} (h:w.cells? base ((⟨b,o,spot⟩:Addr).add (0*k)) k=some cs) (hk:0<k):spot=none:=by
 obtain ⟨_,h1,h2⟩:=World.cells?_some h;obtain ⟨c,hc⟩:∃c,cs[0]? = some c:=⟨cs[0],by simp [h1,hk]⟩;have h3:=h2 0 hk;rw [hc] at h3;have h4:=World.cell?_spot h3;simpa [Addr.add] using h4
theorem cells_at {w:World} {base k:Nat} {b o i:Nat} {cs:List Value} (h:w.cells? base ((⟨b,o,none⟩:Addr).add (i*k)) k=some cs):cs.length=k∧∀j v,cs[j]? = some v→cell w.heap b (o+i*k+j)=some v:=by
 obtain ⟨_,h1,h2⟩:=World.cells?_some h;refine ⟨h1,fun j v hv=>?_⟩;have hj:j<k:=by have:=(List.getElem?_eq_some_iff.1 hv).1;omega
 have h3:=h2 j hj;rw [hv,addr_add,addr_add,cell?_eq] at h3;exact h3
theorem choose_lists {α β:Type} {R:Nat→β→α→Prop} : ∀(n:Nat),(∀i,i<n→∃y z,R i y z)→∃(os:List β) (l:List α),os.length=n∧l.length=n∧∀i (h1:i<os.length) (h2:i<l.length),R i os[i] l[i]
 | 0,_=>⟨[],[],rfl,rfl,fun i h=>absurd h (by simp)⟩
 | n+1,each=>by
  obtain ⟨os,l,g1,g2,g3⟩:=choose_lists n (fun i hi=>each i (by omega));obtain ⟨y,z,g4⟩:=each n (by omega);refine ⟨os++[y],l++[z],by simp [g1],by simp [g2],fun i h1 h2=>?_⟩;by_cases hi:i<n
  ·have e1:(os++[y])[i]=os[i]'(by omega):=List.getElem_append_left (by omega);have e2:(l++[z])[i]=l[i]'(by omega):=List.getElem_append_left (by omega);rw [e1,e2];exact g3 i _ _
  ·have hi':i=n:=by simp [g1] at h1;omega
   subst hi';have e1:(os++[y])[i]=y:=by simp [g1]
   have e2:(l++[z])[i]=z:=by simp [g2]
   rw [e1,e2];exact g4
theorem Opn.slice {α β:Type} {f:β→List Value} {Q:Heap→β→α→Prop} {k:Nat} (ht:P.underlying t=some (.slice e)) (hk:P.cellsOf e=k) (hk0:0<k) (hf:∀o,(f o).length=k) (he:Opn P e (fun h cs a=>∃o,cs=f o∧Q h o a)) :
  Opn P t (fun h cs (l:List α)=>∃(x:SV) (os:List β),cs=[sv x]∧Sl h k (sv x) (os.flatMap f)∧All2 (Q h) os l):=by
 refine ⟨?_⟩;intro H enc w sp held fuel cs x hx;rcases DataW.trod_slice ht hx with ⟨rfl,_⟩ | ⟨a,len,cap,elems,rest,n,_,rfl,_,_,hl,hm,hlen,hel,_,_⟩
 ·exact ⟨[],(none,0,0),[],rfl,Sl.nil _ _,All2.nil⟩
 obtain ⟨b,o,spot⟩:=a;have get:∀i,i<len→∃cs,w.cells? 0 ((⟨b,o,spot⟩:Addr).add (i*k)) k=some cs∧∃z y,cs=f y∧Q w.heap y z:=fun i hi=>by
  have h1:=hel i hi;have h2:elems[i]? = some (elems[i]'(by omega)):=by simp
  rw [h2,hk,Option.bind_eq_some_iff] at h1;obtain ⟨cs,h3,h4⟩:=h1;obtain ⟨z,y,hq⟩:=he.run h4;exact ⟨cs,h3,z,y,hq⟩
 have hspot:0<len→spot=none:=fun hp=>let ⟨_,h,_⟩:=get 0 hp;cells_spot h hk0;obtain ⟨os,l,ho1,hl1,hall⟩:=choose_lists (R:=fun i y z=>Q w.heap y z∧∀j v,(f y)[j]? = some v→cell w.heap b (o+i*k+j)=some v) len (fun i hi=>by
  obtain ⟨cs,h3,z,y,rfl,hq⟩:=get i hi;have:=hspot (by omega);subst this;exact ⟨y,z,hq,(cells_at h3).2⟩)
 unfold maxLen at hm;refine ⟨l,(some ⟨b,o,spot⟩,len,cap),os,rfl,⟨_,_,_,rfl,hl,by omega,?_,fun hp=>?_⟩,by omega,fun i h1 h2=>(hall i h1 h2).1⟩
 ·rw [flat_len hf,ho1]
 ·have hs:=hspot hp;subst hs;refine ⟨b,o,rfl,fun i x hi=>?_⟩;have hlt:=(List.getElem?_eq_some_iff.1 hi).1;rw [flat_len hf,ho1] at hlt;have hdm:i=i / k*k+i%k:=by rw [Nat.mul_comm];exact (Nat.div_add_mod i k).symm
  have h1:i / k<len:=Nat.div_lt_of_lt_mul (by rw [Nat.mul_comm];exact hlt);have h2:i%k<k:=Nat.mod_lt _ hk0;rw [hdm,flat_at hf os (i / k) (i%k) (by omega) h2] at hi;rw [hdm,←Nat.add_assoc];exact (hall (i / k) (by omega) (by omega)).2 _ _ hi
theorem opn_struct {fs:Array Field} (ht:P.underlying t=some (.struct fs)) {H:Type} {enc:TypeId × Value→H} {w:World} {sp:Nat→Bool} {held:Bool} {fuel:Nat} {cs:List Value} {x:DataW H × List MemPlace} (hx:DataW.trod enc P w 0 sp held fuel t cs=some x) :
  cs.length=P.cellsOf t∧∀(i:Nat) (f:Field),fs[i]? = some f→∃n y,DataW.trod enc P w 0 sp held n f.type ((cs.drop f.offset).take (P.cellsOf f.type))=some y:=by
 obtain ⟨xs,n,_,_,h1,h2,h3⟩:=DataW.trod_struct ht hx;refine ⟨h1,fun i f hf=>?_⟩;have hi:i<xs.length:=by have:=(Array.getElem?_eq_some_iff.1 hf).1;omega
 exact ⟨n,xs[i],by rw [h3 i f hf];simp⟩
theorem opn_field {i off ft k:Nat} (hf:fdB P t i=some (off,ft,k)) {H:Type} {enc:TypeId × Value→H} {w:World} {sp:Nat→Bool} {held:Bool} {fuel:Nat} {cs:List Value} {x:DataW H × List MemPlace} (hx:DataW.trod enc P w 0 sp held fuel t cs=some x)
  {α:Type} {R:Heap→List Value→α→Prop} (o:Opn P ft R):∃a,R w.heap ((cs.drop off).take k) a:=by
 obtain ⟨fs,fd,inf,ht,hfi,rfl,rfl,h3,h4⟩:=fdB_iff hf;obtain ⟨n,y,h2⟩:=(opn_struct ht hx).2 i fd hfi;have:P.cellsOf fd.type=k:=by simp [Program.cellsOf,h3,h4]
 rw [this] at h2;exact o.run h2
theorem Opn.arg {α:Type} {R:Heap→List Value→α→Prop} (o:Opn P t R) {H:Type} {enc:TypeId × Value→H} {w:World} {sp:Nat→Bool} {held:Bool} {v:Value} {d:DataW H} {ps:List MemPlace} (h:DataW.Trod enc P w 0 sp held t v d ps):∃a,R w.heap v.cells.toList a:=
 let ⟨_,hf⟩:=h;o.run hf
end
open Go
theorem sv_cells {a:Option Addr} {n c:Nat} {x:SV} (h:(Value.slice a n c).cells.toList=[sv x]):x=(a,n,c):=by
 simp [Value.cells] at h;obtain ⟨h1,h2,h3⟩:=h;obtain ⟨x1,x2,x3⟩:=x;simp_all
end Go.HL
namespace Go.Proofs.YtndlpekckpdncaaGreat
open Go Go.HL
theorem lenC6 {l:List Value} (h:l.length=6):∃a b c d e f,l=[a,b,c,d,e,f]:=by
 match l,h with
 | [a,b,c,d,e,f],_=>exact ⟨a,b,c,d,e,f,rfl⟩
theorem lenC9 {l:List Value} (h:l.length=9):∃a b c d e f g i j,l=[a,b,c,d,e,f,g,i,j]:=by
 match l,h with
 | [a,b,c,d,e,f,g,i,j],_=>exact ⟨a,b,c,d,e,f,g,i,j,rfl⟩
def Hd.cells (H:Hd):List Value:=[.int .i64 H.size,.int .i64 H.pages,.int .i64 H.free,.int .i64 H.many,.int .i64 H.cookie,.int .i64 H.version]
theorem opn_head:Opn Tryz.prog 38 (fun _ cs (H:Hd)=>cs=H.cells∧HdIn H):=⟨fun hx=>by
 have hl:=(opn_struct Tryz.underlying38 hx).1;have f0:=opn_field T.fd38_0 hx (Opn.i64 Tryz.underlying3);have f1:=opn_field T.fd38_1 hx (Opn.i64 Tryz.underlying3);have f2:=opn_field T.fd38_2 hx (Opn.i64 Tryz.underlying3);have f3:=opn_field T.fd38_3 hx (Opn.i64 Tryz.underlying3);have f4:=opn_field T.fd38_4 hx (Opn.i64 Tryz.underlying3);have f5:=opn_field T.fd38_5 hx (Opn.i64 Tryz.underlying3);obtain ⟨c0,c1,c2,c3,c4,c5,rfl⟩:=lenC6 (hl.trans (by kernel_rfl:_=6));obtain ⟨x0,h0,b0⟩:=f0;obtain ⟨x1,h1,b1⟩:=f1;obtain ⟨x2,h2,b2⟩:=f2;obtain ⟨x3,h3,b3⟩:=f3;obtain ⟨x4,h4,b4⟩:=f4;obtain ⟨x5,h5,b5⟩:=f5;simp at h0 h1 h2 h3 h4 h5;subst h0 h1 h2 h3 h4 h5;exact ⟨⟨x0,x1,x2,x3,x4,x5⟩,rfl,b0,b1,b2,b3,b4,b5⟩⟩
structure DeedR where
 dn:Int
 no:Int
 seed:UInt8
 H:Hd
def DeedR.cells (d:DeedR):List Value:=[.int .i64 d.dn,.int .i64 d.no,bv d.seed,.int .i64 d.H.size,.int .i64 d.H.pages,.int .i64 d.H.free,.int .i64 d.H.many,.int .i64 d.H.cookie,.int .i64 d.H.version]
theorem opn_deed:Opn Tryz.prog 68 (fun _ cs (d:DeedR)=>cs=d.cells∧i64N d.dn∧i64N d.no∧HdIn d.H):=⟨fun hx=>by
 have hl:=(opn_struct Tryz.underlying68 hx).1;have f0:=opn_field T.fd68_0 hx (Opn.i64 Tryz.underlying3);have f1:=opn_field T.fd68_1 hx (Opn.i64 Tryz.underlying3);have f2:=opn_field T.fd68_2 hx (Opn.u8 Tryz.underlying5);have f3:=opn_field T.fd68_3 hx opn_head;obtain ⟨c0,c1,c2,c3,c4,c5,c6,c7,c8,rfl⟩:=lenC9 (hl.trans (by kernel_rfl:_=9));obtain ⟨x0,h0,b0⟩:=f0;obtain ⟨x1,h1,b1⟩:=f1;obtain ⟨x2,h2⟩:=f2;obtain ⟨H,h3,b3⟩:=f3;simp [Hd.cells] at h0 h1 h2 h3;obtain ⟨rfl,rfl,rfl,rfl,rfl,rfl⟩:=h3;subst h0 h1 h2;exact ⟨⟨x0,x1,x2,H⟩,rfl,b0,b1,b3⟩⟩
end Go.Proofs.YtndlpekckpdncaaGreat
