/- Pages taken and given, and chains of bytes, of a store whose free list is sound, in plain terms. Conditions: those that each fact names. Trees of pages, in plain terms: chains of subtrees between keys, levels, what stands around a page. Conditions: those that each fact names. A node is parted: greedy parts that fit, the keys between them. Conditions: the cells are small. The pages of a store: free, or in use. Conditions: those that each fact names. Children of a node give way to others, in plain terms. Conditions: those that each fact names. How many parts a node has; cells are small. Conditions: those that each fact names. A way is settled, in plain terms. Conditions: those that each fact names. A node of a way is parted, or joined with one beside it, in plain terms. Conditions: those that each fact names. A node of a way and the one beside it, in plain terms. Conditions: those that each fact names. A key's place among cells; a node's children and keys. Conditions: the cells are readable. Cells in memory of their own; a part of a node. Conditions: the cells are readable. What cells weigh; how many fit. Conditions: the cells are right, and small. -/
import Derived.Test.YtfegfklipbnhjaaGreatPkZ7
set_option maxRecDepth 100000
set_option maxHeartbeats 2000000
set_option linter.all false
namespace Go.Proofs.YtfegfklipbnhjaaGreat
open Go Go.HL
section
variable {n:Nat} {b:List UInt8}
def tkT (N:Nat):Trk->Int × Trk × Nat
 | []=>((N:Int)+1,[],N+1)
 | t::T=>match t.2.getLast? with
  | none=>(t.1,T,N)
  | some no=>(no,(t.1,t.2.dropLast)::T,N)
def gvT (rm:Nat) (no:Int):Trk->Trk
 | []=>[(no,[])]
 | t::T=>if t.2.length<rm then (t.1,t.2++[no])::T else (no,[])::t::T
theorem Kp.mono {w w':St} {B C:Int->Prop} (k:Kp w w' B) (h:∀j,B j->C j):Kp w w' C:=⟨k.z,k.su,k.i,k.sv,fun j h2 h3=>k.pg j h2 fun hb=>h3 (h j hb)⟩
theorem Kp.refl (w:St) (B:Int->Prop):Kp w w B:=⟨rfl,rfl,rfl,rfl,fun _ _ _=>rfl⟩
theorem Kp.trans {w w1 w2:St} {B C:Int->Prop} (k:Kp w w1 B) (q:Kp w1 w2 C):Kp w w2 (fun j=>B j\/C j):=⟨q.z.trans k.z,q.su.trans k.su,q.i.trans k.i,q.sv.trans k.sv,fun j h2 h3=>(q.pg j h2 fun h=>h3 (.inr h)).trans (k.pg j h2 fun h=>h3 (.inl h))⟩
theorem gvT_cons {rm:Nat} {no:Int} {t:Int × List Int} {T:Trk} : gvT rm no (t::T)=if t.2.length<rm then (t.1,t.2++[no])::T else (no,[])::t::T:=rfl
theorem gvT_perm {rm:Nat} {no:Int} {T:Trk} : (flatT (gvT rm no T)).Perm (no::flatT T):=by
 cases T with
 | nil=>exact .refl _
 | cons t T=>
  rw [gvT_cons];split
  ·rw [flatT_cons,flatT_cons];show (t.1::((t.2++[no])++flatT T)).Perm (no::t.1::(t.2++flatT T));refine .trans (.cons _ ?_) (.swap _ _ _);rw [qZ];exact List.perm_middle
  ·rw [flatT_cons];exact .refl _
theorem tkT_perm {N:Nat} {T:Trk} (h:T≠[]):(flatT T).Perm ((tkT N T).1::flatT (tkT N T).2.1)/\(tkT N T).2.2=N:=by
 cases T with
 | nil=>exact absurd rfl h
 | cons t T=>
  unfold tkT;rcases List.eq_nil_or_concat t.2 with e | ⟨ns,no,e⟩
  ·simp only [e,List.getLast?_nil];rw [flatT_cons,e];exact ⟨.refl _,trivial⟩
  ·rw [List.concat_eq_append] at e;simp only [e,List.getLast?_concat,List.dropLast_concat];rw [flatT_cons,flatT_cons,e];refine ⟨?_,trivial⟩;show (t.1::((ns++[no])++flatT T)).Perm (no::t.1::(ns++flatT T));refine .trans (.cons _ ?_) (.swap _ _ _);rw [qZ];exact List.perm_middle
section
variable {w:St} {T:Trk} {no:Int}
theorem FrS.take (f:FrS w T) (hm:T=[]->(w.now.length+1)*w.z<=16777216):∃w',takeF w=(w',(tkT w.now.length T).1,0)/\FrS w' (tkT w.now.length T).2.1/\w'.now.length=(tkT w.now.length T).2.2/\pageAt w'.now (tkT w.now.length T).1=zer w.z/\Kp w w' (fun k=>k∈flatT T\/k=(tkT w.now.length T).1):=by
 cases T with
 | nil=>
  obtain ⟨w',h1,h2,_,h4,h5,h6⟩:=f.take_n (hm rfl);exact ⟨w',h1,h2,h4,h5,h6.mono fun _ h=>.inr h⟩
 | cons t T=>
  rcases List.eq_nil_or_concat t.2 with e | ⟨ns,no,e⟩
  ·have ht:tkT w.now.length (t::T)=(t.1,T,w.now.length):=by unfold tkT;simp only [e,List.getLast?_nil]
   rw [ht];obtain ⟨w',h1,h2,_,h4,h5,h6⟩:=f.take_b e;exact ⟨w',h1,h2,h4,h5,h6.mono fun _ h=>.inr h⟩
  ·rw [List.concat_eq_append] at e;have ht:tkT w.now.length (t::T)=(no,(t.1,ns)::T,w.now.length):=by unfold tkT;simp only [e,List.getLast?_concat,List.dropLast_concat]
   rw [ht];obtain ⟨w',h1,h2,_,h4,h5,h6⟩:=f.take_a e;exact ⟨w',h1,h2,h4,h5,h6.mono fun _ h=>h.elim (fun h=>.inl (by rw [flatT_cons,h];simp)) .inr⟩
theorem FrS.tkN_in (f:FrS w T):(tkT w.now.length T).1∉flatT (tkT w.now.length T).2.1/\2<=(tkT w.now.length T).1/\(tkT w.now.length T).1<=((tkT w.now.length T).2.2:Int):=by
 have h1:=f.n1;by_cases h:T=[]
 ·subst h;exact ⟨by simp [tkT,flatT],by show (2:Int)<=(w.now.length:Int)+1;omega,Int.le_of_eq (by show (w.now.length:Int)+1=((w.now.length+1:Nat):Int);omega)⟩
 ·obtain ⟨p,e⟩:=tkT_perm (N:=w.now.length) h;have m:=f.mt.perm p.symm;have r:=m.rg (tkT w.now.length T).1 (by simp);rw [e];exact ⟨(List.nodup_cons.1 m.nd).1,r⟩
theorem upP_keep {P:List (List UInt8)} {B:Int->Prop} (h:∀k,2<=k->¬B k->pageAt P k=pageAt w.now k):Kp w (upP w P T) B:=⟨rfl,rfl,rfl,rfl,fun k h2 hb=>(upP_at h2).trans (h k h2 hb)⟩
theorem FrS.give (f:FrS w T) (h1:2<=no) (h2:no<=(w.now.length:Int)) (h3:no∉flatT T):∃w',giveF w no=(w',0)/\FrS w' (gvT ((w.z-8) / 4) no T)/\w'.now.length=w.now.length/\Kp w w' (fun k=>k∈flatT T\/k=no):=by
 have hb:∀ {T'} (_:FrS w T'),no∉flatT T'->¬(frT T'≠0/\tkN w<(w.z-8) / 4)->∃w',giveF w no=(w',0)/\FrS w' ((no,[])::T')/\w'.now.length=w.now.length/\Kp w w' (fun k=>k∈flatT T'\/k=no):=fun f h3 h4=>by
  have g:=f.give_b h1 h2 h3 h4;exact ⟨_,g.1,g.2,by rw [upP_len,List.length_set],upP_keep fun k k2 kb=>pageAt_set (by omega) fun e=>kb (.inr (by omega))⟩
 cases T with
 | nil=>exact hb f h3 (by rintro ⟨h,_⟩;exact h rfl)
 | cons t T=>
  rw [gvT_cons];split
  ·rename_i h4;have g:=f.give_a h1 h2 h3 h4;have hr:=frT_in f.mt (by simp);have hr:2<=t.1:=hr.1;exact ⟨_,g.1,g.2,by rw [upP_len,List.length_set],upP_keep fun k k2 kb=>pageAt_set (by omega) fun e=>kb (.inl (by rw [flatT_cons,show k=t.1 by omega];simp))⟩
  ·rename_i h4;exact hb f h3 fun h=>h4 (by rw [<-f.tk.2.1];exact h.2)
theorem FrS.write (f:FrS w T) {b:List UInt8} (h1:2<=no) (h2:no<=(w.now.length:Int)) (h3:no∉flatT T) (hb:b.length=w.z):∃w',w.write no b=(w',0)/\FrS w' T/\w'.now.length=w.now.length/\pageAt w'.now no=b/\Kp w w' (fun k=>k=no):=
 ⟨_,f.wr h1 h2 hb,f.wro h1 h2 hb fun t ht e=>h3 (e▸mem_flat ht),List.length_set ..,pageAt_eq (by omega) (by omega),rfl,rfl,rfl,rfl,fun k k2 kb=>pageAt_set (by omega) fun e=>kb (by omega)⟩
end
def tkL:Nat->Nat->Trk->List Int × Trk × Nat
 | 0,N,T=>([],T,N)
 | n+1,N,T=>let r:=tkT N T;let q:=tkL n r.2.2 r.2.1;(r.1::q.1,q.2)
theorem tkL_s {N:Nat} {T:Trk} : tkL (n+1) N T=((tkT N T).1::(tkL n (tkT N T).2.2 (tkT N T).2.1).1,(tkL n (tkT N T).2.2 (tkT N T).2.1).2):=rfl
theorem tkT_le {N:Nat} {T:Trk} : N<=(tkT N T).2.2/\(tkT N T).2.2<=N+1:=by
 by_cases h:T=[]
 ·subst h;exact ⟨Nat.le_succ N,qR _⟩
 ·rw [(tkT_perm (N:=N) h).2];omega
theorem takeA_ok:∀ {n:Nat} {w:St} {T:Trk} {acc:List Int},FrS w T->(w.now.length+n)*w.z<=16777216->∃w',takeA w acc n=(w',acc++(tkL n w.now.length T).1,0)/\FrS w' (tkL n w.now.length T).2.1/\w'.now.length=(tkL n w.now.length T).2.2/\w.now.length<=w'.now.length/\w'.now.length<=w.now.length+n/\Kp w w' (fun k=>k∈flatT T\/k∈(tkL n w.now.length T).1)/\
  (tkL n w.now.length T).1.length=n/\(∀k∈(tkL n w.now.length T).1,2<=k/\k<=(w'.now.length:Int)/\k∉flatT (tkL n w.now.length T).2.1/\(k∈flatT T\/(w.now.length:Int)<k))/\(tkL n w.now.length T).1.Nodup/\
  ((flatT T).length+w'.now.length=(flatT (tkL n w.now.length T).2.1).length+n+w.now.length)/\(∀k∈flatT (tkL n w.now.length T).2.1,k∈flatT T)
 | 0,w,T,acc,f,hm=>⟨w,by unfold takeA tkL;simp,f,rfl,by omega,by omega,.refl _ _,rfl,by unfold tkL;simp,by unfold tkL;simp,by show _=(flatT T).length+0+_;omega,fun _ h=>h⟩
 | n+1,w,T,acc,f,hm=>by
  have hm1:(w.now.length+1)*w.z<=16777216:=kN (qE _ (by omega)) hm;obtain ⟨w1,t1,f1,l1,_,k1⟩:=f.take fun _=>hm1;obtain ⟨ni1,ni2,ni3⟩:=f.tkN_in;have hle:=tkT_le (N:=w.now.length) (T:=T);obtain ⟨w2,t2,f2,l2,g1,g2,k2,g3,g4,g5,g6,g7⟩:=takeA_ok (n:=n) (acc:=acc++[(tkT w.now.length T).1]) f1 (by rw [k1.z];exact kN (qE _ (by omega)) hm);rw [l1] at t2 f2 l2 g1 g2 k2 g3 g4 g5 g6 g7;have hin:∀k∈flatT (tkT w.now.length T).2.1,k∈flatT T:=fun k hk=>by
   by_cases h:T=[]
   ·subst h;exact absurd hk (by simp [tkT,flatT])
   ·exact (tkT_perm (N:=w.now.length) h).1.mem_iff.2 (qQ _ hk)
  have hno:(tkT w.now.length T).1∈flatT T\/(w.now.length:Int)<(tkT w.now.length T).1:=by
   by_cases h:T=[]
   ·subst h;exact .inr (by show (w.now.length:Int)<(w.now.length:Int)+1;omega)
   ·exact .inl ((tkT_perm (N:=w.now.length) h).1.mem_iff.2 (by simp))
  refine ⟨w2,?_,f2,l2,by omega,by omega,?_,by rw [tkL_s];simp [g3],fun k hk=>?_,?_,?_,fun k hk=>hin k (g7 k hk)⟩
  ·rw [takeA_s (by rw [t1];exact fun h=>h rfl),t1,t2,tkL_s,qZ];rfl
  ·rw [tkL_s];exact (k1.trans k2).mono fun j h=>by
    rcases h with (h | h) | h | h
    ·exact .inl h
    ·exact .inr (by simp [h])
    ·exact .inl (hin j h)
    ·exact .inr (qQ _ h)
  ·rw [tkL_s] at hk⊢;rcases qK.1 hk with rfl | hk
   ·exact ⟨ni2,by omega,fun h=>ni1 (g7 _ h),hno⟩
   ·obtain ⟨a1,a2,a3,a4⟩:=g4 k hk;exact ⟨a1,a2,a3,a4.elim (fun h=>.inl (hin k h)) fun h=>.inr (by omega)⟩
  ·rw [tkL_s];refine List.nodup_cons.2 ⟨fun h=>?_,g5⟩;obtain ⟨_,_,_,a4⟩:=g4 _ h;rcases a4 with a4 | a4
   ·exact ni1 a4
   ·omega
  ·rw [tkL_s];show (flatT T).length+w2.now.length=(flatT (tkL n _ _).2.1).length+(n+1)+_;by_cases h:T=[]
   ·subst h;have e:(tkT w.now.length []).2.2=w.now.length+1:=rfl;have e2:(flatT (tkT w.now.length []).2.1).length=0:=rfl;rw [e2] at g6;rw [e] at g6⊢;show 0+_=_;omega
   ·have p:=tkT_perm (N:=w.now.length) h;have:=p.1.length_eq;rw [qV] at this;rw [p.2] at g6⊢;omega
def gvL (rm:Nat) (l:List Int) (T:Trk):Trk:=l.foldl (fun T no=>gvT rm no T) T
theorem gvL_perm {rm:Nat} : ∀ {l:List Int} {T:Trk},(flatT (gvL rm l T)).Perm (l++flatT T)
 | [],T=>.refl _
 | a::l,T=>(gvL_perm (l:=l) (T:=gvT rm a T)).trans ((List.Perm.append_left l gvT_perm).trans List.perm_middle)
theorem giveL_ok:∀ {l:List Int} {w:St} {T:Trk},FrS w T->l.Nodup->(∀k∈l,2<=k/\k<=(w.now.length:Int)/\k∉flatT T)->∃w',giveL w l=(w',0)/\FrS w' (gvL ((w.z-8) / 4) l T)/\w'.now.length=w.now.length/\Kp w w' (fun k=>k∈flatT T\/k∈l)
 | [],w,T,f,_,_=>⟨w,rfl,f,rfl,.refl _ _⟩
 | a::l,w,T,f,hn,hl=>by
  obtain ⟨h1,h2,h3⟩:=hl a (by simp);obtain ⟨w1,g1,f1,l1,k1⟩:=f.give h1 h2 h3;obtain ⟨w2,g2,f2,l2,k2⟩:=giveL_ok (l:=l) f1 (List.nodup_cons.1 hn).2 fun k hk=>by
   obtain ⟨b1,b2,b3⟩:=hl k (qQ _ hk);refine ⟨b1,by omega,fun h=>?_⟩;rcases qK.1 (gvT_perm.mem_iff.1 h) with h | h
   ·exact (List.nodup_cons.1 hn).1 (h▸hk)
   ·exact b3 h
  rw [k1.z] at f2;refine ⟨w2,?_,f2,l2.trans l1,(k1.trans k2).mono fun j h=>?_⟩
  ·show (if (giveF w a).2≠0 then giveF w a else giveL (giveF w a).1 l)=_;rw [g1];exact g2
  ·rcases h with (h | h) | h | h
   ·exact .inl h
   ·exact .inr (by simp [h])
   ·exact (qK.1 (gvT_perm.mem_iff.1 h)).elim (fun h=>.inr (by simp [h])) .inl
   ·exact .inr (qQ _ h)
def ChL (P:List (List UInt8)) (z:Nat):Int->List Int->List UInt8->Prop
 | a,[],b=>a=0/\b=[]
 | a,k::l,b=>a=k/\b≠[]/\((pageAt P k).drop 4).take (min b.length (z-4))=b.take (z-4)/\(pageAt P k).length=z/\ChL P z ((rdN (pageAt P k) 0 4:Nat):Int) l (b.drop (z-4))
theorem ChL.congr {P Q:List (List UInt8)} {z:Nat} : ∀ {l:List Int} {a:Int} {b:List UInt8},(∀k∈l,pageAt Q k=pageAt P k)->ChL P z a l b->ChL Q z a l b
 | [],_,_,_,h=>h
 | k::l,a,b,e,⟨h1,h2,h3,h4,h5⟩=>by
  have ek:=e k (by simp);refine ⟨h1,h2,by rw [ek];exact h3,by rw [ek];exact h4,by rw [ek];exact ChL.congr (fun j hj=>e j (qQ _ hj)) h5⟩
theorem ChL.go {w:St} {P:List (List UInt8)} {z:Nat} (hP:w.pgs=P) (hz:5<=z) {n:Nat} : ∀ {l:List Int} {a:Int} {b:List UInt8} {f:Nat} {pl:List Int} {ol:List UInt8},ChL P z a l b->l.length<f->(pl++l).Nodup->(∀k∈l,2<=k/\k<=(P.length:Int))->pl.length<=ol.length->ol.length+b.length=n->
  lkGo w (chGo n) (chLv n) f a pl (pl,ol,false)=((pl++l,ol++b,false),0)
 | [],a,b,f,pl,ol,h,hf,_,_,_,_=>by
  obtain ⟨f,rfl⟩:∃f',f=f'+1:=⟨f-1,by omega⟩;rw [lk_00 h.1,h.2];simp
 | k::l,a,b,f,pl,ol,⟨h1,h2,h3,h4,h5⟩,hf,hn,hr,hpo,hol=>by
  subst h1;rw [qV] at hf;obtain ⟨f,rfl⟩:∃f',f=f'+1:=⟨f-1,by omega⟩;have hk:=hr a (by simp);have hb:0<b.length:=kC.2 h2;have hpg:w.pgs.getD (a-1).toNat []=pageAt P a:=by rw [hP];rfl
  have hck:chK n ol (pageAt P a)=min b.length (z-4):=by unfold chK;rw [h4];omega
  have hg:chGo n (pl,ol,false) a (w.pgs.getD (a-1).toNat [])=(pl++[a],ol++b.take (z-4),false):=by
   rw [hpg,chg_go (by omega),hck,h3]
  have hnin:a∉pl:=fun h=>(kT.1 hn).2.2 _ h _ (by simp) rfl;have hlen:(ol++b.take (z-4)).length=ol.length+min (z-4) b.length:=by simp
  rw [lk_go (by omega) (by rw [hP];rintro (h | h | h);omega;omega;exact hnin h) (by rw [hg];show (!false && decide ((pl++[a]).length<=(ol++b.take (z-4)).length/\(ol++b.take (z-4)).length<=n))=true;rw [hlen];simp;omega),hg,hpg];rw [ChL.go hP hz (b:=b.drop (z-4)) h5 (by omega) (by rw [qZ];exact hn) (fun j hj=>hr j (qQ _ hj)) (by rw [hlen,qA];simp;omega) (by rw [hlen,qH];omega)];rw [qZ,qZ,qT];rfl
theorem ChL.get {w:St} {z:Nat} {a:Int} {l:List Int} (hz:5<=z) (h:ChL w.pgs z a l b) (hn:l.Nodup) (hr:∀k∈l,2<=k/\k<=(w.pgs.length:Int)) (hb:b.length<=16384):chF w a (b.length:Int)=(l,b,0):=by
 have hl:l.length<=w.pgs.length:=by
  have:=(show Met w.pgs.length l from ⟨hn,hr⟩).len;omega
 have g:=ChL.go (w:=w) rfl hz (n:=b.length) (f:=w.pgs.length+1) (pl:=[]) (ol:=[]) h (by omega) (by simpa using hn) hr (qR _) (by simp);simp only [kI] at g;have hc:chR w a b.length=((l,b,false),0):=g;have hx:¬((b.length:Int)<0\/16384<(b.length:Int)\/decide (a=0)≠decide ((b.length:Int)=0)):=by
  rintro (h1 | h1 | h1)
  ·omega
  ·omega
  ·refine h1 ?_;cases l with
   | nil=>rw [h.1,h.2];rfl
   | cons k l=>
    have h2:=hr k (by simp);have h3:a=k:=h.1;have h4:0<b.length:=kC.2 h.2.1;rw [decide_eq_false (by omega),decide_eq_false (by omega)]
 have:=chF_0 (w:=w) (first:=a) (n:=b.length) hx (by rw [hc]) (by rw [hc]) (by rw [hc];simp);rw [hc] at this;exact this
theorem parts_nil : parts [] n=[]:=rfl
theorem ck_sh {a:Option Addr} {l:List UInt8} {n:Nat} (hn:1<=n):∀(f g i j:Nat),(l.drop j).length-i<g->∀k,k=i+j->l.length-k<f->pgs (ckL a l n f k)=pgs (ckL a (l.drop j) n g i)
 | 0,_,_,_,_,_,_,h=>by omega
 | f+1,0,i,j,h,k,hk,hf=>by omega
 | f+1,g+1,i,j,h2,k,hk,hf=>by
  rw [qH] at h2;by_cases h:k<l.length
  ·rw [ck_step h,ck_step (by rw [qH];omega)];show (ckP a l n k).l::pgs (ckL a l n f (k+n))=(ckP a (l.drop j) n i).l::pgs (ckL a (l.drop j) n g (i+n));rw [ck_sh hn f g (i+n) j (by rw [qH];omega) (k+n) (by omega) (by omega)];congr 1;unfold ckP;simp only [List.drop_drop,qH];rw [show j+i=k by omega,show l.length-j-i=l.length-k by omega]
  ·rw [ck_end h,ck_end (by rw [qH];omega)]
theorem parts_cons {l:List UInt8} (hn:1<=n) (h:l≠[]):parts l n=l.take n::parts (l.drop n) n:=by
 have hl:0<l.length:=kC.2 h;unfold parts;rw [ck_step (by omega)];show (ckP none l n 0).l::pgs (ckL none l n l.length (0+n))=_;have e:(ckP none l n 0).l=l.take n:=by
  unfold ckP;simp only [kY,Nat.sub_zero];by_cases h2:n<=l.length
  ·rw [Nat.min_eq_left h2]
  ·rw [Nat.min_eq_right (by omega),qY (qR _),qY (by omega)]
 rw [e];congr 1;by_cases h2:n<l.length
 ·exact ck_sh hn l.length ((l.drop n).length+1) 0 n (by omega) (0+n) rfl (by omega)
 ·rw [ck_end (by omega),ck_end (by rw [qH];omega)]
theorem parts_len {n:Nat} (hn:1<=n):∀(k:Nat) (l:List UInt8),l.length<=k->(parts l n).length*n<l.length+n/\(l=[]↔(parts l n).length=0)
 | 0,l,h=>by
  have:l=[]:=qW (by omega);subst this;exact ⟨by show 0*n<0+n;omega,fun _=>rfl,fun _=>rfl⟩
 | k+1,l,h=>by
  by_cases e:l=[]
  ·subst e;exact ⟨by show 0*n<0+n;omega,fun _=>rfl,fun _=>rfl⟩
  ·have hl:0<l.length:=kC.2 e;rw [parts_cons hn e];have ih:=parts_len hn k (l.drop n) (by rw [qH];omega);refine ⟨?_,fun h=>absurd h e,fun h=>by simp at h⟩;rw [qV];by_cases h2:l.length<=n
   ·have e2:l.drop n=[]:=qN h2;rw [e2,parts_nil,qB];omega
   ·have:=ih.1;rw [qH] at this;rw [Nat.succ_mul];omega
theorem wrA_ok {z:Nat} (hz:5<=z) {pl:List Int} {P:List (List UInt8)} : ∀ {Q:List (List UInt8)} {l:List Int} {i:Nat} {b:List UInt8} {w:St} {T:Trk},FrS w T->w.z=z->Q=parts b (z-4)->Q.length=l.length->pl.drop i=l->P.drop i=Q->l.Nodup->(∀k∈l,2<=k/\k<=(w.now.length:Int)/\k∉flatT T)->
  ∃w',wrA z pl P Q.length i w=(w',0)/\FrS w' T/\w'.now.length=w.now.length/\ChL w'.now z (l.getD 0 0) l b/\Kp w w' (fun k=>k∈l)
 | [],l,i,b,w,T,f,_,hq,hl,_,_,_,_=>by
  have:l=[]:=qW hl.symm;subst this;have hb:b=[]:=(parts_len (n:=z-4) (by omega) b.length b (qR _)).2.2 (by rw [<-hq];rfl);exact ⟨w,rfl,f,rfl,⟨rfl,hb⟩,.refl _ _⟩
 | q::Q,l,i,b,w,T,f,hwz,hq,hl,hp,hP,hn,hr=>by
  have hb:b≠[]:=fun e=>by rw [e,parts_nil] at hq;cases hq
  rw [parts_cons (by omega) hb] at hq;injection hq with hq1 hq2;cases l with
  | nil=>simp at hl
  | cons k l=>
   have hi:i<pl.length:=by
    have:=congrArg List.length hp;rw [qH,qV] at this;omega
   have hPi:i<P.length:=by
    have:=congrArg List.length hP;rw [qH,qV] at this;omega
   rw [qF hi] at hp;rw [qF hPi] at hP;injection hp with hp1 hp2;injection hP with hP1 hP2;have hk:=hr k (by simp);have hnx:pl.getD (i+1) 0=l.getD 0 0:=by
    rw [<-hp2];by_cases h:i+1<pl.length
    ·rw [qF h,List.getD_eq_getElem?_getD,List.getElem?_eq_getElem h];rfl
    ·rw [qN (by omega),List.getD_eq_getElem?_getD,List.getElem?_eq_none (by omega)];rfl
   have hnb:0<=l.getD 0 0/\l.getD 0 0<4294967296:=by
    cases l with
    | nil=>exact ⟨Int.le_refl _,by show (0:Int)<_;omega⟩
    | cons j l=>have:=hr j (by simp);have:=f.few;exact ⟨by show 0<=j;omega,by show j<_;omega⟩
   have hql:q.length=min (z-4) b.length:=by rw [hq1];simp
   have hpg:putPg z pl P i=fixedN (l.getD 0 0).toNat 4++(q++List.replicate (z-4-q.length) 0):=by
    unfold putPg;rw [hnx,show P.getD i []=q by rw [List.getD_eq_getElem?_getD,List.getElem?_eq_getElem hPi,hP1];rfl]
   have hpl:(putPg z pl P i).length=z:=by rw [hpg,qA,qA,fixedN_len,kW];omega
   obtain ⟨w1,g1,f1,l1,p1,k1⟩:=f.write hk.1 hk.2.1 hk.2.2 (show (putPg z pl P i).length=w.z by rw [hpl,hwz]);obtain ⟨w2,g2,f2,l2,c2,k2⟩:=wrA_ok hz (Q:=Q) (l:=l) (i:=i+1) (b:=b.drop (z-4)) f1 (k1.z.trans hwz) hq2 (by simpa using hl) hp2 hP2 (List.nodup_cons.1 hn).2 fun j hj=>by rw [l1];exact hr j (qQ _ hj)
   have hgk:pl.getD i 0=k:=by rw [List.getD_eq_getElem?_getD,List.getElem?_eq_getElem hi,hp1];rfl
   have hpk:pageAt w2.now k=putPg z pl P i:=(k2.pg k hk.1 (List.nodup_cons.1 hn).1).trans p1;refine ⟨w2,?_,f2,l2.trans l1,⟨rfl,hb,?_,?_,?_⟩,(k1.trans k2).mono fun j h=>h.elim (fun h=>by rw [h];simp) (qQ _)⟩
   ·rw [qV,wrA_s hgk (by rw [g1];exact fun h=>h rfl),g1];exact g2
   ·rw [hpk,hpg,List.drop_left' (fixedN_len _ _),<-hq1,List.take_left' (by rw [hql,Nat.min_comm])]
   ·rw [hpk,hpl]
   ·rw [hpk,hpg,rd_fix (by omega),show (((l.getD 0 0).toNat:Nat):Int)=l.getD 0 0 by omega];exact c2
theorem FrS.put {w:St} {T:Trk} (f:FrS w T) (hb:b.length<=16384) (hm:(w.now.length+(parts b (w.z-4)).length)*w.z<=16777216):∃w',putF w b=(w',(tkL (parts b (w.z-4)).length w.now.length T).1.getD 0 0,0)/\FrS w' (tkL (parts b (w.z-4)).length w.now.length T).2.1/\w'.now.length=(tkL (parts b (w.z-4)).length w.now.length T).2.2/\w.now.length<=w'.now.length/\w'.now.length<=w.now.length+(parts b (w.z-4)).length/\ChL w'.now w.z ((tkL (parts b (w.z-4)).length w.now.length T).1.getD 0 0) (tkL (parts b (w.z-4)).length w.now.length T).1 b/\Kp w w' (fun k=>k∈flatT T\/k∈(tkL (parts b (w.z-4)).length w.now.length T).1)/\
  (∀k∈(tkL (parts b (w.z-4)).length w.now.length T).1,2<=k/\k<=(w'.now.length:Int)/\k∉flatT (tkL (parts b (w.z-4)).length w.now.length T).2.1/\(k∈flatT T\/(w.now.length:Int)<k))/\(tkL (parts b (w.z-4)).length w.now.length T).1.Nodup/\
  ((flatT T).length+w'.now.length=(flatT (tkL (parts b (w.z-4)).length w.now.length T).2.1).length+(parts b (w.z-4)).length+w.now.length)/\(∀k∈flatT (tkL (parts b (w.z-4)).length w.now.length T).2.1,k∈flatT T):=by
 have hzc:=f.zc;obtain ⟨w1,t1,f1,l1,g1,g2,k1,g3,g4,g5,g6,g7⟩:=takeA_ok (acc:=[]) f hm;rw [kI] at t1;generalize hpl:(tkL (parts b (w.z-4)).length w.now.length T).1=pl at *;generalize hT2:(tkL (parts b (w.z-4)).length w.now.length T).2.1=T2 at *;generalize hN2:(tkL (parts b (w.z-4)).length w.now.length T).2.2=N2 at *;obtain ⟨w2,q2,f2,l2,c2,k2⟩:=wrA_ok (z:=w.z) (by omega) (pl:=pl) (P:=parts b (w.z-4)) (Q:=parts b (w.z-4)) (l:=pl) (i:=0) (b:=b) f1 k1.z rfl g3.symm rfl rfl g5 fun k hk=>⟨(g4 k hk).1,(g4 k hk).2.1,(g4 k hk).2.2.1⟩;refine ⟨w2,putF_0 f.i (by omega) t1 q2,f2,l2.trans l1,by omega,by omega,c2,(k1.trans k2).mono fun j h=>h.elim id .inr,fun k hk=>?_,g5,by omega,g7⟩;rw [l2];exact g4 k hk
theorem FrS.drop {w:St} {T:Trk} (f:FrS w T) {a:Int} {l:List Int} (h:ChL w.now w.z a l b) (hn:l.Nodup) (hr:∀k∈l,2<=k/\k<=(w.now.length:Int)/\k∉flatT T) (hb:b.length<=16384):∃w',dropF w a (b.length:Int)=(w',0)/\FrS w' (gvL ((w.z-8) / 4) l T)/\w'.now.length=w.now.length/\Kp w w' (fun k=>k∈flatT T\/k∈l):=by
 have hzc:=f.zc;have g:=ChL.get (w:=w) (z:=w.z) (by omega) (by rw [f.pgs];exact h) hn (fun k hk=>by rw [f.pgs];exact ⟨(hr k hk).1,(hr k hk).2.1⟩) hb;obtain ⟨w',g1,g2,g3,g4⟩:=giveL_ok f hn hr;exact ⟨w',by rw [dropF_l f.i (by rw [g]),g,g1];rfl,g2,g3,g4⟩
end
open Go Go.HL
noncomputable def ndAt (P:List (List UInt8)) (no:Int):Option Nod:=decNd (pageAt P no)
def kidsN (n:Nod):List Int:=n.cells.map (fun c=>(c.child:Int))++[(n.right:Int)]
def keysN (n:Nod):List Int:=n.cells.map Cel.key
theorem kidsN_len {n:Nod} : (kidsN n).length=n.cells.length+1:=by simp [kidsN]
theorem keysN_len {n:Nod} : (keysN n).length=n.cells.length:=by simp [keysN]
def Inb (lo hi:Option Int) (k:Int):Prop:=(∀a,lo=some a->a<k)/\∀b,hi=some b->k<=b
abbrev TR:=Int->Option Int->Option Int->List Cel->List Int->Prop
inductive TCh {α:Type} (S:α->Option Int->Option Int->List Cel->List Int->Prop):Option Int->Option Int->List α->List Int->List Cel->List Int->Prop
 | one {k:α} {lo hi:Option Int} {e:List Cel} {p:List Int} : S k lo hi e p->TCh S lo hi [k] [] e p
 | cons {k:α} {y:Int} {lo hi:Option Int} {ks:List α} {ys:List Int} {e1 e2:List Cel} {p1 p2:List Int} : S k lo (some y) e1 p1->TCh S (some y) hi ks ys e2 p2->TCh S lo hi (k::ks) (y::ys) (e1++e2) (p1++p2)
inductive SgL (S:TR):Option Int->Option Int->List Int->List Int->List Cel->List Int->Prop
 | nil {lo:Option Int} : SgL S lo lo [] [] [] []
 | cons {k y:Int} {lo m:Option Int} {ks ys:List Int} {e1 e2:List Cel} {p1 p2:List Int} : S k lo (some y) e1 p1->SgL S (some y) m ks ys e2 p2->SgL S lo m (k::ks) (y::ys) (e1++e2) (p1++p2)
inductive SgR (S:TR):Option Int->Option Int->List Int->List Int->List Cel->List Int->Prop
 | nil {hi:Option Int} : SgR S hi hi [] [] [] []
 | cons {k y:Int} {m hi:Option Int} {ks ys:List Int} {e1 e2:List Cel} {p1 p2:List Int} : S k (some y) m e1 p1->SgR S m hi ys ks e2 p2->SgR S (some y) hi (y::ys) (k::ks) (e1++e2) (p1++p2)
section
variable {S S':TR} {lo hi m m':Option Int} {ks ys ka kb ya yb kn yn:List Int} {es ea eb en e0:List Cel} {ps pa pb pn p0:List Int} {y k:Int}
theorem TCh.len (c:TCh S lo hi ks ys es ps):ks.length=ys.length+1:=by
 induction c with
 | one _=>rfl
 | cons _ _ ih=>simp [ih]
theorem TCh.app (c:TCh S lo hi ka ya ea pa):hi=some y->TCh S (some y) m kb yb eb pb->TCh S lo m (ka++kb) (ya++y::yb) (ea++eb) (pa++pb):=by
 induction c with
 | one h=>rintro rfl d;exact .cons h d
 | cons h _ ih=>intro e d;rw [qZ,qZ];exact .cons h (ih e d)
theorem TCh.split (c:TCh S lo hi ks ys es ps):∀ {ka kb ya yb:List Int} {y:Int},ks=ka++kb->ys=ya++y::yb->ka.length=ya.length+1->∃ea eb pa pb,TCh S lo (some y) ka ya ea pa/\TCh S (some y) hi kb yb eb pb/\es=ea++eb/\ps=pa++pb:=by
 induction c with
 | one h=>intro ka kb ya yb y _ h2 _;simp at h2
 | @cons k y0 lo hi ks ys e1 e2 p1 p2 h d ih=>
  intro ka kb ya yb y h1 h2 h3;cases ka with
  | nil=>simp at h3
  | cons k' ka=>
   injection h1 with h1 h1';subst h1;cases ya with
   | nil=>
    injection h2 with h2 h2';subst h2 h2';have:ka=[]:=qW (by simpa using h3);subst this;have h1':ks=kb:=h1';subst h1';exact ⟨e1,e2,p1,p2,.one h,d,rfl,rfl⟩
   | cons y' ya=>
    injection h2 with h2 h2';subst h2;obtain ⟨ea,eb,pa,pb,c1,c2,rfl,rfl⟩:=ih h1' h2' (by simpa using h3);exact ⟨e1++ea,eb,p1++pa,pb,.cons h c1,c2,(qZ ..).symm,(qZ ..).symm⟩
theorem SgR.chn (r:SgR S m hi yb kb eb pb):∀ {k:Int} {lo:Option Int} {e0:List Cel} {p0:List Int},S k lo m e0 p0->TCh S lo hi (k::kb) yb (e0++eb) (p0++pb):=by
 induction r with
 | nil=>intro k lo e0 p0 h;rw [kX,kX];exact .one h
 | cons h _ ih=>intro k lo e0 p0 h0;exact .cons h0 (ih h)
theorem TCh.endR (c:TCh S lo m kn yn en pn):SgR S m hi yb kb eb pb->TCh S lo hi (kn++kb) (yn++yb) (en++eb) (pn++pb):=by
 induction c with
 | one h=>intro r;exact r.chn h
 | cons h _ ih=>intro r;rw [qZ,qZ];exact .cons h (ih r)
theorem SgL.plug (l:SgL S lo m ka ya ea pa):TCh S m hi kn yn en pn->TCh S lo hi (ka++kn) (ya++yn) (ea++en) (pa++pn):=by
 induction l with
 | nil=>exact id
 | cons h _ ih=>intro c;rw [qZ,qZ];exact .cons h (ih c)
theorem TCh.tailR (c:TCh S lo hi ks ys es ps):∀ {y:Int},lo=some y->SgR S (some y) hi (y::ys) ks es ps:=by
 induction c with
 | one h=>rintro y rfl;have:=SgR.cons h .nil;simpa using this
 | cons h _ ih=>rintro y rfl;exact .cons h (ih rfl)
theorem TCh.at_ (c:TCh S lo hi ks ys es ps):∀ {i:Nat},i<ks.length->∃ka k kb ya yb m m' ea e0 eb pa p0 pb,ks=ka++k::kb/\ys=ya++yb/\ka.length=i/\ya.length=i/\SgL S lo m ka ya ea pa/\S k m m' e0 p0/\SgR S m' hi yb kb eb pb/\es=ea++(e0++eb)/\ps=pa++(p0++pb)/\
  ∀key,Inb lo hi key->(∀j y,j<i->ys[j]? = some y->y<key)->(∀y,ys[i]? = some y->key<=y)->Inb m m' key:=by
 induction c with
 | @one k lo hi e p h=>
  intro i hi;have:i=0:=by simpa using hi
  subst this;exact ⟨[],k,[],[],[],lo,_,[],e,[],[],p,[],rfl,rfl,rfl,rfl,.nil,h,.nil,by simp,by simp,fun key h1 _ _=>h1⟩
 | @cons k y0 lo hi ks ys e1 e2 p1 p2 h d ih=>
  intro i hi;cases i with
  | zero=>
   exact ⟨[],k,ks,[],y0::ys,lo,some y0,[],e1,e2,[],p1,p2,rfl,rfl,rfl,rfl,.nil,h,d.tailR rfl,rfl,rfl,fun key h1 _ h3=>⟨h1.1,fun b hb=>by injection hb with hb;subst hb;exact h3 y0 rfl⟩⟩
  | succ i=>
   obtain ⟨ka,k',kb,ya,yb,m,m',ea,e0,eb,pa,p0,pb,rfl,rfl,rfl,h4,h5,h6,h7,rfl,rfl,h8⟩:=ih (i:=i) (by simpa using hi);refine ⟨k::ka,k',kb,y0::ya,yb,m,m',e1++ea,e0,eb,p1++pa,p0,pb,rfl,rfl,rfl,by simp [h4],.cons h h5,h6,h7,(qZ ..).symm,(qZ ..).symm,fun key g1 g2 g3=>h8 key ⟨fun a ha=>by injection ha with ha;subst ha;exact g2 0 y0 (by omega) rfl,g1.2⟩ (fun j y hj hy=>g2 (j+1) y (by omega) hy) g3⟩
theorem TCh.congr (c:TCh S lo hi ks ys es ps):∀ {G:Int->Prop},(∀k a b e p,S k a b e p->(∀j∈p,G j)->S' k a b e p)->(∀j∈ps,G j)->TCh S' lo hi ks ys es ps:=by
 induction c with
 | one h=>intro G f g;exact .one (f _ _ _ _ _ h g)
 | cons h _ ih=>intro G f g;exact .cons (f _ _ _ _ _ h fun j hj=>g j (qU _ hj)) (ih f fun j hj=>g j (qI _ hj))
theorem SgL.congr (c:SgL S lo hi ks ys es ps):∀ {G:Int->Prop},(∀k a b e p,S k a b e p->(∀j∈p,G j)->S' k a b e p)->(∀j∈ps,G j)->SgL S' lo hi ks ys es ps:=by
 induction c with
 | nil=>intro G _ _;exact .nil
 | cons h _ ih=>intro G f g;exact .cons (f _ _ _ _ _ h fun j hj=>g j (qU _ hj)) (ih f fun j hj=>g j (qI _ hj))
theorem SgR.congr (c:SgR S lo hi ys ks es ps):∀ {G:Int->Prop},(∀k a b e p,S k a b e p->(∀j∈p,G j)->S' k a b e p)->(∀j∈ps,G j)->SgR S' lo hi ys ks es ps:=by
 induction c with
 | nil=>intro G _ _;exact .nil
 | cons h _ ih=>intro G f g;exact .cons (f _ _ _ _ _ h fun j hj=>g j (qU _ hj)) (ih f fun j hj=>g j (qI _ hj))
end
def Lv (P:List (List UInt8)):Nat->Nod->Option Int->Option Int->List Cel->List Int->Prop
 | 0,n,lo,hi,es,ps=>n.kind=1/\es=n.cells/\ps=[]/\(n.cells.map Cel.key).Pairwise (· < ·)/\∀c∈n.cells,Inb lo hi c.key
 | d+1,n,lo,hi,es,ps=>n.kind=2/\TCh (fun k a b e p=>∃m q,ndAt P k=some m/\m.cells≠[]/\Lv P d m a b e q/\p=k::q) lo hi (kidsN n) (keysN n) es ps
def Sb (P:List (List UInt8)) (d:Nat):TR:=fun k a b e p=>∃m q,ndAt P k=some m/\m.cells≠[]/\Lv P d m a b e q/\p=k::q
section
variable {P Q:List (List UInt8)}
theorem Lv.congr:∀ {d:Nat} {n:Nod} {lo hi:Option Int} {es:List Cel} {ps:List Int},(∀k∈ps,ndAt Q k=ndAt P k)->Lv P d n lo hi es ps->Lv Q d n lo hi es ps
 | 0,_,_,_,_,_,_,h=>h
 | d+1,n,lo,hi,es,ps,e,⟨h1,h2⟩=>⟨h1,h2.congr (G:=fun k=>ndAt Q k=ndAt P k) (fun k a b ee p ⟨m,q,g1,g2,g3,g4⟩ g=>by
   subst g4;exact ⟨m,q,(g k (by simp)).trans g1,g2,Lv.congr (fun j hj=>g j (qQ _ hj)) g3,rfl⟩) e⟩
theorem Sb.congr {d:Nat} {k:Int} {a b:Option Int} {e:List Cel} {p:List Int} (s:Sb P d k a b e p) (g:∀j∈p,ndAt Q j=ndAt P j):Sb Q d k a b e p:=by
 obtain ⟨m,q,g1,g2,g3,g4⟩:=s;subst g4;exact ⟨m,q,(g k (by simp)).trans g1,g2,g3.congr fun j hj=>g j (qQ _ hj),rfl⟩
structure Srt (lo hi:Option Int) (es:List Cel):Prop where
 s:(es.map Cel.key).Pairwise (· < ·)
 b:∀c∈es,Inb lo hi c.key
theorem Srt.app {lo hi:Option Int} {y:Int} {a b:List Cel} (h1:Srt lo (some y) a) (h2:Srt (some y) hi b) (ha:a≠[]) (hb:b≠[]):Srt lo hi (a++b):=by
 have hab:∀c∈a,∀d∈b,c.key<d.key:=fun c hc d hd=>by
  have:=(h1.b c hc).2 y rfl;have:=(h2.b d hd).1 y rfl;omega
 refine ⟨by rw [kJ];exact List.pairwise_append.2 ⟨h1.s,h2.s,fun x hx z hz=>by
  obtain ⟨c,hc,rfl⟩:=kS.1 hx;obtain ⟨d,hd,rfl⟩:=kS.1 hz;exact hab c hc d hd⟩,fun c hc=>?_⟩
 obtain ⟨ca,hca⟩:=List.exists_mem_of_ne_nil _ ha;obtain ⟨cb,hcb⟩:=List.exists_mem_of_ne_nil _ hb;rcases qD.1 hc with hc | hc
 ·exact ⟨(h1.b c hc).1,fun b' hb'=>by have:=hab c hc cb hcb;have:=(h2.b cb hcb).2 b' hb';omega⟩
 ·exact ⟨fun a' ha'=>by have:=hab ca hca c hc;have:=(h1.b ca hca).1 a' ha';omega,(h2.b c hc).2⟩
theorem TCh.srt {S:TR} {lo hi:Option Int} {ks ys:List Int} {es:List Cel} {ps:List Int} (hS:∀k a b e p,S k a b e p->Srt a b e/\e≠[]) (c:TCh S lo hi ks ys es ps):Srt lo hi es/\es≠[]:=by
 induction c with
 | one h=>exact hS _ _ _ _ _ h
 | cons h _ ih=>exact ⟨(hS _ _ _ _ _ h).1.app ih.1 (hS _ _ _ _ _ h).2 ih.2,by simp [(hS _ _ _ _ _ h).2]⟩
theorem Lv.srt:∀ {d:Nat} {n:Nod} {lo hi:Option Int} {es:List Cel} {ps:List Int},Lv P d n lo hi es ps->Srt lo hi es/\((d=0->n.cells≠[])->es≠[])
 | 0,_,_,_,_,_,⟨_,h2,_,h4,h5⟩=>by subst h2;exact ⟨⟨h4,h5⟩,fun h=>h rfl⟩
 | d+1,_,_,_,_,_,⟨_,h2⟩=>by
  have:=TCh.srt (fun k a b e p ⟨m,q,g1,g2,g3,g4⟩=>⟨(Lv.srt g3).1,(Lv.srt g3).2 fun _=>g2⟩) h2;exact ⟨this.1,fun _=>this.2⟩
theorem Sb.srt {d:Nat} {k:Int} {a b:Option Int} {e:List Cel} {p:List Int} (s:Sb P d k a b e p):Srt a b e/\e≠[]:=by
 obtain ⟨m,q,g1,g2,g3,g4⟩:=s;exact ⟨g3.srt.1,g3.srt.2 fun _=>g2⟩
end
structure Stp where
 no:Int
 at_:Nat
 n:Nod
inductive Ctx (P:List (List UInt8)) (root:Int):Nat->List Stp->Int->Option Int->Option Int->List Cel->List Cel->List Int->Prop
 | top {d:Nat} : Ctx P root d [] root none none [] [] []
 | step {d:Nat} {u:Stp} {up:List Stp} {k:Int} {lo hi m m':Option Int} {L R ea eb:List Cel} {ps pa pb ka kb ya yb:List Int} : Ctx P root (d+1) up u.no lo hi L R ps->u.n.kind=2->ndAt P u.no=some u.n->u.n.cells≠[]->kidsN u.n=ka++k::kb->keysN u.n=ya++yb->ka.length=u.at_->ya.length=u.at_->SgL (Sb P d) lo m ka ya ea pa->SgR (Sb P d) m' hi yb kb eb pb->
   Ctx P root d (u::up) k m m' (L++ea) (eb++R) (u.no::(ps++(pa++pb)))
def Tree (P:List (List UInt8)) (root:Int) (D:Nat) (es:List Cel) (ps:List Int):Prop:=∃n q,ndAt P root=some n/\Lv P D n none none es q/\(D≠0->n.cells≠[])/\ps=root::q
section
variable {P Q:List (List UInt8)} {root:Int}
theorem Ctx.congr {d:Nat} {up:List Stp} {k:Int} {lo hi:Option Int} {L R:List Cel} {ps:List Int} (c:Ctx P root d up k lo hi L R ps):(∀j∈ps,ndAt Q j=ndAt P j)->Ctx Q root d up k lo hi L R ps:=by
 induction c with
 | top=>exact fun _=>.top
 | @step d u up k lo hi m m' L R ea eb ps pa pb ka kb ya yb h1 h2 h3 h4 h5 h6 h7 h8 h9 h10 ih=>
  intro g;have gm:∀j,j∈ps\/j∈pa\/j∈pb->ndAt Q j=ndAt P j:=fun j hj=>g j (qQ _ (by simpa using hj));exact .step (ih fun j hj=>gm j (.inl hj)) h2 ((g u.no (by simp)).trans h3) h4 h5 h6 h7 h8 (h9.congr (G:=fun j=>ndAt Q j=ndAt P j) (fun k a b e p s g=>s.congr g) fun j hj=>gm j (.inr (.inl hj))) (h10.congr (G:=fun j=>ndAt Q j=ndAt P j) (fun k a b e p s g=>s.congr g) fun j hj=>gm j (.inr (.inr hj)))
theorem Ctx.plug {d:Nat} {up:List Stp} {k:Int} {lo hi:Option Int} {L R:List Cel} {ps:List Int} (c:Ctx P root d up k lo hi L R ps):up≠[]->∀ {es:List Cel} {qs:List Int},Sb P d k lo hi es qs->∃rs,Tree P root (d+up.length) (L++(es++R)) rs/\rs.Perm (ps++qs):=by
 induction c with
 | top=>exact fun h=>absurd rfl h
 | @step d u up k lo hi m m' L R ea eb ps pa pb ka kb ya yb h1 h2 h3 h4 h5 h6 h7 h8 h9 h10 ih=>
  intro _ es qs s;have hc:=h9.plug (h10.chn s);rw [<-h5,<-h6] at hc;have hl:Lv P (d+1) u.n lo hi (ea++(es++eb)) (pa++(qs++pb)):=⟨h2,hc⟩;have hp:(u.no::(pa++(qs++pb)):List Int).Perm (u.no::(pa++pb)++qs):=by
   refine List.Perm.cons _ ?_;show (pa++(qs++pb)).Perm ((pa++pb)++qs);rw [qZ];exact List.Perm.append_left _ List.perm_append_comm
  by_cases hu:up=[]
  ·subst hu;cases h1
   refine ⟨u.no::(pa++(qs++pb)),⟨u.n,_,h3,?_,fun _=>h4,rfl⟩,?_⟩
   ·have e:[]++ea++(es++(eb++[]))=ea++(es++eb):=by simp
    rw [e];exact hl
   ·simpa using hp
  ·obtain ⟨rs,t1,t2⟩:=ih hu (es:=ea++(es++eb)) (qs:=u.no::(pa++(qs++pb))) ⟨u.n,_,h3,h4,hl,rfl⟩;refine ⟨rs,?_,t2.trans ?_⟩
   ·have e1:L++ea++(es++(eb++R))=L++(ea++(es++eb)++R):=by simp
    rw [e1,qV,show d+(up.length+1)=d+1+up.length by omega];exact t1
   ·refine (List.Perm.append_left ps hp).trans ?_;show (ps++(u.no::((pa++pb)++qs))).Perm (u.no::(ps++(pa++pb))++qs);refine List.perm_middle.trans (List.Perm.cons _ ?_);rw [<-qZ];exact .refl _
end
open Go Go.HL
section
variable {cs:List Cel} {k z:Nat}
def wC (k:Nat) (c:Cel):Nat:=(encCl k c).length+4
def runC (k most:Nat):Nat->List Cel->Nat
 | _,[]=>0
 | s,c::cs=>if most<s+wC k c then 0 else runC k most (s+wC k c) cs+1
def SmC (k z:Nat) (c:Cel):Prop:=(encCl k c).length+8<=z / 4
def cutC (k z:Nat) (cs:List Cel):Nat:=if runC k (z-10) 0 cs<cs.length/\k≠1/\runC k (z-10) 0 cs=cs.length-1 then runC k (z-10) 0 cs-1 else runC k (z-10) 0 cs
def sepC (k:Nat) (cs:List Cel) (t:Nat):Cel:=if k=1 then { cel0 with key:=(cs.getD (t-1) cel0).key } else { cs.getD t cel0 with child:=0 }
def splG (k z right:Nat):Nat->List Cel->List Nod × List Cel
 | 0,_=>([],[])
 | f+1,cs=>if cs=[] then ([],[]) else if cutC k z cs<cs.length then
   (⟨k,cs.take (cutC k z cs),if k=1 then right else (cs.getD (cutC k z cs) cel0).child⟩::(splG k z right f (cs.drop (if k=1 then cutC k z cs else cutC k z cs+1))).1,
    sepC k cs (cutC k z cs)::(splG k z right f (cs.drop (if k=1 then cutC k z cs else cutC k z cs+1))).2)
  else ([⟨k,cs,right⟩],[])
def splN (n:Nod) (z:Nat):List Nod × List Cel:=if FitNd n z then ([n],[]) else splG n.kind z n.right n.cells.length n.cells
theorem runC_le {k most:Nat} : ∀ {cs:List Cel} {s:Nat},runC k most s cs<=cs.length
 | [],_=>qR _
 | c::cs,s=>by
  unfold runC;split
  ·exact qL _
  ·rw [qV];have:=runC_le (k:=k) (most:=most) (cs:=cs) (s:=s+wC k c);omega
theorem runC_fit {k most:Nat} : ∀ {cs:List Cel} {s:Nat},s<=most->s+tksC k (cs.take (runC k most s cs))<=most
 | [],s,h=>by simpa [runC,tksC] using h
 | c::cs,s,h=>by
  unfold runC;split
  ·simpa [tksC] using h
  ·rename_i h1;have:=runC_fit (k:=k) (cs:=cs) (s:=s+wC k c) (most:=most) (by omega);rw [kZ];show s+(wC k c+tksC k _)<=most;omega
theorem runC_ge {k most b:Nat} : ∀ {j:Nat} {cs:List Cel} {s:Nat},(∀c∈cs,wC k c<=b)->s+j*b<=most->min cs.length j<=runC k most s cs
 | 0,_,_,_,_=>by omega
 | j+1,[],_,_,_=>qL _
 | j+1,c::cs,s,h,hs=>by
  have hc:=h c (by simp);rw [Nat.succ_mul] at hs;unfold runC;rw [if_neg (by omega),qV];have:=runC_ge (k:=k) (most:=most) (b:=b) (j:=j) (cs:=cs) (s:=s+wC k c) (fun c hc=>h c (qQ _ hc)) (by omega);omega
theorem tksC_take {t s:Nat} (h:t<=s):tksC k (cs.take t)<=tksC k (cs.take s):=by
 have e:cs.take s=cs.take t++(cs.take s).drop t:=by
  conv=>lhs;rw [<-qT t (cs.take s)]
  rw [List.take_take,Nat.min_eq_left h]
 rw [e,tksC_app];omega
theorem cutC_ok (hz:256<=z) (hs:∀c∈cs,SmC k z c) (hc:cs≠[]):cutC k z cs<=cs.length/\1<=cutC k z cs/\tksC k (cs.take (cutC k z cs))+10<=z/\(k≠1->cutC k z cs<cs.length->cutC k z cs+2<=cs.length):=by
 have hl:0<cs.length:=kC.2 hc;have h1:=runC_le (k:=k) (most:=z-10) (cs:=cs) (s:=0);have h2:=runC_fit (k:=k) (most:=z-10) (cs:=cs) (s:=0) (by omega);have h3:=runC_ge (k:=k) (most:=z-10) (b:=z / 4-4) (j:=3) (cs:=cs) (s:=0) (fun c hc=>by have:=hs c hc;unfold SmC at this;unfold wC;omega) (by omega);have h4:=tksC_take (k:=k) (cs:=cs) (t:=runC k (z-10) 0 cs-1) (s:=runC k (z-10) 0 cs) (by omega);unfold cutC;split
 ·refine ⟨by omega,by omega,by omega,fun _ _=>by omega⟩
 ·refine ⟨by omega,by omega,by omega,fun hk hlt=>by omega⟩
def PrtOk (P:List (List UInt8)) (z d:Nat):Nod->Option Int->Option Int->List Cel->List Int->Prop:=fun n a b e q=>Lv P d n a b e q/\n.cells≠[]/\OkNd n/\FitNd n z/\∀c∈n.cells,SmC n.kind z c
theorem splG_cut {right f:Nat} (hc:cs≠[]) (h:cutC k z cs<cs.length):splG k z right (f+1) cs=(⟨k,cs.take (cutC k z cs),if k=1 then right else (cs.getD (cutC k z cs) cel0).child⟩::(splG k z right f (cs.drop (if k=1 then cutC k z cs else cutC k z cs+1))).1,sepC k cs (cutC k z cs)::(splG k z right f (cs.drop (if k=1 then cutC k z cs else cutC k z cs+1))).2):=by
 conv=>lhs;unfold splG
 rw [if_neg hc,if_pos h]
theorem splG_end {right f:Nat} (hc:cs≠[]) (h:¬cutC k z cs<cs.length):splG k z right (f+1) cs=([⟨k,cs,right⟩],[]):=by
 conv=>lhs;unfold splG
 rw [if_neg hc,if_neg h]
theorem getD_c {t:Nat} (h:t<cs.length):cs.getD t cel0=cs[t]:=by rw [List.getD_eq_getElem?_getD,List.getElem?_eq_getElem h];rfl
theorem splG_leaf {P:List (List UInt8)} {z:Nat} (hz:256<=z) {hi:Option Int} : ∀(f:Nat) (cs:List Cel) (lo:Option Int),cs.length<=f->cs≠[]->Srt lo hi cs->(∀c∈cs,okCl 1 c)->(∀c∈cs,SmC 1 z c)->TCh (PrtOk P z 0) lo hi (splG 1 z 0 f cs).1 ((splG 1 z 0 f cs).2.map Cel.key) cs []
 | 0,cs,_,h,hc,_,_,_=>absurd (qW (by omega)) hc
 | f+1,cs,lo,h,hc,hs,ho,hm=>by
  obtain ⟨h1,h2,h3,_⟩:=cutC_ok hz hm hc;have hok:∀ {l:List Cel},(∀c∈l,c∈cs)->OkNd ⟨1,l,0⟩:=fun hl=>⟨rfl,rfl,fun c hc=>ho c (hl c hc)⟩;by_cases ht:cutC 1 z cs<cs.length
  ·rw [splG_cut hc ht];generalize cutC 1 z cs=t at h1 h2 h3 ht⊢;have hk:(sepC 1 cs t).key=cs[t-1].key:=by unfold sepC;rw [if_pos rfl,getD_c (by omega)]
   have hpw:=List.pairwise_iff_getElem.1 hs.s;have hlt:∀i j (hi:i<cs.length) (hj:j<cs.length),i<j->cs[i].key<cs[j].key:=fun i j hi hj hij=>by
    have:=hpw i j (by simpa using hi) (by simpa using hj) hij;simpa using this
   show TCh _ lo hi (⟨1,cs.take t,0⟩::(splG 1 z 0 f (cs.drop t)).1) ((sepC 1 cs t).key::(splG 1 z 0 f (cs.drop t)).2.map Cel.key) cs [];rw [hk];have h4:Srt lo (some cs[t-1].key) (cs.take t):=⟨by rw [List.map_take];exact hs.s.sublist (List.take_sublist _ _),fun c hc=>⟨(hs.b c (qC hc)).1,fun b hb=>by
    injection hb with hb;subst hb;obtain ⟨i,hi,rfl⟩:=qO.1 hc;rw [List.getElem_take];have hi':i<t:=by rw [qJ] at hi;omega
    by_cases e:i=t-1
    ·subst e;exact Int.le_refl _
    ·exact Int.le_of_lt (hlt i (t-1) (by omega) (by omega) (by omega))⟩⟩
   have h5:Srt (some cs[t-1].key) hi (cs.drop t):=⟨by rw [List.map_drop];exact hs.s.sublist (List.drop_sublist _ _),fun c hc=>⟨fun a ha=>by
    injection ha with ha;subst ha;obtain ⟨i,hi,rfl⟩:=qO.1 hc;rw [List.getElem_drop];rw [qH] at hi;exact hlt (t-1) (t+i) (by omega) (by omega) (by omega),(hs.b c (kQ hc)).2⟩⟩
   have ih:=splG_leaf (P:=P) hz (hi:=hi) f (cs.drop t) (some cs[t-1].key) (by rw [qH];omega) (by simp;omega) h5 (fun c hc=>ho c (kQ hc)) (fun c hc=>hm c (kQ hc));have:=TCh.cons (S:=PrtOk P z 0) (k:=⟨1,cs.take t,0⟩) (e1:=cs.take t) (p1:=[]) ⟨⟨rfl,rfl,rfl,h4.s,h4.b⟩,(by simp;exact ⟨by omega,hc⟩:cs.take t≠[]),hok fun c hc=>qC hc,h3,fun c hc=>hm c (qC hc)⟩ ih;rwa [qT,kX] at this
  ·rw [splG_end hc ht];have h6:cs.take (cutC 1 z cs)=cs:=qY (by omega);rw [h6] at h3;exact .one ⟨⟨rfl,rfl,rfl,hs.s,hs.b⟩,hc,hok fun _ h=>h,h3,hm⟩
theorem splG_in {P:List (List UInt8)} {z d right:Nat} (hz:256<=z) (hr:pgNo right=true) {hi:Option Int} : ∀(f:Nat) (cs:List Cel) (lo:Option Int) (es:List Cel) (ps:List Int),cs.length<=f->cs≠[]->TCh (Sb P d) lo hi (cs.map (fun c=>(c.child:Int))++[(right:Int)]) (cs.map Cel.key) es ps->(∀c∈cs,okCl 2 c)->(∀c∈cs,SmC 2 z c)->TCh (PrtOk P z (d+1)) lo hi (splG 2 z right f cs).1 ((splG 2 z right f cs).2.map Cel.key) es ps
 | 0,cs,_,_,_,h,hc,_,_,_=>absurd (qW (by omega)) hc
 | f+1,cs,lo,es,ps,h,hc,hs,ho,hm=>by
  obtain ⟨h1,h2,h3,h4⟩:=cutC_ok hz hm hc;by_cases ht:cutC 2 z cs<cs.length
  ·have h4:=h4 (by decide) ht;rw [splG_cut hc ht];generalize cutC 2 z cs=t at h1 h2 h3 h4 ht⊢;have hg:=getD_c ht;have hk:(sepC 2 cs t).key=cs[t].key:=by unfold sepC;rw [if_neg (by decide),hg]
   show TCh _ lo hi (⟨2,cs.take t,(cs.getD t cel0).child⟩::(splG 2 z right f (cs.drop (t+1))).1) ((sepC 2 cs t).key::(splG 2 z right f (cs.drop (t+1))).2.map Cel.key) es ps;rw [hk,hg];have hcs:cs=cs.take t++cs[t]::cs.drop (t+1):=by rw [<-qF ht,qT]
   have e1:cs.map (fun c=>(c.child:Int))++[(right:Int)]=((cs.take t).map (fun c=>(c.child:Int))++[(cs[t].child:Int)])++((cs.drop (t+1)).map (fun c=>(c.child:Int))++[(right:Int)]):=by
    exact (congrArg (fun l:List Cel=>l.map (fun c=>(c.child:Int))++[(right:Int)]) hcs).trans (by simp only [kJ,kE,qZ,List.cons_append,kI])
   have e2:cs.map Cel.key=(cs.take t).map Cel.key++cs[t].key::(cs.drop (t+1)).map Cel.key:=by
    exact (congrArg (List.map Cel.key) hcs).trans (by simp only [kJ,kE])
   obtain ⟨ea,eb,pa,pb,c1,c2,rfl,rfl⟩:=hs.split e1 e2 (by simp);have ih:=splG_in hz hr (hi:=hi) f (cs.drop (t+1)) (some cs[t].key) eb pb (by rw [qH];omega) (by simp;omega) c2 (fun c hc=>ho c (kQ hc)) (fun c hc=>hm c (kQ hc));have hch:pgNo cs[t].child=true:=(ho _ (qP ht)).2.1;exact .cons ⟨⟨rfl,c1⟩,(by simp;exact ⟨by omega,hc⟩:cs.take t≠[]),⟨rfl,hch,fun c hc=>ho c (qC hc)⟩,h3,fun c hc=>hm c (qC hc)⟩ ih
  ·rw [splG_end hc ht];have h6:cs.take (cutC 2 z cs)=cs:=qY (by omega);rw [h6] at h3;exact .one ⟨⟨rfl,hs⟩,hc,⟨rfl,hr,ho⟩,h3,hm⟩
theorem splN_ok {P:List (List UInt8)} {z d:Nat} (hz:256<=z) {n:Nod} {lo hi:Option Int} {es:List Cel} {ps:List Int} (hl:Lv P d n lo hi es ps) (hc:n.cells≠[]) (ho:OkNd n) (hm:∀c∈n.cells,SmC n.kind z c):TCh (PrtOk P z d) lo hi (splN n z).1 ((splN n z).2.map Cel.key) es ps:=by
 unfold splN;split
 ·rename_i hf;exact .one ⟨hl,hc,ho,hf,hm⟩
 ·obtain ⟨k,cs,r⟩:=n;cases d with
  | zero=>
   obtain ⟨h1,h2,h3,h4,h5⟩:=hl;have h1:k=1:=h1;subst h1;have hr:r=0:=ho.r;subst hr h2 h3;exact splG_leaf hz _ _ lo (qR _) hc ⟨h4,h5⟩ ho.c hm
  | succ d=>
   obtain ⟨h1,h2⟩:=hl;have h1:k=2:=h1;subst h1;exact splG_in hz ho.r cs.length cs lo es ps (qR _) hc h2 ho.c hm
end
open Go Go.HL
structure Own_ (w:St) (Q:Trk) (X:List Int):Prop where
 fr:FrS w Q
 mt:Met w.now.length (flatT Q++X)
 ln:(flatT Q).length+X.length+1=w.now.length
structure KX (w w':St) (Y:List Int):Prop where
 z:w'.z=w.z
 su:w'.sure=w.sure
 sv:w'.saves=w.saves
 pg:∀k∈Y,pageAt w'.now k=pageAt w.now k
theorem KX.refl (w:St) (Y:List Int):KX w w Y:=⟨rfl,rfl,rfl,fun _ _=>rfl⟩
theorem KX.mono {w w':St} {Y Z:List Int} (k:KX w w' Y) (h:∀j∈Z,j∈Y):KX w w' Z:=⟨k.z,k.su,k.sv,fun j hj=>k.pg j (h j hj)⟩
theorem KX.trans {w w1 w2:St} {Y Z:List Int} (k:KX w w1 Y) (q:KX w1 w2 Z) (h:∀j∈Y,j∈Z):KX w w2 Y:=⟨q.z.trans k.z,q.su.trans k.su,q.sv.trans k.sv,fun j hj=>(q.pg j (h j hj)).trans (k.pg j hj)⟩
theorem KX.nd {w w':St} {Y:List Int} (k:KX w w' Y) {j:Int} (h:j∈Y):ndAt w'.now j=ndAt w.now j:=congrArg decNd (k.pg j h)
theorem tkL_len:∀ {n N:Nat} {Q:Trk},(tkL n N Q).1.length=n
 | 0,_,_=>rfl
 | n+1,N,Q=>by rw [tkL_s];show (_::_).length=_;rw [qV,tkL_len]
theorem tkL_nil:∀ {n N:Nat},(tkL n N []).2.1=[]
 | 0,_=>rfl
 | n+1,N=>by rw [tkL_s];exact tkL_nil
theorem tkL_max:∀ {n N:Nat} {Q:Trk},(tkL n N Q).2.1≠[]->(tkL n N Q).2.2=N
 | 0,_,_,_=>rfl
 | n+1,N,Q,h=>by
  by_cases hq:Q=[]
  ·subst hq;exact absurd tkL_nil h
  ·rw [tkL_s] at h⊢;exact (tkL_max h).trans (tkT_perm hq).2
section
variable {w:St} {Q:Trk} {X Y:List Int} {no:Int}
theorem Own_.perm (o:Own_ w Q X) (p:Y.Perm X):Own_ w Q Y:=⟨o.fr,o.mt.perm (p.append_left _),by rw [p.length_eq];exact o.ln⟩
theorem Own_.nx (o:Own_ w Q X):X.Nodup:=(kT.1 o.mt.nd).2.1
theorem Own_.rg (o:Own_ w Q X) {k:Int} (h:k∈X):2<=k/\k<=(w.now.length:Int)/\k∉flatT Q:=
 have:=o.mt.rg k (qI _ h)
 ⟨this.1,this.2,fun hf=>(kT.1 o.mt.nd).2.2 k hf k h rfl⟩
theorem Own_.plen (o:Own_ w Q X) {k:Int} (h:k∈X):(pageAt w.now k).length=w.z:=by
 have:=o.rg h;have hl:(k-1).toNat<w.now.length:=by omega
 unfold pageAt;rw [List.getD_eq_getElem?_getD,List.getElem?_eq_getElem hl];exact o.fr.len _ (qP hl)
theorem Own_.start (f:FrS w []) (h:w.now.length=1):Own_ w [] []:=⟨f,⟨by simp [flatT],by simp [flatT]⟩,by rw [h];rfl⟩
theorem Own_.take (o:Own_ w Q X) (hm:(X.length+2)*w.z<=16777216):∃w' Q' no,takeF w=(w',no,0)/\Own_ w' Q' (no::X)/\KX w w' X/\w'.now.length<=max w.now.length (X.length+2):=by
 obtain ⟨w',h1,h2,h3,h4,k⟩:=o.fr.take fun hq=>by
  subst hq;have e5:(flatT ([]:Trk)).length=0:=rfl;have:=o.ln;rw [show w.now.length+1=X.length+2 by omega];exact hm
 have hin:=o.fr.tkN_in;have hle:=tkT_le (N:=w.now.length) (T:=Q);have hX:∀j∈X,¬(j∈flatT Q\/j=(tkT w.now.length Q).1):=fun j hj h=>h.elim (o.rg hj).2.2 fun e=>by
  by_cases hq:Q=[]
  ·subst hq;have:=(o.rg hj).2.1;have e2:(tkT w.now.length []).1=(w.now.length:Int)+1:=rfl;omega
  ·exact (o.rg hj).2.2 ((tkT_perm (N:=w.now.length) hq).1.mem_iff.2 (by rw [e];simp))
 have hkx:KX w w' X:=⟨k.z,k.su,k.sv,fun j hj=>k.pg j (o.rg hj).1 (hX j hj)⟩;have hln:w'.now.length<=max w.now.length (X.length+2):=by
  by_cases hq:Q=[]
  ·subst hq;have e4:(tkT w.now.length ([]:Trk)).2.2=w.now.length+1:=rfl;have e5:(flatT ([]:Trk)).length=0:=rfl;have:=o.ln;omega
  ·have p:=(tkT_perm (N:=w.now.length) hq).2;omega
 refine ⟨w',_,_,h1,⟨h2,?_,?_⟩,hkx,hln⟩
 ·by_cases hq:Q=[]
  ·subst hq;have e2:(tkT w.now.length ([]:Trk)).1=(w.now.length:Int)+1:=rfl;have e3:(tkT w.now.length ([]:Trk)).2.1=[]:=rfl;have e4:(tkT w.now.length ([]:Trk)).2.2=w.now.length+1:=rfl;rw [h3,e4,e3,e2];have hm:Met w.now.length X:=o.mt;show Met (w.now.length+1) (((w.now.length:Int)+1)::X);exact (hm.grow (Nat.le_succ _)).cons (by have:=o.fr.n1;omega) (by omega) fun h=>by have:=(hm.rg _ h).2;omega
  ·have p:=(tkT_perm (N:=w.now.length) hq);rw [h3,p.2];exact o.mt.perm ((List.perm_middle).trans ((p.1.symm).append_right X))
 ·by_cases hq:Q=[]
  ·subst hq;have e3:(tkT w.now.length ([]:Trk)).2.1=[]:=rfl;have e4:(tkT w.now.length ([]:Trk)).2.2=w.now.length+1:=rfl;have:=o.ln;rw [h3,e4,e3,qV];omega
  ·have p:=(tkT_perm (N:=w.now.length) hq);have:=o.ln;have hl:=p.1.length_eq;rw [qV] at hl;rw [h3,p.2,qV];omega
theorem Own_.give (o:Own_ w Q (no::X)):∃w' Q',giveF w no=(w',0)/\Own_ w' Q' X/\KX w w' X/\w'.now.length=w.now.length:=by
 have hr:=o.rg (k:=no) (by simp);obtain ⟨w',h1,h2,h3,k⟩:=o.fr.give hr.1 hr.2.1 hr.2.2;have p:=gvT_perm (rm:=(w.z-8) / 4) (no:=no) (T:=Q);refine ⟨w',_,h1,⟨h2,?_,?_⟩,⟨k.z,k.su,k.sv,fun j hj=>k.pg j (o.rg (qQ _ hj)).1 fun h=>h.elim (o.rg (qQ _ hj)).2.2 fun e=>?_⟩,h3⟩
 ·rw [h3];exact o.mt.perm ((p.append_right X).trans (List.perm_middle.symm))
 ·have:=p.length_eq;have:=o.ln;simp only [qV] at *;omega
 ·subst e;exact (List.nodup_cons.1 o.nx).1 hj
theorem Own_.write (o:Own_ w Q (no::X)) {b:List UInt8} (hb:b.length=w.z):∃w',w.write no b=(w',0)/\Own_ w' Q (no::X)/\pageAt w'.now no=b/\KX w w' X/\w'.now.length=w.now.length:=by
 have hr:=o.rg (k:=no) (by simp);obtain ⟨w',h1,h2,h3,h4,k⟩:=o.fr.write hr.1 hr.2.1 hr.2.2 hb;exact ⟨w',h1,⟨h2,by rw [h3];exact o.mt,by rw [h3];exact o.ln⟩,h4,⟨k.z,k.su,k.sv,fun j hj=>k.pg j (o.rg (qQ _ hj)).1 fun e=>by subst e;exact (List.nodup_cons.1 o.nx).1 hj⟩,h3⟩
theorem Own_.put (o:Own_ w Q X) {b:List UInt8} (hb:b.length<=16384) (hm:(w.now.length+(parts b (w.z-4)).length)*w.z<=16777216):∃w' Q' pl,putF w b=(w',pl.getD 0 0,0)/\Own_ w' Q' (pl++X)/\ChL w'.now w.z (pl.getD 0 0) pl b/\KX w w' X/\w'.now.length<=max w.now.length ((pl++X).length+1)/\pl.length=(parts b (w.z-4)).length:=by
 obtain ⟨w',h1,h2,h3,h4,h5,h6,k,g1,g2,g3,g4⟩:=o.fr.put hb hm;have hl:(tkL (parts b (w.z-4)).length w.now.length Q).1.length=(parts b (w.z-4)).length:=tkL_len;refine ⟨w',_,_,h1,⟨h2,⟨?_,?_⟩,?_⟩,h6,⟨k.z,k.su,k.sv,fun j hj=>k.pg j (o.rg hj).1 fun h=>h.elim (o.rg hj).2.2 fun e=>?_⟩,?_,hl⟩
 ·refine kT.2 ⟨h2.mt.nd,kT.2 ⟨g2,o.nx,fun a ha c hc e=>?_⟩,fun a ha c hc e=>?_⟩
  ·subst e;rcases (g1 a ha).2.2.2 with h | h
   ·exact (o.rg hc).2.2 h
   ·have:=(o.rg hc).2.1;omega
  ·subst e;rcases qD.1 hc with h | h
   ·exact (g1 a h).2.2.1 ha
   ·exact (o.rg h).2.2 (g4 a ha)
 ·intro j hj;rcases qD.1 hj with h | h
  ·exact h2.mt.rg j h
  ·rcases qD.1 h with h | h
   ·exact ⟨(g1 j h).1,(g1 j h).2.1⟩
   ·have:=o.rg h;omega
 ·have:=o.ln;rw [qA,hl];omega
 ·rcases (g1 j e).2.2.2 with h | h
  ·exact (o.rg hj).2.2 h
  ·have:=(o.rg hj).2.1;omega
 ·by_cases hq:(tkL (parts b (w.z-4)).length w.now.length Q).2.1=[]
  ·have:=o.ln;rw [hq] at g3;have e5:(flatT ([]:Trk)).length=0:=rfl;rw [qA,hl];omega
  ·have:=tkL_max hq;omega
theorem Own_.drop {l:List Int} (o:Own_ w Q (l++X)) {a:Int} {b:List UInt8} (h:ChL w.now w.z a l b) (hb:b.length<=16384):∃w' Q',dropF w a (b.length:Int)=(w',0)/\Own_ w' Q' X/\KX w w' X/\w'.now.length=w.now.length:=by
 have hn:=kT.1 o.nx;obtain ⟨w',h1,h2,h3,k⟩:=o.fr.drop h hn.1 (fun k hk=>o.rg (qU _ hk)) hb;have p:=gvL_perm (rm:=(w.z-8) / 4) (l:=l) (T:=Q);refine ⟨w',_,h1,⟨h2,?_,?_⟩,⟨k.z,k.su,k.sv,fun j hj=>k.pg j (o.rg (qI _ hj)).1 fun h=>h.elim (o.rg (qI _ hj)).2.2 fun e=>hn.2.2 j e j hj rfl⟩,h3⟩
 ·rw [h3];refine o.mt.perm ((p.append_right X).trans ?_);rw [qZ];refine (List.perm_append_comm_assoc l (flatT Q) X).trans (.refl _)
 ·have:=p.length_eq;have:=o.ln;simp only [qA] at *;omega
end
open Go Go.HL
def celK (p:Int × Int):Cel:=⟨p.2,p.1.toNat,0,[],0⟩
def innN (ks ys:List Int):Nod:=⟨2,(ks.zip ys).map celK,(ks.getLast?.getD 0).toNat⟩
theorem innN_len {ks ys:List Int} (h:ks.length=ys.length+1):(innN ks ys).cells.length=ys.length:=by unfold innN;simp;omega
theorem innN_keys {ks ys:List Int} (h:ks.length=ys.length+1):keysN (innN ks ys)=ys:=by
 unfold keysN innN;rw [List.map_map,show Cel.key∘celK=Prod.snd from rfl,List.map_snd_zip (by omega)]
theorem innN_kids:∀ {ks ys:List Int},ks.length=ys.length+1->(∀k∈ks,0<=k)->kidsN (innN ks ys)=ks
 | [],_,h,_=>by simp at h
 | [k],ys,h,h0=>by
  obtain rfl:ys=[]:=qW (by simpa using h);have:=h0 k (by simp);show [((k.toNat:Nat):Int)]=[k];rw [Int.toNat_of_nonneg this]
 | k::k2::ks,[],h,_=>by simp at h
 | k::k2::ks,y::ys,h,h0=>by
  have ih:=innN_kids (ks:=k2::ks) (ys:=ys) (by simpa using h) fun j hj=>h0 j (qQ _ hj);have:=h0 k (by simp);show ((k.toNat:Nat):Int)::kidsN (innN (k2::ks) ys)=_;rw [ih,Int.toNat_of_nonneg this]
structure Gap (P:List (List UInt8)) (d:Nat) (x:Nod) (lo hi m m':Option Int) (ka km kb ya ym yb:List Int) (ea eb:List Cel) (pa pb:List Int):Prop where
 k:x.kind=2
 c:kidsN x=ka++(km++kb)
 y:keysN x=ya++(ym++yb)
 l:ka.length=ya.length
 n:km.length=ym.length+1
 a:SgL (Sb P d) lo m ka ya ea pa
 b:SgR (Sb P d) m' hi yb kb eb pb
section
variable {P P':List (List UInt8)} {d:Nat} {n:Nod} {lo hi m m':Option Int} {ka km kb ya ym yb nos bt:List Int} {ea eb es:List Cel} {pa pb ps:List Int}
theorem SgL.len {S:TR} {lo m:Option Int} {ka ya pa:List Int} {ea:List Cel} (s:SgL S lo m ka ya ea pa):ka.length=ya.length:=by
 induction s with
 | nil=>rfl
 | cons _ _ ih=>simp [ih]
theorem SgR.len {S:TR} {lo m:Option Int} {ka ya pa:List Int} {ea:List Cel} (s:SgR S lo m ya ka ea pa):ka.length=ya.length:=by
 induction s with
 | nil=>rfl
 | cons _ _ ih=>simp [ih]
theorem Sb.nn {k:Int} {a b:Option Int} {e:List Cel} {p:List Int} (s:Sb P d k a b e p):k∈p:=by obtain ⟨_,q,_,_,_,rfl⟩:=s;simp
theorem SgL.sub (s:SgL (Sb P d) lo m ka ya ea pa):∀k∈ka,k∈pa:=by
  induction s with
  | nil=>simp
  | cons h _ ih => intro k hk; rcases qK.1 hk with e | hk
                   · subst e;exact qU _ h.nn
                   · exact qI _ (ih k hk)
theorem SgR.sub (s:SgR (Sb P d) m hi yb kb eb pb):∀k∈kb,k∈pb:=by
  induction s with
  | nil=>simp
  | cons h _ ih => intro k hk; rcases qK.1 hk with e | hk
                   · subst e;exact qU _ h.nn
                   · exact qI _ (ih k hk)
theorem TCh.sub {ks ys:List Int} (s:TCh (Sb P d) lo hi ks ys es ps):∀k∈ks,k∈ps:=by
  induction s with
  | one h=>intro k hk;rw [qS.1 hk];exact h.nn
  | cons h _ ih => intro k hk; rcases qK.1 hk with e | hk
                   · subst e;exact qU _ h.nn
                   · exact qI _ (ih k hk)
theorem Gap.congr (g:Gap P d n lo hi m m' ka km kb ya ym yb ea eb pa pb) (h:∀k,k∈pa\/k∈pb->ndAt P' k=ndAt P k):Gap P' d n lo hi m m' ka km kb ya ym yb ea eb pa pb:=
 ⟨g.k,g.c,g.y,g.l,g.n,g.a.congr (G:=fun j=>ndAt P' j=ndAt P j) (fun _ _ _ _ _ s e=>s.congr e) fun j hj=>h j (.inl hj),g.b.congr (G:=fun j=>ndAt P' j=ndAt P j) (fun _ _ _ _ _ s e=>s.congr e) fun j hj=>h j (.inr hj)⟩
theorem Gap.fill (g:Gap P d n lo hi m m' ka km kb ya ym yb ea eb pa pb) (t:TCh (Sb P d) m m' nos bt es ps) (h0:∀k,k∈pa\/k∈ps\/k∈pb->2<=k):Lv P (d+1) (innN (ka++(nos++kb)) (ya++(bt++yb))) lo hi (ea++(es++eb)) (pa++(ps++pb)):=by
 have hc:=g.a.plug (t.endR g.b);have hl:=hc.len;refine ⟨rfl,?_⟩;rw [innN_keys hl,innN_kids hl]
 ·exact hc
 ·intro k hk;rcases qD.1 hk with hk | hk
  ·have:=h0 k (.inl (g.a.sub k hk));omega
  ·rcases qD.1 hk with hk | hk
   ·have:=h0 k (.inr (.inl (t.sub k hk)));omega
   ·have:=h0 k (.inr (.inr (g.b.sub k hk)));omega
theorem SgL.last {S:TR} (s:SgL S lo m ka ya ea pa):ka≠[]->∃ka' k ya' y m0 ea' e pa' p,ka=ka'++[k]/\ya=ya'++[y]/\ea=ea'++e/\pa=pa'++p/\m=some y/\SgL S lo m0 ka' ya' ea' pa'/\S k m0 (some y) e p:=by
 induction s with
 | nil=>exact fun h=>absurd rfl h
 | @cons k y lo m ks ys e1 e2 p1 p2 h d ih=>
  intro _;by_cases hk:ks=[]
  ·subst hk;cases d
   exact ⟨[],k,[],y,lo,[],e1,[],p1,rfl,rfl,by simp,by simp,rfl,.nil,h⟩
  ·obtain ⟨ka',k',ya',y',m0,ea',e,pa',p,rfl,rfl,rfl,rfl,h5,h6,h7⟩:=ih hk;exact ⟨k::ka',k',y::ya',y',m0,e1++ea',e,p1++pa',p,rfl,rfl,(qZ ..).symm,(qZ ..).symm,h5,.cons h h6,h7⟩
theorem Gap.left {k:Int} (g:Gap P d n lo hi m m' ka [k] kb ya [] yb ea eb pa pb) (h:ka≠[]):∃ka' k' ya' y m0 ea' e pa' p,ka=ka'++[k']/\ya=ya'++[y]/\ea=ea'++e/\pa=pa'++p/\m=some y/\Gap P d n lo hi m0 m' ka' [k',k] kb ya' [y] yb ea' eb pa' pb/\Sb P d k' m0 (some y) e p:=by
 obtain ⟨ka',k',ya',y,m0,ea',e,pa',p,rfl,rfl,rfl,rfl,h5,h6,h7⟩:=g.a.last h;exact ⟨ka',k',ya',y,m0,ea',e,pa',p,rfl,rfl,rfl,rfl,h5,⟨g.k,by rw [g.c];simp,by rw [g.y];simp,h6.len,rfl,h6,g.b⟩,h7⟩
theorem Gap.right {k:Int} (g:Gap P d n lo hi m m' ka [k] kb ya [] yb ea eb pa pb) (h:kb≠[]):∃k' kb' y yb' m0 e eb' p pb',kb=k'::kb'/\yb=y::yb'/\eb=e++eb'/\pb=p++pb'/\m'=some y/\Gap P d n lo hi m m0 ka [k,k'] kb' ya [y] yb' ea eb' pa pb'/\Sb P d k' (some y) m0 e p:=by
 obtain ⟨g1,g2,g3,g4,g5,ga,gb⟩:=g;cases gb with
 | nil=>exact absurd rfl h
 | @cons k' y m hi ks ys e1 e2 p1 p2 s r=>exact ⟨k',ks,y,ys,_,e1,e2,p1,p2,rfl,rfl,rfl,rfl,rfl,⟨g1,g2,g3,g4,rfl,ga,r⟩,s⟩
def joinN (a:Nod) (y:Int) (b:Nod):Nod:=⟨a.kind,if a.kind=1 then a.cells++b.cells else a.cells++(⟨y,a.right,0,[],0⟩::b.cells),b.right⟩
theorem Lv.join {a b:Nod} {y:Int} {e1 e2:List Cel} {p1 p2:List Int} (h1:Lv P d a lo (some y) e1 p1) (h2:Lv P d b (some y) hi e2 p2) (hy:∀z,lo=some z->z<=y) (hy2:∀z,hi=some z->y<=z):Lv P d (joinN a y b) lo hi (e1++e2) (p1++p2):=by
 cases d with
 | zero=>
  obtain ⟨a1,rfl,rfl,a4,a5⟩:=h1;obtain ⟨b1,rfl,rfl,b4,b5⟩:=h2;have e:(joinN a y b).cells=a.cells++b.cells:=if_pos a1;refine ⟨a1,e.symm,rfl,?_,?_⟩
  ·rw [e,kJ];refine List.pairwise_append.2 ⟨a4,b4,fun x hx z hz=>?_⟩;obtain ⟨c,hc,rfl⟩:=kS.1 hx;obtain ⟨c',hc',rfl⟩:=kS.1 hz;have:=(a5 c hc).2 y rfl;have:=(b5 c' hc').1 y rfl;omega
  ·rw [e];intro c hc;rcases qD.1 hc with hc | hc
   ·exact ⟨(a5 c hc).1,fun z hz=>by have:=(a5 c hc).2 y rfl;have:=hy2 z hz;omega⟩
   ·exact ⟨fun z hz=>by have:=(b5 c hc).1 y rfl;have:=hy z hz;omega,(b5 c hc).2⟩
 | succ d=>
  obtain ⟨a1,a2⟩:=h1;obtain ⟨b1,b2⟩:=h2;have hk:a.kind≠1:=by omega
  have e:(joinN a y b).cells=a.cells++(⟨y,a.right,0,[],0⟩::b.cells):=if_neg hk;refine ⟨a1,?_⟩;have hks:kidsN (joinN a y b)=kidsN a++kidsN b:=by unfold kidsN;rw [e];simp [joinN]
  have hys:keysN (joinN a y b)=keysN a++y::keysN b:=by unfold keysN;rw [e];simp
  rw [hks,hys];exact a2.app rfl b2
theorem TCh.laid {z:Nat} {pts:List Nod} {ys:List Int} (t:TCh (PrtOk P z d) lo hi pts ys es ps):∀ {nos:List Int},nos.length=pts.length->(∀p∈nos.zip pts,ndAt P' p.1=some p.2)->(∀k∈ps,ndAt P' k=ndAt P k)->∃ps',TCh (Sb P' d) lo hi nos ys es ps'/\ps'.Perm (nos++ps):=by
 induction t with
 | @one k lo hi e p h=>
  intro nos hl hn hp;obtain ⟨no,rfl⟩:=List.length_eq_one_iff.1 hl;exact ⟨no::p,.one ⟨k,p,hn (no,k) (by simp),h.2.1,h.1.congr hp,rfl⟩,.refl _⟩
 | @cons k y lo hi ks ys e1 e2 p1 p2 h d ih=>
  intro nos hl hn hp;cases nos with
  | nil=>simp at hl
  | cons no nos=>
   obtain ⟨ps',h1,h2⟩:=ih (nos:=nos) (by simpa using hl) (fun p hq=>hn p (by simp [hq])) fun k hk=>hp k (qI _ hk);refine ⟨(no::p1)++ps',.cons ⟨k,p1,hn (no,k) (by simp),h.2.1,h.1.congr fun k hk=>hp k (qU _ hk),rfl⟩ h1,?_⟩;show (no::(p1++ps')).Perm (no::(nos++(p1++p2)));refine List.Perm.cons _ (((h2.append_left p1)).trans ?_);exact List.perm_append_comm_assoc p1 nos p2
end
open Go Go.HL
section
variable {z k:Nat} {c:Cel} {cs:List Cel}
theorem tksC_snoc {t:Nat} (h:t<cs.length):tksC k (cs.take (t+1))=tksC k (cs.take t)+wC k cs[t]:=by
 rw [qG h,tksC_app];rfl
theorem tksC_split (t:Nat):tksC k cs=tksC k (cs.take t)+tksC k (cs.drop t):=by rw [<-tksC_app,qT]
theorem runC_stop {k most:Nat} : ∀ {cs:List Cel} {s:Nat},runC k most s cs<cs.length->most<s+tksC k (cs.take (runC k most s cs+1))
 | [],_,h=>by simp [runC] at h
 | c::cs,s,h=>by
  unfold runC at h⊢;split at h
  ·rename_i h1;rw [if_pos h1];show most<s+(wC k c+tksC k (cs.take 0));omega
  ·rename_i h1;rw [if_neg h1];have:=runC_stop (k:=k) (most:=most) (cs:=cs) (s:=s+wC k c) (by simpa using h);rw [kZ];show most<s+(wC k c+tksC k _);omega
theorem SmC.w (h:SmC k z c):wC k c+4<=z / 4:=by unfold SmC at h;unfold wC;omega
theorem cutC_big (hs:∀c∈cs,SmC k z c) (hz:256<=z) (h:cutC k z cs<cs.length):z / 2<=tksC k (cs.take (cutC k z cs))+8:=by
 unfold cutC at h⊢;split
 ·rename_i h1;rw [if_pos h1] at h;have h2:=runC_stop h1.1;rw [tksC_snoc h1.1] at h2;have h3:=(hs _ (qP h1.1)).w;by_cases h4:runC k (z-10) 0 cs=0
  ·have h5:tksC k (cs.take (runC k (z-10) 0 cs))=0:=by rw [h4];rfl
   omega
  ·have h5:runC k (z-10) 0 cs-1<cs.length:=h;have h6:=tksC_snoc (k:=k) h5;rw [show runC k (z-10) 0 cs-1+1=runC k (z-10) 0 cs by omega] at h6;have h7:=(hs _ (qP h5)).w;omega
 ·rename_i h1;rw [if_neg h1] at h;have h2:=runC_stop h;rw [tksC_snoc h] at h2;have h3:=(hs _ (qP h)).w;omega
theorem splG_few {k z r:Nat} (hz:256<=z):∀ {f:Nat} {cs:List Cel},(∀c∈cs,SmC k z c)->((splG k z r f cs).1.length-1)*(z / 2-8)<=tksC k cs
 | 0,_,_=>by unfold splG;simp
 | f+1,cs,hs=>by
  by_cases hc:cs=[]
  ·subst hc;unfold splG;simp
  ·by_cases ht:cutC k z cs<cs.length
   ·rw [splG_cut hc ht];have hb:=cutC_big hs hz ht;have ih:=splG_few (k:=k) (z:=z) (r:=r) hz (f:=f) (cs:=cs.drop (if k=1 then cutC k z cs else cutC k z cs+1)) fun c h=>hs c (kQ h);have hd:tksC k (cs.drop (if k=1 then cutC k z cs else cutC k z cs+1))<=tksC k (cs.drop (cutC k z cs)):=by
     split
     ·exact qR _
     ·rw [<-List.drop_drop];have:=tksC_split (k:=k) (cs:=cs.drop (cutC k z cs)) 1;omega
    have hs2:=tksC_split (k:=k) (cs:=cs) (cutC k z cs);show ((splG k z r f _).1.length+1-1)*(z / 2-8)<=tksC k cs;rw [Nat.add_sub_cancel];generalize (splG k z r f _).1.length=n at ih⊢;cases n with
    | zero=>simp
    | succ n=>rw [Nat.add_sub_cancel] at ih;rw [Nat.succ_mul];omega
   ·rw [splG_end hc ht];simp
theorem splN_few {n:Nod} (hz:256<=z) (hs:∀c∈n.cells,SmC n.kind z c) (ht:tksC n.kind n.cells<=2*z+z / 4):(splN n z).1.length<=5:=by
 unfold splN;split
 ·simp
 ·have h:=splG_few (r:=n.right) hz (f:=n.cells.length) hs;generalize (splG n.kind z n.right n.cells.length n.cells).1.length=m at h⊢;by_cases h5:m<=5
  ·exact h5
  ·exfalso;have h1:5*(z / 2-8)<=(m-1)*(z / 2-8):=qE _ (by omega);omega
theorem smC_in (hz:256<=z) (h:okCl 2 c):SmC 2 z c:=by
 have h1:=pgNo_b h.2.1;have h2:=vint_few (n:=c.child) (k:=4) (by omega) (by omega);have h3:=vint_len (n:=c.key);unfold SmC encCl;rw [if_pos (by decide:hasCh 2=true),if_pos (by decide:hasKy 2=true),if_neg (by decide:¬hasPy 2=true),kX,qA];omega
theorem wC_in (h:okCl 2 c):wC 2 c<=18:=by
 have h1:=pgNo_b h.2.1;have h2:=vint_few (n:=c.child) (k:=4) (by omega) (by omega);have h3:=vint_len (n:=c.key);unfold wC encCl;rw [if_pos (by decide:hasCh 2=true),if_pos (by decide:hasKy 2=true),if_neg (by decide:¬hasPy 2=true),kX,qA];omega
theorem smC_leaf (hz:256<=z/\z<=4096) (h:okCl 1 c) (hl:c.loc.length<=z / 4-36):SmC 1 z c:=by
 obtain ⟨_,_,_,h4⟩:=h;rw [if_pos (by decide:hasPy 1=true)] at h4;obtain ⟨g1,g2,g3⟩:=h4;have h1:=vint_few (n:=c.total) (k:=3) (by omega) (by omega);have h2:=vint_few (n:=c.loc.length) (k:=2) (by omega) (by omega);have h3:=vint_len (n:=c.key);have h5:(if c.spill=0 then ([]:List UInt8) else vint c.spill).length<=4:=by
  split
  ·simp
  ·split at g3
   ·omega
   ·exact vint_few (n:=c.spill) (k:=4) (by omega) (by have:=pgNo_b g3;omega)
 unfold SmC encCl payB;rw [if_neg (by decide:¬hasCh 1=true),if_pos (by decide:hasKy 1=true),if_pos (by decide:hasPy 1=true),kI];simp only [qA];omega
end
open Go Go.HL
def i64K (y:Int):Prop:=-9223372036854775808<=y/\y<=9223372036854775807
theorem zip_celK:∀ {cs:List Cel} {r:Int},(∀c∈cs,okCl 2 c)->cs=(((cs.map fun c=>(c.child:Int))++[r]).zip (cs.map Cel.key)).map celK
 | [],_,_=>rfl
 | c::cs,r,h=>by
  have ih:=zip_celK (cs:=cs) (r:=r) fun c hc=>h c (qQ _ hc);have hc:=(h c (by simp)).2.2.2;rw [if_neg (by decide:¬hasPy 2=true)] at hc;obtain ⟨k,ch,t,l,s⟩:=c;obtain ⟨rfl,rfl,rfl⟩:=hc;exact congrArg (fun l=>(⟨k,ch,0,[],0⟩:Cel)::l) ih
theorem cells_zip {n:Nod} (ho:OkNd n) (hk:n.kind=2):n.cells=((kidsN n).zip (keysN n)).map celK:=zip_celK (r:=(n.right:Int)) fun c hc=>by have:=ho.c c hc;rwa [hk] at this
theorem celK_ok {p:Int × Int} (h1:1<=p.1/\p.1<=1048576) (h2:i64K p.2):okCl 2 (celK p):=by
 refine ⟨rfl,?_,h2,rfl,rfl,rfl⟩;show pgNo ((p.1.toNat:Nat):Int)=true;unfold pgNo;rw [decide_eq_true_eq];omega
theorem tksC_le {k b:Nat} : ∀ {cs:List Cel},(∀c∈cs,wC k c<=b)->tksC k cs<=cs.length*b
 | [],_=>qL _
 | c::cs,h=>by
  have:=tksC_le (k:=k) (b:=b) (cs:=cs) fun c hc=>h c (qQ _ hc);have:=h c (by simp);show wC k c+tksC k cs<=_;rw [qV,Nat.succ_mul];omega
theorem innN_ok {ks ys:List Int} (hl:ks.length=ys.length+1) (h1:∀k∈ks,1<=k/\k<=1048576) (h2:∀y∈ys,i64K y):OkNd (innN ks ys):=by
 refine ⟨rfl,?_,fun c hc=>?_⟩
 ·have hne:ks≠[]:=by intro e;rw [e] at hl;simp at hl
  have:=h1 (ks.getLast hne) (List.getLast_mem hne);show pgNo (((ks.getLast?.getD 0).toNat:Nat):Int)=true;rw [List.getLast?_eq_some_getLast hne];unfold pgNo;rw [decide_eq_true_eq];simp only [Option.getD_some];omega
 ·obtain ⟨p,hp,rfl⟩:=kS.1 hc;have:=List.of_mem_zip (a:=p.1) (b:=p.2) hp;exact celK_ok (h1 _ this.1) (h2 _ this.2)
theorem splG_sep {k z r:Nat} : ∀ {f:Nat} {cs:List Cel},∀y∈(splG k z r f cs).2.map Cel.key,∃c∈cs,c.key=y
 | 0,_,y,h=>by unfold splG at h;simp at h
 | f+1,cs,y,h=>by
  by_cases hc:cs=[]
  ·subst hc;unfold splG at h;simp at h
  ·by_cases ht:cutC k z cs<cs.length
   ·rw [splG_cut hc ht] at h;rcases qK.1 (show y∈(sepC k cs (cutC k z cs)).key::(splG k z r f _).2.map Cel.key from h) with h | h
    ·unfold sepC at h;split at h
     ·refine ⟨cs[cutC k z cs-1],qP (by omega),?_⟩;rw [getD_c (show cutC k z cs-1<cs.length by omega)] at h;exact h.symm
     ·refine ⟨cs[cutC k z cs],qP ht,?_⟩;rw [getD_c ht] at h;exact h.symm
    ·obtain ⟨c,hc,e⟩:=splG_sep y h;exact ⟨c,kQ hc,e⟩
   ·rw [splG_end hc ht] at h;simp at h
theorem splN_sep {n:Nod} {z:Nat} : ∀y∈(splN n z).2.map Cel.key,∃c∈n.cells,c.key=y:=by
 intro y h;unfold splN at h;split at h
 ·simp at h
 ·exact splG_sep y h
structure Stl (w:St) (Q:Trk) (X Y:List Int) (root:Int) (d:Nat) (up:List Stp) (no:Int) (n:Nod) (lo hi:Option Int) (L R es:List Cel) (pc pb:List Int):Prop where
 own:Own_ w Q X
 px:X.Perm (no::(pc++(pb++Y)))
 cx:Ctx w.now root d up no lo hi L R pc
 lv:Lv w.now d n lo hi es pb
 ok:OkNd n
 od:∀a b,lo=some a->hi=some b->a<b
 sm:∀c∈L++(es++R),SmC 1 w.z c
 tk:tksC n.kind n.cells<=2*w.z+w.z / 4
def Fin_ (w w':St) (Q':Trk) (Y:List Int) (root:Int) (es:List Cel):Prop:=∃X' D' ps',Own_ w' Q' X'/\X'.Perm (ps'++Y)/\Tree w'.now root D' es ps'/\KX w w' Y
section
variable {w w':St} {Q Q':Trk} {X Y:List Int} {root no:Int} {d:Nat} {up:List Stp} {n:Nod} {lo hi:Option Int} {L R es:List Cel} {pc pb:List Int}
theorem Stl.sn (s:Stl w Q X Y root d up no n lo hi L R es pc pb):∀c∈n.cells,SmC n.kind w.z c:=by
 intro c hc;have hz:=s.own.fr.zc;cases d with
 | zero=>
  obtain ⟨h1,rfl,_⟩:=s.lv;rw [h1];exact s.sm c (by simp [hc])
 | succ d=>
  have h1:=s.lv.1;have:=s.ok.c c hc;rw [h1] at this⊢;exact smC_in (by omega) this
theorem Stl.k12 (s:Stl w Q X Y root d up no n lo hi L R es pc pb):n.kind=1\/n.kind=2:=by
 cases d with
 | zero=>exact .inl s.lv.1
 | succ d=>exact .inr s.lv.1
theorem Stl.mem (s:Stl w Q X Y root d up no n lo hi L R es pc pb) {k:Int} (h:k=no\/k∈pc\/k∈pb\/k∈Y):k∈X:=s.px.mem_iff.2 (by simpa using h)
theorem Stl.done (s:Stl w Q X Y root d up no n lo hi L R es pc pb) (hu:up≠[]) (hc:n.cells≠[]) (o:Own_ w' Q' (no::(pc++(pb++Y)))) (h1:ndAt w'.now no=some n) (k:KX w w' (pc++(pb++Y))):Fin_ w w' Q' Y root (L++(es++R)):=by
 have hcx:=s.cx.congr (Q:=w'.now) fun j hj=>k.nd (qU _ hj);have hlv:=s.lv.congr (Q:=w'.now) fun j hj=>k.nd (qI _ (qU _ hj));obtain ⟨rs,t,p⟩:=hcx.plug hu (es:=es) (qs:=no::pb) ⟨n,pb,h1,hc,hlv,rfl⟩;refine ⟨_,_,rs,o,?_,t,k.mono fun j hj=>by simp [hj]⟩;refine (List.Perm.symm ?_);refine (p.append_right Y).trans ?_;rw [qZ];exact List.perm_middle
theorem Stl.rdone (s:Stl w Q X Y root d [] no n lo hi L R es pc pb) (hc:d≠0->n.cells≠[]) (o:Own_ w' Q' (no::(pb++Y))) (h1:ndAt w'.now no=some n) (k:KX w w' (pb++Y)):Fin_ w w' Q' Y root (L++(es++R))/\pc=[]:=by
 have hlv:=s.lv.congr (Q:=w'.now) fun j hj=>k.nd (qU _ hj);cases s.cx
 refine ⟨⟨_,d,root::pb,o,.refl _,⟨n,pb,h1,?_,hc,rfl⟩,k.mono fun j hj=>by simp [hj]⟩,rfl⟩;simpa using hlv
theorem Stl.one (s:Stl w Q X Y root d [] no n lo hi L R es pc pb) (hk:n.kind=2) (hc:n.cells=[]):∃d' m q,d=d'+1/\pb=(n.right:Int)::q/\ndAt w.now (n.right:Int)=some m/\m.cells≠[]/\Stl w Q X ((n.right:Int)::Y) root d' [] no m lo hi L R es pc q:=by
 cases d with
 | zero=>have:=s.lv.1;omega
 | succ d=>
  obtain ⟨_,h2⟩:=s.lv;have e1:kidsN n=[(n.right:Int)]:=by unfold kidsN;rw [hc];rfl
  have e2:keysN n=[]:=by unfold keysN;rw [hc];rfl
  rw [e1,e2] at h2;cases h2 with
  | one h=>
   obtain ⟨m,q,g1,g2,g3,rfl⟩:=h;have hm:=decNd_some g1;have hin:(n.right:Int)∈X:=s.mem (.inr (.inr (.inl (by simp))));refine ⟨d,m,q,rfl,rfl,g1,g2,s.own,s.px.trans ?_,?_,g3,hm.1,s.od,s.sm,?_⟩
   ·refine List.Perm.cons _ (List.Perm.append_left _ ?_);exact (List.perm_middle (l₁:=q) (l₂:=Y)).symm
   ·cases s.cx;exact .top
   ·have h2:=hm.2.1;rw [s.own.plen hin] at h2;have h3:tksC m.kind m.cells+10<=w.z:=h2;omega
end
theorem TCh.all {α:Type} {S:α->Option Int->Option Int->List Cel->List Int->Prop} {G:α->Prop} {lo hi:Option Int} {ks:List α} {ys:List Int} {es:List Cel} {ps:List Int} (c:TCh S lo hi ks ys es ps) (f:∀k a b e p,S k a b e p->G k):∀k∈ks,G k:=by
 induction c with
 | one h=>intro k hk;obtain rfl:=qS.1 hk;exact f _ _ _ _ _ h
 | cons h _ ih=>intro k hk;rcases qK.1 hk with rfl | hk;exact f _ _ _ _ _ h;exact ih k hk
theorem TCh.leN {α:Type} {S:α->Option Int->Option Int->List Cel->List Int->Prop} {lo hi:Option Int} {ks:List α} {ys:List Int} {es:List Cel} {ps:List Int} (c:TCh S lo hi ks ys es ps):ks.length=ys.length+1:=by
 induction c with
 | one _=>rfl
 | cons _ _ ih=>simp [ih]
structure LayOk (n:Nod) (z:Nat):Prop where
 p:∀m∈(splN n z).1,OkNd m/\FitNd m z
 f:(splN n z).1.length<=5/\(splN n z).2.length<=5
 l:(splN n z).1.length=(splN n z).2.length+1
 y:∀y∈(splN n z).2.map Cel.key,i64K y
 nl:n.cells.length<=100000
 m:∀c∈n.cells,SmC n.kind z c
 o:OkNd n
theorem tksC_ge0 {k:Nat} : ∀ {l:List Cel},l.length*4<=tksC k l
 | []=>qR _
 | c::l=>by
  have:=tksC_ge0 (k:=k) (l:=l);show (l.length+1)*4<=(encCl k c).length+4+tksC k l;omega
theorem LayOk.of {P:List (List UInt8)} {z d:Nat} {n:Nod} {lo hi:Option Int} {es:List Cel} {ps:List Int} (hz:256<=z/\z<=4096) (h12:n.kind=1\/n.kind=2) (hl:Lv P d n lo hi es ps) (hc:n.cells≠[]) (ho:OkNd n) (hm:∀c∈n.cells,SmC n.kind z c) (ht:tksC n.kind n.cells<=2*z+z / 4):LayOk n z:=by
 have hsp:=splN_ok (P:=P) hz.1 hl hc ho hm;have hfw:=splN_few hz.1 hm ht;have hln:=hsp.leN;rw [qM] at hln;have h4:=tksC_ge0 (k:=n.kind) (l:=n.cells);refine ⟨hsp.all fun k a b e p h=>⟨h.2.2.1,h.2.2.2.1⟩,⟨hfw,by omega⟩,hln,fun y hy=>?_,by omega,hm,ho⟩;obtain ⟨c,hc,rfl⟩:=splN_sep y hy;have h1:=(ho.c c hc).2.2.1;rcases h12 with e | e<;>rw [e,if_pos (by decide)] at h1<;>exact h1
theorem splN_two {n:Nod} {z:Nat} (h:¬FitNd n z) (hf:(splN n z).1.length=(splN n z).2.length+1) (hz:10<=z):2<=(splN n z).1.length:=by
 have hc:n.cells≠[]:=by
  intro e;exact h (by unfold FitNd;rw [e];show 0+10<=z;omega)
 unfold splN at hf⊢;rw [if_neg h] at hf⊢;obtain ⟨f,hf2⟩:∃f,n.cells.length=f+1:=⟨n.cells.length-1,by have:=kC.2 hc;omega⟩;rw [hf2] at hf⊢;by_cases ht:cutC n.kind z n.cells<n.cells.length
 ·rw [splG_cut hc ht] at hf⊢;simp only [qV] at hf⊢;omega
 ·exfalso;apply h;have h1:cutC n.kind z n.cells=n.cells.length:=by
   have:cutC n.kind z n.cells<=n.cells.length:=by
    unfold cutC;split
    ·have:=runC_le (k:=n.kind) (most:=z-10) (cs:=n.cells) (s:=0);omega
    ·exact runC_le
   omega
  have h2:runC n.kind (z-10) 0 n.cells=n.cells.length:=by
   have h3:=runC_le (k:=n.kind) (most:=z-10) (cs:=n.cells) (s:=0);unfold cutC at h1;split at h1<;>omega
  have h4:=runC_fit (k:=n.kind) (most:=z-10) (cs:=n.cells) (s:=0) (qL _);rw [h2,List.take_length] at h4;show tksC _ _+10<=z;omega
section
variable {w:St} {Q:Trk} {X Y:List Int} {root no:Int} {d:Nat} {up:List Stp} {n:Nod} {lo hi:Option Int} {L R es:List Cel} {pc pb:List Int}
theorem Stl.layOk (s:Stl w Q X Y root d up no n lo hi L R es pc pb) (hc:n.cells≠[]):LayOk n w.z:=
 LayOk.of (by have:=s.own.fr.zc;omega) s.k12 s.lv hc s.ok s.sn s.tk
end
open Go Go.HL
theorem zip_gap {kb yb:List Int} : ∀ {km ym:List Int},km.length=ym.length+1->kb.length=yb.length->∃A:List (Int × Int),(km++kb).zip (ym++yb)=A++kb.zip (yb.drop 1)/\A.length<=km.length
 | [],_,h,_=>by simp at h
 | [k],ym,h,hb=>by
  obtain rfl:ym=[]:=qW (by simpa using h);cases yb with
  | nil=>exact ⟨[],by simp,by simp⟩
  | cons y yb=>exact ⟨[(k,y)],by simp,by simp⟩
 | k::k2::km,[],h,_=>by simp at h
 | k::k2::km,y::ym,h,hb=>by
  obtain ⟨A,h1,h2⟩:=zip_gap (km:=k2::km) (ym:=ym) (by simpa using h) hb;exact ⟨(k,y)::A,by show (k,y)::((k2::km)++kb).zip (ym++yb)=_;rw [h1];rfl,by simpa using h2⟩
theorem tksC_in {l:List (Int × Int)} (h:∀p∈l,okCl 2 (celK p)):tksC 2 (l.map celK)<=l.length*18:=by
 have:=tksC_le (k:=2) (b:=18) (cs:=l.map celK) fun c hc=>by
  obtain ⟨p,hp,rfl⟩:=kS.1 hc;exact wC_in (h p hp)
 rwa [qM] at this
section
variable {w w':St} {Q Q':Trk} {X Y:List Int} {root no:Int} {d:Nat} {u:Stp} {up:List Stp} {n:Nod} {lo hi m m':Option Int} {L R es ea eb:List Cel} {pc pb ps pa pcu nos bt ka km kb ya ym yb:List Int}
theorem Gap.rpl (o:Own_ w Q X) (px:X.Perm (u.no::(pcu++((pa++(ps++pb))++Y)))) (cx:Ctx w.now root (d+1) up u.no lo hi L R pcu) (g:Gap w.now d u.n lo hi m m' ka km kb ya ym yb ea eb pa pb) (t:TCh (Sb w.now d) m m' nos bt es ps) (hu:OkNd u.n) (ht:tksC u.n.kind u.n.cells+10<=w.z) (hn:nos.length<=5) (hb:∀y∈bt,i64K y) (sm:∀c∈L++((ea++(es++eb))++R),SmC 1 w.z c) :
  Stl w Q X Y root (d+1) up u.no (innN (ka++(nos++kb)) (ya++(bt++yb))) lo hi L R (ea++(es++eb)) pcu (pa++(ps++pb)):=by
 have hin:∀k,k∈pa\/k∈ps\/k∈pb->k∈X:=fun k hk=>px.mem_iff.2 (by simp;grind);have hz:=o.fr.zc;have hfew:=o.fr.few;have hlv:=g.fill t fun k hk=>(o.rg (hin k hk)).1;have hs:=hlv.srt;have hlb:=g.b.len;have htl:=t.len;have hkl:(ka++(nos++kb)).length=(ya++(bt++yb)).length+1:=by have:=g.l;simp only [qA];omega
 have hK:∀k∈ka++(nos++kb),1<=k/\k<=1048576:=by
  intro k hk;have:k∈X:=by
   rcases qD.1 hk with hk | hk
   ·exact hin k (.inl (g.a.sub k hk))
   ·rcases qD.1 hk with hk | hk
    ·exact hin k (.inr (.inl (t.sub k hk)))
    ·exact hin k (.inr (.inr (g.b.sub k hk)))
  have:=o.rg this;omega
 have hY:∀y∈keysN u.n,i64K y:=by
  intro y hy;obtain ⟨c,hc,rfl⟩:=kS.1 hy;have:=hu.c c hc;rw [g.k] at this;exact this.2.2.1
 rw [g.y] at hY;have hY2:∀y∈ya++(bt++yb),i64K y:=by
  intro y hy;rcases qD.1 hy with hy | hy
  ·exact hY y (by simp [hy])
  ·rcases qD.1 hy with hy | hy
   ·exact hb y hy
   ·exact hY y (by simp [hy])
 have hok:=innN_ok hkl hK hY2;refine ⟨o,px,cx,hlv,hok,?_,sm,?_⟩
 ·intro a b ha hb;obtain ⟨c,hc⟩:=List.exists_mem_of_ne_nil _ (hs.2 fun h=>by omega);have:=hs.1.b c hc;have h1:=this.1 a ha;have h2:=this.2 b hb;omega
 ·have hcz:=cells_zip hu g.k;rw [g.c,g.y,List.zip_append g.l] at hcz;obtain ⟨A,a1,a2⟩:=zip_gap (kb:=kb) (yb:=yb) g.n hlb;obtain ⟨B,b1,b2⟩:=zip_gap (kb:=kb) (yb:=yb) htl hlb;rw [a1] at hcz;have e2:(innN (ka++(nos++kb)) (ya++(bt++yb))).cells=(ka.zip ya++(B++kb.zip (yb.drop 1))).map celK:=by
   show ((ka++(nos++kb)).zip (ya++(bt++yb))).map celK=_;rw [List.zip_append g.l,b1]
  have hB:∀p∈B,okCl 2 (celK p):=by
   intro p hp;have:celK p∈(innN (ka++(nos++kb)) (ya++(bt++yb))).cells:=by rw [e2];exact List.mem_map_of_mem (by simp [hp])
   exact hok.c _ this
  have h3:=tksC_in hB;rw [g.k,hcz] at ht;show tksC 2 (innN (ka++(nos++kb)) (ya++(bt++yb))).cells<=_;rw [e2];simp only [kJ,tksC_app] at ht⊢;omega
theorem Stl.part (s:Stl w Q X Y root d (u::up) no n lo hi L R es pc pb) (hc:n.cells≠[]) (o:Own_ w' Q' (nos++(pc++(pb++Y)))) (k:KX w w' (pc++(pb++Y))) (hl:nos.length=(splN n w.z).1.length) (hn:∀p∈nos.zip (splN n w.z).1,ndAt w'.now p.1=some p.2) :
  ∃ka kb ya yb lo' hi' L' R' es' pc' pb',kidsN u.n=ka++([no]++kb)/\keysN u.n=ya++yb/\ka.length=u.at_/\ya.length=u.at_/\L++(es++R)=L'++(es'++R')/\Stl w' Q' (nos++(pc++(pb++Y))) Y root (d+1) up u.no (innN (ka++(nos++kb)) (ya++((splN n w.z).2.map Cel.key++yb))) lo' hi' L' R' es' pc' pb':=by
 have hz:=s.own.fr.zc;have hsp:=splN_ok (P:=w.now) (z:=w.z) (by omega) s.lv hc s.ok s.sn;have hfw:=splN_few (by omega) s.sn s.tk;obtain ⟨ps',t,pp⟩:=hsp.laid (P':=w'.now) hl hn fun j hj=>k.nd (qI _ (qU _ hj));have hcx:=s.cx.congr (Q:=w'.now) fun j hj=>k.nd (qU _ hj);have hbk:∀y∈(splN n w.z).2.map Cel.key,i64K y:=fun y hy=>by
  obtain ⟨c,hc,rfl⟩:=splN_sep y hy;have h1:=(s.ok.c c hc).2.2.1;rcases s.k12 with e | e<;>rw [e,if_pos (by decide)] at h1<;>exact h1
 have hsm:=s.sm;have hzz:=k.z;cases hcx with
 | @step _ _ _ _ lo' hi' _ _ L' R' ea eb pcu pa pb' ka kb ya yb c1 c2 c3 c4 c5 c6 c7 c8 c9 c10=>
  have hd:=decNd_some c3;have huX:u.no∈nos++((u.no::(pcu++(pa++pb')))++(pb++Y)):=by simp
  have hu2:=hd.2.1;rw [o.plen huX] at hu2;refine ⟨ka,kb,ya,yb,lo',hi',L',R',_,pcu,_,by rw [c5];simp,c6,c7,c8,?_,Gap.rpl (km:=[no]) (ym:=[]) (ea:=ea) (eb:=eb) (m:=lo) (m':=hi) (es:=es) (ps:=ps') o ?_ c1 ⟨c2,by rw [c5];simp,by rw [c6];simp,by rw [c7,c8],rfl,c9,c10⟩ t hd.1 hu2 (by rw [hl];exact hfw) hbk ?_⟩
  ·simp
  ·rw [List.perm_iff_count];intro a;have:=pp.count_eq a;simp only [List.count_append,List.count_cons] at this⊢;omega
  ·rw [hzz];intro c hc;exact hsm c (by simp at hc⊢;grind)
theorem Stl.rpart (s:Stl w Q X Y root d [] no n lo hi L R es pc pb) (hc:n.cells≠[]) (h2:2<=(splN n w.z).1.length) (o:Own_ w' Q' (nos++X)) (k:KX w w' X) (hl:nos.length=(splN n w.z).1.length) (hn:∀p∈nos.zip (splN n w.z).1,ndAt w'.now p.1=some p.2) :
  OkNd (innN nos ((splN n w.z).2.map Cel.key))/\FitNd (innN nos ((splN n w.z).2.map Cel.key)) w.z/\∃Z,(nos++X).Perm (no::Z)/\∀ {Q2:Trk} {w2:St},(Own_ w2 Q2 (no::Z)->ndAt w2.now no=some (innN nos ((splN n w.z).2.map Cel.key))->KX w' w2 Z->Fin_ w w2 Q2 Y root (L++(es++R))):=by
 have hz:=s.own.fr.zc;have hsp:=splN_ok (P:=w.now) (z:=w.z) (by omega) s.lv hc s.ok s.sn;have hfw:=splN_few (by omega) s.sn s.tk;have hfew:=o.fr.few;obtain ⟨ps',t,pp⟩:=hsp.laid (P':=w'.now) hl hn fun j hj=>k.nd (s.mem (.inr (.inr (.inl hj))));have hbk:∀y∈(splN n w.z).2.map Cel.key,i64K y:=fun y hy=>by
  obtain ⟨c,hc,rfl⟩:=splN_sep y hy;have h1:=(s.ok.c c hc).2.2.1;rcases s.k12 with e | e<;>rw [e,if_pos (by decide)] at h1<;>exact h1
 have hK:∀k∈nos,1<=k/\k<=1048576:=fun k hk=>by have:=o.rg (k:=k) (by simp [hk]);omega
 have hok:=innN_ok t.len hK hbk;have hcl:(innN nos ((splN n w.z).2.map Cel.key)).cells.length=nos.length-1:=by rw [innN_len t.len,t.len];rfl
 have px:=s.px;have hlv0:=t;cases s.cx
 refine ⟨hok,?_,nos++(pb++Y),?_,fun {Q2 w2} o2 h1 k2=>?_⟩
 ·have h3:tksC 2 (innN nos ((splN n w.z).2.map Cel.key)).cells<=(innN nos ((splN n w.z).2.map Cel.key)).cells.length*18:=tksC_le fun c hc=>wC_in (hok.c c hc);show tksC 2 _+10<=w.z;rw [hcl] at h3;omega
 ·refine (List.Perm.append_left nos px).trans ?_;exact List.perm_middle
 ·have e0:[]++(es++[])=es:=by simp
  rw [e0];refine ⟨_,d+1,_::ps',o2,?_,⟨innN nos _,ps',h1,⟨rfl,?_⟩,fun _=>?_,rfl⟩,⟨k2.z.trans k.z,k2.su.trans k.su,k2.sv.trans k.sv,fun j hj=>(k2.pg j (by simp [hj])).trans (k.pg j (px.mem_iff.2 (by simp [hj])))⟩⟩
  ·rw [List.perm_iff_count];intro a;have:=pp.count_eq a;simp only [List.count_append,List.count_cons] at this⊢;omega
  ·rw [innN_kids t.len fun k hk=>by have:=hK k hk;omega,innN_keys t.len];exact t.congr (G:=fun j=>ndAt w2.now j=ndAt w'.now j) (fun _ _ _ _ _ s e=>s.congr e) fun j hj=>k2.nd (by have:=pp.mem_iff.1 hj;simp at this⊢;grind)
  ·intro e;rw [e] at hcl;simp at hcl;omega
end
open Go Go.HL
theorem joinN_ok {A B:Nod} {y:Int} (ha:OkNd A) (hb:OkNd B) (hk:A.kind=B.kind) (h12:B.kind=1\/B.kind=2) (hy:i64K y):OkNd (joinN A y B):=by
 refine ⟨ha.k,?_,fun c hc=>?_⟩
 ·have:=hb.r;show if hasCh A.kind=true then pgNo B.right=true else B.right=0
  rw [hk];exact this
 ·show okCl A.kind c;unfold joinN at hc;simp only at hc;split at hc
  ·rcases qD.1 hc with h | h
   ·exact ha.c c h
   ·rw [hk];exact hb.c c h
  ·rename_i h1;rcases qD.1 hc with h | h
   ·exact ha.c c h
   ·rcases qK.1 h with h | h
    ·subst h;have h2:A.kind=2:=by omega
     have h3:=ha.r;rw [h2] at h3⊢;exact ⟨rfl,h3,hy,rfl,rfl,rfl⟩
    ·rw [hk];exact hb.c c h
theorem joinN_tk {A B:Nod} {y:Int} {z:Nat} (ha:tksC A.kind A.cells+10<=z) (hb:tksC B.kind B.cells+10<=z) (ho:OkNd (joinN A y B)) (hk:A.kind=B.kind) (h12:B.kind=1\/B.kind=2):tksC (joinN A y B).kind (joinN A y B).cells<=2*z+z / 4:=by
 have hc:=ho.c;show tksC A.kind _<=_;unfold joinN at hc⊢;simp only at hc⊢;rw [hk] at ha;split
 ·rw [hk,tksC_app];omega
 ·rename_i h1;have h2:B.kind=2:=by omega
  rw [if_neg h1,hk,h2] at hc;rw [h2] at ha hb;rw [hk,h2];have h3:=wC_in (hc ⟨y,A.right,0,[],0⟩ (by simp));rw [tksC_app];show _+(wC 2 _+tksC 2 B.cells)<=_;omega
section
variable {w w':St} {Q Q':Trk} {X Y Z:List Int} {root no k1 k2:Int} {d:Nat} {u:Stp} {up:List Stp} {n A B:Nod} {lo hi m m':Option Int} {L R es ea eb e1 e2:List Cel} {pc pb ps pa pcu nos q1 q2 ka kb ya yb:List Int} {y:Int}
theorem Gap.two (o0:Own_ w Q X) (px:X.Perm ([k1,k2]++(u.no::(pcu++((pa++((q1++q2)++pb))++Y))))) (cx:Ctx w.now root (d+1) up u.no lo hi L R pcu) (hnu:ndAt w.now u.no=some u.n) (g:Gap w.now d u.n lo hi m m' ka [k1,k2] kb ya [y] yb ea eb pa pb) (hA:Lv w.now d A m (some y) e1 q1) (hB:Lv w.now d B (some y) m' e2 q2) (okA:OkNd A) (okB:OkNd B) (hy:∀z,m=some z->z<=y) (hy2:∀z,m'=some z->y<=z) (tA:tksC A.kind A.cells+10<=w.z) (tB:tksC B.kind B.cells+10<=w.z) (hne:(joinN A y B).cells≠[]) (sm:∀c∈L++((ea++((e1++e2)++eb))++R),SmC 1 w.z c) :
  LayOk (joinN A y B) w.z/\OkNd u.n/\FitNd u.n w.z/\i64K y/\OkNd A/\OkNd B/\A.kind=B.kind/\(B.kind=1\/B.kind=2)/\
  ∀ {w':St} {Q':Trk} {nos:List Int},Own_ w' Q' (nos++(u.no::(pcu++((pa++((q1++q2)++pb))++Y))))->KX w w' (u.no::(pcu++((pa++((q1++q2)++pb))++Y)))->nos.length=(splN (joinN A y B) w.z).1.length->(∀p∈nos.zip (splN (joinN A y B) w.z).1,ndAt w'.now p.1=some p.2)->
   ∃pb',Stl w' Q' (nos++(u.no::(pcu++((pa++((q1++q2)++pb))++Y)))) Y root (d+1) up u.no (innN (ka++(nos++kb)) (ya++((splN (joinN A y B) w.z).2.map Cel.key++yb))) lo hi L R (ea++((e1++e2)++eb)) pcu pb':=by
 have hz:=o0.fr.zc;have hd:=decNd_some hnu;have hkA:A.kind=1\/A.kind=2:=by cases d with
  | zero=>exact .inl hA.1
  | succ d=>exact .inr hA.1
 have hkB:B.kind=1\/B.kind=2:=by cases d with
  | zero=>exact .inl hB.1
  | succ d=>exact .inr hB.1
 have hkk:A.kind=B.kind:=by cases d with
  | zero=>exact hA.1.trans hB.1.symm
  | succ d=>exact hA.1.trans hB.1.symm
 have hyk:i64K y:=by
  have h1:y∈keysN u.n:=by rw [g.y];simp
  obtain ⟨c,hc,rfl⟩:=kS.1 h1;have:=hd.1.c c hc;rw [g.k] at this;exact this.2.2.1
 have hok:=joinN_ok okA okB hkk hkB hyk;have htk:=joinN_tk tA tB hok hkk hkB;have hlv:=hA.join hB hy hy2;have hsm:∀c∈(joinN A y B).cells,SmC (joinN A y B).kind w.z c:=by
  intro c hc;cases d with
  | zero=>
   have h1:=hlv.1;have h2:=hlv.2.1;rw [h1];rw [<-h2] at hc;exact sm c (by simp at hc⊢;grind)
  | succ d=>
   have h1:=hlv.1;have:=hok.c c hc;rw [h1] at this⊢;exact smC_in (by omega) this
 have hu2:=hd.2.1;rw [o0.plen (px.mem_iff.2 (by simp))] at hu2;refine ⟨LayOk.of (by omega) (by rw [show (joinN A y B).kind=A.kind from rfl];exact hkA) hlv hne hok hsm htk,hd.1,hu2,hyk,okA,okB,hkk,hkB,fun o k hl hn=>?_⟩;have hsp:=splN_ok (P:=w.now) (z:=w.z) (by omega) hlv hne hok hsm;have hfw:=splN_few (by omega) hsm htk;obtain ⟨ps',t,pp⟩:=hsp.laid hl hn fun j hj=>k.nd (by simp at hj⊢;grind);have hcx:=cx.congr (Q:=_) fun j hj=>k.nd (by simp [hj]);have hg:=g.congr (P':=_) fun j hj=>k.nd (by simp;grind);have hbk:∀y'∈(splN (joinN A y B) w.z).2.map Cel.key,i64K y':=fun y' hy'=>by
  obtain ⟨c,hc,rfl⟩:=splN_sep y' hy';have h1:=(hok.c c hc).2.2.1;have h3:(joinN A y B).kind=1\/(joinN A y B).kind=2:=hkA;rcases h3 with e | e<;>rw [e,if_pos (by decide)] at h1<;>exact h1
 have hzz:=k.z;refine ⟨_,Gap.rpl (ps:=ps') o ?_ hcx hg t hd.1 (by rw [hzz];exact hu2) (by rw [hl];exact hfw) hbk (by rw [hzz];exact sm)⟩;rw [List.perm_iff_count];intro a;have:=pp.count_eq a;simp only [List.count_append,List.count_cons] at this⊢;omega
theorem Stl.sib (s:Stl w Q X Y root d (u::up) no n lo hi L R es pc pb) (hf:tksC n.kind n.cells+10<=w.z) :
  ∃ka kb ya yb k1 k2 A B m y Z k',(0<u.at_/\ka.length+1=u.at_/\k1=k'/\k2=no/\A=m/\B=n\/u.at_=0/\ka.length=0/\k1=no/\k2=k'/\A=n/\B=m)/\k'≠no/\kidsN u.n=ka++([k1,k2]++kb)/\keysN u.n=ya++([y]++yb)/\ka.length=ya.length/\ndAt w.now k'=some m/\k'∈X/\m.cells≠[]/\(m.kind=1\/m.kind=2)/\m.kind=n.kind/\X.Perm ([k1,k2]++Z)/\(∀j∈Y,j∈Z)/\
   LayOk (joinN A y B) w.z/\OkNd u.n/\FitNd u.n w.z/\i64K y/\OkNd A/\OkNd B/\A.kind=B.kind/\(B.kind=1\/B.kind=2)/\(joinN A y B).cells≠[]/\
   ∀ {w':St} {Q':Trk} {nos:List Int},Own_ w' Q' (nos++Z)->KX w w' Z->nos.length=(splN (joinN A y B) w.z).1.length->(∀p∈nos.zip (splN (joinN A y B) w.z).1,ndAt w'.now p.1=some p.2)->
    ∃lo' hi' L' R' es' pc' pb',L++(es++R)=L'++(es'++R')/\Stl w' Q' (nos++Z) Y root (d+1) up u.no (innN (ka++(nos++kb)) (ya++((splN (joinN A y B) w.z).2.map Cel.key++yb))) lo' hi' L' R' es' pc' pb':=by
 have hsm:=s.sm;have hod:=s.od;have hlv:=s.lv;have hok:=s.ok;have hpx:=s.px;have hnx:=s.own.nx;have hcx:=s.cx;cases hcx with
 | @step _ _ _ _ lo' hi' _ _ L' R' ea eb pcu pa pb' ka kb ya yb c1 c2 c3 c4 c5 c6 c7 c8 c9 c10=>
  have g:Gap w.now d u.n lo' hi' lo hi ka [no] kb ya [] yb ea eb pa pb':=⟨c2,by rw [c5];simp,by rw [c6];simp,by rw [c7,c8],rfl,c9,c10⟩;by_cases h0:ka=[]
  ·have hkb:kb≠[]:=by
    intro e;have h1:=congrArg List.length c5;rw [kidsN_len,h0,e] at h1;have:u.n.cells.length=0:=by simpa using h1
    exact c4 (qW this)
   obtain ⟨k',kb',y,yb',m0,e,eb',p,pb2,rfl,rfl,rfl,rfl,rfl,g2,sb⟩:=g.right hkb;obtain ⟨m,q,m1,m2,m3,rfl⟩:=sb;have hm:=decNd_some m1;have hkX:k'∈X:=hpx.mem_iff.2 (by simp);have hm2:=hm.2.1;rw [s.own.plen hkX] at hm2;have hmk:m.kind=n.kind:=by cases d with
    | zero=>exact m3.1.trans hlv.1.symm
    | succ d=>exact m3.1.trans hlv.1.symm
   have hmk2:m.kind=1\/m.kind=2:=by cases d with
    | zero=>exact .inl m3.1
    | succ d=>exact .inr m3.1
   have hne:(joinN n y m).cells≠[]:=by unfold joinN;simp only;split<;>simp [m2]
   have hsr:=m3.srt;have hx:∀z,m0=some z->y<=z:=fun z hz=>by
    obtain ⟨c,hc⟩:=List.exists_mem_of_ne_nil _ (hsr.2 fun _=>m2);have h1:=(hsr.1.b c hc).1 y rfl;have h2:=(hsr.1.b c hc).2 z hz;omega
   have px:X.Perm ([no,k']++(u.no::(pcu++((pa++((pb++q)++pb2))++Y)))):=by
    refine hpx.trans ?_;rw [List.perm_iff_count];intro a;simp only [List.count_append,List.count_cons,List.count_nil] ;omega
   obtain ⟨t1,t2,t3,t5,t6,t7,t8,t9,t4⟩:=Gap.two (A:=n) (B:=m) s.own px c1 c3 g2 hlv m3 hok hm.1 (fun z hz=>by have:=hod z y hz rfl;omega) hx hf hm2 hne (by intro c hc;exact hsm c (by simp at hc⊢;grind));refine ⟨ka,kb',ya,yb',no,k',n,m,m,y,_,k',.inr ⟨by rw [<-c7,h0];rfl,by rw [h0];rfl,rfl,rfl,rfl,rfl⟩,?_,by rw [c5];rfl,by rw [c6];rfl,by rw [c7,c8],m1,hkX,m2,hmk2,hmk,px,(fun j hj=>by simp [hj]),t1,t2,t3,t5,t6,t7,t8,t9,hne,fun o k hl hn=>?_⟩
   ·rintro rfl;have:=(px.nodup_iff.1 hnx);simp at this
   ·obtain ⟨pb3,st⟩:=t4 o k hl hn;exact ⟨lo',hi',L',R',_,pcu,pb3,by simp,st⟩
  ·obtain ⟨ka',k',ya',y,m0,ea',e,pa',p,rfl,rfl,rfl,rfl,rfl,g2,sb⟩:=g.left h0;obtain ⟨m,q,m1,m2,m3,rfl⟩:=sb;have hm:=decNd_some m1;have hkX:k'∈X:=hpx.mem_iff.2 (by simp);have hm2:=hm.2.1;rw [s.own.plen hkX] at hm2;have hmk:m.kind=n.kind:=by cases d with
    | zero=>exact m3.1.trans hlv.1.symm
    | succ d=>exact m3.1.trans hlv.1.symm
   have hmk2:m.kind=1\/m.kind=2:=by cases d with
    | zero=>exact .inl m3.1
    | succ d=>exact .inr m3.1
   have hne:(joinN m y n).cells≠[]:=by unfold joinN;simp only;split<;>simp [m2]
   have hsr:=m3.srt;have hx:∀z,m0=some z->z<=y:=fun z hz=>by
    obtain ⟨c,hc⟩:=List.exists_mem_of_ne_nil _ (hsr.2 fun _=>m2);have h1:=(hsr.1.b c hc).1 z hz;have h2:=(hsr.1.b c hc).2 y rfl;omega
   have px:X.Perm ([k',no]++(u.no::(pcu++((pa'++((q++pb)++pb'))++Y)))):=by
    refine hpx.trans ?_;rw [List.perm_iff_count];intro a;simp only [List.count_append,List.count_cons,List.count_nil] ;omega
   obtain ⟨t1,t2,t3,t5,t6,t7,t8,t9,t4⟩:=Gap.two (A:=m) (B:=n) s.own px c1 c3 g2 m3 hlv hm.1 hok hx (fun z hz=>by have:=hod y z rfl hz;omega) hm2 hf hne (by intro c hc;exact hsm c (by simp at hc⊢;grind));have hl7:ka'.length+1=u.at_:=by rw [<-c7];simp
   have hl8:ya'.length+1=u.at_:=by rw [<-c8];simp
   refine ⟨ka',kb,ya',yb,k',no,m,n,m,y,_,k',.inl ⟨by omega,hl7,rfl,rfl,rfl,rfl⟩,?_,by rw [c5];simp,by rw [c6];simp,by omega,m1,hkX,m2,hmk2,hmk,px,(fun j hj=>by simp [hj]),t1,t2,t3,t5,t6,t7,t8,t9,hne,fun o k hl hn=>?_⟩
   ·rintro rfl;have:=(px.nodup_iff.1 hnx);simp at this
   ·obtain ⟨pb3,st⟩:=t4 o k hl hn;exact ⟨lo',hi',L',R',_,pcu,pb3,by simp,st⟩
end
open Go Go.HL
section
variable {l:List Cel} {h:Heap} {F E:Nat->Prop} {c i:Nat} {a:Option Addr} {kk:Int}
def cmpK (a b:Int):Int:=if a<b then -1 else if b<a then 1 else 0
theorem tplc_any {ch tt sp lcc:Nat} {ky:Int} {la:Option Addr} {lc:List UInt8} :
  Hc 115 #[.agg #[.J ky,.J (ch:Int),.J (tt:Int),.slice la lc.length lcc,.J (sp:Int)],.J kk] h (fun v h'=>v=.J (cmpK ky kk)/\Ext h h'):=by
 have ok:=Hp.nil h none_;refine HC.go Tryz.func115 15 ?_;refine .s<|.a' 2 (.bxA (cs:=[.J ky,.J (ch:Int),.J (tt:Int),.slice la lc.length lcc,.J (sp:Int)]) ok) ?_;rintro _ U1 ⟨pb1,rfl,ok,xe⟩;refine .z .asI<|.nil<|.seq<|.block fun K0 hK0=>.s<|.z (.fa T.fd113_0)<|.z (.ldx T.ag2 ok.m0)<|.z .mvI<|.z .lss<|.z .asB<|.nil<|.cd (fun C0=>?_) (fun C0=>?_)
 ·
  refine .s<|.z .asI<|.nil<|.ret ⟨.J (-1),Res.one rfl rfl,⟨by unfold cmpK;rw [if_pos C0],ok.chg⟩⟩
 refine .s<|.z (.fa T.fd113_0)<|.z (.ldx T.ag2 ok.m0)<|.z .mvI<|.z .gtr<|.z .asB<|.nil<|.cd (fun C1=>?_) (fun C1=>?_)
 ·
  refine .s<|.z .asI<|.nil<|.ret ⟨.J 1,Res.one rfl rfl,⟨by unfold cmpK;rw [if_neg C0,if_pos (by omega)],ok.chg⟩⟩
 refine .skip<|.end<|hK0 _ _<|.s<|.z .asI<|.nil<|.ret ⟨.J 0,Res.one rfl rfl,⟨by unfold cmpK;rw [if_neg C0,if_neg (by omega)],ok.chg⟩⟩
structure PlcN (l:List Cel) (kk:Int) (i:Nat) (b:Bool):Prop where
 le:i<=l.length
 is:b=true->∃h:i<l.length,l[i].key=kk
 no:b=false->∀h:i<l.length,l[i].key≠kk
 lo:(l.map Cel.key).Pairwise (· < ·)->∀j (h:j<l.length),j<i->l[j].key<kk
 hi:(l.map Cel.key).Pairwise (· < ·)->∀j (h:j<l.length),i<=j->kk<=l[j].key
theorem key_lt (hs:(l.map Cel.key).Pairwise (· < ·)) {j:Nat} (hi:i<l.length) (hj:j<l.length) (h:i<j):l[i].key<l[j].key:=by
 have:=List.pairwise_iff_getElem.1 hs i j (by simpa using hi) (by simpa using hj) h;simpa using this
theorem cmpK_lt {a b:Int} : cmpK a b<0↔a<b:=by unfold cmpK;split<;>(try split)<;>omega
theorem cmpK_0 {a b:Int} : cmpK a b=0↔a=b:=by unfold cmpK;split<;>(try split)<;>omega
theorem tbsf_any (hl:RdL h F E (a,l.length,c) l) (hN:l.length<=1000000) :
  Hc 114 #[.slice a l.length c,.J kk,.func (.func 115) #[] #[]] h (fun v h'=>∃(i:Nat) (b:Bool),v=.tuple #[.J (i:Int),.bool b]/\PlcN l kk i b/\Ext h h'):=by
 have ok:=(Hp.nil h none_).arg hl;have hlm:=hl.m;have hlc:=hl.c;simp only at hlm hlc;refine HC.go Tryz.func114 49 ?_;refine .s<|.z .asI<|.z .asB<|.nil<|.s<|.z .mvS<|.z (.len T.el114)<|.z .asI<|.nil<|.s<|.z .mvI<|.z .asI<|.z .asI<|.nil<|.seq<|.block fun K0 hK0=>.loop (fun m s hh=>∃(i j:Nat),Has s [(0,.slice a l.length c),(1,.J kk),(2,.func (.func 115) #[] #[]),(8,.J (l.length:Int)),(9,.J (i:Int)),(10,.J (j:Int))]/\Hp h none_ [] [rdI (nS h F) (nS h E) (a,l.length,c) l] hh/\i<=j/\j<=l.length/\((l.map Cel.key).Pairwise (· < ·)->(∀q (h:q<l.length),q<i->l[q].key<kk)/\∀q (h:q<l.length),j<=q->kk<=l[q].key)/\m=j-i) ?_ ?_
 ·exact ⟨_,0,l.length,⟨rfl,rfl,rfl,rfl,rfl,rfl,trivial⟩,(ok).k0,qL _,qR _,fun _=>⟨fun _ _ h=>absurd h (Nat.not_lt_zero _),fun _ h1 h2=>absurd h1 (by omega)⟩,rfl⟩
 rintro _ _ U1 ⟨i,j,hs,ok,hij,hjl,hsr,rfl⟩ J0 hJ0;refine .frame hs fun τ=>?_;refine .seq<|.s<|.z .mvI<|.z .mvI<|.z .lss<|.nil<|.cdr (fun C0=>?_) (fun C0=>?_)
 ·
  refine .exit<|hK0 _ _<|.s<|.z .mvI<|.z .mvI<|.z .mvI<|.z .lss<|.z .mvB<|.sd (fun G39=>?_) (fun G39=>?_)
  ·
   have hil:i<l.length:=by omega
   refine .z .mvF<|.z .mvS<|.z .mvI<|?_;obtain ⟨bb1,oo1,rfl,fb1⟩:=ok.r0.pos (by omega);refine .z (.ix i T.el114 T.sz113 (hi:=by omega))<|?_;obtain ⟨xa1,xc1,hv1,hw1,hk1⟩:=ok.r0.cel (i:=i) (by omega);have ok:=ok.d0 (rdI (nS h E) (nS h E) (xa1,l[i].loc.length,xc1) (l[i].loc)) hw1 (fun _ h=>.inr (h.elim id id));refine .z (.ldc (vs:=celV l[i] xa1 xc1) T.ag113 hv1 T.sz113)<|.z .mvI<|.c' 46 .dyn (tplc_any (ky:=l[i].key) (ch:=l[i].child) (tt:=l[i].total) (la:=xa1) (lcc:=xc1) (lc:=l[i].loc) (sp:=l[i].spill) (kk:=kk)) ?_;rintro _ U2 ⟨rfl,hx⟩;have ok:=ok.ext hx;refine .z .eql<|.z .pkt<|.z .asI<|.z .asB<|.nil<|.ret ⟨.tuple #[.J (i:Int),.bool (decide (cmpK l[i].key kk=0))],Res.two rfl rfl rfl,⟨i,_,rfl,⟨by omega,fun h=>⟨hil,cmpK_0.1 (of_decide_eq_true h)⟩,fun h _ e=>absurd (cmpK_0.2 e) (of_decide_eq_false h),fun hs q h1 h2=>(hsr hs).1 q h1 h2,fun hs q h1 h2=>(hsr hs).2 q h1 (by omega)⟩,ok.chg⟩⟩
  refine .y<|.y<|.y<|.y<|.y<|.y<|.y<|.y<|.z .pkf<|.z .asI<|.z .asB<|.nil<|.ret ⟨.tuple #[.J (i:Int),.bool false],Res.two rfl rfl rfl,⟨i,_,rfl,⟨by omega,fun h=>(by cases h),fun _ h=>absurd h (by omega),fun hs q h1 h2=>(hsr hs).1 q h1 h2,fun hs q h1 h2=>(hsr hs).2 q h1 (by omega)⟩,ok.chg⟩⟩
 have hml:((i+j) / 2)<l.length:=by omega
 refine .skip<|.block fun K1 hK1=>.s<|.z .mvI<|.z .mvI<|.z .addI<|.z (.cvs T.in206 T.in3 (M:=18446744073709551616) rfl rfl)<|.z (.shrn (M:=18446744073709551616) rfl (b:=1))<|.z (.cvi T.in3 T.in206)<|.z .asI<|.nil<|.s<|.z .mvF<|.z .mvS<|.z .mvI<|?_;obtain ⟨bb2,oo2,rfl,fb2⟩:=ok.r0.pos (by omega);refine .z (.ix ((i+j) / 2) T.el114 T.sz113 (hi:=by omega))<|?_;obtain ⟨xa2,xc2,hv2,hw2,hk2⟩:=ok.r0.cel (i:=((i+j) / 2)) (by omega);have ok:=ok.d0 (rdI (nS h E) (nS h E) (xa2,l[((i+j) / 2)].loc.length,xc2) (l[((i+j) / 2)].loc)) hw2 (fun _ h=>.inr (h.elim id id));refine .z (.ldc (vs:=celV l[((i+j) / 2)] xa2 xc2) T.ag113 hv2 T.sz113)<|.z .mvI<|.c' 30 .dyn (tplc_any (ky:=l[((i+j) / 2)].key) (ch:=l[((i+j) / 2)].child) (tt:=l[((i+j) / 2)].total) (la:=xa2) (lcc:=xc2) (lc:=l[((i+j) / 2)].loc) (sp:=l[((i+j) / 2)].spill) (kk:=kk)) ?_;rintro _ U3 ⟨rfl,hx⟩;have ok:=ok.ext hx;refine .z .lss<|.nil<|.cd (fun C1=>?_) (fun C1=>?_)
 ·
  refine .r<|.z .mvI<|.z (.addI (b:=1))<|.z .asI<|.nil<|.end<|hK1 _ _<|.end<|hJ0 _ _ _ ⟨(((i+j) / 2 ^ 1)+1),j,⟨rfl,rfl,rfl,rfl,rfl,rfl,trivial⟩,(ok).k0.f1.e1,by omega,hjl,fun hs=>⟨fun q h1 h2=>(by
   have h3:=cmpK_lt.1 C1;rcases Nat.lt_or_eq_of_le (Nat.le_of_lt_succ h2) with h4 | h4
   ·exact Int.lt_trans (key_lt hs h1 hml h4) h3
   ·subst h4;exact h3),(hsr hs).2⟩,rfl⟩ (by omega)
 refine .r<|.z .mvI<|.z .asI<|.nil<|.end<|hK1 _ _<|.end<|hJ0 _ _ _ ⟨i,((i+j) / 2 ^ 1),⟨rfl,rfl,rfl,rfl,rfl,rfl,trivial⟩,(ok).k0.f1.e1,by omega,by omega,fun hs=>⟨(hsr hs).1,fun q h1 h2=>(by
  have h3:kk<=l[((i+j) / 2)].key:=by have:=mt cmpK_lt.2 C1;omega
  rcases Nat.lt_or_eq_of_le h2 with h4 | h4
  ·exact Int.le_of_lt (Int.lt_of_le_of_lt h3 (key_lt hs hml h1 h4))
  ·subst h4;exact h3)⟩,rfl⟩ (by omega)
theorem tplace_any (hl:RdL h F E (a,l.length,c) l) (hN:l.length<=1000000) :
  Hc 79 #[.slice a l.length c,.J kk] h (fun v h'=>∃(i:Nat) (b:Bool),v=.tuple #[.J (i:Int),.bool b]/\PlcN l kk i b/\Ext h h'):=by
 have ok:=(Hp.nil h none_).arg hl;have hlm:=hl.m;have hlc:=hl.c;simp only at hlm hlc;refine HC.go Tryz.func79 11 ?_;refine .s<|.z .asI<|.z .asB<|.nil<|.s<|.z .mvS<|.z .mvI<|.c' 8 .func (tbsf_any (kk:=kk) (a:=a) (c:=c) (l:=l) ok.r0 hN) ?_;rintro _ U1 ⟨i,b,rfl,hp,hx⟩;have ok:=ok.ext hx;refine .z .ex<|.z .ex<|.z .asI<|.z .asB<|.nil<|.ret ⟨.tuple #[.J (i:Int),.bool b],Res.two rfl rfl rfl,⟨i,b,rfl,hp,ok.chg⟩⟩
def kidT (l:List Cel) (i:Nat):List Int:=(l.take i).map fun c=>(c.child:Int)
def keyT (l:List Cel) (i:Nat):List Int:=(l.take i).map Cel.key
theorem kidT_s (h:i<l.length):(kidT l i).map iv++[.J (l[i].child:Int)]=(kidT l (i+1)).map iv:=by
 unfold kidT;rw [qG h,kJ,kJ];rfl
theorem keyT_s (h:i<l.length):(keyT l i).map iv++[.J l[i].key]=(keyT l (i+1)).map iv:=by
 unfold keyT;rw [qG h,kJ,kJ];rfl
theorem kidT_end {k rt:Nat} : (kidT l l.length).map iv++[.J (rt:Int)]=(kidsN ⟨k,l,rt⟩).map iv:=by
 unfold kidT kidsN;rw [List.take_length];simp [iv]
theorem keyT_end : keyT l l.length=l.map Cel.key:=by unfold keyT;rw [List.take_length]
theorem tkids_any {k rt:Nat} (hl:RdL h F E (a,l.length,c) l) (hN:l.length<=1000000) :
  Hc 113 #[.agg #[.J (k:Int),.slice a l.length c,.J (rt:Int)]] h (fun v h'=>∃a c,v=.slice a (l.length+1) c/\Hp h none_ [plI 1 3 (a,l.length+1,c) ((kidsN (⟨k,l,rt⟩:Nod)).map iv)] [] h'):=by
 have ok:=(Hp.nil h none_).arg hl;have hlm:=hl.m;have hlc:=hl.c;simp only at hlm hlc;refine HC.go Tryz.func113 24 ?_;refine .s<|.a' 1 (.bxA (cs:=[.J (k:Int),.slice a l.length c,.J (rt:Int)]) ok) ?_;rintro _ U1 ⟨pb1,rfl,ok,xe⟩;refine .z .asS<|.nil<|.s<|.z .asS<|.nil<|.seq<|.seq<|?_;have ok:=ok.plNil 1 3;refine .r<|.z (.fa T.fd116_1)<|.z (.ldx T.ag114 ok.m1)<|.z (.len T.el114)<|.z .mvI<|.nil<|.block fun K0 hK0=>.loop (fun m s hh=>∃(i:Nat) (a8:Option Addr) (c8:Nat),Has s [(1,.P pb1),(3,.slice a8 i c8),(7,.slice a l.length c),(8,.J (l.length:Int)),(9,.J (i:Int))]/\Hp h none_ [plI 1 3 (a8,i,c8) ((kidT l i).map iv),boxI pb1 116 [.J (k:Int),.slice a l.length c,.J (rt:Int)]] [rdI (nS h F) (nS h E) (a,l.length,c) l] hh/\i<=l.length/\m=l.length-i) ?_ ?_
 ·exact ⟨_,0,none,0,⟨rfl,rfl,rfl,rfl,rfl,trivial⟩,(ok).k2,qL _,rfl⟩
 rintro _ _ U2 ⟨i,a8,c8,hs,ok,hi,rfl⟩ J0 hJ0;refine .frame hs fun τ=>?_;refine .s<|.z .lss<|.nil<|.seq<|.cdr (fun C0=>?_) (fun C0=>?_)
 ·
  refine .exit<|hK0 _ _<|.seq<|?_;obtain rfl:i=l.length:=by omega
  refine .r<|.z .mvS<|.z (.fa T.fd116_2)<|.z (.ldx T.ag3 ok.m1)<|.a' 22 (.lit [.tmp 21] (cs:=[.J (rt:Int)]) T.el93 T.sz3 T.zr3 ok ⟨rfl,trivial⟩) ?_;rintro _ U3 ⟨pb2,rfl,ok,xe⟩;refine .a' 23 (.appP (m:=1) T.el93 T.sz3 T.by3 T.zr3 (ok.n1) (Cap.sl (v:=.slice (some ⟨pb2,0,none⟩) 1 1) (ok.n1).m1) (oneL rfl) rfl (by decide) (by omega) rfl rfl) ?_;rintro _ U4 ⟨a23,c23,rfl,ok⟩;rw [kidT_end (k:=k)] at ok;refine .z .asS<|.nil<|.ret ⟨.slice a23 (l.length+1) c23,Res.one rfl rfl,⟨_,_,rfl,(ok).k1.e0⟩⟩
 have hil:i<l.length:=by omega
 refine .skip<|.seq<|.block fun K1 hK1=>.s<|?_;obtain ⟨bb1,oo1,rfl,fb1⟩:=ok.r0.pos (by omega);refine .z (.ix i T.el114 T.sz113 (hi:=by omega))<|?_;obtain ⟨xa1,xc1,hv1,hw1,hk1⟩:=ok.r0.cel (i:=i) (by omega);have ok:=ok.d0 (rdI (nS h E) (nS h E) (xa1,l[i].loc.length,xc1) (l[i].loc)) hw1 (fun _ h=>.inr (h.elim id id));refine .z (.ldc (vs:=celV l[i] xa1 xc1) T.ag113 hv1 T.sz113)<|.a' 5 (.alA T.zr113 ok) ?_;rintro _ U5 ⟨pb3,rfl,ok,xe⟩;refine .ur' (.stW (vs:=[.J (l[i].key),.J (l[i].child:Int),.J (l[i].total:Int),.slice xa1 (l[i].loc.length) xc1,.J (l[i].spill:Int)]) T.sz113 ok (oneL rfl)) ?_;rintro U6 ⟨ok,cg⟩;refine .nil ?_;refine .r<|.z .mvS<|.z (.fa T.fd113_1)<|.z (.ldx T.ag3 ok.m0)<|.a' 16 (.lit [.tmp 15] (cs:=[.J (l[i].child:Int)]) T.el93 T.sz3 T.zr3 ok ⟨rfl,trivial⟩) ?_;rintro _ U7 ⟨pb4,rfl,ok,xe⟩;refine .a' 17 (.appP (m:=1) T.el93 T.sz3 T.by3 T.zr3 (ok.n2) (Cap.sl (v:=.slice (some ⟨pb4,0,none⟩) 1 1) (ok.n2).m1) (oneL rfl) rfl (by decide) (by omega) rfl rfl) ?_;rintro _ U8 ⟨a17,c17,rfl,ok⟩;rw [kidT_s hil] at ok;refine .z .asS<|.nil<|.end<|hK1 _ _<|.r<|.z (.addI (b:=1))<|.z .mvI<|.nil<|.end<|hJ0 _ _ _ ⟨i+1,a17,c17,⟨rfl,rfl,rfl,rfl,rfl,trivial⟩,(ok.n3.n1).k2.f1.e1,by omega,rfl⟩ (by omega)
theorem tkeys_any (hl:RdL h F E (a,l.length,c) l) (hN:l.length<=1000000) :
  Hc 244 #[.slice a l.length c] h (fun v h'=>∃a c,v=.slice a l.length c/\Hp h none_ [plI 1 2 (a,l.length,c) ((l.map Cel.key).map iv)] [] h'):=by
 have ok:=(Hp.nil h none_).arg hl;have hlm:=hl.m;have hlc:=hl.c;simp only at hlm hlc;refine HC.go Tryz.func244 19 ?_;refine .s<|.z .asS<|.nil<|.s<|.z .asS<|.nil<|.seq<|.seq<|?_;have ok:=ok.plNil 1 2;refine .r<|.z .mvS<|.z (.len T.el114)<|.z .mvI<|.nil<|.block fun K0 hK0=>.loop (fun m s hh=>∃(i:Nat) (a8:Option Addr) (c8:Nat),Has s [(3,.slice a8 i c8),(6,.slice a l.length c),(7,.J (l.length:Int)),(8,.J (i:Int))]/\Hp h none_ [plI 1 2 (a8,i,c8) ((keyT l i).map iv)] [rdI (nS h F) (nS h E) (a,l.length,c) l] hh/\i<=l.length/\m=l.length-i) ?_ ?_
 ·exact ⟨_,0,none,0,⟨rfl,rfl,rfl,rfl,trivial⟩,(ok).k1,qL _,rfl⟩
 rintro _ _ U1 ⟨i,a8,c8,hs,ok,hi,rfl⟩ J0 hJ0;refine .frame hs fun τ=>?_;refine .s<|.z .lss<|.nil<|.seq<|.cdr (fun C0=>?_) (fun C0=>?_)
 ·
  refine .exit<|hK0 _ _<|.seq<|?_;obtain rfl:i=l.length:=by omega
  rw [keyT_end] at ok;refine .r<|.z .mvS<|.z .asS<|.nil<|.ret ⟨.slice a8 l.length c8,Res.one rfl rfl,⟨_,_,rfl,(ok).k1.e0⟩⟩
 have hil:i<l.length:=by omega
 refine .skip<|.seq<|.block fun K1 hK1=>.s<|?_;obtain ⟨bb1,oo1,rfl,fb1⟩:=ok.r0.pos (by omega);refine .z (.ix i T.el114 T.sz113 (hi:=by omega))<|?_;obtain ⟨xa1,xc1,hv1,hw1,hk1⟩:=ok.r0.cel (i:=i) (by omega);have ok:=ok.d0 (rdI (nS h E) (nS h E) (xa1,l[i].loc.length,xc1) (l[i].loc)) hw1 (fun _ h=>.inr (h.elim id id));refine .z (.ldc (vs:=celV l[i] xa1 xc1) T.ag113 hv1 T.sz113)<|.a' 5 (.alA T.zr113 ok) ?_;rintro _ U2 ⟨pb1,rfl,ok,xe⟩;refine .ur' (.stW (vs:=[.J (l[i].key),.J (l[i].child:Int),.J (l[i].total:Int),.slice xa1 (l[i].loc.length) xc1,.J (l[i].spill:Int)]) T.sz113 ok (oneL rfl)) ?_;rintro U3 ⟨ok,cg⟩;refine .nil ?_;refine .r<|.z .mvS<|.z (.fa T.fd113_0)<|.z (.ldx T.ag2 ok.m0)<|.a' 15 (.lit [.tmp 14] (cs:=[.J (l[i].key)]) T.el145 T.sz2 T.zr2 ok ⟨rfl,trivial⟩) ?_;rintro _ U4 ⟨pb2,rfl,ok,xe⟩;refine .a' 16 (.appP (m:=1) T.el145 T.sz2 T.by2 T.zr2 (ok.n2) (Cap.sl (v:=.slice (some ⟨pb2,0,none⟩) 1 1) (ok.n2).m1) (oneL rfl) rfl (by decide) (by omega) rfl rfl) ?_;rintro _ U5 ⟨a16,c16,rfl,ok⟩;rw [keyT_s hil] at ok;refine .z .asS<|.nil<|.end<|hK1 _ _<|.r<|.z (.addI (b:=1))<|.z .mvI<|.nil<|.end<|hJ0 _ _ _ ⟨i+1,a16,c16,⟨rfl,rfl,rfl,rfl,trivial⟩,(ok).k1.f1.e1,by omega,rfl⟩ (by omega)
end
open Go Go.HL
section
variable {l:List Cel} {h:Heap} {c t:Nat} {a:Option Addr} {F E:Nat->Prop}
theorem _root_.Go.HL.Hp.capAcc {h0:Heap} {D:Nat->Prop} {M R:List Itm} {α:Type} [Rep α] {e:TypeId} (ok:Hp h0 D (capI (Rep.k α) e (a,0,c) []::M) R h):Hp h0 D (accI e (a,0,c) (none,0,0) none_ ([]:List α) []::M) R h:=
 ok.re _ ⟨⟨[],ok.m0,.nil⟩,RdL.nil _ _ _,fun _ _ _ _ _ _ _ h=>(by cases h),fun _ f=>f.elim⟩ fun j hj=>by
  rcases hj with h | ⟨o,n,c,e⟩ | f
  ·exact h
  ·cases e
  ·exact f.elim
theorem ndcopied_any (hl:RdL h F E (a,l.length,c) l) (hN:l.length<=100000) (hL:∀x∈l,x.loc.length<=100000) :
  Hc 247 #[.slice a l.length c] h (fun v h'=>∃x c2,v=.slice x l.length c2/\OwnC h h' x l.length c2 l/\Ext h h'):=by
 have ok:=(Hp.nil h none_).arg hl;have hlm:=hl.m;have hlc:=hl.c;simp only at hlm hlc;refine HC.go Tryz.func247 25 ?_;refine .s<|.z .asS<|.nil<|.s<|.z .mvS<|.z (.len T.el114)<|.a' 8 (.mks 0 l.length T.el114 T.sz113 T.by113 T.zr113 ok) ?_;rintro _ U1 ⟨pb1,rfl,ok,xe⟩;refine .z .asS<|.nil<|.seq<|.seq<|?_;have ok:=Hp.capAcc (α:=Cel) (ok);refine .r<|.z .mvS<|.z (.len T.el114)<|.z .mvI<|.nil<|.block fun K0 hK0=>.loop (fun m s hh=>∃(i:Nat) (a8:Option Addr) (c8:Nat) (E2:Nat->Prop),Has s [(3,.slice a8 i c8),(9,.slice a l.length c),(10,.J (l.length:Int)),(11,.J (i:Int))]/\Hp h none_ [accI 113 (a8,i,c8) (none,0,0) E2 (l.take i) []] [rdI (nS h F) (nS h E) (a,l.length,c) l] hh/\i<=l.length/\m=l.length-i) ?_ ?_
 ·exact ⟨_,0,some ⟨pb1,0,none⟩,l.length,_,⟨rfl,rfl,rfl,rfl,trivial⟩,(ok).k1,qL _,rfl⟩
 rintro _ _ U2 ⟨i,a8,c8,E2,hs,ok,hi,rfl⟩ J0 hJ0;refine .frame hs fun τ=>?_;refine .s<|.z .lss<|.nil<|.seq<|.cdr (fun C0=>?_) (fun C0=>?_)
 ·
  refine .exit<|hK0 _ _<|.seq<|?_;obtain rfl:i=l.length:=by omega
  rw [List.take_length] at ok;refine .r<|.z .mvS<|.z .asS<|.nil<|.ret ⟨.slice a8 l.length c8,Res.one rfl rfl,⟨_,_,rfl,⟨_,(ok).m0,(ok).fresh⟩,ok.chg⟩⟩
 have hil:i<l.length:=by omega
 have hlx:=hL _ (qP hil);refine .skip<|.seq<|.block fun K1 hK1=>.s<|?_;obtain ⟨bb1,oo1,rfl,fb1⟩:=ok.r0.pos (by omega);refine .z (.ix i T.el114 T.sz113 (hi:=by omega))<|?_;obtain ⟨xa1,xc1,hv1,hw1,hk1⟩:=ok.r0.cel (i:=i) (by omega);have ok:=ok.d0 (rdI (nS h E) (nS h E) (xa1,l[i].loc.length,xc1) (l[i].loc)) hw1 (fun _ h=>.inr (h.elim id id));refine .z (.ldc (vs:=celV l[i] xa1 xc1) T.ag113 hv1 T.sz113)<|.a' 5 (.alA T.zr113 ok) ?_;rintro _ U3 ⟨pb2,rfl,ok,xe⟩;refine .ur' (.stW (vs:=[.J (l[i].key),.J (l[i].child:Int),.J (l[i].total:Int),.slice xa1 (l[i].loc.length) xc1,.J (l[i].spill:Int)]) T.sz113 ok (oneL rfl)) ?_;rintro U4 ⟨ok,cg⟩;refine .nil ?_;refine .s<|.z (.fa T.fd113_3)<|.z (.ldx T.ag35 ok.m0)<|.c' 17 .func (sclone_any (a:=xa1) (c:=xc1) (l:=l[i].loc) ok.r0 (by omega)) ?_;rintro _ U5 own;obtain ⟨ya1,yc1,rfl⟩:=own.formB;have ok:=ok.own own;refine .z (.fa T.fd113_3)<|.ur' (.stS T.sz35 ok.n1) ?_;rintro U6 ⟨ok,cg⟩;refine .nil ?_;refine .r<|.z .mvS<|.z (.ldb T.ag113 ok.m0 T.sz113)<|.a' 21 (.lit [.tmp 20] (cs:=[.J (l[i].key),.J (l[i].child:Int),.J (l[i].total:Int),.slice ya1 ((l[i].loc).length) yc1,.J (l[i].spill:Int)]) T.el114 T.sz113 T.zr113 ok ⟨rfl,trivial⟩) ?_;rintro _ U7 ⟨pb3,rfl,ok,xe⟩;refine .a' 22 (.appA (l[i]) T.el114 T.sz113 T.by113 T.zr113 (ok.n2.n3) (Cap.sl (v:=.slice (some ⟨pb3,0,none⟩) 1 1) (ok.n2.n3).m2) (Cel.rd_cap (ok.n2.n3).m1 hk1) (by rw [qJ];omega)) ?_;rintro _ U8 ⟨a9,n9,c9,rfl,ok⟩;obtain rfl:n9=i+1:=by have:=Acc.len ok.m0;simp only [qA,qJ,List.length_singleton] at this;omega
 rw [<-qG hil] at ok;refine .z .asS<|.nil<|.end<|hK1 _ _<|.r<|.z (.addI (b:=1))<|.z .mvI<|.nil<|.end<|hJ0 _ _ _ ⟨i+1,a9,c9,_,⟨rfl,rfl,rfl,rfl,trivial⟩,(ok).k1.f1.e1,by omega,rfl⟩ (by omega)
theorem _root_.Go.HL.RdL.celf {b o n:Nat} (r:RdL h F E (some ⟨b,o,none⟩,n,c) l) {i:Nat} (hi:i<l.length):cell h b (o+i*5)=some (.J l[i].key)/\cell h b (o+i*5+1)=some (.J (l[i].child:Int))/\cell h b (o+i*5+2)=some (.J (l[i].total:Int))/\cell h b (o+i*5+4)=some (.J (l[i].spill:Int)):=by
 obtain ⟨a,c',h1,_⟩:=r.cel hi;exact ⟨h1 0 _ rfl,h1 1 _ rfl,h1 2 _ rfl,h1 4 _ rfl⟩
def prtN (k:Nat) (l:List Cel) (rt f t:Nat):Nod:=⟨k,(l.drop f).take (t-f),if k=1\/t=l.length then rt else (l.getD t cel0).child⟩
def prtS (k:Nat) (l:List Cel) (t:Nat):Cel:=if k=1 then { cel0 with key:=(l.getD (t-1) cel0).key } else if t=l.length then cel0 else { l.getD t cel0 with child:=0 }
theorem prtS_1 (h:t-1<l.length):prtS 1 l t = { cel0 with key:=l[t-1].key }:=by unfold prtS;rw [if_pos rfl,getD_c h]
theorem prtS_2 {k:Nat} (hk:k≠1) (h:t<l.length):prtS k l t = { l[t] with child:=0 }:=by unfold prtS;rw [if_neg hk,if_neg (by omega),getD_c h]
theorem ndpart_any {k rt f:Nat} (hl:RdL h F E (a,l.length,c) l) (hft:f<t) (htl:t<=l.length) (hN:l.length<=100000) (hL:∀x∈l,x.loc.length<=100000) :
  Hc 276 #[.agg #[.J (k:Int),.slice a l.length c,.J (rt:Int)],.J (f:Int),.J (t:Int)] h (fun v h'=>∃x c2 la lc E E2,v=.tuple #[.agg #[.J (k:Int),.slice x (prtN k l rt f t).cells.length c2,.J ((prtN k l rt f t).right:Int)],.agg (celV (prtS k l t) la lc).toArray]/\Hp h none_ [rdI E2 E2 (la,(prtS k l t).loc.length,lc) (prtS k l t).loc,accI 113 (x,(prtN k l rt f t).cells.length,c2) (none,0,0) E (prtN k l rt f t).cells []] [] h'):=by
 have ok:=(Hp.nil h none_).arg hl;have hlm:=hl.m;have hlc:=hl.c;simp only at hlm hlc;refine HC.go Tryz.func276 55 ?_;refine .s<|.a' 3 (.bxA (cs:=[.J (k:Int),.slice a l.length c,.J (rt:Int)]) ok) ?_;rintro _ U1 ⟨pb1,rfl,ok,xe⟩;refine .a' 6 (.alA T.zr116 ok) ?_;rintro _ U2 ⟨pb2,rfl,ok,xe⟩;refine .a' 7 (.alA T.zr113 ok) ?_;rintro _ U3 ⟨pb3,rfl,ok,xe⟩;refine .nil ?_;refine .seq<|.a 12 (fun fl hh=>cond fl True (Hp h none_ [boxI pb3 113 [.J 0,.J 0,.J 0,.N,.J 0],boxI pb2 116 [.J 0,.N,.J 0],boxI pb1 116 [.J (k:Int),.slice a l.length c,.J (rt:Int)]] [rdI (nS h F) (nS h E) (a,l.length,c) l] hh)) mixed ?_;have hS:=ok;refine .g 0 false rfl 10 hS (fun _=>.fa T.fd116_0)<|.l 1 false rfl 11 hS (fun _ hS=>.ldx T.ag3 hS.m2)<|.g 2 false rfl 12 hS (fun _=>.fa T.fd116_1)<|.l 3 false rfl 13 hS (fun _ hS=>.ldx T.ag114 hS.m2)<|.g 4 false rfl 14 hS (fun _=>.mvI)<|.g 5 false rfl 15 hS (fun _=>.mvI)<|.g 6 false rfl 16 hS (fun _=>.slh f t T.el114 T.sz113)<|?_;generalize hc1:cutA a f c 5=ca1;generalize hn1:t-f=cn1;obtain rfl:cn1=(((l.drop f).take (t-f))).length:=by rw [<-hn1];simp;omega
 have ok:=ok.d0 (rdI (nS h F) (nS h E) (ca1,(((l.drop f).take (t-f))).length,c-f) ((l.drop f).take (t-f))) (by have h1:=ok.r0.cut (i:=f) (j:=t) (by omega) (by omega);rw [show ((l).drop f).take (t-f)=((l.drop f).take (t-f)) from rfl] at h1;rw [<-hc1,<-hn1];exact h1) (fun _ h=>h);have hLx:∀x∈((l.drop f).take (t-f)),x.loc.length<=100000:=fun x hx=>hL x (kQ (qC hx));refine .g 8 false rfl 18 hS (fun _=>.fa T.fd116_2)<|.l 9 false rfl 19 hS (fun _ hS=>.ldx T.ag3 hS.m2)<|.o2 7 11 ?_ ?_
 ·
  refine .c' false rfl 17 .func (ndcopied_any (a:=ca1) (c:=c-f) (l:=((l.drop f).take (t-f))) ok.r0 (by first | (simp;done) | (simp;omega)) hLx) ?_;rintro _ U4 ⟨xy1,cy1,rfl,oc,hx⟩;obtain ⟨Ey1,ok⟩:=ok.ownC hx oc;refine ⟨ok.n3.n3.n3.k3.tR,?_⟩;have hS:=ok.n3.n3.n3.k3.tR;refine .g 10 false rfl 20 hS (fun _=>.bd #[.J (k:Int),.slice xy1 ((((l.drop f).take (t-f))).length) cy1,.J (rt:Int)] T.zr116 T.pl116 rfl)<|.o1 11<|.a' false rfl 8 (.alA T.zr116 ok) ?_;rintro _ U5 ⟨pb4,rfl,ok,xe⟩;refine ⟨ok.n4.n4.n4.k3.tR,?_⟩;have hS:=ok.n4.n4.n4.k3.tR;refine .o1 12<|.ur' true rfl (.stW (vs:=[.J (k:Int),.slice xy1 ((((l.drop f).take (t-f))).length) cy1,.J (rt:Int)]) T.sz116 ok (oneL rfl)) ?_;rintro U6 ⟨ok,cg⟩;refine ⟨trivial,?_⟩;refine .e ?_;refine .seq<|.s<|.z (.fa T.fd116_0)<|.z (.ldx T.ag3 ok.m4)<|.z .eql<|.nil<|.cd (fun C0=>?_) (fun C0=>?_)
  ·
   refine .seq<|.a 10 (fun fl hh=>cond fl True (Hp h none_ [boxI pb4 116 [.J (k:Int),.slice xy1 ((((l.drop f).take (t-f))).length) cy1,.J (rt:Int)],accI 113 (xy1,(((l.drop f).take (t-f))).length,cy1) (none,0,0) Ey1 ((l.drop f).take (t-f)) [],boxI pb3 113 [.J 0,.J 0,.J 0,.N,.J 0],boxI pb1 116 [.J (k:Int),.slice a l.length c,.J (rt:Int)]] [rdI (nS h F) (nS h E) (ca1,(((l.drop f).take (t-f))).length,c-f) ((l.drop f).take (t-f)),rdI (nS h F) (nS h E) (a,l.length,c) l] hh)) mixed ?_;have hS:=ok.n4.n3.n3.n3.k4;refine .l 0 false rfl 24 hS (fun _ hS=>.ldb T.ag116 hS.m0 T.sz116)<|.g 1 false rfl 25 hS (fun _=>.fa T.fd116_1)<|.l 2 false rfl 26 hS (fun _ hS=>.ldx T.ag114 hS.m3)<|.g 3 false rfl 27 hS (fun _=>.mvI)<|.g 4 false rfl 28 hS (fun _=>.sub)<|?_;obtain ⟨bb1,oo1,rfl,fb1⟩:=ok.r1.pos (by omega);refine .g 5 false rfl 29 hS (fun _=>.ix (t-1) T.el114 T.sz113 (hi:=by omega))<|.g 6 false rfl 30 hS (fun _=>.fa T.fd113_0)<|.l 7 false rfl 31 hS (fun _ hS=>.ld T.ag2 (hS.r1.celf (i:=(t-1)) (by omega)).1)<|.g 8 false rfl 32 hS (fun _=>.bd #[.J (l[(t-1)].key),.J 0,.J 0,.N,.J 0] T.zr113 T.pl113 rfl)<|.o1 9<|.ur' false rfl (.stW (vs:=[.J (k:Int),.slice xy1 ((((l.drop f).take (t-f))).length) cy1,.J (rt:Int)]) T.sz116 ok.n3 (oneL rfl)) ?_;rintro U7 ⟨ok,cg⟩;refine ⟨ok.n4.n4.n4.n4.k4,?_⟩;have hS:=ok.n4.n4.n4.n4.k4;refine .o1 10<|.ur' true rfl (.stW (vs:=[.J (l[(t-1)].key),.J 0,.J 0,.N,.J 0]) T.sz113 ok.n3 (oneL rfl)) ?_;rintro U8 ⟨ok,cg⟩;refine ⟨trivial,?_⟩;refine .e ?_;refine .ret ⟨.tuple #[.agg #[.J (k:Int),.slice xy1 ((((l.drop f).take (t-f))).length) cy1,.J (rt:Int)],.agg #[.J (l[(t-1)].key),.J 0,.J 0,.N,.J 0]],Res.many (vs:=[.agg #[.J (k:Int),.slice xy1 ((((l.drop f).take (t-f))).length) cy1,.J (rt:Int)],.agg #[.J (l[(t-1)].key),.J 0,.J 0,.N,.J 0]]) rfl ⟨⟨_,rfl,load_ag T.ag116 ok.m1 T.sz116⟩,⟨_,rfl,load_ag T.ag113 ok.m0 T.sz113⟩,trivial⟩ rfl,(by
    have hS:prtS k l t = { cel0 with key:=l[t-1].key }:=by rw [show k=1 by omega];exact prtS_1 (by omega)
    have hR:(prtN k l rt f t).right=rt:=if_pos (.inl (by omega));refine ⟨_,_,none,0,Ey1,none_,?_,((ok.n3).k1.e0).newM (Ext.refl _) (rdI none_ none_ (none,(prtS k l t).loc.length,0) (prtS k l t).loc) ?_ (fun j hj=>hj.elim False.elim False.elim)⟩
    ·rw [hS,hR];rfl
    ·rw [hS];exact RdL.nil _ _ _)⟩
  refine .skip<|.seq<|.s<|.z .mvI<|.z (.fa T.fd116_1)<|.z (.ldx T.ag114 ok.m4)<|.z (.len T.el114)<|.z .eql<|.nil<|.cd (fun C1=>?_) (fun C1=>?_)
  ·
   refine .s<|.z (.ldb T.ag116 ok.m0 T.sz116)<|.z (.bd #[.J 0,.J 0,.J 0,.N,.J 0] T.zr113 T.pl113 rfl)<|.ur' (.stW (vs:=[.J (k:Int),.slice xy1 ((((l.drop f).take (t-f))).length) cy1,.J (rt:Int)]) T.sz116 ok.n3 (oneL rfl)) ?_;rintro U9 ⟨ok,cg⟩;refine .ur' (.stW (vs:=[.J 0,.J 0,.J 0,.N,.J 0]) T.sz113 ok.n3 (oneL rfl)) ?_;rintro U10 ⟨ok,cg⟩;refine .nil ?_;refine .ret ⟨.tuple #[.agg #[.J (k:Int),.slice xy1 ((((l.drop f).take (t-f))).length) cy1,.J (rt:Int)],.agg #[.J 0,.J 0,.J 0,.N,.J 0]],Res.many (vs:=[.agg #[.J (k:Int),.slice xy1 ((((l.drop f).take (t-f))).length) cy1,.J (rt:Int)],.agg #[.J 0,.J 0,.J 0,.N,.J 0]]) rfl ⟨⟨_,rfl,load_ag T.ag116 ok.m1 T.sz116⟩,⟨_,rfl,load_ag T.ag113 ok.m0 T.sz113⟩,trivial⟩ rfl,(by
    have hS:prtS k l t=cel0:=by unfold prtS;rw [if_neg (by omega),if_pos (by omega)]
    have hR:(prtN k l rt f t).right=rt:=if_pos (.inr (by omega));refine ⟨_,_,none,0,Ey1,none_,?_,((ok.n3).k1.e0).newM (Ext.refl _) (rdI none_ none_ (none,(prtS k l t).loc.length,0) (prtS k l t).loc) ?_ (fun j hj=>hj.elim False.elim False.elim)⟩
    ·rw [hS,hR];rfl
    ·rw [hS];exact RdL.nil _ _ _)⟩
  have htl2:t<l.length:=by omega
  refine .skip<|.s<|.z (.fa T.fd116_1)<|.z (.ldx T.ag114 ok.m4)<|.z .mvI<|.z .mvI<|.z (.addI (b:=1))<|.z (.slh t (t+1) T.el114 T.sz113)<|?_;generalize hc2:cutA a t c 5=ca2;generalize hn2:(t+1)-t=cn2;obtain rfl:cn2=([l[t]]).length:=by rw [<-hn2];first | done | (simp<;>omega)
  have ok:=ok.d1 (rdI (nS h F) (nS h E) (ca2,([l[t]]).length,c-t) [l[t]]) (by have h1:=ok.r1.cut (i:=t) (j:=t+1) (by omega) (by omega);rw [show ((l).drop t).take (t+1-t)=[l[t]] from by rw [show t+1-t=1 by omega,qF htl2];rfl] at h1;rw [<-hc2,<-hn2];exact h1) (fun _ h=>h);have hLx:∀x∈[l[t]],x.loc.length<=100000:=fun x hx=>hL x (by rw [qS.1 hx];exact qP _);have ok00:=ok;refine .c' 46 .func (ndcopied_any (a:=ca2) (c:=c-t) (l:=[l[t]]) ok.r0 (by first | (simp;done) | (simp;omega)) hLx) ?_;rintro _ U11 ⟨xy2,cy2,rfl,oc,hx⟩;have ok:=ok.ret hx oc.rd;obtain ⟨bb2,oo2,rfl,fb2⟩:=ok.r0.pos (by omega);refine .z (.ix 0 T.el114 T.sz113)<|?_;obtain ⟨xa1,xc1,hv1,hw1,hk1⟩:=ok.r0.cel (i:=0) (by simp);have ok:=ok.d0 (rdI (Nw U6 U11) (Nw U6 U11) (xa1,[l[t]][0].loc.length,xc1) ([l[t]][0].loc)) hw1 (fun _ h=>.inr (h.elim id id));refine .z (.ldc (vs:=celV [l[t]][0] xa1 xc1) T.ag113 hv1 T.sz113)<|.a' 9 (.alA T.zr113 ok) ?_;rintro _ U12 ⟨pb5,rfl,ok,xe⟩;refine .ur' (.stW (vs:=[.J ([l[t]][0].key),.J ([l[t]][0].child:Int),.J ([l[t]][0].total:Int),.slice xa1 ([l[t]][0].loc.length) xc1,.J ([l[t]][0].spill:Int)]) T.sz113 ok (oneL rfl)) ?_;rintro U13 ⟨ok,cg⟩;refine .nil ?_;refine .s<|.z (.fa T.fd113_1)<|.z (.ldx T.ag3 ok.m0)<|.z (.fa T.fd116_2)<|.ur' (.stI T.sz3 ok.n1) ?_;rintro U14 ⟨ok,cg⟩;refine .z (.fa T.fd113_1)<|.ur' (.stI T.sz3 ok.n1) ?_;rintro U15 ⟨ok,cg⟩;refine .nil ?_;refine .seq<|.a 3 (fun fl hh=>cond fl True (Hp h none_ [boxI pb5 113 [.J ([l[t]][0].key),.J 0,.J ([l[t]][0].total:Int),.slice xa1 ([l[t]][0].loc.length) xc1,.J ([l[t]][0].spill:Int)],boxI pb4 116 [.J (k:Int),.slice xy1 ((((l.drop f).take (t-f))).length) cy1,.J ([l[t]][0].child:Int)],accI 113 (xy1,(((l.drop f).take (t-f))).length,cy1) (none,0,0) Ey1 ((l.drop f).take (t-f)) [],boxI pb3 113 [.J 0,.J 0,.J 0,.N,.J 0],boxI pb1 116 [.J (k:Int),.slice a l.length c,.J (rt:Int)]] [rdI (Nw U6 U11) (Nw U6 U11) (xa1,[l[t]][0].loc.length,xc1) ([l[t]][0].loc),rdI (Nw U6 U11) (Nw U6 U11) (some ⟨bb2,oo2,none⟩,([l[t]]).length,cy2) [l[t]],rdI (nS h F) (nS h E) (ca2,([l[t]]).length,c-t) [l[t]],rdI (nS h F) (nS h E) (ca1,(((l.drop f).take (t-f))).length,c-f) ((l.drop f).take (t-f)),rdI (nS h F) (nS h E) (a,l.length,c) l] hh)) mixed ?_;have hS:=ok.n5.n4.n4.n4.n4.k5;refine .l 0 false rfl 53 hS (fun _ hS=>.ldb T.ag116 hS.m1 T.sz116)<|.l 1 false rfl 54 hS (fun _ hS=>.ldb T.ag113 hS.m0 T.sz113)<|.o1 2<|.ur' false rfl (.stW (vs:=[.J (k:Int),.slice xy1 ((((l.drop f).take (t-f))).length) cy1,.J ([l[t]][0].child:Int)]) T.sz116 ok.n4 (oneL rfl)) ?_;rintro U16 ⟨ok,cg⟩;refine ⟨ok.n5.n5.n5.n5.n5.k5,?_⟩;have hS:=ok.n5.n5.n5.n5.n5.k5;refine .o1 3<|.ur' true rfl (.stW (vs:=[.J ([l[t]][0].key),.J 0,.J ([l[t]][0].total:Int),.slice xa1 ([l[t]][0].loc.length) xc1,.J ([l[t]][0].spill:Int)]) T.sz113 ok.n4 (oneL rfl)) ?_;rintro U17 ⟨ok,cg⟩;refine ⟨trivial,?_⟩;refine .e ?_;refine .ret ⟨.tuple #[.agg #[.J (k:Int),.slice xy1 ((((l.drop f).take (t-f))).length) cy1,.J ([l[t]][0].child:Int)],.agg #[.J ([l[t]][0].key),.J 0,.J ([l[t]][0].total:Int),.slice xa1 ([l[t]][0].loc.length) xc1,.J ([l[t]][0].spill:Int)]],Res.many (vs:=[.agg #[.J (k:Int),.slice xy1 ((((l.drop f).take (t-f))).length) cy1,.J ([l[t]][0].child:Int)],.agg #[.J ([l[t]][0].key),.J 0,.J ([l[t]][0].total:Int),.slice xa1 ([l[t]][0].loc.length) xc1,.J ([l[t]][0].spill:Int)]]) rfl ⟨⟨_,rfl,load_ag T.ag116 ok.m1 T.sz116⟩,⟨_,rfl,load_ag T.ag113 ok.m0 T.sz113⟩,trivial⟩ rfl,(by
   have hS:prtS k l t = { l[t] with child:=0 }:=prtS_2 (by omega) htl2;have hR:(prtN k l rt f t).right=l[t].child:=by show (if _ then _ else _)=_;rw [if_neg (by omega),getD_c htl2]
   refine ⟨xy1,cy1,xa1,xc1,Ey1,(Nw U6 U11),?_,?_⟩
   ·rw [hS,hR];rfl
   ·have o:=Hp.thawR ((ok.n4).k1.e1) (fun j hj=>.inr (by rcases hj with hj | hj<;>exact kN ok00.chg.size hj.1));rw [hS];exact o)⟩
 ·
  refine .a' false rfl 8 (.alA T.zr116 ok) ?_;rintro _ U18 ⟨pb6,rfl,ok,xe⟩;refine ⟨ok.n3.n3.n3.k3.tR,?_⟩;have hS:=ok.n3.n3.n3.k3.tR;refine .o1 7<|.c' false rfl 17 .func (ndcopied_any (a:=ca1) (c:=c-f) (l:=((l.drop f).take (t-f))) ok.r0 (by first | (simp;done) | (simp;omega)) hLx) ?_;rintro _ U19 ⟨xy3,cy3,rfl,oc,hx⟩;obtain ⟨Ey3,ok⟩:=ok.ownC hx oc;refine ⟨ok.n4.n4.n4.k3.tR,?_⟩;have hS:=ok.n4.n4.n4.k3.tR;refine .g 10 false rfl 20 hS (fun _=>.bd #[.J (k:Int),.slice xy3 ((((l.drop f).take (t-f))).length) cy3,.J (rt:Int)] T.zr116 T.pl116 rfl)<|.o1 12<|.ur' true rfl (.stW (vs:=[.J (k:Int),.slice xy3 ((((l.drop f).take (t-f))).length) cy3,.J (rt:Int)]) T.sz116 ok.n1 (oneL rfl)) ?_;rintro U20 ⟨ok,cg⟩;refine ⟨trivial,?_⟩;refine .e ?_;refine .seq<|.s<|.z (.fa T.fd116_0)<|.z (.ldx T.ag3 ok.m4)<|.z .eql<|.nil<|.cd (fun C0=>?_) (fun C0=>?_)
  ·
   refine .seq<|.a 10 (fun fl hh=>cond fl True (Hp h none_ [boxI pb6 116 [.J (k:Int),.slice xy3 ((((l.drop f).take (t-f))).length) cy3,.J (rt:Int)],accI 113 (xy3,(((l.drop f).take (t-f))).length,cy3) (none,0,0) Ey3 ((l.drop f).take (t-f)) [],boxI pb3 113 [.J 0,.J 0,.J 0,.N,.J 0],boxI pb1 116 [.J (k:Int),.slice a l.length c,.J (rt:Int)]] [rdI (nS h F) (nS h E) (ca1,(((l.drop f).take (t-f))).length,c-f) ((l.drop f).take (t-f)),rdI (nS h F) (nS h E) (a,l.length,c) l] hh)) mixed ?_;have hS:=ok.n4.n3.n3.n3.k4;refine .l 0 false rfl 24 hS (fun _ hS=>.ldb T.ag116 hS.m0 T.sz116)<|.g 1 false rfl 25 hS (fun _=>.fa T.fd116_1)<|.l 2 false rfl 26 hS (fun _ hS=>.ldx T.ag114 hS.m3)<|.g 3 false rfl 27 hS (fun _=>.mvI)<|.g 4 false rfl 28 hS (fun _=>.sub)<|?_;obtain ⟨bb3,oo3,rfl,fb3⟩:=ok.r1.pos (by omega);refine .g 5 false rfl 29 hS (fun _=>.ix (t-1) T.el114 T.sz113 (hi:=by omega))<|.g 6 false rfl 30 hS (fun _=>.fa T.fd113_0)<|.l 7 false rfl 31 hS (fun _ hS=>.ld T.ag2 (hS.r1.celf (i:=(t-1)) (by omega)).1)<|.g 8 false rfl 32 hS (fun _=>.bd #[.J (l[(t-1)].key),.J 0,.J 0,.N,.J 0] T.zr113 T.pl113 rfl)<|.o1 9<|.ur' false rfl (.stW (vs:=[.J (k:Int),.slice xy3 ((((l.drop f).take (t-f))).length) cy3,.J (rt:Int)]) T.sz116 ok.n3 (oneL rfl)) ?_;rintro U21 ⟨ok,cg⟩;refine ⟨ok.n4.n4.n4.n4.k4,?_⟩;have hS:=ok.n4.n4.n4.n4.k4;refine .o1 10<|.ur' true rfl (.stW (vs:=[.J (l[(t-1)].key),.J 0,.J 0,.N,.J 0]) T.sz113 ok.n3 (oneL rfl)) ?_;rintro U22 ⟨ok,cg⟩;refine ⟨trivial,?_⟩;refine .e ?_;refine .ret ⟨.tuple #[.agg #[.J (k:Int),.slice xy3 ((((l.drop f).take (t-f))).length) cy3,.J (rt:Int)],.agg #[.J (l[(t-1)].key),.J 0,.J 0,.N,.J 0]],Res.many (vs:=[.agg #[.J (k:Int),.slice xy3 ((((l.drop f).take (t-f))).length) cy3,.J (rt:Int)],.agg #[.J (l[(t-1)].key),.J 0,.J 0,.N,.J 0]]) rfl ⟨⟨_,rfl,load_ag T.ag116 ok.m1 T.sz116⟩,⟨_,rfl,load_ag T.ag113 ok.m0 T.sz113⟩,trivial⟩ rfl,(by
    have hS:prtS k l t = { cel0 with key:=l[t-1].key }:=by rw [show k=1 by omega];exact prtS_1 (by omega)
    have hR:(prtN k l rt f t).right=rt:=if_pos (.inl (by omega));refine ⟨_,_,none,0,Ey3,none_,?_,((ok.n3).k1.e0).newM (Ext.refl _) (rdI none_ none_ (none,(prtS k l t).loc.length,0) (prtS k l t).loc) ?_ (fun j hj=>hj.elim False.elim False.elim)⟩
    ·rw [hS,hR];rfl
    ·rw [hS];exact RdL.nil _ _ _)⟩
  refine .skip<|.seq<|.s<|.z .mvI<|.z (.fa T.fd116_1)<|.z (.ldx T.ag114 ok.m4)<|.z (.len T.el114)<|.z .eql<|.nil<|.cd (fun C1=>?_) (fun C1=>?_)
  ·
   refine .s<|.z (.ldb T.ag116 ok.m0 T.sz116)<|.z (.bd #[.J 0,.J 0,.J 0,.N,.J 0] T.zr113 T.pl113 rfl)<|.ur' (.stW (vs:=[.J (k:Int),.slice xy3 ((((l.drop f).take (t-f))).length) cy3,.J (rt:Int)]) T.sz116 ok.n3 (oneL rfl)) ?_;rintro U23 ⟨ok,cg⟩;refine .ur' (.stW (vs:=[.J 0,.J 0,.J 0,.N,.J 0]) T.sz113 ok.n3 (oneL rfl)) ?_;rintro U24 ⟨ok,cg⟩;refine .nil ?_;refine .ret ⟨.tuple #[.agg #[.J (k:Int),.slice xy3 ((((l.drop f).take (t-f))).length) cy3,.J (rt:Int)],.agg #[.J 0,.J 0,.J 0,.N,.J 0]],Res.many (vs:=[.agg #[.J (k:Int),.slice xy3 ((((l.drop f).take (t-f))).length) cy3,.J (rt:Int)],.agg #[.J 0,.J 0,.J 0,.N,.J 0]]) rfl ⟨⟨_,rfl,load_ag T.ag116 ok.m1 T.sz116⟩,⟨_,rfl,load_ag T.ag113 ok.m0 T.sz113⟩,trivial⟩ rfl,(by
    have hS:prtS k l t=cel0:=by unfold prtS;rw [if_neg (by omega),if_pos (by omega)]
    have hR:(prtN k l rt f t).right=rt:=if_pos (.inr (by omega));refine ⟨_,_,none,0,Ey3,none_,?_,((ok.n3).k1.e0).newM (Ext.refl _) (rdI none_ none_ (none,(prtS k l t).loc.length,0) (prtS k l t).loc) ?_ (fun j hj=>hj.elim False.elim False.elim)⟩
    ·rw [hS,hR];rfl
    ·rw [hS];exact RdL.nil _ _ _)⟩
  have htl2:t<l.length:=by omega
  refine .skip<|.s<|.z (.fa T.fd116_1)<|.z (.ldx T.ag114 ok.m4)<|.z .mvI<|.z .mvI<|.z (.addI (b:=1))<|.z (.slh t (t+1) T.el114 T.sz113)<|?_;generalize hc3:cutA a t c 5=ca3;generalize hn3:(t+1)-t=cn3;obtain rfl:cn3=([l[t]]).length:=by rw [<-hn3];first | done | (simp<;>omega)
  have ok:=ok.d1 (rdI (nS h F) (nS h E) (ca3,([l[t]]).length,c-t) [l[t]]) (by have h1:=ok.r1.cut (i:=t) (j:=t+1) (by omega) (by omega);rw [show ((l).drop t).take (t+1-t)=[l[t]] from by rw [show t+1-t=1 by omega,qF htl2];rfl] at h1;rw [<-hc3,<-hn3];exact h1) (fun _ h=>h);have hLx:∀x∈[l[t]],x.loc.length<=100000:=fun x hx=>hL x (by rw [qS.1 hx];exact qP _);have ok00:=ok;refine .c' 46 .func (ndcopied_any (a:=ca3) (c:=c-t) (l:=[l[t]]) ok.r0 (by first | (simp;done) | (simp;omega)) hLx) ?_;rintro _ U25 ⟨xy4,cy4,rfl,oc,hx⟩;have ok:=ok.ret hx oc.rd;obtain ⟨bb4,oo4,rfl,fb4⟩:=ok.r0.pos (by omega);refine .z (.ix 0 T.el114 T.sz113)<|?_;obtain ⟨xa2,xc2,hv2,hw2,hk2⟩:=ok.r0.cel (i:=0) (by simp);have ok:=ok.d0 (rdI (Nw U20 U25) (Nw U20 U25) (xa2,[l[t]][0].loc.length,xc2) ([l[t]][0].loc)) hw2 (fun _ h=>.inr (h.elim id id));refine .z (.ldc (vs:=celV [l[t]][0] xa2 xc2) T.ag113 hv2 T.sz113)<|.a' 9 (.alA T.zr113 ok) ?_;rintro _ U26 ⟨pb7,rfl,ok,xe⟩;refine .ur' (.stW (vs:=[.J ([l[t]][0].key),.J ([l[t]][0].child:Int),.J ([l[t]][0].total:Int),.slice xa2 ([l[t]][0].loc.length) xc2,.J ([l[t]][0].spill:Int)]) T.sz113 ok (oneL rfl)) ?_;rintro U27 ⟨ok,cg⟩;refine .nil ?_;refine .s<|.z (.fa T.fd113_1)<|.z (.ldx T.ag3 ok.m0)<|.z (.fa T.fd116_2)<|.ur' (.stI T.sz3 ok.n1) ?_;rintro U28 ⟨ok,cg⟩;refine .z (.fa T.fd113_1)<|.ur' (.stI T.sz3 ok.n1) ?_;rintro U29 ⟨ok,cg⟩;refine .nil ?_;refine .seq<|.a 3 (fun fl hh=>cond fl True (Hp h none_ [boxI pb7 113 [.J ([l[t]][0].key),.J 0,.J ([l[t]][0].total:Int),.slice xa2 ([l[t]][0].loc.length) xc2,.J ([l[t]][0].spill:Int)],boxI pb6 116 [.J (k:Int),.slice xy3 ((((l.drop f).take (t-f))).length) cy3,.J ([l[t]][0].child:Int)],accI 113 (xy3,(((l.drop f).take (t-f))).length,cy3) (none,0,0) Ey3 ((l.drop f).take (t-f)) [],boxI pb3 113 [.J 0,.J 0,.J 0,.N,.J 0],boxI pb1 116 [.J (k:Int),.slice a l.length c,.J (rt:Int)]] [rdI (Nw U20 U25) (Nw U20 U25) (xa2,[l[t]][0].loc.length,xc2) ([l[t]][0].loc),rdI (Nw U20 U25) (Nw U20 U25) (some ⟨bb4,oo4,none⟩,([l[t]]).length,cy4) [l[t]],rdI (nS h F) (nS h E) (ca3,([l[t]]).length,c-t) [l[t]],rdI (nS h F) (nS h E) (ca1,(((l.drop f).take (t-f))).length,c-f) ((l.drop f).take (t-f)),rdI (nS h F) (nS h E) (a,l.length,c) l] hh)) mixed ?_;have hS:=ok.n5.n4.n4.n4.n4.k5;refine .l 0 false rfl 53 hS (fun _ hS=>.ldb T.ag116 hS.m1 T.sz116)<|.l 1 false rfl 54 hS (fun _ hS=>.ldb T.ag113 hS.m0 T.sz113)<|.o1 2<|.ur' false rfl (.stW (vs:=[.J (k:Int),.slice xy3 ((((l.drop f).take (t-f))).length) cy3,.J ([l[t]][0].child:Int)]) T.sz116 ok.n4 (oneL rfl)) ?_;rintro U30 ⟨ok,cg⟩;refine ⟨ok.n5.n5.n5.n5.n5.k5,?_⟩;have hS:=ok.n5.n5.n5.n5.n5.k5;refine .o1 3<|.ur' true rfl (.stW (vs:=[.J ([l[t]][0].key),.J 0,.J ([l[t]][0].total:Int),.slice xa2 ([l[t]][0].loc.length) xc2,.J ([l[t]][0].spill:Int)]) T.sz113 ok.n4 (oneL rfl)) ?_;rintro U31 ⟨ok,cg⟩;refine ⟨trivial,?_⟩;refine .e ?_;refine .ret ⟨.tuple #[.agg #[.J (k:Int),.slice xy3 ((((l.drop f).take (t-f))).length) cy3,.J ([l[t]][0].child:Int)],.agg #[.J ([l[t]][0].key),.J 0,.J ([l[t]][0].total:Int),.slice xa2 ([l[t]][0].loc.length) xc2,.J ([l[t]][0].spill:Int)]],Res.many (vs:=[.agg #[.J (k:Int),.slice xy3 ((((l.drop f).take (t-f))).length) cy3,.J ([l[t]][0].child:Int)],.agg #[.J ([l[t]][0].key),.J 0,.J ([l[t]][0].total:Int),.slice xa2 ([l[t]][0].loc.length) xc2,.J ([l[t]][0].spill:Int)]]) rfl ⟨⟨_,rfl,load_ag T.ag116 ok.m1 T.sz116⟩,⟨_,rfl,load_ag T.ag113 ok.m0 T.sz113⟩,trivial⟩ rfl,(by
   have hS:prtS k l t = { l[t] with child:=0 }:=prtS_2 (by omega) htl2;have hR:(prtN k l rt f t).right=l[t].child:=by show (if _ then _ else _)=_;rw [if_neg (by omega),getD_c htl2]
   refine ⟨xy3,cy3,xa2,xc2,Ey3,(Nw U20 U25),?_,?_⟩
   ·rw [hS,hR];rfl
   ·have o:=Hp.thawR ((ok.n4).k1.e1) (fun j hj=>.inr (by rcases hj with hj | hj<;>exact kN ok00.chg.size hj.1));rw [hS];exact o)⟩
end
open Go Go.HL
section
variable {h:Heap} {k rt nb nn nc c z wb zb:Nat} {F E:Nat->Prop} {l:List Cel} {na a:Option Addr}
instance:Rep Nod where
 k:=3
 rd h F cs x:=∃s:SV,cs=[.J (x.kind:Int),sv s,.J (x.right:Int)]/\RdL h F F s x.cells
 kpos:=by omega
 len:=fun ⟨_,h,_⟩=>by rw [h];rfl
 one:=fun ⟨_,h,_⟩ u hu=>by
  rw [h] at hu;simp only [qK,List.not_mem_nil,or_false] at hu;rcases hu with rfl | rfl | rfl<;>rfl
 st:=fun c d ⟨x,e,r⟩=>⟨x,e,r.st c d d⟩
 mono:=fun d ⟨x,e,r⟩=>⟨x,e,r.mono d d⟩
 lt:=fun ⟨x,e,r⟩=>⟨x,e,r.lt⟩
theorem blk_sz {b:Nat} {o:Obj} (hb:h[b]? = some o):b<h.size:=by
 rcases Nat.lt_or_ge b h.size with h1 | h1
 ·exact h1
 ·rw [Array.getElem?_eq_none h1] at hb;cases hb
theorem _root_.Go.HL.Hp.rcel {h:Heap} {D:Nat->Prop} {R:List Itm} (ok:Hp h D [] R h) {b:Nat} {v:Value} {cs:List Value} (hb:(celI b 0 (v::cs)).p h):Hp h D [] (celI b 0 (v::cs)::R) h:=ok.old _ hb fun j e=>by
 rw [show j=b from e];have h1:cell h b 0=some v:=hb 0 v rfl;unfold cell at h1;cases h2:h[b]? with
 | none=>rw [h2] at h1;cases h1
 | some o=>exact blk_sz h2
theorem box_cel {b:Nat} {t:TypeId} {cs:List Value} (hb:(boxI b t cs).p h):(celI b 0 cs).p h:=at_boxa hb
theorem runC_s {most s:Nat} {i:Nat} (h:i<l.length):runC k most s (l.drop i)=if most<s+wC k l[i] then 0 else runC k most (s+wC k l[i]) (l.drop (i+1))+1:=by
 rw [qF h];rfl
theorem ndw_any {ch tt sp lcc:Nat} {ky:Int} {la:Option Addr} {lc:List UInt8} (hb:(celI nb 0 [.J (k:Int),.slice na nn nc,.J (rt:Int)]).p h) (ho:okCl k (⟨ky,ch,tt,lc,sp⟩:Cel)) (hl:RdL h F E (la,lc.length,lcc) lc) (hN:lc.length<=16384) :
  Hc 273 #[.agg #[.J ky,.J (ch:Int),.J (tt:Int),.slice la lc.length lcc,.J (sp:Int)],.P nb] h (fun v h'=>v=.J (((encCl k (⟨ky,ch,tt,lc,sp⟩:Cel)).length+4:Nat):Int)/\Ext h h'):=by
 have ok:=((Hp.nil h none_).arg hl).rcel hb;have hel:(encCl k (⟨ky,ch,tt,lc,sp⟩:Cel)).length<=16450:=encCl_few ho;refine HC.go Tryz.func273 8 ?_;refine .s<|.a' 2 (.bxA (cs:=[.J ky,.J (ch:Int),.J (tt:Int),.slice la lc.length lcc,.J (sp:Int)]) ok) ?_;rintro _ U1 ⟨pb1,rfl,ok,xe⟩;refine .z .asI<|.nil<|.s<|.z (.fa T.fd116_0)<|.z (.ld T.ag3 (ok.r0 0 _ rfl))<|.z (.ldb T.ag113 ok.m0 T.sz113)<|.c' 7 .func (ndtakes_any (k:=k) (ky:=ky) (ch:=ch) (tt:=tt) (la:=la) (lcc:=lcc) (lc:=lc) (sp:=sp) ho ok.r1 (by omega)) ?_;rintro _ U2 ⟨rfl,hx⟩;have ok:=ok.ext hx;refine .z .asI<|.nil<|.ret ⟨.J (((encCl k (⟨ky,ch,tt,lc,sp⟩:Cel)).length+4:Nat):Int),Res.one rfl rfl,⟨rfl,ok.chg⟩⟩
theorem ndrun_any {most:Nat} (hb:(celI nb 0 [.J (k:Int),.slice na nn nc,.J (rt:Int)]).p h) (hl:RdL h F E (a,l.length,c) l) (ho:∀x∈l,okCl k x) (hN:l.length<=100000) (hm:most<=1000000) :
  Hc 275 #[.slice a l.length c,.J (most:Int),.func (.func 273) #[] #[.P nb]] h (fun v h'=>v=.J ((runC k most 0 l:Nat):Int)/\Ext h h'):=by
 have ok:=((Hp.nil h none_).arg hl).rcel hb;have hlm:=hl.m;have hlc:=hl.c;simp only at hlm hlc;refine HC.go Tryz.func275 29 ?_;refine .s<|.z .asI<|.nil<|.s<|.z .asI<|.nil<|.seq<|.s<|.z .mvS<|.z (.len T.el114)<|.z .mvI<|.nil<|.block fun K0 hK0=>.loop (fun m s hh=>∃(i s1:Nat),Has s [(0,.slice a l.length c),(1,.J (most:Int)),(2,.func (.func 273) #[] #[.P nb]),(7,.J (s1:Int)),(10,.slice a l.length c),(11,.J (l.length:Int)),(12,.J (i:Int))]/\Hp h none_ [] [celI nb 0 [.J (k:Int),.slice na nn nc,.J (rt:Int)],rdI (nS h F) (nS h E) (a,l.length,c) l] hh/\i<=l.length/\s1<=most/\runC k most 0 l=runC k most s1 (l.drop i)+i/\m=l.length-i) ?_ ?_
 ·exact ⟨_,0,0,⟨rfl,rfl,rfl,rfl,rfl,rfl,rfl,trivial⟩,(ok).k0.f1.f1.e2,qL _,qL _,rfl,rfl⟩
 rintro _ _ U1 ⟨i,s1,hs,ok,hi,hs1,hr1,rfl⟩ J0 hJ0;refine .frame hs fun τ=>?_;refine .s<|.z .lss<|.nil<|.seq<|.cdr (fun C0=>?_) (fun C0=>?_)
 ·
  refine .exit<|hK0 _ _<|.s<|.z .mvS<|.z (.len T.el114)<|.z .asI<|.nil<|.ret ⟨.J (l.length:Int),Res.one rfl rfl,⟨by rw [hr1,qN (by omega),show i=l.length by omega];show _=Value.int _ ((0+l.length:Nat):Int);rw [Nat.zero_add],ok.chg⟩⟩
 have hil:i<l.length:=by omega
 have hoi:=ho _ (qP hil);have hel:(encCl k l[i]).length<=16450:=encCl_few hoi;have he2:(encCl k (⟨l[i].key,l[i].child,l[i].total,l[i].loc,l[i].spill⟩:Cel)).length=(encCl k l[i]).length:=rfl;have hlo:l[i].loc.length<=16384:=by have:=okCl_rg (ky:=l[i].key) (ch:=l[i].child) (tt:=l[i].total) (lc:=l[i].loc) (sp:=l[i].spill) hoi;omega
 refine .skip<|.seq<|.block fun K1 hK1=>.s<|.z .mvI<|?_;obtain ⟨bb1,oo1,rfl,fb1⟩:=ok.r1.pos (by omega);refine .z (.ix i T.el114 T.sz113 (hi:=by omega))<|?_;obtain ⟨xa1,xc1,hv1,hw1,hk1⟩:=ok.r1.cel (i:=i) (by omega);have ok:=ok.d1 (rdI (nS h E) (nS h E) (xa1,l[i].loc.length,xc1) (l[i].loc)) hw1 (fun _ h=>.inr (h.elim id id));refine .z (.ldc (vs:=celV l[i] xa1 xc1) T.ag113 hv1 T.sz113)<|.a' 9 (.alA T.zr113 ok) ?_;rintro _ U2 ⟨pb1,rfl,ok,xe⟩;refine .z .asI<|.ur' (.stW (vs:=[.J (l[i].key),.J (l[i].child:Int),.J (l[i].total:Int),.slice xa1 (l[i].loc.length) xc1,.J (l[i].spill:Int)]) T.sz113 ok (oneL rfl)) ?_;rintro U3 ⟨ok,cg⟩;refine .nil ?_;refine .s<|.z .mvI<|.z .mvF<|.z (.ldb T.ag113 ok.m0 T.sz113)<|.c' 20 .dyn (ndw_any (k:=k) (ky:=l[i].key) (ch:=l[i].child) (tt:=l[i].total) (la:=xa1) (lcc:=xc1) (lc:=l[i].loc) (sp:=l[i].spill) ok.r1 hoi ok.r0 hlo) ?_;rintro _ U4 ⟨rfl,hx⟩;have ok:=ok.ext hx;refine .z .addI<|.z .asI<|.nil<|.s<|.z .mvI<|.z .mvI<|.z .gtr<|.nil<|.cd (fun C1=>?_) (fun C1=>?_)
 ·
  refine .s<|.z .mvI<|.z .asI<|.nil<|.ret ⟨.J (i:Int),Res.one rfl rfl,⟨by rw [hr1,runC_s hil,if_pos (by unfold wC;omega),Nat.zero_add],ok.chg⟩⟩
 refine .skip<|.end<|hK1 _ _<|.r<|.z (.addI (b:=1))<|.z .mvI<|.nil<|.end<|hJ0 _ _ _ ⟨i+1,s1+((encCl k (⟨l[i].key,l[i].child,l[i].total,l[i].loc,l[i].spill⟩:Cel)).length+4),⟨rfl,rfl,rfl,rfl,rfl,rfl,rfl,trivial⟩,(ok).k0.f2.f2.e2,by omega,by omega,by rw [hr1,runC_s hil,if_neg (by unfold wC;omega)];unfold wC;rw [he2];omega,rfl⟩ (by omega)
theorem ndbig_any {ch tt sp lcc:Nat} {ky:Int} {la:Option Addr} {lc:List UInt8} (hb:(celI nb 0 [.J (k:Int),.slice na nn nc,.J (rt:Int)]).p h) (hw:(celI wb 0 [.func (.func 273) #[] #[.P nb]]).p h) (hz:(celI zb 0 [.J (z:Int)]).p h) (ho:okCl k (⟨ky,ch,tt,lc,sp⟩:Cel)) (hl:RdL h F E (la,lc.length,lcc) lc) (hN:lc.length<=16384) (hs:SmC k z (⟨ky,ch,tt,lc,sp⟩:Cel)) (hzN:z<=1000000) :
  Hc 274 #[.agg #[.J ky,.J (ch:Int),.J (tt:Int),.slice la lc.length lcc,.J (sp:Int)],.P wb,.P zb] h (fun v h'=>v=.bool false/\Ext h h'):=by
 have ok:=((((Hp.nil h none_).arg hl).rcel hb).rcel hz).rcel hw;have hel:(encCl k (⟨ky,ch,tt,lc,sp⟩:Cel)).length<=16450:=encCl_few ho;have hsm:(encCl k (⟨ky,ch,tt,lc,sp⟩:Cel)).length+8<=z / 4:=hs;refine HC.go Tryz.func274 13 ?_;refine .s<|.a' 3 (.bxA (cs:=[.J ky,.J (ch:Int),.J (tt:Int),.slice la lc.length lcc,.J (sp:Int)]) ok) ?_;rintro _ U1 ⟨pb1,rfl,ok,xe⟩;refine .z .asB<|.nil<|.seq<|.a 9 (fun fl hh=>Hp h none_ [boxI pb1 113 [.J ky,.J (ch:Int),.J (tt:Int),.slice la lc.length lcc,.J (sp:Int)]] [celI wb 0 [.func (.func 273) #[] #[.P nb]],celI zb 0 [.J (z:Int)],celI nb 0 [.J (k:Int),.slice na nn nc,.J (rt:Int)],rdI (nS h F) (nS h E) (la,lc.length,lcc) lc] hh) mixed ?_;have hS:=ok;refine .lw 0 false rfl 5 hS (fun _ _ hS=>.ld T.ag374 (hS.r0 0 _ rfl))<|.lw 1 false rfl 6 hS (fun _ _ hS=>.ldb T.ag113 hS.m0 T.sz113)<|.lw 4 false rfl 9 hS (fun _ _ hS=>.ld T.ag3 (hS.r1 0 _ rfl))<|.g 5 false rfl 10 hS (fun _=>.quoI (a:=z) (b:=4))<|.g 6 false rfl 11 hS (fun _=>.sub)<|.o1 2<|.c' false rfl 7 .dyn (ndw_any (k:=k) (ky:=ky) (ch:=ch) (tt:=tt) (la:=la) (lcc:=lcc) (lc:=lc) (sp:=sp) ok.r2 ho ok.r3 hN) ?_;rintro _ U2 ⟨rfl,hx⟩;have ok:=ok.ext hx;refine ⟨ok,?_⟩;have hS:=ok;refine .g 3 false rfl 8 hS (fun _=>.sub)<|.g 7 false rfl 12 hS (fun _=>.gtr)<|.g 8 false rfl 4 hS (fun _=>.asB)<|.e ?_;refine .ret ⟨.bool (decide ((((z / 4:Nat):Int)-8)<((((encCl k (⟨ky,ch,tt,lc,sp⟩:Cel)).length+4:Nat):Int)-4))),Res.one rfl rfl,⟨congrArg _ (decide_eq_false (by omega)),ok.chg⟩⟩
theorem ndix2_any (hb:(celI nb 0 [.J (k:Int),.slice na nn nc,.J (rt:Int)]).p h) (hw:(celI wb 0 [.func (.func 273) #[] #[.P nb]]).p h) (hz:(celI zb 0 [.J (z:Int)]).p h) (hl:RdL h F E (a,l.length,c) l) (ho:∀x∈l,okCl k x) (hsm:∀x∈l,SmC k z x) (hN:l.length<=100000) (hzN:z<=1000000) :
  Hc 256 #[.slice a l.length c,.func (.func 274) #[] #[.P wb,.P zb]] h (fun v h'=>v=.J (-1)/\Ext h h'):=by
 have ok:=((((Hp.nil h none_).arg hl).rcel hb).rcel hz).rcel hw;have hlm:=hl.m;have hlc:=hl.c;simp only at hlm hlc;refine HC.go Tryz.func256 19 ?_;refine .s<|.z .asI<|.nil<|.seq<|.s<|.z .mvS<|.z (.len T.el114)<|.z .mvI<|.nil<|.block fun K0 hK0=>.loop (fun m s hh=>∃(i:Nat),Has s [(0,.slice a l.length c),(1,.func (.func 274) #[] #[.P wb,.P zb]),(7,.J (l.length:Int)),(8,.J (i:Int))]/\Hp h none_ [] [celI wb 0 [.func (.func 273) #[] #[.P nb]],celI zb 0 [.J (z:Int)],celI nb 0 [.J (k:Int),.slice na nn nc,.J (rt:Int)],rdI (nS h F) (nS h E) (a,l.length,c) l] hh/\i<=l.length/\m=l.length-i) ?_ ?_
 ·exact ⟨_,0,⟨rfl,rfl,rfl,rfl,trivial⟩,(ok).k0.f3.f3.f3.f3.e4,qL _,rfl⟩
 rintro _ _ U1 ⟨i,hs,ok,hi,rfl⟩ J0 hJ0;refine .frame hs fun τ=>?_;refine .s<|.z .lss<|.nil<|.seq<|.cdr (fun C0=>?_) (fun C0=>?_)
 ·
  refine .exit<|hK0 _ _<|.s<|.z .asI<|.nil<|.ret ⟨.J (-1),Res.one rfl rfl,⟨rfl,ok.chg⟩⟩
 have hil:i<l.length:=by omega
 have hoi:=ho _ (qP hil);have hel:(encCl k l[i]).length<=16450:=encCl_few hoi;have he2:(encCl k (⟨l[i].key,l[i].child,l[i].total,l[i].loc,l[i].spill⟩:Cel)).length=(encCl k l[i]).length:=rfl;have hlo:l[i].loc.length<=16384:=by have:=okCl_rg (ky:=l[i].key) (ch:=l[i].child) (tt:=l[i].total) (lc:=l[i].loc) (sp:=l[i].spill) hoi;omega
 refine .skip<|.seq<|.block fun K1 hK1=>.s<|.z .mvI<|.z .asI<|.nil<|.s<|.z .mvF<|.z .mvS<|.z .mvI<|?_;obtain ⟨bb1,oo1,rfl,fb1⟩:=ok.r3.pos (by omega);refine .z (.ix i T.el114 T.sz113)<|?_;obtain ⟨xa1,xc1,hv1,hw1,hk1⟩:=ok.r3.cel (i:=i) (by omega);have ok:=ok.d3 (rdI (nS h E) (nS h E) (xa1,l[i].loc.length,xc1) (l[i].loc)) hw1 (fun _ h=>.inr (h.elim id id));refine .z (.ldc (vs:=celV l[i] xa1 xc1) T.ag113 hv1 T.sz113)<|.c' 16 .dyn (ndbig_any (k:=k) (z:=z) (ky:=l[i].key) (ch:=l[i].child) (tt:=l[i].total) (la:=xa1) (lcc:=xc1) (lc:=l[i].loc) (sp:=l[i].spill) ok.r3 ok.r1 ok.r2 hoi ok.r0 hlo (hsm _ (qP hil)) hzN) ?_;rintro _ U2 ⟨rfl,hx⟩;have ok:=ok.ext hx;refine .nil ?_;refine .cf<|.skip<|.end<|hK1 _ _<|.r<|.z (.addI (b:=1))<|.z .mvI<|.nil<|.end<|hJ0 _ _ _ ⟨i+1,⟨rfl,rfl,rfl,rfl,trivial⟩,(ok).k0.f4.f4.f4.f4.e4,by omega,rfl⟩ (by omega)
theorem ndcf2_any (hb:(celI nb 0 [.J (k:Int),.slice na nn nc,.J (rt:Int)]).p h) (hw:(celI wb 0 [.func (.func 273) #[] #[.P nb]]).p h) (hz:(celI zb 0 [.J (z:Int)]).p h) (hl:RdL h F E (a,l.length,c) l) (ho:∀x∈l,okCl k x) (hsm:∀x∈l,SmC k z x) (hN:l.length<=100000) (hzN:z<=1000000) :
  Hc 208 #[.slice a l.length c,.func (.func 274) #[] #[.P wb,.P zb]] h (fun v h'=>v=.bool false/\Ext h h'):=by
 have ok:=((((Hp.nil h none_).arg hl).rcel hb).rcel hz).rcel hw;have hlm:=hl.m;have hlc:=hl.c;simp only at hlm hlc;refine HC.go Tryz.func208 9 ?_;refine .s<|.z .asB<|.nil<|.s<|.z .mvS<|.z .mvF<|.c' 7 .func (ndix2_any (k:=k) (z:=z) ok.r2 ok.r0 ok.r1 (a:=a) (c:=c) (l:=l) ok.r3 ho hsm hN hzN) ?_;rintro _ U1 ⟨rfl,hx⟩;have ok:=ok.ext hx;refine .z .geq<|.z .asB<|.nil<|.ret ⟨.bool false,Res.one rfl rfl,⟨rfl,ok.chg⟩⟩
theorem ndFits_any (hl:RdL h F E (a,l.length,c) l) (ho:OkNd (⟨k,l,rt⟩:Nod)) (hz:okSz z=true) (hN:l.length<=100000) :
  Hc 146 #[.agg #[.J (k:Int),.slice a l.length c,.J (rt:Int)],.J (z:Int)] h (fun v h'=>v=.bool (decide (FitNd (⟨k,l,rt⟩:Nod) z))/\Ext h h'):=by
 have ok:=(Hp.nil h none_).arg hl;have hlm:=hl.m;have hlc:=hl.c;simp only at hlm hlc;have hzc:z=256\/z=512\/z=1024\/z=2048\/z=4096:=by simpa [okSz,or_assoc] using hz
 refine HC.go Tryz.func146 16 ?_;refine .s<|.a' 2 (.bxA (cs:=[.J (k:Int),.slice a l.length c,.J (rt:Int)]) ok) ?_;rintro _ U1 ⟨pb1,rfl,ok,xe⟩;refine .z .asB<|.nil<|.s<|.z .mvI<|.k 6 .func (ndsize_any (n:=z) (by omega))<|?_;rw [hz];refine .z .mvB<|.z (.ldb T.ag116 ok.m0 T.sz116)<|.c' 9 .func (ndright_any (k:=k) (rt:=rt) (a:=a) (c:=c) (l:=l) ok.r0) ?_;rintro _ U2 ⟨rfl,hx⟩;have ok:=ok.ext hx;rw [decide_eq_true ho];refine .z .pkt<|.z .mvB<|.z (.ldb T.ag116 ok.m0 T.sz116)<|.z .mvI<|.c' 14 .func (ndfits_any (k:=k) (rt:=rt) (z:=z) (a:=a) (c:=c) (l:=l) ok.r0 ho.c hN (by omega)) ?_;rintro _ U3 ⟨rfl,hx⟩;have ok:=ok.ext hx;refine .z .pkt<|.z .asB<|.nil<|.ret ⟨.bool (decide (FitNd (⟨k,l,rt⟩:Nod) z)),Res.one rfl rfl,⟨rfl,ok.chg⟩⟩
end
end Go.Proofs.YtfegfklipbnhjaaGreat
