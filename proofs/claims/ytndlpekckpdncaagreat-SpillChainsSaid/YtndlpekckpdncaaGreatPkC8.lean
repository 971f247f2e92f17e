/- Chains of trunks, told by their numbers: what Give and Take do to them. Conditions: those that each fact names. A store with so many pages, in a transaction, and the document's beside it. Conditions: the size and the room may be. A fresh store, bytes of a number, and the document's Local. Conditions: few. The chapter's first example of the free list. Conditions: none. The chapter's first example of chains, in plain terms. Conditions: none. Pages taken and given, and chains of bytes, of a store whose free list is sound, in plain terms. Conditions: those that each fact names. Chains put and dropped in a file, beside each other, in plain terms. Conditions: those that each fact names. The chapter's first example of chains. Conditions: none. Pages that are read, as rows of bytes. Conditions: none. What pages say of a chain, by the document; all pages of a store; whole numbers that are the same. Conditions: the store is in order. Another store takes and gives the pages of a chain. Conditions: both stores are sound, with the same free list. Each chain is as it was put, and shares no page. Conditions: that this is so. A disk whose power stays on: what its files have, in plain terms. Conditions: those that each fact names. The pager that keeps a journal, on a disk whose power stays on: how it lies in memory, and what holds of it. Conditions: those that each fact names. The pager that logs ahead, its power on: how it lies in memory, where its pages stand. Conditions: none. -/
import Derived.Test.YtndlpekckpdncaaGreatPkC7
set_option maxRecDepth 100000
set_option maxHeartbeats 2000000
set_option linter.all false
namespace Go.Proofs.YtndlpekckpdncaaGreat
open Go Go.HL
abbrev Trk:=List (Int × List Int)
def flatT (T:Trk):List Int:=T.flatMap fun t=>t.1::t.2
def frT:Trk→Int
 | []=>0
 | t::_=>t.1
def pageAt (P:List (List UInt8)) (k:Int):List UInt8:=P.getD (k-1).toNat []
def Tr (P:List (List UInt8)) (rm:Nat):Int→Trk→Prop
 | a,[]=>a=0
 | a,t::T=>a=t.1∧t.2.length≤rm∧frNums (pageAt P a)=t.2∧Tr P rm ((rdN (pageAt P a) 0 4:Nat):Int) T
section
variable {l:List UInt8} {p q n:Nat}
theorem rd_put_eq (h:p+4≤l.length) (hn:n<4294967296):rdN (put4 l p n) p 4=n:=by
 have h1:put4 l p n=l.take p++(fixedN n 4++l.drop (p+4)):=by unfold put4;rw [List.append_assoc]
 have h2:(l.take p).length=p:=by rw [List.length_take];omega
 rw [h1];have h3:=rdN_app (x:=l.take p) (y:=fixedN n 4) (z:=l.drop (p+4)) (k:=4) (fixedN_len _ _);rw [h2] at h3;rw [h3,beN_fixed (by simpa using hn)]
theorem rd_put_hi (h:p+4≤l.length) (hq:p+4≤q):rdN (put4 l p n) q 4=rdN l q 4:=by
 have h2:(l.take p++fixedN n 4).length=p+4:=by rw [List.length_append,List.length_take,fixedN_len];omega
 have h3:(put4 l p n).drop q=l.drop q:=by
  unfold put4;rw [List.drop_append,h2,List.drop_eq_nil_of_le (by omega),List.nil_append,List.drop_drop];congr 1;omega
 unfold rdN;rw [h3]
theorem rd_put_lo (h:p+4≤l.length) (hq:q+4≤p):rdN (put4 l p n) q 4=rdN l q 4:=by
 have h2:(l.take p).length=p:=by rw [List.length_take];omega
 have h3:((put4 l p n).drop q).take 4=(l.drop q).take 4:=by
  unfold put4;rw [List.append_assoc,List.drop_append,h2,List.take_append_of_le_length (by rw [List.length_drop,h2];omega),List.drop_take,List.take_take,Nat.min_eq_left (by omega)]
 unfold rdN;rw [h3]
theorem nums_snoc {k:Nat} (hl:8+4*rdN l 4 4+4≤l.length) (hz:l.length≤1000000) (hk:k<4294967296):frNums (put4 (put4 l (8+4*rdN l 4 4) k) 4 (rdN l 4 4+1))=frNums l++[(k:Int)]:=by
 generalize hm:rdN l 4 4=m at hl⊢;have hl1:(put4 l (8+4*m) k).length=l.length:=put4_len hl;have h4:rdN (put4 (put4 l (8+4*m) k) 4 (m+1)) 4 4=m+1:=rd_put_eq (by omega) (by omega);unfold frNums;rw [h4,hm,List.range_succ,List.map_append];congr 1
 ·refine List.map_congr_left fun i hi=>?_;have:=List.mem_range.1 hi;rw [rd_put_hi (by omega) (by omega),rd_put_lo hl (by omega)]
 ·simp only [List.map_cons,List.map_nil];rw [rd_put_hi (by omega) (by omega),rd_put_eq hl hk]
theorem nums_drop {m:Nat} (hm:rdN l 4 4=m+1) (hl:8+4*m+4≤l.length) (hz:l.length≤1000000):frNums (put4 (put4 l (8+4*m) 0) 4 m)=(frNums l).dropLast∧(frNums l).getLast? = some ((rdN l (8+4*m) 4:Nat):Int):=by
 have hl1:(put4 l (8+4*m) 0).length=l.length:=put4_len hl;have h4:rdN (put4 (put4 l (8+4*m) 0) 4 m) 4 4=m:=rd_put_eq (by omega) (by omega);constructor
 ·unfold frNums;rw [h4,hm,List.range_succ,List.map_append,List.map_cons,List.map_nil,List.dropLast_concat];refine List.map_congr_left fun i hi=>?_;have:=List.mem_range.1 hi;rw [rd_put_hi (by omega) (by omega),rd_put_lo hl (by omega)]
 ·unfold frNums;rw [hm,List.range_succ,List.map_append,List.map_cons,List.map_nil,List.getLast?_concat]
theorem next_put {k m:Nat} (hm:8≤k) (hl:k+4≤l.length):rdN (put4 (put4 l k n) 4 m) 0 4=rdN l 0 4:=by
 rw [rd_put_lo (by rw [put4_len hl];omega) (by omega),rd_put_lo hl (by omega)]
theorem zer_rd {z p:Nat} : rdN (zer z) p 4=0:=by
 unfold rdN zer;rw [List.drop_replicate,List.take_replicate];generalize min 4 (z-p)=k;induction k with
 | zero=>rfl
 | succ k ih=>rw [List.replicate_succ',beN_snoc,ih];rfl
theorem nums_new {z:Nat} (hz:12≤z):frNums (put4 (zer z) 0 n)=[]∧(n<4294967296→rdN (put4 (zer z) 0 n) 0 4=n):=by
 have hl:=zer_len (z:=z);refine ⟨?_,fun h=>rd_put_eq (by omega) h⟩;unfold frNums;rw [rd_put_hi (by omega) (by omega),zer_rd];rfl
end
theorem flatT_cons {t:Int × List Int} {T:Trk} : flatT (t::T)=t.1::(t.2++flatT T):=by unfold flatT;rw [List.flatMap_cons];rfl
theorem Met.left {N:Nat} {a b:List Int} (m:Met N (a++b)):Met N a:=⟨(List.nodup_append.1 m.nd).1,fun k hk=>m.rg k (List.mem_append_left _ hk)⟩
theorem Met.perm {N:Nat} {a b:List Int} (m:Met N a) (p:b.Perm a):Met N b:=⟨p.nodup_iff.2 m.nd,fun k hk=>m.rg k (p.mem_iff.1 hk)⟩
theorem Met.ok {N:Nat} {a:List Int} {k:Int} (m:Met N (a++[k])):frOk N a k=true:=by
 have h1:=m.rg k (by simp);have h2:=(List.nodup_append.1 m.nd).2.2;exact decide_eq_true ⟨h1.1,h1.2,fun h=>h2 k h k (by simp) rfl⟩
theorem Met.cons {N:Nat} {a:List Int} {k:Int} (m:Met N a) (h1:2≤k) (h2:k≤(N:Int)) (h3:k∉a):Met N (k::a):=⟨List.nodup_cons.2 ⟨h3,m.nd⟩,fun j hj=>by
 rcases List.mem_cons.1 hj with rfl | hj
 ·exact ⟨h1,h2⟩
 ·exact m.rg j hj⟩
theorem Met.tail {N:Nat} {a:List Int} {k:Int} (m:Met N (k::a)):Met N a:=⟨(List.nodup_cons.1 m.nd).2,fun j hj=>m.rg j (List.mem_cons_of_mem _ hj)⟩
theorem Met.lt {N:Nat} {a:List Int} (m:Met N a) (h:1≤N):a.length<N:=by
 have h3:(0::1::a.map Int.toNat).length≤(List.range (N+1)).length:=by
  refine List.Nodup.length_le_of_subset (List.nodup_cons.2 ⟨fun hk=>?_,List.nodup_cons.2 ⟨fun hk=>?_,?_⟩⟩) fun k hk=>?_
  ·rcases List.mem_cons.1 hk with hk | hk
   ·omega
   ·obtain ⟨x,hx,e⟩:=List.mem_map.1 hk;have:=m.rg x hx;omega
  ·obtain ⟨x,hx,e⟩:=List.mem_map.1 hk;have:=m.rg x hx;omega
  ·unfold List.Nodup;rw [List.pairwise_map];exact List.Pairwise.imp_of_mem (fun ha hb h e=>h (by have:=m.rg _ ha;have:=m.rg _ hb;omega)) m.nd
  ·rw [List.mem_range];rcases List.mem_cons.1 hk with rfl | hk
   ·omega
   rcases List.mem_cons.1 hk with rfl | hk
   ·omega
   ·obtain ⟨x,hx,rfl⟩:=List.mem_map.1 hk;have:=m.rg x hx;omega
 rw [List.length_cons,List.length_cons,List.length_map,List.length_range] at h3;omega
theorem frIn_all {N:Nat} : ∀ {r out:List Int},Met N (out++r)→frIn N r out=some (out++r)
 | [],out,_=>by rw [frIn_nil,List.append_nil]
 | k::r,out,m=>by
  have h:Met N ((out++[k])++r):=by simpa using m
  rw [frIn_ok h.left.ok,frIn_all h];simp
theorem frGo_all {P:List (List UInt8)} {rm:Nat} : ∀(f:Nat) (T:Trk) (a:Int) (out:List Int),T.length<f→Tr P rm a T→Met P.length (out++flatT T)→frGo P rm f a out=some (out++flatT T)
 | 0,_,_,_,h,_,_=>absurd h (Nat.not_lt_zero _)
 | f+1,[],a,out,_,tr,_=>by rw [show a=0 from tr,frGo_0];simp [flatT]
 | f+1,t::T,a,out,h,tr,m=>by
  obtain ⟨rfl,h2,h3,h4⟩:=tr;have m1:Met P.length ((out++[t.1])++(t.2++flatT T)):=by simpa [flatT_cons] using m
  have m2:Met P.length (((out++[t.1])++t.2)++flatT T):=by simpa using m1
  have hok:=m1.left.ok;have h0:t.1≠0:=by have:=m1.left.rg t.1 (by simp);omega
  have hn:frNums (P.getD (t.1-1).toNat [])=t.2:=h3;have hr:¬rm<rdN (P.getD (t.1-1).toNat []) 4 4:=by have:=frNums_len (l:=P.getD (t.1-1).toNat []);rw [hn] at this;omega
  rw [frGo_in h0 hok hr,hn,frIn_all m2.left,Option.bind_some];have:=frGo_all f T _ _ (by simp at h;omega) h4 m2;rw [show frGo P rm f ((rdN (P.getD (t.1-1).toNat []) 0 4:Nat):Int) (out++[t.1]++t.2)=some (out++[t.1]++t.2++flatT T) from this,flatT_cons];simp
theorem Tr.congr {P Q:List (List UInt8)} {rm:Nat} : ∀ {T:Trk} {a:Int},(∀t∈T,pageAt Q t.1=pageAt P t.1)→Tr P rm a T→Tr Q rm a T
 | [],_,_,h=>h
 | t::T,a,hc,h=>by
  obtain ⟨rfl,h2,h3,h4⟩:=h;have h5:=hc t (by simp);exact ⟨rfl,h2,by rw [h5];exact h3,by rw [h5];exact Tr.congr (fun u hu=>hc u (by simp [hu])) h4⟩
theorem Tr.hd {P:List (List UInt8)} {rm:Nat} {a:Int} {T:Trk} (h:Tr P rm a T):a=frT T:=by
 cases T with
 | nil=>exact h
 | cons t T=>exact h.1
theorem mem_flat {T:Trk} {t:Int × List Int} (h:t∈T):t.1∈flatT T:=List.mem_flatMap.2 ⟨t,h,by simp⟩
theorem len_flat {T:Trk} : T.length≤(flatT T).length:=by
 induction T with
 | nil=>simp
 | cons t T ih=>rw [flatT_cons];simp;omega
structure FrS (w:St) (T:Trk):Prop where
 z:okSz w.z=true
 len:∀b∈w.now,b.length=w.z
 mul:w.now.length*w.z≤16777216
 i:w.in_=true
 n:w.now≠[]
 hd:w.head=⟨(w.z:Int),(w.now.length:Int),frT T,((flatT T).length:Int),0,0⟩
 tr:Tr w.now ((w.z-8) / 4) (frT T) T
 mt:Met w.now.length (flatT T)
section
variable {w:St} {T:Trk} (f:FrS w T)
include f
theorem FrS.pgs:w.pgs=w.now:=if_pos f.i
theorem FrS.zc:w.z=256∨w.z=512∨w.z=1024∨w.z=2048∨w.z=4096:=okSz_c f.z
theorem FrS.n1:1≤w.now.length:=by have:=f.n;cases h:w.now with | nil=>exact absurd h this | cons _ _=>simp
theorem FrS.few:w.now.length≤65536:=by
 have h1:=f.zc;have h2:=f.mul;rcases h1 with h | h | h | h | h<;>rw [h] at h2<;>omega
theorem FrS.all:frAll w=some (flatT T):=by
 unfold frAll;rw [f.pgs,f.hd];have h1:=f.mt.len;have:=frGo_all (w.now.length+1) T (frT T) [] (by have:=len_flat (T:=T);omega) f.tr (by simpa using f.mt);simp only [this,List.nil_append,Option.bind_some,if_true]
theorem FrS.op:frOp w=(flatT T,0):=by
 have h:=f.all;unfold frOp frL frC;rw [if_neg (by rw [f.i];decide),if_neg (by rw [f.pgs];have:=f.n1;omega),h];rfl
theorem FrS.head' {P:List (List UInt8)} (h1:P.headD []=w.now.headD []) (h3:P≠[]):St.head { w with now:=P } = ⟨(w.z:Int),(P.length:Int),frT T,((flatT T).length:Int),0,0⟩:=by
 have e1:St.pgs { w with now:=P } = P:=if_pos f.i;have e2:=f.hd;unfold St.head at e2⊢;rw [e1,if_neg h3,h1];rw [f.pgs,if_neg f.n] at e2;injection e2 with _ _ e3 e4 e5 e6;show Hd.mk _ _ _ _ _ _=_;rw [e3,e4,e5,e6]
end
theorem pageAt_set {P:List (List UInt8)} {i:Nat} {b:List UInt8} {k:Int} (h:1≤k) (h2:k≠(i:Int)+1):pageAt (P.set i b) k=pageAt P k:=by
 unfold pageAt;rw [List.getD_eq_getElem?_getD,List.getD_eq_getElem?_getD,List.getElem?_set_ne (by omega)]
theorem pageAt_eq {P:List (List UInt8)} {i:Nat} {b:List UInt8} {k:Int} (h:k=(i:Int)+1) (hi:i<P.length):pageAt (P.set i b) k=b:=by
 unfold pageAt;rw [List.getD_eq_getElem?_getD,show (k-1).toNat=i by omega,List.getElem?_set_self hi];rfl
theorem frT_in {N:Nat} {T:Trk} (m:Met N (flatT T)) (h:T≠[]):2≤frT T∧frT T≤(N:Int):=by
 cases T with
 | nil=>exact absurd rfl h
 | cons t T=>exact m.rg t.1 (by rw [flatT_cons];simp)
theorem frT_nat {N:Nat} {T:Trk} (m:Met N (flatT T)):0≤frT T:=by
 cases T with
 | nil=>exact Int.le_refl 0
 | cons t T=>have:=frT_in m (by simp);omega
def hdF' (w:St) (P:List (List UInt8)) (T:Trk):Hd:=⟨(w.z:Int),(P.length:Int),frT T,((flatT T).length:Int),0,0⟩
theorem flat_nil {T:Trk} : flatT T=[]↔T=[]:=by
 cases T with
 | nil=>simp [flatT]
 | cons t T=>simp [flatT_cons]
section
variable {w:St} {T T':Trk} {P:List (List UInt8)} (f:FrS w T)
include f
theorem FrS.next (h1:P.headD []=w.now.headD []) (h2:∀b∈P,b.length=w.z) (h3:P≠[]) (h4:P.length*w.z≤16777216) (tr:Tr P ((w.z-8) / 4) (frT T') T') (mt:Met P.length (flatT T')) :
  hdd { w with now:=P } (frT T') ((flatT T').length:Int)=({ w with now:=P.set 0 (pg1 w.z (hdF' w P T')) },0)∧FrS { w with now:=P.set 0 (pg1 w.z (hdF' w P T')) } T':=by
 have hP:1≤P.length:=by cases P with | nil=>exact absurd rfl h3 | cons _ _=>simp
 have hlt:=mt.lt hP;have hzc:=f.zc;have hfew:P.length≤65536:=by rcases hzc with h | h | h | h | h<;>rw [h] at h4<;>omega
 have hc:ChkP (hdF' w P T'):=by
  refine ⟨decide_eq_true (by show (w.z:Int)=256∨(w.z:Int)=512∨(w.z:Int)=1024∨(w.z:Int)=2048∨(w.z:Int)=4096;omega),⟨by show (1:Int)≤(P.length:Int);omega,by show (P.length:Int)≤1048576;omega,by show (w.z:Int)*(P.length:Int)≤16777216;rw [Int.mul_comm,←Int.natCast_mul];omega⟩,⟨by show (0:Int)≤((flatT T').length:Int);omega,by show ((flatT T').length:Int)<(P.length:Int);omega,fun h=>?_,fun h=>?_⟩,⟨by show (0:Int)≤0;omega,by show (0:Int)≤2147483647;omega⟩,by show (0:Int)≤0;omega,by show (0:Int)≤2147483647;omega⟩
  ·have h0:(flatT T').length=0:=by have:((flatT T').length:Int)=0:=h;omega
   have:=flat_nil.1 (List.eq_nil_of_length_eq_zero h0);subst this;rfl
  ·refine frT_in mt fun e=>?_;subst e;exact absurd (show (0:Int)<((flatT []).length:Int) from h) (by decide)
 have hh:=f.head' h1 h3;have hw:hdd { w with now:=P } (frT T') ((flatT T').length:Int)=({ w with now:=P.set 0 (pg1 w.z (hdF' w P T')) },0):=by
  unfold hdd;rw [hh];have h5:=St.setHead_0 (w:={ w with now:=P }) (H:=hdF' w P T') (n:=P.length) f.i (by rintro (h | h | h);exact h hc;exact h rfl;exact absurd h (by show ¬(max 1 (P.length:Int)<(P.length:Int));omega)) rfl;refine h5.trans ?_;show (({ w with now:=(wth P 1 (pg1 w.z (hdF' w P T'))).take P.length } : St),0)=_;have e:(wth P 1 (pg1 w.z (hdF' w P T'))).take P.length=P.set 0 (pg1 w.z (hdF' w P T')):=by
   unfold wth;rw [if_neg (by omega),List.take_of_length_le (by simp)]
  rw [e]
 refine ⟨hw,f.z,fun b hb=>?_,by simpa using h4,f.i,by simp [h3],?_,?_,by simpa using mt⟩
 ·rcases List.mem_or_eq_of_mem_set hb with hb | hb
  ·exact h2 b hb
  ·rw [hb];exact pg1_len f.z
 ·have e1:St.pgs { w with now:=P.set 0 (pg1 w.z (hdF' w P T')) } = P.set 0 (pg1 w.z (hdF' w P T')):=if_pos f.i;unfold St.head;rw [e1,if_neg (by simp [h3])];have e2:(P.set 0 (pg1 w.z (hdF' w P T'))).headD []=pg1 w.z (hdF' w P T'):=by
   cases P with
   | nil=>exact absurd rfl h3
   | cons a P=>rfl
  rw [e2];unfold pg1;rw [dec_enc hc];show Hd.mk _ _ _ _ _ _=Hd.mk _ _ _ _ _ _;simp [hdF']
 ·refine Tr.congr (fun t ht=>?_) tr;have:=mt.rg t.1 (mem_flat ht);exact pageAt_set (by omega) (by omega)
theorem FrS.wr {k:Int} {b:List UInt8} (h1:2≤k) (h2:k≤(w.now.length:Int)) (hb:b.length=w.z):w.write k b=({ w with now:=w.now.set (k-1).toNat b },0):=by
 obtain ⟨n,rfl⟩:∃n:Nat,k=(n:Int):=⟨k.toNat,by omega⟩;have hm:=f.mul;have hfew:=f.few;have hmz:(n:Int)*(w.z:Int)≤16777216:=by
  have:n*w.z≤w.now.length*w.z:=Nat.mul_le_mul_right _ (by omega);rw [←Int.natCast_mul];omega
 rw [St.write_0 f.i (by rintro (h | h | h | h);omega;omega;exact f.n h;exact h hb) (by rintro (h | h)<;>omega)];unfold wth;rw [if_neg (by omega),show ((n:Int)-1).toNat=n-1 by omega]
end
structure Kp (w w':St) (B:Int→Prop):Prop where
 z:w'.z=w.z
 su:w'.sure=w.sure
 i:w'.in_=w.in_
 sv:w'.saves=w.saves
 pg:∀k,2≤k→¬B k→pageAt w'.now k=pageAt w.now k
def upP (w:St) (P:List (List UInt8)) (T:Trk):St:={ w with now:=P.set 0 (pg1 w.z (hdF' w P T)) }
theorem upP_len {w:St} {P:List (List UInt8)} {T:Trk} : (upP w P T).now.length=P.length:=List.length_set ..
theorem upP_at {w:St} {P:List (List UInt8)} {T:Trk} {k:Int} (h:2≤k):pageAt (upP w P T).now k=pageAt P k:=pageAt_set (by omega) (by omega)
theorem set_head {P:List (List UInt8)} {i:Nat} {b:List UInt8} (h:1≤i):(P.set i b).headD []=P.headD []:=by
 cases P with
 | nil=>rfl
 | cons a P=>cases i with
  | zero=>omega
  | succ i=>rfl
theorem set_len {P:List (List UInt8)} {i z:Nat} {b:List UInt8} (h:∀x∈P,x.length=z) (hb:b.length=z):∀x∈P.set i b,x.length=z:=fun x hx=>(List.mem_or_eq_of_mem_set hx).elim (h x) fun e=>e▸hb
theorem mt_ne {N:Nat} {T:Trk} {t u:Int × List Int} (m:Met N (flatT (t::T))) (h:u∈T):u.1≠t.1∧u.1∉t.2:=by
 rw [flatT_cons] at m;have h1:=mem_flat h;have h2:=List.nodup_cons.1 m.nd;exact ⟨fun e=>h2.1 (by rw [←e];exact List.mem_append_right _ h1),fun e=>(List.nodup_append.1 h2.2).2.2 _ e _ h1 rfl⟩
section
variable {w:St} {T:Trk} {no:Int}
theorem FrS.give_ (f:FrS w T) (h1:2≤no) (h2:no≤(w.now.length:Int)):¬(w.in_=true∧0<w.pgs.length∧(no<2∨(w.pgs.length:Int)<no)):=by
 rw [f.pgs];rintro ⟨_,_,h | h⟩<;>omega
theorem FrS.give_b (f:FrS w T) (h1:2≤no) (h2:no≤(w.now.length:Int)) (h3:no∉flatT T) (h4:¬(frT T≠0∧tkN w<(w.z-8) / 4)) :
  giveF w no=(upP w (w.now.set (no-1).toNat (put4 (zer w.z) 0 (frT T).toNat)) ((no,[])::T),0)∧FrS (upP w (w.now.set (no-1).toNat (put4 (zer w.z) 0 (frT T).toNat)) ((no,[])::T)) ((no,[])::T):=by
 have hzc:=f.zc;have hpl:(put4 (zer w.z) 0 (frT T).toNat).length=w.z:=by rw [put4_len (by rw [zer_len];omega),zer_len]
 have hfr:=frT_nat f.mt;have hfl:frT T<4294967296:=by
  by_cases hT:T=[]
  ·subst hT;decide
  ·have:=(frT_in f.mt hT).2;have:=f.few;omega
 obtain ⟨hn1,hn2⟩:=nums_new (n:=(frT T).toNat) (z:=w.z) (by omega);have hn:=f.next (P:=w.now.set (no-1).toNat (put4 (zer w.z) 0 (frT T).toNat)) (T':=(no,[])::T) (set_head (by omega)) (set_len f.len hpl) (by simp [f.n]) (by simpa using f.mul) (by
  refine ⟨rfl,Nat.zero_le _,?_,?_⟩
  ·show frNums (pageAt _ no)=[];rw [pageAt_eq (by omega) (by omega)];exact hn1
  ·show Tr _ _ ((rdN (pageAt _ no) 0 4:Nat):Int) T;rw [pageAt_eq (by omega) (by omega),hn2 (by omega),show (((frT T).toNat:Nat):Int)=frT T by omega];refine Tr.congr (fun t ht=>?_) f.tr;have h5:=f.mt.rg t.1 (mem_flat ht);have h6:t.1≠no:=fun e=>h3 (e▸mem_flat ht);exact pageAt_set (by omega) (by omega)) (by
  rw [flatT_cons,List.length_set];exact f.mt.cons h1 h2 h3)
 refine ⟨?_,hn.2⟩;rw [giveF_b (f.give_ h1 h2) (by rw [f.op]) (by rw [f.op];exact h3) (by rw [f.hd];exact h4)];have hw:gvB w no=({ w with now:=w.now.set (no-1).toNat (put4 (zer w.z) 0 (frT T).toNat) },0):=by
  unfold gvB;rw [f.hd];exact f.wr h1 h2 hpl
 rw [thenH_0 (by rw [hw]),hw,f.hd];have e:((flatT T).length:Int)+1=((flatT ((no,[])::T)).length:Int):=by rw [flatT_cons];simp
 show hdd _ no (((flatT T).length:Int)+1)=_;rw [e];exact hn.1
theorem FrS.tk {t:Int × List Int} {T:Trk} (f:FrS w (t::T)):tkA w=pageAt w.now t.1∧tkN w=t.2.length∧(tkA w).length=w.z∧2≤t.1∧t.1≤(w.now.length:Int)∧8+4*((w.z-8) / 4)≤w.z:=by
 have h1:tkA w=pageAt w.now t.1:=by unfold tkA;rw [f.hd,f.pgs];rfl
 have h2:tkN w=t.2.length:=by
  obtain ⟨_,_,h3,_⟩:=f.tr;unfold tkN;rw [h1,←frNums_len,show frNums (pageAt w.now t.1)=t.2 from h3]
 have h3:=frT_in f.mt (by simp);have hzc:=f.zc;refine ⟨h1,h2,?_,h3.1,h3.2,by omega⟩;rw [h1];unfold pageAt;have h4:(t.1-1).toNat<w.now.length:=by have h5:t.1≤(w.now.length:Int):=h3.2;have h6:2≤t.1:=h3.1;omega
 rw [List.getD_eq_getElem?_getD,List.getElem?_eq_getElem h4];exact f.len _ (List.getElem_mem h4)
theorem FrS.give_a {t:Int × List Int} {T:Trk} (f:FrS w (t::T)) (h1:2≤no) (h2:no≤(w.now.length:Int)) (h3:no∉flatT (t::T)) (h4:t.2.length<(w.z-8) / 4) :
  giveF w no=(upP w (w.now.set (t.1-1).toNat (put4 (put4 (pageAt w.now t.1) (8+4*t.2.length) no.toNat) 4 (t.2.length+1))) ((t.1,t.2++[no])::T),0)∧FrS (upP w (w.now.set (t.1-1).toNat (put4 (put4 (pageAt w.now t.1) (8+4*t.2.length) no.toNat) 4 (t.2.length+1))) ((t.1,t.2++[no])::T)) ((t.1,t.2++[no])::T):=by
 have hzc:=f.zc;have hfew:=f.few;obtain ⟨a1,a2,a3,a4,a5,a6⟩:=f.tk;rw [a1] at a3;obtain ⟨_,_,b3,b4⟩:=f.tr;have b3:frNums (pageAt w.now t.1)=t.2:=b3;have b5:rdN (pageAt w.now t.1) 4 4=t.2.length:=by rw [←frNums_len,b3]
 have hq:8+4*t.2.length+4≤(pageAt w.now t.1).length:=by rw [a3];omega
 have hpl:(put4 (put4 (pageAt w.now t.1) (8+4*t.2.length) no.toNat) 4 (t.2.length+1)).length=w.z:=by
  rw [put4_len (by rw [put4_len hq];omega),put4_len hq,a3]
 have hns:=nums_snoc (l:=pageAt w.now t.1) (k:=no.toNat) (by rw [b5];exact hq) (by omega) (by omega);rw [b5,b3,show ((no.toNat:Nat):Int)=no by omega] at hns;have hnx:=next_put (l:=pageAt w.now t.1) (k:=8+4*t.2.length) (n:=no.toNat) (m:=t.2.length+1) (by omega) hq;have hmt:Met w.now.length (flatT ((t.1,t.2++[no])::T)):=by
  refine (f.mt.cons h1 h2 h3).perm ?_;rw [flatT_cons,flatT_cons];show (t.1::((t.2++[no])++flatT T)).Perm (no::t.1::(t.2++flatT T));refine List.Perm.trans (List.Perm.cons _ ?_) (List.Perm.swap _ _ _);rw [List.append_assoc];exact List.perm_middle
 have hn:=f.next (P:=w.now.set (t.1-1).toNat (put4 (put4 (pageAt w.now t.1) (8+4*t.2.length) no.toNat) 4 (t.2.length+1))) (T':=(t.1,t.2++[no])::T) (set_head (by omega)) (set_len f.len hpl) (by simp [f.n]) (by simpa using f.mul) (by
  refine ⟨rfl,by rw [List.length_append];simp;omega,?_,?_⟩
  ·show frNums (pageAt _ t.1)=_;rw [pageAt_eq (by omega) (by omega)];exact hns
  ·show Tr _ _ ((rdN (pageAt _ t.1) 0 4:Nat):Int) T;rw [pageAt_eq (by omega) (by omega),hnx];refine Tr.congr (fun u hu=>?_) b4;have h5:=f.mt.rg u.1 (mem_flat (List.mem_cons_of_mem _ hu));have h6:=(mt_ne f.mt hu).1;exact pageAt_set (by omega) (by omega)) (by rw [List.length_set];exact hmt)
 refine ⟨?_,hn.2⟩;rw [giveF_a (f.give_ h1 h2) (by rw [f.op]) (by rw [f.op];exact h3) (by rw [f.hd];show t.1≠0;omega) (by rw [a2];exact h4)];have hw:gvA w no=({ w with now:=w.now.set (t.1-1).toNat (put4 (put4 (pageAt w.now t.1) (8+4*t.2.length) no.toNat) 4 (t.2.length+1)) },0):=by
  unfold gvA;rw [f.hd,a1,a2];exact f.wr a4 a5 hpl
 rw [thenH_0 (by rw [hw]),hw,f.hd];have e:((flatT (t::T)).length:Int)+1=((flatT ((t.1,t.2++[no])::T)).length:Int):=by rw [flatT_cons,flatT_cons];simp;omega
 show hdd _ t.1 (((flatT (t::T)).length:Int)+1)=_;rw [e];exact hn.1
theorem FrS.take_a {t:Int × List Int} {T:Trk} {ns:List Int} (f:FrS w (t::T)) (ht:t.2=ns++[no]):∃w',takeF w=(w',no,0)∧FrS w' ((t.1,ns)::T)∧w'.z=w.z∧w'.now.length=w.now.length∧pageAt w'.now no=zer w.z∧Kp w w' (fun k=>k=t.1∨k=no):=by
 have hzc:=f.zc;have hfew:=f.few;obtain ⟨a1,a2,a3,a4,a5,a6⟩:=f.tk;rw [a1] at a3;obtain ⟨_,b2,b3,b4⟩:=f.tr;have b3:frNums (pageAt w.now t.1)=t.2:=b3;have b5:rdN (pageAt w.now t.1) 4 4=ns.length+1:=by rw [←frNums_len,b3,ht];simp
 have b6:tkN w=ns.length+1:=by rw [a2,ht];simp
 have b7:ns.length+1≤(w.z-8) / 4:=by rw [ht] at b2;simpa using b2
 have hq:8+4*ns.length+4≤(pageAt w.now t.1).length:=by rw [a3];omega
 obtain ⟨c1,c2⟩:=nums_drop b5 hq (by omega);rw [b3,ht] at c1 c2;rw [List.dropLast_concat] at c1;rw [List.getLast?_concat] at c2;injection c2 with c2;have hm:=f.mt;have hno:2≤no∧no≤(w.now.length:Int):=hm.rg no (by rw [flatT_cons,ht];simp);have hp:(flatT (t::T)).Perm (no::flatT ((t.1,ns)::T)):=by
  rw [flatT_cons,flatT_cons,ht];show (t.1::((ns++[no])++flatT T)).Perm (no::t.1::(ns++flatT T));refine List.Perm.trans (List.Perm.cons _ ?_) (List.Perm.swap _ _ _);rw [List.append_assoc];exact List.perm_middle
 have hm2:=hm.perm hp.symm;have hnk:no≠t.1:=fun e=>(List.nodup_cons.1 hm2.nd).1 (by rw [flatT_cons,e];simp)
 let B:=put4 (put4 (pageAt w.now t.1) (8+4*ns.length) 0) 4 ns.length
 have hpl:B.length=w.z:=by show (put4 (put4 _ _ _) _ _).length=_;rw [put4_len (by rw [put4_len hq];omega),put4_len hq,a3]
 have hnx:=next_put (l:=pageAt w.now t.1) (k:=8+4*ns.length) (n:=0) (m:=ns.length) (by omega) hq;have hl1:=set_len (i:=(t.1-1).toNat) f.len hpl;have hw1:tkW w=({ w with now:=w.now.set (t.1-1).toNat B },0):=by
  unfold tkW;rw [b6,if_pos (by omega),f.hd,a1];exact f.wr a4 a5 hpl
 have hkn:tkNo w=no:=by unfold tkNo;rw [b6,if_pos (by omega),a1];exact c2.symm
 have hkf:tkFr w=t.1:=by unfold tkFr;rw [b6,if_pos (by omega),f.hd];rfl
 have e1:(w.now.set (t.1-1).toNat B).length=w.now.length:=List.length_set ..;have hz:tkZ w=({ w with now:=(w.now.set (t.1-1).toNat B).set (no-1).toNat (zer w.z) },0):=by
  unfold tkZ;rw [hw1,hkn];have hmz:no*(w.z:Int)≤16777216:=by
   have:no.toNat*w.z≤w.now.length*w.z:=Nat.mul_le_mul_right _ (by omega);have:=f.mul;rw [show no=((no.toNat:Nat):Int) by omega,←Int.natCast_mul];omega
  have h5:=St.write_0 (w:={ w with now:=w.now.set (t.1-1).toNat B }) (no:=no.toNat) (b:=zer w.z) f.i (by
   show ¬(_∨((w.now.set (t.1-1).toNat B).length:Int)+1<_∨w.now.set (t.1-1).toNat B=[]∨(zer w.z).length≠w.z);rw [e1,zer_len];rintro (h | h | h | h)
   ·omega
   ·omega
   ·have:=f.n1;rw [h] at e1;simp at e1;omega
   ·exact h rfl) (by show ¬(_∨16777216<((no.toNat:Nat):Int)*(w.z:Int));rw [show ((no.toNat:Nat):Int)=no by omega];rintro (h | h)<;>omega)
  rw [show ((no.toNat:Nat):Int)=no by omega] at h5;refine h5.trans ?_;show (({ w with now:=wth (w.now.set (t.1-1).toNat B) no.toNat (zer w.z) } : St),0)=_;unfold wth;rw [if_neg (by rw [e1];omega),show (no-1).toNat=no.toNat-1 by omega]
 have hn:=f.next (P:=(w.now.set (t.1-1).toNat B).set (no-1).toNat (zer w.z)) (T':=(t.1,ns)::T) ((set_head (by omega)).trans (set_head (by omega))) (set_len hl1 zer_len) (by simp [f.n]) (by simpa using f.mul) (by
  refine ⟨rfl,by show ns.length≤_;omega,?_,?_⟩
  ·show frNums (pageAt _ t.1)=ns;rw [pageAt_set (by omega) (by omega),pageAt_eq (by omega) (by omega)];exact c1
  ·show Tr _ _ ((rdN (pageAt _ t.1) 0 4:Nat):Int) T;rw [pageAt_set (by omega) (by omega),pageAt_eq (by omega) (by omega),hnx];refine Tr.congr (fun u hu=>?_) b4;have h5:=hm.rg u.1 (mem_flat (List.mem_cons_of_mem _ hu));have h6:=mt_ne hm hu;have h7:u.1≠no:=fun e=>h6.2 (by rw [ht,e];simp);rw [pageAt_set (by omega) (by omega)];exact pageAt_set (by omega) (by omega)) (by rw [List.length_set,e1];exact hm2.tail)
 refine ⟨_,?_,hn.2,rfl,by simp,?_,rfl,rfl,rfl,rfl,fun k k2 kb=>?_⟩
 ·rw [takeF_h (by rw [f.op]) (by rw [f.op];simp [flatT_cons]) (by rw [hw1]) (by rw [hz])];have e:((flatT (t::T)).length:Int)-1=((flatT ((t.1,ns)::T)).length:Int):=by rw [hp.length_eq];simp
  have hh:tkH w=({ w with now:=((w.now.set (t.1-1).toNat B).set (no-1).toNat (zer w.z)).set 0 (pg1 w.z (hdF' w ((w.now.set (t.1-1).toNat B).set (no-1).toNat (zer w.z)) ((t.1,ns)::T))) },0):=by
   unfold tkH;rw [hz,hkf,f.hd];show hdd _ t.1 (((flatT (t::T)).length:Int)-1)=_;rw [e];exact hn.1
  rw [hh,hkn];rfl
 ·show pageAt (List.set _ 0 _) no=_;rw [pageAt_set (by omega) (by omega),pageAt_eq (by omega) (by rw [e1];omega)]
 ·have:=not_or.1 kb;show pageAt (List.set _ 0 _) k=_;rw [pageAt_set (by omega) (by omega),pageAt_set (by omega) (by omega),pageAt_set (by omega) (by omega)]
theorem FrS.take_b {t:Int × List Int} {T:Trk} (f:FrS w (t::T)) (ht:t.2=[]):∃w',takeF w=(w',t.1,0)∧FrS w' T∧w'.z=w.z∧w'.now.length=w.now.length∧pageAt w'.now t.1=zer w.z∧Kp w w' (fun k=>k=t.1):=by
 have hzc:=f.zc;have hfew:=f.few;obtain ⟨a1,a2,a3,a4,a5,a6⟩:=f.tk;obtain ⟨_,b2,b3,b4⟩:=f.tr;have b4:Tr w.now ((w.z-8) / 4) ((rdN (pageAt w.now t.1) 0 4:Nat):Int) T:=b4;have b6:tkN w=0:=by rw [a2,ht];rfl
 have hm:=f.mt;have hw1:tkW w=(w,0):=by unfold tkW;rw [b6];rfl
 have hkn:tkNo w=t.1:=by unfold tkNo;rw [b6,if_neg (by omega),f.hd];rfl
 have hkf:tkFr w=frT T:=by unfold tkFr;rw [b6,if_neg (by omega),a1];exact b4.hd
 have hz:tkZ w=({ w with now:=w.now.set (t.1-1).toNat (zer w.z) },0):=by unfold tkZ;rw [hw1,hkn];exact f.wr a4 a5 zer_len
 rw [b4.hd] at b4;have hm2:Met w.now.length (flatT T):=by rw [flatT_cons,ht] at hm;exact hm.tail
 have hn:=f.next (P:=w.now.set (t.1-1).toNat (zer w.z)) (T':=T) (set_head (by omega)) (set_len f.len zer_len) (by simp [f.n]) (by simpa using f.mul) (by
  refine Tr.congr (fun u hu=>?_) b4;have h5:=hm2.rg u.1 (mem_flat hu);have h6:=mt_ne hm hu;exact pageAt_set (by omega) (by omega)) (by rw [List.length_set];exact hm2)
 refine ⟨_,?_,hn.2,rfl,by simp,?_,rfl,rfl,rfl,rfl,fun k k2 kb=>?_⟩
 ·rw [takeF_h (by rw [f.op]) (by rw [f.op];simp [flatT_cons]) (by rw [hw1]) (by rw [hz])];have e:((flatT (t::T)).length:Int)-1=((flatT T).length:Int):=by rw [flatT_cons,ht];simp
  have hh:tkH w=({ w with now:=(w.now.set (t.1-1).toNat (zer w.z)).set 0 (pg1 w.z (hdF' w (w.now.set (t.1-1).toNat (zer w.z)) T)) },0):=by
   unfold tkH;rw [hz,hkf,f.hd];show hdd _ (frT T) (((flatT (t::T)).length:Int)-1)=_;rw [e];exact hn.1
  rw [hh,hkn];rfl
 ·show pageAt (List.set _ 0 _) t.1=_;rw [pageAt_set (by omega) (by omega),pageAt_eq (by omega) (by omega)]
 ·show pageAt (List.set _ 0 _) k=_;rw [pageAt_set (by omega) (by omega),pageAt_set (by omega) (by omega)]
theorem FrS.take_n (f:FrS w []) (h:(w.now.length+1)*w.z≤16777216):∃w',takeF w=(w',(w.now.length:Int)+1,0)∧FrS w' []∧w'.z=w.z∧w'.now.length=w.now.length+1∧pageAt w'.now ((w.now.length:Int)+1)=zer w.z∧Kp w w' (fun k=>k=(w.now.length:Int)+1):=by
 have hzc:=f.zc;have hfew:=f.few;have h1:=f.n1;have hw:w.write ((w.now.length:Int)+1) (zer w.z)=({ w with now:=w.now++[zer w.z] },0):=by
  have h5:=St.write_0 (w:=w) (no:=w.now.length+1) (b:=zer w.z) f.i (by rw [zer_len];rintro (h | h | h | h);omega;omega;exact f.n h;exact h rfl) (by rw [←Int.natCast_mul];rintro (h | h)<;>omega);rw [show ((w.now.length+1:Nat):Int)=(w.now.length:Int)+1 by omega] at h5;rw [h5];unfold wth;rw [if_pos (by omega)]
 have hn:=f.next (P:=w.now++[zer w.z]) (T':=[]) (by cases hq:w.now with | nil=>exact absurd hq f.n | cons a l=>rfl) (fun b hb=>(List.mem_append.1 hb).elim (f.len b) fun e=>by rw [List.mem_singleton.1 e];exact zer_len) (by simp) (by simpa using h) rfl Met.nil;have hg:frGrow w=(upP w (w.now++[zer w.z]) [],(w.now.length:Int)+1,0):=by
  rw [frGrow_h (by rw [f.pgs];rcases hzc with h6 | h6 | h6 | h6 | h6<;>rw [h6] at h⊢<;>omega) (by rw [f.pgs,hw]),f.pgs,hw];have h7:=hn.1;rw [show (((flatT []).length:Nat):Int)=0 from rfl,show frT []=0 from rfl] at h7;rw [h7];rfl
 refine ⟨_,?_,hn.2,rfl,by simp,?_,rfl,rfl,rfl,rfl,fun k k2 kb=>?_⟩
 ·rw [takeF_g (by rw [f.op]) (by rw [f.op];rfl),hg];rfl
 ·show pageAt (List.set _ 0 _) _=_;rw [pageAt_set (by omega) (by omega)];unfold pageAt;rw [show ((w.now.length:Int)+1-1).toNat=w.now.length by omega];simp
 ·show pageAt (List.set _ 0 _) k=_;rw [pageAt_set (by omega) (by omega)];have kb:k≠(w.now.length:Int)+1:=kb;unfold pageAt;rw [List.getD_eq_getElem?_getD,List.getD_eq_getElem?_getD,List.getElem?_append];split
  ·rfl
  ·rw [List.getElem?_eq_none (l:=w.now) (by omega),List.getElem?_eq_none (by simp;omega)]
end
end Go.Proofs.YtndlpekckpdncaaGreat
namespace Go.HL
open Go Go.Proofs.YtndlpekckpdncaaGreat
theorem Hp.addM15 {h0 h h':Heap} {D:Nat→Prop} {M R:List Itm} {a:Itm} (ok:Hp h0 D M R h) (q:Hp h none_ [a] [] h'):Hp h0 D (a::M) R h':=
 ok.newM q.chg a q.m0 fun j hj=>by
  have h1:=(q.m a List.mem_cons_self).2 j hj;exact ⟨h1.2.elim (fun f=>f.elim) id,h1.1⟩
end Go.HL
namespace Go.Proofs.YtndlpekckpdncaaGreat
open Go Go.HL
section
variable {f:FuncId} {args:Array Value} {h:Heap} {F:Nat→Prop} {G:Pgr} {so c:Nat} {w':St} {ci n:Int}
theorem ansE {x:St × Nat} (q:HC Tryz.prog f args h (fun v h'=>∃F',v=.int .i64 ((x.2:Nat):Int)∧Hp h F [dsI G so F' x.1] [] h')) (e:x=(w',c)) (hc:((c:Nat):Int)=ci):HC Tryz.prog f args h (fun v h'=>∃F',v=.int .i64 ci∧Hp h F [dsI G so F' w'] [] h'):=by subst e hc;exact q
theorem ansT {x:St × Int × Nat} (q:HC Tryz.prog f args h (fun v h'=>∃F',v=.tuple #[.int .i64 x.2.1,.int .i64 ((x.2.2:Nat):Int)]∧Hp h F [dsI G so F' x.1] [] h')) (e:x=(w',n,c)) (hc:((c:Nat):Int)=ci):HC Tryz.prog f args h (fun v h'=>∃F',v=.tuple #[.int .i64 n,.int .i64 ci]∧Hp h F [dsI G so F' w'] [] h'):=by subst e hc;exact q
end
def opB (z:Nat):St:=⟨z,[],true,[],[]⟩
def hd1 (z:Nat):Hd:=⟨(z:Int),1,0,0,0,0⟩
def opL (z j:Nat):List (List UInt8):=pg1 z (hd1 z)::(List.range j).map fun i=>pageG z (i+2)
def opV (z j:Nat):St:=⟨z,[],true,opL z j,[]⟩
theorem chk_hd1 {z:Nat} (hz:okSz z=true):ChkP (hd1 z):=by
 have:=okSz_c hz;refine ⟨decide_eq_true (by show (z:Int)=256∨(z:Int)=512∨(z:Int)=1024∨(z:Int)=2048∨(z:Int)=4096;omega),⟨by show (1:Int)≤1;omega,by show (1:Int)≤1048576;omega,by show (z:Int)*1≤16777216;omega⟩,⟨by show (0:Int)≤0;omega,by show (0:Int)<1;omega,fun _=>rfl,fun h=>absurd h (by show ¬(0:Int)<0;omega)⟩,⟨by show (0:Int)≤0;omega,by show (0:Int)≤2147483647;omega⟩,by show (0:Int)≤0;omega,by show (0:Int)≤2147483647;omega⟩
theorem hd1_in {z:Nat} (hz:okSz z=true):HdIn (⟨(z:Int),1,0,0,0,0⟩:Hd):=by
 have:=okSz_c hz;refine ⟨?_,?_,?_,?_,?_,?_⟩<;>(unfold i64N;dsimp only;omega)
theorem op_begin {z:Nat} : St.begin_ (newS z)=(opB z,0):=rfl
theorem op_head {z:Nat} (hz:okSz z=true):St.setHead (opB z) (⟨(z:Int),1,0,0,0,0⟩:Hd)=(opV z 0,0):=
 St.setHead_0 (w:=opB z) (n:=1) rfl (by rintro (h | h | h);exact h (chk_hd1 hz);exact h rfl;exact absurd h (by show ¬(max 1 ((0:Nat):Int)<1);decide)) rfl
theorem opL_len {z j:Nat} : (opL z j).length=j+1:=by simp [opL]
open Go Go.HL
theorem _root_.Go.HL.OpV.shlI {P:Program} {s:Slots} {h:Heap} {d:Option Tmp} {t u ty:TypeId} {x y:Operand} {pos:String} {af:Array Edge} {g:Option (Nat × Bool)} {ky:IntKind} (a b:Nat) (hb:b≤64) (hr:a*2 ^ b≤9223372036854775807) (hx:ev s x=.int .i64 (a:Nat):=by exact rfl) (hy:ev s y=.int ky (b:Nat):=by exact rfl):OpV P ⟨d,.binOp .shl t x y u,ty,pos,af,g⟩ s h (.int .i64 ((a*2 ^ b:Nat):Int)):=fun w _=>by
 have h0:¬((b:Int)<0):=by omega
 have hm:min b IntKind.i64.bits=b:=Nat.min_eq_left hb;have h1:IntKind.wrap .i64 ((a:Int)*2 ^ min b IntKind.i64.bits)=((a*2 ^ b:Nat):Int):=by
  rw [hm];have e:(a:Int)*2 ^ b=((a*2 ^ b:Nat):Int):=by simp
  rw [e];exact IntWalk.i64_in _ (by omega)
 rw [hm] at h1;simp [execOp,hx,hy,V.eqG,binOp,Op.shift,h0];first | simpa using h1 | (rw [hm];simpa using h1)
def szF (n:Nat):Nat:=256*2 ^ (n%3)
theorem szF_ok (n:Nat):okSz (szF n)=true:=by
 unfold szF;have:n%3=0∨n%3=1∨n%3=2:=by omega
 rcases this with h | h | h<;>rw [h]<;>rfl
theorem szF_b (n:Nat):256≤szF n∧szF n≤1024:=by
 unfold szF;have:n%3=0∨n%3=1∨n%3=2:=by omega
 rcases this with h | h | h<;>rw [h]<;>decide
def bytN (n fr:Nat):List UInt8:=(List.range n).map fun i=>UInt8.ofNat ((fr+i*7)%256)
theorem bytN_len {n fr:Nat} : (bytN n fr).length=n:=by simp [bytN]
theorem bytN_s {n fr:Nat} : bytN (n+1) fr=bytN n fr++[UInt8.ofNat ((fr+n*7)%256)]:=by unfold bytN;rw [List.range_succ,List.map_append];rfl
theorem bytes17_any {h:Heap} {n fr:Nat} (hn:n≤1000000) (hf:fr≤1000000) :
  HC Tryz.prog 57 #[.int .i64 (n:Int),.int .i64 (fr:Int)] h (fun v h'=>Own h h' 1 5 v ((bytN n fr).map bv)):=by
 have ok:=Hp.nil h none_;refine HC.go Tryz.func57 21 ?_;refine .s<|.z .asS<|.nil<|.s<|.z .asS<|?_;have ok:=ok.nilC (k:=1) (e:=5);refine .nil ?_;refine .seq<|.s<|.z .asI<|.nil<|.block fun K0 hK0=>.loop (fun m s hh=>∃(i:Nat) (a5:Option Addr) (c5:Nat),Has s [(0,.int .i64 (n:Int)),(1,.int .i64 (fr:Int)),(5,.slice a5 ((bytN i fr).length) c5),(6,.int .i64 (i:Int))]∧Hp h none_ [capI 1 5 (a5,(bytN i fr).length,c5) ((bytN i fr).map bv)] [] hh∧i≤n∧m=n-i) ?_ ?_
 ·exact ⟨_,0,none,0,⟨rfl,rfl,rfl,rfl,trivial⟩,(ok).k1,Nat.zero_le _,rfl⟩
 rintro _ _ η1 ⟨i,a5,c5,hs,ok,hi,rfl⟩ J0 hJ0;refine .frame hs fun τ=>?_;refine .seq<|.s<|.z .mvI<|.z .mvI<|.z .lss<|.nil<|.cdr (fun C0=>?_) (fun C0=>?_)
 ·
  refine .exit<|hK0 _ _<|.s<|.z .mvS<|.z .asS<|.nil<|.ret ⟨.slice a5 ((bytN i fr).length) c5,Res.one rfl rfl,(by rw [show n=i by omega];exact (ok).toOwn)⟩
 refine .skip<|.seq<|.block fun K1 hK1=>.r<|.z .mvS<|.z .mvI<|.z .mvI<|.z (.mulI (b:=7))<|.z .addI<|.z (.cvm T.in5 T.in3 (M:=256) rfl rfl)<|.a' 18 (.lit [.tmp 17] (cs:=[.int .u8 ((((fr+(i*7))%256):Nat):Int)]) T.el44 T.sz5 T.zr5 ok ⟨rfl,trivial⟩) ?_;rintro _ η2 ⟨pb1,rfl,ok,xe⟩;refine .a' 19 (.app (news:=[.int .u8 ((((fr+(i*7))%256):Nat):Int)]) T.el44 T.sz5 T.by5 T.zr5 ok.n1 (ok.n1.m1).sl (oneL rfl) (by simp only [List.length_map,List.length_cons,List.length_nil,bytN_len];omega)) ?_;rintro _ η3 ⟨ya1,yn1,yc1,rfl,ok,ap⟩;have ok:=ok.cx (ys:=(bytN (i+1) fr).map bv) (by rw [bytN_s,List.map_append];simp [bv]);obtain rfl:yn1=(bytN (i+1) fr).length:=ok.lenB;refine .z .asS<|.nil<|.end<|hK1 _ _<|.r<|.z .mvI<|.z (.addI (b:=1))<|.z .asI<|.nil<|.end<|hJ0 _ _ _ ⟨i+1,ya1,yc1,⟨rfl,rfl,rfl,rfl,trivial⟩,(ok).k1,by omega,rfl⟩ (by omega)
theorem spPutNil_any {h:Heap} {ba:Option Addr} {n c:Nat} :
  HC Tryz.prog 56 #[.pointer none,.slice ba n c] h (fun v h'=>v=.tuple #[.int .i64 0,.int .i64 2]∧h'=h):=by
 refine HC.go Tryz.func56 96 ?_;refine .s<|.z .asI<|.z .asI<|.nil<|.seq<|.block fun K0 hK0=>.s<|.z .mvP<|.z (.pEqN T.pt27)<|.z .asB<|.nil<|.ct<|.s<|.z .asI<|.z .asI<|.nil<|.ret ⟨.tuple #[.int .i64 0,.int .i64 2],Res.two rfl rfl rfl,⟨rfl,rfl⟩⟩
theorem flistS {G:Pgr} {h:Heap} {so:Nat} {F:Nat→Prop} {w:St} {l:List Int} (ok:Hp h F [dsI G so F w] [] h) (e:frAll w=some l) :
  HC Tryz.prog 17 #[.pointer (some ⟨so,0,none⟩)] h (fun v h'=>∃(F':Nat→Prop) (x:Option Addr) (c:Nat) (S:List Int),S.Perm l∧S.Pairwise (·≤·)∧v=.tuple #[.slice x S.length c,.int .i64 0]∧Hp h F [capI 1 3 (x,S.length,c) (S.map iv),dsI G so F' w] [] h'):=
 (flist_any ok).mono fun v h' ⟨F',x,c,S,h1,h2,h3,h4⟩=>⟨F',x,c,S,by rw [(frL_s e).1] at h1;exact h1,h2,by rw [h3,(frL_s e).2];rfl,h4⟩
theorem op_fs {z j:Nat} (hz:okSz z=true) (hj:j≤100):FrS (opV z j) []:=by
 have hzc:=okSz_c hz;have hm:(j+1)*z≤16777216:=Nat.le_trans (Nat.mul_le_mul (show j+1≤102 by omega) (show z≤4096 by omega)) (by decide);refine ⟨hz,fun b hb=>?_,by show (opL z j).length*z≤_;rw [opL_len];exact hm,rfl,by simp [opV,opL],?_,rfl,Met.nil⟩
 ·rcases List.mem_cons.1 hb with rfl | hb
  ·exact pg1_len hz
  ·obtain ⟨i,_,rfl⟩:=List.mem_map.1 hb;exact pageG_len
 ·unfold St.head;rw [show (opV z j).pgs=opL z j from rfl,if_neg (by simp [opL])];rw [show (opL z j).headD []=pg1 z (hd1 z) from rfl];unfold pg1;rw [dec_enc (chk_hd1 hz)];show Hd.mk _ _ _ _ _ _=Hd.mk _ _ _ _ _ _;rfl
theorem FrS.wro {w:St} {T:Trk} (f:FrS w T) {k:Int} {b:List UInt8} (h1:2≤k) (h2:k≤(w.now.length:Int)) (hb:b.length=w.z) (hk:∀t∈T,t.1≠k):FrS { w with now:=w.now.set (k-1).toNat b } T:=by
 refine ⟨f.z,set_len f.len hb,by simpa using f.mul,f.i,by simp [f.n],?_,?_,by simpa using f.mt⟩
 ·have:=f.head' (P:=w.now.set (k-1).toNat b) (set_head (by omega)) (by simp [f.n]);simpa using this
 ·refine Tr.congr (fun t ht=>?_) f.tr;have h3:=f.mt.rg t.1 (mem_flat ht);have h4:=hk t ht;exact pageAt_set (by omega) (by omega)
theorem rd_fix {n:Nat} {l:List UInt8} (h:n<4294967296):rdN (fixedN n 4++l) 0 4=n:=by
 have:=rdN_app (x:=[]) (y:=fixedN n 4) (z:=l) (k:=4) (fixedN_len _ _);simp only [List.nil_append,List.length_nil] at this;rw [this,beN_fixed (by simpa using h)]
theorem parts2 {l:List UInt8} {n:Nat} (h1:n<l.length) (h2:l.length≤2*n) (h3:1≤n):parts l n=[l.take n,l.drop n]:=by
 have e:l.length+1=(l.length-2+1+1)+1:=by omega
 unfold parts;rw [e,ck_step (by omega),ck_step (by omega),ck_end (by omega)];show [(ckP none l n 0).l,(ckP none l n (0+n)).l]=_;have a:(ckP none l n 0).l=l.take n:=by unfold ckP;simp only [List.drop_zero,Nat.sub_zero];rw [Nat.min_eq_left (by omega)]
 have b:(ckP none l n (0+n)).l=l.drop n:=by unfold ckP;simp only [Nat.zero_add];exact List.take_of_length_le (by rw [List.length_drop];omega)
 rw [a,b]
theorem chR_2 {w:St} {n:Nat} {b2 b3 p0 p1:List UInt8} {r1:List UInt8} (hN:w.pgs.length=3) (e2:w.pgs.getD 1 []=b2) (e3:w.pgs.getD 2 []=b3) (h2:b2=fixedN 3 4++p0) (h3:b3=fixedN 0 4++(p1++r1)) (hp0:p0.length=252) (hp1:p1.length=1) (hr:r1.length=251) :
  chR w 2 253=(([2,3],p0++p1,false),0)∧(chR w 2 252).1.2.2=true:=by
 have d2:b2.drop 4=p0:=by rw [h2,List.drop_left' (fixedN_len _ _)]
 have d3:b3.drop 4=p1++r1:=by rw [h3,List.drop_left' (fixedN_len _ _)]
 have l2:b2.length=256:=by rw [h2];simp [fixedN_len,hp0]
 have l3:b3.length=256:=by rw [h3];simp [fixedN_len,hp1,hr]
 have n2:rdN b2 0 4=3:=by rw [h2];exact rd_fix (by decide)
 have n3:rdN b3 0 4=0:=by rw [h3];exact rd_fix (by decide)
 have g1:∀n,252≤n→chGo n ([],[],false) 2 b2=([2],p0,false):=fun n hn=>by
  rw [chg_go (show ¬n≤([]:List UInt8).length by simp;omega),d2];have:chK n [] b2=252:=by unfold chK;rw [l2];simp;omega
  rw [this,List.take_of_length_le (by omega)];rfl
 have v1:∀n,252≤n→chLv n ([2],p0,false)=true:=fun n hn=>by unfold chLv;simp [hp0];omega
 have s1:∀n,252≤n→lkGo w (chGo n) (chLv n) (w.pgs.length+1) 2 [] ([],[],false)=lkGo w (chGo n) (chLv n) 3 3 [2] ([2],p0,false):=fun n hn=>by
  rw [hN,lk_go (by decide) (by rw [hN];simp) (by rw [show ((2:Int)-1).toNat=1 from rfl,e2,g1 n hn];exact v1 n hn),show ((2:Int)-1).toNat=1 from rfl,e2,g1 n hn,n2];rfl
 constructor
 ·unfold chR;rw [s1 253 (by decide)];have g2:chGo 253 ([2],p0,false) 3 b3=([2,3],p0++p1,false):=by
   rw [chg_go (show ¬253≤p0.length by omega),d3];have:chK 253 p0 b3=1:=by unfold chK;rw [l3,hp0];rfl
   rw [this,List.take_left' hp1];rfl
  rw [lk_go (by decide) (by rw [hN];simp) (by rw [show ((3:Int)-1).toNat=2 from rfl,e3,g2];unfold chLv;simp [hp0,hp1]),show ((3:Int)-1).toNat=2 from rfl,e3,g2,n3];exact lk_0
 ·unfold chR;rw [s1 252 (by decide)];have g2:chGo 252 ([2],p0,false) 3 b3=([2],p0,true):=chg_stop (by omega);rw [lk_stop (by decide) (by rw [hN];simp) (by rw [show ((3:Int)-1).toNat=2 from rfl,e3,g2];rfl),show ((3:Int)-1).toNat=2 from rfl,e3,g2]
theorem sp_plain {b:List UInt8} (hb:b.length=253):∃w4 w6,putF (opV 256 0) b=(w4,2,0)∧chF w4 2 253=([2,3],b,0)∧chF w4 2 252=([],[],14)∧chF w4 2 0=([],[],1)∧putF w4 []=(w4,0,0)∧dropF w4 2 253=(w6,0)∧frAll w6=some [2,3]:=by
 have f0:FrS (opV 256 0) []:=op_fs (by decide) (by decide);have l0:(opV 256 0).now.length=1:=rfl;have z0:(opV 256 0).z=256:=rfl;obtain ⟨w1,t1,f1,z1,l1,_⟩:=f0.take_n (by rw [l0,z0];decide);rw [l0] at t1 l1;rw [z0] at z1;obtain ⟨w2,t2,f2,z2,l2,_⟩:=f1.take_n (by rw [l1,z1];decide);rw [l1] at t2 l2;rw [z1] at z2;have hP:parts b 252=[b.take 252,b.drop 252]:=parts2 (by omega) (by omega) (by decide);have hp0:(b.take 252).length=252:=by rw [List.length_take];omega
 have hp1:(b.drop 252).length=1:=by rw [List.length_drop];omega
 have hT:takeA (opV 256 0) [] 2=(w2,[2,3],0):=by
  rw [takeA_s (by rw [t1];exact fun h=>h rfl),t1,takeA_s (by rw [t2];exact fun h=>h rfl),t2];rfl
 generalize hb2:fixedN 3 4++b.take 252=b2;generalize hb3:fixedN 0 4++(b.drop 252++List.replicate 251 0)=b3;have e2:putPg 256 [2,3] [b.take 252,b.drop 252] 0=b2:=by
  rw [←hb2];unfold putPg;show fixedN 3 4++(b.take 252++List.replicate (256-4-(b.take 252).length) 0)=_;rw [hp0,show 256-4-252=0 from rfl,List.replicate_zero,List.append_nil]
 have e3:putPg 256 [2,3] [b.take 252,b.drop 252] 1=b3:=by
  rw [←hb3];unfold putPg;show fixedN 0 4++(b.drop 252++List.replicate (256-4-(b.drop 252).length) 0)=_;rw [hp1]
 have hl2:b2.length=256:=by rw [←hb2];simp [fixedN_len];omega
 have hl3:b3.length=256:=by rw [←hb3,List.length_append,List.length_append,fixedN_len,hp1,List.length_replicate]
 have k1:=f2.wr (k:=2) (b:=b2) (by decide) (by rw [l2];decide) (by rw [hl2,z2]);have f3:=f2.wro (k:=2) (b:=b2) (by decide) (by rw [l2];decide) (by rw [hl2,z2]) (by simp);generalize hw3:({ w2 with now:=w2.now.set ((2:Int)-1).toNat b2 } : St)=w3 at k1 f3;have l3:w3.now.length=3:=by rw [←hw3];simp [l2]
 have z3:w3.z=256:=by rw [←hw3];exact z2
 have k2:=f3.wr (k:=3) (b:=b3) (by decide) (by rw [l3];decide) (by rw [hl3,z3]);have f4:=f3.wro (k:=3) (b:=b3) (by decide) (by rw [l3];decide) (by rw [hl3,z3]) (by simp);generalize hw4:({ w3 with now:=w3.now.set ((3:Int)-1).toNat b3 } : St)=w4 at k2 f4;have l4:w4.now.length=3:=by rw [←hw4];simp [l3]
 have hg2:w4.pgs.getD 1 []=b2:=by
  rw [f4.pgs];show pageAt w4.now 2=b2;rw [←hw4];show pageAt (w3.now.set _ _) 2=b2;rw [pageAt_set (by decide) (by decide),←hw3];exact pageAt_eq (by decide) (by rw [l2];decide)
 have hg3:w4.pgs.getD 2 []=b3:=by
  rw [f4.pgs];show pageAt w4.now 3=b3;rw [←hw4];exact pageAt_eq (by decide) (by rw [l3];decide)
 have hN:w4.pgs.length=3:=by rw [f4.pgs,l4]
 obtain ⟨c1,c2⟩:=chR_2 (n:=253) hN hg2 hg3 hb2.symm hb3.symm hp0 hp1 List.length_replicate;rw [List.take_append_drop] at c1;have hpb:parts b ((opV 256 0).z-4)=[b.take 252,b.drop 252]:=hP;have hin:(opV 256 0).in_=true:=rfl;have i4:w4.in_=true:=f4.i;have hwr:wrA 256 [2,3] [b.take 252,b.drop 252] 2 0 w2=(w4,0):=by
  rw [wrA_s (no:=2) rfl (by rw [e2,k1];exact fun h=>h rfl),e2,k1,wrA_s (no:=3) rfl (by rw [e3,k2];exact fun h=>h rfl),e3,k2];rfl
 have d1:chF w4 2 253=([2,3],b,0):=by
  have:=chF_0 (w:=w4) (first:=2) (n:=253) (by decide) (by rw [c1]) (by rw [c1]) (by rw [c1];simp [hb]);rw [c1] at this;exact this
 have g1:=f4.give_b (no:=2) (by decide) (by rw [l4];decide) (by simp [flatT]) (by rintro ⟨h,_⟩;exact h rfl);generalize hw5:upP w4 _ _=w5 at g1;have l5:w5.now.length=3:=by rw [←hw5,upP_len,List.length_set];exact l4
 have z5:w5.z=256:=by rw [←hw5,←hw4];exact z3
 have g2:=g1.2.give_a (no:=3) (by decide) (by rw [l5];decide) (by simp [flatT]) (by rw [z5];decide);generalize hw6:upP w5 _ _=w6 at g2;refine ⟨w4,w6,?_,d1,?_,?_,?_,?_,g2.2.all⟩
 ·exact putF_0 (w:=opV 256 0) hin (by omega) (w2:=w2) (pl:=[2,3]) (by rw [hpb];exact hT) (by rw [hpb];exact hwr)
 ·exact chF_s (n:=252) (by decide) c2
 ·exact chF_1 (by decide)
 ·have hp:parts [] (w4.z-4)=[]:=rfl;exact putF_0 (w:=w4) (w2:=w4) (w3:=w4) (pl:=[]) i4 (by decide) (by rw [hp];rfl) (by rw [hp];rfl)
 ·rw [dropF_l i4 (by rw [d1]),d1];have hg:giveL w4 [2,3]=(w6,0):=by
   have q1:=giveL_s (w:=w4) (l:=[2,3]) (i:=0) (by decide) (by show ¬(giveF w4 2).2≠0;rw [g1.1];exact fun h=>h rfl);have q2:=giveL_s (w:=w5) (l:=[2,3]) (i:=1) (by decide) (by show ¬(giveF w5 3).2≠0;rw [g2.1];exact fun h=>h rfl);rw [List.drop_zero] at q1;rw [q1,show (giveF w4 ([2,3]:List Int)[0]).1=w5 by show (giveF w4 2).1=w5;rw [g1.1],q2,show (giveF w5 ([2,3]:List Int)[1]).1=w6 by show (giveF w5 3).1=w6;rw [g2.1]];rfl
  rw [hg];rfl
def tkT (N:Nat):Trk→Int × Trk × Nat
 | []=>((N:Int)+1,[],N+1)
 | t::T=>match t.2.getLast? with
  | none=>(t.1,T,N)
  | some no=>(no,(t.1,t.2.dropLast)::T,N)
def gvT (rm:Nat) (no:Int):Trk→Trk
 | []=>[(no,[])]
 | t::T=>if t.2.length<rm then (t.1,t.2++[no])::T else (no,[])::t::T
theorem Kp.mono {w w':St} {B C:Int→Prop} (k:Kp w w' B) (h:∀j,B j→C j):Kp w w' C:=⟨k.z,k.su,k.i,k.sv,fun j h2 h3=>k.pg j h2 fun hb=>h3 (h j hb)⟩
theorem Kp.refl (w:St) (B:Int→Prop):Kp w w B:=⟨rfl,rfl,rfl,rfl,fun _ _ _=>rfl⟩
theorem Kp.trans {w w1 w2:St} {B C:Int→Prop} (k:Kp w w1 B) (q:Kp w1 w2 C):Kp w w2 (fun j=>B j∨C j):=⟨q.z.trans k.z,q.su.trans k.su,q.i.trans k.i,q.sv.trans k.sv,fun j h2 h3=>(q.pg j h2 fun h=>h3 (.inr h)).trans (k.pg j h2 fun h=>h3 (.inl h))⟩
theorem gvT_cons {rm:Nat} {no:Int} {t:Int × List Int} {T:Trk} : gvT rm no (t::T)=if t.2.length<rm then (t.1,t.2++[no])::T else (no,[])::t::T:=rfl
theorem gvT_perm {rm:Nat} {no:Int} {T:Trk} : (flatT (gvT rm no T)).Perm (no::flatT T):=by
 cases T with
 | nil=>exact .refl _
 | cons t T=>
  rw [gvT_cons];split
  ·rw [flatT_cons,flatT_cons];show (t.1::((t.2++[no])++flatT T)).Perm (no::t.1::(t.2++flatT T));refine .trans (.cons _ ?_) (.swap _ _ _);rw [List.append_assoc];exact List.perm_middle
  ·rw [flatT_cons];exact .refl _
theorem tkT_perm {N:Nat} {T:Trk} (h:T≠[]):(flatT T).Perm ((tkT N T).1::flatT (tkT N T).2.1)∧(tkT N T).2.2=N:=by
 cases T with
 | nil=>exact absurd rfl h
 | cons t T=>
  unfold tkT;rcases List.eq_nil_or_concat t.2 with e | ⟨ns,no,e⟩
  ·simp only [e,List.getLast?_nil];rw [flatT_cons,e];exact ⟨.refl _,trivial⟩
  ·rw [List.concat_eq_append] at e;simp only [e,List.getLast?_concat,List.dropLast_concat];rw [flatT_cons,flatT_cons,e];refine ⟨?_,trivial⟩;show (t.1::((ns++[no])++flatT T)).Perm (no::t.1::(ns++flatT T));refine .trans (.cons _ ?_) (.swap _ _ _);rw [List.append_assoc];exact List.perm_middle
section
variable {w:St} {T:Trk} {no:Int}
theorem FrS.take (f:FrS w T) (hm:T=[]→(w.now.length+1)*w.z≤16777216):∃w',takeF w=(w',(tkT w.now.length T).1,0)∧FrS w' (tkT w.now.length T).2.1∧w'.now.length=(tkT w.now.length T).2.2∧pageAt w'.now (tkT w.now.length T).1=zer w.z∧Kp w w' (fun k=>k∈flatT T∨k=(tkT w.now.length T).1):=by
 cases T with
 | nil=>
  obtain ⟨w',h1,h2,_,h4,h5,h6⟩:=f.take_n (hm rfl);exact ⟨w',h1,h2,h4,h5,h6.mono fun _ h=>.inr h⟩
 | cons t T=>
  rcases List.eq_nil_or_concat t.2 with e | ⟨ns,no,e⟩
  ·have ht:tkT w.now.length (t::T)=(t.1,T,w.now.length):=by unfold tkT;simp only [e,List.getLast?_nil]
   rw [ht];obtain ⟨w',h1,h2,_,h4,h5,h6⟩:=f.take_b e;exact ⟨w',h1,h2,h4,h5,h6.mono fun _ h=>.inr h⟩
  ·rw [List.concat_eq_append] at e;have ht:tkT w.now.length (t::T)=(no,(t.1,ns)::T,w.now.length):=by unfold tkT;simp only [e,List.getLast?_concat,List.dropLast_concat]
   rw [ht];obtain ⟨w',h1,h2,_,h4,h5,h6⟩:=f.take_a e;exact ⟨w',h1,h2,h4,h5,h6.mono fun _ h=>h.elim (fun h=>.inl (by rw [flatT_cons,h];simp)) .inr⟩
theorem FrS.tkN_in (f:FrS w T):(tkT w.now.length T).1∉flatT (tkT w.now.length T).2.1∧2≤(tkT w.now.length T).1∧(tkT w.now.length T).1≤((tkT w.now.length T).2.2:Int):=by
 have h1:=f.n1;by_cases h:T=[]
 ·subst h;exact ⟨by simp [tkT,flatT],by show (2:Int)≤(w.now.length:Int)+1;omega,Int.le_of_eq (by show (w.now.length:Int)+1=((w.now.length+1:Nat):Int);omega)⟩
 ·obtain ⟨p,e⟩:=tkT_perm (N:=w.now.length) h;have m:=f.mt.perm p.symm;have r:=m.rg (tkT w.now.length T).1 (by simp);rw [e];exact ⟨(List.nodup_cons.1 m.nd).1,r⟩
theorem upP_keep {P:List (List UInt8)} {B:Int→Prop} (h:∀k,2≤k→¬B k→pageAt P k=pageAt w.now k):Kp w (upP w P T) B:=⟨rfl,rfl,rfl,rfl,fun k h2 hb=>(upP_at h2).trans (h k h2 hb)⟩
theorem FrS.give (f:FrS w T) (h1:2≤no) (h2:no≤(w.now.length:Int)) (h3:no∉flatT T):∃w',giveF w no=(w',0)∧FrS w' (gvT ((w.z-8) / 4) no T)∧w'.now.length=w.now.length∧Kp w w' (fun k=>k∈flatT T∨k=no):=by
 have hb:∀ {T'} (_:FrS w T'),no∉flatT T'→¬(frT T'≠0∧tkN w<(w.z-8) / 4)→∃w',giveF w no=(w',0)∧FrS w' ((no,[])::T')∧w'.now.length=w.now.length∧Kp w w' (fun k=>k∈flatT T'∨k=no):=fun f h3 h4=>by
  have g:=f.give_b h1 h2 h3 h4;exact ⟨_,g.1,g.2,by rw [upP_len,List.length_set],upP_keep fun k k2 kb=>pageAt_set (by omega) fun e=>kb (.inr (by omega))⟩
 cases T with
 | nil=>exact hb f h3 (by rintro ⟨h,_⟩;exact h rfl)
 | cons t T=>
  rw [gvT_cons];split
  ·rename_i h4;have g:=f.give_a h1 h2 h3 h4;have hr:=frT_in f.mt (by simp);have hr:2≤t.1:=hr.1;exact ⟨_,g.1,g.2,by rw [upP_len,List.length_set],upP_keep fun k k2 kb=>pageAt_set (by omega) fun e=>kb (.inl (by rw [flatT_cons,show k=t.1 by omega];simp))⟩
  ·rename_i h4;exact hb f h3 fun h=>h4 (by rw [←f.tk.2.1];exact h.2)
theorem FrS.write (f:FrS w T) {b:List UInt8} (h1:2≤no) (h2:no≤(w.now.length:Int)) (h3:no∉flatT T) (hb:b.length=w.z):∃w',w.write no b=(w',0)∧FrS w' T∧w'.now.length=w.now.length∧pageAt w'.now no=b∧Kp w w' (fun k=>k=no):=
 ⟨_,f.wr h1 h2 hb,f.wro h1 h2 hb fun t ht e=>h3 (e▸mem_flat ht),List.length_set ..,pageAt_eq (by omega) (by omega),rfl,rfl,rfl,rfl,fun k k2 kb=>pageAt_set (by omega) fun e=>kb (by omega)⟩
end
def tkL:Nat→Nat→Trk→List Int × Trk × Nat
 | 0,N,T=>([],T,N)
 | n+1,N,T=>let r:=tkT N T;let q:=tkL n r.2.2 r.2.1;(r.1::q.1,q.2)
theorem tkL_s {n N:Nat} {T:Trk} : tkL (n+1) N T=((tkT N T).1::(tkL n (tkT N T).2.2 (tkT N T).2.1).1,(tkL n (tkT N T).2.2 (tkT N T).2.1).2):=rfl
theorem tkT_le {N:Nat} {T:Trk} : N≤(tkT N T).2.2∧(tkT N T).2.2≤N+1:=by
 by_cases h:T=[]
 ·subst h;exact ⟨Nat.le_succ N,Nat.le_refl _⟩
 ·rw [(tkT_perm (N:=N) h).2];omega
theorem takeA_ok:∀ {n:Nat} {w:St} {T:Trk} {acc:List Int},FrS w T→(w.now.length+n)*w.z≤16777216→∃w',takeA w acc n=(w',acc++(tkL n w.now.length T).1,0)∧FrS w' (tkL n w.now.length T).2.1∧w'.now.length=(tkL n w.now.length T).2.2∧w.now.length≤w'.now.length∧w'.now.length≤w.now.length+n∧Kp w w' (fun k=>k∈flatT T∨k∈(tkL n w.now.length T).1)∧
  (tkL n w.now.length T).1.length=n∧(∀k∈(tkL n w.now.length T).1,2≤k∧k≤(w'.now.length:Int)∧k∉flatT (tkL n w.now.length T).2.1∧(k∈flatT T∨(w.now.length:Int)<k))∧(tkL n w.now.length T).1.Nodup∧
  ((flatT T).length+w'.now.length=(flatT (tkL n w.now.length T).2.1).length+n+w.now.length)∧(∀k∈flatT (tkL n w.now.length T).2.1,k∈flatT T)
 | 0,w,T,acc,f,hm=>⟨w,by unfold takeA tkL;simp,f,rfl,by omega,by omega,.refl _ _,rfl,by unfold tkL;simp,by unfold tkL;simp,by show _=(flatT T).length+0+_;omega,fun _ h=>h⟩
 | n+1,w,T,acc,f,hm=>by
  have hm1:(w.now.length+1)*w.z≤16777216:=Nat.le_trans (Nat.mul_le_mul_right _ (by omega)) hm;obtain ⟨w1,t1,f1,l1,_,k1⟩:=f.take fun _=>hm1;obtain ⟨ni1,ni2,ni3⟩:=f.tkN_in;have hle:=tkT_le (N:=w.now.length) (T:=T);obtain ⟨w2,t2,f2,l2,g1,g2,k2,g3,g4,g5,g6,g7⟩:=takeA_ok (n:=n) (acc:=acc++[(tkT w.now.length T).1]) f1 (by rw [k1.z];exact Nat.le_trans (Nat.mul_le_mul_right _ (by omega)) hm);rw [l1] at t2 f2 l2 g1 g2 k2 g3 g4 g5 g6 g7;have hin:∀k∈flatT (tkT w.now.length T).2.1,k∈flatT T:=fun k hk=>by
   by_cases h:T=[]
   ·subst h;exact absurd hk (by simp [tkT,flatT])
   ·exact (tkT_perm (N:=w.now.length) h).1.mem_iff.2 (List.mem_cons_of_mem _ hk)
  have hno:(tkT w.now.length T).1∈flatT T∨(w.now.length:Int)<(tkT w.now.length T).1:=by
   by_cases h:T=[]
   ·subst h;exact .inr (by show (w.now.length:Int)<(w.now.length:Int)+1;omega)
   ·exact .inl ((tkT_perm (N:=w.now.length) h).1.mem_iff.2 (by simp))
  refine ⟨w2,?_,f2,l2,by omega,by omega,?_,by rw [tkL_s];simp [g3],fun k hk=>?_,?_,?_,fun k hk=>hin k (g7 k hk)⟩
  ·rw [takeA_s (by rw [t1];exact fun h=>h rfl),t1,t2,tkL_s,List.append_assoc];rfl
  ·rw [tkL_s];exact (k1.trans k2).mono fun j h=>by
    rcases h with (h | h) | h | h
    ·exact .inl h
    ·exact .inr (by simp [h])
    ·exact .inl (hin j h)
    ·exact .inr (List.mem_cons_of_mem _ h)
  ·rw [tkL_s] at hk⊢;rcases List.mem_cons.1 hk with rfl | hk
   ·exact ⟨ni2,by omega,fun h=>ni1 (g7 _ h),hno⟩
   ·obtain ⟨a1,a2,a3,a4⟩:=g4 k hk;exact ⟨a1,a2,a3,a4.elim (fun h=>.inl (hin k h)) fun h=>.inr (by omega)⟩
  ·rw [tkL_s];refine List.nodup_cons.2 ⟨fun h=>?_,g5⟩;obtain ⟨_,_,_,a4⟩:=g4 _ h;rcases a4 with a4 | a4
   ·exact ni1 a4
   ·omega
  ·rw [tkL_s];show (flatT T).length+w2.now.length=(flatT (tkL n _ _).2.1).length+(n+1)+_;by_cases h:T=[]
   ·subst h;have e:(tkT w.now.length []).2.2=w.now.length+1:=rfl;have e2:(flatT (tkT w.now.length []).2.1).length=0:=rfl;rw [e2] at g6;rw [e] at g6⊢;show 0+_=_;omega
   ·have p:=tkT_perm (N:=w.now.length) h;have:=p.1.length_eq;rw [List.length_cons] at this;rw [p.2] at g6⊢;omega
def gvL (rm:Nat) (l:List Int) (T:Trk):Trk:=l.foldl (fun T no=>gvT rm no T) T
theorem gvL_perm {rm:Nat} : ∀ {l:List Int} {T:Trk},(flatT (gvL rm l T)).Perm (l++flatT T)
 | [],T=>.refl _
 | a::l,T=>(gvL_perm (l:=l) (T:=gvT rm a T)).trans ((List.Perm.append_left l gvT_perm).trans List.perm_middle)
theorem giveL_ok:∀ {l:List Int} {w:St} {T:Trk},FrS w T→l.Nodup→(∀k∈l,2≤k∧k≤(w.now.length:Int)∧k∉flatT T)→∃w',giveL w l=(w',0)∧FrS w' (gvL ((w.z-8) / 4) l T)∧w'.now.length=w.now.length∧Kp w w' (fun k=>k∈flatT T∨k∈l)
 | [],w,T,f,_,_=>⟨w,rfl,f,rfl,.refl _ _⟩
 | a::l,w,T,f,hn,hl=>by
  obtain ⟨h1,h2,h3⟩:=hl a (by simp);obtain ⟨w1,g1,f1,l1,k1⟩:=f.give h1 h2 h3;obtain ⟨w2,g2,f2,l2,k2⟩:=giveL_ok (l:=l) f1 (List.nodup_cons.1 hn).2 fun k hk=>by
   obtain ⟨b1,b2,b3⟩:=hl k (List.mem_cons_of_mem _ hk);refine ⟨b1,by omega,fun h=>?_⟩;rcases List.mem_cons.1 (gvT_perm.mem_iff.1 h) with h | h
   ·exact (List.nodup_cons.1 hn).1 (h▸hk)
   ·exact b3 h
  rw [k1.z] at f2;refine ⟨w2,?_,f2,l2.trans l1,(k1.trans k2).mono fun j h=>?_⟩
  ·show (if (giveF w a).2≠0 then giveF w a else giveL (giveF w a).1 l)=_;rw [g1];exact g2
  ·rcases h with (h | h) | h | h
   ·exact .inl h
   ·exact .inr (by simp [h])
   ·exact (List.mem_cons.1 (gvT_perm.mem_iff.1 h)).elim (fun h=>.inr (by simp [h])) .inl
   ·exact .inr (List.mem_cons_of_mem _ h)
def ChL (P:List (List UInt8)) (z:Nat):Int→List Int→List UInt8→Prop
 | a,[],b=>a=0∧b=[]
 | a,k::l,b=>a=k∧b≠[]∧((pageAt P k).drop 4).take (min b.length (z-4))=b.take (z-4)∧(pageAt P k).length=z∧ChL P z ((rdN (pageAt P k) 0 4:Nat):Int) l (b.drop (z-4))
theorem ChL.congr {P Q:List (List UInt8)} {z:Nat} : ∀ {l:List Int} {a:Int} {b:List UInt8},(∀k∈l,pageAt Q k=pageAt P k)→ChL P z a l b→ChL Q z a l b
 | [],_,_,_,h=>h
 | k::l,a,b,e,⟨h1,h2,h3,h4,h5⟩=>by
  have ek:=e k (by simp);refine ⟨h1,h2,by rw [ek];exact h3,by rw [ek];exact h4,by rw [ek];exact ChL.congr (fun j hj=>e j (List.mem_cons_of_mem _ hj)) h5⟩
theorem ChL.hd {P:List (List UInt8)} {z:Nat} {l:List Int} {a:Int} {b:List UInt8} (h:ChL P z a l b):a=l.getD 0 0:=by
 cases l with
 | nil=>exact h.1
 | cons k l=>exact h.1
theorem ChL.go {w:St} {P:List (List UInt8)} {z:Nat} (hP:w.pgs=P) (hz:5≤z) {n:Nat} : ∀ {l:List Int} {a:Int} {b:List UInt8} {f:Nat} {pl:List Int} {ol:List UInt8},ChL P z a l b→l.length<f→(pl++l).Nodup→(∀k∈l,2≤k∧k≤(P.length:Int))→pl.length≤ol.length→ol.length+b.length=n→
  lkGo w (chGo n) (chLv n) f a pl (pl,ol,false)=((pl++l,ol++b,false),0)
 | [],a,b,f,pl,ol,h,hf,_,_,_,_=>by
  obtain ⟨f,rfl⟩:∃f',f=f'+1:=⟨f-1,by omega⟩;rw [lk_00 h.1,h.2];simp
 | k::l,a,b,f,pl,ol,⟨h1,h2,h3,h4,h5⟩,hf,hn,hr,hpo,hol=>by
  subst h1;rw [List.length_cons] at hf;obtain ⟨f,rfl⟩:∃f',f=f'+1:=⟨f-1,by omega⟩;have hk:=hr a (by simp);have hb:0<b.length:=List.length_pos_iff.2 h2;have hpg:w.pgs.getD (a-1).toNat []=pageAt P a:=by rw [hP];rfl
  have hck:chK n ol (pageAt P a)=min b.length (z-4):=by unfold chK;rw [h4];omega
  have hg:chGo n (pl,ol,false) a (w.pgs.getD (a-1).toNat [])=(pl++[a],ol++b.take (z-4),false):=by
   rw [hpg,chg_go (by omega),hck,h3]
  have hnin:a∉pl:=fun h=>(List.nodup_append.1 hn).2.2 _ h _ (by simp) rfl;have hlen:(ol++b.take (z-4)).length=ol.length+min (z-4) b.length:=by simp
  rw [lk_go (by omega) (by rw [hP];rintro (h | h | h);omega;omega;exact hnin h) (by rw [hg];show (!false && decide ((pl++[a]).length≤(ol++b.take (z-4)).length∧(ol++b.take (z-4)).length≤n))=true;rw [hlen];simp;omega),hg,hpg];rw [ChL.go hP hz (b:=b.drop (z-4)) h5 (by omega) (by rw [List.append_assoc];exact hn) (fun j hj=>hr j (List.mem_cons_of_mem _ hj)) (by rw [hlen,List.length_append];simp;omega) (by rw [hlen,List.length_drop];omega)];rw [List.append_assoc,List.append_assoc,List.take_append_drop];rfl
theorem ChL.get {w:St} {z:Nat} {a:Int} {l:List Int} {b:List UInt8} (hz:5≤z) (h:ChL w.pgs z a l b) (hn:l.Nodup) (hr:∀k∈l,2≤k∧k≤(w.pgs.length:Int)) (hb:b.length≤16384):chF w a (b.length:Int)=(l,b,0):=by
 have hl:l.length≤w.pgs.length:=by
  have:=(show Met w.pgs.length l from ⟨hn,hr⟩).len;omega
 have g:=ChL.go (w:=w) rfl hz (n:=b.length) (f:=w.pgs.length+1) (pl:=[]) (ol:=[]) h (by omega) (by simpa using hn) hr (Nat.le_refl _) (by simp);simp only [List.nil_append] at g;have hc:chR w a b.length=((l,b,false),0):=g;have hx:¬((b.length:Int)<0∨16384<(b.length:Int)∨decide (a=0)≠decide ((b.length:Int)=0)):=by
  rintro (h1 | h1 | h1)
  ·omega
  ·omega
  ·refine h1 ?_;cases l with
   | nil=>rw [h.1,h.2];rfl
   | cons k l=>
    have h2:=hr k (by simp);have h3:a=k:=h.1;have h4:0<b.length:=List.length_pos_iff.2 h.2.1;rw [decide_eq_false (by omega),decide_eq_false (by omega)]
 have:=chF_0 (w:=w) (first:=a) (n:=b.length) hx (by rw [hc]) (by rw [hc]) (by rw [hc];simp);rw [hc] at this;exact this
theorem parts_nil {n:Nat} : parts [] n=[]:=rfl
theorem ck_sh {a:Option Addr} {l:List UInt8} {n:Nat} (hn:1≤n):∀(f g i j:Nat),(l.drop j).length-i<g→∀k,k=i+j→l.length-k<f→pgs (ckL a l n f k)=pgs (ckL a (l.drop j) n g i)
 | 0,_,_,_,_,_,_,h=>by omega
 | f+1,0,i,j,h,k,hk,hf=>by omega
 | f+1,g+1,i,j,h2,k,hk,hf=>by
  rw [List.length_drop] at h2;by_cases h:k<l.length
  ·rw [ck_step h,ck_step (by rw [List.length_drop];omega)];show (ckP a l n k).l::pgs (ckL a l n f (k+n))=(ckP a (l.drop j) n i).l::pgs (ckL a (l.drop j) n g (i+n));rw [ck_sh hn f g (i+n) j (by rw [List.length_drop];omega) (k+n) (by omega) (by omega)];congr 1;unfold ckP;simp only [List.drop_drop,List.length_drop];rw [show j+i=k by omega,show l.length-j-i=l.length-k by omega]
  ·rw [ck_end h,ck_end (by rw [List.length_drop];omega)]
theorem parts_cons {l:List UInt8} {n:Nat} (hn:1≤n) (h:l≠[]):parts l n=l.take n::parts (l.drop n) n:=by
 have hl:0<l.length:=List.length_pos_iff.2 h;unfold parts;rw [ck_step (by omega)];show (ckP none l n 0).l::pgs (ckL none l n l.length (0+n))=_;have e:(ckP none l n 0).l=l.take n:=by
  unfold ckP;simp only [List.drop_zero,Nat.sub_zero];by_cases h2:n≤l.length
  ·rw [Nat.min_eq_left h2]
  ·rw [Nat.min_eq_right (by omega),List.take_of_length_le (Nat.le_refl _),List.take_of_length_le (by omega)]
 rw [e];congr 1;by_cases h2:n<l.length
 ·exact ck_sh hn l.length ((l.drop n).length+1) 0 n (by omega) (0+n) rfl (by omega)
 ·rw [ck_end (by omega),ck_end (by rw [List.length_drop];omega)]
theorem parts_len {n:Nat} (hn:1≤n):∀(k:Nat) (l:List UInt8),l.length≤k→(parts l n).length*n<l.length+n∧(l=[]↔(parts l n).length=0)
 | 0,l,h=>by
  have:l=[]:=List.eq_nil_of_length_eq_zero (by omega);subst this;exact ⟨by show 0*n<0+n;omega,fun _=>rfl,fun _=>rfl⟩
 | k+1,l,h=>by
  by_cases e:l=[]
  ·subst e;exact ⟨by show 0*n<0+n;omega,fun _=>rfl,fun _=>rfl⟩
  ·have hl:0<l.length:=List.length_pos_iff.2 e;rw [parts_cons hn e];have ih:=parts_len hn k (l.drop n) (by rw [List.length_drop];omega);refine ⟨?_,fun h=>absurd h e,fun h=>by simp at h⟩;rw [List.length_cons];by_cases h2:l.length≤n
   ·have e2:l.drop n=[]:=List.drop_eq_nil_of_le h2;rw [e2,parts_nil,List.length_nil];omega
   ·have:=ih.1;rw [List.length_drop] at this;rw [Nat.succ_mul];omega
theorem wrA_ok {z:Nat} (hz:5≤z) {pl:List Int} {P:List (List UInt8)} : ∀ {Q:List (List UInt8)} {l:List Int} {i:Nat} {b:List UInt8} {w:St} {T:Trk},FrS w T→w.z=z→Q=parts b (z-4)→Q.length=l.length→pl.drop i=l→P.drop i=Q→l.Nodup→(∀k∈l,2≤k∧k≤(w.now.length:Int)∧k∉flatT T)→
  ∃w',wrA z pl P Q.length i w=(w',0)∧FrS w' T∧w'.now.length=w.now.length∧ChL w'.now z (l.getD 0 0) l b∧Kp w w' (fun k=>k∈l)
 | [],l,i,b,w,T,f,_,hq,hl,_,_,_,_=>by
  have:l=[]:=List.eq_nil_of_length_eq_zero hl.symm;subst this;have hb:b=[]:=(parts_len (n:=z-4) (by omega) b.length b (Nat.le_refl _)).2.2 (by rw [←hq];rfl);exact ⟨w,rfl,f,rfl,⟨rfl,hb⟩,.refl _ _⟩
 | q::Q,l,i,b,w,T,f,hwz,hq,hl,hp,hP,hn,hr=>by
  have hb:b≠[]:=fun e=>by rw [e,parts_nil] at hq;cases hq
  rw [parts_cons (by omega) hb] at hq;injection hq with hq1 hq2;cases l with
  | nil=>simp at hl
  | cons k l=>
   have hi:i<pl.length:=by
    have:=congrArg List.length hp;rw [List.length_drop,List.length_cons] at this;omega
   have hPi:i<P.length:=by
    have:=congrArg List.length hP;rw [List.length_drop,List.length_cons] at this;omega
   rw [List.drop_eq_getElem_cons hi] at hp;rw [List.drop_eq_getElem_cons hPi] at hP;injection hp with hp1 hp2;injection hP with hP1 hP2;have hk:=hr k (by simp);have hnx:pl.getD (i+1) 0=l.getD 0 0:=by
    rw [←hp2];by_cases h:i+1<pl.length
    ·rw [List.drop_eq_getElem_cons h,List.getD_eq_getElem?_getD,List.getElem?_eq_getElem h];rfl
    ·rw [List.drop_eq_nil_of_le (by omega),List.getD_eq_getElem?_getD,List.getElem?_eq_none (by omega)];rfl
   have hnb:0≤l.getD 0 0∧l.getD 0 0<4294967296:=by
    cases l with
    | nil=>exact ⟨Int.le_refl _,by show (0:Int)<_;omega⟩
    | cons j l=>have:=hr j (by simp);have:=f.few;exact ⟨by show 0≤j;omega,by show j<_;omega⟩
   have hql:q.length=min (z-4) b.length:=by rw [hq1];simp
   have hpg:putPg z pl P i=fixedN (l.getD 0 0).toNat 4++(q++List.replicate (z-4-q.length) 0):=by
    unfold putPg;rw [hnx,show P.getD i []=q by rw [List.getD_eq_getElem?_getD,List.getElem?_eq_getElem hPi,hP1];rfl]
   have hpl:(putPg z pl P i).length=z:=by rw [hpg,List.length_append,List.length_append,fixedN_len,List.length_replicate];omega
   obtain ⟨w1,g1,f1,l1,p1,k1⟩:=f.write hk.1 hk.2.1 hk.2.2 (show (putPg z pl P i).length=w.z by rw [hpl,hwz]);obtain ⟨w2,g2,f2,l2,c2,k2⟩:=wrA_ok hz (Q:=Q) (l:=l) (i:=i+1) (b:=b.drop (z-4)) f1 (k1.z.trans hwz) hq2 (by simpa using hl) hp2 hP2 (List.nodup_cons.1 hn).2 fun j hj=>by rw [l1];exact hr j (List.mem_cons_of_mem _ hj)
   have hgk:pl.getD i 0=k:=by rw [List.getD_eq_getElem?_getD,List.getElem?_eq_getElem hi,hp1];rfl
   have hpk:pageAt w2.now k=putPg z pl P i:=(k2.pg k hk.1 (List.nodup_cons.1 hn).1).trans p1;refine ⟨w2,?_,f2,l2.trans l1,⟨rfl,hb,?_,?_,?_⟩,(k1.trans k2).mono fun j h=>h.elim (fun h=>by rw [h];simp) (List.mem_cons_of_mem _)⟩
   ·rw [List.length_cons,wrA_s hgk (by rw [g1];exact fun h=>h rfl),g1];exact g2
   ·rw [hpk,hpg,List.drop_left' (fixedN_len _ _),←hq1,List.take_left' (by rw [hql,Nat.min_comm])]
   ·rw [hpk,hpl]
   ·rw [hpk,hpg,rd_fix (by omega),show (((l.getD 0 0).toNat:Nat):Int)=l.getD 0 0 by omega];exact c2
theorem FrS.put {w:St} {T:Trk} (f:FrS w T) {b:List UInt8} (hb:b.length≤16384) (hm:(w.now.length+(parts b (w.z-4)).length)*w.z≤16777216):∃w',putF w b=(w',(tkL (parts b (w.z-4)).length w.now.length T).1.getD 0 0,0)∧FrS w' (tkL (parts b (w.z-4)).length w.now.length T).2.1∧w'.now.length=(tkL (parts b (w.z-4)).length w.now.length T).2.2∧w.now.length≤w'.now.length∧w'.now.length≤w.now.length+(parts b (w.z-4)).length∧ChL w'.now w.z ((tkL (parts b (w.z-4)).length w.now.length T).1.getD 0 0) (tkL (parts b (w.z-4)).length w.now.length T).1 b∧Kp w w' (fun k=>k∈flatT T∨k∈(tkL (parts b (w.z-4)).length w.now.length T).1)∧
  (∀k∈(tkL (parts b (w.z-4)).length w.now.length T).1,2≤k∧k≤(w'.now.length:Int)∧k∉flatT (tkL (parts b (w.z-4)).length w.now.length T).2.1∧(k∈flatT T∨(w.now.length:Int)<k))∧(tkL (parts b (w.z-4)).length w.now.length T).1.Nodup∧
  ((flatT T).length+w'.now.length=(flatT (tkL (parts b (w.z-4)).length w.now.length T).2.1).length+(parts b (w.z-4)).length+w.now.length)∧(∀k∈flatT (tkL (parts b (w.z-4)).length w.now.length T).2.1,k∈flatT T):=by
 have hzc:=f.zc;obtain ⟨w1,t1,f1,l1,g1,g2,k1,g3,g4,g5,g6,g7⟩:=takeA_ok (acc:=[]) f hm;rw [List.nil_append] at t1;generalize hpl:(tkL (parts b (w.z-4)).length w.now.length T).1=pl at *;generalize hT2:(tkL (parts b (w.z-4)).length w.now.length T).2.1=T2 at *;generalize hN2:(tkL (parts b (w.z-4)).length w.now.length T).2.2=N2 at *;obtain ⟨w2,q2,f2,l2,c2,k2⟩:=wrA_ok (z:=w.z) (by omega) (pl:=pl) (P:=parts b (w.z-4)) (Q:=parts b (w.z-4)) (l:=pl) (i:=0) (b:=b) f1 k1.z rfl g3.symm rfl rfl g5 fun k hk=>⟨(g4 k hk).1,(g4 k hk).2.1,(g4 k hk).2.2.1⟩;refine ⟨w2,putF_0 f.i (by omega) t1 q2,f2,l2.trans l1,by omega,by omega,c2,(k1.trans k2).mono fun j h=>h.elim id .inr,fun k hk=>?_,g5,by omega,g7⟩;rw [l2];exact g4 k hk
theorem FrS.drop {w:St} {T:Trk} (f:FrS w T) {a:Int} {l:List Int} {b:List UInt8} (h:ChL w.now w.z a l b) (hn:l.Nodup) (hr:∀k∈l,2≤k∧k≤(w.now.length:Int)∧k∉flatT T) (hb:b.length≤16384):∃w',dropF w a (b.length:Int)=(w',0)∧FrS w' (gvL ((w.z-8) / 4) l T)∧w'.now.length=w.now.length∧Kp w w' (fun k=>k∈flatT T∨k∈l):=by
 have hzc:=f.zc;have g:=ChL.get (w:=w) (z:=w.z) (by omega) (by rw [f.pgs];exact h) hn (fun k hk=>by rw [f.pgs];exact ⟨(hr k hk).1,(hr k hk).2.1⟩) hb;obtain ⟨w',g1,g2,g3,g4⟩:=giveL_ok f hn hr;exact ⟨w',by rw [dropF_l f.i (by rw [g]),g,g1];rfl,g2,g3,g4⟩
open Go Go.HL
structure PuC where
 fst:Int
 r:RB
 ps:List Int
def PuC.cells (x:PuC):List Value:=[.int .i64 x.fst,.slice x.r.a x.r.l.length x.r.c]
theorem PuC.cells_len (x:PuC):x.cells.length=2:=rfl
theorem parts_cnt {n:Nat} (hn:1≤n):∀(k:Nat) (l:List UInt8),l.length≤k→(parts l n).length=(l.length+n-1) / n
 | 0,l,h=>by
  have:l=[]:=List.eq_nil_of_length_eq_zero (by omega);subst this;exact (Nat.div_eq_of_lt (by show 0+n-1<n;omega)).symm
 | k+1,l,h=>by
  by_cases e:l=[]
  ·subst e;exact (Nat.div_eq_of_lt (by show 0+n-1<n;omega)).symm
  ·have hl:0<l.length:=List.length_pos_iff.2 e;rw [parts_cons hn e,List.length_cons,parts_cnt hn k (l.drop n) (by rw [List.length_drop];omega),List.length_drop];by_cases h2:n≤l.length
   ·rw [show l.length-n+n-1=l.length-1 by omega,show l.length+n-1=l.length-1+n by omega,Nat.add_div_right _ (by omega)]
   ·rw [show l.length-n+n-1=n-1 by omega,Nat.div_eq_of_lt (show n-1<n by omega),show l.length+n-1=l.length-1+n by omega,Nat.add_div_right _ (by omega),Nat.div_eq_of_lt (by omega)]
structure ChW (w:St) (fl:List Int) (cs:List PuC):Prop where
 all:frAll w=some fl
 get:∀c∈cs,chF w c.fst (c.r.l.length:Int)=(c.ps,c.r.l,0)
 len:∀c∈cs,c.r.l.length≤16384∧c.ps.length=(c.r.l.length+w.z-5) / (w.z-4)∧i64N c.fst
 mt:Met w.pgs.length (fl++cs.flatMap PuC.ps)
 ln:fl.length+(cs.flatMap PuC.ps).length+1=w.pgs.length
structure ChS (w:St) (T:Trk) (cs:List PuC):Prop where
 fr:FrS w T
 ch:∀c∈cs,ChL w.now w.z c.fst c.ps c.r.l
 len:∀c∈cs,c.r.l.length≤16384∧c.ps.length=(c.r.l.length+w.z-5) / (w.z-4)
 mt:Met w.now.length (flatT T++cs.flatMap PuC.ps)
 ln:(flatT T).length+(cs.flatMap PuC.ps).length+1=w.now.length
theorem head_eq {w w':St} (h1:w'.pgs=w.pgs) (h2:w'.z=w.z):w'.head=w.head:=by unfold St.head;rw [h1,h2]
theorem mem_ps {cs:List PuC} {c:PuC} {k:Int} (hc:c∈cs) (hk:k∈c.ps):k∈cs.flatMap PuC.ps:=List.mem_flatMap.2 ⟨c,hc,hk⟩
theorem nd_ps {cs:List PuC} {c:PuC} (h:(cs.flatMap PuC.ps).Nodup) (hc:c∈cs):c.ps.Nodup:=by
 obtain ⟨s,t,rfl⟩:=List.append_of_mem hc;rw [List.flatMap_append,List.flatMap_cons] at h;exact (List.nodup_append.1 (List.nodup_append.1 h).2.1).1
section
variable {w:St} {T:Trk} {cs:List PuC}
theorem ChS.nc (s:ChS w T cs):(cs.flatMap PuC.ps).Nodup:=(List.nodup_append.1 s.mt.nd).2.1
theorem ChS.dj (s:ChS w T cs) {k:Int} (h1:k∈flatT T) (h2:k∈cs.flatMap PuC.ps):False:=(List.nodup_append.1 s.mt.nd).2.2 k h1 k h2 rfl
theorem ChS.rg (s:ChS w T cs) {c:PuC} (hc:c∈cs):∀k∈c.ps,2≤k∧k≤(w.now.length:Int)∧k∉flatT T:=fun k hk=>
 have h:=s.mt.rg k (List.mem_append_right _ (mem_ps hc hk))
 ⟨h.1,h.2,fun h2=>s.dj h2 (mem_ps hc hk)⟩
theorem ChS.cm (s:ChS w T cs) {w':St} (hp:w'.pgs=w.now) (hz:w'.z=w.z):ChW w' (flatT T) cs:=by
 have hp':w'.pgs=w.pgs:=hp.trans s.fr.pgs.symm;have hzc:=s.fr.zc;have hn1:=s.fr.few;refine ⟨?_,fun c hc=>?_,fun c hc=>?_,by rw [hp];exact s.mt,by rw [hp];exact s.ln⟩
 ·have h:=s.fr.all;unfold frAll at h⊢;rw [hp',hz,head_eq hp' hz];exact h
 ·exact ChL.get (z:=w.z) (by omega) (by rw [hp];exact s.ch c hc) (nd_ps s.nc hc) (fun k hk=>by rw [hp];have:=s.rg hc k hk;exact ⟨this.1,this.2.1⟩) (s.len c hc).1
 ·refine ⟨(s.len c hc).1,by rw [hz];exact (s.len c hc).2,?_⟩;rw [(s.ch c hc).hd];cases hps:c.ps with
  | nil=>exact ⟨by decide,by decide⟩
  | cons k l=>
   have:=s.rg hc k (by rw [hps];simp);exact ⟨by show (-9223372036854775808:Int)≤k;omega,by show k≤9223372036854775807;omega⟩
theorem ChS.now (s:ChS w T cs):ChW w (flatT T) cs:=s.cm s.fr.pgs rfl
theorem ChS.start (f:FrS w []) (h:w.now.length=1):ChS w [] []:=⟨f,by simp,by simp,⟨by simp [flatT],by simp [flatT]⟩,by rw [h];rfl⟩
theorem ChS.put (s:ChS w T cs) {r:RB} (hb:r.l.length≤16384) (hm:(w.now.length+(parts r.l (w.z-4)).length)*w.z≤16777216):∃w' n pl T',putF w r.l=(w',n,0)∧tkL pl.length w.now.length T=(pl,T',w'.now.length)∧ChS w' T' (cs++[⟨n,r,pl⟩])∧w'.z=w.z∧w'.in_=true∧w'.sure=w.sure∧w.now.length≤w'.now.length∧w'.now.length≤w.now.length+(parts r.l (w.z-4)).length∧(n=0↔r.l=[])∧pl.length=(parts r.l (w.z-4)).length∧i64N n:=by
 have hzc:=s.fr.zc;obtain ⟨w',g1,f1,l1,g2,g3,c1,k1,g4,g5,g6,g7⟩:=s.fr.put hb hm;have hpn:(tkL (parts r.l (w.z-4)).length w.now.length T).1.length=(parts r.l (w.z-4)).length:=by
  obtain ⟨_,_,_,_,_,_,_,h,_⟩:=takeA_ok (n:=(parts r.l (w.z-4)).length) (acc:=[]) s.fr hm;exact h
 have hcnt:=parts_cnt (n:=w.z-4) (by omega) r.l.length r.l (Nat.le_refl _);generalize hq:tkL (parts r.l (w.z-4)).length w.now.length T=q at *;obtain ⟨pl,T',N'⟩:=q;simp only at *;have hdj:∀k∈pl,k∉cs.flatMap PuC.ps:=fun k hk hc=>by
  have h2:=s.mt.rg k (List.mem_append_right _ hc);rcases (g4 k hk).2.2.2 with h | h
  ·exact s.dj h hc
  ·omega
 have hfm:∀x:PuC,(cs++[x]).flatMap PuC.ps=cs.flatMap PuC.ps++x.ps:=fun x=>by rw [List.flatMap_append];simp
 have hnz:pl.getD 0 0=0↔r.l=[]:=by
  have h1:=c1.hd;constructor
  ·intro h;cases hp:pl with
   | nil=>rw [hp] at c1;exact c1.2
   | cons k l=>rw [hp] at h;have:=(g4 k (by rw [hp];simp)).1;have:k=0:=h;omega
  ·intro h;cases hp:pl with
   | nil=>rfl
   | cons k l=>rw [hp] at c1;exact absurd h c1.2.1
 refine ⟨w',pl.getD 0 0,pl,T',g1,by rw [hpn,hq,l1],⟨f1,fun c hc=>?_,fun c hc=>?_,⟨?_,fun k hk=>?_⟩,?_⟩,k1.z,k1.i.trans s.fr.i,k1.su,g2,g3,hnz,hpn,?_⟩
 ·rcases List.mem_append.1 hc with hc | hc
  ·rw [k1.z];exact ChL.congr (fun k hk=>k1.pg k (s.rg hc k hk).1 fun h=>h.elim (s.rg hc k hk).2.2 fun h=>hdj k h (mem_ps hc hk)) (s.ch c hc)
  ·rw [List.mem_singleton.1 hc,k1.z];exact c1
 ·rw [k1.z];rcases List.mem_append.1 hc with hc | hc
  ·exact s.len c hc
  ·rw [List.mem_singleton.1 hc];refine ⟨hb,?_⟩;show pl.length=(r.l.length+w.z-5) / (w.z-4);rw [hpn,hcnt];congr 1;omega
 ·rw [hfm];show (flatT T'++(cs.flatMap PuC.ps++pl)).Nodup;refine List.nodup_append.2 ⟨f1.mt.nd,List.nodup_append.2 ⟨s.nc,g5,fun a ha b hb e=>hdj b hb (e▸ha)⟩,fun a ha b hb e=>?_⟩;subst e;rcases List.mem_append.1 hb with hb | hb
  ·exact s.dj (g7 a ha) hb
  ·exact (g4 a hb).2.2.1 ha
 ·rw [hfm] at hk;rcases List.mem_append.1 hk with hk | hk
  ·exact f1.mt.rg k hk
  ·rcases List.mem_append.1 hk with hk | hk
   ·have:=s.mt.rg k (List.mem_append_right _ hk);exact ⟨this.1,by omega⟩
   ·exact ⟨(g4 k hk).1,(g4 k hk).2.1⟩
 ·rw [hfm,List.length_append];show (flatT T').length+((cs.flatMap PuC.ps).length+pl.length)+1=_;have:=s.ln;omega
 ·cases hp:pl with
  | nil=>exact ⟨by decide,by decide⟩
  | cons k l=>
   have h1:=(g4 k (by rw [hp];simp));have h2:=f1.few;exact ⟨by show (-9223372036854775808:Int)≤k;omega,by show k≤9223372036854775807;omega⟩
theorem ChS.drop (s:ChS w T cs) {k:Nat} (hk:k<cs.length):∃w',dropF w cs[k].fst (cs[k].r.l.length:Int)=(w',0)∧ChS w' (gvL ((w.z-8) / 4) cs[k].ps T) (cs.take k++cs.drop (k+1))∧w'.z=w.z∧w'.in_=true∧w'.sure=w.sure∧w'.now.length=w.now.length:=by
 have hc:cs[k]∈cs:=List.getElem_mem hk;have hsp:cs=cs.take k++cs[k]::cs.drop (k+1):=by rw [←List.drop_eq_getElem_cons hk,List.take_append_drop]
 have hfl:(cs.flatMap PuC.ps).Perm (cs[k].ps++(cs.take k++cs.drop (k+1)).flatMap PuC.ps):=by
  have e:cs.flatMap PuC.ps=(cs.take k).flatMap PuC.ps++(cs[k].ps++(cs.drop (k+1)).flatMap PuC.ps):=by
   have:=congrArg (List.flatMap PuC.ps) hsp;rw [List.flatMap_append,List.flatMap_cons] at this;exact this
  rw [e,List.flatMap_append,←List.append_assoc,←List.append_assoc];exact List.perm_append_comm.append_right _
 have hsub:∀c∈cs.take k++cs.drop (k+1),c∈cs:=fun c h=>(List.mem_append.1 h).elim List.mem_of_mem_take List.mem_of_mem_drop;have hnd:=hfl.nodup_iff.1 s.nc;obtain ⟨w',g1,f1,l1,k1⟩:=s.fr.drop (s.ch _ hc) (nd_ps s.nc hc) (s.rg hc) (s.len _ hc).1;have hp:(flatT (gvL ((w.z-8) / 4) cs[k].ps T)++(cs.take k++cs.drop (k+1)).flatMap PuC.ps).Perm (flatT T++cs.flatMap PuC.ps):=by
  refine .trans (gvL_perm.append_right _) (.trans ?_ (hfl.append_left _).symm);rw [←List.append_assoc];exact List.perm_append_comm.append_right _
 refine ⟨w',g1,⟨f1,fun c h=>?_,fun c h=>by rw [k1.z];exact s.len c (hsub c h),by rw [l1];exact s.mt.perm hp,?_⟩,k1.z,k1.i.trans s.fr.i,k1.su,l1⟩
 ·rw [k1.z];refine ChL.congr (fun j hj=>k1.pg j (s.rg (hsub c h) j hj).1 fun h2=>h2.elim (s.rg (hsub c h) j hj).2.2 fun h2=>?_) (s.ch c (hsub c h));exact (List.nodup_append.1 hnd).2.2 j h2 j (mem_ps h hj) rfl
 ·have:=hp.length_eq;rw [List.length_append,List.length_append] at this;have:=s.ln;omega
end
theorem tkL_step {w:St} {T T':Trk} {pl:List Int} {i N0 N':Nat} (f:FrS w T) (hi:i<pl.length) (e:tkL (pl.length-i) w.now.length T=(pl.drop i,T',N')) (h1:w.now.length≤N0+i) (h2:(N0+pl.length)*w.z≤16777216) :
  ∃w' T1,takeF w=(w',pl[i],0)∧FrS w' T1∧w'.z=w.z∧tkL (pl.length-(i+1)) w'.now.length T1=(pl.drop (i+1),T',N')∧w'.now.length≤N0+(i+1):=by
 obtain ⟨w',g1,f1,l1,_,k1⟩:=f.take fun _=>Nat.le_trans (Nat.mul_le_mul_right _ (by omega)) h2;rw [show pl.length-i=pl.length-(i+1)+1 by omega,tkL_s,List.drop_eq_getElem_cons hi] at e;injection e with e1 e2;injection e1 with e3 e4;have hle:=tkT_le (N:=w.now.length) (T:=T);exact ⟨w',_,by rw [g1,e3],f1,k1.z,by rw [l1];exact Prod.ext e4 e2,by omega⟩
theorem gvL_step {w:St} {T:Trk} {l:List Int} {i:Nat} (f:FrS w (gvL ((w.z-8) / 4) (l.take i) T)) (hi:i<l.length) (hn:l.Nodup) (hr:∀k∈l,2≤k∧k≤(w.now.length:Int)∧k∉flatT T) :
  ∃w',giveF w l[i]=(w',0)∧FrS w' (gvL ((w.z-8) / 4) (l.take (i+1)) T)∧w'.z=w.z∧w'.now.length=w.now.length:=by
 obtain ⟨h1,h2,h3⟩:=hr l[i] (List.getElem_mem hi);obtain ⟨w',g1,f1,l1,k1⟩:=f.give h1 h2 fun h=>by
  rcases List.mem_append.1 (gvL_perm.mem_iff.1 h) with h | h
  ·rw [show l=l.take i++l[i]::l.drop (i+1) by rw [←List.drop_eq_getElem_cons hi,List.take_append_drop]] at hn;exact (List.nodup_append.1 hn).2.2 _ h _ List.mem_cons_self rfl
  ·exact h3 h
 refine ⟨w',g1,?_,k1.z,l1⟩;rw [List.take_succ_eq_append_getElem hi];unfold gvL at f1⊢;rw [List.foldl_append];exact f1
theorem heads {w w2:St} {T:Trk} (f:FrS w T) (f2:FrS w2 T) (hz:w2.z=w.z) (hn:w2.now.length=w.now.length):w2.head=w.head:=by rw [f.hd,f2.hd,hz,hn]
theorem perm_srt:∀ {l m:List Int},l.Perm m→l.Pairwise (·≤·)→m.Pairwise (·≤·)→l=m
 | [],m,p,_,_=>(List.Perm.nil_eq p)
 | a::l,m,p,h1,h2=>by
  cases m with
  | nil=>exact absurd p.length_eq (by simp)
  | cons b m=>
   have h3:=List.pairwise_cons.1 h1;have h4:=List.pairwise_cons.1 h2;have e:a=b:=by
    rcases List.mem_cons.1 (p.mem_iff.1 List.mem_cons_self) with h | h
    ·exact h
    ·rcases List.mem_cons.1 (p.mem_iff.2 List.mem_cons_self) with h5 | h5
     ·exact h5.symm
     ·have:=h3.1 b h5;have:=h4.1 a h;omega
   subst e;rw [perm_srt (List.Perm.cons_inv p) h3.2 h4.2]
def snN (N:Nat) (m:List Int):List Int:=(List.range (N+1)).map fun k:Nat=>if (k:Int)∈m then 1 else 0
theorem snN_len {N:Nat} {m:List Int} : (snN N m).length=N+1:=by simp [snN]
theorem snN_0 {N:Nat} : snN N []=List.replicate (N+1) 0:=by
 unfold snN;apply List.ext_getElem (by simp);intro i h1 h2;simp
theorem snN_at {N k:Nat} {m:List Int} (h:k<(snN N m).length):(snN N m)[k]=if (k:Int)∈m then 1 else 0:=by simp [snN]
theorem snN_set {N k:Nat} {m:List Int} {x:Int} (hx:x=(k:Int)):(snN N m).set k 1=snN N (m++[x]):=by
 apply List.ext_getElem (by simp [snN]);intro i h1 h2;rw [List.getElem_set];simp only [snN,List.getElem_map,List.getElem_range,List.mem_append,List.mem_singleton];by_cases h:k=i
 ·subst h;rw [if_pos rfl,if_pos (.inr hx.symm)]
 ·rw [if_neg h];by_cases h3:(i:Int)∈m
  ·rw [if_pos h3,if_pos (.inl h3)]
  ·rw [if_neg h3,if_neg (by rintro (h4 | h4);exact h3 h4;omega)]
open Go Go.HL
attribute [local irreducible] bytN
theorem spPutE {G:Pgr} {h:Heap} {so bc:Nat} {F F2 E2:Nat→Prop} {w w2:St} {ba:Option Addr} {bl:List UInt8} {n:Int} {c:Nat} {ci:Int} (ok:Hp h F [dsI G so F w] [rdI F2 E2 (ba,bl.length,bc) bl] h) (e:putF w bl=(w2,n,c)) (hc:(c:Int)=ci) :
  HC Tryz.prog 56 #[.pointer (some ⟨so,0,none⟩),.slice ba bl.length bc] h (fun v h'=>∃F',v=.tuple #[.int .i64 n,.int .i64 ci]∧Hp h F [dsI G so F' w2] [] h'):=by
 have q:=spPut_any ok;rw [e] at q;subst hc;exact q
theorem spGetE {G:Pgr} {h:Heap} {so:Nat} {F:Nat→Prop} {w:St} {first n:Int} {pl:List Int} {ol:List UInt8} {c:Int} (ok:Hp h F [dsI G so F w] [] h) (hf:i64N first) (hn:i64N n) (e:chF w first n=(pl,ol,c)) :
  HC Tryz.prog 32 #[.pointer (some ⟨so,0,none⟩),.int .i64 first,.int .i64 n] h (fun v h'=>∃F' x c',v=.tuple #[.slice x ol.length c',.int .i64 c]∧Hp h F [capI 1 5 (x,ol.length,c') (ol.map bv),dsI G so F' w] [] h'):=by
 have q:=spGet_any ok hf hn;rw [e] at q;exact q
theorem spPagesE {G:Pgr} {h:Heap} {so:Nat} {F:Nat→Prop} {w:St} {first n:Int} {pl:List Int} {ol:List UInt8} {c:Int} (ok:Hp h F [dsI G so F w] [] h) (hf:i64N first) (hn:i64N n) (e:chF w first n=(pl,ol,c)) :
  HC Tryz.prog 33 #[.pointer (some ⟨so,0,none⟩),.int .i64 first,.int .i64 n] h (fun v h'=>∃F' x c',v=.tuple #[.slice x pl.length c',.int .i64 c]∧Hp h F [capI 1 3 (x,pl.length,c') (pl.map iv),dsI G so F' w] [] h'):=by
 have q:=spPages_any ok hf hn;rw [e] at q;exact q
theorem spDropE {G:Pgr} {h:Heap} {so:Nat} {F:Nat→Prop} {w w2:St} {first n c:Int} (ok:Hp h F [dsI G so F w] [] h) (hf:i64N first) (hn:i64N n) (e:dropF w first n=(w2,c)) :
  HC Tryz.prog 59 #[.pointer (some ⟨so,0,none⟩),.int .i64 first,.int .i64 n] h (fun v h'=>∃F',v=.int .i64 c∧Hp h F [dsI G so F' w2] [] h'):=by
 have q:=spDrop_any ok hf hn;rw [e] at q;exact q
theorem spLoc28 {h:Heap} : HC Tryz.prog 25 #[.int .i64 100,.int .i64 256] h (fun v h'=>v=.int .i64 28∧h'=h):=spLocal_any (total:=100) (size:=256) ⟨by decide,by decide⟩ ⟨by decide,by decide⟩
theorem spLoc20 {h:Heap} : HC Tryz.prog 25 #[.int .i64 20,.int .i64 256] h (fun v h'=>v=.int .i64 20∧h'=h):=spLocal_any (total:=20) (size:=256) ⟨by decide,by decide⟩ ⟨by decide,by decide⟩
theorem PgB.rows {h:Heap} {E:Nat→Prop} {x:SV} {l:List RB} (r:PgB h E x l):RdL h E E x (pgs l):=by
 obtain ⟨a,n,c⟩:=x;have hn:n=l.length:=r.n;refine ⟨by rw [pgs_len];exact r.n,r.m.1,r.m.2,fun hp=>?_⟩;rw [pgs_len] at hp;obtain ⟨b,o,rfl,hE⟩:=r.pos (by omega);refine ⟨b,o,rfl,hE,fun i hi=>?_⟩;have hil:i<l.length:=by rwa [pgs_len] at hi
 refine ⟨[.slice l[i].a l[i].l.length l[i].c],⟨(l[i].a,l[i].l.length,l[i].c),rfl,by rw [pgs_at hil];exact r.by' _ (List.getElem_mem hil)⟩,fun j v hj=>?_⟩;have hj0:j=0:=by have:=(List.getElem?_eq_some_iff.1 hj).1;simpa using this
 subst hj0;have:=sl_at1 RB.cells_len r.sl hil (v:=v) hj;simpa [Rep.k] using this
end Go.Proofs.YtndlpekckpdncaaGreat
namespace Go.HL
open Go
theorem Cap.i64 {h:Heap} {e:TypeId} {l:List Int} {b o n c:Nat} (r:Cap h 1 e (.slice (some ⟨b,o,none⟩) n c) (l.map iv)) {i:Nat} (hi:i<l.length):cell h b (o+i)=some (.int .i64 l[i]):=by
 obtain ⟨b',o',he,hc⟩:=r.sl.cells.pos (by have:=r.sl.cells.1;simp at this;omega);injection he with he;injection he with e1 e2;subst e1 e2;exact hc i _ (map_at hi)
theorem Hp.liftE {h0 h h':Heap} {D:Nat→Prop} {M R:List Itm} {a a' x:Itm} (ok:Hp h0 D (a::M) R h) (q:Hp h a.F [a'] [x] h') (hx:∀j,x.F j→a.F j∨h.size≤j):Hp h0 D (a'::M) (x::R) h':=by
 have o:=ok.upd q.chg (fun _ x=>x) a' q.m0 fun j hj=>by
  have h1:=(q.m _ List.mem_cons_self).2 j hj;exact h1.2.imp id fun h=>⟨h,h1.1⟩
 refine ⟨o.chg,o.m,fun i hi=>?_,o.mm,fun m hm z hz j hj hj2=>?_⟩
 ·rcases List.mem_cons.1 hi with rfl | hi
  ·exact q.r _ (by simp)
  ·exact o.r i hi
 ·rcases List.mem_cons.1 hz with rfl | hz
  ·rcases List.mem_cons.1 hm with rfl | hm
   ·exact q.mr _ (by simp) _ (by simp) j hj hj2
   ·rcases hx j hj2 with h1 | h1
    ·exact (List.pairwise_cons.1 ok.mm).1 m hm j h1 hj
    ·have:=((ok.m m (List.mem_cons_of_mem _ hm)).2 j hj).1;omega
  ·exact o.mr m hm z hz j hj hj2
theorem Hp.ownE {h0 h:Heap} {D:Nat→Prop} {M R:List Itm} {a:Itm} (ok:Hp h0 D (a::M) R h):∀j,a.F j→D j∨h0.size≤j:=fun j hj=>((ok.m a List.mem_cons_self).2 j hj).2
end Go.HL
namespace Go.Proofs.YtndlpekckpdncaaGreat
open Go Go.HL
section
variable {w:St} {first no:Int} {n f:Nat} {pl:List Int} {ol b:List UInt8} (hb:¬((n:Int)<0∨16384<(n:Int)∨decide (first=0)≠decide ((n:Int)=0)))
 (g:lkGo w (chGo n) (chLv n) (f+1) no pl (pl,ol,false)=chR w first n)
include hb g
theorem chD_bad (h:no<2∨(w.pgs.length:Int)<no∨no∈pl) (hl:ol.length<n):chF w first (n:Int)=([],[],14):=by
 by_cases h0:no=0
 ·rw [lk_00 h0] at g;exact chF_l hb (by rw [←g]) (by rw [←g]) (by rw [←g];exact hl)
 ·rw [lk_bad h0 h] at g;exact (chF_e hb (by rw [←g]) (by rw [←g];show (14:Int)≠0;decide)).trans (by rw [←g])
theorem chD_end (h0:no≠0) (hl:n≤ol.length):chF w first (n:Int)=([],[],14):=by
 by_cases h:no<2∨(w.pgs.length:Int)<no∨no∈pl
 ·rw [lk_bad h0 h] at g;exact (chF_e hb (by rw [←g]) (by rw [←g];show (14:Int)≠0;decide)).trans (by rw [←g])
 ·rw [lk_stop h0 h (by rw [chg_stop hl];rfl),chg_stop hl] at g;exact chF_s hb (by rw [←g])
theorem chD_ok (h0:no=0) (hl:n≤ol.length):chF w first (n:Int)=(pl,ol,0):=by
 rw [lk_00 h0] at g;exact (chF_0 hb (by rw [←g]) (by rw [←g]) (by rw [←g];show ¬ol.length<n;omega)).trans (by rw [←g])
omit hb in
theorem chD_go (e:w.pgs.getD (no-1).toNat []=b) (h0:2≤no) (h1:no≤(w.pgs.length:Int)) (hn:no∉pl) (hpl:pl.length≤ol.length) (hl:ol.length<n) (h5:5≤b.length):lkGo w (chGo n) (chLv n) f ((rdN b 0 4:Nat):Int) (pl++[no]) (pl++[no],ol++(b.drop 4).take (chK n ol b),false)=chR w first n:=by
 have hg:chGo n (pl,ol,false) no b=(pl++[no],ol++(b.drop 4).take (chK n ol b),false):=chg_go (by omega);subst e;rw [lk_go (by omega) (by rintro (h | h | h);omega;omega;exact hn h) (by rw [hg];exact chl_go hpl (by omega) (by omega) h5),hg] at g;exact g
end
theorem tk_step {b:List UInt8} {k:Nat} (h:4+k<b.length):(b.drop 4).take (k+1)=(b.drop 4).take k++[b[4+k]]:=by
 rw [List.take_succ_eq_append_getElem (by rw [List.length_drop];omega),List.getElem_drop]
theorem pg_all5 {α:Type} {l:List α} {k:Nat} (h1:k≤l.length) (h:l.length≤k):l.take k=l:=List.take_of_length_le h
theorem pg_step5 {P:List (List UInt8)} {ol:List RB} {k:Nat} {x:RB} (h:pgs ol=P.take k) (hk:k<P.length) (hx:x.l=P.getD k []):pgs (ol++[x])=P.take (k+1):=by
 rw [pgs_snoc,h,List.take_succ_eq_append_getElem hk,hx];congr 2;simp [hk]
theorem _root_.Go.HL.Hp.pgRows {h0 h:Heap} {D Eo:Nat→Prop} {M R:List Itm} {e:TypeId} {a:Option Addr} {c:Nat} {l:List RB} {P:List (List UInt8)} (ok:Hp h0 D (capI 1 e (a,l.length,c) (l.flatMap RB.cells)::M) (pbyI Eo l::R) h) (hP:pgs l=P):Hp h0 D M (rdI (fun j=>blkC (sv (a,l.length,c)) j∨Eo j) (fun j=>blkC (sv (a,l.length,c)) j∨Eo j) (a,l.length,c) P::R) h:=by
 have o:=ok.frz;subst hP;have o2:=o.or (r:=capI 1 e (a,l.length,c) (l.flatMap RB.cells)) (r':=pbyI Eo l) (by simp) (by simp) (rdI (fun j=>blkC (sv (a,l.length,c)) j∨Eo j) (fun j=>blkC (sv (a,l.length,c)) j∨Eo j) (a,l.length,c) (pgs l)) (PgB.rows (PgB.of o.r0 o.r1 (fun j h=>.inl h) (fun j h=>.inr h))) (fun j h=>h.elim id id);exact o2.sub (by simp;intro a h;exact .inr (.inr (.inr h)))
theorem same10_any {h:Heap} {F E F' E':Nat→Prop} {a b:Option Addr} {c d:Nat} {l l2:List Int} (hl:RdL h F E (a,l.length,c) l) (hm:RdL h F' E' (b,l2.length,d) l2) :
  HC Tryz.prog 34 #[.slice a l.length c,.slice b l2.length d] h (fun r h'=>r=.bool (decide (l=l2))∧h'=h):=by
 have hlc:=hl.c;have hlm:=hl.m;simp only at hlc hlm;refine HC.go Tryz.func34 26 ?_;refine .s<|.z .asB<|.nil<|.seq<|.s<|.z .mvS<|.z (.len T.el24)<|.z .mvS<|.z (.len T.el24)<|.z .neq<|.nil<|.cd (fun C0=>?_) (fun C0=>?_)
 ·
  refine .s<|.z .asB<|.nil<|.ret ⟨.bool false,Res.one rfl rfl,⟨by rw [decide_eq_false (fun e=>by rw [e] at C0;exact C0 rfl)],rfl⟩⟩
 refine .skip<|.seq<|.s<|.z .asI<|.nil<|.block fun K0 hK0=>.loop (fun m s hh=>∃(i:Nat),Has s [(0,.slice a l.length c),(1,.slice b l2.length d),(5,.int .i64 (i:Int))]∧h=hh∧i≤l.length∧l.take i=l2.take i∧m=l.length-i) ?_ ?_
 ·exact ⟨_,0,⟨rfl,rfl,rfl,trivial⟩,rfl,Nat.zero_le _,by simp,rfl⟩
 rintro _ _ _ ⟨i,hs,rfl,hi,hn,rfl⟩ J0 hJ0;refine .frame hs fun τ=>?_;refine .seq<|.s<|.z .mvI<|.z .mvS<|.z (.len T.el24)<|.z .lss<|.nil<|.cdr (fun C1=>?_) (fun C1=>?_)
 ·
  refine .exit<|hK0 _ _<|.s<|.z .asB<|.nil<|.ret ⟨.bool true,Res.one rfl rfl,⟨by rw [decide_eq_true (by rwa [List.take_of_length_le (by omega),List.take_of_length_le (by omega)] at hn)],rfl⟩⟩
 have hil:i<l.length:=by omega
 have hil2:i<l2.length:=by omega
 refine .skip<|.seq<|.block fun K1 hK1=>.seq<|.q (hm:=mixed)<|.z .mvS<|.z .mvI<|?_;obtain ⟨bb1,oo1,rfl,fb1⟩:=hl.pos (by omega);refine .z (.ix1 i T.el24 T.sz3 (hi:=by omega))<|.z (.ld T.ag3 (hl.i64 (i:=i) (by omega)))<|.z .mvS<|.z .mvI<|?_;obtain ⟨bb2,oo2,rfl,fb2⟩:=hm.pos (by omega);refine .z (.ix1 i T.el24 T.sz3 (hi:=by omega))<|.z (.ld T.ag3 (hm.i64 (i:=i) (by omega)))<|.z .neq<|.nil<|.cd (fun C2=>?_) (fun C2=>?_)
 ·
  refine .s<|.z .asB<|.nil<|.ret ⟨.bool false,Res.one rfl rfl,⟨by rw [decide_eq_false (fun e=>by subst e;exact C2 rfl)],rfl⟩⟩
 refine .skip<|.end<|hK1 _ _<|.r<|.z .mvI<|.z (.addI (b:=1))<|.z .asI<|.nil<|.end<|hJ0 _ _ _ ⟨i+1,⟨rfl,rfl,rfl,trivial⟩,rfl,by omega,take_step (by omega) (by omega) hn (by simpa using C2),rfl⟩ (by omega)
theorem chain17_any {h:Heap} {F E:Nat→Prop} {w:St} {a:Option Addr} {c:Nat} {first n:Int} (k:StOk w) (hl:RdL h F E (a,w.pgs.length,c) w.pgs) (hf:i64N first) (hn:i64N n) :
  HC Tryz.prog 30 #[.slice a w.pgs.length c,.int .i64 (w.z:Int),.int .i64 first,.int .i64 n] h (fun v h'=>∃pa pc oa oc,v=.tuple #[.slice pa (chF w first n).1.length pc,.slice oa (chF w first n).2.1.length oc,.int .i64 (chF w first n).2.2]∧Hp h none_ [capI 1 3 (pa,(chF w first n).1.length,pc) ((chF w first n).1.map iv),capI 1 5 (oa,(chF w first n).2.1.length,oc) ((chF w first n).2.1.map bv)] [] h'):=by
 have ok:=(Hp.nil h none_).arg hl;have hzc:=okSz_c k.z;have hfew:=St.few k;have hf1:=hf.1;have hn1:=hn.1;refine HC.go Tryz.func30 99 ?_;refine .s<|.z .asS<|.z .asS<|.z .asI<|.nil<|.seq<|.s<|.z .mvI<|.z .lss<|.z .mvB<|.sd (fun G21=>?_) (fun G21=>?_)
 ·
  refine .y<|.y<|.z .pkt<|.z .mvB<|.y<|.y<|.y<|.y<|.y<|.z .pkt<|.nil<|.ct<|.s<|.z .asS<|.z .asS<|.z .asI<|.nil<|.ret ⟨.tuple #[.slice none 0 0,.slice none 0 0,.int .i64 1],Res.three rfl rfl rfl rfl,⟨none,0,none,0,by rw [chF_1 (by first | exact .inl (by omega) | exact .inr (.inl (by omega)) | exact .inr (.inr (by simpa using C0)))]<;>rfl,by rw [chF_1 (by first | exact .inl (by omega) | exact .inr (.inl (by omega)) | exact .inr (.inr (by simpa using C0)))];exact ((ok.k0.tR.nilC (k:=1) (e:=5)).nilC (k:=1) (e:=3))⟩⟩
 refine .z .mvI<|.z .gtr<|.z .pkf<|.z .mvB<|.sd (fun G25=>?_) (fun G25=>?_)
 ·
  refine .y<|.y<|.y<|.y<|.y<|.z .pkt<|.nil<|.ct<|.s<|.z .asS<|.z .asS<|.z .asI<|.nil<|.ret ⟨.tuple #[.slice none 0 0,.slice none 0 0,.int .i64 1],Res.three rfl rfl rfl rfl,⟨none,0,none,0,by rw [chF_1 (by first | exact .inl (by omega) | exact .inr (.inl (by omega)) | exact .inr (.inr (by simpa using C0)))]<;>rfl,by rw [chF_1 (by first | exact .inl (by omega) | exact .inr (.inl (by omega)) | exact .inr (.inr (by simpa using C0)))];exact ((ok.k0.tR.nilC (k:=1) (e:=5)).nilC (k:=1) (e:=3))⟩⟩
 refine .z .mvI<|.z .eql<|.z .mvI<|.z .eql<|.z (.bNe T.bo4)<|.z .pkf<|.nil<|.cond (fun C0=>?_) (fun C0=>?_)
 ·
  refine .s<|.z .asS<|.z .asS<|.z .asI<|.nil<|.ret ⟨.tuple #[.slice none 0 0,.slice none 0 0,.int .i64 1],Res.three rfl rfl rfl rfl,⟨none,0,none,0,by rw [chF_1 (by first | exact .inl (by omega) | exact .inr (.inl (by omega)) | exact .inr (.inr (by simpa using C0)))]<;>rfl,by rw [chF_1 (by first | exact .inl (by omega) | exact .inr (.inl (by omega)) | exact .inr (.inr (by simpa using C0)))];exact ((ok.k0.tR.nilC (k:=1) (e:=5)).nilC (k:=1) (e:=3))⟩⟩
 obtain ⟨nn,rfl⟩:∃nn:Nat,n=(nn:Int):=⟨n.toNat,by omega⟩;have hbad:¬((nn:Int)<0∨16384<(nn:Int)∨decide (first=0)≠decide ((nn:Int)=0)):=by
  rintro (h | h | h)
  ·omega
  ·omega
  ·exact h (by simpa using C0)
 have hf0:nn=0→first=0:=fun h0=>by subst h0;exact Classical.byContradiction fun h=>hbad (.inr (.inr (by simp [h])))
 refine .skip<|.s<|.z .asS<|?_;have ok:=ok.nilC (k:=1) (e:=3);refine .nil ?_;refine .s<|.z .asS<|?_;have ok:=ok.nilC (k:=1) (e:=5);refine .nil ?_;refine .s<|.z .mvI<|.z .asI<|.nil<|.seq<|.block fun K0 hK0=>.loop (fun m s hh=>∃(no:Int) (pl:List Int) (ol:List UInt8) (a11 a12:Option Addr) (c11 c12:Nat),Has s [(0,.slice a w.pgs.length c),(1,.int .i64 (w.z:Int)),(3,.int .i64 (nn:Int)),(11,.slice a11 pl.length c11),(12,.slice a12 ol.length c12),(13,.int .i64 no)]∧Hp h none_ [capI 1 3 (a11,pl.length,c11) (pl.map iv),capI 1 5 (a12,ol.length,c12) (ol.map bv)] [rdI (fun j=>F j∧j<h.size) (fun j=>E j∧j<h.size) (a,w.pgs.length,c) w.pgs] hh∧lkGo w (chGo nn) (chLv nn) (w.pgs.length+1-pl.length) no pl (pl,ol,false)=chR w first nn∧Met w.pgs.length pl∧pl.length≤ol.length∧ol.length≤nn∧(nn=0→no=0)∧m=w.pgs.length+1-pl.length) ?_ ?_
 ·exact ⟨_,first,[],[],none,none,0,0,⟨rfl,rfl,rfl,rfl,rfl,rfl,trivial⟩,(ok.n1).k2,rfl,Met.nil,Nat.le_refl _,Nat.zero_le _,hf0,rfl⟩
 rintro _ _ η1 ⟨no,pl,ol,a11,a12,c11,c12,hs,ok,hg,hmt,hpl,hol,hz0,rfl⟩ J0 hJ0;refine .frame hs fun τ=>?_;refine .seq<|.s<|.z .mvS<|.z (.len T.el44)<|.z .mvI<|.z .lss<|.nil<|.cdr (fun C1=>?_) (fun C1=>?_)
 ·
  have hml:=hmt.len;obtain ⟨f,hff⟩:∃f,w.pgs.length+1-pl.length=f+1:=⟨w.pgs.length-pl.length,by omega⟩;rw [hff] at hg;refine .exit<|hK0 _ _<|.seq<|.s<|.z .mvI<|.z .neq<|.z .mvB<|.sd (fun G93=>?_) (fun G93=>?_)
  ·
   refine .z .mvI<|.z .gtr<|.z .pkt<|.nil<|.cd (fun C6=>?_) (fun C6=>?_)
   ·
    refine .s<|.z .asS<|.z .asS<|.z .asI<|.nil<|.ret ⟨.tuple #[.slice none 0 0,.slice none 0 0,.int .i64 14],Res.three rfl rfl rfl rfl,⟨none,0,none,0,by rw [chD_end hbad hg (by omega) (by omega)]<;>rfl,by rw [chD_end hbad hg (by omega) (by omega)];exact ((ok.k0.tR.nilC (k:=1) (e:=5)).nilC (k:=1) (e:=3))⟩⟩
   refine .skip<|.s<|.z .mvS<|.z .mvS<|.z .asS<|.z .asS<|.z .asI<|.nil<|.ret ⟨.tuple #[.slice a11 pl.length c11,.slice a12 ol.length c12,.int .i64 0],Res.three rfl rfl rfl rfl,⟨a11,c11,a12,c12,by rw [chD_ok hbad hg (by first | exact hz0 (by omega) | omega) (by omega)],by rw [chD_ok hbad hg (by first | exact hz0 (by omega) | omega) (by omega)];exact (ok).k2.tR⟩⟩
  refine .y<|.y<|.z .pkf<|.nil<|.cf<|.skip<|.s<|.z .mvS<|.z .mvS<|.z .asS<|.z .asS<|.z .asI<|.nil<|.ret ⟨.tuple #[.slice a11 pl.length c11,.slice a12 ol.length c12,.int .i64 0],Res.three rfl rfl rfl rfl,⟨a11,c11,a12,c12,by rw [chD_ok hbad hg (by first | exact hz0 (by omega) | omega) (by omega)],by rw [chD_ok hbad hg (by first | exact hz0 (by omega) | omega) (by omega)];exact (ok).k2.tR⟩⟩
 have hml:=hmt.len;obtain ⟨f,hff⟩:∃f,w.pgs.length+1-pl.length=f+1:=⟨w.pgs.length-pl.length,by omega⟩;rw [hff] at hg;refine .skip<|.block fun K1 hK1=>.seq<|.s<|.z .mvI<|.z .lss<|.z .mvB<|.sd (fun G39=>?_) (fun G39=>?_)
 ·
  refine .y<|.y<|.y<|.y<|.z .pkt<|.nil<|.ct<|.s<|.z .asS<|.z .asS<|.z .asI<|.nil<|.ret ⟨.tuple #[.slice none 0 0,.slice none 0 0,.int .i64 14],Res.three rfl rfl rfl rfl,⟨none,0,none,0,by rw [chD_bad hbad hg (by first | exact .inl (by omega) | exact .inr (.inl (by omega))) (by omega)]<;>rfl,by rw [chD_bad hbad hg (by first | exact .inl (by omega) | exact .inr (.inl (by omega))) (by omega)];exact ((ok.k0.tR.nilC (k:=1) (e:=5)).nilC (k:=1) (e:=3))⟩⟩
 refine .z .mvI<|.z .mvS<|.z (.len T.el28)<|.z .gtr<|.z .pkf<|.nil<|.cd (fun C2=>?_) (fun C2=>?_)
 ·
  refine .s<|.z .asS<|.z .asS<|.z .asI<|.nil<|.ret ⟨.tuple #[.slice none 0 0,.slice none 0 0,.int .i64 14],Res.three rfl rfl rfl rfl,⟨none,0,none,0,by rw [chD_bad hbad hg (by first | exact .inl (by omega) | exact .inr (.inl (by omega))) (by omega)]<;>rfl,by rw [chD_bad hbad hg (by first | exact .inl (by omega) | exact .inr (.inl (by omega))) (by omega)];exact ((ok.k0.tR.nilC (k:=1) (e:=5)).nilC (k:=1) (e:=3))⟩⟩
 refine .skip<|.seq<|.s<|.z .asI<|.nil<|.block fun K2 hK2=>.loop (fun m s hh=>∃(i:Nat),Has s [(0,.slice a w.pgs.length c),(1,.int .i64 (w.z:Int)),(3,.int .i64 (nn:Int)),(11,.slice a11 pl.length c11),(12,.slice a12 ol.length c12),(13,.int .i64 no),(14,.int .i64 (i:Int))]∧Hp h none_ [capI 1 3 (a11,pl.length,c11) (pl.map iv),capI 1 5 (a12,ol.length,c12) (ol.map bv)] [rdI (fun j=>F j∧j<h.size) (fun j=>E j∧j<h.size) (a,w.pgs.length,c) w.pgs] hh∧i≤pl.length∧no∉pl.take i∧m=pl.length-i) ?_ ?_
 ·exact ⟨_,0,⟨rfl,rfl,rfl,rfl,rfl,rfl,rfl,trivial⟩,ok.n1.n1,Nat.zero_le _,by simp,rfl⟩
 rintro _ _ η2 ⟨i,hs,ok,hi,hn,rfl⟩ J1 hJ1;refine .frame hs fun τ=>?_;refine .seq<|.s<|.z .mvI<|.z .mvS<|.z (.len T.el24)<|.z .lss<|.nil<|.cdr (fun C3=>?_) (fun C3=>?_)
 ·
  refine .exit<|hK2 _ _<|.seq<|?_;have hnm:no∉pl:=by rwa [List.take_of_length_le (by omega)] at hn
  obtain ⟨pq,rfl⟩:∃pq:Nat,no=(pq:Int)+1:=⟨(no-1).toNat,by omega⟩;have hpq:pq<w.pgs.length:=by omega
  have hgd:w.pgs.getD ((pq:Int)+1-1).toNat []=w.pgs[pq]:=by rw [show ((pq:Int)+1-1).toNat=pq by omega,List.getD_eq_getElem?_getD,List.getElem?_eq_getElem hpq];rfl
  have hbl:(w.pgs[pq]).length=w.z:=(St.pgk k).len _ (List.getElem_mem hpq);refine .r<|.z .mvS<|.z .mvI<|.a' 59 (.lit [.tmp 58] (cs:=[.int .i64 ((pq:Int)+1)]) T.el24 T.sz3 T.zr3 ok ⟨rfl,trivial⟩) ?_;rintro _ η3 ⟨pb1,rfl,ok,xe⟩;refine .a' 60 (.app (news:=[.int .i64 ((pq:Int)+1)]) T.el24 T.sz3 T.by3 T.zr3 ok.n1 (ok.n1.m1).sl (oneL rfl) (by simp only [List.length_map,List.length_cons,List.length_nil];omega)) ?_;rintro _ η4 ⟨ya1,yn1,yc1,rfl,ok,ap⟩;have ok:=ok.cx (ys:=(pl++[(pq:Int)+1]).map iv) snocI;obtain rfl:yn1=(pl++[(pq:Int)+1]).length:=ok.lenI2;refine .z .asS<|.nil<|.s<|.z .mvS<|.z .mvI<|.z .sub<|?_;obtain ⟨bb1,oo1,rfl,fb1⟩:=ok.r0.pos (by omega);refine .z (.ix1 pq T.el28 T.sz44 (hi:=by omega))<|?_;obtain ⟨ya2,yc2,he1,hr1⟩:=ok.r0.row (i:=pq) (by omega);have ok:=ok.d0 (rdI (fun j=>E j∧j<h.size) (fun j=>E j∧j<h.size) (ya2,w.pgs[pq].length,yc2) (w.pgs[pq])) hr1 (fun _ h=>.inr (h.elim id id));refine .z (.ld T.ag44 he1)<|.z .asS<|.nil<|.seq<|.s<|.z .asI<|.nil<|.block fun K4 hK4=>.loop (fun m s hh=>∃(kk:Nat) (o2:List UInt8) (b12:Option Addr) (d12:Nat),Has s [(0,.slice (some ⟨bb1,oo1,none⟩) w.pgs.length c),(1,.int .i64 (w.z:Int)),(3,.int .i64 (nn:Int)),(11,.slice ya1 ((pl++[(pq:Int)+1]).length) yc1),(12,.slice b12 o2.length d12),(15,.slice ya2 (w.pgs[pq].length) yc2),(16,.int .i64 ((4+kk:Nat):Int))]∧Hp h none_ [capI 1 3 (ya1,(pl++[(pq:Int)+1]).length,yc1) ((pl++[(pq:Int)+1]).map iv),capI 1 5 (b12,o2.length,d12) (o2.map bv)] [rdI (fun j=>E j∧j<h.size) (fun j=>E j∧j<h.size) (ya2,w.pgs[pq].length,yc2) (w.pgs[pq]),rdI (fun j=>F j∧j<h.size) (fun j=>E j∧j<h.size) (some ⟨bb1,oo1,none⟩,w.pgs.length,c) w.pgs] hh∧kk≤w.z-4∧o2.length=ol.length+kk∧ol.length+kk≤nn∧o2=ol++((w.pgs[pq]).drop 4).take kk∧m=w.z-kk) ?_ ?_
  ·exact ⟨_,0,ol,a12,c12,⟨rfl,rfl,rfl,rfl,rfl,rfl,rfl,trivial⟩,(ok.n2.n1).k2,Nat.zero_le _,rfl,by omega,by simp,rfl⟩
  rintro _ _ η5 ⟨kk,o2,b12,d12,hs,ok,hk1,hk2,hk3,ho2,rfl⟩ J2 hJ2;refine .frame hs fun τ=>?_;refine .seq<|.s<|.z .mvI<|.z .mvI<|.z .lss<|.z .mvB<|.sd (fun G69=>?_) (fun G69=>?_)
  ·
   refine .z .mvS<|.z (.len T.el44)<|.z .mvI<|.z .lss<|.z .pkt<|.nil<|.cdr (fun C5=>?_) (fun C5=>?_)
   ·
    refine .exit<|hK4 _ _<|.seq<|?_;have hr4:=rdN_lt4 w.pgs[pq] 0;have hkk:kk=chK nn ol (w.pgs[pq]):=by unfold chK;omega
    refine .r<|.z .mvS<|.k 86 .func (rread_any (p:=0) (size:=4) (a:=ya2) (c:=yc2) (l:=w.pgs[pq]) ok.r0 (by omega) (by omega) (by omega))<|.z .mvU<|.z .ex<|.z .ex<|.z .asI<|.z .asI<|.nil<|.r<|.z .mvI<|.z (.cvi T.in3 T.in130 (ha:=by omega))<|.z .asI<|.nil<|.end<|hK1 _ _<|.end<|hJ0 _ _ _ ⟨((rdN (w.pgs[pq]) 0 4:Nat):Int),pl++[(pq:Int)+1],o2,ya1,b12,yc1,d12,⟨rfl,rfl,rfl,rfl,rfl,rfl,trivial⟩,(ok).k2.tR,by rw [ho2,hkk,show w.pgs.length+1-(pl++[(pq:Int)+1]).length=f by simp;omega];exact chD_go hg hgd (by omega) (by omega) hnm hpl (by omega) (by omega),hmt.snoc (decide_eq_true ⟨by omega,by omega,hnm⟩),by simp;omega,by omega,fun h=>by omega,rfl⟩ (by simp;omega)
   refine .skip<|.seq<|.block fun K5 hK5=>.r<|.z .mvS<|.z .mvS<|.z .mvI<|?_;obtain ⟨bb2,oo2,rfl,fb2⟩:=ok.r0.pos (by omega);refine .z (.ix1 (4+kk) T.el44 T.sz5 (hi:=by omega))<|.z (.ld T.ag5 (ok.r0.u8 (i:=(4+kk)) (by omega)))<|.a' 82 (.lit [.tmp 81] (cs:=[.int .u8 ((w.pgs[pq])[(4+kk)].toNat:Int)]) T.el44 T.sz5 T.zr5 ok ⟨rfl,trivial⟩) ?_;rintro _ η6 ⟨pb2,rfl,ok,xe⟩;have ok:=ok.cx (ys:=([(w.pgs[pq])[(4+kk)]]:List UInt8).map bv) rfl;refine .a' 83 (.app (news:=([(w.pgs[pq])[(4+kk)]]:List UInt8).map bv) T.el44 T.sz5 T.by5 T.zr5 ok.n2 (ok.n2.m1).sl (oneL rfl) (by simp only [List.length_map,List.length_append,List.length_take,List.length_cons,List.length_nil,List.length_replicate,List.length_range,fixedN_len,sealN_len];omega)) ?_;rintro _ η7 ⟨ya3,yn2,yc3,rfl,ok,ap⟩;have ok:=ok.cx (ys:=(o2++([(w.pgs[pq])[(4+kk)]]:List UInt8)).map bv) (by simp [bv]);obtain rfl:yn2=(o2++([(w.pgs[pq])[(4+kk)]]:List UInt8)).length:=ok.lenB;refine .z .asS<|.nil<|.end<|hK5 _ _<|.r<|.z .mvI<|.z (.addI (b:=1))<|.z .asI<|.nil<|.end<|hJ2 _ _ _ ⟨kk+1,o2++([(w.pgs[pq])[(4+kk)]]:List UInt8),ya3,yc3,⟨rfl,rfl,rfl,rfl,rfl,rfl,rfl,trivial⟩,(ok.n2).k2,by omega,by rw [List.length_append];simp;omega,by omega,by rw [tk_step (by omega),←List.append_assoc,←ho2],rfl⟩ (by omega)
  refine .y<|.y<|.y<|.y<|.z .pkf<|.nil<|.cf<|.exit<|hK4 _ _<|.seq<|?_;have hr4:=rdN_lt4 w.pgs[pq] 0;have hkk:kk=chK nn ol (w.pgs[pq]):=by unfold chK;omega
  refine .r<|.z .mvS<|.k 86 .func (rread_any (p:=0) (size:=4) (a:=ya2) (c:=yc2) (l:=w.pgs[pq]) ok.r0 (by omega) (by omega) (by omega))<|.z .mvU<|.z .ex<|.z .ex<|.z .asI<|.z .asI<|.nil<|.r<|.z .mvI<|.z (.cvi T.in3 T.in130 (ha:=by omega))<|.z .asI<|.nil<|.end<|hK1 _ _<|.end<|hJ0 _ _ _ ⟨((rdN (w.pgs[pq]) 0 4:Nat):Int),pl++[(pq:Int)+1],o2,ya1,b12,yc1,d12,⟨rfl,rfl,rfl,rfl,rfl,rfl,trivial⟩,(ok).k2.tR,by rw [ho2,hkk,show w.pgs.length+1-(pl++[(pq:Int)+1]).length=f by simp;omega];exact chD_go hg hgd (by omega) (by omega) hnm hpl (by omega) (by omega),hmt.snoc (decide_eq_true ⟨by omega,by omega,hnm⟩),by simp;omega,by omega,fun h=>by omega,rfl⟩ (by simp;omega)
 have hil:i<pl.length:=by omega
 refine .skip<|.seq<|.block fun K3 hK3=>.s<|.z .mvS<|.z .mvI<|?_;obtain ⟨bb3,oo3,rfl,fb3⟩:=ok.m0.pos (n:=pl.length) (by omega);refine .z (.ix1 i T.el24 T.sz3 (hi:=by omega))<|.z (.ld T.ag3 (Cap.i64 (l:=pl) ok.m0 (i:=i) (by omega)))<|.z .mvI<|.z .eql<|.nil<|.cd (fun C4=>?_) (fun C4=>?_)
 ·
  refine .s<|.z .asS<|.z .asS<|.z .asI<|.nil<|.ret ⟨.tuple #[.slice none 0 0,.slice none 0 0,.int .i64 14],Res.three rfl rfl rfl rfl,⟨none,0,none,0,by rw [chD_bad hbad hg (.inr (.inr (by rw [←C4];exact List.getElem_mem hil))) (by omega)]<;>rfl,by rw [chD_bad hbad hg (.inr (.inr (by rw [←C4];exact List.getElem_mem hil))) (by omega)];exact ((ok.k0.tR.nilC (k:=1) (e:=5)).nilC (k:=1) (e:=3))⟩⟩
 refine .skip<|.end<|hK3 _ _<|.r<|.z .mvI<|.z (.addI (b:=1))<|.z .asI<|.nil<|.end<|hJ1 _ _ _ ⟨i+1,⟨rfl,rfl,rfl,rfl,rfl,rfl,rfl,trivial⟩,ok.n1.n1,by omega,any_step (by omega) hn C4,rfl⟩ (by omega)
theorem pages17_any {G:Pgr} {h:Heap} {so:Nat} {F:Nat→Prop} {w:St} (ok:Hp h F [dsI G so F w] [] h) (hw:w.pgs.length≤5000):HC Tryz.prog 31 #[.pointer (some ⟨so,0,none⟩)] h (fun v h'=>∃F' E a c,v=.slice a w.pgs.length c∧Hp h F [dsI G so F' w] [rdI E E (a,w.pgs.length,c) w.pgs] h'∧∀j,E j∨E j→F j∨h.size≤j):=by
 refine HC.go Tryz.func31 38 ?_;refine .s<|.z .asS<|.nil<|.s<|.z .asS<|.nil<|.seq<|.seq<|?_;have ok:=ok.nilC (k:=1) (e:=44);have ok:=ok.pbyNil;refine .r<|.z .asI<|.nil<|.block fun K0 hK0=>.loop (fun m s hh=>∃(kp:Nat) (ol:List RB) (a3:Option Addr) (c3:Nat) (Eo Fp:Nat→Prop),Has s [(0,.pointer (some ⟨so,0,none⟩)),(3,.slice a3 ol.length c3),(4,.int .i64 ((kp:Int)+1))]∧Hp h F [capI 1 44 (a3,ol.length,c3) (ol.flatMap RB.cells),dsI G so Fp w] [pbyI Eo ol] hh∧kp≤w.pgs.length∧ol.length=kp∧pgs ol=w.pgs.take kp∧(∀j,Eo j→F j∨h.size≤j)∧m=w.pgs.length-kp) ?_ ?_
 ·exact ⟨_,0,[],none,0,none_,F,⟨rfl,rfl,rfl,trivial⟩,(ok).k2,by omega,rfl,rfl,fun j f=>f.elim,rfl⟩
 rintro _ _ η1 ⟨kp,ol,a3,c3,Eo,Fp,hs,ok,hk1,hol,hpo,hEo,rfl⟩ J0 hJ0;refine .frame hs fun τ=>?_;refine .seq<|.s<|.z .mvI<|.z .mvP<|.c' 9 .func (sHead_any (G:=G) (w:=w) (ok.n1).loc0) ?_;rintro _ η2 ⟨Fh1,rfl,q⟩;have ok:=(ok.n1).lift1 q;rw [show w.head.val=.agg #[.int .i64 w.head.size,.int .i64 (w.pgs.length:Int),.int .i64 w.head.free,.int .i64 w.head.many,.int .i64 w.head.cookie,.int .i64 w.head.version] from (by rw [←St.head_pages];rfl)];refine .z (.fd T.fd38_1 T.ag3)<|.z .leq<|.z .mvB<|.sd (fun G12=>?_) (fun G12=>?_)
 ·
  refine .z .mvI<|.z .leq<|.z .pkt<|.nil<|.cdr (fun C0=>?_) (fun C0=>?_)
  ·
   refine .exit<|hK0 _ _<|.s<|.z .mvS<|.z .asS<|.nil<|.ret ⟨.slice a3 ol.length c3,Res.one rfl rfl,⟨Fh1,_,a3,c3,(by rw [show ol.length=w.pgs.length by omega]),(by have q:=Hp.pgRows (ok.n1) (hpo.trans (pg_all5 hk1 (by omega)));rw [show ol.length=w.pgs.length by omega] at q;exact q),(fun j hj=>by rcases or_self_iff.1 hj with h1 | h1;exact (ok.n1).ownE j (by rw [show ol.length=w.pgs.length by omega];exact h1);exact hEo j h1)⟩⟩
  refine .skip<|.seq<|.block fun K1 hK1=>.seq<|?_;have hkl:kp<w.pgs.length:=by omega
  refine .r<|.z .mvP<|.z .mvI<|.c' 21 .func (sReadOk_any (G:=G) (w:=w) (no:=((kp:Int)+1)) (b:=(w.pgs.getD kp [])) (ok).loc0 (by omega) (by omega) (by congr 1;omega)) ?_;rintro _ η3 ⟨Fr1,xr1,cr1,rfl,hlr1,q⟩;have ok:=(ok).lift2 q;refine .z .mvU<|.z .ex<|.z .ex<|.z .asS<|.z .asI<|.nil<|.seq<|.s<|.z .mvI<|.z .neq<|.z .mvB<|.z .mvS<|.z (.len T.el44)<|.z .mvP<|.k 30 .func (sSize_any (G:=G) (F:=Fr1) (w:=w) ok.m1)<|.z .neq<|.z .pkf<|.nil<|.cd (fun C1=>?_) (fun C1=>?_)
  ·
   exact absurd (by rw [hlr1]) C1
  refine .skip<|.r<|.z .mvS<|.z .mvS<|.a' 35 (.lit [.tmp 34] (cs:=[.slice xr1 ((w.pgs.getD kp []).length) cr1]) T.el28 T.sz44 T.zr44 ok ⟨rfl,trivial⟩) ?_;rintro _ η4 ⟨pb1,rfl,ok,xe⟩;refine .a' 36 (.app (news:=[.slice xr1 ((w.pgs.getD kp []).length) cr1]) T.el28 T.sz44 T.by44 T.zr44 ok.n3 (ok.n3.m1).sl (oneL rfl) (by rw [flat_len RB.cells_len];simp only [List.length_cons,List.length_nil];omega)) ?_;rintro _ η5 ⟨ya1,yn1,yc1,rfl,ok,ap⟩;have ok:=(ok).cx (ys:=(ol++[(⟨xr1,cr1,(w.pgs.getD kp [])⟩:RB)]).flatMap RB.cells) (by simp [RB.cells]);obtain rfl:yn1=(ol++[(⟨xr1,cr1,(w.pgs.getD kp [])⟩:RB)]).length:=(Sl.sz (Cap.sl ok.m0) RB.cells_len (by decide)).1.symm;have hfr:=(ok.n2).ownE;have ok:=Hp.pbyPut (ok.n2);refine .z .asS<|.nil<|.end<|hK1 _ _<|.r<|.z .mvI<|.z .add<|.z .asI<|.nil<|.end<|hJ0 _ _ _ ⟨kp+1,ol++[(⟨xr1,cr1,(w.pgs.getD kp [])⟩:RB)],ya1,yc1,(fun j=>Eo j∨blkC (sv (xr1,((w.pgs.getD kp [])).length,cr1)) j),Fr1,⟨rfl,rfl,rfl,trivial⟩,(ok.n2.n1).k2,by omega,by simp [hol],pg_step5 hpo hkl rfl,(fun j h=>h.elim (hEo j) (hfr j)),rfl⟩ (by omega)
 refine .y<|.y<|.z .pkf<|.nil<|.cf<|.exit<|hK0 _ _<|.s<|.z .mvS<|.z .asS<|.nil<|.ret ⟨.slice a3 ol.length c3,Res.one rfl rfl,⟨Fh1,_,a3,c3,(by rw [show ol.length=w.pgs.length by omega]),(by have q:=Hp.pgRows (ok.n1) (hpo.trans (pg_all5 hk1 (by omega)));rw [show ol.length=w.pgs.length by omega] at q;exact q),(fun j hj=>by rcases or_self_iff.1 hj with h1 | h1;exact (ok.n1).ownE j (by rw [show ol.length=w.pgs.length by omega];exact h1);exact hEo j h1)⟩⟩
open Go Go.HL
theorem many17_any {h:Heap} {n z:Nat} (hz:5≤z) (hb:n≤1000000000∧z≤1000000000) :
  HC Tryz.prog 119 #[.int .i64 (n:Int),.int .i64 (z:Int)] h (fun v h'=>v=.int .i64 (((n+z-5) / (z-4):Nat):Int)∧h'=h):=by
 have hzz:((z:Int)-4)=((z-4:Nat):Int):=by omega
 have hnn:(((n:Int)+(z:Int))-5)=((n+z-5:Nat):Int):=by omega
 have hq:(n+z-5) / (z-4)≤n+z-5:=Nat.div_le_self _ _;refine HC.go Tryz.func119 12 ?_;refine .s<|.z .asI<|.nil<|.s<|.z .mvI<|.z .mvI<|.z .addI<|.z .sub<|?_;rw [show (((n+z:Nat):Int)-5)=((n+z-5:Nat):Int) from by omega];refine .z .mvI<|.z .sub<|?_;rw [show ((z:Int)-4)=((z-4:Nat):Int) from by omega];refine .z (.quoI (a:=(n+z-5)) (b:=(z-4)))<|.z .asI<|.nil<|.ret ⟨.int .i64 (((n+z-5) / (z-4):Nat):Int),Res.one rfl rfl,⟨rfl,rfl⟩⟩
theorem taken17_any {G G2:Pgr} {h:Heap} {so to many:Nat} {F F2 D:Nat→Prop} {w w2:St} {Q Q':Trk} {pl:List Int} {bl:List UInt8} {first:Int} (ok:Hp h D [dsI G so F w,dsI G2 to F2 w2] [] h) (e:chF w first (many:Int)=(pl,bl,0)) (h1:i64N first) (h2:i64N (many:Int)) (f:FrS w Q') (f2:FrS w2 Q) (hz:w2.z=w.z) (e2:tkL pl.length w2.now.length Q=(pl,Q',w.now.length)) (hm:(w2.now.length+pl.length)*w.z≤16777216) :
  HC Tryz.prog 58 #[.pointer (some ⟨so,0,none⟩),.pointer (some ⟨to,0,none⟩),.int .i64 first,.int .i64 (many:Int)] h (fun v h'=>∃F' F2' w2',v=.bool true∧FrS w2' Q'∧w2'.z=w.z∧w2'.now.length=w.now.length∧Hp h D [dsI G so F' w,dsI G2 to F2' w2'] [] h'):=by
 have hzc:=f.zc;have hpb:pl.length≤16777216:=Nat.le_trans (Nat.le_trans (Nat.le_add_left _ _) (Nat.le_mul_of_pos_right _ (by omega))) hm;refine HC.go Tryz.func58 49 ?_;refine .s<|.z .asB<|.nil<|.s<|.z .mvP<|.z .mvI<|.z .mvI<|.c' 18 .func (spPagesE (G:=G) (w:=w) (first:=first) (n:=(many:Int)) (ok).loc0 h1 h2 e) ?_;rintro _ η1 ⟨Fg1,xg1,cg1,rfl,q⟩;have ok:=(ok).lift2 q;refine .z .mvU<|.z .ex<|.z .ex<|.z .asS<|.z .asI<|.nil<|.seq<|.s<|.z .mvI<|.z .neq<|.nil<|.cf<|.skip<|.seq<|.s<|.z .asI<|.nil<|.block fun K0 hK0=>.loop (fun m s hh=>∃(i:Nat) (w':St) (Q1:Trk) (Fw:Nat→Prop),Has s [(0,.pointer (some ⟨so,0,none⟩)),(1,.pointer (some ⟨to,0,none⟩)),(9,.slice xg1 pl.length cg1),(11,.int .i64 (i:Int))]∧Hp h D [dsI G so Fg1 w,dsI G2 to Fw w',capI 1 3 (xg1,pl.length,cg1) (pl.map iv)] [] hh∧i≤pl.length∧FrS w' Q1∧w'.z=w.z∧tkL (pl.length-i) w'.now.length Q1=(pl.drop i,Q',w.now.length)∧w'.now.length≤w2.now.length+i∧m=pl.length-i) ?_ ?_
 ·exact ⟨_,0,w2,Q,F2,⟨rfl,rfl,rfl,rfl,trivial⟩,(ok.n2.n2).k3,Nat.zero_le _,f2,hz,by simpa using e2,by omega,rfl⟩
 rintro _ _ η2 ⟨i,w',Q1,Fw,hs,ok,hi,hf,hwz,hwl,hwn,rfl⟩ J0 hJ0;refine .frame hs fun τ=>?_;refine .seq<|.s<|.z .mvI<|.z .mvS<|.z (.len T.el24)<|.z .lss<|.nil<|.cdr (fun C1=>?_) (fun C1=>?_)
 ·
  refine .exit<|hK0 _ _<|.seq<|?_;rw [show pl.length-i=0 by omega] at hwl;injection hwl with _ hwl;injection hwl with hTT hN;subst hTT;have hhd:=heads f hf hwz hN;refine .r<|.z .mvP<|.c' 45 .func (sHead_any (G:=G) (w:=w) (ok).loc0) ?_;rintro _ η3 ⟨Fh1,rfl,q⟩;have ok:=(ok).lift1 q;rw [show w.head.val=.agg #[.int .i64 w.head.size,.int .i64 w.head.pages,.int .i64 w.head.free,.int .i64 w.head.many,.int .i64 w.head.cookie,.int .i64 w.head.version] from rfl];refine .z .mvP<|.c' 47 .func (sHead_any (G:=G2) (w:=w') (ok.n1).loc0) ?_;rintro _ η4 ⟨Fh2,rfl,q⟩;have ok:=(ok.n1).lift1 q;rw [show w'.head.val=.agg #[.int .i64 w'.head.size,.int .i64 w'.head.pages,.int .i64 w'.head.free,.int .i64 w'.head.many,.int .i64 w'.head.cookie,.int .i64 w'.head.version] from rfl];refine .z (.stE (k:=.i64) [w.head.size,w.head.pages,w.head.free,w.head.many,w.head.cookie,w.head.version] [w'.head.size,w'.head.pages,w'.head.free,w'.head.many,w'.head.cookie,w'.head.version] T.ste38 T.in3 T.ag3 T.stg38 T.stp38)<|.z .asB<|.nil<|.ret ⟨.bool (decide (([w.head.size,w.head.pages,w.head.free,w.head.many,w.head.cookie,w.head.version]:List Int)=[w'.head.size,w'.head.pages,w'.head.free,w'.head.many,w'.head.cookie,w'.head.version])),Res.one rfl rfl,⟨Fh1,Fh2,w',(by rw [decide_eq_true (by rw [hhd])]),hf,hwz,hN,(ok.n1).k2⟩⟩
 refine .skip<|.seq<|.block fun K1 hK1=>.s<|.z .mvP<|?_;have hil:i<pl.length:=by omega
 obtain ⟨w3,Q3,g3,hf3,hwz3,hwl3,hwn3⟩:=tkL_step hf hil hwl hwn (by rw [hwz];exact hm);refine .c' 31 .func (ansT (ci:=0) (ftake_any (G:=G2) (w:=w') (ok.n1).loc0) g3 rfl) ?_;rintro _ η5 ⟨Ft1,rfl,q⟩;have ok:=(ok.n1).lift1 q;refine .z .mvU<|.z .ex<|.z .ex<|.z .asI<|.z .asI<|.nil<|.s<|.z .mvI<|.z .neq<|.z .mvB<|.z .mvI<|.z .mvS<|.z .mvI<|?_;obtain ⟨bb1,oo1,rfl,fb1⟩:=ok.m2.pos (n:=pl.length) (by omega);refine .z (.ix1 i T.el24 T.sz3 (hi:=by omega))<|.z (.ld T.ag3 (Cap.i64 (l:=pl) ok.m2 (i:=i) (by omega)))<|.z .neq<|.z .pkf<|.nil<|.cd (fun C2=>?_) (fun C2=>?_)
 ·
  exact absurd rfl C2
 refine .skip<|.end<|hK1 _ _<|.r<|.z .mvI<|.z (.addI (b:=1))<|.z .asI<|.nil<|.end<|hJ0 _ _ _ ⟨i+1,w3,Q3,Ft1,⟨rfl,rfl,rfl,rfl,trivial⟩,(ok.n2.n1.n2).k3,by omega,hf3,hwz3.trans hwz,hwl3,hwn3,rfl⟩ (by omega)
theorem given17_any {G G2:Pgr} {h:Heap} {so to c:Nat} {F F2 D:Nat→Prop} {a:Option Addr} {w w2:St} {Q Q':Trk} {l:List Int} (ok:Hp h D [dsI G so F w,dsI G2 to F2 w2,capI 1 3 (a,l.length,c) (l.map iv)] [] h) (hTT:Q'=gvL ((w.z-8) / 4) l Q) (f:FrS w Q') (f2:FrS w2 Q) (hz:w2.z=w.z) (hn:w2.now.length=w.now.length) (hnd:l.Nodup) (hr:∀k∈l,2≤k∧k≤(w.now.length:Int)∧k∉flatT Q) :
  HC Tryz.prog 60 #[.pointer (some ⟨so,0,none⟩),.pointer (some ⟨to,0,none⟩),.slice a l.length c] h (fun v h'=>∃F' F2' w2',v=.bool true∧FrS w2' Q'∧w2'.z=w.z∧w2'.now.length=w.now.length∧Hp h D [dsI G so F' w,dsI G2 to F2' w2'] [] h'):=by
 have hlm:c≤9223372036854775807:=Cap.bd ok.m2;have hlc:l.length≤c:=Cap.le ok.m2;refine HC.go Tryz.func60 53 ?_;refine .s<|.z .asB<|.nil<|.seq<|.s<|.z .asI<|.nil<|.block fun K0 hK0=>.loop (fun m s hh=>∃(i:Nat) (w':St) (Fw:Nat→Prop),Has s [(0,.pointer (some ⟨so,0,none⟩)),(1,.pointer (some ⟨to,0,none⟩)),(2,.slice a l.length c),(7,.int .i64 (i:Int))]∧Hp h D [dsI G so F w,dsI G2 to Fw w',capI 1 3 (a,l.length,c) (l.map iv)] [] hh∧i≤l.length∧FrS w' (gvL ((w'.z-8) / 4) (l.take i) Q)∧w'.z=w.z∧w'.now.length=w.now.length∧m=l.length-i) ?_ ?_
 ·exact ⟨_,0,w2,F2,⟨rfl,rfl,rfl,rfl,trivial⟩,(ok).k3,Nat.zero_le _,f2,hz,hn,rfl⟩
 rintro _ _ η1 ⟨i,w',Fw,hs,ok,hi,hf,hwz,hwn,rfl⟩ J0 hJ0;refine .frame hs fun τ=>?_;refine .seq<|.s<|.z .mvI<|.z .mvS<|.z (.len T.el24)<|.z .lss<|.nil<|.cdr (fun C0=>?_) (fun C0=>?_)
 ·
  refine .exit<|hK0 _ _<|.seq<|?_;rw [List.take_of_length_le (by omega),hwz,←hTT] at hf;have hhd:=heads f hf hwz hwn;refine .r<|.z .mvP<|.c' 27 .func (flistS (G:=G) (w:=w) (l:=(flatT Q')) (ok).loc0 f.all) ?_;rintro _ η2 ⟨Fl1,xl1,cl1,Sl1,hpl1,hsl1,rfl,q⟩;have ok:=(ok).lift2 q;refine .z .mvU<|.z .ex<|.z .ex<|.z .asS<|.z .asI<|.nil<|.s<|.z .mvP<|.c' 32 .func (flistS (G:=G2) (w:=w') (l:=(flatT Q')) (ok.n2).loc0 hf.all) ?_;rintro _ η3 ⟨Fl2,xl2,cl2,Sl2,hpl2,hsl2,rfl,q⟩;have ok:=(ok.n2).lift2 q;refine .z .mvU<|.z .ex<|.z .ex<|.z .asS<|.z .asI<|.nil ?_;have hss:Sl2=Sl1:=perm_srt (hpl2.trans hpl1.symm) hsl2 hsl1;refine .s<|.z .mvI<|.z .eql<|.z .mvB<|.z .mvI<|.z .eql<|.z .pkt<|.z .mvB<|.z .mvS<|.z .mvS<|.k 44 .func (same10_any (a:=xl1) (c:=cl1) (l:=Sl1) (b:=xl2) (d:=cl2) (l2:=Sl2) (RdL.ofInts (x:=(xl1,Sl1.length,cl1)) (E:=none_) (ok.m2).sl) (RdL.ofInts (x:=(xl2,Sl2.length,cl2)) (E:=none_) (ok.m0).sl))<|.z .pkt<|.z .mvB<|.sd (fun G46=>?_) (fun G46=>?_)
  ·
   refine .z .mvP<|.c' 48 .func (sHead_any (G:=G) (w:=w) (ok.n3).loc0) ?_;rintro _ η4 ⟨Fh1,rfl,q⟩;have ok:=(ok.n3).lift1 q;rw [show w.head.val=.agg #[.int .i64 w.head.size,.int .i64 w.head.pages,.int .i64 w.head.free,.int .i64 w.head.many,.int .i64 w.head.cookie,.int .i64 w.head.version] from rfl];refine .z .mvP<|.c' 50 .func (sHead_any (G:=G2) (w:=w') (ok.n2).loc0) ?_;rintro _ η5 ⟨Fh2,rfl,q⟩;have ok:=(ok.n2).lift1 q;rw [show w'.head.val=.agg #[.int .i64 w'.head.size,.int .i64 w'.head.pages,.int .i64 w'.head.free,.int .i64 w'.head.many,.int .i64 w'.head.cookie,.int .i64 w'.head.version] from rfl];refine .z (.stE (k:=.i64) [w.head.size,w.head.pages,w.head.free,w.head.many,w.head.cookie,w.head.version] [w'.head.size,w'.head.pages,w'.head.free,w'.head.many,w'.head.cookie,w'.head.version] T.ste38 T.in3 T.ag3 T.stg38 T.stp38)<|.z .pkt<|.z .asB<|.nil<|.ret ⟨.bool (decide (([w.head.size,w.head.pages,w.head.free,w.head.many,w.head.cookie,w.head.version]:List Int)=[w'.head.size,w'.head.pages,w'.head.free,w'.head.many,w'.head.cookie,w'.head.version])),Res.one rfl rfl,⟨Fh1,Fh2,w',(by rw [decide_eq_true (by rw [hhd])]),hf,hwz,hwn,(ok.n1).k2⟩⟩
  exact absurd hss.symm (by simpa using G46)
 refine .skip<|.seq<|.block fun K1 hK1=>.s<|.z .mvP<|.z .mvS<|.z .mvI<|?_;obtain ⟨bb1,oo1,rfl,fb1⟩:=ok.m2.pos (n:=l.length) (by omega);refine .z (.ix1 i T.el24 T.sz3 (hi:=by omega))<|.z (.ld T.ag3 (Cap.i64 (l:=l) ok.m2 (i:=i) (by omega)))<|?_;have hil:i<l.length:=by omega
 obtain ⟨w3,g3,hf3,hwz3,hwn3⟩:=gvL_step hf hil hnd (by rw [hwn];exact hr);have hli:=hr _ (List.getElem_mem hil);have hfew:=f.few;refine .c' 23 .func (ansE (ci:=0) (fgive_any (G:=G2) (w:=w') (no:=l[i]) (ok.n1).loc0 (by exact ⟨by omega,by omega⟩)) g3 rfl) ?_;rintro _ η6 ⟨Fv1,rfl,q⟩;have ok:=(ok.n1).lift1 q;refine .z .neq<|.nil<|.cf<|.skip<|.end<|hK1 _ _<|.r<|.z .mvI<|.z (.addI (b:=1))<|.z .asI<|.nil<|.end<|hJ0 _ _ _ ⟨i+1,w3,Fv1,⟨rfl,rfl,rfl,rfl,trivial⟩,(ok.n2.n1.n2).k3,by omega,by rw [hwz3];exact hf3,hwz3.trans hwz,hwn3.trans hwn,rfl⟩ (by omega)
theorem chain17E {h:Heap} {F E:Nat→Prop} {w:St} {a:Option Addr} {c:Nat} {first n:Int} {pl:List Int} {ol:List UInt8} {ci:Int} (k:StOk w) (hl:RdL h F E (a,w.pgs.length,c) w.pgs) (hf:i64N first) (hn:i64N n) (e:chF w first n=(pl,ol,ci)) :
  HC Tryz.prog 30 #[.slice a w.pgs.length c,.int .i64 (w.z:Int),.int .i64 first,.int .i64 n] h (fun v h'=>∃pa pc oa oc,v=.tuple #[.slice pa pl.length pc,.slice oa ol.length oc,.int .i64 ci]∧Hp h none_ [capI 1 3 (pa,pl.length,pc) (pl.map iv),capI 1 5 (oa,ol.length,oc) (ol.map bv)] [] h'):=by
 have q:=chain17_any k hl hf hn;rw [e] at q;exact q
theorem zeros64 (n:Nat):(List.range (n*1)).map ((Value.int .i64 0).cells[· % (Value.int .i64 0).cells.size]!)=(List.replicate n (0:Int)).map iv:=by
 rw [Nat.mul_one];apply List.ext_getElem (by simp);intro i h1 h2;simp only [List.getElem_map,List.getElem_replicate,List.getElem_range];show (#[Value.int .i64 0])[i%1]! = _;rw [Nat.mod_one];rfl
theorem ivs_all {l:List Int} : ∀u∈l.map iv,u.oneCell'=true:=fun u hu=>by obtain ⟨x,_,rfl⟩:=List.mem_map.1 hu;rfl
theorem ps_take {cs:List PuC} {i:Nat} (h:i<cs.length):(cs.take (i+1)).flatMap PuC.ps=(cs.take i).flatMap PuC.ps++cs[i].ps:=by rw [List.take_succ_eq_append_getElem h,List.flatMap_append];simp
theorem ps_le {cs:List PuC} {i:Nat} : ((cs.take i).flatMap PuC.ps).length≤(cs.flatMap PuC.ps).length:=by
 have:=congrArg (fun l=>(List.flatMap PuC.ps l).length) (List.take_append_drop i cs);simp only [List.flatMap_append,List.length_append] at this;omega
theorem whole17_any {G:Pgr} {h:Heap} {so c:Nat} {F D Eo:Nat→Prop} {a:Option Addr} {w:St} {fl:List Int} {cs:List PuC} {ol:List RB} (ok:Hp h D [dsI G so F w,capI 2 103 (a,cs.length,c) (cs.flatMap PuC.cells)] [pbyI Eo ol] h) (hol:∀x∈cs,x.r∈ol) (k:ChW w fl cs) (hw:w.pgs.length≤5000) (hcl2:cs.length≤1000) :
  HC Tryz.prog 61 #[.pointer (some ⟨so,0,none⟩),.slice a cs.length c] h (fun v h'=>∃F',v=.bool true∧Hp h D [dsI G so F' w,capI 2 103 (a,cs.length,c) (cs.flatMap PuC.cells)] [] h'):=by
 have hpgs:=hw;have hzc:=okSz_c (ds_ok ok.m0).z;have hlmc:=(Cap.sl ok.m1).cells.1;refine HC.go Tryz.func61 176 ?_;refine .s<|.z .asB<|.nil<|.s<|.z .mvP<|.c' 20 .func (pages17_any (G:=G) (w:=w) (ok).loc0 (by omega)) ?_;rintro _ η1 ⟨Fg1,Eg1,ag1,cg1,rfl,q,hEg1⟩;have ok:=Hp.liftE (ok) q hEg1;refine .z .asS<|.nil<|.s<|.z .mvP<|.c' 23 .func (flistS (G:=G) (w:=w) (l:=fl) (ok).loc0 k.all) ?_;rintro _ η2 ⟨Fl1,xl1,cl1,Sl1,hpl1,hsl1,rfl,q⟩;have ok:=(ok).lift2 q;refine .z .mvU<|.z .ex<|.z .ex<|.z .asS<|.z .asI<|.nil<|.seq<|.s<|.z .mvI<|.z .neq<|.nil<|.cf<|.skip<|.seq<|?_;have hll:=hpl1.length_eq;have hln:=k.ln;refine .r<|.a' 28 (.lit [] (cs:=[]) T.el24 T.sz3 T.zr3 ok trivial) ?_;rintro _ η3 ⟨pb1,rfl,ok,xe⟩;refine .z .mvS<|.a' 30 (.app (news:=Sl1.map iv) T.el24 T.sz3 T.by3 T.zr3 ok (ok.m1).sl ivs_all (by simp only [List.length_map,List.length_append,List.length_take,List.length_cons,List.length_nil,List.length_replicate,List.length_range,fixedN_len,sealN_len];omega)) ?_;rintro _ η4 ⟨ya1,yn1,yc1,rfl,ok,ap⟩;have ok:=(ok).cx (ys:=(Sl1++(cs.take 0).flatMap PuC.ps).map iv) (by simp);obtain rfl:yn1=(Sl1++(cs.take 0).flatMap PuC.ps).length:=ok.lenI;refine .z .asS<|.nil<|.seq<|.s<|.z .asI<|.nil<|.block fun K0 hK0=>.loop (fun m s hh=>∃(i:Nat) (a8:Option Addr) (c8:Nat) (Fs:Nat→Prop),Has s [(0,.pointer (some ⟨so,0,none⟩)),(1,.slice a cs.length c),(5,.slice ag1 w.pgs.length cg1),(8,.slice a8 ((Sl1++(cs.take i).flatMap PuC.ps).length) c8),(9,.int .i64 (i:Int))]∧Hp h D [capI 1 3 (a8,(Sl1++(cs.take i).flatMap PuC.ps).length,c8) ((Sl1++(cs.take i).flatMap PuC.ps).map iv),dsI G so Fs w,capI 2 103 (a,cs.length,c) (cs.flatMap PuC.cells)] [rdI Eg1 Eg1 (ag1,w.pgs.length,cg1) w.pgs,pbyI Eo ol] hh∧i≤cs.length∧m=cs.length-i) ?_ ?_
 ·exact ⟨_,0,ya1,yc1,Fl1,⟨rfl,rfl,rfl,rfl,rfl,trivial⟩,(ok.n3.n3.n2).k3.f1.f1,Nat.zero_le _,rfl⟩
 rintro _ _ η5 ⟨i,a8,c8,Fs,hs,ok,hi,rfl⟩ J0 hJ0;refine .frame hs fun τ=>?_;refine .seq<|.s<|.z .mvI<|.z .mvS<|.z (.len T.el96)<|.z .lss<|.nil<|.cdr (fun C1=>?_) (fun C1=>?_)
 ·
  refine .exit<|hK0 _ _<|.seq<|?_;have hfin:=List.take_of_length_le (show cs.length≤i by omega);obtain ⟨mt,hmt⟩:∃x,Sl1++(cs.take i).flatMap PuC.ps=x:=⟨_,rfl⟩;have hmp:mt.Perm (fl++cs.flatMap PuC.ps):=by rw [←hmt,hfin];exact hpl1.append_right _
  have hml:=hmp.length_eq;rw [List.length_append] at hml;rw [hmt] at ok;rw [hmt];refine .r<|.z .mvP<|.c' 128 .func (sHead_any (G:=G) (w:=w) (ok.n1).loc0) ?_;rintro _ η6 ⟨Fh1,rfl,q⟩;have ok:=(ok.n1).lift1 q;rw [show w.head.val=.agg #[.int .i64 w.head.size,.int .i64 (w.pgs.length:Int),.int .i64 w.head.free,.int .i64 w.head.many,.int .i64 w.head.cookie,.int .i64 w.head.version] from (by rw [←St.head_pages];rfl)];refine .z (.fd T.fd38_1 T.ag3)<|.z .add<|.a' 131 (.mks (w.pgs.length+1) (w.pgs.length+1) T.el24 T.sz3 T.by3 T.zr3 ok) ?_;rintro _ η7 ⟨pb2,rfl,ok,xe⟩;have ok:=ok.cx (ys:=(snN w.pgs.length []).map iv) (by rw [snN_0];exact zeros64 _);refine .z .asS<|.nil<|.seq<|.s<|.z .asI<|.nil<|.block fun K2 hK2=>.loop (fun m s hh=>∃(j:Nat),Has s [(0,.pointer (some ⟨so,0,none⟩)),(8,.slice a8 mt.length c8),(17,.slice (some ⟨pb2,0,none⟩) (w.pgs.length+1) (w.pgs.length+1)),(18,.int .i64 (j:Int))]∧Hp h D [capI 1 3 (some ⟨pb2,0,none⟩,(w.pgs.length+1),(w.pgs.length+1)) ((snN w.pgs.length (mt.take j)).map iv),capI 1 3 (a8,mt.length,c8) (mt.map iv),dsI G so Fh1 w,capI 2 103 (a,cs.length,c) (cs.flatMap PuC.cells)] [] hh∧j≤mt.length∧m=mt.length-j) ?_ ?_
  ·exact ⟨_,0,⟨rfl,rfl,rfl,rfl,trivial⟩,(ok.n3.n2.n3.n3).k4.tR.tR,Nat.zero_le _,rfl⟩
  rintro _ _ η8 ⟨j,hs,ok,hj,rfl⟩ J1 hJ1;refine .frame hs fun τ=>?_;refine .seq<|.s<|.z .mvI<|.z .mvS<|.z (.len T.el24)<|.z .lss<|.nil<|.cdr (fun C3=>?_) (fun C3=>?_)
  ·
   refine .exit<|hK2 _ _<|.s<|.z .mvS<|.z (.len T.el24)<|.z .mvP<|.c' 172 .func (sHead_any (G:=G) (w:=w) (ok.n2).loc0) ?_;rintro _ η9 ⟨Fh2,rfl,q⟩;have ok:=(ok.n2).lift1 q;rw [show w.head.val=.agg #[.int .i64 w.head.size,.int .i64 (w.pgs.length:Int),.int .i64 w.head.free,.int .i64 w.head.many,.int .i64 w.head.cookie,.int .i64 w.head.version] from (by rw [←St.head_pages];rfl)];refine .z (.fd T.fd38_1 T.ag3)<|.z .sub<|.z .eql<|.z .asB<|.nil<|.ret ⟨.bool (decide ((mt.length:Int)=((w.pgs.length:Int)-1))),Res.one rfl rfl,⟨Fh2,(by rw [decide_eq_true (by omega)]),(ok.n3.n1).k2⟩⟩
  refine .skip<|.seq<|.block fun K3 hK3=>.seq<|.seq<|?_;have hjl:j<mt.length:=by omega
  have hrg:=k.mt.rg _ (hmp.mem_iff.1 (List.getElem_mem hjl));have hnd:=hmp.nodup_iff.2 k.mt.nd;have hnj:mt[j]∉mt.take j:=fun h=>by
   rw [show mt=mt.take j++mt[j]::mt.drop (j+1) by rw [←List.drop_eq_getElem_cons hjl,List.take_append_drop]] at hnd;exact (List.nodup_append.1 hnd).2.2 _ h _ List.mem_cons_self rfl
  have hsl:=snN_len (N:=w.pgs.length) (m:=mt.take j);have hsl2:=snN_len (N:=w.pgs.length) (m:=mt.take (j+1));obtain ⟨qn,hqn⟩:∃qn:Nat,mt[j]=(qn:Int):=⟨mt[j].toNat,by omega⟩;refine .r<|.z .mvS<|.z .mvI<|?_;obtain ⟨bb1,oo1,rfl,fb1⟩:=ok.m1.pos (n:=mt.length) (by omega);refine .z (.ix1 j T.el24 T.sz3)<|.z (.ld T.ag3 (Cap.i64 (l:=mt) ok.m1 (i:=j) (by omega)))<|.z .lss<|.z .mvB<|.sd (fun G143=>?_) (fun G143=>?_)
  ·
   omega
  refine .z .mvS<|.z .mvI<|.z (.ix1 j T.el24 T.sz3)<|.z (.ld T.ag3 (Cap.i64 (l:=mt) ok.m1 (i:=j) (by omega)))<|.z .mvS<|.z (.len T.el24)<|.z .geq<|.z .pkf<|.nil<|.cd (fun C4=>?_) (fun C4=>?_)
  ·
   omega
  refine .skip<|.s<|.z .mvS<|.z .mvS<|.z .mvI<|.z (.ix1 j T.el24 T.sz3)<|.z (.ld T.ag3 (Cap.i64 (l:=mt) ok.m1 (i:=j) (by omega)))<|?_;rw [hqn];refine .z (.ix1 qn T.el24 T.sz3)<|.z (.ld T.ag3 (Cap.i64 (l:=(snN w.pgs.length (mt.take j))) ok.m0 (i:=qn) (by omega)))<|?_;rw [show (snN w.pgs.length (mt.take j))[qn]=0 from by rw [snN_at,if_neg (by rw [←hqn];exact hnj)]];refine .z (.addI (a:=0) (b:=1))<|.z (.ix1 qn T.el24 T.sz3)<|.ur' (.sxI (q:=qn) T.sz3 ok) ?_;rintro η10 ⟨ok,cg⟩;refine .nil ?_;refine .seq<|?_;have ok:=(ok).cx (ys:=(snN w.pgs.length (mt.take (j+1))).map iv) (by rw [List.take_succ_eq_append_getElem hjl,←snN_set hqn];simp [iv]);refine .r<|.z .mvS<|.z .mvS<|.z .mvI<|.z (.ix1 j T.el24 T.sz3)<|.z (.ld T.ag3 (Cap.i64 (l:=mt) ok.m1 (i:=j) (by omega)))<|?_;rw [hqn];refine .z (.ix1 qn T.el24 T.sz3)<|.z (.ld T.ag3 (Cap.i64 (l:=(snN w.pgs.length (mt.take (j+1)))) ok.m0 (i:=qn) (by omega)))<|?_;rw [show (snN w.pgs.length (mt.take (j+1)))[qn]=1 from by rw [snN_at,if_pos (by rw [List.take_succ_eq_append_getElem hjl,←hqn];exact List.mem_append_right _ (List.mem_singleton_self _))]];refine .z .gtr<|.nil<|.cf<|.skip<|.end<|hK3 _ _<|.r<|.z .mvI<|.z (.addI (b:=1))<|.z .asI<|.nil<|.end<|hJ1 _ _ _ ⟨j+1,⟨rfl,rfl,rfl,rfl,trivial⟩,(ok).k4,by omega,rfl⟩ (by omega)
 have hil:i<cs.length:=by omega
 have hci:=k.get _ (List.getElem_mem hil);have hcl:=k.len _ (List.getElem_mem hil);have hc2:i64N (cs[i].r.l.length:Int):=⟨by omega,by omega⟩;have hle:=ps_le (cs:=cs) (i:=i+1);rw [ps_take hil,List.length_append] at hle;refine .skip<|.seq<|.block fun K1 hK1=>.seq<|.a 18 (fun fl hh=>Hp h D [capI 1 3 (a8,(Sl1++(cs.take i).flatMap PuC.ps).length,c8) ((Sl1++(cs.take i).flatMap PuC.ps).map iv),capI 2 103 (a,cs.length,c) (cs.flatMap PuC.cells)] [rdI Eg1 Eg1 (ag1,w.pgs.length,cg1) w.pgs,pbyI Eo ol] hh) mixed ?_;have hS:=ok.n2.n1.k2;refine .g 0 false rfl 38 hS (fun _=>.mvP)<|.g 1 false rfl 39 hS (fun _=>.mvS)<|.g 2 false rfl 40 hS (fun _=>.mvI)<|?_;obtain ⟨bb2,oo2,rfl,fb2⟩:=ok.m2.pos (n:=cs.length) (by omega);refine .g 3 false rfl 41 hS (fun _=>.ix i T.el96 T.sz103 (hi:=by omega))<|.g 4 false rfl 42 hS (fun _=>.fa T.fd103_0)<|.lw 5 false rfl 43 hS (fun _ _ hS=>.ld T.ag3 (sl_at PuC.cells_len (hS.m1).sl (i:=i) (j:=0) (by omega) rfl))<|.g 6 false rfl 44 hS (fun _=>.mvS)<|.g 7 false rfl 45 hS (fun _=>.mvI)<|.g 8 false rfl 46 hS (fun _=>.ix i T.el96 T.sz103 (hi:=by omega))<|.g 9 false rfl 47 hS (fun _=>.fa T.fd103_1)<|.lw 10 false rfl 48 hS (fun _ _ hS=>.ld T.ag44 (sl_at PuC.cells_len (hS.m1).sl (i:=i) (j:=1) (by omega) rfl))<|.g 11 false rfl 49 hS (fun _=>.len T.el44)<|.o1 12<|.c' false rfl 50 .func (spGetE (G:=G) (w:=w) (first:=cs[i].fst) (n:=((cs[i].r.l.length:Nat):Int)) (ok.n1).loc0 hcl.2.2 hc2 hci) ?_;rintro _ η11 ⟨Fg2,xg2,cg2,rfl,q⟩;have ok:=(ok.n1).lift2 q;refine ⟨ok.n3.n3.k2,?_⟩;have hS:=ok.n3.n3.k2;refine .g 13 false rfl 37 hS (fun _=>.mvU)<|.g 14 false rfl 51 hS (fun _=>.ex)<|.g 15 false rfl 52 hS (fun _=>.ex)<|.g 16 false rfl 10 hS (fun _=>.asS)<|.g 17 false rfl 11 hS (fun _=>.asI)<|.e ?_;refine .seq<|.a 18 (fun fl hh=>Hp h D [capI 1 5 (xg2,(cs[i].r.l).length,cg2) ((cs[i].r.l).map bv),capI 1 3 (a8,(Sl1++(cs.take i).flatMap PuC.ps).length,c8) ((Sl1++(cs.take i).flatMap PuC.ps).map iv),capI 2 103 (some ⟨bb2,oo2,none⟩,cs.length,c) (cs.flatMap PuC.cells)] [rdI Eg1 Eg1 (ag1,w.pgs.length,cg1) w.pgs,pbyI Eo ol] hh) mixed ?_;have hS:=ok.n3.n3.n2.k3;refine .g 0 false rfl 54 hS (fun _=>.mvP)<|.g 1 false rfl 55 hS (fun _=>.mvS)<|.g 2 false rfl 56 hS (fun _=>.mvI)<|.g 3 false rfl 57 hS (fun _=>.ix i T.el96 T.sz103)<|.g 4 false rfl 58 hS (fun _=>.fa T.fd103_0)<|.lw 5 false rfl 59 hS (fun _ _ hS=>.ld T.ag3 (sl_at PuC.cells_len (hS.m2).sl (i:=i) (j:=0) (by omega) rfl))<|.g 6 false rfl 60 hS (fun _=>.mvS)<|.g 7 false rfl 61 hS (fun _=>.mvI)<|.g 8 false rfl 62 hS (fun _=>.ix i T.el96 T.sz103)<|.g 9 false rfl 63 hS (fun _=>.fa T.fd103_1)<|.lw 10 false rfl 64 hS (fun _ _ hS=>.ld T.ag44 (sl_at PuC.cells_len (hS.m2).sl (i:=i) (j:=1) (by omega) rfl))<|.g 11 false rfl 65 hS (fun _=>.len T.el44)<|.o1 12<|.c' false rfl 66 .func (spPagesE (G:=G) (w:=w) (first:=cs[i].fst) (n:=((cs[i].r.l.length:Nat):Int)) (ok.n1).loc0 hcl.2.2 hc2 hci) ?_;rintro _ η12 ⟨Fg3,xg3,cg3,rfl,q⟩;have ok:=(ok.n1).lift2 q;refine ⟨ok.n4.n4.n4.k3,?_⟩;have hS:=ok.n4.n4.n4.k3;refine .g 13 false rfl 53 hS (fun _=>.mvU)<|.g 14 false rfl 67 hS (fun _=>.ex)<|.g 15 false rfl 68 hS (fun _=>.ex)<|.g 16 false rfl 12 hS (fun _=>.asS)<|.g 17 false rfl 13 hS (fun _=>.asI)<|.e ?_;refine .seq<|.a 22 (fun fl hh=>Hp h D [capI 1 3 (xg3,(cs[i].ps).length,cg3) ((cs[i].ps).map iv),capI 1 5 (xg2,(cs[i].r.l).length,cg2) ((cs[i].r.l).map bv),capI 1 3 (a8,(Sl1++(cs.take i).flatMap PuC.ps).length,c8) ((Sl1++(cs.take i).flatMap PuC.ps).map iv),capI 2 103 (some ⟨bb2,oo2,none⟩,cs.length,c) (cs.flatMap PuC.cells)] [rdI Eg1 Eg1 (ag1,w.pgs.length,cg1) w.pgs,pbyI Eo ol] hh) mixed ?_;have hS:=ok.n4.n4.n4.n3.k4;refine .g 0 false rfl 70 hS (fun _=>.mvS)<|.g 1 false rfl 71 hS (fun _=>.mvP)<|.g 3 false rfl 73 hS (fun _=>.mvS)<|.g 4 false rfl 74 hS (fun _=>.mvI)<|.g 5 false rfl 75 hS (fun _=>.ix i T.el96 T.sz103)<|.g 6 false rfl 76 hS (fun _=>.fa T.fd103_0)<|.lw 7 false rfl 77 hS (fun _ _ hS=>.ld T.ag3 (sl_at PuC.cells_len (hS.m3).sl (i:=i) (j:=0) (by omega) rfl))<|.g 8 false rfl 78 hS (fun _=>.mvS)<|.g 9 false rfl 79 hS (fun _=>.mvI)<|.g 10 false rfl 80 hS (fun _=>.ix i T.el96 T.sz103)<|.g 11 false rfl 81 hS (fun _=>.fa T.fd103_1)<|.lw 12 false rfl 82 hS (fun _ _ hS=>.ld T.ag44 (sl_at PuC.cells_len (hS.m3).sl (i:=i) (j:=1) (by omega) rfl))<|.g 13 false rfl 83 hS (fun _=>.len T.el44)<|.o1 2<|.k false rfl 72 .func (sSize_any (G:=G) (F:=Fg3) (w:=w) ok.m1) hS<|.o1 14<|.c' false rfl 84 .func (chain17E (w:=w) (ds_ok (ok.n1).m0) ok.r0 hcl.2.2 hc2 hci) ?_;rintro _ η13 ⟨pach1,pcch1,oach1,occh1,rfl,q⟩;have ok:=ok.addML q;refine ⟨ok.n6.n6.n6.n5.k4,?_⟩;have hS:=ok.n6.n6.n6.n5.k4;refine .g 15 false rfl 69 hS (fun _=>.mvU)<|.g 16 false rfl 85 hS (fun _=>.ex)<|.g 17 false rfl 86 hS (fun _=>.ex)<|.g 18 false rfl 87 hS (fun _=>.ex)<|.g 19 false rfl 14 hS (fun _=>.asS)<|.g 20 false rfl 15 hS (fun _=>.asS)<|.g 21 false rfl 16 hS (fun _=>.asI)<|.e ?_;refine .seq<|.seq<|?_;have ok:=ok.d1 (rdI Eo Eo (cs[i].r.a,cs[i].r.l.length,cs[i].r.c) (cs[i].r.l)) (ok.r1 _ (hol _ (List.getElem_mem hil))) (fun _ h=>h.elim id id);refine .r<|.z .mvI<|.z .neq<|.z .mvB<|.z .mvI<|.z .neq<|.z .pkf<|.z .mvB<|.z .mvI<|.z .neq<|.z .pkf<|.z .mvB<|.z .mvS<|.z .mvS<|.z .mvI<|.z (.ix i T.el96 T.sz103)<|.z (.fa T.fd103_1)<|.z (.ld T.ag44 (sl_at PuC.cells_len (ok.m6).sl (i:=i) (j:=1) (by omega) rfl))<|.k 105 .func (same_any (a:=xg2) (c:=cg2) (l:=(cs[i].r.l)) (b:=cs[i].r.a) (d:=cs[i].r.c) (l2:=cs[i].r.l) (RdL.ofCapB (v:=(xg2,(cs[i].r.l).length,cg2)) (l:=(cs[i].r.l)) ok.m4) ok.r0)<|.z .notd<|.z .pkf<|.z .mvB<|.sd (fun G108=>?_) (fun G108=>?_)
 ·
  exact absurd rfl G108
 refine .z .mvS<|.z .mvS<|.k 111 .func (same10_any (a:=xg3) (c:=cg3) (l:=(cs[i].ps)) (b:=pach1) (d:=pcch1) (l2:=(cs[i].ps)) (RdL.ofInts (x:=(xg3,(cs[i].ps).length,cg3)) (E:=none_) (ok.m2).sl) (RdL.ofInts (x:=(pach1,(cs[i].ps).length,pcch1)) (E:=none_) (ok.m0).sl))<|.z .notd<|.z .pkf<|.z .mvB<|.sd (fun G114=>?_) (fun G114=>?_)
 ·
  exact absurd rfl G114
 refine .z .mvS<|.z (.len T.el24)<|.z .mvS<|.z (.len T.el44)<|.z .mvP<|.k 120 .func (sSize_any (G:=G) (F:=Fg3) (w:=w) ok.m3)<|.k 121 .func (many17_any (n:=(cs[i].r.l).length) (z:=w.z) (by omega) (by omega))<|.z .neq<|.z .pkf<|.nil<|.cd (fun C2=>?_) (fun C2=>?_)
 ·
  exact absurd (by rw [hcl.2.1]) C2
 refine .skip<|.r<|.z .mvS<|.z .mvS<|.a' 126 (.app (news:=(cs[i].ps).map iv) T.el24 T.sz3 T.by3 T.zr3 ok.n5 (ok.n5.m3).sl ivs_all (by simp only [List.length_map,List.length_append,List.length_take,List.length_cons,List.length_nil,List.length_replicate,List.length_range,fixedN_len,sealN_len];omega)) ?_;rintro _ η14 ⟨ya2,yn2,yc2,rfl,ok,ap⟩;have ok:=ok.cx (ys:=(Sl1++(cs.take (i+1)).flatMap PuC.ps).map iv) (by rw [ps_take hil];simp);obtain rfl:yn2=(Sl1++(cs.take (i+1)).flatMap PuC.ps).length:=ok.lenI;refine .z .asS<|.nil<|.end<|hK1 _ _<|.r<|.z .mvI<|.z (.addI (b:=1))<|.z .asI<|.nil<|.end<|hJ0 _ _ _ ⟨i+1,ya2,yc2,Fg3,⟨rfl,rfl,rfl,rfl,rfl,trivial⟩,(ok.n6.n5.n2).k3.f2.f2.e2,by omega,rfl⟩ (by omega)
def cont (D:Dk) (n:List UInt8):Option (List UInt8):=match D.fs n with
 | some f=>if f.here=true then some f.now else none
 | none=>none
def rdE (D:Dk) (n:List UInt8):Nat:=if (cont D n).isSome=true then 0 else 4
theorem rdE_0 {D:Dk} {n:List UInt8} (h:¬((rdE D n:Nat):Int)=4):rdE D n=0:=by unfold rdE at h⊢;split;rfl;rename_i g;rw [if_neg g] at h;exact absurd rfl h
structure HD (D:Dk):Prop where
 dk:DkOk D
 on:D.dark=false
 lf:D.left<0
 em:∀n f,D.fs n=some f→f.here=false→f.now=[]
theorem HD.new:HD newN:=⟨newN_ok,rfl,by show (-1:Int)<0;decide,fun _ _ h=>(by cases h)⟩
structure HUp (D D':Dk) (n:List UInt8) (c:Option (List UInt8)) (k:Int):Prop where
 hd:HD D'
 at_:cont D' n=c
 ne:∀m,m≠n→cont D' m=cont D m
 chg:D'.chg≤D.chg+k
section
variable {D:Dk} {n:List UInt8} {b l:List UInt8} {p z:Nat}
theorem cont_some (h:cont D n=some b):∃f,D.fs n=some f∧f.here=true∧f.now=b:=by
 unfold cont at h;split at h
 ·rename_i f hf;split at h
  ·rename_i hh;exact ⟨f,hf,hh,by injection h⟩
  ·cases h
 ·cases h
theorem cont_there (h:cont D n=some b):thereN D n=true:=by obtain ⟨f,hf,hh,_⟩:=cont_some h;unfold thereN;rw [hf];exact hh
theorem cont_no (h:cont D n=none):thereN D n=false:=by
 unfold thereN;unfold cont at h;split
 ·rename_i f hf;rw [hf] at h;simp only at h;split at h
  ·cases h
  ·rename_i hh;simpa using hh
 ·rfl
theorem HD.now (k:HD D):((D.fs n).getD noF).now=(cont D n).getD []:=by
 unfold cont;cases hf:D.fs n with
 | none=>rfl
 | some f=>
  simp only [Option.getD_some];by_cases hh:f.here=true
  ·rw [if_pos hh];rfl
  ·rw [if_neg hh];exact k.em n f hf (by simpa using hh)
theorem HD.dox (k:HD D) {c:Chn} (hc:ChOk c) (hn:nOk n) (he:(doneN c ((D.fs n).getD noF).now ((D.fs n).getD noF).here).2=false→(doneN c ((D.fs n).getD noF).now ((D.fs n).getD noF).here).1=[]) :
  (doN D n c).2=0∧HUp D (doN D n c).1 n (if (doneN c ((D.fs n).getD noF).now ((D.fs n).getD noF).here).2=true then some (doneN c ((D.fs n).getD noF).now ((D.fs n).getD noF).here).1 else none) 1:=by
 have hl:=k.lf;have hk:=k.dk.do hc (n:=n) hn.2;have e:doN D n c=(⟨put1 D.fs n (some (chgF ((D.fs n).getD noF) c)),D.dark,D.left,D.chg+1⟩,0):=by
  unfold doN;rw [if_neg (by omega),if_neg (by omega)]
 rw [e] at hk⊢;refine ⟨rfl,⟨hk,k.on,hl,fun m f hf hh=>?_⟩,?_,fun m hm=>?_,by simp⟩
 ·simp only [put1] at hf;split at hf
  ·injection hf with hf;subst hf;exact he hh
  ·exact k.em m f hf hh
 ·unfold cont;simp only [put1_at];rfl
 ·unfold cont;simp only [put1_ne hm]
theorem HD.write (k:HD D) (hn:nOk n) (h:p+l.length≤16777216):(writeN D n (p:Int) l).2=0∧HUp D (writeN D n (p:Int) l).1 n (some (wrB ((cont D n).getD []) p l)) 1:=by
 have e:writeN D n (p:Int) l=doN D n ⟨0,p,l⟩:=by
  unfold writeN;rw [if_neg (by rw [wrong_0 k.on hn (by intro z hz;rw [List.mem_singleton] at hz;omega)];decide),if_neg (by omega),Int.toNat_natCast]
 have q:=k.dox (n:=n) (c:=⟨0,p,l⟩) ⟨by simp,h⟩ hn (by intro h;cases h);rw [e];refine ⟨q.1,?_⟩;have h2:=q.2;rw [k.now] at h2;exact h2
theorem HD.trunc (k:HD D) (hn:nOk n) (hb:cont D n=some b) (h:z≤16777216):(truncN D n (z:Int)).2=0∧HUp D (truncN D n (z:Int)).1 n (some (longN b z)) 1:=by
 obtain ⟨f,hf,hh,rfl⟩:=cont_some hb;have e:truncN D n (z:Int)=doN D n ⟨1,z,[]⟩:=by
  unfold truncN;rw [if_neg (by rw [wrong_0 k.on hn (by intro z hz;rw [List.mem_singleton] at hz;omega)];decide),if_neg (by rw [cont_there hb];decide),if_neg (by omega),Int.toNat_natCast]
 have ed:doneN ⟨1,z,[]⟩ ((D.fs n).getD noF).now ((D.fs n).getD noF).here=(longN f.now z,true):=by rw [hf];unfold doneN;simp [hh]
 have q:=k.dox (n:=n) (c:=⟨1,z,[]⟩) ⟨by simp,by simp;omega⟩ hn (by rw [ed];intro h;cases h);rw [e];refine ⟨q.1,?_⟩;have h2:=q.2;rw [ed] at h2;exact h2
theorem HD.sync1 (k:HD D) (hn:nOk n) {f:Fl} (hf:D.fs n=some f) (ho:f.here=true∨f.opn≠[]):(syncN D n).2=0∧HUp D (syncN D n).1 n (cont D n) 1:=by
 have hl:=k.lf;have hk:=k.dk.sync (n:=n);have e:syncN D n=(⟨put1 D.fs n (settleF f),D.dark,D.left,D.chg+1⟩,0):=by
  unfold syncN;rw [if_neg (by rw [wrong_0 k.on hn (by intro z hz;cases hz)];decide),hf];simp only;rw [if_neg (by rintro ⟨h1,h2⟩;exact ho.elim (fun h=>by rw [h] at h1;cases h1) (fun h=>h h2)),if_neg (by omega),if_neg (by omega)]
 rw [e] at hk⊢;have es:settleF f=if f.here=true then some ⟨f.now,f.now,true,true,[]⟩ else none:=rfl
 refine ⟨rfl,⟨hk,k.on,hl,fun m g hg hh=>?_⟩,?_,fun m hm=>?_,by simp⟩
 ·simp only [put1] at hg;split at hg
  ·rw [es] at hg;split at hg
   ·injection hg with hg;subst hg;cases hh
   ·cases hg
  ·exact k.em m g hg hh
 ·unfold cont;simp only [put1_at,hf,es];by_cases hh:f.here=true<;>simp [hh]
 ·unfold cont;simp only [put1_ne hm]
theorem HD.sync (k:HD D) (hn:nOk n) (hb:cont D n=some b):(syncN D n).2=0∧HUp D (syncN D n).1 n (some b) 1:=by
 obtain ⟨f,hf,hh,_⟩:=cont_some hb;have:=k.sync1 hn hf (.inl hh);rwa [hb] at this
theorem HD.gone (k:HD D) (hn:nOk n):(goneN D n).2=0∧HUp D (goneN D n).1 n none 2:=by
 have hw:wrongN D n []=0:=wrong_0 k.on hn (by intro z hz;cases hz);unfold goneN;cases hb:cont D n with
 | none=>
  have e:removeN D n=(D,4):=by unfold removeN;rw [if_neg (by rw [hw];decide),if_pos (cont_no hb)]
  rw [e,if_neg (show ¬(4:Nat)=0 by decide),if_pos rfl];exact ⟨rfl,k,hb,fun _ _=>rfl,by show D.chg≤D.chg+2;omega⟩
 | some b=>
  obtain ⟨f,hf,hh,_⟩:=cont_some hb;have e:removeN D n=doN D n ⟨2,0,[]⟩:=by unfold removeN;rw [if_neg (by rw [hw];decide),if_neg (by rw [cont_there hb];decide)]
  have ed:∀x y,doneN ⟨2,0,[]⟩ x y=([],false):=fun x y=>by unfold doneN;simp
  have q:=k.dox (n:=n) (c:=⟨2,0,[]⟩) ⟨by simp,by simp⟩ hn (by rw [ed];intro _;rfl);rw [e,if_pos q.1];rw [ed] at q;have hl:=k.lf;have ef:(doN D n ⟨2,0,[]⟩).1.fs n=some (chgF ((D.fs n).getD noF) ⟨2,0,[]⟩):=by unfold doN;rw [if_neg (by omega)];exact put1_at _ _ _
  have s:=q.2.hd.sync1 hn ef (.inr (by simp [chgF]));rw [q.2.at_] at s;exact ⟨s.1,s.2.hd,s.2.at_,fun m hm=>(s.2.ne m hm).trans (q.2.ne m hm),by have:=s.2.chg;have:=q.2.chg;omega⟩
theorem HD.size (k:HD D):sizeN D n=(((cont D n).getD []).length,(cont D n).isSome):=by
 unfold sizeN;cases hb:cont D n with
 | none=>rw [if_pos (.inr (cont_no hb))];rfl
 | some b=>rw [if_neg (by rw [k.on,cont_there hb];decide),k.now,hb];rfl
theorem HD.read (k:HD D) (hn:nOk n) (hb:cont D n=some b):readN D n (p:Int) (z:Int)=((b.drop p).take z,0):=by
 obtain ⟨f,hf,hh,rfl⟩:=cont_some hb;unfold readN;rw [if_neg (by rw [wrong_0 k.on hn (by intro z hz;simp at hz;omega)];decide),hf];simp only;rw [if_neg (by rw [hh];decide),Int.toNat_natCast,Int.toNat_natCast]
theorem HD.readNo (k:HD D) (hn:nOk n) (hb:cont D n=none):readN D n (p:Int) (z:Int)=([],4):=by
 unfold readN;rw [if_neg (by rw [wrong_0 k.on hn (by intro z hz;simp at hz;omega)];decide)];unfold cont at hb;split
 ·rfl
 ·rename_i f hf;rw [hf] at hb;simp only at hb;split at hb
  ·cases hb
  ·rename_i hh;rw [if_pos (by simpa using hh)]
end
theorem nT_h:nOk nT:=by unfold nOk nT;decide
theorem nJ_h:nOk [116,111,109,101,46,98,97,99,107]:=by unfold nOk;decide
theorem nM_h:nOk nM:=by unfold nOk nM;decide
theorem nL_h:nOk nL:=by unfold nOk nL;decide
section
variable {h:Heap} {d p z:Nat} {F F2 E2:Nat→Prop} {D:Dk} {n l b:List UInt8} {a:Option Addr} {c:Nat} (k:HD D) (hc:D.chg<900000000) (hn:nOk n)
include k hc hn
theorem hwrite_any (hf:p+l.length≤16777216) (ok:Hp h F [dgI d F D] [rdI F2 E2 (a,l.length,c) l] h) :
  HC Tryz.prog 207 #[.pointer (some ⟨d,0,none⟩),.string (BA n),.int .i64 (p:Int),.slice a l.length c] h (fun v h'=>v=.int .i64 0∧∃F' D',HUp D D' n (some (wrB ((cont D n).getD []) p l)) 1∧Hp h F [dgI d F' D'] [] h'):=
 (dgwrite_any ok k.dk (by omega) (by omega)).mono fun v h' ⟨F',hv,q⟩=>⟨by rw [hv,(k.write hn hf).1];rfl,F',_,(k.write hn hf).2,q⟩
theorem hsync_any (hb:cont D n=some b) (ok:Hp h F [dgI d F D] [] h) :
  HC Tryz.prog 209 #[.pointer (some ⟨d,0,none⟩),.string (BA n)] h (fun v h'=>v=.int .i64 0∧∃F' D',HUp D D' n (some b) 1∧Hp h F [dgI d F' D'] [] h'):=
 (dgsync_any ok k.dk (by omega)).mono fun v h' ⟨F',hv,q⟩=>⟨by rw [hv,(k.sync hn hb).1];rfl,F',_,(k.sync hn hb).2,q⟩
theorem htrunc_any (hb:cont D n=some b) (hz:z≤16777216) (ok:Hp h F [dgI d F D] [] h) :
  HC Tryz.prog 208 #[.pointer (some ⟨d,0,none⟩),.string (BA n),.int .i64 (z:Int)] h (fun v h'=>v=.int .i64 0∧∃F' D',HUp D D' n (some (longN b z)) 1∧Hp h F [dgI d F' D'] [] h'):=by
 obtain ⟨r,E,rfl,o,hf,he⟩:=dg_open ok;refine (trunc_any o k.dk (by show r.chg<_;have:r.chg<900000000:=hc;omega) (by omega)).mono fun v h' ⟨r',E',hv,ha,up⟩=>?_;obtain ⟨F',hp⟩:=dg_up up hf he;rw [ha] at hp;exact ⟨by rw [hv,(k.trunc hn hb hz).1];rfl,F',_,(k.trunc hn hb hz).2,hp⟩
end
section
variable {h:Heap} {d p z:Nat} {F:Nat→Prop} {D:Dk} {n b:List UInt8} (k:HD D)
include k
theorem hysizeX_any (ok:Hp h F [dgI d F D] [] h) :
  HC Tryz.prog 136 #[.pointer (some ⟨d,0,none⟩),.string (BA n)] h (fun v h'=>v=.tuple #[.int .i64 (((cont D n).getD []).length:Int),.bool (cont D n).isSome]∧h'=h):=by
 have q:=dgsize_any (n:=n) ok;rw [k.size] at q;exact q
theorem hysize_any (hb:cont D n=some b) (ok:Hp h F [dgI d F D] [] h) :
  HC Tryz.prog 136 #[.pointer (some ⟨d,0,none⟩),.string (BA n)] h (fun v h'=>v=.tuple #[.int .i64 (b.length:Int),.bool true]∧h'=h):=by
 have q:=hysizeX_any (n:=n) k ok;rw [hb] at q;exact q
theorem hdark_any (ok:Hp h F [dgI d F D] [] h) :
  HC Tryz.prog 135 #[.pointer (some ⟨d,0,none⟩)] h (fun v h'=>v=.bool false∧h'=h):=by
 have q:=dgdark_any ok;rw [k.on] at q;exact q
theorem hread_any {y:Int} (hn:nOk n) (hy:y=(p:Int)) (hp:p≤4611686018427387904) (hz:z≤4611686018427387904) (ok:Hp h F [dgI d F D] [] h) :
  HC Tryz.prog 180 #[.pointer (some ⟨d,0,none⟩),.string (BA n),.int .i64 y,.int .i64 (z:Int)] h (fun v h'=>∃w,v=.tuple #[w,.int .i64 ((rdE D n:Nat):Int)]∧Own h h' 1 5 w (((((cont D n).getD []).drop p).take z).map bv)):=by
 subst hy;refine (dgread_any (n:=n) ok k.dk (y:=(p:Int)) (z:=(z:Int)) ⟨by omega,by omega⟩ ⟨by omega,by omega⟩).mono fun v h' ⟨w,hv,o⟩=>⟨w,?_⟩;unfold rdE;cases hb:cont D n with
 | none=>rw [k.readNo hn hb] at hv o;exact ⟨hv,by simpa using o⟩
 | some b=>rw [k.read hn hb] at hv o;exact ⟨hv,o⟩
theorem hreadS_any (hn:nOk n) (hb:cont D n=some b) (hp:p≤4611686018427387904) (hz:z≤4611686018427387904) (ok:Hp h F [dgI d F D] [] h) :
  HC Tryz.prog 180 #[.pointer (some ⟨d,0,none⟩),.string (BA n),.int .i64 (p:Int),.int .i64 (z:Int)] h (fun v h'=>∃w,v=.tuple #[w,.int .i64 0]∧Own h h' 1 5 w (((b.drop p).take z).map bv)):=by
 refine (dgread_any (n:=n) ok k.dk (y:=(p:Int)) (z:=(z:Int)) ⟨by omega,by omega⟩ ⟨by omega,by omega⟩).mono fun v h' ⟨w,hv,o⟩=>⟨w,?_⟩;rw [k.read hn hb] at hv o;exact ⟨hv,o⟩
end
end Go.Proofs.YtndlpekckpdncaaGreat
namespace Go.HL
open Go Go.Proofs.YtndlpekckpdncaaGreat
section
variable {h0 h h':Heap} {D:Nat→Prop} {M R:List Itm} {a b c d x a' b' c' d':Itm}
theorem Hp.lenI3 {e:TypeId} {a:Option Addr} {n c:Nat} {l:List Int} (ok:Hp h0 D (capI 1 e (a,n,c) (l.map iv)::M) R h):n=l.length:=by
 have h1:Cap h 1 e (.slice a n c) (l.map iv):=ok.m0;have:=h1.sl.cells.1;rw [List.length_map] at this;omega
theorem Hp.lf23 (ok:Hp h0 D (a::b::M) R h) (q:Hp h (starI [a,b]).F [x,a',b'] [] h'):Hp h0 D (x::a'::b'::M) R h':=Hp.lf2 (l':=[x,a',b']) (M:=M) ok q
theorem Hp.lf33 (ok:Hp h0 D (a::b::c::M) R h) (q:Hp h (starI [a,b,c]).F [a',b',c'] [] h'):Hp h0 D (a'::b'::c'::M) R h':=Hp.lf3 (l':=[a',b',c']) (M:=M) ok q
theorem Hp.lf34 (ok:Hp h0 D (a::b::c::M) R h) (q:Hp h (starI [a,b,c]).F [x,a',b',c'] [] h'):Hp h0 D (x::a'::b'::c'::M) R h':=Hp.lf3 (l':=[x,a',b',c']) (M:=M) ok q
theorem Hp.lf44 (ok:Hp h0 D (a::b::c::d::M) R h) (q:Hp h (starI [a,b,c,d]).F [a',b',c',d'] [] h'):Hp h0 D (a'::b'::c'::d'::M) R h':=Hp.lf4 (l':=[a',b',c',d']) (M:=M) ok q
end
end Go.HL
namespace Go.Proofs.YtndlpekckpdncaaGreat
open Go Go.HL
structure RH where
 in_:Bool
 now:Nat
 valid:Nat
 begun:Bool
 nonce:Nat
 km:Option Nat
 kept:List Int
 marked:Nat
 d:Nat
 D:Dk
 size:Nat
 c:Nat
 sure:Nat
 bytes:Nat
@[reducible] def hboxI (p:Nat) (r:RH):Itm:=boxI p 212 [.bool r.in_,.int .i64 (r.now:Int),.int .i64 (r.valid:Int),.bool r.begun,.int .u64 (r.nonce:Int),.map r.km,.int .i64 (r.marked:Int),.pointer (some ⟨r.d,0,none⟩),.int .i64 (r.size:Int),.pointer (some ⟨r.c,0,none⟩),.int .i64 (r.sure:Int),.int .i64 (r.bytes:Int),.bool false]
def fT (D:Dk):List UInt8:=(cont D nT).getD []
structure HC0 (r:RH):Prop where
 sz:okSz r.size=true
 hd:HD r.D
 by_:(fT r.D).length=r.bytes
 fit:r.bytes≤16777216
 ms:r.sure*(r.size+8)+28≤16777216
 jb:r.begun=true→r.marked=r.kept.length+1
 jn:r.begun=false→r.kept=[]∧r.marked=0
 kn:r.kept.Nodup
 kr:∀x∈r.kept,1≤x∧x≤(r.sure:Int)
 no:r.nonce<18446744073709551616
 chg:0≤r.D.chg
structure SvH (r r':RH) (k:Int):Prop where
 in_:r'.in_=r.in_
 now:r'.now=r.now
 valid:r'.valid=r.valid
 km:r'.km=r.km
 d:r'.d=r.d
 size:r'.size=r.size
 c:r'.c=r.c
 sure:r'.sure=r.sure
 bytes:r'.bytes=r.bytes
 ct:cont r'.D nT=cont r.D nT
 bg:r'.begun=true
 ok:HC0 r'
 chg:r'.D.chg≤r.D.chg+k
theorem inner_fit {n:Nat} {ks:List Int} (hn:ks.Nodup) (hr:∀x∈ks,1≤x∧x≤(n:Int)):ks.length≤n:=by
 have h3:(0::ks.map Int.toNat).length≤(List.range (n+1)).length:=by
  refine List.Nodup.length_le_of_subset (List.nodup_cons.2 ⟨fun hk=>?_,?_⟩) fun k hk=>?_
  ·obtain ⟨x,hx,e⟩:=List.mem_map.1 hk;have:=hr x hx;omega
  ·unfold List.Nodup;rw [List.pairwise_map];exact List.Pairwise.imp_of_mem (fun ha hb h e=>h (by have:=hr _ ha;have:=hr _ hb;omega)) hn
  ·rcases List.mem_cons.1 hk with rfl | hk
   ·rw [List.mem_range];omega
   ·obtain ⟨x,hx,rfl⟩:=List.mem_map.1 hk;have:=hr x hx;rw [List.mem_range];omega
 rw [List.length_cons,List.length_map,List.length_range] at h3;omega
def pgF (z:Nat) (f:List UInt8) (i:Nat):List UInt8:=longN ((f.drop (i*z)).take z) z
theorem pgF_len {z i:Nat} {f:List UInt8} : (pgF z f i).length=z:=longN_len _ _
theorem gd_pgF {z i j:Nat} {f:List UInt8} (h:j<z):gd (pgF z f i) j=gd f (i*z+j):=by unfold pgF;rw [gd_longN,if_pos h,gd_take,if_pos h,gd_drop]
theorem pgF_ext {z i:Nat} {f b:List UInt8} (hb:b.length=z) (h:∀j,j<z→gd f (i*z+j)=gd b j):pgF z f i=b:=by
 refine ext_gd (by rw [pgF_len,hb]) fun j hj=>?_;rw [pgF_len] at hj;rw [gd_pgF hj];exact h j hj
def upF (r:RH) (f:List UInt8) (i:Nat):List UInt8:=if r.in_=true∧r.valid≤i then List.replicate r.size 0 else pgF r.size f i
structure RHA where
 fr:Nat
 nd:Nat
 link:Nat
 am:Nat
 at_:List (Int × Nat)
 in_:Bool
 many:Nat
 bm:Option Nat
 bs:List (Int × RB)
 d:Nat
 D:Dk
 size:Nat
 sure:Nat
 c:Nat
@[reducible] def haboxI (p:Nat) (r:RHA):Itm:=boxI p 202 [.int .i64 (r.fr:Int),.int .i64 (r.nd:Int),.int .u64 (r.link:Int),.map (some r.am),.bool r.in_,.int .i64 (r.many:Int),.map r.bm,.pointer (some ⟨r.d,0,none⟩),.int .i64 (r.size:Int),.int .i64 (r.sure:Int),.pointer (some ⟨r.c,0,none⟩),.bool false]
@[reducible] def haL (p:Nat) (r:RHA) (Fd cF:Nat→Prop) (S:Nat→Option (List UInt8)):List Itm:=[haboxI p r,mapI (Value.int .i64) r.am (atE r.at_),nowI r.bm r.bs,dgI r.d Fd r.D,cacI r.c cF S]
def SrcH (D:Dk) (at_:List (Int × Nat)) (z i:Nat) (l:List UInt8):Prop:=match mget at_ ((i:Int)+1) with
 | some k=>k≤16777216∧∃L,cont D nL=some L∧(L.drop k).take z=l
 | none=>∃f,cont D nT=some f∧(f.drop (i*z)).take z=l
def pgsH (r:RHA):Nat:=if r.in_=true then r.many else r.sure
end Go.Proofs.YtndlpekckpdncaaGreat
