/- Opening a new disk, and a disk that a pager leaves; a head that was encoded; the chapter's examples, in plain terms. Conditions: those that each fact names. The chapter's examples on the pager that logs ahead. Conditions: none. A call of the laws keeps the two pagers alike, in plain terms, or the power goes; little pagers stay little. Conditions: those that each fact names. How a law whose call returns true and turns nothing old closes its row. Conditions: those that each fact names. How arguments that come in read: types opened one by one. Conditions: those that each fact names. The law AheadPlays returns true at every input and leaves its arguments as they were. Conditions: none. Pages that are read, as rows of bytes. Conditions: none. copy of a slice that may be longer than what it is copied to. Conditions: the target is one's own. What a pager that logs ahead leaves wherever the power goes, for the law on power, in plain terms. Conditions: those that each fact names. The law AheadPower at arguments as they come in. Conditions: they are readable. A file that is laid on a disk, in plain terms. Conditions: those that each fact names. The law AheadOpens at arguments as they come in. Conditions: they are readable. -/
import Derived.Test.YtpeaicddbnghfaaGreatPkA8
import Derived.ProofKit
import Derived.OpenShut
import Derived.Below
import Derived.Carry
import Derived.Deep.Slices
import Derived.ChangeArms
import Derived.ChangeMaps5
import Derived.Test.YtpeaicddbnghfaaGreatRows
set_option maxRecDepth 100000
set_option maxHeartbeats 2000000
set_option linter.all false
namespace Go.Proofs.YtpeaicddbnghfaaGreat
open Go Go.HL
theorem hdAt_hdB {N:List Nat} {x:List UInt8} {k:Nat} (hk:k<N.length) (hN:N.length=6) (hb:N[k]<4294967296):hdAt (hdB N++x) k=N[k]:=by
 have e:hdB N++x=(signL++hdF (N.take k))++(fixedN N[k] 4++(hdF (N.drop (k+1))++(List.replicate 20 0++fixedN (sumN (hdT N)) 4++x))):=by
  have h1:hdF N=hdF (N.take k)++(fixedN N[k] 4++hdF (N.drop (k+1))):=by
   have h2:N=N.take k++N[k]::N.drop (k+1):=by rw [←List.drop_eq_getElem_cons hk,List.take_append_drop]
   have h3:hdF N=hdF (N.take k++N[k]::N.drop (k+1)):=congrArg hdF h2;rw [h3];unfold hdF;rw [List.map_append,List.flatten_append,List.map_cons,List.flatten_cons]
  unfold hdB;rw [show hdT N=signL++hdF N++List.replicate 20 0 from rfl,h1];simp only [List.append_assoc]
 have hl:(signL++hdF (N.take k)).length=16+4*k:=by
  have h1:∀(M:List Nat),(hdF M).length=4*M.length:=fun M=>by
   unfold hdF;induction M with
   | nil=>rfl
   | cons a M ih=>rw [List.map_cons,List.flatten_cons,List.length_append,fixedN_len,ih,List.length_cons];omega
  rw [List.length_append,h1,List.length_take];simp;omega
 unfold hdAt;rw [e,←hl,rdN_app (fixedN_len _ _),beN_fixed (by simpa using hb)]
theorem dec_hdB {n0 n1 n2 n3 n4 n5:Nat} {x:List UInt8} (h0:n0<4294967296) (h1:n1<4294967296) (h2:n2<4294967296) (h3:n3<4294967296) (h4:n4<4294967296) (h5:n5<4294967296) (hc:ChkP ⟨(n0:Int),(n1:Int),(n2:Int),(n3:Int),(n4:Int),(n5:Int)⟩):decN (hdB [n0,n1,n2,n3,n4,n5]++x)=(⟨(n0:Int),(n1:Int),(n2:Int),(n3:Int),(n4:Int),(n5:Int)⟩,0):=by
 have a0:=hdAt_hdB (N:=[n0,n1,n2,n3,n4,n5]) (x:=x) (k:=0) (by simp) rfl h0;have a1:=hdAt_hdB (N:=[n0,n1,n2,n3,n4,n5]) (x:=x) (k:=1) (by simp) rfl h1;have a2:=hdAt_hdB (N:=[n0,n1,n2,n3,n4,n5]) (x:=x) (k:=2) (by simp) rfl h2;have a3:=hdAt_hdB (N:=[n0,n1,n2,n3,n4,n5]) (x:=x) (k:=3) (by simp) rfl h3;have a4:=hdAt_hdB (N:=[n0,n1,n2,n3,n4,n5]) (x:=x) (k:=4) (by simp) rfl h4;have a5:=hdAt_hdB (N:=[n0,n1,n2,n3,n4,n5]) (x:=x) (k:=5) (by simp) rfl h5;simp only [List.getElem_cons_zero,List.getElem_cons_succ] at a0 a1 a2 a3 a4 a5;have hl:(hdB [n0,n1,n2,n3,n4,n5]).length=64:=hdB_len6;have hd:decH (hdB [n0,n1,n2,n3,n4,n5]++x)=⟨(n0:Int),(n1:Int),(n2:Int),(n3:Int),(n4:Int),(n5:Int)⟩:=by unfold decH;rw [a0,a1,a2,a3,a4,a5]
 have hs:(hdB [n0,n1,n2,n3,n4,n5]++x).take 16=signL:=by
  unfold hdB hdT;simp only [List.append_assoc];exact List.take_left' rfl
 have hy:decY (hdB [n0,n1,n2,n3,n4,n5]++x):=by
  unfold decY;rw [hd,a0,a1,a2,a3,a4,a5];exact ⟨hc,(List.take_left' hl).symm⟩
 rw [dec0 (by rw [List.length_append];omega) hs hy,hd]
theorem hdOk_headP {z:Nat} {fb:UInt8} (hz:okSz z=true):hdOk (headP z fb) z=true:=by
 have h1:=okSz_cases hz;have h2:=fb.toNat_lt;unfold hdOk headP;rw [dec_hdB (by omega) (by omega) (by omega) (by omega) (by omega) (by omega) (chk_head hz h2)];simp
theorem hdOk_zeros {z n:Nat} : hdOk (List.replicate n 0) z=false:=by
 unfold hdOk;apply decide_eq_false;rintro ⟨h,_⟩;by_cases hn:(List.replicate n (0:UInt8)).length<64
 ·rw [dec6 hn] at h;cases h
 ·have h2:(List.replicate n (0:UInt8)).take 16≠signL:=by
   rw [List.length_replicate] at hn;rw [List.take_replicate,Nat.min_eq_left (by omega)];decide
  rw [dec8 hn h2] at h;cases h
theorem gone_new {n:List UInt8} (hn:nOk n):goneN newN n=(newN,0):=by
 have h:=remove_no (d:=newN) (n:=n) rfl hn rfl;unfold goneN;rw [h];rfl
theorem open_new {z:Nat} {room:Int} (hz:okSz z=true) (hr:1≤room∧room≤1048576):openN newN (z:Int) room=(newN,0,0):=by
 have hm:sizeN newN nM=(0,false):=rfl;have ht:sizeN newN nT=(0,false):=rfl;have hs:startN newN z=(newN,0):=by
  rw [start_c (by rw [hm];simp)];rw [clear_0 (by rw [gone_new nM_ok]),gone_new nM_ok];exact gone_new nL_ok
 rw [open_ok (okZ_of hz) hr rfl (by rw [hs]),hs,look_00 (by rw [ht];exact .inl rfl) rfl]
theorem clean_ok {z:Nat} {s:List (List UInt8)} {d:Dk} (p:PgOk z s) (c:Clean s d):AhOk ⟨d,0,0,0,false,[],s,z,false⟩:=by
 obtain ⟨T,S,hT⟩:=c;exact ⟨S.hd,p,T,[],S.T,.none rfl rfl S.L S.M hT⟩
theorem new_ok {z:Nat} (hz:okSz z=true):AhOk ⟨newN,0,0,0,false,[],[],z,false⟩:=
 clean_ok ⟨hz,by simp,by simp,by simp⟩ ⟨none,⟨rfl,rfl,rfl,rfl⟩,rfl⟩
theorem reopen {A:Ah} {room:Int} (O:AhOk A) (hr:1≤room∧room≤1048576) :
  ((openN A.dk A.size room).2=(A.sure.length,0)∧Clean A.sure (openN A.dk A.size room).1∧(A.dk.left<0→(openN A.dk A.size room).1.left<0))∨((openN A.dk A.size room).2=(0,13)∧(openN A.dk A.size room).1.dark=true∧0≤A.dk.left∧GdD A.size A.sure (openN A.dk A.size room).1):=by
 have g:=O.gd;have out:∀(c:Option (List UInt8)) n,A.dk.fs n=synF c→Out (A.dk.fs n) c:=fun c n h=>⟨[],by rw [h];cases c<;>rfl⟩;obtain ⟨T,fs,hT,st⟩:=O.st;cases st with
 | none h4 h5 h6 h7 h8=>
  have hL:A.dk.fs nL=synF none:=h6;have hM:A.dk.fs nM=synF none:=h7;exact open_own ⟨O.hd,hT,hL,hM⟩ O.pg (g _ _ _ (out _ _ hT) (out _ _ hL) (out _ _ hM)) (by simp) hr
 | log salt mk hs hok he hnd hfr hlk hL hM hmk hov hnb=>
  exact open_own ⟨O.hd,hT,hL,hM⟩ O.pg (g _ _ _ (out _ _ hT) (out _ _ hL) (out _ _ hM)) (by have:=logB_len (salt:=salt) hok;simp only [Option.getD_some];omega) hr
theorem RelA.opn {A:Ah} {w:WPg} {room:Int} (R:RelA A w) (O:AhOk A) (hr:1≤room∧room≤1048576) (hl:A.dk.left<0):(openN A.dk w.z room).2=(w.sure.length,0)∧AhOk ⟨(openN A.dk w.z room).1,0,0,0,false,[],w.sure,w.z,false⟩∧(openN A.dk w.z room).1.left<0∧RelA ⟨(openN A.dk w.z room).1,0,0,0,false,[],w.sure,w.z,false⟩ (openP w):=by
 have h:=reopen O hr;rw [R.size,R.sure] at h;have p:=O.pg;rw [R.size,R.sure] at p;rcases h with ⟨e1,e2,e3⟩ | ⟨_,_,e3,_⟩
 ·exact ⟨e1,clean_ok p e2,e3 hl,rfl,rfl,rfl,rfl,rfl,rfl,fun _=>rfl⟩
 ·omega
end Go.Proofs.YtpeaicddbnghfaaGreat
namespace Go.HL
open Go Go.Proofs.YtpeaicddbnghfaaGreat
theorem Hp.addM {h0 h h':Heap} {D:Nat→Prop} {M R:List Itm} {a:Itm} (ok:Hp h0 D M R h) (q:Hp h none_ [a] [] h'):Hp h0 D (a::M) R h':=
 ok.newM q.chg a q.m0 fun j hj=>by
  have h1:=(q.m a List.mem_cons_self).2 j hj;exact ⟨h1.2.elim (fun f=>f.elim) id,h1.1⟩
end Go.HL
namespace Go.Proofs.YtpeaicddbnghfaaGreat
open Go Go.HL
noncomputable section
def lvA0:Ah:=⟨newN,0,0,0,false,[],[],256,false⟩
def lvA1:Ah:=(beginA lvA0).1
def lvA2:Ah:=(resizeA lvA1 1).1
def lvH:List UInt8:=headP 256 7
def lvA4:Ah:=(writeA lvA2 1 lvH).1
def lvA5:Ah:=(commitA lvA4).1
def lvA6:Ah:=(checkA lvA5).1
def lvZ:List UInt8:=List.replicate 256 0
end
theorem lvH_len:lvH.length=256:=headP_len rfl
theorem lvH_ok:hdOk lvH 256=true:=hdOk_headP rfl
theorem lvZ_no:hdOk lvZ 256=false:=hdOk_zeros
attribute [irreducible] lvH lvZ
theorem lv1:beginA lvA0=(⟨newN,0,0,0,true,[],[],256,false⟩,0):=rfl
theorem lvA1_eq:lvA1=⟨newN,0,0,0,true,[],[],256,false⟩:=rfl
theorem lv2:resizeA lvA1 1=(⟨newN,0,0,0,true,[lvZ],[],256,false⟩,0):=by
 rw [lvA1_eq];refine (resizeA_5 rfl rfl (by decide) (by show ¬(1048576<(1:Int)∨16777216<(1:Int)*((256:Nat):Int));omega)).trans ?_;have e:growL [] 256 1=[lvZ]:=by unfold growL lvZ;rfl
 show (_,_)=_;rw [show (1:Int).toNat=1 from rfl];exact congrArg (fun x=>((⟨newN,0,0,0,true,x,[],256,false⟩:Ah),0)) e
theorem lvA2_eq:lvA2=⟨newN,0,0,0,true,[lvZ],[],256,false⟩:=congrArg Prod.fst lv2
theorem lv3:commitA lvA2=(lvA2,8):=by
 have h:mayA lvA2=8:=by
  rw [lvA2_eq];unfold mayA;rw [if_neg (List.cons_ne_nil _ _),if_neg];show ¬hdOk lvZ 256=true;rw [lvZ_no];decide
 rw [commitA_3 (by rw [lvA2_eq]) (by rw [lvA2_eq]) (by rw [h];decide),h]
theorem lv4:writeA lvA2 1 lvH=(⟨newN,0,0,0,true,[lvH],[],256,false⟩,0):=by
 rw [lvA2_eq];refine (writeA_4 rfl rfl ?_).trans rfl;show ¬((1:Int)<1∨((1:Nat):Int)<1∨lvH.length≠256);rw [lvH_len];omega
theorem lvA4_eq:lvA4=⟨newN,0,0,0,true,[lvH],[],256,false⟩:=congrArg Prod.fst lv4
theorem lv_list:listN [lvH] []=[0]:=by
 have h:unlN [lvH] []=[0]:=rfl;rw [list_unl (by rw [h];simp),h]
theorem lv5 (P:APl lvA4):(commitA lvA4).2=0∧Com lvA4 lvA5 1:=by
 have hm:mayA lvA4=0:=by
  rw [lvA4_eq];unfold mayA;rw [if_neg (List.cons_ne_nil _ _),if_pos];exact lvH_ok
 have hl:listN lvA4.now lvA4.sure=[0]:=by rw [lvA4_eq];exact lv_list
 rcases commit_out P (by rw [lvA4_eq]) (by rw [lvA4_eq]) (by rw [lvA4_eq];decide) hm (by rw [hl];simp) (by rw [hl,lvA4_eq];simp) with ⟨h1,h2⟩ | ⟨_,h2⟩
 ·refine ⟨h1,?_⟩;rw [hl] at h2;have e1:lvA4.nd=0:=by rw [lvA4_eq]
  have e2:lvA4.size=256:=by rw [lvA4_eq]
  have e3:lvA4.fr=0:=by rw [lvA4_eq]
  rw [e1,e2,e3,if_neg (by simp)] at h2;exact h2
 ·have:=h2.left;rw [lvA4_eq] at this;cases this
theorem lv5T (P:APl lvA4):sizeN lvA5.dk nT=(0,false):=by
 obtain ⟨_,c⟩:=lv5 P;have h:=c.T (by rw [lvA4_eq];show 0+(listN [lvH] []).length*(16+256)≤_;rw [lv_list];simp);unfold sizeN thereN;rw [h,c.O.hd,lvA4_eq];rfl
theorem lv6 (P:APl lvA4) (P5:APl lvA5):(checkA lvA5).2=0∧lvA6.fr=0∧lvA6.dark=false∧sizeN lvA6.dk nT=(256,true):=by
 obtain ⟨_,c⟩:=lv5 P;rcases check_out P5 c.dark c.in_ (by rw [c.fr];decide) with ⟨h1,h2,⟨d,h3⟩,_⟩ | ⟨_,h2⟩
 ·refine ⟨h1,by unfold lvA6;rw [h3],by unfold lvA6;rw [h3];exact c.dark,?_⟩;obtain ⟨T,fs,hT,st⟩:=h2.st;have hs:T.getD []=lvH:=by
   have hsu:(checkA lvA5).1.sure=[lvH]:=by rw [h3];exact c.sure.trans (by rw [lvA4_eq])
   cases st with
   | none h4 h5 h6 h7 h8=>rw [h8,hsu,List.flatten_cons,List.flatten_nil,List.append_nil]
   | log salt mk hs hok he hnd=>rw [h3] at hnd;simp only at hnd;omega
  have hl:=lvH_len;obtain ⟨b,rfl⟩:∃b,T=some b:=by cases T;(rw [←hs] at hl;cases hl);exact ⟨_,rfl⟩
  simp only [Option.getD_some] at hs;have st2:FSt (lvA6.dk.fs nT) (some b) [] (some b):=by show FSt ((checkA lvA5).1.dk.fs nT) _ _ _;rw [hT];exact .syn _
  have:=size_st (show lvA6.dk.dark=false from h2.hd) st2;rw [this];simp only [Option.getD_some,Option.isSome_some];rw [hs,hl]
 ·have:=h2.left;have h9:=c.left (by rw [lvA4_eq];decide);omega
theorem live14_any {h:Heap} : HC Tryz.prog 13 #[] h (fun v h'=>v=.bool true∧Ext h h'):=by
 have ok:=Hp.nil h none_;have hop:openN newN 256 1=(newN,0,0):=open_new (z:=256) rfl ⟨by omega,by omega⟩;have hc0:lvA0.dk.chg=0:=rfl;have hcn:newN.chg=0:=rfl;refine HC.go Tryz.func13 110 ?_;refine .seq<|.r<|.z .asB<|.nil ?_;refine .seq<|.r<|.c' 13 .func dgnew_any ?_;rintro _ η1 ⟨dnd1,Fnd1,rfl,q⟩;have ok:=Hp.addM ok q;refine .z .asP<|.nil ?_;refine .seq<|.r<|.z .mvP<|.c' 16 .func (gopen0_any (d:=dnd1) (F:=Fnd1) (D:=newN) (z:=256) (room:=1) (sure:=[]) (Hp.loc0 (ok)) newN_ok (by omega) (by omega) (by rw [hop]) (by rw [hop];exact ⟨new_ok rfl,rfl⟩)) ?_;rintro _ η2 ⟨po1,Fo1,rfl,q⟩;have ok:=Hp.lift1 (ok) q;obtain ⟨Ao1,hAo1⟩:∃x:Ah,(⟨(openN newN 256 1).1,0,0,0,false,[],[],Int.toNat 256,false⟩:Ah)=x:=⟨_,rfl⟩;rw [hAo1] at ok;obtain rfl:lvA0=Ao1:=by rw [←hAo1,hop];rfl
 refine .z .mvU<|.z .ex<|.z .ex<|.z .asP<|.z .asI<|.nil ?_;refine .seq<|.seq<|.r<|.z .mvP<|.z (.pEqS T.pt33)<|.z .mvB<|.z .mvI<|.z .neq<|.z .pkf<|.z .mvB<|.z .mvP<|.c' 27 .func (gbegin_any (p:=po1) (d:=dnd1) (F:=Fo1) (A:=lvA0) (ok).loc0 (by omega)) ?_;rintro _ η3 ⟨Fg1,rfl,q⟩;have Pg1:=ag_pl (ok).m0;have ok:=(ok).lift1 q;obtain ⟨Ag1,hAg1⟩:∃x:Ah,(beginA lvA0).1=x:=⟨_,rfl⟩;rw [hAg1] at ok;have hcg1:Ag1.dk.chg≤lvA0.dk.chg:=by rw [←hAg1];exact (Int.le_of_eq (congrArg Dk.chg begin_dk))
 obtain rfl:lvA1=Ag1:=hAg1;refine .z .neq<|.z .pkf<|.z .mvB<|.sd (fun G30=>?_) (fun G30=>?_)
 ·
  exact absurd (by rw [lv1];rfl) G30
 refine .z .mvP<|.c' 32 .func (gresize_any (p:=po1) (d:=dnd1) (F:=Fg1) (A:=lvA1) (n:=1) (ok).loc0 (by omega) (by omega)) ?_;rintro _ η4 ⟨Fg2,rfl,q⟩;have Pg2:=ag_pl (ok).m0;have ok:=(ok).lift1 q;obtain ⟨Ag2,hAg2⟩:∃x:Ah,(resizeA lvA1 1).1=x:=⟨_,rfl⟩;rw [hAg2] at ok;have hcg2:Ag2.dk.chg≤lvA1.dk.chg:=by rw [←hAg2];exact (Int.le_of_eq (congrArg Dk.chg resize_dk))
 obtain rfl:lvA2=Ag2:=hAg2;refine .z .neq<|.z .pkf<|.z .mvB<|.sd (fun G35=>?_) (fun G35=>?_)
 ·
  exact absurd (by rw [lv2];rfl) G35
 refine .z .mvP<|.c' 37 .func (gcommit_any (p:=po1) (d:=dnd1) (F:=Fg2) (A:=lvA2) (ok).loc0 (by omega)) ?_;rintro _ η5 ⟨Fg3,rfl,q⟩;have Pg3:=ag_pl (ok).m0;have ok:=(ok).lift1 q;obtain ⟨Ag3,hAg3⟩:∃x:Ah,(commitA lvA2).1=x:=⟨_,rfl⟩;rw [hAg3] at ok;have hcg3:Ag3.dk.chg≤lvA2.dk.chg+1200000:=by rw [←hAg3];exact commit_chg Pg3
 obtain rfl:lvA2=Ag3:=(congrArg Prod.fst lv3).symm.trans hAg3;refine .z .neq<|.z .pkf<|.z .mvB<|.sd (fun G40=>?_) (fun G40=>?_)
 ·
  exact absurd (by rw [lv3];rfl) G40
 refine .z .mvP<|.c' 42 .func (head14_any (z:=256) (fb:=7) rfl) ?_;rintro _ η6 own;obtain ⟨ya1,yc1,rfl⟩:=own.formB;have ok:=ok.own own;have hH:headP 256 7=lvH:=by unfold lvH;rfl
 rw [hH] at ok⊢;refine .c' 43 .func (gwrite_any (p:=po1) (d:=dnd1) (F:=Fg3) (A:=lvA2) (no:=1) (a:=ya1) (c:=yc1) (l:=lvH) (ok.n1).locC (by omega)) ?_;rintro _ η7 ⟨Fg4,rfl,q⟩;have Pg4:=ag_pl (ok.n1).m0;have ok:=(ok.n1).lift1 q;obtain ⟨Ag4,hAg4⟩:∃x:Ah,(writeA lvA2 1 lvH).1=x:=⟨_,rfl⟩;rw [hAg4] at ok;have hcg4:Ag4.dk.chg≤lvA2.dk.chg:=by rw [←hAg4];exact (Int.le_of_eq (congrArg Dk.chg write_dk))
 obtain rfl:lvA4=Ag4:=hAg4;have P4:=ag_pl (ok).m0;refine .z .neq<|.z .pkf<|.z .mvB<|.sd (fun G46=>?_) (fun G46=>?_)
 ·
  exact absurd (by rw [lv4];rfl) G46
 refine .z .mvP<|.c' 48 .func (gcommit_any (p:=po1) (d:=dnd1) (F:=Fg4) (A:=lvA4) (ok).loc0 (by omega)) ?_;rintro _ η8 ⟨Fg5,rfl,q⟩;have Pg5:=ag_pl (ok).m0;have ok:=(ok).lift1 q;obtain ⟨Ag5,hAg5⟩:∃x:Ah,(commitA lvA4).1=x:=⟨_,rfl⟩;rw [hAg5] at ok;have hcg5:Ag5.dk.chg≤lvA4.dk.chg+1200000:=by rw [←hAg5];exact commit_chg Pg5
 obtain rfl:lvA5=Ag5:=hAg5;have P5:=ag_pl (ok).m0;refine .z .neq<|.z .pkf<|.nil ?_;refine .cd (fun C0=>?_) (fun C0=>?_)
 ·
  exact absurd (by rw [(lv5 P4).1];rfl) C0
 refine .skip<|.seq<|.r<|.z .mvP<|.k 53 .func ((dgsize_any (d:=dnd1) (F:=Fg5) (D:=lvA5.dk) (n:=([116,111,109,101]:List UInt8)) (Hp.loc0 (ag_dgo (ok)))).mono fun _ _ q=>(by rw [show sizeN lvA5.dk ([116,111,109,101]:List UInt8)=(0,false) from lv5T P4] at q;exact q:_=(Value.tuple #[.int .i64 ((0:Nat):Int),.bool false])∧_))<|.z .mvU<|.z .ex<|.z .ex<|.z .asI<|.z .asB<|.nil ?_;refine .seq<|.r<|.z .mvP<|.k 57 .func (gframes_any (p:=po1) (d:=dnd1) (F:=Fg5) (A:=lvA5) ok.m0)<|.z .asI<|.nil ?_;refine .seq<|.r<|.z .mvP<|.c' 59 .func (gcheck_any (p:=po1) (d:=dnd1) (F:=Fg5) (A:=lvA5) (ok).loc0 (by omega)) ?_;rintro _ η9 ⟨Fg6,rfl,q⟩;have Pg6:=ag_pl (ok).m0;have ok:=(ok).lift1 q;obtain ⟨Ag6,hAg6⟩:∃x:Ah,(checkA lvA5).1=x:=⟨_,rfl⟩;rw [hAg6] at ok;have hcg6:Ag6.dk.chg≤lvA5.dk.chg+1200000:=by rw [←hAg6];exact check_chg Pg6
 obtain rfl:lvA6=Ag6:=hAg6;refine .z .asI<|.nil ?_;refine .seq<|.r<|.z .mvP<|.k 62 .func ((dgsize_any (d:=dnd1) (F:=Fg6) (D:=lvA6.dk) (n:=([116,111,109,101]:List UInt8)) (Hp.loc0 (ag_dgo (ok)))).mono fun _ _ q=>(by rw [show sizeN lvA6.dk ([116,111,109,101]:List UInt8)=(256,true) from (lv6 P4 P5).2.2.2] at q;exact q:_=(Value.tuple #[.int .i64 ((256:Nat):Int),.bool true])∧_))<|.z .mvU<|.z .ex<|.z .ex<|.z .asI<|.z .asB<|.nil ?_;refine .seq<|.r<|.k 66 .func (aopenNil_any (z:=256) (room:=1))<|.z .mvU<|.z .ex<|.z .ex<|.z .asP<|.z .asI<|.nil ?_;refine .seq<|.r<|.z .asP<|.nil ?_;refine .seq<|.r<|.z .mvB<|.z .not<|.z .mvB<|.z .mvI<|.z .eql<|.z .pkt<|.z .mvB<|.sd (fun G75=>?_) (fun G75=>?_)
 ·
  refine .z .mvI<|.z .eql<|.z .pkt<|.z .mvB<|.sd (fun G79=>?_) (fun G79=>?_)
  ·
   refine .z .mvI<|.z .eql<|.z .pkt<|.z .mvB<|.sd (fun G83=>?_) (fun G83=>?_)
   ·
    refine .z .mvB<|.z .pkt<|.z .mvB<|.z .mvP<|.k 88 .func (gframes_any (p:=po1) (d:=dnd1) (F:=Fg6) (A:=lvA6) ok.m0)<|.z .eql<|.z .pkt<|.z .mvB<|.sd (fun G91=>?_) (fun G91=>?_)
    ·
     refine .z .mvI<|.z .eql<|.z .pkt<|.z .mvB<|.z .mvP<|.k 97 .func abeginNil_any<|.z .eql<|.z .pkt<|.z .mvB<|.z .mvP<|.k 102 .func aframesNil_any<|.z .eql<|.z .pkt<|.z .mvB<|.z .mvP<|.k 107 .func ainNil_any<|.z .not<|.z .pkt<|.z .asB<|.nil ?_;refine .ret ⟨.bool true,Res.one rfl rfl,⟨rfl,ok.chg⟩⟩
    exact absurd (by rw [if_neg (by rw [(lv6 P4 P5).2.2.1];decide),(lv6 P4 P5).2.1];rfl) G91
   exact absurd rfl G83
  exact absurd (by rw [(lv6 P4 P5).1];rfl) G79
 exact absurd (by rw [if_neg (by rw [(lv5 P4).2.dark];decide),(lv5 P4).2.fr];rfl) G75
open Go Go.HL
structure LimW (w:WPg):Prop where
 s:w.sure.length≤40
 n:w.now.length≤40
theorem growL_len {now:List (List UInt8)} {z n:Nat} : (growL now z n).length=n:=by unfold growL;simp;omega
theorem LimW.step {w:WPg} {x:PO6} (L:LimW w) (h:¬(40<x.n∧x.n≤1048576)):LimW (stepP14 w x).1:=by
 obtain ⟨h1,h2⟩:=L;have hk:x.k%7=0∨x.k%7=1∨x.k%7=2∨x.k%7=3∨x.k%7=4∨x.k%7=5∨x.k%7=6:=by omega
 rcases hk with e | e | e | e | e | e | e<;>simp only [stepP14,e]
 ·unfold beginP;split;exact ⟨h1,h2⟩;exact ⟨h1,h1⟩
 ·unfold writeP;repeat' split
  all_goals first | exact ⟨h1,h2⟩ | exact ⟨h1,by simp only [List.length_set];exact h2⟩
 ·unfold resizeP
  repeat' split
  ·exact ⟨h1,h2⟩
  ·exact ⟨h1,h2⟩
  ·exact ⟨h1,h2⟩
  ·rename_i g1 g2 g3;exact ⟨h1,by show (growL _ _ _).length≤40;rw [growL_len];omega⟩
 ·unfold commitP;repeat' split
  all_goals first | exact ⟨h1,h2⟩ | exact ⟨h2,by simp⟩
 ·unfold rollbackP;split;exact ⟨h1,h2⟩;exact ⟨h1,by simp⟩
 ·exact ⟨h1,h2⟩
 ·unfold checkP;split;exact ⟨h1,h2⟩;exact ⟨h1,by simp⟩
theorem LimW.opn {w:WPg} (L:LimW w):LimW (openP w):=⟨L.s,by simp [openP]⟩
theorem LimW.pages {w:WPg} (L:LimW w):w.pages.length≤40:=by unfold WPg.pages;split;exact L.n;exact L.s
section
variable {A:Ah} {w:WPg} {x:PO6} (R:RelA A w) (P:APl A) (hc:A.dk.chg<400000000) (hz:0<w.z)
include R P hc hz
theorem RelA.step:(told14 A w x∧RelA (stepA14 A w.z x).1 (stepP14 w x).1∧(A.dk.left<0→(stepA14 A w.z x).1.dk.left<0))∨((stepA14 A w.z x).2=13∧(x.k%7=3∧w.in_=true∧Fail A (stepA14 A w.z x).1 (Gd2 w.z w.sure w.now)∨x.k%7=6∧Fail A (stepA14 A w.z x).1 (GdD w.z w.sure))):=by
 unfold told14;have hk:x.k%7=0∨x.k%7=1∨x.k%7=2∨x.k%7=3∨x.k%7=4∨x.k%7=5∨x.k%7=6:=by omega
 rcases hk with e | e | e | e | e | e | e<;>simp only [stepA14,stepP14,e]
 ·left;have h:=R.begin';exact ⟨⟨fun h=>by simp at h,h.1⟩,h.2,fun h=>by rw [begin_dk];exact h⟩
 ·left;have h:=R.write (no:=x.no) (b:=writeL w.z x);exact ⟨⟨fun h=>by simp at h,h.1⟩,h.2,fun h=>by rw [write_dk];exact h⟩
 ·left;have h:=R.resize (n:=x.n) hz;exact ⟨⟨fun h=>by simp at h,h.1⟩,h.2,fun h=>by rw [resize_dk];exact h⟩
 ·rcases R.commit P hc with ⟨h1,h2,h3⟩ | ⟨h1,h2,h3⟩
  ·exact .inl ⟨⟨fun h=>by simp at h,h1⟩,h2,h3⟩
  ·exact .inr ⟨h1,.inl ⟨trivial,h2,h3⟩⟩
 ·left;have h:=R.rollback;exact ⟨⟨fun h=>by simp at h,h.1⟩,h.2,fun h=>by rw [rollback_dk];exact h⟩
 ·left;have h:=R.read (no:=x.no);exact ⟨⟨fun _=>by rw [h],by rw [h]⟩,R,id⟩
 ·rcases R.check P with ⟨h1,h2,h3⟩ | ⟨h1,h2⟩
  ·exact .inl ⟨⟨fun h=>by simp at h,h1⟩,h2,h3⟩
  ·exact .inr ⟨h1,.inr ⟨trivial,h2⟩⟩
end
end Go.Proofs.YtpeaicddbnghfaaGreat
namespace Go.HL
open Go Go.RowKit Go.ChangeShapes Go.WideShapes Go.ChangeAt
theorem Below.of {w w':World} {h':Heap} (a:At (Env.of w) h' w') (x:Ext w.heap h'):Below w.heap.size w w':=
 ⟨a.os,a.tape,a.output,by rw [a.heap];exact x.size,fun k hk=>by rw [a.heap];exact x.same k hk fun f=>f⟩
theorem trodAll_below {H:Type} {enc:TypeId × Value→H} {P:Program} (hl:laidOutB P=true) {W W':World} (hb:Below W.heap.size W W'):∀ {ts:List TypeId} {vs:List Value} {ds:List (DataW H)} {ps:List MemPlace},
  (ts.all fun t=>P.readableRec t && decide (t<P.types.size))=true→(∀x∈ps,x.block<W.heap.size)→DataW.TrodAll enc P W 0 (fun _=>true) true ts vs ds ps→DataW.TrodAll enc P W' 0 (fun b=>decide (b<W.heap.size)) true ts vs ds ps
 | [],[],[],_,_,_,h=>h
 | t::ts,v::vs,d::ds,ps,ht,hp,h=>by
  obtain ⟨p,q,h1,h2,rfl⟩:=h;simp only [List.all_cons,Bool.and_eq_true,decide_eq_true_eq] at ht;exact ⟨p,q,RowKit.Below.trod hl ht.1.1 ht.1.2 h1 hb (fun x hx=>hp x (List.mem_append_left _ hx)),trodAll_below hl hb (by simpa using ht.2) (fun x hx=>hp x (List.mem_append_right _ hx)) h2,rfl⟩
 | [],[],_::_,_,_,_,h=>h.elim
 | [],_::_,_,_,_,_,h=>h.elim
 | _::_,[],_,_,_,_,h=>h.elim
 | _::_,_::_,[],_,_,_,h=>h.elim
theorem law_post {H:Type} {enc:TypeId × Value→H} {P:Program} {f:Func} {s:ChangeSpec} {fresh handsOn:Bool} {W W':World} {args:Array Value} {ds gs:List (DataW H)} {before:List MemPlace} {tb:TypeId}
  (hl:laidOutB P=true) (hW:DataW.Whole enc P f.params.toList s.vars false W args.toList ds gs before) (hv:s.vars=[]) (ht:(f.params.toList.all fun t=>P.readableRec t && decide (t<P.types.size))=true)
  (hr:f.resultTypes = #[tb]) (hb:P.underlying tb=some .bool) (hs:s.fn H ds = { results:=[.lit (.bool true)],args:=ds }) {h':Heap} (a:At (Env.of W) h' W') (x:Ext W.heap h') :
  s.post enc P f false fresh handsOn false W args (.bool true) W':=by
 have bel:=Below.of a x;have hlt:=hW.lt;obtain ⟨p,q,hA,hV,rfl,hfz,hnd⟩:=hW;rw [hv] at hV;cases gs with
 | cons g gs=>exact hV.elim
 | nil=>
  have hq:q=[]:=hV;subst hq;rw [List.append_nil] at *;refine ⟨ds,[],p,[],p,[],⟨p,[],hA,by rw [hv];rfl,by simp,hfz,hnd⟩,?_,?_,?_,bel.frame _,fun h=>by cases h⟩
  ·rw [List.append_nil,hs,hr];exact trodAll_mk1 (shut_bool hb _)
  ·rw [List.append_nil,hs];exact trodAll_below hl bel ht (fun x hx=>hlt x (by simpa using hx)) hA
  ·rw [List.append_nil,hs,hv];rfl
theorem addr_add (b o j:Nat):(⟨b,o,none⟩:Addr).add j=⟨b,o+j,none⟩:=by unfold Addr.add;split<;>simp_all
theorem byte_val {z:Int} (w:(Lit.int .u8 z).wf=true):∃x:UInt8,z=(x.toNat:Int):=by
 have hr:0≤z∧z≤255:=by simpa [Lit.wf,IntKind.min,IntKind.max,IntKind.signed,IntKind.bits] using w
 refine ⟨UInt8.ofNat z.toNat,?_⟩;simp;omega
structure Opn (P:Program) (t:TypeId) {α:Type} (R:Heap→List Value→α→Prop):Prop where
 run:∀ {H:Type} {enc:TypeId × Value→H} {w:World} {sp:Nat→Bool} {held:Bool} {fuel:Nat} {cs:List Value} {x:DataW H × List MemPlace},DataW.trod enc P w 0 sp held fuel t cs=some x→∃a,R w.heap cs a
section
variable {P:Program} {t e:TypeId}
theorem Opn.mono {α β:Type} {R:Heap→List Value→α→Prop} {R':Heap→List Value→β→Prop} (o:Opn P t R) (h:∀hp cs a,R hp cs a→∃b,R' hp cs b):Opn P t R':=⟨fun hx=>let ⟨a,ha⟩:=o.run hx;h _ _ a ha⟩
theorem Opn.int {k:IntKind} (ht:P.underlying t=some (.int k)):Opn P t (fun _ cs (z:Int)=>cs=[.int k z]∧k.min≤z∧z≤k.max):=⟨fun hx=>by
 obtain ⟨n,rfl,_,hw⟩:=DataW.trod_int ht hx;exact ⟨n,rfl,by simpa [Lit.wf] using hw⟩⟩
theorem Opn.i64 (ht:P.underlying t=some (.int .i64)):Opn P t (fun _ cs (z:Int)=>cs=[.int .i64 z]∧-9223372036854775808≤z∧z≤9223372036854775807):=⟨fun hx=>by
 obtain ⟨n,rfl,_,hw⟩:=DataW.trod_int ht hx;exact ⟨n,rfl,by simpa [Lit.wf,IntKind.min,IntKind.max,IntKind.signed,IntKind.bits] using hw⟩⟩
theorem Opn.u8 (ht:P.underlying t=some (.int .u8)):Opn P t (fun _ cs (x:UInt8)=>cs=[bv x]):=⟨fun hx=>by
 obtain ⟨n,rfl,_,hw⟩:=DataW.trod_int ht hx;obtain ⟨x,rfl⟩:=byte_val hw;exact ⟨x,rfl⟩⟩
theorem Opn.bool (ht:P.underlying t=some .bool):Opn P t (fun _ cs (b:Bool)=>cs=[.bool b]):=⟨fun hx=>by
 obtain ⟨b,rfl,_⟩:=DataW.trod_bool ht hx;exact ⟨b,rfl⟩⟩
theorem Opn.string (ht:P.underlying t=some .string):Opn P t (fun _ cs (s:ByteArray)=>cs=[.string s]∧s.size≤maxLen):=⟨fun hx=>by
 obtain ⟨s,rfl,_,hs⟩:=DataW.trod_string ht hx;exact ⟨s,rfl,hs⟩⟩
theorem cells_spot {w:World} {base k:Nat} {b o:Nat} {spot:_} {cs:List Value} (h:w.cells? base ((⟨b,o,spot⟩:Addr).add (0*k)) k=some cs) (hk:0<k):spot=none:=by
 obtain ⟨_,h1,h2⟩:=World.cells?_some h;obtain ⟨c,hc⟩:∃c,cs[0]? = some c:=⟨cs[0],by simp [h1,hk]⟩;have h3:=h2 0 hk;rw [hc] at h3;have h4:=World.cell?_spot h3;simpa [Addr.add] using h4
theorem cells_at {w:World} {base k:Nat} {b o i:Nat} {cs:List Value} (h:w.cells? base ((⟨b,o,none⟩:Addr).add (i*k)) k=some cs):cs.length=k∧∀j v,cs[j]? = some v→cell w.heap b (o+i*k+j)=some v:=by
 obtain ⟨_,h1,h2⟩:=World.cells?_some h;refine ⟨h1,fun j v hv=>?_⟩;have hj:j<k:=by have:=(List.getElem?_eq_some_iff.1 hv).1;omega
 have h3:=h2 j hj;rw [hv,addr_add,addr_add,cell?_eq] at h3;exact h3
theorem choose_lists {α β:Type} {R:Nat→β→α→Prop} : ∀(n:Nat),(∀i,i<n→∃y z,R i y z)→∃(os:List β) (l:List α),os.length=n∧l.length=n∧∀i (h1:i<os.length) (h2:i<l.length),R i os[i] l[i]
 | 0,_=>⟨[],[],rfl,rfl,fun i h=>absurd h (by simp)⟩
 | n+1,each=>by
  obtain ⟨os,l,g1,g2,g3⟩:=choose_lists n (fun i hi=>each i (by omega));obtain ⟨y,z,g4⟩:=each n (by omega);refine ⟨os++[y],l++[z],by simp [g1],by simp [g2],fun i h1 h2=>?_⟩;by_cases hi:i<n
  ·have e1:(os++[y])[i]=os[i]'(by omega):=List.getElem_append_left (by omega);have e2:(l++[z])[i]=l[i]'(by omega):=List.getElem_append_left (by omega);rw [e1,e2];exact g3 i _ _
  ·have hi':i=n:=by simp [g1] at h1;omega
   subst hi';have e1:(os++[y])[i]=y:=by simp [g1]
   have e2:(l++[z])[i]=z:=by simp [g2]
   rw [e1,e2];exact g4
theorem map_one {α β:Type} (f:α→β):∀l:List α,l.map f=l.flatMap fun x=>[f x]
 | []=>rfl
 | x::l=>by simp only [List.map_cons,List.flatMap_cons,←map_one f l];rfl
theorem Opn.slice {α β:Type} {f:β→List Value} {Q:Heap→β→α→Prop} {k:Nat} (ht:P.underlying t=some (.slice e)) (hk:P.cellsOf e=k) (hk0:0<k) (hf:∀o,(f o).length=k) (he:Opn P e (fun h cs a=>∃o,cs=f o∧Q h o a)) :
  Opn P t (fun h cs (l:List α)=>∃(x:SV) (os:List β),cs=[sv x]∧Sl h k (sv x) (os.flatMap f)∧All2 (Q h) os l):=by
 refine ⟨?_⟩;intro H enc w sp held fuel cs x hx;rcases DataW.trod_slice ht hx with ⟨rfl,_⟩ | ⟨a,len,cap,elems,rest,n,_,rfl,_,_,hl,hm,hlen,hel,_,_⟩
 ·exact ⟨[],(none,0,0),[],rfl,Sl.nil _ _,All2.nil⟩
 obtain ⟨b,o,spot⟩:=a;have get:∀i,i<len→∃cs,w.cells? 0 ((⟨b,o,spot⟩:Addr).add (i*k)) k=some cs∧∃z y,cs=f y∧Q w.heap y z:=fun i hi=>by
  have h1:=hel i hi;have h2:elems[i]? = some (elems[i]'(by omega)):=by simp
  rw [h2,hk,Option.bind_eq_some_iff] at h1;obtain ⟨cs,h3,h4⟩:=h1;obtain ⟨z,y,hq⟩:=he.run h4;exact ⟨cs,h3,z,y,hq⟩
 have hspot:0<len→spot=none:=fun hp=>let ⟨_,h,_⟩:=get 0 hp;cells_spot h hk0;obtain ⟨os,l,ho1,hl1,hall⟩:=choose_lists (R:=fun i y z=>Q w.heap y z∧∀j v,(f y)[j]? = some v→cell w.heap b (o+i*k+j)=some v) len (fun i hi=>by
  obtain ⟨cs,h3,z,y,rfl,hq⟩:=get i hi;have:=hspot (by omega);subst this;exact ⟨y,z,hq,(cells_at h3).2⟩)
 unfold maxLen at hm;refine ⟨l,(some ⟨b,o,spot⟩,len,cap),os,rfl,⟨_,_,_,rfl,hl,by omega,?_,fun hp=>?_⟩,by omega,fun i h1 h2=>(hall i h1 h2).1⟩
 ·rw [flat_len hf,ho1]
 ·have hs:=hspot hp;subst hs;refine ⟨b,o,rfl,fun i x hi=>?_⟩;have hlt:=(List.getElem?_eq_some_iff.1 hi).1;rw [flat_len hf,ho1] at hlt;have hdm:i=i / k*k+i%k:=by rw [Nat.mul_comm];exact (Nat.div_add_mod i k).symm
  have h1:i / k<len:=Nat.div_lt_of_lt_mul (by rw [Nat.mul_comm];exact hlt);have h2:i%k<k:=Nat.mod_lt _ hk0;rw [hdm,flat_at hf os (i / k) (i%k) (by omega) h2] at hi;rw [hdm,←Nat.add_assoc];exact (hall (i / k) (by omega) (by omega)).2 _ _ hi
theorem Opn.bytes (ht:P.underlying t=some (.slice e)) (he:P.underlying e=some (.int .u8)) (hc:P.cellsOf e=1):Opn P t (fun h cs (l:List UInt8)=>∃x:SV,cs=[sv x]∧Bytes h (sv x) l):=
 (Opn.slice (f:=fun x:UInt8=>[bv x]) (Q:=fun _ o a=>o=a) ht hc (by omega) (fun _=>rfl) ((Opn.u8 he).mono fun _ _ a h=>⟨a,a,h,rfl⟩)).mono fun h cs l ⟨x,os,h1,h2,h3⟩=>by
  have:os=l:=List.ext_getElem h3.1 fun i h4 h5=>h3.2 i h4 h5;subst this;refine ⟨os,x,h1,?_⟩;have e:=map_one bv os;unfold Bytes;rw [e];exact h2
theorem Opn.ints (ht:P.underlying t=some (.slice e)) (he:P.underlying e=some (.int .i64)) (hc:P.cellsOf e=1):Opn P t (fun h cs (l:List Int)=>∃x:SV,cs=[sv x]∧Ints h (sv x) l∧∀z∈l,-9223372036854775808≤z∧z≤9223372036854775807):=
 (Opn.slice (f:=fun x:Int=>[iv x]) (Q:=fun _ o a=>o=a∧-9223372036854775808≤a∧a≤9223372036854775807) ht hc (by omega) (fun _=>rfl) ((Opn.i64 he).mono fun _ _ a h=>⟨a,a,h.1,rfl,h.2⟩)).mono fun h cs l ⟨x,os,h1,h2,h3⟩=>by
  have:os=l:=List.ext_getElem h3.1 fun i h4 h5=>(h3.2 i h4 h5).1;subst this;refine ⟨os,x,h1,?_,fun z hz=>?_⟩
  ·have e:=map_one iv os;unfold Ints;rw [e];exact h2
  ·obtain ⟨i,hi,rfl⟩:=List.mem_iff_getElem.1 hz;exact (h3.2 i hi hi).2
theorem opn_struct {fs:Array Field} (ht:P.underlying t=some (.struct fs)) {H:Type} {enc:TypeId × Value→H} {w:World} {sp:Nat→Bool} {held:Bool} {fuel:Nat} {cs:List Value} {x:DataW H × List MemPlace} (hx:DataW.trod enc P w 0 sp held fuel t cs=some x) :
  cs.length=P.cellsOf t∧∀(i:Nat) (f:Field),fs[i]? = some f→∃n y,DataW.trod enc P w 0 sp held n f.type ((cs.drop f.offset).take (P.cellsOf f.type))=some y:=by
 obtain ⟨xs,n,_,_,h1,h2,h3⟩:=DataW.trod_struct ht hx;refine ⟨h1,fun i f hf=>?_⟩;have hi:i<xs.length:=by have:=(Array.getElem?_eq_some_iff.1 hf).1;omega
 exact ⟨n,xs[i],by rw [h3 i f hf];simp⟩
theorem opn_field {i off ft k:Nat} (hf:fdB P t i=some (off,ft,k)) {H:Type} {enc:TypeId × Value→H} {w:World} {sp:Nat→Bool} {held:Bool} {fuel:Nat} {cs:List Value} {x:DataW H × List MemPlace} (hx:DataW.trod enc P w 0 sp held fuel t cs=some x)
  {α:Type} {R:Heap→List Value→α→Prop} (o:Opn P ft R):∃a,R w.heap ((cs.drop off).take k) a:=by
 obtain ⟨fs,fd,inf,ht,hfi,rfl,rfl,h3,h4⟩:=fdB_iff hf;obtain ⟨n,y,h2⟩:=(opn_struct ht hx).2 i fd hfi;have:P.cellsOf fd.type=k:=by simp [Program.cellsOf,h3,h4]
 rw [this] at h2;exact o.run h2
theorem Opn.arg {α:Type} {R:Heap→List Value→α→Prop} (o:Opn P t R) {H:Type} {enc:TypeId × Value→H} {w:World} {sp:Nat→Bool} {held:Bool} {v:Value} {d:DataW H} {ps:List MemPlace} (h:DataW.Trod enc P w 0 sp held t v d ps):∃a,R w.heap v.cells.toList a:=
 let ⟨_,hf⟩:=h;o.run hf
end
end Go.HL
namespace Go.Proofs.YtpeaicddbnghfaaGreat
open Go Go.HL Go.ChangeShapes Go.WideShapes Go.ChangeAt Go.RowKit
theorem own_knob:ownKnob Tryz.prog.godebug=none:=by kernel_rfl
theorem laid_out:laidOutB Tryz.prog=true:=by kernel_rfl
theorem PgB.rows {h:Heap} {E:Nat→Prop} {x:SV} {l:List RB} (r:PgB h E x l):RdL h E E x (pgs l):=by
 obtain ⟨a,n,c⟩:=x;have hn:n=l.length:=r.n;refine ⟨by rw [pgs_len];exact r.n,r.m.1,r.m.2,fun hp=>?_⟩;rw [pgs_len] at hp;obtain ⟨b,o,rfl,hE⟩:=r.pos (by omega);refine ⟨b,o,rfl,hE,fun i hi=>?_⟩;have hil:i<l.length:=by rwa [pgs_len] at hi
 refine ⟨[.slice l[i].a l[i].l.length l[i].c],⟨(l[i].a,l[i].l.length,l[i].c),rfl,by rw [pgs_at hil];exact r.by' _ (List.getElem_mem hil)⟩,fun j v hj=>?_⟩;have hj0:j=0:=by have:=(List.getElem?_eq_some_iff.1 hj).1;simpa using this
 subst hj0;have:=sl_at1 RB.cells_len r.sl hil (v:=v) hj;simpa [Rep.k] using this
end Go.Proofs.YtpeaicddbnghfaaGreat
namespace Go.HL
open Go
theorem Row.tk {h:Heap} {k:Nat} {a:Option Addr} {n m:Nat} {xs:List Value} (r:Row h k a n xs) (hm:m≤n):Row h k a m (xs.take (m*k)):=by
 have:=r.cut (l:=0) (q:=m) (m:=n+1) (by omega) (by omega);rwa [Nat.zero_mul,List.drop_zero,show cutA a 0 (n+1) k=a from by unfold cutA;rw [if_neg (by omega)];cases a<;>simp [Addr.add_zero']] at this
end Go.HL
namespace Go.Proofs.YtpeaicddbnghfaaGreat
open Go Go.HL
structure PwS (A:Ah) (w:WPg) (wi:Bool) (ml:List (List UInt8)):Prop where
 lim:LimW w
 sure:PgOk w.z w.sure
 mb:wi=true→PgOk w.z ml∧ml.length≤40
 dk:A.dk.dark=true→A.dark=true
 gd:∀t l m,Out (A.dk.fs nT) t→Out (A.dk.fs nL) l→Out (A.dk.fs nM) m→Gd w.z t l m w.sure∨wi=true∧Gd w.z t l m ml
theorem Syn3.cut {d:Dk} {t l m:Option (List UInt8)} {z:Int} (S:Syn3 d t l m):Syn3 (cutN d z) t l m:=by
 have hf:(cutN d z).fs=d.fs:=by unfold cutN;split<;>rfl
 have hd:(cutN d z).dark=d.dark:=by unfold cutN;split<;>rfl
 exact ⟨hd.trans S.hd,by rw [hf];exact S.T,by rw [hf];exact S.L,by rw [hf];exact S.M⟩
theorem Syn3.len {d:Dk} {t l m:Option (List UInt8)} (S:Syn3 d t l m) (k:DkOk d):(l.getD []).length≤16777216:=by
 have:=(k.getD nL).1.now;rw [S.L] at this;cases l
 ·exact Nat.zero_le _
 ·exact this
structure RFt where
 c:UInt8
 g:UInt8
 ka:Option Addr
 kc:Nat
 kl:List UInt8
 qa:Option Addr
 qc:Nat
 ql:List UInt8
def RFt.cells (x:RFt):List Value:=[bv x.c,bv x.g,.slice x.ka x.kl.length x.kc,.slice x.qa x.ql.length x.qc]
structure LayP (D:Dk) (n b:List UInt8) (D':Dk):Prop where
 hd:D'.dark=false
 left:D'.left<0
 at':D'.fs n=synF (if b=[] then none else some b)
 ne:∀m,m≠n→D'.fs m=D.fs m
structure RFs where
 fa:Option Addr
 fc:Nat
 f:List UInt8
 ga:Option Addr
 gc:Nat
 g:List UInt8
 mb:UInt8
def RFs.cells (x:RFs):List Value:=[.slice x.fa x.f.length x.fc,.slice x.ga x.g.length x.gc,bv x.mb]
end Go.Proofs.YtpeaicddbnghfaaGreat
