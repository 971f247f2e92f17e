/- The pager that keeps a journal: what count and save leave as it was. Conditions: none. The pager that keeps a journal: cut. Conditions: the pager is in order. The pager that keeps a journal: what cut leaves as it was. Conditions: none. The pager that keeps a journal: what its functions ask of it, and that they keep that. Conditions: those that each fact names. Opening a file that a journal may have to heal, in plain terms: it has the sure pages; and so it has when the power goes within. Conditions: those that each fact names. The pager that keeps a journal: its disk within a transaction, whatever of it is safe, in plain terms. Conditions: those that each fact names. The pager that keeps a journal: what lies under its cache, page by page, and what cutting and writing do to it. Conditions: those that each fact names. The pager that keeps a journal: pages are written to its file; a commit's work on the disk, in plain terms. Conditions: those that each fact names. The pager that keeps a journal and its pages: what ties them, and that each part of a call keeps it. Conditions: those that each fact names. The pager that keeps a journal: flush. Conditions: the pager is in order. The pager that keeps a journal: a page is got from the cache or the file; a page is put into the cache. Conditions: the pager is in order. The pager that keeps a journal: a page is put into the cache; the dirty pages that are unlike the file's. Conditions: the pager is in order. -/
import Derived.Test.YtpeaicddbnghfaaGreatPkC6
set_option maxRecDepth 100000
set_option maxHeartbeats 2000000
set_option linter.all false
namespace Go.Proofs.YtpeaicddbnghfaaGreat
open Go Go.HL
structure StB (A B:Bk):Prop where
 size:B.size=A.size
 sure:B.sure=A.sure
 valid:B.valid=A.valid
 bytes:B.bytes=A.bytes
 in_:B.in_=A.in_
 now:B.now=A.now
 broken:B.broken=A.broken
 room:B.room=A.room
 L:B.L=A.L
section
variable {A:Bk} {b:List UInt8} {m:Nat} {l:List Nat}
theorem count_cases:∃d' be ma,(countB A b m).1 = { A with dk:=d',begun:=be,marked:=ma }∧(DkOk A.dk→DkOk d'∧d'.chg≤A.dk.chg+4):=by
 have k1:∀(aa:Int) (mm:Nat),DkOk A.dk→DkOk (thenN (thenN (writeN A.dk nJ aa b) fun d=>syncN d nJ) fun d=>writeN d nM (A.marked:Int) (List.replicate mm 0)).1:=fun aa mm k=>DkOk.then (DkOk.then k.write fun _ k=>k.sync) fun _ k=>k.write;have c1:∀(aa:Int) (mm:Nat),(thenN (thenN (writeN A.dk nJ aa b) fun d=>syncN d nJ) fun d=>writeN d nM (A.marked:Int) (List.replicate mm 0)).1.chg≤A.dk.chg+1+1+1:=fun aa mm=>then_chg (then_chg write_chg (fun d=>sync_chg) (by omega)) (fun d=>write_chg) (by omega);unfold countB;simp only;generalize (if A.begun=true then 28+(A.marked-1)*(A.size+8) else 0)=aa;generalize (if A.begun=true then m else m+1)=mm;have k2:=k1 (aa:Int) mm;have c2:=c1 (aa:Int) mm;revert k2 c2;generalize (thenN (thenN (writeN A.dk nJ (aa:Int) b) fun d=>syncN d nJ) fun d=>writeN d nM (A.marked:Int) (List.replicate mm 0))=r;intro k2 c2;by_cases h:r.2≠0
 ·rw [if_pos h];exact ⟨r.1,A.begun,A.marked,rfl,fun k=>⟨k2 k,by omega⟩⟩
 ·rw [if_neg h];exact ⟨(syncN r.1 nM).1,true,A.marked+mm,rfl,fun k=>⟨(k2 k).sync,Int.le_trans sync_chg (by omega)⟩⟩
theorem save_cases:∃d' be no ke ma,(saveB A l).1 = { A with dk:=d',begun:=be,nonce:=no,kept:=ke,marked:=ma }∧(DkOk A.dk→DkOk d'∧d'.chg≤A.dk.chg+4):=by
 obtain ⟨na,hn⟩:∃na,na=if A.begun=true then A.nonce else (A.dk.chg%18446744073709551616).toNat:=⟨_,rfl⟩
 obtain ⟨b0,hb⟩:∃b0,b0=if A.begun=true then [] else jheadN A.size A.sure na:=⟨_,rfl⟩
 rcases hr:saveL A.dk A.size A.sure na l b0 A.kept 0 with ⟨bb,kk,mm,e⟩;by_cases he:e=0
 ·subst he;by_cases hx:bb=[]
  ·subst hx;rw [sv_nil hn hb hr];exact ⟨A.dk,A.begun,na,kk,A.marked,rfl,fun k=>⟨k,by omega⟩⟩
  ·rw [sv_go hn hb hr hx];obtain ⟨d',be,ma,h1,h2⟩:=count_cases (A:={ A with nonce:=na,kept:=kk }) (b:=bb) (m:=mm);exact ⟨d',be,na,kk,ma,h1,h2⟩
 ·rw [sv_e hn hb hr he];exact ⟨A.dk,A.begun,na,kk,A.marked,rfl,fun k=>⟨k,by omega⟩⟩
theorem save_st:StB A (saveB A l).1:=by
 obtain ⟨d',be,no,ke,ma,h,_⟩:=save_cases (A:=A) (l:=l);rw [h];exact ⟨rfl,rfl,rfl,rfl,rfl,rfl,rfl,rfl,rfl⟩
theorem save_dk (k:DkOk A.dk):DkOk (saveB A l).1.dk∧(saveB A l).1.dk.chg≤A.dk.chg+4:=by
 obtain ⟨d',be,no,ke,ma,h,h2⟩:=save_cases (A:=A) (l:=l);rw [h];exact h2 k
end
open Go Go.HL
def rgI (v i:Nat):List Int:=(List.range i).map fun j=>((v+1+j:Nat):Int)
theorem rgI_succ {v i:Nat} : (rgI v i).map iv++[Value.int .i64 ((v+1+i:Nat):Int)]=(rgI v (i+1)).map iv:=by simp [rgI,List.range_succ,iv]
theorem rgI_len {v i:Nat} : (rgI v i).length=i:=by simp [rgI]
theorem rgI_nat {a b:Nat} : (rgI a (b-a)).map Int.toNat=rangeB a b:=by
 unfold rgI rangeB;rw [List.map_map];exact List.map_congr_left fun j _=>by simp only [Function.comp];omega
theorem rgI_mem {v i:Nat} {x:Int} (h:x∈rgI v i):(v:Int)+1≤x∧x≤v+i:=by
 obtain ⟨j,hj,rfl⟩:=List.mem_map.1 h;rw [List.mem_range] at hj;omega
theorem cut_0 {A:Bk} (h:A.bytes≤A.valid*A.size):cutB A=(A,0):=if_pos h
theorem cut_e {A:Bk} (h:¬A.bytes≤A.valid*A.size) (he:(saveB A (rangeB A.valid A.sure)).2≠0):cutB A=saveB A (rangeB A.valid A.sure):=by unfold cutB;rw [if_neg h,thenB_e he]
theorem cut_go {A B:Bk} (h:¬A.bytes≤A.valid*A.size) (he:(saveB A (rangeB A.valid A.sure)).2=0) (hB:B=(saveB A (rangeB A.valid A.sure)).1):cutB A=({ B with dk:=(truncN B.dk nT ((B.valid*B.size:Nat):Int)).1,bytes:=B.valid*B.size },(truncN B.dk nT ((B.valid*B.size:Nat):Int)).2):=by
 unfold cutB;rw [if_neg h,thenB_0 he,←hB]
theorem bcut_any {h:Heap} {p:Nat} {r:RK} {room:Int} {L:List AP} {E:Nat→Prop} (ok:Hp h (corI p r).F [corI p r] [bysI E r.rd.fs] h) (hk:DkOk r.rd.abs) (hcg:r.rd.chg<400000000) (hcz:0≤r.rd.chg) (hbg:r.begun=true→1≤r.marked) (hmk:r.marked≤1048577) (hno:r.nonce<18446744073709551616) (hokz:okZ (r.size:Int)=true) (hoj:okJ r.size r.sure=true) (hkm:∃m,r.km=some m) (hvs:r.valid≤1048576) (hvb:r.bytes≤4294967296) :
  HC Tryz.prog 157 #[.pointer (some ⟨p,0,none⟩)] h (fun v h'=>∃r' E',v=.int .i64 ((cutB (r.abs room L)).2:Int)∧r'.abs room L=(cutB (r.abs room L)).1∧(r'.d=r.d∧r'.c=r.c∧r'.km=r.km)∧CUp h h' p r r' E E'):=by
 have hsz:r.size≤4096:=by have:=okZ_le hokz;omega
 have hju:=okJ_le hoj;have hvm:r.valid*r.size≤1048576*4096:=Nat.mul_le_mul hvs hsz;have hrg:(rgI r.valid (r.sure-r.valid)).map Int.toNat=rangeB (r.abs room L).valid (r.abs room L).sure:=rgI_nat;refine HC.go Tryz.func157 57 ?_;refine .seq<|.r<|.z .asI<|.nil ?_;refine .seq<|?_;have ok:=(ok).bopn;refine .q (hm:=mixed)<|.z .mvP<|.z .nil<|.z (.fa T.fd136_0)<|.z (.fa T.fd134_2)<|.z (.ldx T.ag3 ok.m0)<|.z .mvP<|.z .nil<|.z (.fa T.fd136_2)<|.z (.ldx T.ag3 ok.m0)<|.z .mulI<|.z .asI<|.nil ?_;refine .seq<|.seq<|.r<|.z .mvP<|.z .nil<|.z (.fa T.fd136_5)<|.z (.ldx T.ag3 ok.m0)<|.z .mvI<|.z .leq<|.nil ?_;refine .cd (fun C0=>?_) (fun C0=>?_)
 ·
  refine .seq<|.r<|.z .asI<|.nil ?_;have ok:=Hp.bcls (p:=p) (kept:=r.kept) (ok);refine .ret ⟨.int .i64 0,Res.one rfl rfl,⟨(⟨r.in_,r.now,r.valid,r.begun,r.nonce,r.km,r.kept,r.marked,r.d,r.rd,r.size,r.c,r.sure,r.bytes,r.broken⟩:RK),E,(by rw [cut_0 (A:=r.abs room L) (show r.bytes≤r.valid*r.size by omega)];rfl),(by rw [cut_0 (A:=r.abs room L) (show r.bytes≤r.valid*r.size by omega)]),⟨rfl,rfl,rfl⟩,((ok).k1.e1).cup (fun _ h=>Or.inl h)⟩⟩
 refine .skip<|.seq<|.r<|.z .asS<|.nil ?_;refine .seq<|.seq<|?_;have ok:=ok.nilC (k:=1) (e:=3);refine .r<|.z .mvP<|.z .nil<|.z (.fa T.fd136_0)<|.z (.fa T.fd134_2)<|.z (.ldx T.ag3 ok.m1)<|.z (.addI (b:=1))<|.z .asI<|.nil ?_;refine .block fun K0 hK0=>.loop (fun m s hh=>∃(i:Nat) (a4:Option Addr) (n4 c4:Nat),Has s [(0,.pointer (some ⟨p,0,none⟩)),(3,.int .i64 ((r.valid*r.size:Nat):Int)),(4,.slice a4 n4 c4),(5,.int .i64 ((r.valid+1+i:Nat):Int))]∧Hp h (corI p r).F [capI 1 3 (a4,n4,c4) ((rgI r.valid i).map iv),boxI p 136 [.bool r.in_,.int .i64 (r.now:Int),.int .i64 (r.valid:Int),.bool r.begun,.int .u64 (r.nonce:Int),.map r.km,.int .i64 (r.marked:Int),.pointer (some ⟨r.d,0,none⟩),.int .i64 (r.size:Int),.pointer (some ⟨r.c,0,none⟩),.int .i64 (r.sure:Int),.int .i64 (r.bytes:Int),.bool r.broken],kepI r.km r.kept,dskI r.d r.rd] [bysI E r.rd.fs] hh∧i≤r.sure-r.valid∧m=r.sure-r.valid-i) ?_ ?_
 ·exact ⟨_,0,none,0,0,⟨rfl,rfl,rfl,rfl,trivial⟩,ok.n3.n3.n3.n3.cx (by rfl),Nat.zero_le _,rfl⟩
 rintro _ _ η1 ⟨i,a4,n4,c4,hs,ok,hi,rfl⟩ J0 hJ0;refine .frame hs fun τ=>?_;refine .seq<|.seq<|.r<|.z .mvI<|.z .mvP<|.z .nil<|.z (.fa T.fd136_4)<|.z (.ldx T.ag3 ok.m1)<|.z .leq<|.nil ?_;refine .cdr (fun C1=>?_) (fun C1=>?_)
 ·
  refine .exit<|hK0 _ _<|.seq<|.seq<|?_;have ok:=Hp.bcls (p:=p) (kept:=r.kept) (ok.n3.n3.n3);obtain rfl:i=r.sure-r.valid:=by omega
  have ok:=ok.n1;obtain rfl:n4=(rgI r.valid (r.sure-r.valid)).length:=by have:=(Cap.sl ok.m0).cells.len;simpa using this.symm
  refine .r<|.z .mvP<|.z .mvS<|?_;have ok:=(ok).frzI (l:=(rgI r.valid (r.sure-r.valid))) rfl;refine .c' 43 .func (save_any (p:=p) (r:=(⟨r.in_,r.now,r.valid,r.begun,r.nonce,r.km,r.kept,r.marked,r.d,r.rd,r.size,r.c,r.sure,r.bytes,r.broken⟩:RK)) (room:=room) (L:=L) (E:=E) (a:=a4) (c:=c4) (li:=(rgI r.valid (r.sure-r.valid))) (ok.f1).loc2 hk (show r.rd.chg<500000000 by omega) (hcz) hbg hmk hno hokz hoj (by assumption) (by rw [rgI_len];omega) (fun x hx=>by have:=rgI_mem hx;omega)) ?_;rintro _ η2 ⟨rk1,Ek1,rfl,hAk1,hdk1,upk1⟩;have hzk1:=(ok.f1).chg.size;have ok:=(ok.f1).cor upk1;have hnk1:=fun j hj=>(upk1.new j hj).elim ((fun _ h=>Or.inl h) j) fun h1=>Or.inr (Nat.le_trans hzk1 h1);have hst:=save_st (A:=r.abs room L) (l:=(rgI r.valid (r.sure-r.valid)).map Int.toNat);rw [←hAk1] at hst;have hsd:=save_dk (A:=r.abs room L) (l:=(rgI r.valid (r.sure-r.valid)).map Int.toNat) hk;rw [←hAk1] at hsd;have hkk1:DkOk rk1.rd.abs:=hsd.1;have hck1:rk1.rd.chg≤r.rd.chg+4:=hsd.2;refine .z .asI<|.nil ?_;refine .seq<|.r<|.z .mvI<|.z .neq<|.nil ?_;refine .cd (fun C2=>?_) (fun C2=>?_)
  ·
   refine .seq<|.r<|.z .mvI<|.z .asI<|.nil ?_;have hcu:=cut_e (A:=r.abs room L) (by show ¬r.bytes≤r.valid*r.size;omega) (by rw [←hrg];exact fun h=>C2 (Int.natCast_eq_zero.2 h));refine .ret ⟨.int .i64 ((saveB (RK.abs (⟨r.in_,r.now,r.valid,r.begun,r.nonce,r.km,r.kept,r.marked,r.d,r.rd,r.size,r.c,r.sure,r.bytes,r.broken⟩:RK) room L) ((rgI r.valid (r.sure-r.valid)).map Int.toNat)).2:Int),Res.one rfl rfl,⟨rk1,Ek1,(by rw [hcu,←hrg]),(by rw [hcu,←hrg];exact hAk1),hdk1,((ok).k1.e1).cup hnk1⟩⟩
  refine .skip<|.seq<|?_;have ok:=(ok).bopn;have hvz:r.valid*r.size=(rk1.valid*rk1.size):=by rw [show rk1.valid=r.valid from hst.valid,show rk1.size=r.size from hst.size]
  rw [hvz];have hnz2:(rk1.valid*rk1.size)≤4294967296:=by omega
  refine .r<|.z .mvP<|.z .mvI<|.z .nil<|.z (.fa T.fd136_5)<|.ur' (.stI T.sz3 ok) ?_;rintro η3 ⟨ok,cg⟩;refine .nil ?_;refine .seq<|.r<|.z .mvP<|.z .nil<|.z (.fa T.fd136_1)<|.z (.ldx T.ag30 ok.m0)<|.z .mvI<|.c' 56 .func (trunc_any (d:=rk1.d) (r:=rk1.rd) (E:=Ek1) (n:=nT) (z:=((rk1.valid*rk1.size:Nat):Int)) (ok.n2).loc1 hkk1 (by omega) ⟨by omega,by omega⟩) ?_;rintro _ η4 ⟨rw1,Ew1,rfl,haw1,upw1⟩;have hzw1:=(ok).chg.size;have ok:=(ok.n2).dsk (d:=rk1.d) (r:=rk1.rd) upw1;have hkw1:DkOk rw1.abs:=by rw [haw1];exact (hkk1).trunc
  have hcw1:rw1.chg≤rk1.rd.chg+1:=Int.le_trans (Int.le_of_eq (congrArg Dk.chg haw1)) trunc_chg;have hnw1:=fun j hj=>(upw1.new j hj).elim (hnk1 j) fun h1=>Or.inr (Nat.le_trans hzw1 h1);refine .z .asI<|.nil ?_;have ok:=Hp.bcls (p:=p) (kept:=rk1.kept) (ok.n2.n2);have hcu:=cut_go (A:=r.abs room L) (B:=rk1.abs room L) (by show ¬r.bytes≤r.valid*r.size;omega) (by rw [←hrg];exact Int.natCast_eq_zero.1 (Decidable.not_not.1 C2)) (by rw [←hrg];exact hAk1);refine .ret ⟨.int .i64 ((truncN rk1.rd.abs nT ((rk1.valid*rk1.size:Nat):Int)).2:Int),Res.one rfl rfl,⟨(⟨rk1.in_,rk1.now,rk1.valid,rk1.begun,rk1.nonce,rk1.km,rk1.kept,rk1.marked,rk1.d,rw1,rk1.size,rk1.c,rk1.sure,(rk1.valid*rk1.size),rk1.broken⟩:RK),Ew1,(by rw [hcu];rfl),(by rw [hcu];show RK.abs _ _ _=_;simp only [RK.abs];rw [haw1]),hdk1,((ok).k1.e1).cup hnw1⟩⟩
 refine .skip<|.seq<|.block fun K1 hK1=>.r<|.z .mvS<|.z .mvI<|.a' 39 (.lit [.tmp 38] (cs:=[.int .i64 ((r.valid+1+i:Nat):Int)]) T.el167 T.sz3 T.zr3 ok ⟨rfl,trivial⟩) ?_;rintro _ η5 ⟨pb1,rfl,ok,xe⟩;refine .a' 40 (.app (news:=[.int .i64 ((r.valid+1+i:Nat):Int)]) T.el167 T.sz3 T.by3 T.zr3 ok.n1 (ok.n1.m1).sl (oneL rfl) (by simp only [List.length_map,List.length_append,List.length_take,List.length_cons,List.length_nil,List.length_replicate,List.length_range,fixedN_len,sealN_len,rgI_len];omega)) ?_;rintro _ η6 ⟨ya1,yn1,yc1,rfl,ok,ap⟩;refine .z .asS<|.nil ?_;refine .end<|hK1 _ _<|.r<|.z .mvI<|.z (.addI (b:=1))<|.z .asI<|.nil ?_;refine .end<|hJ0 _ _ _ ⟨i+1,ya1,yn1,yc1,⟨rfl,rfl,rfl,rfl,trivial⟩,ok.n4.n4.n4.n3.k4.cx (by first | rfl | exact rgI_succ),by omega,rfl⟩ (by omega)
theorem cut_cases {A:Bk} : ∃d' be no ke ma by_,(cutB A).1 = { A with dk:=d',begun:=be,nonce:=no,kept:=ke,marked:=ma,bytes:=by_ }∧(DkOk A.dk→DkOk d'∧d'.chg≤A.dk.chg+5):=by
 by_cases h:A.bytes≤A.valid*A.size
 ·rw [cut_0 h];exact ⟨A.dk,A.begun,A.nonce,A.kept,A.marked,A.bytes,rfl,fun k=>⟨k,by omega⟩⟩
 ·obtain ⟨d',be,no,ke,ma,hs,hk⟩:=save_cases (A:=A) (l:=rangeB A.valid A.sure);by_cases he:(saveB A (rangeB A.valid A.sure)).2=0
  ·rw [cut_go h he hs.symm];exact ⟨_,be,no,ke,ma,A.valid*A.size,rfl,fun k=>⟨(hk k).1.trunc,Int.le_trans trunc_chg (by have:=(hk k).2;simp only;omega)⟩⟩
  ·rw [cut_e h he,hs];exact ⟨d',be,no,ke,ma,A.bytes,rfl,fun k=>⟨(hk k).1,by have:=(hk k).2;omega⟩⟩
structure FOk (A:Bk):Prop where
 dk:DkOk A.dk
 okz:okZ (A.size:Int)=true
 okj:okJ A.size A.sure=true
 no:A.nonce<18446744073709551616
 bg:A.begun=true→1≤A.marked
 mz:A.begun=false→A.marked=0
 mr:A.marked≤A.kept.length+1
 kn:A.kept.Nodup
 kb:∀k∈A.kept,1≤k∧k≤(A.sure:Int)
 vs:A.valid≤1048576
 nw:A.now≤1048576
 vb:A.bytes≤4294967296
theorem nd_bound:∀(n:Nat) (l:List Int),l.Nodup→(∀x∈l,1≤x∧x≤(n:Int))→l.length≤n
 | 0,[],_,_=>Nat.le_refl _
 | 0,a::l,_,h=>by have:=h a List.mem_cons_self;omega
 | n+1,l,hn,h=>by
  have key:∀x∈l.erase ((n:Int)+1),1≤x∧x≤(n:Int):=fun x hx=>by
   have h1:=(List.Nodup.mem_erase_iff hn).1 hx;have h2:=h x h1.2;have h3:=h1.1;omega
  have h4:=nd_bound n _ (hn.erase _) key;have h5:l.length≤(l.erase ((n:Int)+1)).length+1:=by
   rw [List.length_erase];split<;>omega
  omega
section
variable {A:Bk} (k:FOk A)
include k
theorem FOk.sz:A.size=256∨A.size=512∨A.size=1024∨A.size=2048∨A.size=4096:=okZ_le k.okz
theorem FOk.marked:A.marked≤1048577:=by
 have h1:=nd_bound A.sure A.kept k.kn k.kb;have:=k.mr;have:=(okJ_le k.okj).2.1;omega
end
section
variable {d:Dk} {z u na:Nat}
theorem saveL_new:∀ {l:List Nat} {b:List UInt8} {k:List Int} {m:Nat},∃new:List Int,(saveL d z u na l b k m).2.1=k++new∧(saveL d z u na l b k m).2.2.1=m+new.length∧(∀x∈new,∃no∈l,x=(no:Int)∧no≤u)∧(k.Nodup→(k++new).Nodup)
 | [],b,k,m=>⟨[],by simp [saveL],by simp [saveL],by simp,by simp⟩
 | no::l,b,k,m=>by
  have up:∀ {new:List Int},(∀x∈new,∃no∈l,x=(no:Int)∧no≤u)→∀x∈new,∃n2∈no::l,x=(n2:Int)∧n2≤u:=fun h x hx=>by
   obtain ⟨a,h1,h2⟩:=h x hx;exact ⟨a,List.mem_cons_of_mem _ h1,h2⟩
  unfold saveL;by_cases h1:u<no∨(no:Int)∈k
  ·rw [if_pos h1];obtain ⟨new,e1,e2,e3,e4⟩:=saveL_new (l:=l) (b:=b) (k:=k) (m:=m);exact ⟨new,e1,e2,up e3,e4⟩
  ·rw [if_neg h1];by_cases h2:(oldB d z no).2≠0
   ·rw [if_pos h2];exact ⟨[],by simp,by simp,by simp,by simp⟩
   ·rw [if_neg h2];obtain ⟨new,e1,e2,e3,e4⟩:=saveL_new (l:=l) (b:=b++jputN na no (oldB d z no).1) (k:=k++[(no:Int)]) (m:=m+1);refine ⟨(no:Int)::new,by rw [e1];simp,by rw [e2];simp;omega,fun x hx=>?_,fun hk=>?_⟩
    ·rcases List.mem_cons.1 hx with rfl | hx
     ·exact ⟨no,List.mem_cons_self,rfl,by omega⟩
     ·exact up e3 x hx
    ·have hn:(k++[(no:Int)]).Nodup:=List.nodup_append.2 ⟨hk,by simp,fun x hx y hy e=>by
      rw [List.mem_singleton] at hy;subst hy;subst e;exact h1 (.inr hx)⟩
     have:=e4 hn;simpa using this
end
section
variable {A:Bk} {b:List UInt8} {many:Nat} {l:List Nat}
theorem count_mk:(countB A b many).1.kept=A.kept∧(countB A b many).1.nonce=A.nonce∧(countB A b many).1.now=A.now∧(((countB A b many).1.begun=A.begun∧(countB A b many).1.marked=A.marked∧(countB A b many).2≠0)∨((countB A b many).1.begun=true∧(countB A b many).1.marked=A.marked+if A.begun=true then many else many+1)):=by
 unfold countB;simp only;generalize (thenN _ _:Dk × Nat)=r;by_cases h:r.2≠0
 ·rw [if_pos h];exact ⟨rfl,rfl,rfl,.inl ⟨rfl,rfl,h⟩⟩
 ·rw [if_neg h];exact ⟨rfl,rfl,rfl,.inr ⟨rfl,rfl⟩⟩
theorem FOk.save (k:FOk A) (hl:∀x∈l,1≤x):FOk (saveB A l).1:=by
 obtain ⟨na,hn⟩:∃na,na=if A.begun=true then A.nonce else (A.dk.chg%18446744073709551616).toNat:=⟨_,rfl⟩
 obtain ⟨b0,hb⟩:∃b0,b0=if A.begun=true then [] else jheadN A.size A.sure na:=⟨_,rfl⟩
 have hst:=save_st (A:=A) (l:=l);have hsd:=save_dk (A:=A) (l:=l) k.dk;have hna:na<18446744073709551616:=by rw [hn];split;exact k.no;omega
 obtain ⟨new,e1,e2,e3,e4⟩:=saveL_new (d:=A.dk) (z:=A.size) (u:=A.sure) (na:=na) (l:=l) (b:=b0) (k:=A.kept) (m:=0);have hkb:∀x∈A.kept++new,1≤x∧x≤(A.sure:Int):=fun x hx=>by
  rcases List.mem_append.1 hx with hx | hx
  ·exact k.kb x hx
  ·obtain ⟨no,h1,rfl,h2⟩:=e3 x hx;have:=hl no h1;omega
 have key:(saveB A l).1.nonce=na∧(saveB A l).1.kept=A.kept++new∧(((saveB A l).1.begun=A.begun∧(saveB A l).1.marked=A.marked)∨((saveB A l).1.begun=true∧(saveB A l).1.marked=A.marked+if A.begun=true then new.length else new.length+1)):=by
  rcases hr:saveL A.dk A.size A.sure na l b0 A.kept 0 with ⟨bb,kk,mm,e⟩;rw [hr] at e1 e2;simp only at e1 e2;by_cases he:e=0
  ·subst he;by_cases hx:bb=[]
   ·subst hx;rw [sv_nil hn hb hr];exact ⟨rfl,e1,.inl ⟨rfl,rfl⟩⟩
   ·rw [sv_go hn hb hr hx];obtain ⟨c1,c2,_,c3⟩:=count_mk (A:={ A with nonce:=na,kept:=kk }) (b:=bb) (many:=mm);refine ⟨c2,by rw [c1];exact e1,?_⟩;rcases c3 with ⟨c3,c4,_⟩ | ⟨c3,c4⟩
    ·exact .inl ⟨c3,c4⟩
    ·refine .inr ⟨c3,?_⟩;rw [c4,show mm=new.length by omega]
  ·rw [sv_e hn hb hr he];exact ⟨rfl,e1,.inl ⟨rfl,rfl⟩⟩
 obtain ⟨q1,q2,q3⟩:=key;have hm:=k.mr;refine ⟨hsd.1,by rw [hst.size];exact k.okz,by rw [hst.size,hst.sure];exact k.okj,by rw [q1];exact hna,fun h=>?_,fun h=>?_,?_,by rw [q2];exact e4 k.kn,by rw [q2,hst.sure];exact hkb,by rw [hst.valid];exact k.vs,by rw [hst.now];exact k.nw,by rw [hst.bytes];exact k.vb⟩
 ·rcases q3 with ⟨g1,g2⟩ | ⟨g1,g2⟩
  ·rw [g2];exact k.bg (g1▸h)
  ·rw [g2];by_cases hb:A.begun=true
   ·have:=k.bg hb;omega
   ·rw [if_neg hb];omega
 ·rcases q3 with ⟨g1,g2⟩ | ⟨g1,g2⟩
  ·rw [g2];exact k.mz (g1▸h)
  ·rw [g1] at h;cases h
 ·rw [q2,List.length_append];rcases q3 with ⟨g1,g2⟩ | ⟨g1,g2⟩
  ·omega
  ·rw [g2];by_cases hb:A.begun=true
   ·rw [if_pos hb];omega
   ·rw [if_neg hb];have:=k.mz (by simpa using hb);omega
theorem range_pos {a b x:Nat} (h:x∈rangeB a b):1≤x∧x≤max a b:=by
 obtain ⟨i,h1,rfl⟩:=List.mem_map.1 h;rw [List.mem_range] at h1;omega
theorem FOk.cut (k:FOk A):FOk (cutB A).1:=by
 by_cases h:A.bytes≤A.valid*A.size
 ·rw [cut_0 h];exact k
 ·have ks:=k.save (l:=rangeB A.valid A.sure) fun x hx=>(range_pos hx).1;by_cases he:(saveB A (rangeB A.valid A.sure)).2=0
  ·obtain ⟨B,hB⟩:∃B,B=(saveB A (rangeB A.valid A.sure)).1:=⟨_,rfl⟩;rw [cut_go h he hB];rw [←hB] at ks;exact ⟨ks.dk.trunc,ks.okz,ks.okj,ks.no,ks.bg,ks.mz,ks.mr,ks.kn,ks.kb,ks.vs,ks.nw,(show B.valid*B.size≤4294967296 from Nat.le_trans (Nat.mul_le_mul ks.vs (show B.size≤4096 by have:=ks.sz;omega)) (by decide))⟩
  ·rw [cut_e h he];exact ks
theorem cut_st:(cutB A).1.size=A.size∧(cutB A).1.sure=A.sure∧(cutB A).1.valid=A.valid∧(cutB A).1.in_=A.in_∧(cutB A).1.now=A.now∧(cutB A).1.broken=A.broken∧(cutB A).1.room=A.room∧(cutB A).1.L=A.L:=by
 obtain ⟨d',be,no,ke,ma,by_,h,_⟩:=cut_cases (A:=A);rw [h];exact ⟨rfl,rfl,rfl,rfl,rfl,rfl,rfl,rfl⟩
theorem cut_dk (k:DkOk A.dk):DkOk (cutB A).1.dk∧(cutB A).1.dk.chg≤A.dk.chg+5:=by
 obtain ⟨d',be,no,ke,ma,by_,h,h2⟩:=cut_cases (A:=A);rw [h];exact h2 k
end
section
variable {A:Bk} {f:AFr} {l:List AFr}
theorem layF_e (h:(writeN A.dk nT ((f.page-1)*A.size) f.b).2≠0):layF A (f::l)=({ A with dk:=(writeN A.dk nT ((f.page-1)*A.size) f.b).1 },(writeN A.dk nT ((f.page-1)*A.size) f.b).2):=if_pos h
theorem layF_g (h:(writeN A.dk nT ((f.page-1)*A.size) f.b).2=0):layF A (f::l)=layF { A with dk:=(writeN A.dk nT ((f.page-1)*A.size) f.b).1,bytes:=max A.bytes (f.page.toNat*A.size),valid:=max A.valid f.page.toNat } l:=if_neg (by simp [h])
end
theorem layF_app:∀ {x y:List AFr} {A:Bk},layF A (x++y)=thenB (layF A x) fun B=>layF B y
 | [],y,A=>rfl
 | f::x,y,A=>by
  show layF A (f::(x++y))=_;by_cases h:(writeN A.dk nT ((f.page-1)*A.size) f.b).2=0
  ·rw [layF_g h,layF_g h];exact layF_app
  ·rw [layF_e h,layF_e h,thenB_e (by exact h)]
theorem layF_st:∀ {l:List AFr} {A:Bk},∃d' by_ va,(layF A l).1 = { A with dk:=d',bytes:=by_,valid:=va }∧(DkOk A.dk→DkOk d'∧d'.chg≤A.dk.chg+l.length)
 | [],A=>⟨A.dk,A.bytes,A.valid,rfl,fun k=>⟨k,by simp⟩⟩
 | f::l,A=>by
  have hc:=write_chg (d:=A.dk) (n:=nT) (z:=(f.page-1)*A.size) (l:=f.b);by_cases h:(writeN A.dk nT ((f.page-1)*A.size) f.b).2=0
  ·rw [layF_g h];obtain ⟨d',by_,va,e,hk⟩:=layF_st (l:=l) (A:={ A with dk:=(writeN A.dk nT ((f.page-1)*A.size) f.b).1,bytes:=max A.bytes (f.page.toNat*A.size),valid:=max A.valid f.page.toNat });exact ⟨d',by_,va,e,fun k=>⟨(hk k.write).1,by have:=(hk k.write).2;simp only [List.length_cons];simp only at this;omega⟩⟩
  ·rw [layF_e h];exact ⟨_,A.bytes,A.valid,rfl,fun k=>⟨k.write,by simp only [List.length_cons];omega⟩⟩
theorem FOk.lay1 {A:Bk} (k:FOk A) {f:AFr} (h:1≤f.page∧f.page≤1048576) {d':Dk} (hd:DkOk d'):FOk { A with dk:=d',bytes:=max A.bytes (f.page.toNat*A.size),valid:=max A.valid f.page.toNat }:=
 ⟨hd,k.okz,k.okj,k.no,k.bg,k.mz,k.mr,k.kn,k.kb,by have:=k.vs;simp only;omega,k.nw,by
  have h1:=k.vb;have h3:f.page.toNat*A.size≤1048576*4096:=Nat.mul_le_mul (by omega) (by have:=k.sz;omega);simp only;omega⟩
theorem FOk.lay:∀ {l:List AFr} {A:Bk},FOk A→(∀f∈l,1≤f.page∧f.page≤1048576)→FOk (layF A l).1
 | [],A,k,_=>k
 | f::l,A,k,h=>by
  by_cases g:(writeN A.dk nT ((f.page-1)*A.size) f.b).2=0
  ·rw [layF_g g];exact (k.lay1 (h f List.mem_cons_self) k.dk.write).lay fun g hg=>h g (List.mem_cons_of_mem _ hg)
  ·rw [layF_e g];exact ⟨k.dk.write,k.okz,k.okj,k.no,k.bg,k.mz,k.mr,k.kn,k.kb,k.vs,k.nw,k.vb⟩
theorem flush_0 {A:Bk} : flushB A []=(A,0):=if_pos rfl
theorem flush_1 {A:Bk} {l:List AFr} (h:l≠[]) (he:(saveB A (l.map fun f=>f.page.toNat)).2≠0):flushB A l=saveB A (l.map fun f=>f.page.toNat):=by unfold flushB;rw [if_neg h,thenB_e (by rw [thenB_e he];exact he),thenB_e he]
theorem flush_2 {A B:Bk} {l:List AFr} (h:l≠[]) (he:(saveB A (l.map fun f=>f.page.toNat)).2=0) (hB:B=(saveB A (l.map fun f=>f.page.toNat)).1) (h2:(cutB B).2≠0):flushB A l=cutB B:=by unfold flushB;rw [if_neg h,thenB_0 he,←hB,thenB_e h2]
theorem flush_3 {A B C:Bk} {l:List AFr} (h:l≠[]) (he:(saveB A (l.map fun f=>f.page.toNat)).2=0) (hB:B=(saveB A (l.map fun f=>f.page.toNat)).1) (h2:(cutB B).2=0) (hC:C=(cutB B).1):flushB A l=layF C l:=by unfold flushB;rw [if_neg h,thenB_0 he,←hB,thenB_0 h2,←hC]
theorem FOk.flush {A:Bk} {l:List AFr} (k:FOk A) (h:∀f∈l,1≤f.page∧f.page≤1048576):FOk (flushB A l).1:=by
 by_cases hl:l=[]
 ·subst hl;exact k
 ·have k1:=k.save (l:=l.map fun f=>f.page.toNat) fun x hx=>by
   obtain ⟨f,hf,rfl⟩:=List.mem_map.1 hx;have:=h f hf;omega
  by_cases he:(saveB A (l.map fun f=>f.page.toNat)).2=0
  ·have k2:=k1.cut;by_cases h2:(cutB (saveB A (l.map fun f=>f.page.toNat)).1).2=0
   ·rw [flush_3 hl he rfl h2 rfl];exact k2.lay h
   ·rw [flush_2 hl he rfl h2];exact k2
  ·rw [flush_1 hl he];exact k1
theorem flush_dk {A:Bk} {l:List AFr} (k:DkOk A.dk):DkOk (flushB A l).1.dk∧(flushB A l).1.dk.chg≤A.dk.chg+9+l.length:=by
 by_cases hl:l=[]
 ·subst hl;exact ⟨k,by show A.dk.chg≤_;simp;omega⟩
 ·have k1:=save_dk (A:=A) (l:=l.map fun f=>f.page.toNat) k;by_cases he:(saveB A (l.map fun f=>f.page.toNat)).2=0
  ·have k2:=cut_dk k1.1;by_cases h2:(cutB (saveB A (l.map fun f=>f.page.toNat)).1).2=0
   ·rw [flush_3 hl he rfl h2 rfl];obtain ⟨d',by_,va,e,hk⟩:=layF_st (l:=l) (A:=(cutB (saveB A (l.map fun f=>f.page.toNat)).1).1);rw [e];have:=hk k2.1;exact ⟨this.1,by simp only;omega⟩
   ·rw [flush_2 hl he rfl h2];exact ⟨k2.1,by omega⟩
  ·rw [flush_1 hl he];exact ⟨k1.1,by omega⟩
open Go Go.HL
theorem nJ_ok:nOk nJ:=by unfold nOk nJ;decide
theorem nJT:nJ≠nT:=by decide
theorem nMJ:nM≠nJ:=by decide
def TOk (z:Nat) (T:List UInt8) (s:List (List UInt8)) (K:List Int):Prop:=∀i,i<s.length*z→((i / z:Nat):Int)+1∉K→gd T i=gd s.flatten i
theorem TOk.mono {z:Nat} {T:List UInt8} {s:List (List UInt8)} {K K':List Int} (h:TOk z T s K) (hs:∀k∈K,k∈K'):TOk z T s K':=fun i hi hk=>h i hi fun h=>hk (hs _ h)
def KeepT (z:Nat) (s:List (List UInt8)) (K:List Int) (c:Chn):Prop:=∀(k:Nat) (o:Option (List UInt8)) (i:Nat),i<s.length*z→((i / z:Nat):Int)+1∉K→gd ((crO c k o).getD []) i=gd (o.getD []) i∨gd ((crO c k o).getD []) i=gd s.flatten i
theorem KeepT.mono {z:Nat} {s:List (List UInt8)} {K K':List Int} {c:Chn} (h:KeepT z s K c) (hs:∀k∈K,k∈K'):KeepT z s K' c:=fun k o i hi hq=>h k o i hi fun h=>hq (hs _ h)
theorem KeepT.tok {z:Nat} {s:List (List UInt8)} {K:List Int} {c:Chn} (h:KeepT z s K c) (k:Nat) (o:Option (List UInt8)) (ho:TOk z (o.getD []) s K):TOk z ((crO c k o).getD []) s K:=fun i hi hq=>(h k o i hi hq).elim (fun e=>e.trans (ho i hi hq)) id
section
variable {z:Nat} {s:List (List UInt8)} {K:List Int} {p n:Nat} {b:List UInt8}
theorem pg_lt (hz:0<z) {i:Nat} (h:i<s.length*z):i / z<s.length:=(Nat.div_lt_iff_lt_mul hz).2 h
theorem keepT_w (hz:0<z) (hp:(p:Int)+1∈K∨s.length≤p) (hl:b.length≤z):KeepT z s K ⟨0,p*z,b⟩:=fun k o i hi hq=>by
 rcases crO_w (p:=p*z) (c:=b) (k:=k) (o:=o) with h | ⟨c',h1,h⟩
 ·rw [h];exact .inl rfl
 ·rw [h,Option.getD_some,gd_wrB,if_neg]
  ·exact .inl rfl
  ·intro h2;have h3:=h1.length_le;have h4:i / z=p:=(in_page hz).1 ⟨h2.1,by omega⟩;rcases hp with hp | hp
   ·rw [h4] at hq;exact hq hp
   ·have:=pg_lt hz hi;omega
theorem keepT_t (hn:∀i,i<s.length*z→n≤i→((i / z:Nat):Int)+1∈K):KeepT z s K ⟨1,n,[]⟩:=fun k o i hi hq=>by
 rcases crO_n (c:=⟨1,n,[]⟩) (k:=k) (o:=o) (by simp) with h | h
 ·rw [h];exact .inl rfl
 ·rw [h];cases o with
  | none=>exact .inl rfl
  | some b=>
   show gd (longN b n) i=gd b i∨_;rw [gd_longN];split
   ·exact .inl rfl
   ·exact absurd (hn i hi (by omega)) hq
theorem keepT_0 (h0:∀i,i<s.length*z→gd s.flatten i=0):KeepT z s K ⟨0,p,[0]⟩:=fun k o i hi hq=>by
 rcases crO_w (p:=p) (c:=[0]) (k:=k) (o:=o) with h | ⟨c',h1,h⟩
 ·rw [h];exact .inl rfl
 ·rw [h,Option.getD_some,gd_wrB];split
  ·rw [gd_pre0 h1,h0 i hi];exact .inr rfl
  ·exact .inl rfl
theorem TOk.wr {r:List Int} {cur:List UInt8} (hz:0<z) (hl:∀x∈s,x.length=z) (h:TOk z cur s (((p:Int)+1)::r)) (hb:b=s.getD p []) (hbl:b.length=z):TOk z (wrB cur (p*z) b) s r:=fun i hi hq=>by
 rw [gd_wrB];by_cases g:i / z=p
 ·rw [if_pos (by rw [hbl];exact (in_page hz).2 g),mod_page g,hb,gd_flat hl hz,g]
 ·rw [if_neg (fun g2=>g ((in_page hz).1 ⟨g2.1,by omega⟩))];refine h i hi fun h2=>?_;rcases List.mem_cons.1 h2 with h2 | h2
  ·exact g (by omega)
  ·exact hq h2
theorem TOk.all {cur:List UInt8} (hl:∀x∈s,x.length=z) (h:TOk z cur s []):longN cur (s.length*z)=s.flatten:=by
 refine ext_gd (by rw [longN_len,flat_lenZ hl]) fun i hi=>?_;rw [longN_len] at hi;rw [gd_longN,if_pos hi];exact h i hi (by simp)
theorem TOk.refl {T:List UInt8} (h:T=s.flatten):TOk z T s K:=fun i _ _=>by rw [h]
end
theorem firstF_mem:∀ {l:List Fr} {q:List Int} {f:Fr},f∈l→f.page∈q∨f.page∈(firstF q l).map (·.page)
 | a::l,q,f,h=>by
  unfold firstF;split
  ·rename_i h1;rcases List.mem_cons.1 h with rfl | h
   ·exact .inl h1
   ·exact firstF_mem h
  ·rcases List.mem_cons.1 h with rfl | h
   ·exact .inr (by simp)
   ·rcases firstF_mem (q:=q++[a.page]) h with h2 | h2
    ·rcases List.mem_append.1 h2 with h2 | h2
     ·exact .inl h2
     ·rw [List.mem_singleton.1 h2];exact .inr (by simp)
    ·exact .inr (List.mem_cons_of_mem _ h2)
theorem firstF_sub:∀ {l:List Fr} {q:List Int} {f:Fr},f∈firstF q l→f∈l
 | a::l,q,f,h=>by
  unfold firstF at h;split at h
  ·exact List.mem_cons_of_mem _ (firstF_sub h)
  ·rcases List.mem_cons.1 h with rfl | h
   ·exact List.mem_cons_self
   ·exact List.mem_cons_of_mem _ (firstF_sub h)
def JOf (z:Nat) (s:List (List UInt8)) (l:List Fr):Prop:=okJL z l∧∀f∈l,f.page≤s.length∧f.b=s.getD (f.page-1).toNat []
structure RSt (z:Nat) (s:List (List UInt8)) (K:List Int) (J M:Option (List UInt8)) (r:List Int) (d:Dk):Prop where
 J:d.fs nJ=synF J
 M:d.fs nM=synF M
 T:∃base ops cur,FSt (d.fs nT) base ops cur∧TOk z (base.getD []) s K∧(∀c∈ops,KeepT z s K c)∧TOk z (cur.getD []) s r∧(cur=none→d.fs nT=none)
def ResD (z:Nat) (s:List (List UInt8)) (K:List Int) (J M:Option (List UInt8)) (d:Dk):Prop:=∀T' J' M',Out (d.fs nT) T'→Out (d.fs nJ) J'→Out (d.fs nM) M'→M'=M∧J'=J∧TOk z (T'.getD []) s K
section
variable {z:Nat} {s:List (List UInt8)} {K r:List Int} {J M:Option (List UInt8)} {d:Dk}
theorem FSt.tok {o:Option Fl} {base cur c:Option (List UInt8)} {ops:List Chn} (st:FSt o base ops cur) (h:Out o c) (hb:TOk z (base.getD []) s K) (hk:∀c∈ops,KeepT z s K c):TOk z (c.getD []) s K:=
 st.inv (P:=fun o=>TOk z (o.getD []) s K) h hb fun c hc k o ho=>(hk c hc).tok k o ho
theorem resd_of {base cur:Option (List UInt8)} {ops:List Chn} (hJ:d.fs nJ=synF J) (hM:d.fs nM=synF M) (st:FSt (d.fs nT) base ops cur) (hb:TOk z (base.getD []) s K) (hk:∀c∈ops,KeepT z s K c):ResD z s K J M (darkD d):=fun T' J' M' h1 h2 h3=>by
 rw [show (darkD d).fs nJ=d.fs nJ from rfl,hJ] at h2;rw [show (darkD d).fs nM=d.fs nM from rfl,hM] at h3;exact ⟨h3.syn,h2.syn,st.tok h1 hb hk⟩
theorem RSt.bad (w:RSt z s K J M r d):ResD z s K J M (darkD d):=let ⟨_,_,_,st,hb,hk,_,_⟩:=w.T;resd_of w.J w.M st hb hk
theorem len_res {base cur:Option (List UInt8)} {ops:List Chn} {n:Nat} (hd:d.dark=false) (hJ:d.fs nJ=synF J) (hM:d.fs nM=synF M) (st:FSt (d.fs nT) base ops cur) (hb:TOk z (base.getD []) s K) (hk:∀c∈ops,KeepT z s K c) (hno:cur=none→d.fs nT=none) (hn:n≤16777216) (kt:KeepT z s K ⟨1,n,[]⟩) (k0:cur=none→n≠0→KeepT z s K ⟨0,n-1,[0]⟩) :
  Res d (lengthB d n) (fun d'=>d'.fs nJ=synF J∧d'.fs nM=synF M∧∃T,d'.fs nT=synF T∧T.getD []=longN (cur.getD []) n) (ResD z s K J M):=by
 have hsz:=size_st hd st;have bad:=resd_of hJ hM st hb hk;have syn:∀ {d1:Dk} {ops2:List Chn} {b:List UInt8},d1.dark=false→d1.fs nJ=synF J→d1.fs nM=synF M→FSt (d1.fs nT) base ops2 (some b)→(∀c∈ops2,KeepT z s K c)→b=longN (cur.getD []) n→Res d1 (syncN d1 nT) (fun d'=>d'.fs nJ=synF J∧d'.fs nM=synF M∧∃T,d'.fs nT=synF T∧T.getD []=longN (cur.getD []) n) (ResD z s K J M):=fun {d1 ops2 b} hd1 hJ hM st2 hk2 e=>by
  have hh:=st2.here;cases hf2:d1.fs nT with
  | none=>rw [hf2] at hh;cases hh
  | some f=>
   rw [hf2] at hh;have hs:settleF f=synF (some b):=FSt.settle (by rw [←hf2];exact st2);exact sync_res hd1 nT_ok hf2 (.inl hh) ⟨by rw [stepD'_ne nJT];exact hJ,by rw [stepD'_ne nMT];exact hM,some b,by rw [stepD'_at,hs],e⟩ (resd_of hJ hM st2 hb hk2)
 have snoc:∀ {c:Chn},KeepT z s K c→∀x∈ops++[c],KeepT z s K x:=fun h x hx=>(List.mem_append.1 hx).elim (hk x) fun h2=>by rw [List.mem_singleton.1 h2];exact h
 cases hcu:cur with
 | some b=>
  subst hcu;simp only [Option.getD_some] at hsz syn⊢;by_cases hn:b.length=n
  ·rw [len_4 (by rw [hsz];rfl) (by rw [hsz];exact hn)];exact syn hd hJ hM st hk (by rw [longN_le (by omega),←hn,List.take_length])
  ·rw [len_3 (by rw [hsz];rfl) (by rw [hsz];exact hn)];have s1:=st.chg ⟨1,n,[]⟩;have r1:Res d (truncN d nT ((n:Nat):Int)) (fun d1=>d1.fs nJ=synF J∧d1.fs nM=synF M∧FSt (d1.fs nT) base (ops++[⟨1,n,[]⟩]) (some (longN b n))) (ResD z s K J M):=
    trunc_res hd nT_ok (there_st st) (by omega) ⟨by rw [stepD'_ne nJT];exact hJ,by rw [stepD'_ne nMT];exact hM,by rw [stepD'_at];exact s1⟩ bad
   exact thenN_res (f:=fun d=>syncN d nT) r1 fun d1 hd1 g=>syn hd1 g.1 g.2.1 g.2.2 (snoc kt) rfl
 | none=>
  subst hcu;by_cases h0:n=0
  ·subst h0;rw [len_1 (by rw [hsz];rfl) rfl hd];exact .ok hd ⟨hJ,hM,none,hno rfl,rfl⟩
  ·rw [len_2 (by rw [hsz];rfl) (fun h=>h0 h.1),show ((n:Nat):Int)-1=((n-1:Nat):Int) by omega];have s1:=st.chg ⟨0,n-1,[0]⟩;have e1:doO' ⟨0,n-1,[0]⟩ none=some (longN [] n):=by
    show some (wrB [] (n-1) [0])=_;congr 1;refine ext_gd (by rw [wrB_len,longN_len];simp;omega) fun i hi=>?_;rw [wrB_len] at hi;rw [gd_wrB,gd_longN,gd_nil,gd_pre0 List.prefix_rfl,ite_self,ite_self]
   rw [e1] at s1;have r1:Res d (writeN d nT ((n-1:Nat):Int) [0]) (fun d1=>d1.fs nJ=synF J∧d1.fs nM=synF M∧FSt (d1.fs nT) base (ops++[⟨0,n-1,[0]⟩]) (some (longN [] n))) (ResD z s K J M):=
    write_res hd nT_ok (by simp;omega) ⟨by rw [stepD'_ne nJT];exact hJ,by rw [stepD'_ne nMT];exact hM,by rw [stepD'_at];exact s1⟩ bad
   exact thenN_res (f:=fun d=>syncN d nT) r1 fun d1 hd1 g=>syn hd1 g.1 g.2.1 g.2.2 (snoc (k0 rfl h0)) rfl
variable (hz:256≤z∧z≤4096) (hl:∀x∈s,x.length=z) (hf:s.length*z≤16777216)
include hz hl hf
theorem rwrites_res:∀(gs:List Fr) {d:Dk},JOf z s gs→(∀f∈gs,f.page∈K)→d.dark=false→RSt z s K J M (gs.map (·.page)) d→Res d (writesN z d gs) (RSt z s K J M []) (ResD z s K J M)
 | [],d,_,_,hd,w=>.ok hd w
 | f::gs,d,hj,hK,hd,w=>by
  obtain ⟨⟨⟨h1,h2,h3⟩,h4⟩,h5,h6⟩:=And.intro (hj.1 f List.mem_cons_self) (hj.2 f List.mem_cons_self);obtain ⟨p,hp⟩:∃p:Nat,f.page=(p:Int)+1:=⟨(f.page-1).toNat,by omega⟩;obtain ⟨base,ops,cur,st,hb,hk,hc,_⟩:=w.T;have s1:=st.chg ⟨0,p*z,f.b⟩;have e1:doO' ⟨0,p*z,f.b⟩ cur=some (wrB (cur.getD []) (p*z) f.b):=by cases cur<;>rfl
  rw [e1] at s1;rw [List.map_cons,hp] at hc;have hpz:(p+1)*z≤s.length*z:=Nat.mul_le_mul_right _ (by omega);rw [Nat.succ_mul] at hpz;have ea:(f.page-1)*(z:Int)=((p*z:Nat):Int):=by rw [hp,Int.add_sub_cancel];exact (Int.natCast_mul _ _).symm
  have r1:Res d (writeN d nT ((f.page-1)*(z:Int)) f.b) (RSt z s K J M (gs.map (·.page))) (ResD z s K J M):=by
   rw [ea];refine write_res hd nT_ok (by omega) ⟨by rw [stepD'_ne nJT];exact w.J,by rw [stepD'_ne nMT];exact w.M,base,_,_,by rw [stepD'_at];exact s1,hb,fun c hc=>?_,?_,fun h=>by cases h⟩ w.bad
   ·rcases List.mem_append.1 hc with h | h
    ·exact hk c h
    ·rw [List.mem_singleton.1 h];exact keepT_w (by omega) (.inl (by rw [←hp];exact hK f List.mem_cons_self)) (by omega)
   ·exact hc.wr (by omega) hl (by rw [h6,hp];congr 1;omega) h4
  exact thenN_res (f:=fun d=>writesN z d gs) r1 fun d1 hd1 w1=>rwrites_res gs ⟨fun g hg=>hj.1 g (List.mem_cons_of_mem _ hg),fun g hg=>hj.2 g (List.mem_cons_of_mem _ hg)⟩ (fun g hg=>hK g (List.mem_cons_of_mem _ hg)) hd1 w1
theorem rlen_res (hd:d.dark=false) (w:RSt z s K J M [] d):Res d (lengthB d (s.length*z)) (fun d'=>d'.fs nJ=synF J∧d'.fs nM=synF M∧∃T,d'.fs nT=synF T∧T.getD []=s.flatten) (ResD z s K J M):=by
 obtain ⟨base,ops,cur,st,hb,hk,hc,hno⟩:=w.T;have:=len_res hd w.J w.M st hb hk hno hf (keepT_t fun i h1 h2=>by omega) fun h _=>keepT_0 fun i hi=>by rw [←hc i hi (by simp),h];exact gd_nil i
 rw [hc.all hl] at this;exact this
end
theorem bover_res {d:Dk} {T J M:Option (List UInt8)} (hd:d.dark=false) (hT:d.fs nT=synF T) (hJ:d.fs nJ=synF J) (hM:d.fs nM=synF M) :
  Res d (overB d) (fun d'=>d'.fs nT=synF T∧d'.fs nJ=none∧d'.fs nM=none) (fun d'=>∀T' J' M',Out (d'.fs nT) T'→Out (d'.fs nJ) J'→Out (d'.fs nM) M'→T'=T∧(M'=M∧J'=J∨M'=none)):=by
 have h1:Res d (goneN d nM) (fun d'=>d'.fs nM=none∧∀m,m≠nM→d'.fs m=d.fs m) (fun d'=>∀T' J' M',Out (d'.fs nT) T'→Out (d'.fs nJ) J'→Out (d'.fs nM) M'→T'=T∧(M'=M∧J'=J∨M'=none)):=
  (gone_res hd nM_ok hM).mono (fun d' _ g=>g) fun d' b=>by
   intro T' J' M' h1 h2 h3;rw [b.2 nT nMT.symm,hT] at h1;rw [b.2 nJ nMJ.symm,hJ] at h2;exact ⟨h1.syn,(b.1 M' h3).imp (fun h=>⟨h,h2.syn⟩) id⟩
 refine thenN_res (f:=fun d=>goneN d nJ) h1 fun d1 hd1 g=>?_;refine (gone_res (c:=J) hd1 nJ_ok (by rw [g.2 nJ nMJ.symm];exact hJ)).mono (fun d' _ g2=>⟨by rw [g2.2 nT nJT.symm,g.2 nT nMT.symm];exact hT,g2.1,by rw [g2.2 nM nMJ];exact g.1⟩) fun d' b=>by
  intro T' J' M' h1 h2 h3;rw [b.2 nT nJT.symm,g.2 nT nMT.symm,hT] at h1;rw [b.2 nM nMJ,g.1] at h3;exact ⟨h1.syn,.inr (Out.syn (b:=none) h3)⟩
def GdB (z:Nat) (T J M:Option (List UInt8)) (s:List (List UInt8)):Prop:=
 if mlen M=0 then T.getD []=s.flatten else ∃na fs x,na<18446744073709551616∧JOf z s fs∧J=some (jheadN z s.length na++(jputsN na fs++x))∧mlen M≤fs.length+1∧TOk z (T.getD []) s ((fs.take (mlen M-1)).map (·.page))
theorem GdB.z0 {z:Nat} {T J M:Option (List UInt8)} {s:List (List UInt8)} (h:mlen M=0) (hT:T.getD []=s.flatten):GdB z T J M s:=by unfold GdB;rw [if_pos h];exact hT
def GdBD (z:Nat) (s:List (List UInt8)) (d:Dk):Prop:=∀T' J' M',Out (d.fs nT) T'→Out (d.fs nJ) J'→Out (d.fs nM) M'→GdB z T' J' M' s
structure SynB (d:Dk) (T J M:Option (List UInt8)):Prop where
 hd:d.dark=false
 T:d.fs nT=synF T
 J:d.fs nJ=synF J
 M:d.fs nM=synF M
def CleanB (s:List (List UInt8)) (d:Dk):Prop:=∃T,SynB d T none none∧T.getD []=s.flatten
theorem PgOk.okj {z:Nat} {s:List (List UInt8)} (p:PgOk z s):okJ z s.length=true:=okJ_t (by rw [okZ_nat];exact p.sz) (by have:=p.many;omega) (by rw [Nat.mul_comm];exact p.fit)
section
variable {d:Dk} {z:Nat} {s:List (List UInt8)}
theorem hover {J M T1:Option (List UInt8)} (h1:d.dark=false) (h2:d.fs nT=synF T1) (h3:d.fs nJ=synF J) (h4:d.fs nM=synF M) (h5:T1.getD []=s.flatten) (h6:∀T':Option (List UInt8),T'.getD []=s.flatten→GdB z T' J M s):Res d (overB d) (CleanB s) (GdBD z s):=
 (bover_res h1 h2 h3 h4).mono (fun d' hd' g'=>⟨T1,⟨hd',g'.1,g'.2.1,g'.2.2⟩,h5⟩) fun d' b=>by
  intro T' J' M' g1 g2 g3;obtain ⟨e1,e2⟩:=b T' J' M' g1 g2 g3;rcases e2 with ⟨e2,e3⟩ | e2
  ·rw [e2,e3];exact h6 T' (by rw [e1];exact h5)
  ·exact .z0 (by rw [e2];rfl) (by rw [e1];exact h5)
theorem heal_je (hd:d.dark=false) (p:PgOk z s) {na:Nat} {fs fs':List Fr} {x mb:List UInt8} (hs:na<18446744073709551616) (hj:JOf z s fs) (h0:mb≠[]) (hm:mb.length≤fs.length+1) (hfs':fs'=fs.take (mb.length-1)) (hJl:(jheadN z s.length na++(jputsN na fs++x)).length≤16777216)
  (hfJ:d.fs nJ=synF (some (jheadN z s.length na++(jputsN na fs++x)))) (hfM:d.fs nM=synF (some mb)):healB d=thenN (restoreB d z s.length fs') fun d=>if d.dark=true then (d,13) else overB d:=by
 have hpos:=List.length_pos_iff.2 h0;have stM:FSt (d.fs nM) (some mb) [] (some mb):=by rw [hfM];exact .syn _
 have hsz:=size_st hd stM;have hzb:=okSz_b p.sz;have stJ:FSt (d.fs nJ) (some (jheadN z s.length na++(jputsN na fs++x))) [] (some (jheadN z s.length na++(jputsN na fs++x))):=by rw [hfJ];exact .syn _
 have hrd:=read_st (p:=0) (z:=16777216) hd nJ_ok stJ;rw [List.drop_zero,List.take_of_length_le hJl,show ((0:Nat):Int)=0 from rfl,show ((16777216:Nat):Int)=16777216 from rfl] at hrd;obtain ⟨more,hsc⟩:=jscan_made (y:=x) (s:=na) p.okj (by omega) (by have:=p.many;omega) hs hj.1;have hn:(sizeN d nM).1=mb.length:=by rw [hsz];rfl
 have hc:(sizeN d nM).2=true∧0<(sizeN d nM).1:=⟨by rw [hsz];rfl,by omega⟩;have hJ:healJ d (sizeN d nM).1=restoreB d z s.length fs':=by
  rw [hJ_go (J:=(z,s.length,fs++more,0)) (by rw [hrd];exact hsc) (by rw [hrd];simp) (by rw [hrd,hn];simp only [List.length_append];rintro (h | h | h)<;>omega)];simp only;rw [hn,hfs',List.take_append_of_le_length (by omega)]
 unfold healB;rw [if_pos hc,hJ]
theorem heal_j (hd:d.dark=false) (p:PgOk z s) {na:Nat} {fs fs':List Fr} {x mb:List UInt8} (hs:na<18446744073709551616) (hj:JOf z s fs) (h0:mb≠[]) (hm:mb.length≤fs.length+1) (hfs':fs'=fs.take (mb.length-1)) (hJl:(jheadN z s.length na++(jputsN na fs++x)).length≤16777216)
  (w0:RSt z s (fs'.map (·.page)) (some (jheadN z s.length na++(jputsN na fs++x))) (some mb) (fs'.map (·.page)) d):Res d (healB d) (CleanB s) (GdBD z s):=by
 have hpos:=List.length_pos_iff.2 h0;have hmb:mlen (some mb)=mb.length:=rfl;have hzb:=okSz_b p.sz;rw [heal_je hd p hs hj h0 hm hfs' hJl w0.J w0.M];have hj':JOf z s fs':=by rw [hfs'];exact ⟨fun f hf=>hj.1 f (List.mem_of_mem_take hf),fun f hf=>hj.2 f (List.mem_of_mem_take hf)⟩
 have w1:RSt z s (fs'.map (·.page)) (some (jheadN z s.length na++(jputsN na fs++x))) (some mb) ((firstF [] fs').map (·.page)) d:=by
  obtain ⟨hJ0,hM0,base,ops,cur,st,hb,hk,hcu,hno⟩:=w0;exact ⟨hJ0,hM0,base,ops,cur,st,hb,hk,hcu.mono fun k hk=>by
   obtain ⟨f,hf,rfl⟩:=List.mem_map.1 hk;exact (firstF_mem (q:=[]) hf).resolve_left (by simp),hno⟩
 have r1:Res d (restoreB d z s.length fs') (fun d'=>d'.fs nJ=synF (some (jheadN z s.length na++(jputsN na fs++x)))∧d'.fs nM=synF (some mb)∧∃T,d'.fs nT=synF T∧T.getD []=s.flatten) (ResD z s (fs'.map (·.page)) (some (jheadN z s.length na++(jputsN na fs++x))) (some mb)):=
  thenN_res (f:=fun d=>lengthB d (s.length*z)) (rwrites_res hzb p.len p.fit (firstF [] fs') ⟨fun f hf=>hj'.1 f (firstF_sub hf),fun f hf=>hj'.2 f (firstF_sub hf)⟩ (fun f hf=>List.mem_map_of_mem (firstF_sub hf)) hd w1) fun d1 hd1 w1=>rlen_res hzb p.len p.fit hd1 w1
 have hgd:∀T':Option (List UInt8),TOk z (T'.getD []) s (fs'.map (·.page))→GdB z T' (some (jheadN z s.length na++(jputsN na fs++x))) (some mb) s:=fun T' h=>by
  unfold GdB;rw [if_neg (by omega)];exact ⟨na,fs,x,hs,hj,rfl,hm,by rw [hmb,←hfs'];exact h⟩
 have r2:Res d (restoreB d z s.length fs') (fun d'=>d'.fs nJ=synF (some (jheadN z s.length na++(jputsN na fs++x)))∧d'.fs nM=synF (some mb)∧∃T,d'.fs nT=synF T∧T.getD []=s.flatten) (GdBD z s):=
  r1.mono (fun _ _ g=>g) fun d' b T' J' M' g1 g2 g3=>by
   obtain ⟨e1,e2,e3⟩:=b T' J' M' g1 g2 g3;rw [e1,e2];exact hgd T' e3
 refine thenN_res (f:=fun d=>if d.dark=true then (d,13) else overB d) r2 fun d1 hd1 ⟨g1,g2,T1,g3,g4⟩=>?_;rw [if_neg (by rw [hd1];decide)];exact hover hd1 g3 g1 g2 g4 fun T' h=>hgd T' (.refl h)
theorem heal_own {T J M:Option (List UInt8)} (S:SynB d T J M) (p:PgOk z s) (g:GdB z T J M s) (hJl:(J.getD []).length≤16777216):Res d (healB d) (CleanB s) (GdBD z s):=by
 unfold GdB at g;by_cases h0:mlen M=0
 ·have stM:FSt (d.fs nM) M [] M:=by rw [S.M];exact .syn M
  have hsz:=size_st S.hd stM;rw [if_pos h0] at g;rw [heal_no (by rw [hsz];rintro ⟨_,h2⟩;unfold mlen at h0;simp only at h2;omega),if_neg (by rw [S.hd];decide)];exact hover S.hd S.T S.J S.M g fun T' h=>.z0 h0 h
 ·rw [if_neg h0] at g;obtain ⟨na,fs,x,hs,hj,rfl,hm,ht⟩:=g;obtain ⟨mb,rfl,hmb⟩:=mlen_pos h0;exact heal_j (mb:=mb) S.hd p hs hj (fun h=>h0 (by rw [h];rfl)) hm rfl hJl ⟨S.J,S.M,T,[],T,by rw [S.T];exact .syn T,ht,by simp,ht,fun h=>by rw [S.T,h];rfl⟩
end
theorem blook_own {d:Dk} {z:Nat} {s:List (List UInt8)} (p:PgOk z s) (hm:s.length≤mostB z) (c:CleanB s d):lookB d z=(s.length*z,0):=by
 obtain ⟨T,S,hT⟩:=c;have stT:FSt (d.fs nT) T [] T:=by rw [S.T];exact .syn T
 have hsz:=size_st S.hd stT;have hfl:=flat_lenZ p.len;have hzb:=okSz_b p.sz;rw [hT] at hsz;unfold lookB;by_cases h0:s=[]
 ·subst h0;rw [if_pos (.inr (by rw [hsz];rfl))];simp
 ·have hp:0<s.length:=List.length_pos_iff.2 h0;have hlz:z≤s.flatten.length:=by rw [hfl];exact Nat.le_mul_of_pos_left _ hp
  obtain ⟨b,hb⟩:∃b,T=some b:=by cases T;(rw [←hT] at hlz;simp at hlz;omega);exact ⟨_,rfl⟩
  subst hb;simp only [Option.getD_some] at hT;have hr:=read_st (p:=0) (z:=64) S.hd nT_ok stT;rw [List.drop_zero,hT,show ((0:Nat):Int)=0 from rfl,show ((64:Nat):Int)=64 from rfl] at hr;have hpg:s.flatten.take 64=(s.getD 0 []).take 64:=by
   have h1:=flat_drop p.len (i:=0) hp;rw [Nat.zero_mul,List.drop_zero] at h1;have e:s.getD 0 []=s[0]:=by simp [hp]
   rw [e,←h1,List.take_take];congr 1;omega
  have hdc:decN (s.flatten.take 64)=decN (s.getD 0 []):=by
   rw [hpg];refine decN_take ?_;have e:s.getD 0 []=s[0]:=by simp [hp]
   rw [e,p.len _ (List.getElem_mem hp)];omega
  have hh:=p.hd h0;unfold hdOk at hh;simp only [decide_eq_true_eq] at hh;have e1:(sizeN d nT).1=s.length*z:=by rw [hsz];exact hfl
  rw [if_neg (by rw [hsz];simp only;rintro (h | h);exact absurd h (by simp);omega),if_neg (by rw [hr];simp),if_neg (by rw [hr];simp only;rw [hdc,hh.2,e1];rintro (h | h);exact h hh.1;exact h (by rw [Int.natCast_mul];exact Int.mul_emod_left _ _)),if_neg (by rw [hr];simp only;rw [hdc,hh.2];simp),e1,Nat.mul_div_cancel _ (by omega),if_neg (by omega)]
open Go Go.HL
def ResB (A:Bk) (r:Bk × Nat) (G:Bk→Prop) (B:Dk→Prop):Prop:=
 (r.2=0∧r.1.dk.dark=false∧(A.dk.left<0→r.1.dk.left<0)∧G r.1)∨(r.2=13∧r.1.dk.dark=true∧0≤A.dk.left∧B r.1.dk)
section
variable {A:Bk} {r:Bk × Nat} {G G' G2:Bk→Prop} {B B':Dk→Prop}
theorem ResB.mono (h:ResB A r G B) (hG:∀A',A'.dk.dark=false→G A'→G' A') (hB:∀d',B d'→B' d'):ResB A r G' B':=
 h.imp (fun ⟨a,b,c,e⟩=>⟨a,b,c,hG _ b e⟩) fun ⟨a,b,c,e⟩=>⟨a,b,c,hB _ e⟩
theorem ResB.ok (hd:A.dk.dark=false) (h:G A):ResB A (A,0) G B:=.inl ⟨rfl,hd,id,h⟩
theorem ResB.then {f:Bk→Bk × Nat} (h:ResB A r G B) (h2:∀A1,A1.dk.dark=false→G A1→ResB A1 (f A1) G2 B):ResB A (thenB r f) G2 B:=by
 rcases h with ⟨e,hd,hl,g⟩ | ⟨e,hd,hl,b⟩
 ·rw [thenB_0 e];exact (h2 _ hd g).imp (fun ⟨a,b,c,e⟩=>⟨a,b,fun h=>c (hl h),e⟩) fun ⟨a,b,c,e⟩=>⟨a,b,by rcases Int.lt_or_le A.dk.left 0 with h | h;(have:=hl h;omega);exact h,e⟩
 ·rw [thenB_e (by omega)];exact .inr ⟨e,hd,hl,b⟩
theorem ResB.at {A':Bk} (h:ResB A r G B) (e:A.dk=A'.dk):ResB A' r G B:=by unfold ResB at h⊢;rw [←e];exact h
end
theorem thenN_assoc {a:Dk × Nat} {f g:Dk→Dk × Nat} : thenN (thenN a f) g=thenN a fun d=>thenN (f d) g:=by
 by_cases h:a.2=0
 ·rw [thenN_0 h,thenN_0 h]
 ·rw [thenN_e h,thenN_e h,thenN_e h]
theorem app_res {d:Dk} {n b:List UInt8} {O:Option (List UInt8)} (hd:d.dark=false) (hn:nOk n) (hf:d.fs n=synF O) (hb:(O.getD []).length+b.length≤16777216) :
  Res d (thenN (writeN d n (((O.getD []).length:Nat):Int) b) fun d=>syncN d n) (fun d'=>d'.fs n=synF (some (O.getD []++b))∧∀m,m≠n→d'.fs m=d.fs m) (fun d'=>(∀c',Out (d'.fs n) c'→c'=O∨∃c2,c2 <+: b∧c'=some (O.getD []++c2))∧∀m,m≠n→d'.fs m=d.fs m):=by
 have st:FSt (d.fs n) O [] O:=by rw [hf];exact .syn O
 have s1:=st.chg ⟨0,(O.getD []).length,b⟩;have e1:doO' ⟨0,(O.getD []).length,b⟩ O=some (O.getD []++b):=by
  cases O with
  | none=>show some (wrB [] _ b)=_;congr 1;exact wrB_end (b:=[])
  | some o=>show some (wrB o _ b)=_;congr 1;exact wrB_end
 rw [e1] at s1;have r1:Res d (writeN d n (((O.getD []).length:Nat):Int) b) (fun d1=>d1.fs n=some (chgF ((d.fs n).getD noF) ⟨0,(O.getD []).length,b⟩)∧∀m,m≠n→d1.fs m=d.fs m) (fun d'=>(∀c',Out (d'.fs n) c'→c'=O∨∃c2,c2 <+: b∧c'=some (O.getD []++c2))∧∀m,m≠n→d'.fs m=d.fs m):=
  write_res hd hn hb ⟨stepD'_at,fun m hm=>stepD'_ne hm⟩ ⟨fun c' hO=>.inl (by rw [show (darkD d).fs n=d.fs n from rfl,hf] at hO;exact hO.syn),fun _ _=>rfl⟩
 refine thenN_res (f:=fun d=>syncN d n) r1 fun d1 hd1 g=>?_;refine sync_res hd1 hn g.1 (.inr (by show _++[_]≠[];simp)) ⟨by rw [stepD'_at,s1.settle],fun m hm=>by rw [stepD'_ne hm];exact g.2 m hm⟩ ⟨fun c' hO=>?_,g.2⟩;rw [show (darkD d1).fs n=d1.fs n from rfl,g.1] at hO;obtain ⟨ks,rfl⟩:=s1.out hO;show crO _ _ O=O∨∃c2,c2 <+: b∧crO _ _ O=some (O.getD []++c2);rcases crO_w (p:=(O.getD []).length) (c:=b) (k:=(ks.headD 0).toNat) (o:=O) with h | ⟨c',h1,h⟩
 ·exact .inl h
 ·exact .inr ⟨c',h1,by rw [h,wrB_end]⟩
structure KB (A:Bk) (s:List (List UInt8)) (cur:Option (List UInt8)):Prop where
 hd:A.dk.dark=false
 pg:PgOk A.size s
 hm:s.length≤mostB A.size
 su:A.sure=s.length
 no:A.nonce<18446744073709551616
 ok:DkOk A.dk
 st:∃base ops,FSt (A.dk.fs nT) base ops cur∧TOk A.size (base.getD []) s A.kept∧(∀c∈ops,KeepT A.size s A.kept c)∧(A.begun=false→ops=[]∧base=cur)
 ck:TOk A.size (cur.getD []) s A.kept
 cn:cur=none→A.dk.fs nT=none
 nb:A.begun=false→A.kept=[]∧A.marked=0∧A.dk.fs nJ=none∧A.dk.fs nM=none∧cur.getD []=s.flatten
 bg:A.begun=true→∃fs,JOf A.size s fs∧A.marked=fs.length+1∧A.kept=fs.map (·.page)∧A.dk.fs nJ=synF (some (jheadN A.size s.length A.nonce++jputsN A.nonce fs))∧A.dk.fs nM=synF (some (List.replicate A.marked 0))
 kd:A.kept.Nodup
 bk:∀no:Nat,A.bytes<no*A.size→no≤A.sure→(no:Int)∈A.kept
 cl:(cur.getD []).length=A.bytes
 fit:A.bytes≤16777216
theorem pre_zeros {c:List UInt8} {n:Nat} (h:c <+: List.replicate n 0):c=List.replicate c.length 0∧c.length≤n:=by
 obtain ⟨x,hx⟩:=h;have h1:∀y∈c,y=0:=fun y hy=>List.eq_of_mem_replicate (by rw [←hx];exact List.mem_append_left _ hy);have h2:=congrArg List.length hx;simp at h2;exact ⟨List.eq_replicate_iff.2 ⟨rfl,h1⟩,by omega⟩
section
variable {A:Bk} {s:List (List UInt8)} {cur:Option (List UInt8)}
theorem KB.sz (k:KB A s cur):256≤A.size∧A.size≤4096:=okSz_b k.pg.sz
theorem KB.tok (k:KB A s cur) {T':Option (List UInt8)} (h:Out (A.dk.fs nT) T'):TOk A.size (T'.getD []) s A.kept:=by
 obtain ⟨base,ops,st,hb,hk,_⟩:=k.st;exact st.tok h hb hk
theorem KB.syn (k:KB A s cur) (hb:A.begun=false) {T':Option (List UInt8)} (h:Out (A.dk.fs nT) T'):T'=cur:=by
 obtain ⟨base,ops,st,_,_,he⟩:=k.st;obtain ⟨e1,e2⟩:=he hb;subst e1 e2;obtain ⟨ks,rfl⟩:=st.out h;rfl
theorem KB.good (k:KB A s cur):GdBD A.size s A.dk:=fun T' J' M' h1 h2 h3=>by
 cases hb:A.begun with
 | false=>
  obtain ⟨_,_,_,e,hc⟩:=k.nb hb;rw [e] at h3;exact .z0 (by rw [Out.syn (b:=none) h3];rfl) (by rw [k.syn hb h1];exact hc)
 | true=>
  obtain ⟨fs,hj,hm,hk,e1,e2⟩:=k.bg hb;rw [e1] at h2;rw [e2] at h3;unfold GdB;rw [h3.syn,h2.syn,show mlen (some (List.replicate A.marked 0))=A.marked by simp [mlen],if_neg (by omega)];refine ⟨A.nonce,fs,[],k.no,hj,by simp,by omega,?_⟩;rw [hm,Nat.add_sub_cancel,List.take_length,←hk];exact k.tok h1
theorem old_ok {d:Dk} {z no:Nat} {K:List Int} {base:Option (List UInt8)} {ops:List Chn} (hd:d.dark=false) (st:FSt (d.fs nT) base ops cur) (hz:0<z) (hl:∀x∈s,x.length=z) (hc:TOk z (cur.getD []) s K) (h1:1≤no) (h2:no≤s.length) (hn:(no:Int)∉K):oldB d z no=(s.getD (no-1) [],0):=by
 obtain ⟨p,rfl⟩:∃p,no=p+1:=⟨no-1,by omega⟩;have hp:p<s.length:=by omega
 have hg:s.getD p []=s[p]:=by simp [hp]
 have hlp:=hl s[p] (List.getElem_mem hp);have hpm:(p+1)*z≤s.length*z:=Nat.mul_le_mul_right _ h2;rw [Nat.succ_mul] at hpm;have key:∀i,i<z→gd (cur.getD []) (p*z+i)=gd s[p] i:=fun i hi=>by
  have hdv:(p*z+i) / z=p:=(in_page hz).1 ⟨by omega,by omega⟩;rw [hc (p*z+i) (by omega) (by rw [hdv];exact hn),gd_flat hl hz,hdv,hg,←mod_page hdv,Nat.add_sub_cancel_left]
 have ea:(((p+1:Nat):Int)-1)*(z:Int)=((p*z:Nat):Int):=by rw [show (((p+1:Nat):Int)-1)=(p:Int) by omega];exact (Int.natCast_mul _ _).symm
 unfold oldB;simp only;rw [ea,Nat.add_sub_cancel,hg];cases cur with
 | none=>
  rw [read_no hd nT_ok st];simp only [if_true,Prod.mk.injEq,and_true];refine ext_gd (by rw [longN_len,hlp]) fun i hi=>?_;rw [longN_len] at hi;rw [gd_longN,if_pos hi,←key i hi];rfl
 | some b=>
  rw [read_st hd nT_ok st];refine Prod.ext (ext_gd (by rw [longN_len,hlp]) fun i hi=>?_) rfl;rw [longN_len] at hi;rw [gd_longN,if_pos hi,gd_take,if_pos hi,gd_drop,←key i hi];rfl
theorem saveL_res {d:Dk} {z na:Nat} {K:List Int} {base:Option (List UInt8)} {ops:List Chn} (hd:d.dark=false) (st:FSt (d.fs nT) base ops cur) (hz:0<z) (hl:∀x∈s,x.length=z) (hs:s.length≤1048576) (hc:TOk z (cur.getD []) s K) :
  ∀(l:List Nat) {b:List UInt8} {k:List Int} {m:Nat},(∀x∈K,x∈k)→k.Nodup→(∀no∈l,1≤no)→∃new,saveL d z s.length na l b k m=(b++jputsN na new,k++new.map (·.page),m+new.length,0)∧JOf z s new∧(∀no∈l,no≤s.length→(no:Int)∈k++new.map (·.page))∧(k++new.map (·.page)).Nodup
 | [],b,k,m,_,hn,_=>⟨[],by simp [saveL,jputsN],⟨fun _ h=>(by cases h),fun _ h=>(by cases h)⟩,fun _ h=>(by cases h),by simpa using hn⟩
 | no::l,b,k,m,hK,hn,hp=>by
  have h1:=hp no List.mem_cons_self;have hp':∀no∈l,1≤no:=fun x hx=>hp x (List.mem_cons_of_mem _ hx);unfold saveL;by_cases h2:s.length<no∨(no:Int)∈k
  ·rw [if_pos h2];obtain ⟨new,e1,e2,e3,e4⟩:=saveL_res hd st hz hl hs hc l (b:=b) (m:=m) hK hn hp';refine ⟨new,e1,e2,fun x hx hx2=>?_,e4⟩;rcases List.mem_cons.1 hx with rfl | hx
   ·exact List.mem_append_left _ (h2.resolve_left (by omega))
   ·exact e3 x hx hx2
  ·rw [if_neg h2];have ho:=old_ok hd st hz hl hc h1 (by omega) fun h=>h2 (.inr (hK _ h));rw [ho,if_neg (by simp)];have hnd:(k++[(no:Int)]).Nodup:=List.nodup_append.2 ⟨hn,by simp,fun x hx y hy e=>by
    rw [List.mem_singleton] at hy;subst hy;subst e;exact h2 (.inr hx)⟩
   obtain ⟨new,e1,e2,e3,e4⟩:=saveL_res hd st hz hl hs hc l (b:=b++jputN na no (s.getD (no-1) [])) (k:=k++[(no:Int)]) (m:=m+1) (fun x hx=>List.mem_append_left _ (hK x hx)) hnd hp';have h3:no≤s.length:=Nat.le_of_not_lt fun h=>h2 (.inl h);refine ⟨⟨(no:Int),0,s.getD (no-1) []⟩::new,?_,⟨fun f hf=>?_,fun f hf=>?_⟩,fun x hx hx2=>?_,by simpa using e4⟩
   ·refine (show _=saveL d z s.length na l (b++jputN na no (s.getD (no-1) [])) (k++[(no:Int)]) (m+1) from rfl).trans (e1.trans ?_);simp only [jputsN,List.map_cons,List.length_cons,Int.toNat_natCast,List.append_assoc,List.cons_append,List.nil_append];rw [show m+1+new.length=m+(new.length+1) by omega]
   ·rcases List.mem_cons.1 hf with rfl | hf
    ·refine ⟨⟨by simp only;omega,by simp only;omega,rfl⟩,?_⟩;have:s.getD (no-1) []=s[no-1]'(by omega):=by rw [List.getD_eq_getElem?_getD,List.getElem?_eq_getElem (by omega)];rfl
     simp only;rw [this];exact hl _ (List.getElem_mem _)
    ·exact e2.1 f hf
   ·rcases List.mem_cons.1 hf with rfl | hf
    ·exact ⟨by have:=Nat.le_of_not_lt fun h=>h2 (.inl h);simp only;omega,by simp only;congr 1;rw [show ((no:Int)-1).toNat=no-1 by omega]⟩
    ·exact e2.2 f hf
   ·rcases List.mem_cons.1 hx with rfl | hx
    ·simp
    ·have:=e3 x hx hx2;simpa using this
theorem JOf.app {z:Nat} {a b:List Fr} (h1:JOf z s a) (h2:JOf z s b):JOf z s (a++b):=
 ⟨fun f hf=>(List.mem_append.1 hf).elim (h1.1 f) (h2.1 f),fun f hf=>(List.mem_append.1 hf).elim (h1.2 f) (h2.2 f)⟩
theorem most_fit {z n:Nat} (hz:256≤z) (h:n≤mostB z):n*(z+8)≤16777188:=by
 have h1:n*(z+8)≤mostB z*(z+8):=Nat.mul_le_mul_right _ h;exact Nat.le_trans h1 (Nat.div_mul_le_self _ _)
theorem JOf.few {z:Nat} {l:List Fr} (h:JOf z s l) (hn:(l.map (·.page)).Nodup):l.length≤s.length:=by
 have:=nd_bound s.length (l.map (·.page)) hn fun x hx=>by
  obtain ⟨f,hf,rfl⟩:=List.mem_map.1 hx;exact ⟨(h.1 f hf).1.1,(h.2 f hf).1⟩
 simpa using this
end
theorem count_res {A:Bk} {J0 M0:Option (List UInt8)} {b:List UInt8} {m mm at_:Nat} (hd:A.dk.dark=false) (hJ:A.dk.fs nJ=synF J0) (hM:A.dk.fs nM=synF M0) (hat:at_=if A.begun=true then 28+(A.marked-1)*(A.size+8) else 0) (hmm:mm=if A.begun=true then m else m+1) (ha:at_=(J0.getD []).length) (hk:A.marked=(M0.getD []).length) (f1:at_+b.length≤16777216) (f2:A.marked+mm≤16777216) :
  ResB A (countB A b m) (fun B=>∃d',B = { A with dk:=d',begun:=true,marked:=A.marked+mm }∧d'.fs nJ=synF (some (J0.getD []++b))∧d'.fs nM=synF (some (M0.getD []++List.replicate mm 0))∧d'.fs nT=A.dk.fs nT∧d'=(countB A b m).1.dk)
   (fun d'=>d'.fs nT=A.dk.fs nT∧∀J' M',Out (d'.fs nJ) J'→Out (d'.fs nM) M'→(M'=M0∧(J'=J0∨∃c2,c2 <+: b∧J'=some (J0.getD []++c2)))∨(J'=some (J0.getD []++b)∧(M'=M0∨∃c2,c2 <+: List.replicate mm 0∧M'=some (M0.getD []++c2)))):=by
 have hR:Res A.dk (thenN (thenN (writeN A.dk nJ (at_:Int) b) fun d=>syncN d nJ) fun d=>thenN (writeN d nM (A.marked:Int) (List.replicate mm 0)) fun d=>syncN d nM)
   (fun d'=>d'.fs nJ=synF (some (J0.getD []++b))∧d'.fs nM=synF (some (M0.getD []++List.replicate mm 0))∧d'.fs nT=A.dk.fs nT)
   (fun d'=>d'.fs nT=A.dk.fs nT∧∀J' M',Out (d'.fs nJ) J'→Out (d'.fs nM) M'→(M'=M0∧(J'=J0∨∃c2,c2 <+: b∧J'=some (J0.getD []++c2)))∨(J'=some (J0.getD []++b)∧(M'=M0∨∃c2,c2 <+: List.replicate mm 0∧M'=some (M0.getD []++c2)))):=by
  rw [ha,hk];refine thenN_res (f:=fun d=>thenN (writeN d nM (((M0.getD []).length:Nat):Int) (List.replicate mm 0)) fun d=>syncN d nM) ((app_res hd nJ_ok hJ (by omega)).mono (G':=fun d'=>d'.fs nJ=synF (some (J0.getD []++b))∧∀m,m≠nJ→d'.fs m=A.dk.fs m) (fun _ _ g=>g) fun d' g=>⟨g.2 nT nJT.symm,fun J' M' h1 h2=>?_⟩) fun d1 hd1 g=>?_
  ·rw [g.2 nM nMJ,hM] at h2;exact .inl ⟨h2.syn,g.1 J' h1⟩
  ·refine (app_res hd1 nM_ok (by rw [g.2 nM nMJ];exact hM) (by rw [List.length_replicate];omega)).mono (fun d' _ g2=>⟨by rw [g2.2 nJ nMJ.symm];exact g.1,g2.1,by rw [g2.2 nT nMT.symm,g.2 nT nJT.symm]⟩) fun d' g2=>⟨by rw [g2.2 nT nMT.symm,g.2 nT nJT.symm],fun J' M' h1 h2=>?_⟩;rw [g2.2 nJ nMJ.symm,g.1] at h1;exact .inr ⟨h1.syn,g2.1 M' h2⟩
 rw [←thenN_assoc] at hR;unfold countB;simp only;rw [←hat,←hmm];revert hR;generalize (thenN (thenN (writeN A.dk nJ (at_:Int) b) fun d=>syncN d nJ) fun d=>writeN d nM (A.marked:Int) (List.replicate mm 0))=r;intro hR;by_cases h:r.2=0
 ·rw [if_neg (by simp [h])];rw [thenN_0 h] at hR;rcases hR with ⟨e,h1,h2,g⟩ | ⟨e,h1,h2,g⟩
  ·exact .inl ⟨e,h1,h2,_,rfl,g.1,g.2.1,g.2.2,rfl⟩
  ·exact .inr ⟨e,h1,h2,g⟩
 ·rw [if_pos h];rw [thenN_e h] at hR;rcases hR with ⟨e,h1,h2,g⟩ | ⟨e,h1,h2,g⟩
  ·exact absurd e h
  ·exact .inr ⟨e,h1,h2,g⟩
section
variable {A:Bk} {s:List (List UInt8)} {cur:Option (List UInt8)}
theorem Bk.same {A:Bk} {na:Nat} {ke:List Int} (h1:na=A.nonce) (h2:ke=A.kept):({ A with nonce:=na,kept:=ke } : Bk)=A:=by subst h1 h2;rfl
theorem KB.st_up (k:KB A s cur) {K':List Int} (hs:∀x∈A.kept,x∈K'):∃base ops,FSt (A.dk.fs nT) base ops cur∧TOk A.size (base.getD []) s K'∧(∀c∈ops,KeepT A.size s K' c):=by
 obtain ⟨base,ops,st,hb,hk,_⟩:=k.st;exact ⟨base,ops,st,hb.mono hs,fun c hc=>(hk c hc).mono hs⟩
theorem KB.save (k:KB A s cur) {l:List Nat} (hl:∀no∈l,1≤no):ResB A (saveB A l) (fun B=>KB B s cur∧B.begun=true∧(∀x∈A.kept,x∈B.kept)∧∀no∈l,no≤s.length→(no:Int)∈B.kept) (GdBD A.size s):=by
 obtain ⟨na,hn⟩:∃na,na=if A.begun=true then A.nonce else (A.dk.chg%18446744073709551616).toNat:=⟨_,rfl⟩
 obtain ⟨b0,hb⟩:∃b0,b0=if A.begun=true then [] else jheadN A.size A.sure na:=⟨_,rfl⟩
 have hna:na<18446744073709551616:=by rw [hn];split;exact k.no;omega
 have hst:=save_st (A:=A) (l:=l);have hsd:=save_dk (A:=A) (l:=l) k.ok;obtain ⟨base,ops,st,hb1,hk1,_⟩:=k.st;have hzb:=k.sz;obtain ⟨new,e1,e2,e3,e4⟩:=saveL_res (na:=na) k.hd st (by omega) k.pg.len (by have:=k.pg.many;omega) k.ck l (b:=b0) (k:=A.kept) (m:=0) (fun _ h=>h) k.kd hl;rw [←k.su,Nat.zero_add] at e1;have hgood:∀ {d':Dk} (hdT:d'.fs nT=A.dk.fs nT) {T':Option (List UInt8)},Out (d'.fs nT) T'→TOk A.size (T'.getD []) s A.kept:=fun hdT T' h=>by rw [hdT] at h;exact k.tok h
 cases hbe:A.begun with
 | true=>
  obtain ⟨fs,hj,hm,hke,hJ,hM⟩:=k.bg hbe;have hna':na=A.nonce:=by rw [hn,if_pos hbe]
  have hb':b0=[]:=by rw [hb,if_pos hbe]
  rw [hb',List.nil_append] at e1;by_cases h0:new=[]
  ·subst h0;rw [sv_nil hn hb (by rw [hb'];exact e1),Bk.same hna' (by simp)];exact .ok k.hd ⟨k,hbe,fun _ h=>h,fun no h1 h2=>by simpa using e3 no h1 h2⟩
  ·have hne:jputsN na new≠[]:=fun h=>by
    have h1:=congrArg List.length h;rw [jputsN_len e2.1] at h1;rcases Nat.mul_eq_zero.1 h1 with h2 | h2
    ·exact h0 (List.eq_nil_of_length_eq_zero h2)
    ·omega
   rw [sv_go hn hb (by rw [hb'];exact e1) hne];have hall:JOf A.size s (fs++new):=hj.app e2;have hnd:((fs++new).map (·.page)).Nodup:=by rw [List.map_append,←hke];exact e4
   have hfew:=hall.few hnd;rw [List.length_append] at hfew;have hmf:=most_fit (by omega) (Nat.le_trans hfew k.hm);have hmr:=k.pg.many;rw [Nat.add_mul] at hmf;have hJl:(jheadN A.size s.length A.nonce++jputsN A.nonce fs).length=28+fs.length*(A.size+8):=by rw [List.length_append,jheadN_len,jputsN_len hj.1]
   have hc:=count_res (A:={ A with nonce:=na,kept:=A.kept++new.map (·.page) }) (J0:=some (jheadN A.size s.length A.nonce++jputsN A.nonce fs)) (M0:=some (List.replicate A.marked 0)) (b:=jputsN na new) (m:=new.length) (mm:=new.length) (at_:=28+fs.length*(A.size+8)) k.hd hJ hM (by rw [if_pos hbe,hm,Nat.add_sub_cancel]) (by rw [if_pos hbe]) hJl.symm (by simp) (by rw [jputsN_len e2.1];omega) (by simp only;omega);refine (ResB.mono (A:={ A with nonce:=na,kept:=A.kept++new.map (·.page) }) hc ?_ ?_).at rfl
   ·rintro _ hd' ⟨d',rfl,g1,g2,g3,g4⟩;have hup:∀x∈A.kept,x∈A.kept++new.map (·.page):=fun x hx=>List.mem_append_left _ hx;obtain ⟨base,ops,st,hb1,hk1⟩:=k.st_up hup;have hok:DkOk d':=by have:=hsd.1;rw [sv_go hn hb (by rw [hb'];exact e1) hne] at this;rw [g4];exact this
    exact ⟨⟨hd',k.pg,k.hm,k.su,hna,hok,⟨base,ops,by rw [g3];exact st,hb1,hk1,fun h=>by cases h⟩,k.ck.mono hup,fun h=>by rw [g3];exact k.cn h,fun h=>(by cases h),
     fun _=>⟨fs++new,hall,by simp only [List.length_append];omega,by simp only [List.map_append];rw [←hke],by rw [g1,jputsN_app,←hna'];simp,by rw [g2];simp [List.replicate_append_replicate]⟩,e4,fun no h1 h2=>hup _ (k.bk no h1 h2),k.cl,k.fit⟩,rfl,hup,e3⟩
   ·rintro d' ⟨g1,g2⟩ T' J' M' h1 h2 h3;have ht:=hgood g1 h1;rcases g2 J' M' h2 h3 with ⟨rfl,g⟩ | ⟨rfl,g⟩
    ·have hx:∃x,J'=some (jheadN A.size s.length A.nonce++(jputsN A.nonce fs++x)):=by
      rcases g with rfl | ⟨c2,_,rfl⟩
      ·exact ⟨[],by simp⟩
      ·exact ⟨c2,by simp⟩
     obtain ⟨x,rfl⟩:=hx;unfold GdB;rw [show mlen (some (List.replicate A.marked 0))=A.marked by simp [mlen],if_neg (by omega)];exact ⟨A.nonce,fs,x,k.no,hj,rfl,by omega,by rw [hm,Nat.add_sub_cancel,List.take_length,←hke];exact ht⟩
    ·have hx:∃j,j≤new.length∧mlen M'=A.marked+j:=by
      rcases g with rfl | ⟨c2,hc2,rfl⟩
      ·exact ⟨0,by omega,by simp [mlen]⟩
      ·exact ⟨c2.length,(pre_zeros hc2).2,by simp [mlen]⟩
     obtain ⟨j,hj1,hj2⟩:=hx;unfold GdB;rw [hj2,if_neg (by omega)];refine ⟨na,fs++new,[],hna,hall,by rw [jputsN_app,hna'];simp,by rw [List.length_append];omega,ht.mono fun x hx=>?_⟩;rw [hm,show fs.length+1+j-1=fs.length+j by omega,List.take_append,List.take_of_length_le (by omega),List.map_append,←hke];exact List.mem_append_left _ hx
 | false=>
  obtain ⟨hke,hmk,hJ,hM,hcu⟩:=k.nb hbe;have hb':b0=jheadN A.size s.length na:=by rw [hb,if_neg (by rw [hbe];decide),k.su]
  rw [hb'] at e1;have hne:jheadN A.size s.length na++jputsN na new≠[]:=fun h=>by have:=congrArg List.length h;rw [List.length_append,jheadN_len] at this;simp at this
  rw [sv_go hn hb (by rw [hb'];exact e1) hne];rw [hke,List.nil_append] at e1 e4;have hfew:=e2.few e4;have hmf:=most_fit (by omega) (Nat.le_trans hfew k.hm);have hmr:=k.pg.many;have hJl:(jheadN A.size s.length na++jputsN na new).length=28+new.length*(A.size+8):=by rw [List.length_append,jheadN_len,jputsN_len e2.1]
  have hc:=count_res (A:={ A with nonce:=na,kept:=A.kept++new.map (·.page) }) (J0:=none) (M0:=none) (b:=jheadN A.size s.length na++jputsN na new) (m:=new.length) (mm:=new.length+1) (at_:=0) k.hd hJ hM (by rw [if_neg (by simp only;rw [hbe];decide)]) (by rw [if_neg (by simp only;rw [hbe];decide)]) rfl hmk (by rw [hJl];omega) (by simp only;omega);refine (ResB.mono (A:={ A with nonce:=na,kept:=A.kept++new.map (·.page) }) hc ?_ ?_).at rfl
  ·rintro _ hd' ⟨d',rfl,g1,g2,g3,g4⟩;have hup:∀x∈A.kept,x∈A.kept++new.map (·.page):=fun x hx=>List.mem_append_left _ hx;obtain ⟨base,ops,st,hb1,hk1⟩:=k.st_up hup;have hok:DkOk d':=by have:=hsd.1;rw [sv_go hn hb (by rw [hb',hke];exact e1) hne] at this;rw [g4,hke,List.nil_append];exact this
   exact ⟨⟨hd',k.pg,k.hm,k.su,hna,hok,⟨base,ops,by rw [g3];exact st,hb1,hk1,fun h=>by cases h⟩,k.ck.mono hup,fun h=>by rw [g3];exact k.cn h,fun h=>(by cases h),
    fun _=>⟨new,e2,by simp only;omega,by simp only;rw [hke,List.nil_append],by rw [g1];simp,by rw [g2];simp only;rw [hmk];simp⟩,by simp only;rw [hke,List.nil_append];exact e4,fun no h1 h2=>hup _ (k.bk no h1 h2),k.cl,k.fit⟩,rfl,hup,e3⟩
  ·rintro d' ⟨g1,g2⟩ T' J' M' h1 h2 h3;rw [g1] at h1;have hT:T'.getD []=s.flatten:=by rw [k.syn hbe h1];exact hcu
   rcases g2 J' M' h2 h3 with ⟨rfl,g⟩ | ⟨rfl,g⟩
   ·exact .z0 rfl hT
   ·rcases g with rfl | ⟨c2,hc2,rfl⟩
    ·exact .z0 rfl hT
    ·by_cases h0:c2=[]
     ·subst h0;exact .z0 rfl hT
     ·have hl2:=(pre_zeros hc2).2;have hp2:=List.length_pos_iff.2 h0;unfold GdB;have em:mlen (some ((none:Option (List UInt8)).getD []++c2))=c2.length:=by simp [mlen]
      rw [em,if_neg (by omega)];exact ⟨na,new,[],hna,e2,by simp,by omega,.refl hT⟩
end
open Go Go.HL
structure Sm (A B:Bk):Prop where
 size:B.size=A.size
 sure:B.sure=A.sure
 in_:B.in_=A.in_
 now:B.now=A.now
 broken:B.broken=A.broken
 room:B.room=A.room
 L:B.L=A.L
theorem Sm.refl (A:Bk):Sm A A:=⟨rfl,rfl,rfl,rfl,rfl,rfl,rfl⟩
theorem Sm.trans {A B C:Bk} (a:Sm A B) (b:Sm B C):Sm A C:=⟨b.size.trans a.size,b.sure.trans a.sure,b.in_.trans a.in_,b.now.trans a.now,b.broken.trans a.broken,b.room.trans a.room,b.L.trans a.L⟩
theorem StB.sm {A B:Bk} (h:StB A B):Sm A B:=⟨h.size,h.sure,h.in_,h.now,h.broken,h.room,h.L⟩
theorem cut_sm {A:Bk} : Sm A (cutB A).1:=let ⟨a,b,_,d,e,f,g,h⟩:=cut_st (A:=A);⟨a,b,d,e,f,g,h⟩
theorem layF_sm {A:Bk} {l:List AFr} : Sm A (layF A l).1:=by
 obtain ⟨d',by_,va,h,_⟩:=layF_st (l:=l) (A:=A);rw [h];exact ⟨rfl,rfl,rfl,rfl,rfl,rfl,rfl⟩
def pgAt (z:Nat) (cur:List UInt8) (i:Nat):List UInt8:=longN ((cur.drop (i*z)).take z) z
def upg (A:Bk) (cur:List UInt8) (i:Nat):List UInt8:=if A.in_=true∧A.valid≤i then List.replicate A.size 0 else pgAt A.size cur i
theorem pgAt_len {z i:Nat} {cur:List UInt8} : (pgAt z cur i).length=z:=longN_len _ _
theorem gd_pgAt {z i j:Nat} {cur:List UInt8} (h:j<z):gd (pgAt z cur i) j=gd cur (i*z+j):=by unfold pgAt;rw [gd_longN,if_pos h,gd_take,if_pos h,gd_drop]
theorem pgAt_ext {z i:Nat} {cur b:List UInt8} (hb:b.length=z) (h:∀j,j<z→gd cur (i*z+j)=gd b j):pgAt z cur i=b:=by
 refine ext_gd (by rw [pgAt_len,hb]) fun j hj=>?_;rw [pgAt_len] at hj;rw [gd_pgAt hj];exact h j hj
theorem pgAt_congr {z i:Nat} {c c':List UInt8} (h:∀j,j<z→gd c (i*z+j)=gd c' (i*z+j)):pgAt z c i=pgAt z c' i:=pgAt_ext pgAt_len fun j hj=>by rw [gd_pgAt hj];exact h j hj
theorem old_cur {d:Dk} {z i:Nat} {base cur:Option (List UInt8)} {ops:List Chn} (hd:d.dark=false) (st:FSt (d.fs nT) base ops cur):oldB d z (i+1)=(pgAt z (cur.getD []) i,0):=by
 have ea:(((i+1:Nat):Int)-1)*(z:Int)=((i*z:Nat):Int):=by rw [show (((i+1:Nat):Int)-1)=(i:Int) by omega];exact (Int.natCast_mul _ _).symm
 unfold oldB;simp only;rw [ea];cases cur with
 | none=>rw [read_no hd nT_ok st];simp [pgAt]
 | some b=>rw [read_st hd nT_ok st];rfl
theorem flat_pg {z i:Nat} {s:List (List UInt8)} (hl:∀x∈s,x.length=z) (hi:i<s.length):pgAt z s.flatten i=s.getD i []:=by
 have e:s.getD i []=s[i]:=by simp [hi]
 unfold pgAt;rw [flat_drop hl hi,e,longN_le (by rw [hl _ (List.getElem_mem hi)];exact Nat.le_refl _),List.take_of_length_le (by rw [hl _ (List.getElem_mem hi)];exact Nat.le_refl _)]
section
variable {A:Bk} {s:List (List UInt8)} {cur:Option (List UInt8)} {no:Nat}
theorem under_upg (k:KB A s cur) (h1:1≤no):underB A no=(upg A (cur.getD []) (no-1),0):=by
 obtain ⟨i,rfl⟩:∃i,no=i+1:=⟨no-1,by omega⟩;obtain ⟨base,ops,st,_⟩:=k.st;unfold underB upg;rw [Nat.add_sub_cancel];by_cases h:A.in_=true∧A.valid≤i
 ·rw [if_pos h,if_pos ⟨h.1,by omega⟩]
 ·rw [if_neg h,if_neg (fun g=>h ⟨g.1,by omega⟩)];exact old_cur k.hd st
theorem tok_w {z p:Nat} {T b:List UInt8} {K:List Int} (hz:0<z) (h:TOk z T s K) (hp:(p:Int)+1∈K∨s.length≤p) (hl:b.length≤z):TOk z (wrB T (p*z) b) s K:=fun i hi hq=>by
 rw [gd_wrB,if_neg,h i hi hq];intro h2;have h4:i / z=p:=(in_page hz).1 ⟨h2.1,by omega⟩;rcases hp with hp | hp
 ·rw [h4] at hq;exact hq hp
 ·have:=pg_lt hz hi;omega
theorem KB.cut (k:KB A s cur) (hin:A.in_=true) (hv:A.valid*A.size≤16777216):ResB A (cutB A) (fun B=>∃cur',KB B s cur'∧Sm A B∧B.valid=A.valid∧B.bytes≤A.valid*A.size∧(A.valid*A.size≤A.bytes→A.valid*A.size≤B.bytes)∧(A.begun=true→B.begun=true)∧(∀x∈A.kept,x∈B.kept)∧(∀i,upg B (cur'.getD []) i=upg A (cur.getD []) i)) (GdBD A.size s):=by
 by_cases h:A.bytes≤A.valid*A.size
 ·rw [cut_0 h];exact .ok k.hd ⟨cur,k,.refl A,rfl,h,id,id,fun _ h=>h,fun _=>rfl⟩
 ·have hs:=k.save (l:=rangeB A.valid A.sure) fun no h=>(range_pos h).1;have hst:=save_st (A:=A) (l:=rangeB A.valid A.sure);unfold cutB;rw [if_neg h];have hs2:ResB A (saveB A (rangeB A.valid A.sure)) (fun B=>KB B s cur∧B.begun=true∧(∀x∈A.kept,x∈B.kept)∧(∀no∈rangeB A.valid A.sure,no≤s.length→(no:Int)∈B.kept)∧StB A B) (GdBD A.size s):=by
   rcases hs with ⟨a,b,c,g⟩ | g
   ·exact .inl ⟨a,b,c,g.1,g.2.1,g.2.2.1,g.2.2.2,hst⟩
   ·exact .inr g
  refine hs2.then fun B hd ⟨kB,hbe,hup,hin2,hsB⟩=>?_;have hzb:=kB.sz;have ez:B.valid*B.size=A.valid*A.size:=by rw [hsB.valid,hsB.size]
  have hlen:=kB.cl;rw [hsB.bytes] at hlen;obtain ⟨b,rfl⟩:∃b,cur=some b:=by cases cur;(simp at hlen;omega);exact ⟨_,rfl⟩
  simp only [Option.getD_some] at hlen;obtain ⟨base,ops,st,hb,hk,_⟩:=kB.st;have s1:=st.chg ⟨1,B.valid*B.size,[]⟩;have hin3:∀no:Nat,A.valid<no→no≤A.sure→(no:Int)∈B.kept:=fun no h1 h2=>hin2 no (List.mem_map.2 ⟨no-A.valid-1,by rw [List.mem_range];omega,by omega⟩) (by rw [←k.su];exact h2);have hkt:KeepT B.size s B.kept ⟨1,B.valid*B.size,[]⟩:=keepT_t fun i h1 h2=>by
   have h3:i / B.size<s.length:=pg_lt (by omega) h1;have h4:B.valid≤i / B.size:=(Nat.le_div_iff_mul_le (by omega)).2 h2;have:=hin3 (i / B.size+1) (by rw [←hsB.valid];omega) (by rw [k.su];omega);simpa using this
  have hcl:(longN b (B.valid*B.size)).length=B.valid*B.size:=longN_len _ _;have r:=trunc_res (G:=fun d'=>d'.fs nJ=B.dk.fs nJ∧d'.fs nM=B.dk.fs nM∧FSt (d'.fs nT) base (ops++[⟨1,B.valid*B.size,[]⟩]) (some (longN b (B.valid*B.size)))) (B:=GdBD A.size s) hd nT_ok (there_st st) (z:=B.valid*B.size) (by omega) ⟨by rw [stepD'_ne nJT],by rw [stepD'_ne nMT],by rw [stepD'_at];exact s1⟩ (by have:=kB.good;rw [hsB.size] at this;exact this);refine (show ResB B _ _ _ from r.imp (fun ⟨a1,a2,a3,a4⟩=>⟨a1,a2,a3,?_⟩) fun ⟨a1,a2,a3,a4⟩=>⟨a1,a2,a3,a4⟩);obtain ⟨g1,g2,g3⟩:=a4;refine ⟨some (longN b (B.valid*B.size)),⟨a2,kB.pg,kB.hm,kB.su,kB.no,kB.ok.trunc,⟨base,_,g3,hb,fun c hc=>?_,fun h=>absurd hbe (by simpa using h)⟩,?_,fun h=>(by cases h),fun h=>absurd hbe (by simpa using h),fun _=>?_,kB.kd,fun no h1 h2=>?_,hcl,by simp only;omega⟩,hsB.sm.trans ⟨rfl,rfl,rfl,rfl,rfl,rfl,rfl⟩,hsB.valid,by simp only;omega,fun _=>by simp only;omega,fun _=>hbe,hup,fun i=>?_⟩
  ·exact (List.mem_append.1 hc).elim (hk c) fun h2=>by rw [List.mem_singleton.1 h2];exact hkt
  ·intro i h1 h2;show gd (longN b _) i=_;rw [gd_longN];split
   ·exact kB.ck i h1 h2
   ·rename_i h3;have h4:B.valid≤i / B.size:=(Nat.le_div_iff_mul_le (by omega)).2 (by omega);have h5:i / B.size<s.length:=pg_lt (by omega) h1;exact absurd (by have:=hin3 (i / B.size+1) (by rw [←hsB.valid];omega) (by rw [k.su];omega);simpa using this) h2
  ·obtain ⟨fs,q1,q2,q3,q4,q5⟩:=kB.bg hbe;exact ⟨fs,q1,q2,q3,by rw [←q4];exact g1,by rw [←q5];exact g2⟩
  ·have h3:B.valid<no:=Nat.lt_of_mul_lt_mul_right (a:=B.size) h1;exact hin3 no (by rw [←hsB.valid];exact h3) (by rw [←hsB.sure];exact h2)
  ·unfold upg;simp only [Option.getD_some];rw [hsB.in_,hsB.size,hsB.valid];split
   ·rfl
   ·rename_i h3;have h4:i<A.valid:=by rcases Nat.lt_or_ge i A.valid with h | h;exact h;exact absurd ⟨hin,h⟩ h3
    have h5:(i+1)*A.size≤A.valid*A.size:=Nat.mul_le_mul_right _ h4;rw [Nat.succ_mul] at h5;exact pgAt_congr fun j hj=>by rw [gd_longN,if_pos (by omega)]
theorem KB.wr (k:KB A s cur) (hbe:A.begun=true) (hin:A.in_=true) (hv:A.valid*A.size=A.bytes) {p:Nat} {b:List UInt8} (hb:b.length=A.size) (hp:(p:Int)+1∈A.kept∨s.length≤p) (hf:(p+1)*A.size≤16777216) :
  Res A.dk (writeN A.dk nT (((p:Int)+1-1)*A.size) b) (fun d'=>KB { A with dk:=d',bytes:=max A.bytes ((p+1)*A.size),valid:=max A.valid (p+1) } s (some (wrB (cur.getD []) (p*A.size) b))∧upg { A with dk:=d',bytes:=max A.bytes ((p+1)*A.size),valid:=max A.valid (p+1) } (wrB (cur.getD []) (p*A.size) b) p=b∧∀i,i≠p→upg { A with dk:=d',bytes:=max A.bytes ((p+1)*A.size),valid:=max A.valid (p+1) } (wrB (cur.getD []) (p*A.size) b) i=upg A (cur.getD []) i) (GdBD A.size s):=by
 have hzb:=k.sz;have ea:((p:Int)+1-1)*(A.size:Int)=((p*A.size:Nat):Int):=by rw [Int.add_sub_cancel];exact (Int.natCast_mul _ _).symm
 have hpm:(p+1)*A.size=p*A.size+A.size:=Nat.succ_mul _ _;obtain ⟨base,ops,st,hb1,hk,_⟩:=k.st;have s1:=st.chg ⟨0,p*A.size,b⟩;have e1:doO' ⟨0,p*A.size,b⟩ cur=some (wrB (cur.getD []) (p*A.size) b):=by cases cur<;>rfl
 rw [e1] at s1;have hkt:KeepT A.size s A.kept ⟨0,p*A.size,b⟩:=keepT_w (by omega) hp (by omega);rw [ea];have r:=write_res (G:=fun d'=>d'.fs nT=some (chgF ((A.dk.fs nT).getD noF) ⟨0,p*A.size,b⟩)∧d'.fs nJ=A.dk.fs nJ∧d'.fs nM=A.dk.fs nM) (B:=GdBD A.size s) k.hd nT_ok (p:=p*A.size) (b:=b) (by omega) ⟨stepD'_at,stepD'_ne nJT,stepD'_ne nMT⟩ k.good;refine r.imp (fun ⟨a1,a2,a3,a4⟩=>⟨a1,a2,a3,?_⟩) id;obtain ⟨g1,g2,g3⟩:=a4;rw [←g1] at s1;refine ⟨⟨a2,k.pg,k.hm,k.su,k.no,k.ok.write,⟨base,_,s1,hb1,fun c hc=>(List.mem_append.1 hc).elim (hk c) fun h2=>by rw [List.mem_singleton.1 h2];exact hkt,fun h=>absurd hbe (by simpa using h)⟩,(show TOk A.size (wrB (cur.getD []) (p*A.size) b) s A.kept from tok_w (by omega) k.ck hp (by omega)),fun h=>(by cases h),fun h=>absurd hbe (by simpa using h),fun _=>?_,k.kd,fun no h1 h2=>k.bk no (Nat.lt_of_le_of_lt (Nat.le_max_left _ _) h1) h2,?_,by simp only;have:=k.fit;omega⟩,?_,fun i hi=>?_⟩
 ·obtain ⟨fs,q1,q2,q3,q4,q5⟩:=k.bg hbe;exact ⟨fs,q1,q2,q3,g2.trans q4,g3.trans q5⟩
 ·show (wrB _ _ _).length=_;rw [wrB_len,k.cl,hb,hpm]
 ·unfold upg;simp only;rw [if_neg (by rintro ⟨_,h⟩;omega)];exact pgAt_ext hb fun j hj=>by rw [gd_wrB,if_pos ⟨by omega,by omega⟩,Nat.add_sub_cancel_left]
 ·have hun:∀j,j<A.size→gd (wrB (cur.getD []) (p*A.size) b) (i*A.size+j)=gd (cur.getD []) (i*A.size+j):=fun j hj=>by
   rw [gd_wrB,if_neg];rintro ⟨h1,h2⟩;have h3:(i*A.size+j) / A.size=p:=(in_page (by omega)).1 ⟨h1,by omega⟩;rw [(in_page (p:=i) (by omega)).1 ⟨by omega,by omega⟩] at h3;exact hi h3
  unfold upg;simp only;by_cases h1:A.valid≤i
  ·rw [if_pos (show A.in_=true∧A.valid≤i from ⟨hin,h1⟩)];split
   ·rfl
   ·refine pgAt_ext (by simp) fun j hj=>?_;rw [hun j hj,gd_zeros,gd_ge];have h5:A.valid*A.size≤i*A.size:=Nat.mul_le_mul_right _ h1;rw [k.cl];omega
  ·rw [if_neg (by rintro ⟨_,h⟩;omega),if_neg (by rintro ⟨_,h⟩;omega)];exact pgAt_congr hun
end
open Go Go.HL
section
variable {A:Bk} {s:List (List UInt8)} {cur:Option (List UInt8)}
theorem upg_st {A B:Bk} (h:StB A B) (c:List UInt8) (i:Nat):upg B c i=upg A c i:=by unfold upg;rw [h.in_,h.valid,h.size]
theorem KB.layF:∀(l:List AFr) {A:Bk} {cur:Option (List UInt8)},KB A s cur→A.begun=true→A.in_=true→A.valid*A.size=A.bytes→A.valid≤A.now→A.now*A.size≤16777216→(∀f∈l,(1≤f.page∧f.page≤A.now)∧f.b.length=A.size∧(f.page≤s.length→f.page∈A.kept))→(l.map (·.page)).Nodup→
  ResB A (layF A l) (fun B=>∃cur',KB B s cur'∧Sm A B∧B.begun=true∧B.valid≤B.now∧B.valid*B.size=B.bytes∧(∀f∈l,upg B (cur'.getD []) (f.page-1).toNat=f.b)∧∀i:Nat,(∀f∈l,f.page≠i+1)→upg B (cur'.getD []) i=upg A (cur.getD []) i) (GdBD A.size s)
 | [],A,cur,k,hbe,hin,hv,hvn,_,_,_=>.ok k.hd ⟨cur,k,.refl A,hbe,hvn,hv,by simp,fun _ _=>rfl⟩
 | f::l,A,cur,k,hbe,hin,hv,hvn,hn,hl,hnd=>by
  obtain ⟨⟨h1,h2⟩,h3,h4⟩:=hl f List.mem_cons_self;obtain ⟨p,hp⟩:∃p:Nat,f.page=(p:Int)+1:=⟨(f.page-1).toNat,by omega⟩;have hpn:(p+1)*A.size≤A.now*A.size:=Nat.mul_le_mul_right _ (by omega);have hw:=k.wr hbe hin hv (p:=p) h3 (by rcases Nat.lt_or_ge p s.length with h | h;exact .inl (hp▸h4 (by omega));exact .inr h) (by omega);rw [←hp] at hw;have hnd2:=List.nodup_cons.1 (show (f.page::l.map (·.page)).Nodup from hnd);have hpt:f.page.toNat=p+1:=by omega
  rcases hw with ⟨e,hd,hlf,k1,hup,hun⟩ | ⟨e,hd,hlf,hb⟩
  ·rw [layF_g e,hpt];have ih:=KB.layF l k1 hbe hin (by
    simp only;rcases Nat.le_total A.valid (p+1) with h | h
    ·rw [Nat.max_eq_right h,Nat.max_eq_right (by rw [←hv];exact Nat.mul_le_mul_right _ h)]
    ·rw [Nat.max_eq_left h,Nat.max_eq_left (by rw [←hv];exact Nat.mul_le_mul_right _ h)];exact hv) (by simp only;omega) hn (fun g hg=>hl g (List.mem_cons_of_mem _ hg)) hnd2.2
   refine (ih.imp (fun ⟨a1,a2,a3,a4⟩=>⟨a1,a2,fun h=>a3 (hlf h),?_⟩) fun ⟨a1,a2,a3,a4⟩=>⟨a1,a2,?_,a4⟩)
   ·obtain ⟨cur',q1,q2,q3,q4,q5,q6,q7⟩:=a4;refine ⟨cur',q1,⟨q2.1,q2.2,q2.3,q2.4,q2.5,q2.6,q2.7⟩,q3,q4,q5,fun g hg=>?_,fun i hi=>?_⟩
    ·rcases List.mem_cons.1 hg with rfl | hg
     ·rw [q7 _ (fun g2 hg2 e2=>hnd2.1 (List.mem_map.2 ⟨g2,hg2,by rw [e2];omega⟩)),show (g.page-1).toNat=p by omega];exact hup
     ·exact q6 g hg
    ·rw [q7 i fun g hg=>hi g (List.mem_cons_of_mem _ hg)];exact hun i fun e2=>hi f List.mem_cons_self (by rw [hp,e2])
   ·rcases Int.lt_or_le A.dk.left 0 with h | h
    ·have:=hlf h;have:(0:Int)≤(writeN A.dk nT ((f.page-1) * ↑A.size) f.b).1.left:=a3;omega
    ·exact h
  ·rw [layF_e (by omega)];exact .inr ⟨e,hd,hlf,hb⟩
theorem KB.flush (k:KB A s cur) (hin:A.in_=true) (hvn:A.valid≤A.now) (hvb:A.valid*A.size≤A.bytes) (hn:A.now*A.size≤16777216) {l:List AFr} (hl:∀f∈l,(1≤f.page∧f.page≤A.now)∧f.b.length=A.size) (hnd:(l.map (·.page)).Nodup) :
  ResB A (flushB A l) (fun B=>∃cur',KB B s cur'∧Sm A B∧(A.begun=true→B.begun=true)∧B.valid≤B.now∧B.valid*B.size≤B.bytes∧(∀f∈l,upg B (cur'.getD []) (f.page-1).toNat=f.b)∧∀i:Nat,(∀f∈l,f.page≠i+1)→upg B (cur'.getD []) i=upg A (cur.getD []) i) (GdBD A.size s):=by
 by_cases h0:l=[]
 ·subst h0;exact .ok k.hd ⟨cur,k,.refl A,id,hvn,hvb,by simp,fun _ _=>rfl⟩
 ·unfold flushB;rw [if_neg h0];have hst:=save_st (A:=A) (l:=l.map fun f=>f.page.toNat);have hs:ResB A (saveB A (l.map fun f=>f.page.toNat)) (fun B=>KB B s cur∧B.begun=true∧StB A B∧∀f∈l,f.page≤s.length→f.page∈B.kept) (GdBD A.size s):=by
   have hs:=k.save (l:=l.map fun f=>f.page.toNat) fun no h=>by
    obtain ⟨f,hf,rfl⟩:=List.mem_map.1 h;have:=(hl f hf).1;omega
   rcases hs with ⟨a,b,c,g⟩ | g
   ·refine .inl ⟨a,b,c,g.1,g.2.1,hst,fun f hf h=>?_⟩;have h1:=(hl f hf).1;have:=g.2.2.2 f.page.toNat (List.mem_map.2 ⟨f,hf,rfl⟩) (by omega);rwa [show ((f.page.toNat:Nat):Int)=f.page by omega] at this
   ·exact .inr g
  have hc:=hs.then (f:=cutB) (G2:=fun B=>∃cur',KB B s cur'∧Sm A B∧B.begun=true∧B.valid=A.valid∧B.valid*B.size=B.bytes∧(∀f∈l,f.page≤s.length→f.page∈B.kept)∧∀i,upg B (cur'.getD []) i=upg A (cur.getD []) i) fun B hd ⟨kB,hbe,sB,hk⟩=>by
   have hvm:A.valid*A.size≤A.now*A.size:=Nat.mul_le_mul_right _ hvn;have:=kB.cut (by rw [sB.in_];exact hin) (by rw [sB.valid,sB.size];omega);rw [sB.size] at this;refine this.mono (fun C _ ⟨cur',q1,q2,q3,q4,q5,q6,q7,q8⟩=>⟨cur',q1,sB.sm.trans q2,q6 hbe,q3.trans sB.valid,?_,fun f hf h=>q7 _ (hk f hf h),fun i=>(q8 i).trans (upg_st sB _ i)⟩) fun _ h=>h;have e:C.valid*C.size=A.valid*A.size:=by rw [q3,q2.size,sB.valid,sB.size]
   rw [sB.valid,sB.bytes] at q5;rw [sB.valid] at q4;have:=q5 hvb;omega
  refine hc.then fun C hd ⟨cur',q1,q2,q3,q4,q5,q6,q7⟩=>?_;have:=q1.layF l q3 (by rw [q2.in_];exact hin) q5 (by rw [q4,q2.now];exact hvn) (by rw [q2.now,q2.size];exact hn) (fun f hf=>⟨by rw [q2.now];exact (hl f hf).1,by rw [q2.size];exact (hl f hf).2,q6 f hf⟩) hnd;rw [q2.size] at this;exact this.mono (fun D _ ⟨c2,p1,p2,p3,p4,p5,p6,p7⟩=>⟨c2,p1,q2.trans p2,fun _=>p3,p4,by omega,p6,fun i hi=>(p7 i hi).trans (q7 i)⟩) fun _ h=>h
def unF (A:Bk) (cur:List UInt8) (f:AFr):Bool:=decide ((A.valid:Int)<f.page∨A.begun=true∨pgAt A.size cur (f.page.toNat-1)≠f.b)
theorem unlike_eq (k:KB A s cur):∀ {l o:List AFr},(∀f∈l,1≤f.page)→unlikeL A.dk A.size A.valid A.begun l o=(o++l.filter (unF A (cur.getD [])),0)
 | [],o,_=>by simp [unlikeL]
 | f::l,o,h=>by
  have h1:=h f List.mem_cons_self;have ih:=fun o=>unlike_eq k (l:=l) (o:=o) fun g hg=>h g (List.mem_cons_of_mem _ hg);obtain ⟨base,ops,st,_⟩:=k.st;have ho:=old_cur (z:=A.size) (i:=f.page.toNat-1) k.hd st;rw [show f.page.toNat-1+1=f.page.toNat by omega] at ho;unfold unlikeL;rw [List.filter_cons,ho];by_cases g1:(A.valid:Int)<f.page∨A.begun=true
  ·rw [if_pos g1,ih,if_pos (show unF A (cur.getD []) f=true from decide_eq_true (by rcases g1 with g | g;exact .inl g;exact .inr (.inl g)))];simp
  ·rw [if_neg g1,if_neg (by simp)];by_cases g2:pgAt A.size (cur.getD []) (f.page.toNat-1)=f.b
   ·rw [if_pos (by exact g2),ih,if_neg];intro g;rcases of_decide_eq_true g with g | g | g
    ·exact g1 (.inl g)
    ·exact g1 (.inr g)
    ·exact g g2
   ·rw [if_neg (by exact g2),ih,if_pos (show unF A (cur.getD []) f=true from decide_eq_true (.inr (.inr g2)))];simp
theorem dirtyS_sub {S:List Int} {L:List AP} : ((dirtyS S L).map (·.page)).Sublist S:=by
 induction S with
 | nil=>exact .slnil
 | cons k S ih=>
  unfold dirtyS at ih⊢;rw [List.flatMap_cons,List.map_append];have h:((dirty1 L k).map (·.page)).Sublist [k]:=by
   unfold dirty1 toldL;cases hh:hit k L with
   | none=>simp
   | some x=>
    have:=(hit_some hh).2;by_cases hd:x.d=true
    ·simp only [hd,if_true,List.map_cons,List.map_nil,this];exact List.Sublist.refl _
    ·simp [hd]
  exact h.append ih
theorem dirtyB_perm {L:List AP} : ((nos L).mergeSort fun a b=>decide (a≤b)).Perm (nos L):=List.mergeSort_perm _ _
theorem dirtyB_nd {L:List AP} (hn:(nos L).Nodup):((dirtyB L).map (·.page)).Nodup:=(dirtyB_perm.nodup_iff.2 hn).sublist dirtyS_sub
theorem dirtyB_mem {L:List AP} (hn:(nos L).Nodup) {f:AFr} : f∈dirtyB L↔∃x∈L,x.d=true∧f=⟨x.no,0,x.b⟩:=by
 unfold dirtyB dirtyS;rw [List.mem_flatMap];constructor
 ·rintro ⟨k,hk,hf⟩;unfold dirty1 toldL at hf;cases hh:hit k L with
  | none=>rw [hh] at hf;cases hf
  | some x=>
   rw [hh] at hf;by_cases hd:x.d=true
   ·simp only [hd,if_true,List.mem_singleton] at hf;exact ⟨x,(hit_some hh).1,hd,hf⟩
   ·simp [hd] at hf
 ·rintro ⟨x,hx,hd,rfl⟩;refine ⟨x.no,dirtyB_perm.mem_iff.2 (List.mem_map.2 ⟨x,hx,rfl⟩),?_⟩;obtain ⟨y,hy⟩:=hit_mem (List.mem_map.2 ⟨x,hx,rfl⟩:x.no∈nos L);obtain ⟨h1,h2⟩:=hit_some hy;have:=nos_inj hn h1 hx h2;subst this;unfold dirty1 toldL;rw [hy];simp [hd]
theorem KB.bg2 (k:KB A s cur) (hbe:A.begun=true):∃J M,A.dk.fs nJ=synF J∧A.dk.fs nM=synF M∧∀T':Option (List UInt8),TOk A.size (T'.getD []) s A.kept→GdB A.size T' J M s:=by
 obtain ⟨fs,hj,hm,hk,e1,e2⟩:=k.bg hbe;refine ⟨_,_,e1,e2,fun T' h=>?_⟩;unfold GdB;rw [show mlen (some (List.replicate A.marked 0))=A.marked by simp [mlen],if_neg (by omega)];exact ⟨A.nonce,fs,[],k.no,hj,by simp,by omega,by rw [hm,Nat.add_sub_cancel,List.take_length,←hk];exact h⟩
theorem fst_syn {o:Option Fl} (h:FSt o cur [] cur) (hn:cur=none→o=none):o=synF cur:=by
 cases cur with
 | none=>exact hn rfl
 | some b=>
  cases o with
  | none=>cases h.here
  | some f=>
   obtain ⟨a1,a2,a3,a4,a5⟩:=f;obtain ⟨h1,h2,h3,h4,h5⟩:=h;simp only [Option.getD_some,Option.isSome_some] at h1 h2 h3 h4 h5;rw [h1,h2,h3,h4,h5];rfl
theorem KB.clean (k:KB A s cur) (hb:A.begun=false):CleanB s A.dk:=by
 obtain ⟨base,ops,st,_,_,he⟩:=k.st;obtain ⟨e1,e2⟩:=he hb;subst e1 e2;obtain ⟨_,_,h1,h2,h3⟩:=k.nb hb;exact ⟨_,⟨k.hd,fst_syn st k.cn,h1,h2⟩,h3⟩
theorem keepT_nil {z p:Nat} {K:List Int} : KeepT z s K ⟨0,p,[]⟩:=fun k o i hi hq=>by
 rcases crO_w (p:=p) (c:=[]) (k:=k) (o:=o) with h | ⟨c',h1,h⟩
 ·rw [h];exact .inl rfl
 ·rw [h,List.prefix_nil.1 h1,Option.getD_some,gd_wrB,if_neg (fun g=>by have:=g.1;have:=g.2;simp at this;omega)];exact .inl rfl
def GdBP (z:Nat) (s P:List (List UInt8)) (d:Dk):Prop:=∀T' J' M',Out (d.fs nT) T'→Out (d.fs nJ) J'→Out (d.fs nM) M'→GdB z T' J' M' s∨GdB z T' J' M' P
theorem GdBD.p {z:Nat} {P:List (List UInt8)} {d:Dk} (h:GdBD z s d):GdBP z s P d:=fun T' J' M' h1 h2 h3=>.inl (h T' J' M' h1 h2 h3)
theorem KB.lend (k:KB A s cur) (hbe:A.begun=true) (hin:A.in_=true) (hv:A.valid*A.size=A.bytes) (hvn:A.valid≤A.now) {P:List (List UInt8)} (hP:A.now=P.length) (pP:PgOk A.size P) (hall:∀i,i<P.length→upg A (cur.getD []) i=P.getD i []) :
  ResB A (layEnd A) (fun B=>CleanB P B.dk∧Sm A B∧B.bytes=P.length*A.size) (GdBP A.size s P):=by
 obtain ⟨J,M,hJ,hM,hgd⟩:=k.bg2 hbe;obtain ⟨base,ops,st,hb,hk,_⟩:=k.st;have hzb:=k.sz;have hsz:=size_st k.hd st;have hvz:A.valid*A.size≤A.now*A.size:=Nat.mul_le_mul_right _ hvn;have hnf:A.now*A.size≤16777216:=by rw [hP];exact pP.fit
 have hflat:longN (cur.getD []) (A.now*A.size)=P.flatten:=by
  refine ext_gd (by rw [longN_len,flat_lenZ pP.len,hP]) fun i hi=>?_;rw [longN_len] at hi;have hi2:i / A.size<A.now:=(Nat.div_lt_iff_lt_mul (by omega)).2 hi;have hm:=Nat.mod_lt i (show 0<A.size by omega);have hd:i / A.size*A.size+i%A.size=i:=by rw [Nat.mul_comm];exact Nat.div_add_mod i A.size
  rw [gd_longN,if_pos hi,gd_flat pP.len (by omega),←hall _ (by omega)];unfold upg;split
  ·rename_i h;have h5:A.valid*A.size≤i / A.size*A.size:=Nat.mul_le_mul_right _ h.2;rw [gd_zeros,gd_ge (by rw [k.cl];omega)]
  ·rw [gd_pgAt hm,hd]
 have hout:∀i,i<s.length*A.size→A.now*A.size≤i→((i / A.size:Nat):Int)+1∈A.kept:=fun i h1 h2=>by
  have h3:i / A.size<s.length:=pg_lt (by omega) h1;have h4:i<(i / A.size+1)*A.size:=by rw [Nat.succ_mul];have:=Nat.mod_lt i (show 0<A.size by omega);have hd:i / A.size*A.size+i%A.size=i:=(by rw [Nat.mul_comm];exact Nat.div_add_mod i A.size);omega
  have:=k.bk (i / A.size+1) (by omega) (by rw [k.su];omega);simpa using this
 have hbad:∀d',ResD A.size s A.kept J M d'→GdBP A.size s P d':=fun d' b T' J' M' h1 h2 h3=>by
  obtain ⟨e1,e2,e3⟩:=b T' J' M' h1 h2 h3;rw [e1,e2];exact .inl (hgd T' e3)
 have hr1:Res A.dk (if A.bytes≠A.now*A.size∧(sizeN A.dk nT).2=false then writeN A.dk nT 0 [] else (A.dk,0)) (fun d1=>d1.fs nJ=synF J∧d1.fs nM=synF M∧∃ops cur1,FSt (d1.fs nT) base ops cur1∧(∀c∈ops,KeepT A.size s A.kept c)∧(cur1=none→d1.fs nT=none)∧(cur1=none→A.now*A.size=0)∧cur1.getD []=cur.getD []) (ResD A.size s A.kept J M):=by
  have bad:=resd_of hJ hM st hb hk;by_cases hc:cur=none
  ·subst hc;have hb0:A.bytes=0:=by have:=k.cl;simpa using this.symm
   by_cases h0:A.now*A.size=0
   ·rw [if_neg (by rw [hb0,h0];simp)];exact .ok k.hd ⟨hJ,hM,ops,none,st,hk,k.cn,fun _=>h0,rfl⟩
   ·rw [if_pos ⟨by rw [hb0];exact fun h=>h0 h.symm,by rw [hsz];rfl⟩];have s1:=st.chg ⟨0,0,[]⟩;exact write_res (p:=0) (b:=[]) k.hd nT_ok (by simp) ⟨by rw [stepD'_ne nJT];exact hJ,by rw [stepD'_ne nMT];exact hM,_,some (wrB [] 0 []),by rw [stepD'_at];exact s1,fun c hc=>(List.mem_append.1 hc).elim (hk c) fun h2=>by rw [List.mem_singleton.1 h2];exact keepT_nil,fun h=>(by cases h),fun h=>(by cases h),rfl⟩ bad
  ·obtain ⟨b,rfl⟩:∃b,cur=some b:=by cases cur;exact absurd rfl hc;exact ⟨_,rfl⟩
   rw [if_neg (by rw [hsz];rintro ⟨_,h⟩;cases h)];exact .ok k.hd ⟨hJ,hM,ops,some b,st,hk,fun h=>(by cases h),fun h=>(by cases h),rfl⟩
 have hr2:Res A.dk (thenN (if A.bytes≠A.now*A.size∧(sizeN A.dk nT).2=false then writeN A.dk nT 0 [] else (A.dk,0)) fun d=>lengthB d (A.now*A.size)) (fun d'=>d'.fs nJ=synF J∧d'.fs nM=synF M∧∃T,d'.fs nT=synF T∧T.getD []=P.flatten) (ResD A.size s A.kept J M):=
  thenN_res (f:=fun d=>lengthB d (A.now*A.size)) hr1 fun d1 hd1 ⟨g1,g2,ops1,cur1,g3,g4,g5,g6,g7⟩=>by
   have:=len_res hd1 g1 g2 g3 hb g4 g5 hnf (keepT_t hout) fun h h0=>absurd (g6 h) h0;rw [g7,hflat] at this;exact this
 unfold layEnd;simp only;revert hr2;generalize (thenN (if A.bytes≠A.now*A.size∧(sizeN A.dk nT).2=false then writeN A.dk nT 0 [] else (A.dk,0)) fun d=>lengthB d (A.now*A.size))=q;intro hr2;rcases hr2 with ⟨e,hd,hl,g1,g2,T,g3,g4⟩ | ⟨e,hd,hl,g⟩
 ·rw [if_neg (by simp [e])];have hT:TOk A.size (T.getD []) s A.kept:=fun i h1 h2=>by
   rw [g4,←hflat,gd_longN];split
   ·exact k.ck i h1 h2
   ·exact absurd (hout i h1 (by omega)) h2
  rcases bover_res hd g3 g1 g2 with ⟨e1,e2,e3,e4,e5,e6⟩ | ⟨e1,e2,e3,e4⟩
  ·exact .inl ⟨e1,e2,fun h=>e3 (hl h),⟨T,⟨e2,e4,e5,e6⟩,g4⟩,⟨rfl,rfl,rfl,rfl,rfl,rfl,rfl⟩,by simp only;rw [hP]⟩
  ·refine .inr ⟨e1,e2,?_,fun T' J' M' h1 h2 h3=>?_⟩
   ·rcases Int.lt_or_le A.dk.left 0 with h | h
    ·have:=hl h;omega
    ·exact h
   ·obtain ⟨q1,q2⟩:=e4 T' J' M' h1 h2 h3;rcases q2 with ⟨q2,q3⟩ | q2
    ·rw [q1,q2,q3];exact .inl (hgd T hT)
    ·exact .inr (.z0 (by rw [q2];rfl) (by rw [q1];exact g4))
 ·rw [if_pos (by omega)];exact .inr ⟨e,hd,hl,hbad _ g⟩
theorem KB.lay (k:KB A s cur) (hin:A.in_=true) (hvn:A.valid≤A.now) (hvb:A.valid*A.size≤A.bytes) {P:List (List UInt8)} (hP:A.now=P.length) (pP:PgOk A.size P) (hnd:(nos A.L).Nodup) (hrg:∀x∈A.L,1≤x.no∧x.no≤P.length) (hat:∀x∈A.L,x.b=P.getD (x.no-1).toNat []) (hun:∀i:Nat,i<P.length→(∀x∈A.L,x.no=i+1→x.d=false)→upg A (cur.getD []) i=P.getD i []) :
  ResB A (layB A) (fun B=>CleanB P B.dk∧Sm A B∧B.bytes=P.length*A.size) (GdBP A.size s P):=by
 have hfr:∀f∈dirtyB A.L,(1≤f.page∧f.page≤(A.now:Int))∧f.b.length=A.size∧f.b=P.getD (f.page-1).toNat []:=fun f hf=>by
  obtain ⟨x,hx,_,rfl⟩:=(dirtyB_mem hnd).1 hf;have h1:=hrg x hx;refine ⟨by rw [hP];exact h1,?_,hat x hx⟩;have h2:(x.no-1).toNat<P.length:=by omega
  simp only;rw [hat x hx,List.getD_eq_getElem?_getD,List.getElem?_eq_getElem h2,Option.getD_some];exact pP.len _ (List.getElem_mem h2)
 have hU:=unlike_eq k (l:=dirtyB A.L) (o:=[]) fun f hf=>(hfr f hf).1.1;rw [List.nil_append] at hU;have hU':unlikeB A=((dirtyB A.L).filter (unF A (cur.getD [])),0):=hU;have hnotU:∀ {i:Nat},i<P.length→(∀f∈(dirtyB A.L).filter (unF A (cur.getD [])),f.page≠i+1)→upg A (cur.getD []) i=P.getD i []:=fun {i} hi h=>by
  by_cases hq:∃x∈A.L,x.no=i+1∧x.d=true
  ·obtain ⟨x,hx,h1,h2⟩:=hq;have hm:=(dirtyB_mem hnd).2 ⟨x,hx,h2,rfl⟩;have hf:¬unF A (cur.getD []) ⟨x.no,0,x.b⟩=true:=fun hf=>h _ (List.mem_filter.2 ⟨hm,hf⟩) h1;have hf2:=fun h=>hf (decide_eq_true h);simp only [not_or] at hf2;have e1:¬(A.valid:Int)<x.no:=fun h=>hf (decide_eq_true (.inl h));have e2:pgAt A.size (cur.getD []) (x.no.toNat-1)=x.b:=Decidable.not_not.1 fun h=>hf (decide_eq_true (.inr (.inr h)));have ei:x.no.toNat-1=i:=by omega
   have h3:=hat x hx;rw [show (x.no-1).toNat=i by omega] at h3;unfold upg;rw [if_neg (by rintro ⟨_,h⟩;omega),←ei,e2,ei,h3]
  ·exact hun i hi fun x hx h1=>by
    cases hd:x.d with
    | false=>rfl
    | true=>exact absurd ⟨x,hx,h1,hd⟩ hq
 unfold layB;rw [hU'];simp only;rw [if_neg (by simp)];split
 ·rename_i h;obtain ⟨h1,h2,h3,h4⟩:=h;have hb:=(k.nb h4).2.2.2.2;have hsP:s=P:=by
   refine List.ext_getElem (by rw [←k.su,←h2,hP]) fun i g1 g2=>?_;have h5:=hnotU g2 (by rw [h1];simp);unfold upg at h5;rw [if_neg (by rintro ⟨_,g⟩;rw [h3,k.su] at g;omega),hb,flat_pg k.pg.len g1] at h5;simpa [g1,g2] using h5
  refine .ok k.hd ⟨hsP▸k.clean h4,.refl A,?_⟩;rw [←k.cl,hb,flat_lenZ k.pg.len,hsP]
 ·have hst:=save_st (A:=A) (l:=[]);have r1:ResB A (saveB A []) (fun B=>KB B s cur∧B.begun=true∧StB A B) (GdBP A.size s P):=by
   rcases k.save (l:=[]) (by simp) with ⟨a,b,c,g⟩ | ⟨a,b,c,g⟩
   ·exact .inl ⟨a,b,c,g.1,g.2.1,hst⟩
   ·exact .inr ⟨a,b,c,g.p⟩
  have hnf:A.now*A.size≤16777216:=by rw [hP];exact pP.fit
  have r2:=r1.then (f:=fun B=>flushB B ((dirtyB A.L).filter (unF A (cur.getD [])))) (G2:=fun B=>∃cur',KB B s cur'∧Sm A B∧B.begun=true∧B.valid≤B.now∧B.valid*B.size≤B.bytes∧∀i,i<P.length→upg B (cur'.getD []) i=P.getD i []) fun B hd ⟨kB,hbe,sB⟩=>by
   have:=kB.flush (by rw [sB.in_];exact hin) (by rw [sB.valid,sB.now];exact hvn) (by rw [sB.valid,sB.size,sB.bytes];exact hvb) (by rw [sB.now,sB.size];exact hnf) (l:=(dirtyB A.L).filter (unF A (cur.getD []))) (fun f hf=>by rw [sB.now,sB.size];exact ⟨(hfr f (List.mem_filter.1 hf).1).1,(hfr f (List.mem_filter.1 hf).1).2.1⟩) ((dirtyB_nd hnd).sublist (List.filter_sublist.map _));rw [sB.size] at this;refine this.mono (fun C _ ⟨c2,q1,q2,q3,q4,q5,q6,q7⟩=>⟨c2,q1,sB.sm.trans q2,q3 hbe,q4,q5,fun i hi=>?_⟩) fun _ h=>GdBD.p h;by_cases hx:∃f∈(dirtyB A.L).filter (unF A (cur.getD [])),f.page=i+1
   ·obtain ⟨f,hf,e⟩:=hx;have h5:=q6 f hf;rw [(hfr f (List.mem_filter.1 hf).1).2.2,show (f.page-1).toNat=i by omega] at h5;exact h5
   ·have hx2:∀f∈(dirtyB A.L).filter (unF A (cur.getD [])),f.page≠i+1:=fun f hf e=>hx ⟨f,hf,e⟩;rw [q7 i hx2,upg_st sB];exact hnotU hi hx2
  have r3:=r2.then (f:=cutB) (G2:=fun B=>∃cur',KB B s cur'∧Sm A B∧B.begun=true∧B.valid≤B.now∧B.valid*B.size=B.bytes∧∀i,i<P.length→upg B (cur'.getD []) i=P.getD i []) fun B hd ⟨c1,kB,sB,hbe,g1,g2,g3⟩=>by
   have hvm:B.valid*B.size≤B.now*B.size:=Nat.mul_le_mul_right _ g1;have he:B.now*B.size=A.now*A.size:=by rw [sB.now,sB.size]
   have:=kB.cut (by rw [sB.in_];exact hin) (by omega);rw [sB.size] at this;refine this.mono (fun C _ ⟨c2,q1,q2,q3,q4,q5,q6,q7,q8⟩=>⟨c2,q1,sB.trans q2,q6 hbe,by rw [q3,q2.now];exact g1,?_,fun i hi=>(q8 i).trans (g3 i hi)⟩) fun _ h=>GdBD.p h;rw [←sB.size] at q4 q5;rw [q3,q2.size];have:=q5 g2;omega
  exact r3.then fun B hd ⟨c1,kB,sB,hbe,g1,g2,g3⟩=>by
   have:=kB.lend hbe (by rw [sB.in_];exact hin) g2 g1 (by rw [sB.now];exact hP) (by rw [sB.size];exact pP) g3;rw [sB.size] at this;exact this.mono (fun C _ ⟨q1,q2,q3⟩=>⟨q1,sB.trans q2,q3⟩) fun _ h=>h
end
open Go Go.HL
structure PR (A:Bk) (P:List (List UInt8)) (cur:List UInt8):Prop where
 np:presB A=P.length
 pl:∀x∈P,x.length=A.size
 nd:(nos A.L).Nodup
 rm:1≤A.room∧A.room≤1048576∧(A.L.length:Int)≤A.room
 rg:∀x∈A.L,1≤x.no∧x.no≤P.length
 at_:∀x∈A.L,x.b=P.getD (x.no-1).toNat []
 un:∀i:Nat,i<P.length→(∀x∈A.L,x.no=i+1→x.d=false)→upg A cur i=P.getD i []
 nt:A.in_=false→∀x∈A.L,x.d=false
 vn:A.in_=true→A.valid≤A.now∧A.valid*A.size≤A.bytes∧A.now≤mostB A.size
structure Rl (A:Bk) (s P:List (List UInt8)):Prop where
 fo:FOk A
 br:A.broken=false
 kp:∃cur,KB A s cur∧PR A P (cur.getD [])
 out:A.in_=false→P=s∧A.begun=false
theorem most_mul {z n:Nat} (hz:256≤z) (h:n≤mostB z):n*z≤16777216:=by
 have h1:=most_fit hz h;rw [Nat.mul_add] at h1;omega
theorem getD_set {P:List (List UInt8)} {k i:Nat} {b:List UInt8} (hk:k<P.length):(P.set k b).getD i []=if i=k then b else P.getD i []:=by
 rw [List.getD_eq_getElem?_getD,List.getElem?_set,List.getD_eq_getElem?_getD];by_cases h:k=i
 ·subst h;simp [hk]
 ·rw [if_neg h,if_neg fun e=>h e.symm]
theorem set_same {P:List (List UInt8)} {k:Nat} (hk:k<P.length):P.set k (P.getD k [])=P:=by
 have:P.getD k []=P[k]:=by simp [hk]
 rw [this];simp
theorem hit_of {L:List AP} (hn:(nos L).Nodup) {x:AP} (hx:x∈L):hit x.no L=some x:=by
 obtain ⟨y,hy⟩:=hit_mem (List.mem_map.2 ⟨x,hx,rfl⟩:x.no∈nos L);rw [hy,nos_inj hn (hit_some hy).1 hx (hit_some hy).2]
theorem bgetL_mem {L:List AP} (hn:(nos L).Nodup) {no:Int} {y:AP} : y∈getL no L↔y∈L:=by
 unfold getL;cases h:hit no L with
 | none=>exact Iff.rfl
 | some x=>
  have:=touch_mem hn (hit_some h).1 y;rw [(hit_some h).2] at this;exact this
theorem bgetL_nd {L:List AP} (hn:(nos L).Nodup) {no:Int} : (nos (getL no L)).Nodup:=by
 unfold getL;cases h:hit no L with
 | none=>exact hn
 | some x=>have:=nd_touch (x:=x) hn;rw [(hit_some h).2] at this;exact this
section
variable {A:Bk} {s P:List (List UInt8)} {cur:Option (List UInt8)} {no:Nat}
theorem KB.withL (k:KB A s cur) (L:List AP):KB { A with L:=L } s cur:=⟨k.hd,k.pg,k.hm,k.su,k.no,k.ok,k.st,k.ck,k.cn,k.nb,k.bg,k.kd,k.bk,k.cl,k.fit⟩
theorem FOk.withL' (k:FOk A) (L:List AP):FOk { A with L:=L }:=⟨k.dk,k.okz,k.okj,k.no,k.bg,k.mz,k.mr,k.kn,k.kb,k.vs,k.nw,k.vb⟩
theorem Rl.get (R:Rl A s P) (h1:1≤no) (h2:no≤P.length):(getB A no).2=(P.getD (no-1) [],0)∧Rl (getB A no).1 s P:=by
 obtain ⟨cur,k,p⟩:=R.kp;refine ⟨?_,R.fo.withL' _,R.br,⟨cur,k.withL _,p.np,p.pl,bgetL_nd p.nd,⟨p.rm.1,p.rm.2.1,by have:=getL_len (no:=(no:Int)) p.nd;have:=p.rm.2.2;show ((getL (no:Int) A.L).length:Int)≤A.room;omega⟩,fun x hx=>p.rg x ((bgetL_mem p.nd).1 hx),fun x hx=>p.at_ x ((bgetL_mem p.nd).1 hx),fun i hi h=>p.un i hi fun x hx=>h x ((bgetL_mem p.nd).2 hx),fun h x hx=>p.nt h x ((bgetL_mem p.nd).1 hx),p.vn⟩,R.out⟩;unfold getB;cases hh:hit (no:Int) A.L with
 | some x=>
  have:=p.at_ x (hit_some hh).1;rw [(hit_some hh).2,show ((no:Int)-1).toNat=no-1 by omega] at this;simp only;rw [this]
 | none=>
  simp only;rw [under_upg k h1,p.un (no-1) (by omega) fun x hx e=>absurd (show x.no=(no:Int) by omega) (hit_none hh x hx)]
theorem Rl.page_len (R:Rl A s P) {i:Nat} (h:i<P.length):(P.getD i []).length=A.size:=by
 obtain ⟨cur,k,p⟩:=R.kp;have e:P.getD i []=P[i]:=by simp [h]
 rw [e];exact p.pl _ (List.getElem_mem h)
end
theorem put_cases {L:List AP} {room no:Int} {b:List UInt8} {d:Bool} (hno:1≤no) (hr:1≤room):∃ev:Option AP,putL1 no b d L=putL room no b d L++ev.toList∧putA room no b d L=toldL ev∧(∀x,ev=some x→x∈rid no L)∧(((putL1 no b d L).length:Int)≤room+1→((putL room no b d L).length:Int)≤room):=by
 have eL:putL room no b d L=if ((putL1 no b d L).length:Int)≤room then putL1 no b d L else (putL1 no b d L).dropLast:=if_neg (by omega)
 have eA:putA room no b d L=if ((putL1 no b d L).length:Int)≤room then [] else toldL (putL1 no b d L).getLast?:=if_neg (by omega)
 rw [eL,eA];by_cases h:((putL1 no b d L).length:Int)≤room
 ·rw [if_pos h,if_pos h];exact ⟨none,by simp,rfl,fun x h=>(by cases h),fun _=>h⟩
 ·rw [if_neg h,if_neg h];have hl:(putL1 no b d L).length=(rid no L).length+1:=by simp [putL1]
  have hrn:rid no L≠[]:=fun e=>by rw [e] at hl;simp at hl;omega
  obtain ⟨x,hx⟩:∃x,(putL1 no b d L).getLast? = some x:=by
   cases e:(putL1 no b d L).getLast? with
   | some x=>exact ⟨x,rfl⟩
   | none=>rw [List.getLast?_eq_none_iff] at e;simp [putL1] at e
  obtain ⟨M,hM⟩:=List.getLast?_eq_some_iff.1 hx;refine ⟨some x,by rw [hM];simp,by rw [hx],fun y hy=>?_,fun h2=>by rw [List.length_dropLast];omega⟩;cases hy
  cases M with
  | nil=>
   have:=congrArg List.length hM;rw [hl] at this;simp at this;exact absurd this hrn
  | cons m M=>
   have h3:(⟨no,b,d || wasD no L⟩::rid no L:List AP)=m::(M++[x]):=hM;injection h3 with _ h3;rw [h3];simp
section
variable {A:Bk} {s P:List (List UInt8)} {no:Nat} {b:List UInt8} {d:Bool}
theorem wasD_of {L:List AP} (hn:(nos L).Nodup) {no:Int} (h:wasD no L=false):∀x∈L,x.no=no→x.d=false:=fun x hx e=>by
 have:=hit_of hn hx;rw [e] at this;unfold wasD at h;rw [this] at h;exact h
theorem Rl.putA (R:Rl A s P) (h1:1≤no):(putA A.room no b d A.L).length≤1∧(∀f∈putA A.room no b d A.L,∃x∈A.L,x.no≠no∧x.d=true∧f=⟨x.no,0,x.b⟩)∧(putA A.room no b d A.L≠[]→A.in_=true):=by
 obtain ⟨cur,k,p⟩:=R.kp;obtain ⟨ev,e1,e2,e3,_⟩:=put_cases (L:=A.L) (room:=A.room) (b:=b) (d:=d) (show 1≤(no:Int) by omega) p.rm.1;have key:∀f∈Go.Proofs.YtpeaicddbnghfaaGreat.putA A.room no b d A.L,∃x∈A.L,x.no≠no∧x.d=true∧f=⟨x.no,0,x.b⟩:=fun f hf=>by
  rw [e2] at hf;unfold toldL at hf;cases ev with
  | none=>cases hf
  | some x=>
   obtain ⟨g1,g2⟩:=mem_rid.1 (e3 x rfl);by_cases hd:x.d=true
   ·simp only [hd,if_true,List.mem_singleton] at hf;exact ⟨x,g1,g2,hd,hf⟩
   ·simp [hd] at hf
 refine ⟨by rw [e2];unfold toldL;split<;>(try split)<;>simp,key,fun hne=>?_⟩;obtain ⟨f,hf⟩:=List.exists_mem_of_ne_nil _ hne;obtain ⟨x,g1,_,g2,_⟩:=key f hf;cases hi:A.in_ with
 | true=>rfl
 | false=>rw [p.nt hi x g1] at g2;cases g2
theorem Rl.put (R:Rl A s P) (h1:1≤no) (h2:no≤P.length) (hb:b.length=A.size) (hd0:d=false→b=P.getD (no-1) []) (hd1:d=true→A.in_=true):ResB A (putB A no b d) (fun B=>Rl B s (P.set (no-1) b)) (GdBD A.size s):=by
 obtain ⟨hA1,hA2,hA3⟩:=R.putA (b:=b) (d:=d) h1;obtain ⟨cur,k,p⟩:=R.kp;obtain ⟨ev,e1,e2,e3,e4⟩:=put_cases (L:=A.L) (room:=A.room) (b:=b) (d:=d) (show 1≤(no:Int) by omega) p.rm.1;have hk:no-1<P.length:=by omega
 have hnd1:(nos (putL1 (no:Int) b d A.L)).Nodup:=by
  show ((no:Int)::nos (rid (no:Int) A.L)).Nodup;rw [List.nodup_cons];exact ⟨by rw [nos_rid];simp,nd_rid p.nd⟩
 have hsub:∀y∈putL A.room (no:Int) b d A.L,y∈putL1 (no:Int) b d A.L:=fun y hy=>by rw [e1];exact List.mem_append_left _ hy
 have hL1:∀ {y:AP},y∈putL1 (no:Int) b d A.L→y=⟨(no:Int),b,d || wasD (no:Int) A.L⟩∨(y∈A.L∧y.no≠no):=fun {y} hy=>(List.mem_cons.1 hy).imp id fun h=>mem_rid.1 h;have hnew:(⟨(no:Int),b,d || wasD (no:Int) A.L⟩:AP)∈putL A.room (no:Int) b d A.L:=by
  have h3:(⟨(no:Int),b,d || wasD (no:Int) A.L⟩:AP)∈putL1 (no:Int) b d A.L:=List.mem_cons_self;rw [e1] at h3;rcases List.mem_append.1 h3 with h3 | h3
  ·exact h3
  ·cases ev with
   | none=>cases h3
   | some x=>
    have h5:(⟨(no:Int),b,d || wasD (no:Int) A.L⟩:AP)=x:=by simpa using h3
    have:=(mem_rid.1 (e3 x rfl)).2;rw [←h5] at this;exact absurd rfl this
 have hlen:((putL A.room (no:Int) b d A.L).length:Int)≤A.room:=e4 (by have:=rid_len (no:Int) A.L;have:=p.rm.2.2;simp only [putL1,List.length_cons];omega);have hfl:ResB A (putB A no b d) (fun B=>∃cur',KB B s cur'∧Sm { A with L:=putL A.room (no:Int) b d A.L } B∧(A.in_=true→B.valid≤B.now∧B.valid*B.size≤B.bytes)∧(A.in_=false→B = { A with L:=putL A.room (no:Int) b d A.L })∧(∀f∈Go.Proofs.YtpeaicddbnghfaaGreat.putA A.room no b d A.L,upg B (cur'.getD []) (f.page-1).toNat=f.b)∧∀i:Nat,(∀f∈Go.Proofs.YtpeaicddbnghfaaGreat.putA A.room no b d A.L,f.page≠i+1)→upg B (cur'.getD []) i=upg A (cur.getD []) i) (GdBD A.size s):=by
  unfold putB;by_cases hi:A.in_=true
  ·have v:=p.vn hi;have hpn:A.now=P.length:=by have:=p.np;unfold presB at this;rw [if_pos hi] at this;exact this
   have:=(k.withL (putL A.room (no:Int) b d A.L)).flush hi v.1 v.2.1 (most_mul k.sz.1 v.2.2) (l:=Go.Proofs.YtpeaicddbnghfaaGreat.putA A.room no b d A.L) (fun f hf=>by
    obtain ⟨x,g1,_,_,rfl⟩:=hA2 f hf;have g:=p.rg x g1;refine ⟨⟨g.1,by simp only;rw [hpn];exact g.2⟩,?_⟩;simp only;rw [p.at_ x g1];exact R.page_len (by omega)) (by
    match h:Go.Proofs.YtpeaicddbnghfaaGreat.putA A.room no b d A.L with
    | []=>simp
    | [f]=>simp
    | f::g::l=>rw [h] at hA1;simp at hA1)
   exact ResB.at (ResB.mono this (fun B _ ⟨c',q1,q2,_,q4,q5,q6,q7⟩=>⟨c',q1,q2,fun _=>⟨q4,q5⟩,fun h=>(by rw [hi] at h;cases h),q6,fun i h=>q7 i h⟩) fun _ h=>h) rfl
  ·have hn:Go.Proofs.YtpeaicddbnghfaaGreat.putA A.room no b d A.L=[]:=Decidable.byContradiction fun h=>hi (hA3 h);rw [hn,flush_0];exact .inl ⟨rfl,k.hd,id,cur,k.withL _,.refl _,fun h=>absurd h hi,fun _=>rfl,by simp,fun _ _=>rfl⟩
 refine hfl.imp (fun ⟨a1,a2,a3,c',q1,q2,q3,q4,q6,q7⟩=>⟨a1,a2,a3,?_,q2.broken.trans R.br,⟨c',q1,?_,?_,?_,?_,?_,?_,?_,?_,?_⟩,fun h=>?_⟩) id
 ·exact (R.fo.withL' _).flush fun f hf=>by
   obtain ⟨x,g1,_,_,rfl⟩:=hA2 f hf;have g:=p.rg x g1;have h5:P.length≤1048576:=by have:=p.np;unfold presB at this;split at this;(have:=R.fo.nw;omega);(have:=(okJ_le R.fo.okj).2.1;omega)
   exact ⟨g.1,by simp only;omega⟩
 ·unfold presB;rw [q2.in_,q2.now,q2.sure];rw [List.length_set];exact p.np
 ·intro x hx;rw [q2.size];rcases List.mem_or_eq_of_mem_set hx with h | h
  ·exact p.pl x h
  ·rw [h];exact hb
 ·rw [q2.L];refine hnd1.sublist ?_;rw [e1];unfold nos;rw [List.map_append];exact List.sublist_append_left _ _
 ·rw [q2.room,q2.L];exact ⟨p.rm.1,p.rm.2.1,hlen⟩
 ·intro y hy;rw [q2.L] at hy;rw [List.length_set];rcases hL1 (hsub y hy) with rfl | ⟨h,_⟩
  ·simp only;omega
  ·exact p.rg y h
 ·intro y hy;rw [q2.L] at hy;rcases hL1 (hsub y hy) with rfl | ⟨h,h'⟩
  ·simp only;rw [show ((no:Int)-1).toNat=no-1 by omega,getD_set hk,if_pos rfl]
  ·have:=p.rg y h;rw [getD_set hk,if_neg (by omega)];exact p.at_ y h
 ·intro i hi h;rw [List.length_set] at hi;rw [q2.L] at h;by_cases hin:i=no-1
  ·subst hin;have h5:=h _ hnew (by simp only;omega);simp only [Bool.or_eq_false_iff] at h5;rw [getD_set hk,if_pos rfl,q7 _ fun f hf=>by
    obtain ⟨x,_,g,_,rfl⟩:=hA2 f hf;simp only;omega]
   rw [p.un _ hi fun x hx e=>wasD_of p.nd h5.2 x hx (by omega),hd0 h5.1]
  ·rw [getD_set hk,if_neg hin];by_cases hev:∃f∈Go.Proofs.YtpeaicddbnghfaaGreat.putA A.room no b d A.L,f.page=i+1
   ·obtain ⟨f,hf,e⟩:=hev;have h6:=q6 f hf;obtain ⟨x,g1,_,_,rfl⟩:=hA2 f hf;simp only at e h6;rw [show (x.no-1).toNat=i by omega,p.at_ x g1,show (x.no-1).toNat=i by omega] at h6;exact h6
   ·rw [q7 i fun f hf e=>hev ⟨f,hf,e⟩];refine p.un i hi fun x hx e=>?_;cases hd:x.d with
    | false=>rfl
    | true=>
     have h7:x∈putL1 (no:Int) b d A.L:=List.mem_cons_of_mem _ (mem_rid.2 ⟨hx,by omega⟩);rw [e1] at h7;rcases List.mem_append.1 h7 with h7 | h7
     ·rw [h x h7 e] at hd;cases hd
     ·cases ev with
      | none=>cases h7
      | some y=>
       have:x=y:=by simpa using h7
       subst this;exact absurd ⟨⟨x.no,0,x.b⟩,by rw [e2];unfold toldL;simp [hd],e⟩ hev
 ·intro hi y hy;rw [q2.in_] at hi;rw [q2.L] at hy;rcases hL1 (hsub y hy) with rfl | ⟨h,_⟩
  ·simp only [Bool.or_eq_false_iff];refine ⟨by cases d;rfl;exact absurd (hd1 rfl) (by rw [show A.in_=false from hi];decide),?_⟩;unfold wasD;cases hh:hit (no:Int) A.L with
   | none=>rfl
   | some x=>exact p.nt hi x (hit_some hh).1
  ·exact p.nt hi y h
 ·intro hi;rw [q2.in_] at hi;have:=q3 hi;exact ⟨this.1,this.2,by rw [q2.now,q2.size];exact (p.vn hi).2.2⟩
 ·rw [q2.in_] at h;have e:=q4 h;have o:=R.out h;refine ⟨?_,by rw [e];exact o.2⟩;have hdf:d=false:=by cases d;rfl;exact absurd (hd1 rfl) (by rw [show A.in_=false from h];decide)
  rw [hd0 hdf,set_same hk];exact o.1
end
open Go Go.HL
section
variable {C D:Bk} {l:List AFr} {i:Nat}
theorem layF_stop (hi:i<l.length) (h:layF C (l.take i)=(D,0)) (he:(writeN D.dk nT ((l[i].page-1)*D.size) l[i].b).2≠0):layF C l=({ D with dk:=(writeN D.dk nT ((l[i].page-1)*D.size) l[i].b).1 },(writeN D.dk nT ((l[i].page-1)*D.size) l[i].b).2):=by
 have h1:l=l.take i++l[i]::l.drop (i+1):=by rw [←List.drop_eq_getElem_cons hi,List.take_append_drop]
 have h2:layF C (l.take i++l[i]::l.drop (i+1))=({ D with dk:=(writeN D.dk nT ((l[i].page-1)*D.size) l[i].b).1 },(writeN D.dk nT ((l[i].page-1)*D.size) l[i].b).2):=by rw [layF_app,h,thenB_0 rfl,layF_e he]
 rwa [←h1] at h2
theorem layF_next (hi:i<l.length) (h:layF C (l.take i)=(D,0)) (he:(writeN D.dk nT ((l[i].page-1)*D.size) l[i].b).2=0):layF C (l.take (i+1))=({ D with dk:=(writeN D.dk nT ((l[i].page-1)*D.size) l[i].b).1,bytes:=max D.bytes (l[i].page.toNat*D.size),valid:=max D.valid l[i].page.toNat },0):=by
 rw [List.take_succ_eq_append_getElem hi,layF_app,h,thenB_0 rfl,layF_g he];rfl
theorem frN_map {i:Nat} (hi:i<l.length):frN (l.map AFr.fr) i=l[i].fr:=by simp [frN,hi]
def pgN (f:List Fr):List Int:=f.map (·.page)
theorem pgN_len {f:List Fr} : (pgN f).length=f.length:=List.length_map _
theorem pgs_take {f:List Fr} {i:Nat} (hi:i<f.length):(pgN (f.take i)).map iv++[Value.int .i64 (frN f i).page]=(pgN (f.take (i+1))).map iv:=by unfold pgN;rw [List.take_succ_eq_append_getElem hi,List.map_append,List.map_append,show frN f i=f[i] by simp [frN,hi]];rfl
end
theorem bflush_any {h:Heap} {p:Nat} {r:RK} {room:Int} {L:List AP} {E Fl El:Nat→Prop} {a:Option Addr} {c:Nat} {fl:List Fr} {l:List AFr} (ok:Hp h (corI p r).F [corI p r] [bysI E r.rd.fs,rdI Fl El (a,fl.length,c) fl] h) (hk:DkOk r.rd.abs) (hcg:r.rd.chg<390000000) (k:FOk (r.abs room L)) (hkm:l≠[]→∃m,r.km=some m) (hfl:fl=l.map AFr.fr) (hN:l.length≤1048576) (hpos:∀f∈l,1≤f.page∧f.page≤1048576) :
  HC Tryz.prog 156 #[.pointer (some ⟨p,0,none⟩),.slice a fl.length c] h (fun v h'=>∃r' E',v=.int .i64 ((flushB (r.abs room L) l).2:Int)∧r'.abs room L=(flushB (r.abs room L) l).1∧(r'.d=r.d∧r'.c=r.c∧r'.km=r.km)∧CUp h h' p r r' E E'):=by
 have hmc:=ok.r1.m;have hcc:=ok.r1.c;simp only at hmc hcc;have hfll:fl.length=l.length:=by rw [hfl,List.length_map]
 have hcz:0≤r.rd.chg:=k.dk.chg;have hszk:=k.sz;have hsz:r.size≤4096:=by have:r.size=256∨r.size=512∨r.size=1024∨r.size=2048∨r.size=4096:=hszk;omega
 have kbg:r.begun=true→1≤r.marked:=k.bg;have kmr:r.marked≤1048577:=k.marked;have kno:r.nonce<18446744073709551616:=k.no;have hpm:(pgN fl).map Int.toNat=l.map fun f=>f.page.toNat:=by rw [hfl];simp [AFr.fr,pgN]
 have hpp:∀x∈pgN fl,1≤x∧x≤1048576:=fun x hx=>by
  rw [pgN,hfl,List.map_map] at hx;obtain ⟨f,hf,rfl⟩:=List.mem_map.1 hx;exact hpos f hf
 obtain ⟨xa,xc,hf⟩:=RdL.frs ok.r1;have ok:=ok.d1 (frsI Fl El (a,fl.length,c) fl xa xc) hf;refine HC.go Tryz.func156 91 ?_;refine .seq<|.r<|.z .asI<|.nil ?_;refine .seq<|.seq<|.r<|.z .mvS<|.z (.len T.el76)<|.z .eql<|.nil ?_;refine .cd (fun C0=>?_) (fun C0=>?_)
 ·
  refine .seq<|.r<|.z .asI<|.nil ?_;refine .ret ⟨.int .i64 0,Res.one rfl rfl,⟨r,E,(by rw [show l=[] from List.eq_nil_of_length_eq_zero (by omega)];rfl),(by rw [show l=[] from List.eq_nil_of_length_eq_zero (by omega)];rfl),⟨rfl,rfl,rfl⟩,((ok.f1).k1.e1).cup (fun _ h=>Or.inl h)⟩⟩
 refine .skip<|.seq<|?_;have hl0:l≠[]:=fun h=>C0 (by rw [hfll,h];rfl);replace hkm:=hkm hl0;refine .r<|.z .asS<|.nil ?_;refine .seq<|.seq<|?_;have ok:=ok.nilC (k:=1) (e:=3);refine .r<|.z .mvS<|.z (.len T.el76)<|.z .mvI<|.nil ?_;refine .block fun K0 hK0=>.loop (fun m s hh=>∃(i:Nat) (a5:Option Addr) (n5 c5:Nat),Has s [(0,.pointer (some ⟨p,0,none⟩)),(1,.slice a fl.length c),(5,.slice a5 n5 c5),(16,.slice a fl.length c),(17,.int .i64 (fl.length:Int)),(18,.int .i64 (i:Int))]∧Hp h (corI p r).F [capI 1 3 (a5,n5,c5) ((pgN (fl.take i)).map iv),corI p r] [frsI Fl El (a,fl.length,c) fl xa xc,bysI E r.rd.fs,rdI Fl El (a,fl.length,c) fl] hh∧i≤fl.length∧m=fl.length-i) ?_ ?_
 ·exact ⟨_,0,none,0,0,⟨rfl,rfl,rfl,rfl,rfl,rfl,trivial⟩,ok.n1.n1.cx (by rfl),Nat.zero_le _,rfl⟩
 rintro _ _ η1 ⟨i,a5,n5,c5,hs,ok,hi,rfl⟩ J0 hJ0;refine .frame hs fun τ=>?_;refine .seq<|.r<|.z .lss<|.nil ?_;refine .seq<|.cdr (fun C1=>?_) (fun C1=>?_)
 ·
  refine .exit<|hK0 _ _<|.seq<|.seq<|?_;obtain rfl:i=fl.length:=by omega
  have ok:=ok;rw [List.take_length] at ok;obtain rfl:n5=(pgN fl).length:=by have:=(Cap.sl ok.m0).cells.len;simpa using this.symm
  refine .r<|.z .mvP<|.z .mvS<|?_;have ok:=(ok).frzI (l:=(pgN fl)) rfl;refine .c' 30 .func (save_any (p:=p) (r:=r) (room:=room) (L:=L) (E:=E) (a:=a5) (c:=c5) (li:=(pgN fl)) (ok.f2).loc2 hk (show r.rd.chg<500000000 by omega) hcz kbg kmr kno k.okz k.okj hkm (by rw [pgN_len];omega) hpp) ?_;rintro _ η2 ⟨rk1,Ek1,rfl,hAk1,hdk1,upk1⟩;have hzk1:=(ok.f2).chg.size;have ok:=(ok.f2).cor upk1;have hnk1:=fun j hj=>(upk1.new j hj).elim ((fun _ h=>Or.inl h) j) fun h1=>Or.inr (Nat.le_trans hzk1 h1);have hst:=save_st (A:=r.abs room L) (l:=(pgN fl).map Int.toNat);rw [←hAk1] at hst;have hsd:=save_dk (A:=r.abs room L) (l:=(pgN fl).map Int.toNat) hk;rw [←hAk1] at hsd;have hkk1:DkOk rk1.rd.abs:=hsd.1;have hck1:rk1.rd.chg≤r.rd.chg+4:=hsd.2;have kk1:FOk (rk1.abs room L):=by rw [hAk1];exact k.save fun x hx=>(by obtain ⟨y,hy,rfl⟩:=List.mem_map.1 hx;have:=hpp y hy;omega)
  refine .z .asI<|.nil ?_;refine .seq<|.r<|.z .mvI<|.z .neq<|.nil ?_;refine .cd (fun C2=>?_) (fun C2=>?_)
  ·
   refine .seq<|.r<|.z .mvI<|.z .asI<|.nil ?_;have hfl1:=flush_1 (A:=r.abs room L) hl0 (by rw [←hpm];exact fun h=>C2 (Int.natCast_eq_zero.2 h));refine .ret ⟨.int .i64 ((saveB (RK.abs r room L) ((pgN fl).map Int.toNat)).2:Int),Res.one rfl rfl,⟨rk1,Ek1,(by rw [hfl1,←hpm]),(by rw [hfl1,←hpm];exact hAk1),hdk1,((ok).k1.e1).cup hnk1⟩⟩
  refine .skip<|.seq<|.seq<|.r<|.z .mvP<|.c' 35 .func (bcut_any (p:=p) (r:=rk1) (room:=room) (L:=L) (E:=Ek1) (ok).loc1 hkk1 (show rk1.rd.chg<400000000 by omega) kk1.dk.chg kk1.bg kk1.marked kk1.no kk1.okz kk1.okj (by rw [hdk1.2.2];exact hkm) kk1.vs kk1.vb) ?_;rintro _ η3 ⟨rk2,Ek2,rfl,hAk2,hdk2,upk2⟩;have hzk2:=(ok).chg.size;have ok:=(ok).cor upk2;have hnk2:=fun j hj=>(upk2.new j hj).elim (hnk1 j) fun h1=>Or.inr (Nat.le_trans hzk2 h1);have kk2:FOk (rk2.abs room L):=by rw [hAk2];exact kk1.cut
  have hcd:=cut_dk (A:=rk1.abs room L) hkk1;rw [←hAk2] at hcd;have hkk2:DkOk rk2.rd.abs:=hcd.1;have hck2:rk2.rd.chg≤rk1.rd.chg+5:=hcd.2;have hsi:rk2.size=r.size:=(show rk2.size=rk1.size from (congrArg Bk.size hAk2).trans (cut_st (A:=rk1.abs room L)).1).trans hst.size;refine .z .asI<|.nil ?_;refine .seq<|.r<|.z .mvI<|.z .neq<|.nil ?_;refine .cd (fun C3=>?_) (fun C3=>?_)
  ·
   refine .seq<|.r<|.z .mvI<|.z .asI<|.nil ?_;have hfl2:=flush_2 (A:=r.abs room L) hl0 (by rw [←hpm];exact Int.natCast_eq_zero.1 (Decidable.not_not.1 C2)) (by rw [←hpm];exact hAk1) (fun h=>C3 (Int.natCast_eq_zero.2 h));refine .ret ⟨.int .i64 ((cutB (RK.abs rk1 room L)).2:Int),Res.one rfl rfl,⟨rk2,Ek2,(by rw [hfl2]),(by rw [hfl2];exact hAk2),⟨hdk2.1.trans hdk1.1,hdk2.2.1.trans hdk1.2.1,hdk2.2.2.trans hdk1.2.2⟩,((ok).k1.e1).cup hnk2⟩⟩
  refine .skip<|.seq<|.seq<|?_;have hd1:(saveB (r.abs room L) (l.map fun f=>f.page.toNat)).2=0:=by rw [←hpm];exact Int.natCast_eq_zero.1 (Decidable.not_not.1 C2)
  have hA1:rk1.abs room L=(saveB (r.abs room L) (l.map fun f=>f.page.toNat)).1:=by rw [←hpm];exact hAk1
  have hd2:(cutB (rk1.abs room L)).2=0:=Int.natCast_eq_zero.1 (Decidable.not_not.1 C3);have hfl3:=flush_3 hl0 hd1 hA1 hd2 hAk2;refine .r<|.z .mvS<|.z (.len T.el76)<|.z .mvI<|.nil ?_;refine .block fun K2 hK2=>.loop (fun m s hh=>∃(j:Nat) (rdi:RD) (va by_:Nat) (Ei:Nat→Prop),Has s [(0,.pointer (some ⟨p,0,none⟩)),(39,.slice a fl.length c),(40,.int .i64 (fl.length:Int)),(41,.int .i64 (j:Int))]∧Hp h (corI p r).F [corI p (⟨rk2.in_,rk2.now,va,rk2.begun,rk2.nonce,rk2.km,rk2.kept,rk2.marked,rk2.d,rdi,rk2.size,rk2.c,rk2.sure,by_,rk2.broken⟩:RK)] [bysI Ei rdi.fs,frsI Fl El (a,fl.length,c) fl xa xc,rdI Fl El (a,fl.length,c) fl] hh∧j≤l.length∧layF (rk2.abs room L) (l.take j)=((⟨rk2.in_,rk2.now,va,rk2.begun,rk2.nonce,rk2.km,rk2.kept,rk2.marked,rk2.d,rdi,rk2.size,rk2.c,rk2.sure,by_,rk2.broken⟩:RK).abs room L,0)∧FOk ((⟨rk2.in_,rk2.now,va,rk2.begun,rk2.nonce,rk2.km,rk2.kept,rk2.marked,rk2.d,rdi,rk2.size,rk2.c,rk2.sure,by_,rk2.broken⟩:RK).abs room L)∧DkOk rdi.abs∧rdi.chg≤rk2.rd.chg+j∧(∀x,Ei x→E x∨h.size≤x)∧m=l.length-j) ?_ ?_
  ·exact ⟨_,0,rk2.rd,rk2.valid,rk2.bytes,Ek2,⟨rfl,rfl,rfl,rfl,trivial⟩,ok.f3.f3.f2.e3,Nat.zero_le _,rfl,kk2,hkk2,by omega,hnk2,rfl⟩
  rintro _ _ η4 ⟨j,rdi,va,by_,Ei,hs,ok,hj,hly,kki,hki,hci,hni,rfl⟩ J1 hJ1;refine .frame hs fun τ=>?_;refine .seq<|.r<|.z .lss<|.nil ?_;refine .seq<|.cdr (fun C4=>?_) (fun C4=>?_)
  ·
   refine .exit<|hK2 _ _<|.seq<|.r<|.z .asI<|.nil ?_;have hend:layF (rk2.abs room L) l=((⟨rk2.in_,rk2.now,va,rk2.begun,rk2.nonce,rk2.km,rk2.kept,rk2.marked,rk2.d,rdi,rk2.size,rk2.c,rk2.sure,by_,rk2.broken⟩:RK).abs room L,0):=by rw [←hly,show j=l.length by omega,List.take_length]
   refine .ret ⟨.int .i64 0,Res.one rfl rfl,⟨(⟨rk2.in_,rk2.now,va,rk2.begun,rk2.nonce,rk2.km,rk2.kept,rk2.marked,rk2.d,rdi,rk2.size,rk2.c,rk2.sure,by_,rk2.broken⟩:RK),Ei,(by rw [hfl3,hend];rfl),(by rw [hfl3,hend]),⟨hdk2.1.trans hdk1.1,hdk2.2.1.trans hdk1.2.1,hdk2.2.2.trans hdk1.2.2⟩,((ok).k1.e1).cup hni⟩⟩
  refine .skip<|.seq<|.block fun K3 hK3=>.seq<|.r<|?_;obtain ⟨bb1,oo1,rfl,fb1⟩:=ok.r1.pos (by omega);refine .z (.ix j T.el76 T.sz102)<|?_;have ok:=ok.d1 (rdI El El ((xa j),(frN fl j).b.length,(xc j)) ((frN fl j).b)) ((ok.r1).b j (by omega)) (fun _ h=>.inr (h.elim id id));refine .z (.ldc (vs:=vfN fl xa xc j) T.ag102 (frs_ats (ok.r2).sl (i:=j) (by omega)) T.sz102)<|?_;have hjl:j<l.length:=by omega
  have hfj:=frN_map hjl;rw [←hfl] at hfj;have hpj:=hpos l[j] (List.getElem_mem hjl);obtain ⟨pn,hpn⟩:∃pn:Nat,l[j].page=(pn:Int):=⟨l[j].page.toNat,by omega⟩;have hfp:(frN fl j).page=(pn:Int):=by rw [hfj];exact hpn
  have hfb:(frN fl j).b=l[j].b:=by rw [hfj];rfl
  refine .a' 11 (.alA T.zr102 ok) ?_;rintro _ η5 ⟨pb1,rfl,ok,xe⟩;refine .ur' (.stW (vs:=[.int .i64 ((frN fl j).page),.int .i64 ((frN fl j).commit),.slice (xa j) ((frN fl j).b.length) (xc j)]) T.sz102 ok (oneL rfl)) ?_;rintro η6 ⟨ok,cg⟩;refine .nil ?_;refine .seq<|.seq<|?_;have ok:=(ok.n1).bopn;rw [hfp] at ok;refine .t 14 mixed ?_;simp only [List.take_succ_cons,List.take_zero,List.drop_succ_cons,List.drop_zero];refine .z .mvP<|.z .nil<|.z (.fa T.fd136_1)<|.z (.ldx T.ag30 ok.m0)<|.z (.fa T.fd102_0)<|.z (.ldx T.ag3 ok.m3)<|.z .sub<|.z .mvP<|.z .nil<|.z (.fa T.fd136_2)<|.z (.ldx T.ag3 ok.m0)<|?_;have hmz:=pg_mul (x:=(pn:Int)-1) (s:=rk2.size) (by omega) (by omega) (by rw [show rk2.size=r.size from hsi];exact hsz);refine .z .mul<|.z (.fa T.fd102_2)<|.z (.ldx T.ag22 ok.m3)<|.nil ?_;refine .c' 59 .func (write_any (d:=rk2.d) (r:=rdi) (E:=Ei) (n:=nT) (z:=(((pn:Int)-1)*(rk2.size:Int))) (a:=(xa j)) (c:=(xc j)) (l:=(frN fl j).b) (ok.n2.f1).loc2 hki (by omega) ⟨by omega,by omega⟩) ?_;rintro _ η7 ⟨rw1,Ew1,rfl,haw1,upw1⟩;have hzw1:=(ok).chg.size;have ok:=(ok.n2.f1).dsk (d:=rk2.d) (r:=rdi) upw1;have hkw1:DkOk rw1.abs:=by rw [haw1];exact (hki).write
  have hcw1:rw1.chg≤rdi.chg+1:=Int.le_trans (Int.le_of_eq (congrArg Dk.chg haw1)) write_chg;have hnw1:=fun j hj=>(upw1.new j hj).elim (hni j) fun h1=>Or.inr (Nat.le_trans hzw1 h1);refine .z .asI<|.nil ?_;refine .seq<|.r<|.z .mvI<|.z .neq<|.nil ?_;refine .cd (fun C5=>?_) (fun C5=>?_)
  ·
   refine .seq<|.r<|.z .mvI<|.z .asI<|.nil ?_;have ok:=Hp.bcls (p:=p) (kept:=rk2.kept) (ok.n2.n2);have hls:=layF_stop hjl hly (show (writeN rdi.abs nT ((l[j].page-1)*rk2.size) l[j].b).2≠0 by rw [hpn,←hfb];omega);refine .ret ⟨.int .i64 ((writeN rdi.abs nT (((pn:Int)-1)*(rk2.size:Int)) ((frN fl j).b)).2:Int),Res.one rfl rfl,⟨(⟨rk2.in_,rk2.now,va,rk2.begun,rk2.nonce,rk2.km,rk2.kept,rk2.marked,rk2.d,rw1,rk2.size,rk2.c,rk2.sure,by_,rk2.broken⟩:RK),Ew1,(by rw [hfl3,hls,hpn,←hfb];rfl),(by rw [hfl3,hls,hpn,←hfb];show RK.abs _ _ _=_;simp only [RK.abs];rw [haw1]),⟨hdk2.1.trans hdk1.1,hdk2.2.1.trans hdk1.2.1,hdk2.2.2.trans hdk1.2.2⟩,((ok).k1.e1).cup hnw1⟩⟩
  refine .skip<|.seq<|.t 15 mixed ?_;simp only [List.take_succ_cons,List.take_zero,List.drop_succ_cons,List.drop_zero];refine .z .mvP<|.z .mvP<|.z .nil<|.z (.fa T.fd136_5)<|.z (.ldx T.ag3 ok.m1)<|.z (.fa T.fd102_0)<|.z (.ldx T.ag3 ok.m3)<|.z .mvP<|.z .nil<|.z (.fa T.fd136_2)<|.z (.ldx T.ag3 ok.m1)<|?_;have hmz2:pn*rk2.size≤1048576*4096:=Nat.mul_le_mul (by omega) (by rw [hsi];exact hsz);refine .z .mulI<|.z .maxn<|.z .nil<|.z (.fa T.fd136_5)<|.nil ?_;refine .ur' (.stI T.sz3 ok.n1) ?_;rintro η8 ⟨ok,cg⟩;refine .nil ?_;refine .t 12 mixed ?_;simp only [List.take_succ_cons,List.take_zero,List.drop_succ_cons,List.drop_zero];refine .z .mvP<|.z .mvP<|.z .nil<|.z (.fa T.fd136_0)<|.z (.fa T.fd134_2)<|.z (.ldx T.ag3 ok.m0)<|.z (.fa T.fd102_0)<|.z (.ldx T.ag3 ok.m3)<|.z .maxn<|.z .nil<|.z (.fa T.fd136_0)<|.z (.fa T.fd134_2)<|.nil ?_;refine .ur' (.stI T.sz3 ok) ?_;rintro η9 ⟨ok,cg⟩;refine .nil ?_;refine .end<|hK3 _ _<|.r<|.z (.addI (b:=1))<|.z .mvI<|.nil ?_;refine .end<|?_;have ok:=Hp.bcls (p:=p) (kept:=rk2.kept) (ok.n1.n2.n2);refine hJ1 _ _ _ ⟨j+1,rw1,(max va pn),(max by_ (pn*rk2.size)),Ew1,⟨rfl,rfl,rfl,rfl,trivial⟩,ok.k1.f3.f3.f2.e3,(by omega),(by rw [layF_next hjl hly (show (writeN rdi.abs nT ((l[j].page-1)*rk2.size) l[j].b).2=0 by rw [hpn,←hfb];omega)];simp only [RK.abs,hpn,←hfb,Int.toNat_natCast];rw [haw1]),(by have:=kki.lay1 (f:=l[j]) hpj (d':=rw1.abs) hkw1;simpa only [RK.abs,hpn,Int.toNat_natCast] using this),hkw1,(by omega),hnw1,rfl⟩ (by omega)
 refine .skip<|.seq<|.block fun K1 hK1=>.seq<|.r<|?_;obtain ⟨bb2,oo2,rfl,fb2⟩:=ok.r0.pos (by omega);refine .z (.ix i T.el76 T.sz102)<|?_;have ok:=ok.d0 (rdI El El ((xa i),(frN fl i).b.length,(xc i)) ((frN fl i).b)) ((ok.r0).b i (by omega)) (fun _ h=>.inr (h.elim id id));refine .z (.ldc (vs:=vfN fl xa xc i) T.ag102 (frs_ats (ok.r1).sl (i:=i) (by omega)) T.sz102)<|.a' 7 (.alA T.zr102 ok) ?_;rintro _ η10 ⟨pb2,rfl,ok,xe⟩;refine .ur' (.stW (vs:=[.int .i64 ((frN fl i).page),.int .i64 ((frN fl i).commit),.slice (xa i) ((frN fl i).b.length) (xc i)]) T.sz102 ok (oneL rfl)) ?_;rintro η11 ⟨ok,cg⟩;refine .nil ?_;refine .r<|.z .mvS<|.z (.fa T.fd102_0)<|.z (.ldx T.ag3 ok.m0)<|.a' 25 (.lit [.tmp 24] (cs:=[.int .i64 ((frN fl i).page)]) T.el167 T.sz3 T.zr3 ok ⟨rfl,trivial⟩) ?_;rintro _ η12 ⟨pb3,rfl,ok,xe⟩;refine .a' 26 (.app (news:=[.int .i64 ((frN fl i).page)]) T.el167 T.sz3 T.by3 T.zr3 ok.n2 (ok.n2.m1).sl (oneL rfl) (by simp only [List.length_map,List.length_append,List.length_take,List.length_cons,List.length_nil,List.length_replicate,List.length_range,pgN_len,List.length_take];omega)) ?_;rintro _ η13 ⟨ya1,yn1,yc1,rfl,ok,ap⟩;refine .z .asS<|.nil ?_;refine .end<|hK1 _ _<|.r<|.z (.addI (b:=1))<|.z .mvI<|.nil ?_;refine .end<|hJ0 _ _ _ ⟨i+1,ya1,yn1,yc1,⟨rfl,rfl,rfl,rfl,rfl,rfl,trivial⟩,ok.n3.n1.k2.tR.cx (by first | rfl | exact pgs_take (by omega)),by omega,rfl⟩ (by omega)
open Go Go.HL
def lgF (p:Nat) (r:RK) (Fc:Nat→Prop) (j:Nat):Prop:=(corI p r).F j∨Fc j
structure LUp (h h':Heap) (p:Nat) (r r':RK) (Fc Fc':Nat→Prop) (room:Int) (L':List AP) (E E':Nat→Prop):Prop where
 hp:Hp h (lgF p r Fc) [corI p r',cacL r.c Fc' room L'] [bysI E' r'.rd.fs] h'
 new:∀j,E' j→E j∨h.size≤j
theorem FOk.withL {A:Bk} (k:FOk A) (L:List AP):FOk { A with L:=L }:=⟨k.dk,k.okz,k.okj,k.no,k.bg,k.mz,k.mr,k.kn,k.kb,k.vs,k.nw,k.vb⟩
theorem get_hit {A:Bk} {no:Nat} {x:AP} (h:hit no A.L=some x):(getB A no).2=(x.b,0):=by unfold getB;rw [h]
theorem get_un {A:Bk} {no:Nat} (h:hit no A.L=none):(getB A no).2=underB A no:=by unfold getB;rw [h]
end Go.Proofs.YtpeaicddbnghfaaGreat
namespace Go.HL
open Go Go.Proofs.YtpeaicddbnghfaaGreat
theorem Hp.locF {h0 h:Heap} {D:Nat→Prop} {M R:List Itm} {p c:Nat} {r:RK} {F E:Nat→Prop} {room:Int} {L:List AP} {x:SV} {fl:List Fr} (ok:Hp h0 D (corI p r::cacL c F room L::M) (bysI E r.rd.fs::R) h) (hf:RdL h F F x fl):Hp h (corI p r).F [corI p r] [bysI E r.rd.fs,rdI F F x fl] h:=by
 have o:=ok.k1.e1.loc1;refine ⟨o.chg,o.m,fun i hi=>?_,o.mm,fun a ha b hb=>?_⟩
 ·rcases List.mem_cons.1 hi with rfl | hi
  ·exact o.r _ List.mem_cons_self
  ·rw [List.mem_singleton.1 hi];exact ⟨hf,fun j hj=>((ok.m (cacL c F room L) (by simp)).2 j (hj.elim id id)).1⟩
 ·rw [List.mem_singleton.1 ha];rcases List.mem_cons.1 hb with rfl | hb
  ·exact o.mr _ List.mem_cons_self _ List.mem_cons_self
  ·rw [List.mem_singleton.1 hb];exact fun j hj hj2=>(List.pairwise_cons.1 ok.mm).1 (cacL c F room L) (by simp) j hj (hj2.elim id id)
end Go.HL
namespace Go.Proofs.YtpeaicddbnghfaaGreat
open Go Go.HL
theorem bget_any {h:Heap} {p:Nat} {r:RK} {Fc:Nat→Prop} {room:Int} {L:List AP} {E:Nat→Prop} {no:Nat} (ok:Hp h (lgF p r Fc) [corI p r,cacL r.c Fc room L] [bysI E r.rd.fs] h) (hk:DkOk r.rd.abs) (hsz:r.size≤4096) (hno:1≤no∧no≤1048576) :
  HC Tryz.prog 98 #[.pointer (some ⟨p,0,none⟩),.int .i64 (no:Int)] h (fun v h'=>∃Fc' a c,v=.tuple #[.slice a (getB (r.abs room L) no).2.1.length c,.int .i64 ((getB (r.abs room L) no).2.2:Nat)]∧Hp h (lgF p r Fc) [capI 1 5 (a,(getB (r.abs room L) no).2.1.length,c) ((getB (r.abs room L) no).2.1.map bv),corI p r,cacL r.c Fc' room (getL no L)] [bysI E r.rd.fs] h'):=by
 refine HC.go Tryz.func98 43 ?_;refine .seq<|.r<|.z .asS<|.z .asI<|.nil ?_;refine .seq<|.seq<|?_;have ok:=(ok).bopn;refine .r<|.z .mvP<|.z .nil<|.z (.fa T.fd136_3)<|.z (.ldx T.ag109 ok.m0)<|.z .mvI<|.c' 14 .func (lget_any (no:=(no:Int)) (ok.n3).m0) ?_;rintro _ η1 ⟨Fg1,(⟨ag1,cg1,xg1,rfl,hhg1,q⟩ | ⟨ag1,ng1,cg1,rfl,hhg1,q⟩)⟩
 ·
  have ok:=(ok.n3).lift2 q;refine .z .mvU<|.z .ex<|.z .ex<|.z .asS<|.z .asB<|.nil ?_;refine .seq<|.r<|.z .mvB<|.nil ?_;refine .ct<|.seq<|.r<|.z .mvS<|.z .asS<|.z .asI<|.nil ?_;have ok:=Hp.bcls (p:=p) (kept:=r.kept) (ok.n4.n4.n4);have hg:=get_hit (A:=r.abs room L) (no:=no) hhg1;refine .ret ⟨.tuple #[.slice ag1 xg1.b.length cg1,.int .i64 0],Res.two rfl rfl rfl,⟨Fg1,ag1,cg1,(by rw [hg]<;>rfl),(by rw [hg];exact (ok.n2.n1.n2).k3.e1)⟩⟩
 have ok:=(ok.n3).lift1 q;refine .z .mvU<|.z .ex<|.z .ex<|.z .asS<|.z .asB<|.nil ?_;refine .seq<|.r<|.z .mvB<|.nil ?_;refine .cf<|.skip<|.seq<|.seq<|.r<|.z .mvP<|.z .nil<|.z (.fa T.fd136_0)<|.z (.fa T.fd134_0)<|.z (.ldx T.ag4 ok.m1)<|.z .mvB<|.spl (fun G24=>?_) (fun G24=>?_)
 ·
  refine .z .mvI<|.z .mvP<|.z .nil<|.z (.fa T.fd136_0)<|.z (.fa T.fd134_2)<|.z (.ldx T.ag3 ok.m1)<|.z .gtr<|.z .pkt<|.nil ?_;refine .cd (fun C1=>?_) (fun C1=>?_)
  ·
   refine .seq<|.r<|.z .mvP<|.z .nil<|.z (.fa T.fd136_2)<|.z (.ldx T.ag3 ok.m1)<|.a' 37 (.mks r.size r.size T.el22 T.sz5 T.by5 T.zr5 ok) ?_;rintro _ η2 ⟨pb1,rfl,ok,xe⟩;have ok:=ok.cx (ys:=(List.replicate r.size (0:UInt8)).map bv) (zeros8 _);refine .z .asS<|.z .asI<|.nil ?_;have ok:=Hp.bcls (p:=p) (kept:=r.kept) (ok.n4.n4.n4);have hg:(getB (r.abs room L) no).2=(List.replicate r.size 0,0):=(get_un (A:=r.abs room L) (no:=no) hhg1).trans (by rw [show underB (r.abs room L) no=(List.replicate r.size 0,0) from if_pos (show r.in_=true∧r.valid<no from ⟨by simpa using G24,by omega⟩)]);refine .ret ⟨.tuple #[.slice (some ⟨pb1,0,none⟩) r.size r.size,.int .i64 0],Res.two rfl rfl rfl,⟨Fg1,some ⟨pb1,0,none⟩,r.size,(by rw [hg];simp only [List.length_replicate];rfl),(by rw [hg];simp only [List.length_replicate];exact (ok.n2.n1.n2).k3.e1)⟩⟩
  refine .skip<|.seq<|.r<|.z .mvP<|.z .mvI<|?_;have ok:=Hp.bcls (p:=p) (kept:=r.kept) (ok.n3.n3.n3);refine .c' 40 .func (bold_any (p:=p) (r:=(⟨r.in_,r.now,r.valid,r.begun,r.nonce,r.km,r.kept,r.marked,r.d,r.rd,r.size,r.c,r.sure,r.bytes,r.broken⟩:RK)) (E:=E) (no:=no) (ok).loc1 hk (by first | omega | exact hsz) (by omega)) ?_;rintro vo1 η3 ⟨ao1,co1,hvo1,q⟩;obtain rfl:vo1=.tuple #[.slice ao1 (oldB r.rd.abs r.size no).1.length co1,.int .i64 (((oldB r.rd.abs r.size no).2:Nat):Int)]:=hvo1;have ok:=(ok).lift2 q;refine .z .ex<|.z .ex<|.z .asS<|.z .asI<|.nil ?_;have hg:(getB (r.abs room L) no).2=oldB r.rd.abs r.size no:=(get_un (A:=r.abs room L) (no:=no) hhg1).trans (by rw [show underB (r.abs room L) no=oldB r.rd.abs r.size no from if_neg (by show ¬(r.in_=true∧r.valid<no);rintro ⟨_,h1⟩;omega)]);refine .ret ⟨.tuple #[.slice ao1 ((oldB r.rd.abs r.size no).1.length) co1,.int .i64 (((oldB r.rd.abs r.size no).2:Nat):Int)],Res.two rfl rfl rfl,⟨Fg1,ao1,co1,(by rw [hg]<;>rfl),(by rw [hg];exact (ok).k3.e1)⟩⟩
 refine .y<|.y<|.y<|.y<|.y<|.y<|.y<|.z .pkf<|.nil ?_;refine .cf<|.skip<|.seq<|.r<|.z .mvP<|.z .mvI<|?_;have ok:=Hp.bcls (p:=p) (kept:=r.kept) (ok.n3.n3.n3);refine .c' 40 .func (bold_any (p:=p) (r:=(⟨r.in_,r.now,r.valid,r.begun,r.nonce,r.km,r.kept,r.marked,r.d,r.rd,r.size,r.c,r.sure,r.bytes,r.broken⟩:RK)) (E:=E) (no:=no) (ok).loc1 hk (by first | omega | exact hsz) (by omega)) ?_;rintro vo2 η4 ⟨ao2,co2,hvo2,q⟩;obtain rfl:vo2=.tuple #[.slice ao2 (oldB r.rd.abs r.size no).1.length co2,.int .i64 (((oldB r.rd.abs r.size no).2:Nat):Int)]:=hvo2;have ok:=(ok).lift2 q;refine .z .ex<|.z .ex<|.z .asS<|.z .asI<|.nil ?_;have hg:(getB (r.abs room L) no).2=oldB r.rd.abs r.size no:=(get_un (A:=r.abs room L) (no:=no) hhg1).trans (by rw [show underB (r.abs room L) no=oldB r.rd.abs r.size no from if_neg (by show ¬(r.in_=true∧r.valid<no);rintro ⟨h1,_⟩;simp [h1] at G24)]);refine .ret ⟨.tuple #[.slice ao2 ((oldB r.rd.abs r.size no).1.length) co2,.int .i64 (((oldB r.rd.abs r.size no).2:Nat):Int)],Res.two rfl rfl rfl,⟨Fg1,ao2,co2,(by rw [hg]<;>rfl),(by rw [hg];exact (ok).k3.e1)⟩⟩
theorem bput_any {h:Heap} {p:Nat} {r:RK} {Fc:Nat→Prop} {room:Int} {L:List AP} {E F2 E2:Nat→Prop} {no:Nat} {a:Option Addr} {c:Nat} {l:List UInt8} {d:Bool} (ok:Hp h (lgF p r Fc) [corI p r,cacL r.c Fc room L] [bysI E r.rd.fs,rdI F2 E2 (a,l.length,c) l] h) (hk:DkOk r.rd.abs) (hcg:r.rd.chg<390000000) (hl:l.length≤1000000) (hr:1≤room) (hlen:L.length≤100000000) (k:FOk (r.abs room L)) (hkm:putA room no l d L≠[]→∃m,r.km=some m) (hN:(putA room no l d L).length≤1048576) (hpos:∀f∈putA room no l d L,1≤f.page∧f.page≤1048576) :
  HC Tryz.prog 103 #[.pointer (some ⟨p,0,none⟩),.int .i64 (no:Int),.slice a l.length c,.bool d] h (fun v h'=>∃r' E' Fc',v=.int .i64 ((putB (r.abs room L) no l d).2:Int)∧r'.abs room (putL room no l d L)=(putB (r.abs room L) no l d).1∧(r'.d=r.d∧r'.c=r.c∧r'.km=r.km)∧LUp h h' p r r' Fc Fc' room (putL room no l d L) E E'):=by
 have hcl:=ok.r1.c;refine HC.go Tryz.func103 19 ?_;refine .seq<|.r<|.z .asI<|.nil ?_;refine .seq<|?_;have ok:=(ok).bopn;refine .r<|.z .mvP<|.z .mvP<|.z .nil<|.z (.fa T.fd136_3)<|.z (.ldx T.ag109 ok.m0)<|.z .mvI<|.z .mvS<|.z .mvB<|.c' 17 .func (lput_any (no:=(no:Int)) (a:=a) (n:=c) (l:=l) (d:=d) (ok.n3).m0 ok.n3.r1 hl hr hlen) ?_;rintro vp1 η1 ⟨Fp1,q,hfrp1⟩;have ok:=(ok.n3).lift1 q;obtain ⟨⟨ap1,np1,cp1⟩,rfl,hfp1⟩:=hfrp1;obtain rfl:np1=((putA room (no:Int) l d L).map AFr.fr).length:=hfp1.n;rw [show sv (ap1,((putA room (no:Int) l d L).map AFr.fr).length,cp1)=.slice ap1 ((putA room (no:Int) l d L).map AFr.fr).length cp1 from rfl];have ok:=Hp.bcls (p:=p) (kept:=r.kept) (ok.n3.n3.n3);refine .c' 18 .func (bflush_any (p:=p) (r:=(⟨r.in_,r.now,r.valid,r.begun,r.nonce,r.km,r.kept,r.marked,r.d,r.rd,r.size,r.c,r.sure,r.bytes,r.broken⟩:RK)) (room:=room) (L:=(putL room (no:Int) l d L)) (E:=E) (l:=(putA room (no:Int) l d L)) (Hp.locF (ok) hfp1) hk (show r.rd.chg<390000000 from hcg) (k.withL _) hkm rfl hN hpos) ?_;rintro _ η2 ⟨rk1,Ek1,rfl,hAk1,hdk1,upk1⟩;have hzk1:=(ok).chg.size;have ok:=Hp.cor (ok) upk1;have hnk1:=fun j hj=>(upk1.new j hj).elim ((fun _ h=>Or.inl h) j) fun h1=>Or.inr (Nat.le_trans hzk1 h1);refine .z .asI<|.nil ?_;refine .ret ⟨.int .i64 ((flushB (RK.abs (⟨r.in_,r.now,r.valid,r.begun,r.nonce,r.km,r.kept,r.marked,r.d,r.rd,r.size,r.c,r.sure,r.bytes,r.broken⟩:RK) room (putL room (no:Int) l d L)) (putA room (no:Int) l d L)).2:Int),Res.one rfl rfl,⟨rk1,Ek1,Fp1,rfl,hAk1,hdk1,⟨(ok).k2.e1,hnk1⟩⟩⟩
theorem srt_uniq:∀ {a b:List Int},a.Perm b→a.Pairwise (·≤·)→b.Pairwise (·≤·)→a=b
 | [],b,p,_,_=>(List.nil_perm.1 p).symm
 | x::a,[],p,_,_=>absurd p.length_eq (by simp)
 | x::a,y::b,p,ha,hb=>by
  have h1:=List.pairwise_cons.1 ha;have h2:=List.pairwise_cons.1 hb;have e:x=y:=by
   rcases List.mem_cons.1 (p.mem_iff.1 List.mem_cons_self) with e | e
   ·exact e
   ·rcases List.mem_cons.1 (p.symm.mem_iff.1 List.mem_cons_self) with f | f
    ·exact f.symm
    ·have:=h2.1 x e;have:=h1.1 y f;omega
  subst e;rw [srt_uniq ((List.perm_cons x).1 p) h1.2 h2.2]
theorem dirty_srt {S:List Int} {L:List AP} (hp:S.Perm (nos L)) (hs:S.Pairwise (·≤·)):dirtyS S L=dirtyB L:=by
 unfold dirtyB;rw [srt_uniq (hp.trans dirtyB_perm.symm) hs ((List.pairwise_mergeSort (le:=fun a b=>decide (a≤b)) (fun a b c h1 h2=>by simp only [decide_eq_true_eq] at *;omega) (fun a b=>by simp only [Bool.or_eq_true,decide_eq_true_eq];omega) (nos L)).imp fun h=>of_decide_eq_true h)]
theorem dirtyB_len {L:List AP} : (dirtyB L).length≤L.length:=by
 have:=dirtyS_sub (S:=(nos L).mergeSort fun a b=>decide (a≤b)) (L:=L);have h1:=this.length_le;rw [List.length_map,List.length_mergeSort] at h1;simpa [nos,dirtyB] using h1
section
variable {d:Dk} {z v:Nat} {b:Bool} {f:AFr} {l o:List AFr}
theorem unl_c1 (g:(v:Int)<f.page∨b=true):unlikeL d z v b (f::l) o=unlikeL d z v b l (o++[f]):=if_pos g
variable (g:¬((v:Int)<f.page∨b=true))
include g
theorem unl_c2 (h:(oldB d z f.page.toNat).2≠0):unlikeL d z v b (f::l) o=([],(oldB d z f.page.toNat).2):=(if_neg g).trans (if_pos h)
theorem unl_c3 (h:(oldB d z f.page.toNat).2=0) (h2:(oldB d z f.page.toNat).1=f.b):unlikeL d z v b (f::l) o=unlikeL d z v b l o:=(if_neg g).trans ((if_neg (by simp [h])).trans (if_pos h2))
theorem unl_c4 (h:(oldB d z f.page.toNat).2=0) (h2:(oldB d z f.page.toNat).1≠f.b):unlikeL d z v b (f::l) o=unlikeL d z v b l (o++[f]):=(if_neg g).trans ((if_neg (by simp [h])).trans (if_neg h2))
end
theorem unl_app {d:Dk} {z v:Nat} {b:Bool} : ∀ {x y o:List AFr},unlikeL d z v b (x++y) o=if (unlikeL d z v b x o).2=0 then unlikeL d z v b y (unlikeL d z v b x o).1 else unlikeL d z v b x o
 | [],y,o=>by simp [unlikeL]
 | f::x,y,o=>by
  rw [List.cons_append];by_cases g:(v:Int)<f.page∨b=true
  ·rw [unl_c1 g,unl_c1 g];exact unl_app
  ·by_cases h:(oldB d z f.page.toNat).2=0
   ·by_cases h2:(oldB d z f.page.toNat).1=f.b
    ·rw [unl_c3 g h h2,unl_c3 g h h2];exact unl_app
    ·rw [unl_c4 g h h2,unl_c4 g h h2];exact unl_app
   ·rw [unl_c2 g h,unl_c2 g h,if_neg (by exact h)]
def unG (l:List AFr) (O:List Nat):List AFr:=O.map fun i=>l.getD i ⟨0,0,[]⟩
section
variable {d:Dk} {z v i:Nat} {b:Bool} {l o:List AFr} {O:List Nat} (hi:i<l.length) (h:unlikeL d z v b (l.take i) []=(unG l O,0))
include hi h
theorem unl_take (h1:(v:Int)<l[i].page∨b=true∨(oldB d z l[i].page.toNat).2=0∧(oldB d z l[i].page.toNat).1≠l[i].b):unlikeL d z v b (l.take (i+1)) []=(unG l (O++[i]),0):=by
 rw [List.take_succ_eq_append_getElem hi,unl_app,h,if_pos rfl];simp only [unlikeL];have e:unG l (O++[i])=unG l O++[l[i]]:=by simp [unG,hi]
 rw [e];by_cases g:(v:Int)<l[i].page∨b=true
 ·rw [if_pos g]
 ·rw [if_neg g];rcases h1 with h1 | h1 | h1
  ·exact absurd (.inl h1) g
  ·exact absurd (.inr h1) g
  ·rw [if_neg (by simp [h1.1]),if_neg h1.2]
theorem unl_skip (g:¬((v:Int)<l[i].page∨b=true)) (h1:(oldB d z l[i].page.toNat).2=0) (h2:(oldB d z l[i].page.toNat).1=l[i].b):unlikeL d z v b (l.take (i+1)) []=(unG l O,0):=by
 rw [List.take_succ_eq_append_getElem hi,unl_app,h,if_pos rfl];simp only [unlikeL];rw [if_neg g,if_neg (by simp [h1]),if_pos h2]
theorem unl_stop (g:¬((v:Int)<l[i].page∨b=true)) (h1:(oldB d z l[i].page.toNat).2≠0):unlikeL d z v b l []=([],(oldB d z l[i].page.toNat).2):=by
 have e1:l=l.take i++l[i]::l.drop (i+1):=by rw [←List.drop_eq_getElem_cons hi,List.take_append_drop]
 have h2:unlikeL d z v b (l.take i++l[i]::l.drop (i+1)) []=([],(oldB d z l[i].page.toNat).2):=by
  rw [unl_app,h,if_pos rfl];simp only [unlikeL];rw [if_neg g,if_pos h1]
 rwa [←e1] at h2
end
theorem unG_fr {l:List AFr} {O:List Nat} (h:∀i∈O,i<l.length):O.map (frN (l.map AFr.fr))=(unG l O).map AFr.fr:=by
 unfold unG;rw [List.map_map];exact List.map_congr_left fun i hi=>by have:=h i hi;simp [frN,this]
theorem _root_.Go.HL.Hp.fresh2 {h0 h:Heap} {D:Nat→Prop} {M R:List Itm} {a x y:Itm} (ok:Hp h0 D (a::x::y::M) R h) (hD:∀j,D j→x.F j∨y.F j):∀j,a.F j→h0.size≤j:=fun j hj=>by
 have hm:=(List.pairwise_cons.1 ok.mm).1;rcases ((ok.m a List.mem_cons_self).2 j hj).2 with h1 | h1
 ·rcases hD j h1 with h2 | h2
  ·exact absurd h2 (hm x (by simp) j hj)
  ·exact absurd h2 (hm y (by simp) j hj)
 ·exact h1
theorem _root_.Go.HL.Hp.idxR {h0 h:Heap} {D F E:Nat→Prop} {M R:List Itm} {x y:SV} {l:List Fr} {xa:Nat→Option Addr} {xc:Nat→Nat} {O:List Nat} (ok:Hp h0 D (capI 3 102 y (O.flatMap (vfN l xa xc))::M) (frsI F E x l xa xc::R) h) (hO:∀i∈O,i<l.length) :
  Hp h0 D M (rdI (fun j=>blkC (sv y) j∨E j) (fun j=>blkC (sv y) j∨E j) y (O.map (frN l))::frsI F E x l xa xc::R) h:=by
 have hc:=ok.m0;have hf:=ok.r0;have hrd:RdL h (blkC (sv y)) E y (O.map (frN l)):=RdL.of_cap (α:=Fr) (E:=E) (css:=O.map (vfN l xa xc)) (by rw [←List.flatMap_def];exact hc) ⟨by simp,fun i h1 h2=>by
  simp only [List.length_map] at h1;simp only [List.getElem_map];exact ⟨(xa O[i],_,xc O[i]),rfl,hf.b _ (hO _ (List.getElem_mem h1))⟩⟩
 have ok2:=(ok.frz).or (r:=capI 3 102 y (O.flatMap (vfN l xa xc))) (r':=frsI F E x l xa xc) List.mem_cons_self (List.mem_cons_of_mem _ List.mem_cons_self) (rdI (fun j=>blkC (sv y) j∨E j) (fun j=>blkC (sv y) j∨E j) y (O.map (frN l))) (hrd.mono (fun _ h=>.inl h) (fun _ h=>.inr h)) (fun j hj=>(hj.elim id id).elim .inl fun h=>.inr (.inr h));exact ok2.sub fun i hi=>by
  rcases List.mem_cons.1 hi with rfl | hi
  ·exact List.mem_cons_self
  ·exact List.mem_cons_of_mem _ (List.mem_cons_of_mem _ hi)
theorem bunlike_any {h:Heap} {p:Nat} {r:RK} {Fc:Nat→Prop} {room:Int} {L:List AP} {E:Nat→Prop} (ok:Hp h (lgF p r Fc) [corI p r,cacL r.c Fc room L] [bysI E r.rd.fs] h) (hk:DkOk r.rd.abs) (k:FOk (r.abs room L)) (hLl:L.length≤1048576) (hnr:∀k∈nos L,-9223372036854775808≤k∧k≤9223372036854775807) (hpos:∀f∈dirtyB L,1≤f.page∧f.page≤1048576) :
  HC Tryz.prog 154 #[.pointer (some ⟨p,0,none⟩)] h (fun v h'=>∃x Eo,v=.tuple #[sv x,.int .i64 ((unlikeB (r.abs room L)).2:Int)]∧Hp h (lgF p r Fc) [corI p r,cacL r.c Fc room L] [rdI Eo Eo x ((unlikeB (r.abs room L)).1.map AFr.fr),bysI E r.rd.fs] h'∧∀j,Eo j→h.size≤j):=by
 have hszk:=k.sz;have hsz:r.size≤4096:=by have:r.size=256∨r.size=512∨r.size=1024∨r.size=2048∨r.size=4096:=hszk;omega
 refine HC.go Tryz.func154 59 ?_;refine .seq<|.r<|.z .asS<|.z .asI<|.nil ?_;refine .seq<|.r<|.z .asS<|.nil ?_;refine .seq<|.seq<|?_;have ok:=(ok).bopn;refine .r<|.z .mvP<|.z .nil<|.z (.fa T.fd136_3)<|.z (.ldx T.ag109 ok.m0)<|.c' 13 .func (dirty_any (ok.n3).m0 hnr) ?_;rintro _ η1 ⟨S,hSp,hSs,hfr,hx⟩;rw [dirty_srt hSp hSs] at hfr;obtain ⟨⟨a0,n0,c0⟩,rfl,hf0⟩:=hfr;obtain ⟨fl,hfl⟩:∃fl,fl=(dirtyB L).map AFr.fr:=⟨_,rfl⟩;rw [←hfl] at hf0;obtain rfl:n0=fl.length:=hf0.n;rw [show sv (a0,fl.length,c0)=.slice a0 fl.length c0 from rfl];have ok:=ok.ret hx hf0;have hmc:=ok.r0.m;have hcc:=ok.r0.c;simp only at hmc hcc;obtain ⟨xa,xc,hf⟩:=RdL.frs ok.r0;have ok:=ok.d0 (frsI (Nw h η1) (Nw h η1) (a0,fl.length,c0) fl xa xc) hf (fun _ h=>h);have hfll:fl.length=(dirtyB L).length:=by rw [hfl,List.length_map]
 have hdl:=dirtyB_len (L:=L);refine .z (.len T.el76)<|.z .mvI<|?_;have ok:=Hp.bcls (p:=p) (kept:=r.kept) (ok);have ok:=ok.nilC (k:=3) (e:=102);refine .nil ?_;refine .block fun K0 hK0=>.loop (fun m s hh=>∃(i:Nat) (O:List Nat) (a4:Option Addr) (n4 c4:Nat),Has s [(0,.pointer (some ⟨p,0,none⟩)),(4,.slice a4 n4 c4),(13,.slice a0 fl.length c0),(14,.int .i64 (fl.length:Int)),(15,.int .i64 (i:Int))]∧Hp h (lgF p r Fc) [capI 3 102 (a4,n4,c4) ((O).flatMap (vfN fl xa xc)),corI p r,cacL r.c Fc room L] [frsI (Nw h η1) (Nw h η1) (a0,fl.length,c0) fl xa xc,rdI (Nw h η1) (Nw h η1) (a0,fl.length,c0) fl,bysI E r.rd.fs] hh∧i≤fl.length∧unlikeL r.rd.abs r.size r.valid r.begun ((dirtyB L).take i) []=(unG (dirtyB L) O,0)∧(∀j∈O,j<(dirtyB L).length)∧O.length≤i∧m=fl.length-i) ?_ ?_
 ·exact ⟨_,0,[],none,0,0,⟨rfl,rfl,rfl,rfl,rfl,trivial⟩,ok.n2.n2.n2.cx (by rfl),Nat.zero_le _,rfl,(fun _ h=>by cases h),Nat.le_refl _,rfl⟩
 rintro _ _ η2 ⟨i,O,a4,n4,c4,hs,ok,hi,hun,hO,hOl,rfl⟩ J0 hJ0;refine .frame hs fun τ=>?_;refine .seq<|.r<|.z .lss<|.nil ?_;refine .seq<|.cdr (fun C0=>?_) (fun C0=>?_)
 ·
  refine .exit<|hK0 _ _<|.seq<|.r<|.z .mvS<|.z .asS<|.z .asI<|.nil ?_;have hun2:unlikeB (r.abs room L)=(unG (dirtyB L) O,0):=by have:=hun;rw [show i=(dirtyB L).length by omega,List.take_length] at this;exact this
  have hfr:=Hp.fresh2 (ok) (fun _ h=>h);have ok:=Hp.idxR (ok) (fun j hj=>by rw [hfll];exact hO j hj);rw [hfl,unG_fr hO] at ok;refine .ret ⟨.tuple #[.slice a4 n4 c4,.int .i64 0],Res.two rfl rfl rfl,⟨(a4,n4,c4),(fun j=>blkC (sv (a4,n4,c4)) j∨(Nw h η1) j),(by rw [hun2];rfl),(by rw [hun2];exact (ok.f3.f1).k2.e2),(fun j hj=>hj.elim (fun h=>hfr j h) fun h=>h.1)⟩⟩
 refine .skip<|.seq<|.block fun K1 hK1=>.seq<|.r<|?_;obtain ⟨bb1,oo1,rfl,fb1⟩:=ok.r0.pos (by omega);refine .z (.ix i T.el76 T.sz102)<|?_;have ok:=ok.d0 (rdI (Nw h η1) (Nw h η1) ((xa i),(frN fl i).b.length,(xc i)) ((frN fl i).b)) ((ok.r0).b i (by omega)) (fun _ h=>.inr (h.elim id id));refine .z (.ldc (vs:=vfN fl xa xc i) T.ag102 (frs_ats (ok.r1).sl (i:=i) (by omega)) T.sz102)<|.a' 6 (.alA T.zr102 ok) ?_;rintro _ η3 ⟨pb1,rfl,ok,xe⟩;refine .ur' (.stW (vs:=[.int .i64 ((frN fl i).page),.int .i64 ((frN fl i).commit),.slice (xa i) ((frN fl i).b.length) (xc i)]) T.sz102 ok (oneL rfl)) ?_;rintro η4 ⟨ok,cg⟩;refine .nil ?_;refine .seq<|.seq<|?_;have ok:=(ok.n2).bopn;have hil:i<(dirtyB L).length:=by omega
 have hfj:=frN_map hil;rw [←hfl] at hfj;have hpj:=hpos (dirtyB L)[i] (List.getElem_mem hil);obtain ⟨pn,hpn⟩:∃pn:Nat,(dirtyB L)[i].page=(pn:Int):=⟨(dirtyB L)[i].page.toNat,by omega⟩;have hpg:(pn:Int)=(dirtyB L)[i].page:=hpn.symm;have hfp:(frN fl i).page=(pn:Int):=by rw [hfj];exact hpn
 have hfb:(frN fl i).b=(dirtyB L)[i].b:=by rw [hfj];rfl
 rw [hfp] at ok;refine .q (hm:=mixed)<|.z (.fa T.fd102_0)<|.z (.ldx T.ag3 ok.m3)<|.z .mvP<|.z .nil<|.z (.fa T.fd136_0)<|.z (.fa T.fd134_2)<|.z (.ldx T.ag3 ok.m0)<|.z .gtr<|.z .mvB<|.sd (fun G27=>?_) (fun G27=>?_)
 ·
  refine .y<|.y<|.y<|.y<|.y<|.z .pkt<|.nil ?_;refine .ct<|.seq<|.r<|.z .mvS<|.z (.ldb T.ag102 ok.m3 T.sz102)<|.a' 36 (.lit [.tmp 35] (cs:=[.int .i64 (pn:Int),.int .i64 ((frN fl i).commit),.slice (xa i) ((frN fl i).b.length) (xc i)]) T.el76 T.sz102 T.zr102 ok ⟨rfl,trivial⟩) ?_;rintro _ η5 ⟨pb2,rfl,ok,xe⟩;refine .a' 37 (.app (news:=[.int .i64 (pn:Int),.int .i64 ((frN fl i).commit),.slice (xa i) ((frN fl i).b.length) (xc i)]) T.el76 T.sz102 T.by102 T.zr102 ok.n5 (ok.n5.m1).sl (oneL rfl) (by rw [flat_len (vfN_len fl xa xc)];simp only [List.length_cons,List.length_nil];omega)) ?_;rintro _ η6 ⟨ya1,yn1,yc1,rfl,ok,ap⟩;have ok:=(ok).cx (ys:=(O++[i]).flatMap (vfN fl xa xc)) (by rw [List.flatMap_append];simp only [vfN,hfp,List.flatMap_cons,List.flatMap_nil,List.append_nil]);refine .z .asS<|.nil ?_;refine .exit<|hK1 _ _<|.r<|.z (.addI (b:=1))<|.z .mvI<|.nil ?_;refine .end<|?_;have ok:=Hp.bcls (p:=p) (kept:=r.kept) (ok.n4.n4.n4);refine hJ0 _ _ _ ⟨i+1,O++[i],ya1,yn1,yc1,⟨rfl,rfl,rfl,rfl,rfl,trivial⟩,ok.n4.n1.n2.k3.tR.cx (by first | rfl | (simp;done)),by omega,(by exact unl_take (show i<(dirtyB L).length by omega) hun (by rw [←hpg];exact .inl (by first | omega | (simpa using G27)))),(fun j hj=>(List.mem_append.1 hj).elim (hO j) fun h=>by rw [List.mem_singleton.1 h];exact (by omega:i<(dirtyB L).length)),(by simp;omega),rfl⟩ (by omega)
 refine .z .mvP<|.z .nil<|.z (.fa T.fd136_0)<|.z (.fa T.fd134_3)<|.z (.ldx T.ag4 ok.m0)<|.z .pkf<|.nil ?_;refine .cond (fun C1=>?_) (fun C1=>?_)
 ·
  refine .seq<|.r<|.z .mvS<|.z (.ldb T.ag102 ok.m3 T.sz102)<|.a' 36 (.lit [.tmp 35] (cs:=[.int .i64 (pn:Int),.int .i64 ((frN fl i).commit),.slice (xa i) ((frN fl i).b.length) (xc i)]) T.el76 T.sz102 T.zr102 ok ⟨rfl,trivial⟩) ?_;rintro _ η7 ⟨pb3,rfl,ok,xe⟩;refine .a' 37 (.app (news:=[.int .i64 (pn:Int),.int .i64 ((frN fl i).commit),.slice (xa i) ((frN fl i).b.length) (xc i)]) T.el76 T.sz102 T.by102 T.zr102 ok.n5 (ok.n5.m1).sl (oneL rfl) (by rw [flat_len (vfN_len fl xa xc)];simp only [List.length_cons,List.length_nil];omega)) ?_;rintro _ η8 ⟨ya2,yn2,yc2,rfl,ok,ap⟩;have ok:=(ok).cx (ys:=(O++[i]).flatMap (vfN fl xa xc)) (by rw [List.flatMap_append];simp only [vfN,hfp,List.flatMap_cons,List.flatMap_nil,List.append_nil]);refine .z .asS<|.nil ?_;refine .exit<|hK1 _ _<|.r<|.z (.addI (b:=1))<|.z .mvI<|.nil ?_;refine .end<|?_;have ok:=Hp.bcls (p:=p) (kept:=r.kept) (ok.n4.n4.n4);refine hJ0 _ _ _ ⟨i+1,O++[i],ya2,yn2,yc2,⟨rfl,rfl,rfl,rfl,rfl,trivial⟩,ok.n4.n1.n2.k3.tR.cx (by first | rfl | (simp;done)),by omega,(by exact unl_take (show i<(dirtyB L).length by omega) hun (by rw [←hpg];exact .inr (.inl C1))),(fun j hj=>(List.mem_append.1 hj).elim (hO j) fun h=>by rw [List.mem_singleton.1 h];exact (by omega:i<(dirtyB L).length)),(by simp;omega),rfl⟩ (by omega)
 have hg:¬((r.valid:Int)<(dirtyB L)[i].page∨r.begun=true):=by rw [←hpg];rintro (h | h);(have:¬(r.valid:Int)<(pn:Int):=by first | (simpa using G27) | omega);omega;simp [h] at C1
 refine .skip<|.seq<|.r<|.z .mvP<|.z (.fa T.fd102_0)<|.z (.ldx T.ag3 ok.m3)<|?_;have ok:=Hp.bcls (p:=p) (kept:=r.kept) (ok);refine .c' 42 .func (bold_any (p:=p) (r:=(⟨r.in_,r.now,r.valid,r.begun,r.nonce,r.km,r.kept,r.marked,r.d,r.rd,r.size,r.c,r.sure,r.bytes,r.broken⟩:RK)) (E:=E) (no:=pn) (ok.f3).loc1 hk (by first | omega | exact hsz) (by omega)) ?_;rintro vo1 η9 ⟨ao1,co1,hvo1,q⟩;obtain rfl:vo1=.tuple #[.slice ao1 (oldB r.rd.abs r.size pn).1.length co1,.int .i64 (((oldB r.rd.abs r.size pn).2:Nat):Int)]:=hvo1;have ok:=(ok.f3).lift2 q;refine .z .mvU<|.z .ex<|.z .ex<|.z .asS<|.z .asI<|.nil ?_;refine .seq<|.seq<|.r<|.z .mvI<|.z .neq<|.nil ?_;refine .cd (fun C2=>?_) (fun C2=>?_)
 ·
  refine .seq<|.r<|.z .mvI<|.z .asS<|.z .asI<|.nil ?_;have ok:=ok.dE (rdI none_ none_ (none,0,0) ([]:List Fr)) (RdL.nil _ none_ none_) (fun _ f=>f.elim id id);have hst:=unl_stop (show i<(dirtyB L).length by omega) hun hg (by rw [←hpg,Int.toNat_natCast];omega);have hun2:unlikeB (r.abs room L)=([],(oldB r.rd.abs r.size pn).2):=by have:=hst;rw [←hpg,Int.toNat_natCast] at this;exact this
  refine .ret ⟨.tuple #[.slice none 0 0,.int .i64 (((oldB r.rd.abs r.size pn).2:Nat):Int)],Res.two rfl rfl rfl,⟨(none,0,0),none_,(by rw [hun2]<;>rfl),(by rw [hun2];exact (ok.n4.n2.f1.f1).k2.e2),fun _ f=>f.elim⟩⟩
 have ho2:(oldB r.rd.abs r.size pn).2=0:=by omega
 refine .skip<|.seq<|.r<|.z .mvS<|.z (.fa T.fd102_2)<|.z (.ldx T.ag22 ok.m2)<|.k 51 .func (equal_any (a:=ao1) (c:=co1) (l:=(oldB r.rd.abs r.size pn).1) (b:=(xa i)) (d:=(xc i)) (l2:=(frN fl i).b) (RdL.ofCapB (v:=(ao1,(oldB r.rd.abs r.size pn).1.length,co1)) (l:=((oldB r.rd.abs r.size pn).1)) ok.m0) ok.r1)<|.z .notd<|.nil ?_;refine .cd (fun C3=>?_) (fun C3=>?_)
 ·
  have ho3:(oldB r.rd.abs r.size pn).1≠(frN fl i).b:=by simpa using C3
  refine .r<|.z .mvS<|.z (.ldb T.ag102 ok.m2 T.sz102)<|.a' 55 (.lit [.tmp 54] (cs:=[.int .i64 (pn:Int),.int .i64 ((frN fl i).commit),.slice (xa i) ((frN fl i).b.length) (xc i)]) T.el76 T.sz102 T.zr102 ok ⟨rfl,trivial⟩) ?_;rintro _ η10 ⟨pb4,rfl,ok,xe⟩;refine .a' 56 (.app (news:=[.int .i64 (pn:Int),.int .i64 ((frN fl i).commit),.slice (xa i) ((frN fl i).b.length) (xc i)]) T.el76 T.sz102 T.by102 T.zr102 ok.n4 (ok.n4.m1).sl (oneL rfl) (by rw [flat_len (vfN_len fl xa xc)];simp only [List.length_cons,List.length_nil];omega)) ?_;rintro _ η11 ⟨ya3,yn3,yc3,rfl,ok,ap⟩;have ok:=(ok).cx (ys:=(O++[i]).flatMap (vfN fl xa xc)) (by rw [List.flatMap_append];simp only [vfN,hfp,List.flatMap_cons,List.flatMap_nil,List.append_nil]);refine .z .asS<|.nil ?_;refine .end<|hK1 _ _<|.r<|.z (.addI (b:=1))<|.z .mvI<|.nil ?_;refine .end<|hJ0 _ _ _ ⟨i+1,O++[i],ya3,yn3,yc3,⟨rfl,rfl,rfl,rfl,rfl,trivial⟩,ok.n5.n4.n2.k3.f3.f3.e3.cx (by first | rfl | (simp;done)),by omega,(by exact unl_take (show i<(dirtyB L).length by omega) hun (.inr (.inr ⟨by rw [←hpg,Int.toNat_natCast];exact ho2,by rw [←hpg,Int.toNat_natCast,←hfb];exact ho3⟩))),(fun j hj=>(List.mem_append.1 hj).elim (hO j) fun h=>by rw [List.mem_singleton.1 h];exact (by omega:i<(dirtyB L).length)),(by simp;omega),rfl⟩ (by omega)
 have ho3:(oldB r.rd.abs r.size pn).1=(frN fl i).b:=by simpa using C3
 refine .skip<|.end<|hK1 _ _<|.r<|.z (.addI (b:=1))<|.z .mvI<|.nil ?_;refine .end<|hJ0 _ _ _ ⟨i+1,O,a4,n4,c4,⟨rfl,rfl,rfl,rfl,rfl,trivial⟩,ok.n4.n2.n4.k3.f3.f3.e3.cx (by first | rfl | (simp;done)),by omega,(by exact unl_skip (show i<(dirtyB L).length by omega) hun hg (by rw [←hpg,Int.toNat_natCast];exact ho2) (by rw [←hpg,Int.toNat_natCast,←hfb];exact ho3)),hO,(by omega),rfl⟩ (by omega)
end Go.Proofs.YtpeaicddbnghfaaGreat
