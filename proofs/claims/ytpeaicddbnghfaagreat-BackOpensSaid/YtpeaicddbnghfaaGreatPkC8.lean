/- The pager that keeps a journal: the file is made the present pages. Conditions: the pager is in order. The calls of the pager that keeps a journal, in plain terms: what they make of its pages, and of its file. Conditions: those that each fact names. The pager that keeps a journal: a transaction begins; what it tells of itself. Conditions: the pager is in order. The pager that keeps a journal: pages are read and written. Conditions: the pager is in order. The pager that keeps a journal: pages come and go. Conditions: the pager is in order. The pager that keeps a journal: a transaction is committed, or rolled back. Conditions: the pager is in order. The pager that keeps a journal: a transaction is rolled back; the file is opened. Conditions: the pager is in order. The pager that keeps a journal with its disk, as one item that is told in plain terms alone; what its calls keep. Conditions: those that each fact names. The calls of the pager that keeps a journal, told in plain terms alone. Conditions: the pager with its disk is one item, and few changes were made. The document's pager: Pages, Begin, Read, Rollback, Checkpoint, Open, Write, Resize; Same of pages. Conditions: the state is readable. tomeref01.Join answers its rows of bytes, one behind the other. Conditions: the rows are readable, and few. The document's pager of layer 13, in plain terms and in memory: as the one of layer 14, with no count of frames. Conditions: those that each fact names. A call of the laws, done to a pager that keeps a journal and to the document's. Conditions: both are in order. -/
import Derived.Test.YtpeaicddbnghfaaGreatPkC7
set_option maxRecDepth 100000
set_option maxHeartbeats 2000000
set_option linter.all false
namespace Go.HL
open Go
section
variable {h0 h h':Heap} {D:Nat→Prop} {M M' R R':List Itm} {a b:Itm}
theorem Hp.pair (ok:Hp h0 D (a::b::M) R h):Hp h (fun j=>a.F j∨b.F j) [a,b] R h:=
 ⟨Chg.refl _ _,fun i hi=>by
  have h1:=ok.k2.m i hi;refine ⟨h1.1,fun j hj=>⟨(h1.2 j hj).1,.inl ?_⟩⟩;rcases List.mem_cons.1 hi with rfl | hi
  ·exact .inl hj
  ·rw [List.mem_singleton.1 hi] at hj;exact .inr hj,ok.r,ok.k2.mm,ok.k2.mr⟩
theorem Hp.unpair (ok:Hp h0 D (a::b::M) R h) (q:Hp h (fun j=>a.F j∨b.F j) M' R' h') (hr:∀i∈R',∀j,i.F j→(∃x∈R,x.F j)∨h.size≤j):Hp h0 D (M'++M) (R'++R) h':=by
 have ha:=ok.m a (by simp);have hb:=ok.m b (by simp);have hG:∀j,a.F j∨b.F j→D j∨h0.size≤j:=fun j g=>g.elim (fun g=>(ha.2 j g).2) fun g=>(hb.2 j g).2;have mm:=List.pairwise_cons.1 ok.mm;have mm2:=List.pairwise_cons.1 mm.2;have hM:∀m∈M,∀j,m.F j→¬(a.F j∨b.F j):=fun m hm j hj g=>g.elim (fun g=>mm.1 m (List.mem_cons_of_mem _ hm) j g hj) fun g=>mm2.1 m hm j g hj;have hR:∀x∈R,∀j,x.F j→¬(a.F j∨b.F j):=fun x hx j hj g=>g.elim (fun g=>ok.mr a (by simp) x hx j g hj) fun g=>ok.mr b (by simp) x hx j g hj;refine ⟨ok.chg.trans' q.chg (fun j hj g=>?_),fun i hi=>?_,fun i hi=>?_,List.pairwise_append.2 ⟨q.mm,mm2.2,fun x hx y hy j hj hj2=>?_⟩,fun x hx y hy j hj hj2=>?_⟩
 ·rcases hG j g with h1 | h1
  ·exact h1
  ·omega
 ·rcases List.mem_append.1 hi with hi | hi
  ·have h1:=q.m i hi;refine ⟨h1.1,fun j hj=>⟨(h1.2 j hj).1,?_⟩⟩;rcases (h1.2 j hj).2 with g | g
   ·exact hG j g
   ·exact .inr (Nat.le_trans ok.chg.size g)
  ·have h1:=ok.m i (by simp [hi]);exact ⟨i.st _ _ _ q.chg (fun j hj=>hM i hi j hj) h1.1,fun j hj=>⟨Nat.lt_of_lt_of_le (h1.2 j hj).1 q.chg.size,(h1.2 j hj).2⟩⟩
 ·rcases List.mem_append.1 hi with hi | hi
  ·exact q.r i hi
  ·have h1:=ok.r i hi;exact ⟨i.st _ _ _ q.chg (fun j hj=>hR i hi j hj) h1.1,fun j hj=>Nat.lt_of_lt_of_le (h1.2 j hj) q.chg.size⟩
 ·have h1:=ok.m y (by simp [hy]);rcases ((q.m x hx).2 j hj).2 with g | g
  ·exact hM y hy j hj2 g
  ·have:=(h1.2 j hj2).1;omega
 ·rcases List.mem_append.1 hx with hx | hx
  ·rcases List.mem_append.1 hy with hy | hy
   ·exact q.mr x hx y hy j hj hj2
   ·rcases ((q.m x hx).2 j hj).2 with g | g
    ·exact hR y hy j hj2 g
    ·have:=(ok.r y hy).2 j hj2;omega
  ·rcases List.mem_append.1 hy with hy | hy
   ·rcases hr y hy j hj2 with ⟨z,hz,g⟩ | g
    ·exact ok.mr x (by simp [hx]) z hz j hj g
    ·have:=((ok.m x (by simp [hx])).2 j hj).1;omega
   ·exact ok.mr x (by simp [hx]) y hy j hj hj2
end
end Go.HL
namespace Go.Proofs.YtpeaicddbnghfaaGreat
open Go Go.HL
section
variable {A B C D:Bk}
def quick (A:Bk):Prop:=(unlikeB A).1=[]∧A.now=A.sure∧A.valid=A.sure∧A.begun=false
theorem lay_1 (h:(unlikeB A).2≠0):layB A=(A,(unlikeB A).2):=if_pos h
theorem lay_2 (h:(unlikeB A).2=0) (hq:quick A):layB A=(A,0):=(if_neg (by simp [h])).trans (if_pos hq)
theorem lay_n (h:(unlikeB A).2=0) (hq:¬quick A):layB A=thenB (thenB (thenB (saveB A []) fun B=>flushB B (unlikeB A).1) cutB) layEnd:=(if_neg (by simp [h])).trans (if_neg hq)
variable (h:(unlikeB A).2=0) (hq:¬quick A)
include h hq
theorem lay_s (h1:(saveB A []).2≠0):layB A=saveB A []:=by rw [lay_n h hq,thenB_e,thenB_e,thenB_e h1]<;>(repeat rw [thenB_e h1])<;>exact h1
variable (h1:(saveB A []).2=0) (hB:B=(saveB A []).1)
include h1 hB
theorem lay_f (h2:(flushB B (unlikeB A).1).2≠0):layB A=flushB B (unlikeB A).1:=by
 rw [lay_n h hq,thenB_0 h1,←hB];rw [thenB_e (a:=flushB B (unlikeB A).1) h2,thenB_e h2]
variable (h2:(flushB B (unlikeB A).1).2=0) (hC:C=(flushB B (unlikeB A).1).1)
include h2 hC
theorem lay_c (h3:(cutB C).2≠0):layB A=cutB C:=by rw [lay_n h hq,thenB_0 h1,←hB,thenB_0 h2,←hC,thenB_e h3]
theorem lay_e (h3:(cutB C).2=0) (hD:D=(cutB C).1):layB A=layEnd D:=by rw [lay_n h hq,thenB_0 h1,←hB,thenB_0 h2,←hC,thenB_0 h3,←hD]
end
section
variable {A:Bk} {d:Dk}
def lay0 (A:Bk):Dk × Nat:=if A.bytes≠A.now*A.size∧(sizeN A.dk nT).2=false then writeN A.dk nT 0 [] else (A.dk,0)
theorem lend_def:layEnd A=if (thenN (lay0 A) fun d=>lengthB d (A.now*A.size)).2≠0 then ({ A with dk:=(thenN (lay0 A) fun d=>lengthB d (A.now*A.size)).1 },(thenN (lay0 A) fun d=>lengthB d (A.now*A.size)).2) else ({ A with dk:=(overB (thenN (lay0 A) fun d=>lengthB d (A.now*A.size)).1).1,bytes:=A.now*A.size },(overB (thenN (lay0 A) fun d=>lengthB d (A.now*A.size)).1).2):=rfl
theorem lend_w (h:(lay0 A).2≠0):layEnd A=({ A with dk:=(lay0 A).1 },(lay0 A).2):=by rw [lend_def,thenN_e h,if_pos h]
theorem lend_l (h:lay0 A=(d,0)) (h2:(lengthB d (A.now*A.size)).2≠0):layEnd A=({ A with dk:=(lengthB d (A.now*A.size)).1 },(lengthB d (A.now*A.size)).2):=by rw [lend_def,h,thenN_0 rfl,if_pos h2]
theorem lend_o (h:lay0 A=(d,0)) (h2:(lengthB d (A.now*A.size)).2=0):layEnd A=({ A with dk:=(overB (lengthB d (A.now*A.size)).1).1,bytes:=A.now*A.size },(overB (lengthB d (A.now*A.size)).1).2):=by rw [lend_def,h,thenN_0 rfl,if_neg (by simp [h2])]
end
theorem unlike_sub {A:Bk} : ∀f∈(unlikeB A).1,f∈dirtyB A.L:=by
 have key:∀ {d:Dk} {z v:Nat} {b:Bool} {l o:List AFr},∀f∈(unlikeL d z v b l o).1,f∈l∨f∈o:=fun {d z v b l}=>by
  induction l with
  | nil=>intro o f hf;exact .inr hf
  | cons g l ih=>
   intro o f hf;have up:∀ {o2:List AFr},f∈(unlikeL d z v b l o2).1→(f∈o2→f∈g::l∨f∈o)→f∈g::l∨f∈o:=fun h1 h2=>(ih f h1).elim (fun h=>.inl (List.mem_cons_of_mem _ h)) h2;have h1:f∈o++[g]→f∈g::l∨f∈o:=fun h=>(List.mem_append.1 h).elim .inr fun h=>.inl (by rw [List.mem_singleton.1 h];simp);by_cases c1:(v:Int)<g.page∨b=true
   ·rw [unl_c1 c1] at hf;exact up hf h1
   ·by_cases c2:(oldB d z g.page.toNat).2=0
    ·by_cases c3:(oldB d z g.page.toNat).1=g.b
     ·rw [unl_c3 c1 c2 c3] at hf;exact up hf .inr
     ·rw [unl_c4 c1 c2 c3] at hf;exact up hf h1
    ·rw [unl_c2 c1 c2] at hf;cases hf
 intro f hf;exact (key f hf).resolve_right (by simp)
theorem unlike_len {A:Bk} : (unlikeB A).1.length≤A.L.length:=by
 have key:∀ {d:Dk} {z v:Nat} {b:Bool} {l o:List AFr},(unlikeL d z v b l o).1.length≤l.length+o.length:=fun {d z v b l}=>by
  induction l with
  | nil=>intro o;simp [unlikeL]
  | cons g l ih=>
   intro o;have h1:=ih (o:=o);have h2:=ih (o:=o++[g]);simp only [List.length_append,List.length_cons,List.length_nil] at h2⊢;by_cases c1:(v:Int)<g.page∨b=true
   ·rw [unl_c1 c1];omega
   ·by_cases c2:(oldB d z g.page.toNat).2=0
    ·by_cases c3:(oldB d z g.page.toNat).1=g.b
     ·rw [unl_c3 c1 c2 c3];omega
     ·rw [unl_c4 c1 c2 c3];omega
    ·rw [unl_c2 c1 c2];simp
 have h1:=key (d:=A.dk) (z:=A.size) (v:=A.valid) (b:=A.begun) (l:=dirtyB A.L) (o:=[]);have h2:=dirtyB_len (L:=A.L);simp only [List.length_nil] at h1;exact Nat.le_trans h1 (by omega)
theorem blay_any {h:Heap} {p:Nat} {r:RK} {Fc:Nat→Prop} {room:Int} {L:List AP} {E:Nat→Prop} (ok:Hp h (lgF p r Fc) [corI p r,cacL r.c Fc room L] [bysI E r.rd.fs] h) (hk:DkOk r.rd.abs) (hcg:r.rd.chg<380000000) (k:FOk (r.abs room L)) (hkm:∃m,r.km=some m) (hLl:L.length≤1048576) (hnr:∀k∈nos L,-9223372036854775808≤k∧k≤9223372036854775807) (hpos:∀f∈dirtyB L,1≤f.page∧f.page≤1048576) :
  HC Tryz.prog 100 #[.pointer (some ⟨p,0,none⟩)] h (fun v h'=>∃r' E',v=.int .i64 ((layB (r.abs room L)).2:Int)∧r'.abs room L=(layB (r.abs room L)).1∧(r'.d=r.d∧r'.c=r.c∧r'.km=r.km)∧LUp h h' p r r' Fc Fc room L E E'):=by
 have hcz:0≤r.rd.chg:=k.dk.chg;have kbg:r.begun=true→1≤r.marked:=k.bg;have kmr:r.marked≤1048577:=k.marked;have kno:r.nonce<18446744073709551616:=k.no;refine HC.go Tryz.func100 140 ?_;refine .seq<|.r<|.z .asI<|.nil ?_;refine .seq<|.r<|.z .mvP<|.c' 14 .func (bunlike_any (p:=p) (r:=r) (Fc:=Fc) (room:=room) (L:=L) (E:=E) (Hp.pair (ok)).e1 hk k hLl hnr hpos) ?_;rintro _ η1 ⟨xu,Eo,rfl,q,hEo⟩;have hzu:=(ok).chg.size;have ok:=(Hp.unpair (ok) q (fun i hi j hj=>(List.mem_cons.1 hi).elim (fun h=>.inr (hEo j (h▸hj |>.elim id id))) fun h=>.inl ⟨_,List.mem_cons_self,List.mem_singleton.1 h▸hj⟩)).e2;obtain ⟨ax,nx,cx⟩:=xu;obtain rfl:nx=((unlikeB (RK.abs r room L)).1.map AFr.fr).length:=ok.r0.n;rw [show sv (ax,((unlikeB (RK.abs r room L)).1.map AFr.fr).length,cx)=.slice ax ((unlikeB (RK.abs r room L)).1.map AFr.fr).length cx from rfl];refine .z .mvU<|.z .ex<|.z .ex<|.z .asS<|.z .asI<|.nil ?_;refine .seq<|.seq<|.r<|.z .mvI<|.z .neq<|.nil ?_;refine .cd (fun C0=>?_) (fun C0=>?_)
 ·
  refine .seq<|.r<|.z .mvI<|.z .asI<|.nil ?_;have hl:=lay_1 (A:=r.abs room L) (fun h=>C0 (Int.natCast_eq_zero.2 h));refine .ret ⟨.int .i64 ((unlikeB (RK.abs r room L)).2:Int),Res.one rfl rfl,⟨r,E,(by rw [hl]<;>rfl),(by rw [hl]),⟨rfl,rfl,rfl⟩,⟨(ok.f1).k2.e1,(fun _ h=>Or.inl h)⟩⟩⟩
 have hu0:(unlikeB (r.abs room L)).2=0:=Int.natCast_eq_zero.1 (Decidable.not_not.1 C0);refine .skip<|.seq<|.seq<|.join (fun s hh=>∃(qb:Bool),Has s [(0,.pointer (some ⟨p,0,none⟩)),(3,.slice ax (((unlikeB (RK.abs r room L)).1.map AFr.fr).length) cx),(54,.bool qb)]∧Hp h (lgF p r Fc) [corI p r,cacL r.c Fc room L] [rdI Eo Eo (ax,((unlikeB (RK.abs r room L)).1.map AFr.fr).length,cx) ((unlikeB (RK.abs r room L)).1.map AFr.fr),bysI E r.rd.fs] hh∧(qb=true↔quick (r.abs room L))) ?_ ?_
 ·
  have ok:=(ok).bopn;refine .q (hm:=mixed)<|.z .mvS<|.z (.len T.el76)<|.z .eql<|.z .mvB<|.sd (fun G23=>?_) (fun G23=>?_)
  ·
   refine .z .mvP<|.z .nil<|.z (.fa T.fd136_0)<|.z (.fa T.fd134_1)<|.z (.ldx T.ag3 ok.m0)<|.z .mvP<|.z .nil<|.z (.fa T.fd136_4)<|.z (.ldx T.ag3 ok.m0)<|.z .eql<|.z .pkt<|.z .mvB<|.sd (fun G35=>?_) (fun G35=>?_)
   ·
    refine .z .mvP<|.z .nil<|.z (.fa T.fd136_0)<|.z (.fa T.fd134_2)<|.z (.ldx T.ag3 ok.m0)<|.z .mvP<|.z .nil<|.z (.fa T.fd136_4)<|.z (.ldx T.ag3 ok.m0)<|.z .eql<|.z .pkt<|.z .mvB<|.sd (fun G47=>?_) (fun G47=>?_)
    ·
     refine .z .mvP<|.z .nil<|.z (.fa T.fd136_0)<|.z (.fa T.fd134_3)<|.z (.ldx T.ag4 ok.m0)<|.z .not<|.z .pkt<|.nil ?_;refine .end<|?_;have ok:=Hp.bcls (p:=p) (kept:=r.kept) (ok);refine ⟨(!r.begun),⟨rfl,rfl,rfl,trivial⟩,ok.n1.n1,⟨fun h=>⟨List.eq_nil_of_length_eq_zero (by have:=G23;rw [List.length_map] at this;omega),(show r.now=r.sure by omega),(show r.valid=r.sure by omega),(show r.begun=false by simpa using h)⟩,fun h=>by rw [show r.begun=false from h.2.2.2];rfl⟩⟩
    refine .y<|.y<|.y<|.y<|.y<|.y<|.z .pkf<|.nil ?_;refine .end<|?_;have ok:=Hp.bcls (p:=p) (kept:=r.kept) (ok);refine ⟨false,⟨rfl,rfl,rfl,trivial⟩,ok.n1.n1,⟨fun h=>(by cases h),fun h=>absurd (show r.valid=r.sure from h.2.2.1) (by omega)⟩⟩
   refine .y<|.y<|.y<|.y<|.y<|.y<|.y<|.y<|.y<|.y<|.z .pkf<|.z .mvB<|.y<|.y<|.y<|.y<|.y<|.y<|.z .pkf<|.nil ?_;refine .end<|?_;have ok:=Hp.bcls (p:=p) (kept:=r.kept) (ok);refine ⟨false,⟨rfl,rfl,rfl,trivial⟩,ok.n1.n1,⟨fun h=>(by cases h),fun h=>absurd (show r.now=r.sure from h.2.1) (by omega)⟩⟩
  refine .y<|.y<|.y<|.y<|.y<|.y<|.y<|.y<|.y<|.y<|.z .pkf<|.z .mvB<|.y<|.y<|.y<|.y<|.y<|.y<|.y<|.y<|.y<|.y<|.z .pkf<|.z .mvB<|.y<|.y<|.y<|.y<|.y<|.y<|.z .pkf<|.nil ?_;refine .end<|?_;have ok:=Hp.bcls (p:=p) (kept:=r.kept) (ok);refine ⟨false,⟨rfl,rfl,rfl,trivial⟩,ok.n1.n1,⟨fun h=>(by cases h),fun h=>absurd (show ((unlikeB (r.abs room L)).1.map AFr.fr).length=0 by rw [h.1];rfl) (by omega)⟩⟩
 rintro s η2 ⟨qb,hs,ok,hqb⟩;refine .frame hs fun τ=>?_;refine .cond (fun C1=>?_) (fun C1=>?_)
 ·
  refine .seq<|.r<|.z .asI<|.nil ?_;have hl:=lay_2 (A:=r.abs room L) hu0 (hqb.1 C1);refine .ret ⟨.int .i64 0,Res.one rfl rfl,⟨r,E,(by rw [hl]<;>rfl),(by rw [hl]),⟨rfl,rfl,rfl⟩,⟨(ok.f1).k2.e1,(fun _ h=>Or.inl h)⟩⟩⟩
 have hq:¬quick (r.abs room L):=fun h=>by rw [hqb.2 h] at C1;cases C1
 refine .skip<|.seq<|.seq<|.r<|.z .mvP<|?_;have ok:=ok.dE (rdI none_ none_ (none,0,0) ([]:List Int)) (RdL.nil _ none_ none_) (fun _ f=>f.elim id id);refine .c' 56 .func (save_any (p:=p) (r:=r) (room:=room) (L:=L) (E:=E) (a:=none) (c:=0) (li:=([]:List Int)) (ok.f2).loc2 hk (show r.rd.chg<500000000 by omega) hcz kbg kmr kno k.okz k.okj hkm (Nat.zero_le _) (fun _ h=>by cases h)) ?_;rintro _ η3 ⟨rk1,Ek1,rfl,hAk1,hdk1,upk1⟩;have hzk1:=(ok.f2).chg.size;have ok:=(ok.f2).cor upk1;have hnk1:=fun j hj=>(upk1.new j hj).elim ((fun _ h=>Or.inl h) j) fun h1=>Or.inr (Nat.le_trans hzk1 h1);have hst:=save_st (A:=r.abs room L) (l:=([]:List Int).map Int.toNat);rw [←hAk1] at hst;have hsd:=save_dk (A:=r.abs room L) (l:=([]:List Int).map Int.toNat) hk;rw [←hAk1] at hsd;have hkk1:DkOk rk1.rd.abs:=hsd.1;have hck1:rk1.rd.chg≤r.rd.chg+4:=hsd.2;have kk1:FOk (rk1.abs room L):=by rw [hAk1];exact k.save (fun _ h=>by cases h)
 refine .z .asI<|.nil ?_;refine .seq<|.r<|.z .mvI<|.z .neq<|.nil ?_;refine .cd (fun C2=>?_) (fun C2=>?_)
 ·
  refine .seq<|.r<|.z .mvI<|.z .asI<|.nil ?_;have hl:=lay_s (A:=r.abs room L) hu0 hq (fun h=>C2 (Int.natCast_eq_zero.2 h));refine .ret ⟨.int .i64 ((saveB (RK.abs r room L) (([]:List Int).map Int.toNat)).2:Int),Res.one rfl rfl,⟨rk1,Ek1,(by rw [hl]<;>rfl),(by rw [hl];exact hAk1),hdk1,⟨(ok).k2.e1,hnk1⟩⟩⟩
 have h1:(saveB (r.abs room L) []).2=0:=Int.natCast_eq_zero.1 (Decidable.not_not.1 C2);refine .skip<|.seq<|.seq<|.r<|.z .mvP<|.z .mvS<|.c' 62 .func (bflush_any (p:=p) (r:=rk1) (room:=room) (L:=L) (E:=Ek1) (a:=ax) (c:=cx) (fl:=((unlikeB (RK.abs r room L)).1.map AFr.fr)) (l:=(unlikeB (r.abs room L)).1) (ok.f2.f1).loc2 hkk1 (show rk1.rd.chg<390000000 by omega) kk1 (fun _=>hdk1.2.2.symm▸hkm) rfl (Nat.le_trans unlike_len hLl) (fun f hf=>hpos f (unlike_sub f hf))) ?_;rintro _ η4 ⟨rk2,Ek2,rfl,hAk2,hdk2,upk2⟩;have hzk2:=(ok.f2.f1).chg.size;have ok:=(ok.f2.f1).cor upk2;have hnk2:=fun j hj=>(upk2.new j hj).elim (hnk1 j) fun h1=>Or.inr (Nat.le_trans hzk2 h1);have kk2:FOk (rk2.abs room L):=by rw [hAk2];exact kk1.flush (fun f hf=>hpos f (unlike_sub f hf))
 have hfd:=flush_dk (A:=rk1.abs room L) (l:=(unlikeB (r.abs room L)).1) hkk1;rw [←hAk2] at hfd;have hkk2:DkOk rk2.rd.abs:=hfd.1;have hul:=unlike_len (A:=r.abs room L);have hul2:(unlikeB (r.abs room L)).1.length≤1048576:=Nat.le_trans hul hLl;have hck2:rk2.rd.chg≤rk1.rd.chg+9+(unlikeB (r.abs room L)).1.length:=hfd.2;refine .z .asI<|.nil ?_;refine .seq<|.r<|.z .mvI<|.z .neq<|.nil ?_;refine .cd (fun C3=>?_) (fun C3=>?_)
 ·
  refine .seq<|.r<|.z .mvI<|.z .asI<|.nil ?_;have hl:=lay_f (A:=r.abs room L) hu0 hq h1 hAk1 (fun h=>C3 (Int.natCast_eq_zero.2 h));refine .ret ⟨.int .i64 ((flushB (RK.abs rk1 room L) (unlikeB (r.abs room L)).1).2:Int),Res.one rfl rfl,⟨rk2,Ek2,(by rw [hl]<;>rfl),(by rw [hl];exact hAk2),⟨hdk2.1.trans hdk1.1,hdk2.2.1.trans hdk1.2.1,hdk2.2.2.trans hdk1.2.2⟩,⟨(ok).k2.e1,hnk2⟩⟩⟩
 have h2:(flushB (rk1.abs room L) (unlikeB (r.abs room L)).1).2=0:=Int.natCast_eq_zero.1 (Decidable.not_not.1 C3);refine .skip<|.seq<|.seq<|.r<|.z .mvP<|.c' 67 .func (bcut_any (p:=p) (r:=rk2) (room:=room) (L:=L) (E:=Ek2) (ok).loc1 hkk2 (show rk2.rd.chg<400000000 by omega) kk2.dk.chg kk2.bg kk2.marked kk2.no kk2.okz kk2.okj (by rw [hdk2.2.2,hdk1.2.2];exact hkm) kk2.vs kk2.vb) ?_;rintro _ η5 ⟨rk3,Ek3,rfl,hAk3,hdk3,upk3⟩;have hzk3:=(ok).chg.size;have ok:=(ok).cor upk3;have hnk3:=fun j hj=>(upk3.new j hj).elim (hnk2 j) fun h1=>Or.inr (Nat.le_trans hzk3 h1);have kk3:FOk (rk3.abs room L):=by rw [hAk3];exact kk2.cut
 have hcd:=cut_dk (A:=rk2.abs room L) hkk2;rw [←hAk3] at hcd;have hkk3:DkOk rk3.rd.abs:=hcd.1;have hck3:rk3.rd.chg≤rk2.rd.chg+5:=hcd.2;have hsi3:=kk3.sz;replace hsi3:rk3.size=256∨rk3.size=512∨rk3.size=1024∨rk3.size=2048∨rk3.size=4096:=hsi3;have hnw3:rk3.now≤1048576:=kk3.nw;have hmz3:rk3.now*rk3.size≤1048576*4096:=Nat.mul_le_mul hnw3 (by omega);refine .z .asI<|.nil ?_;refine .seq<|.r<|.z .mvI<|.z .neq<|.nil ?_;refine .cd (fun C4=>?_) (fun C4=>?_)
 ·
  refine .seq<|.r<|.z .mvI<|.z .asI<|.nil ?_;have hl:=lay_c (A:=r.abs room L) hu0 hq h1 hAk1 h2 hAk2 (fun h=>C4 (Int.natCast_eq_zero.2 h));refine .ret ⟨.int .i64 ((cutB (RK.abs rk2 room L)).2:Int),Res.one rfl rfl,⟨rk3,Ek3,(by rw [hl]<;>rfl),(by rw [hl];exact hAk3),⟨hdk3.1.trans (hdk2.1.trans hdk1.1),hdk3.2.1.trans (hdk2.2.1.trans hdk1.2.1),hdk3.2.2.trans (hdk2.2.2.trans hdk1.2.2)⟩,⟨(ok).k2.e1,hnk3⟩⟩⟩
 have hle:=lay_e (A:=r.abs room L) hu0 hq h1 hAk1 h2 hAk2 (Int.natCast_eq_zero.1 (Decidable.not_not.1 C4)) hAk3;refine .skip<|.seq<|.seq<|?_;have ok:=(ok).bopn;refine .q (hm:=mixed)<|.z .mvP<|.z .nil<|.z (.fa T.fd136_5)<|.z (.ldx T.ag3 ok.m0)<|.z .mvP<|.z .nil<|.z (.fa T.fd136_0)<|.z (.fa T.fd134_1)<|.z (.ldx T.ag3 ok.m0)<|.z .mvP<|.z .nil<|.z (.fa T.fd136_2)<|.z (.ldx T.ag3 ok.m0)<|.z .mulI<|.z .neq<|.nil ?_;refine .join (fun s hh=>∃(rdj:RD) (Ej:Nat→Prop),Has s [(0,.pointer (some ⟨p,0,none⟩))]∧Hp h (lgF p r Fc) [corI p (⟨rk3.in_,rk3.now,rk3.valid,rk3.begun,rk3.nonce,rk3.km,rk3.kept,rk3.marked,rk3.d,rdj,rk3.size,rk3.c,rk3.sure,rk3.bytes,rk3.broken⟩:RK),cacL r.c Fc room L] [bysI Ej rdj.fs] hh∧lay0 (rk3.abs room L)=(rdj.abs,0)∧DkOk rdj.abs∧rdj.chg≤rk3.rd.chg+1∧(∀x,Ej x→E x∨h.size≤x)) ?_ ?_
 ·
  refine .cd (fun C5=>?_) (fun C5=>?_)
  ·
   refine .seq<|.r<|.z .mvP<|.z .nil<|.z (.fa T.fd136_1)<|.z (.ldx T.ag30 ok.m0)<|.k 91 .func (size_anyD (d:=rk3.d) (r:=rk3.rd) (n:=nT) (ok.m2))<|.z .mvU<|.z .ex<|.z .ex<|.z .asI<|.z .asB<|.nil ?_;refine .seq<|.r<|.z .mvB<|.z .not<|.nil ?_;refine .cond (fun C6=>?_) (fun C6=>?_)
   ·
    refine .seq<|.r<|.z .mvP<|.z .nil<|.z (.fa T.fd136_1)<|.z (.ldx T.ag30 ok.m0)<|?_;have ok:=ok.dE (rdI none_ none_ (none,0,0) ([]:List UInt8)) (RdL.nil _ none_ none_) (fun _ f=>f.elim id id);refine .c' 100 .func (write_any (d:=rk3.d) (r:=rk3.rd) (E:=Ek3) (n:=nT) (z:=0) (a:=none) (c:=0) (l:=([]:List UInt8)) (ok.n2.f1).loc2 hkk3 (by omega) ⟨by omega,by omega⟩) ?_;rintro _ η6 ⟨rw1,Ew1,rfl,haw1,upw1⟩;have hzw1:=(ok).chg.size;have ok:=(ok.n2.f1).dsk (d:=rk3.d) (r:=rk3.rd) upw1;have hkw1:DkOk rw1.abs:=by rw [haw1];exact (hkk3).write
    have hcw1:rw1.chg≤rk3.rd.chg+1:=Int.le_trans (Int.le_of_eq (congrArg Dk.chg haw1)) write_chg;have hnw1:=fun j hj=>(upw1.new j hj).elim (hnk3 j) fun h1=>Or.inr (Nat.le_trans hzw1 h1);refine .z .asI<|.nil ?_;refine .seq<|.r<|.z .mvI<|.z .neq<|.nil ?_;refine .cd (fun C7=>?_) (fun C7=>?_)
    ·
     refine .seq<|.r<|.z .mvI<|.z .asI<|.nil ?_;have ok:=Hp.bcls (p:=p) (kept:=rk3.kept) (ok.n2.n2);have hl0:lay0 (rk3.abs room L)=writeN rk3.rd.abs nT 0 []:=if_pos ⟨show rk3.bytes≠rk3.now*rk3.size by omega,(show (sizeN rk3.rd.abs nT).2=false by simpa using C6)⟩;have hl:=hle.trans (lend_w (by rw [hl0];exact fun h=>C7 (Int.natCast_eq_zero.2 h)));rw [hl0] at hl;refine .ret ⟨.int .i64 ((writeN rk3.rd.abs nT 0 ([]:List UInt8)).2:Int),Res.one rfl rfl,⟨(⟨rk3.in_,rk3.now,rk3.valid,rk3.begun,rk3.nonce,rk3.km,rk3.kept,rk3.marked,rk3.d,rw1,rk3.size,rk3.c,rk3.sure,rk3.bytes,rk3.broken⟩:RK),Ew1,(by rw [hl]<;>rfl),(by rw [hl];show RK.abs _ _ _=_;simp only [RK.abs];rw [haw1]),⟨hdk3.1.trans (hdk2.1.trans hdk1.1),hdk3.2.1.trans (hdk2.2.1.trans hdk1.2.1),hdk3.2.2.trans (hdk2.2.2.trans hdk1.2.2)⟩,⟨(ok).k2.e1,hnw1⟩⟩⟩
    refine .skip<|.end<|?_;have ok:=Hp.bcls (p:=p) (kept:=rk3.kept) (ok.n2.n2);refine ⟨rw1,Ew1,⟨rfl,trivial⟩,ok.n1.n1.e1,(if_pos ⟨show rk3.bytes≠rk3.now*rk3.size by omega,(show (sizeN rk3.rd.abs nT).2=false by simpa using C6)⟩:lay0 (rk3.abs room L)=writeN rk3.rd.abs nT 0 []).trans (Prod.ext haw1.symm (Int.natCast_eq_zero.1 (Decidable.not_not.1 C7))),hkw1,by omega,hnw1⟩
   refine .skip<|.end<|?_;have ok:=Hp.bcls (p:=p) (kept:=rk3.kept) (ok);refine ⟨rk3.rd,Ek3,⟨rfl,trivial⟩,ok.n1.n1.e1,if_neg (by rintro ⟨_,h⟩;rw [show (sizeN (rk3.abs room L).dk nT).2=true from (show (sizeN rk3.rd.abs nT).2=true by simpa using C6)] at h;cases h),hkk3,by omega,hnk3⟩
  refine .skip<|.end<|?_;have ok:=Hp.bcls (p:=p) (kept:=rk3.kept) (ok);refine ⟨rk3.rd,Ek3,⟨rfl,trivial⟩,ok.n1.n1.e1,if_neg (by rintro ⟨h,_⟩;exact h (show rk3.bytes=rk3.now*rk3.size by omega)),hkk3,by omega,hnk3⟩
 rintro s η7 ⟨rdj,Ej,hs,ok,hl0,hkj,hcj,hnj⟩;refine .frame hs fun τ=>?_;refine .seq<|.seq<|?_;have ok:=(ok).bopn;refine .t 14 mixed ?_;simp only [List.take_succ_cons,List.take_zero,List.drop_succ_cons,List.drop_zero];refine .z .mvP<|.z .nil<|.z (.fa T.fd136_1)<|.z (.ldx T.ag30 ok.m0)<|.z .mvP<|.z .nil<|.z (.fa T.fd136_0)<|.z (.fa T.fd134_1)<|.z (.ldx T.ag3 ok.m0)<|.z .mvP<|.z .nil<|.z (.fa T.fd136_2)<|.z (.ldx T.ag3 ok.m0)<|.z .mulI<|.nil ?_;refine .c' 118 .func (blen_any (d:=rk3.d) (r:=rdj) (E:=Ej) (n:=(rk3.now*rk3.size)) (ok.n2).loc1 hkj (by omega) (by omega)) ?_;rintro _ η8 ⟨rw2,Ew2,rfl,haw2,upw2⟩;have hzw2:=(ok).chg.size;have ok:=(ok.n2).dsk (d:=rk3.d) (r:=rdj) upw2;have hkw2:DkOk rw2.abs:=by rw [haw2];exact (hkj).len
 have hcw2:rw2.chg≤rdj.chg+2:=Int.le_trans (Int.le_of_eq (congrArg Dk.chg haw2)) len_chg;have hnw2:=fun j hj=>(upw2.new j hj).elim (hnj j) fun h1=>Or.inr (Nat.le_trans hzw2 h1);refine .z .asI<|.nil ?_;refine .seq<|.r<|.z .mvI<|.z .neq<|.nil ?_;refine .cd (fun C8=>?_) (fun C8=>?_)
 ·
  refine .seq<|.r<|.z .mvI<|.z .asI<|.nil ?_;have ok:=Hp.bcls (p:=p) (kept:=rk3.kept) (ok.n2.n2);have hl:=hle.trans (lend_l hl0 (fun h=>C8 (Int.natCast_eq_zero.2 h)));refine .ret ⟨.int .i64 ((lengthB rdj.abs (rk3.now*rk3.size)).2:Int),Res.one rfl rfl,⟨(⟨rk3.in_,rk3.now,rk3.valid,rk3.begun,rk3.nonce,rk3.km,rk3.kept,rk3.marked,rk3.d,rw2,rk3.size,rk3.c,rk3.sure,rk3.bytes,rk3.broken⟩:RK),Ew2,(by rw [hl]<;>rfl),(by rw [hl];show RK.abs _ _ _=_;simp only [RK.abs];rw [haw2]<;>rfl),⟨hdk3.1.trans (hdk2.1.trans hdk1.1),hdk3.2.1.trans (hdk2.2.1.trans hdk1.2.1),hdk3.2.2.trans (hdk2.2.2.trans hdk1.2.2)⟩,⟨(ok).k2.e1,hnw2⟩⟩⟩
 refine .skip<|.seq<|.t 13 mixed ?_;simp only [List.take_succ_cons,List.take_zero,List.drop_succ_cons,List.drop_zero];refine .z .mvP<|.z .mvP<|.z .nil<|.z (.fa T.fd136_0)<|.z (.fa T.fd134_1)<|.z (.ldx T.ag3 ok.m1)<|.z .mvP<|.z .nil<|.z (.fa T.fd136_2)<|.z (.ldx T.ag3 ok.m1)<|.z .mulI<|.z .nil<|.z (.fa T.fd136_5)<|.nil ?_;refine .ur' (.stI T.sz3 ok.n1) ?_;rintro η9 ⟨ok,cg⟩;refine .nil ?_;refine .seq<|.r<|.z .mvP<|.z .nil<|.z (.fa T.fd136_1)<|.z (.ldx T.ag30 ok.m0)<|.c' 139 .func (bover_any (d:=rk3.d) (r:=rw2) (E:=Ew2) (ok.n1).loc1 hkw2 (by omega)) ?_;rintro _ η10 ⟨rw3,Ew3,rfl,haw3,upw3⟩;have hzw3:=(ok).chg.size;have ok:=(ok.n1).dsk (d:=rk3.d) (r:=rw2) upw3;have hkw3:DkOk rw3.abs:=by rw [haw3];exact (hkw2).over
 have hcw3:rw3.chg≤rw2.chg+4:=Int.le_trans (Int.le_of_eq (congrArg Dk.chg haw3)) over_chg;have hnw3:=fun j hj=>(upw3.new j hj).elim (hnw2 j) fun h1=>Or.inr (Nat.le_trans hzw3 h1);refine .z .asI<|.nil ?_;have ok:=Hp.bcls (p:=p) (kept:=rk3.kept) (ok.n2.n2);have hl:=hle.trans (lend_o hl0 (Int.natCast_eq_zero.1 (Decidable.not_not.1 C8)));refine .ret ⟨.int .i64 ((overB rw2.abs).2:Int),Res.one rfl rfl,⟨(⟨rk3.in_,rk3.now,rk3.valid,rk3.begun,rk3.nonce,rk3.km,rk3.kept,rk3.marked,rk3.d,rw3,rk3.size,rk3.c,rk3.sure,(rk3.now*rk3.size),rk3.broken⟩:RK),Ew3,(by rw [hl,haw2]<;>rfl),(by rw [hl];show RK.abs _ _ _=_;simp only [RK.abs];rw [haw3,haw2]<;>rfl),⟨hdk3.1.trans (hdk2.1.trans hdk1.1),hdk3.2.1.trans (hdk2.2.1.trans hdk1.2.1),hdk3.2.2.trans (hdk2.2.2.trans hdk1.2.2)⟩,⟨(ok).k2.e1,hnw3⟩⟩⟩
open Go Go.HL
def ResC (A:Bk) (r:Bk × Nat) (G:Bk→Prop) (B:Dk→Prop):Prop:=
 (r.2=0∧(A.dk.left<0→r.1.dk.left<0)∧G r.1)∨(r.2=13∧r.1.broken=true∧r.1.dk.dark=true∧0≤A.dk.left∧B r.1.dk)
section
variable {A:Bk} {r:Bk × Nat} {G G':Bk→Prop} {B B':Dk→Prop}
theorem ResB.c (h:ResB A r G B):ResC A (endB r) G B:=by
 rcases h with ⟨a,b,c,d⟩ | ⟨a,b,c,d⟩
 ·have e:endB r=r:=if_neg (by omega);rw [e];exact .inl ⟨a,c,d⟩
 ·have e:endB r=({ r.1 with broken:=true },13):=if_pos a;rw [e];exact .inr ⟨rfl,rfl,b,c,d⟩
end
section
variable {A:Bk} {s P:List (List UInt8)} {no:Nat} {b:List UInt8}
theorem rest_rl (c:CleanB s A.dk) (ok:DkOk A.dk) (pg:PgOk A.size s) (hm:s.length≤mostB A.size) (hi:A.in_=false) (hbe:A.begun=false) (hke:A.kept=[]) (hma:A.marked=0) (hno:A.nonce=0) (hnw:A.now=0) (hva:A.valid=0) (hsu:A.sure=s.length) (hby:A.bytes=s.length*A.size) (hbr:A.broken=false) (hnd:(nos A.L).Nodup) (hrm:1≤A.room∧A.room≤1048576∧(A.L.length:Int)≤A.room) (hL:∀x∈A.L,(1≤x.no∧x.no≤s.length)∧x.b=s.getD (x.no-1).toNat []∧x.d=false):Rl A s s:=by
 obtain ⟨T,S,hT⟩:=c;have hfl:=flat_lenZ pg.len;have hfit:=pg.fit;refine ⟨⟨ok,by rw [okZ_nat];exact pg.sz,by rw [hsu];exact pg.okj,by omega,fun h=>(by rw [hbe] at h;cases h),fun _=>hma,by omega,by rw [hke];exact List.nodup_nil,by rw [hke];simp,by omega,by omega,by omega⟩,hbr,
  ⟨T,⟨S.hd,pg,hm,hsu,by omega,ok,⟨T,[],by rw [S.T];exact .syn T,.refl hT,by simp,fun _=>⟨rfl,rfl⟩⟩,.refl hT,fun h=>by rw [S.T,h];rfl,fun _=>⟨hke,hma,S.J,S.M,hT⟩,fun h=>(by rw [hbe] at h;cases h),by rw [hke];exact List.nodup_nil,fun n h1 h2=>?_,by rw [hT,hfl,hby],by omega⟩,
   ⟨by unfold presB;rw [if_neg (by rw [hi];decide),hsu],pg.len,hnd,hrm,fun x hx=>(hL x hx).1,fun x hx=>(hL x hx).2.1,fun i hi2 _=>?_,fun _ x hx=>(hL x hx).2.2,fun h=>(by rw [hi] at h;cases h)⟩⟩,fun _=>⟨rfl,hbe⟩⟩
 ·rw [hby] at h1;have:=Nat.lt_of_mul_lt_mul_right h1;omega
 ·unfold upg;rw [if_neg (by rw [hi];rintro ⟨h,_⟩;cases h),hT,flat_pg pg.len hi2]
theorem Rl.pg (R:Rl A s P):PgOk A.size s∧s.length≤mostB A.size:=let ⟨_,k,_⟩:=R.kp;⟨k.pg,k.hm⟩
theorem Rl.hd (R:Rl A s P):A.dk.dark=false:=let ⟨_,k,_⟩:=R.kp;k.hd
theorem Rl.pres (R:Rl A s P):presB A=P.length:=let ⟨_,_,p⟩:=R.kp;p.np
theorem Rl.few (R:Rl A s P):P.length≤1048576:=by
 have:=R.pres;unfold presB at this;split at this
 ·have:=R.fo.nw;omega
 ·have:=(okJ_le R.fo.okj).2.1;omega
theorem Rl.begin (R:Rl A s P) (hi:A.in_=false):beginB A=(actB A true A.sure A.sure,0)∧Rl (actB A true A.sure A.sure) s s:=by
 refine ⟨by unfold beginB;rw [if_neg (by rw [R.br];decide),if_neg (by rw [hi];decide)],?_⟩;obtain ⟨cur,k,p⟩:=R.kp;obtain ⟨e1,hbe⟩:=R.out hi;subst e1;obtain ⟨n1,n2,n3,n4,n5⟩:=k.nb hbe;have hsu:=k.su;have hcl:=k.cl;rw [n5,flat_lenZ k.pg.len] at hcl;have hju:=(okJ_le R.fo.okj).2.1;refine ⟨⟨k.ok,R.fo.okz,R.fo.okj,by show (0:Nat)<_;omega,fun h=>(by cases h),fun _=>rfl,by show (0:Nat)≤_;omega,List.nodup_nil,by show ∀k∈([]:List Int),_;simp,hju,hju,R.fo.vb⟩,R.br,
  ⟨cur,⟨k.hd,k.pg,k.hm,k.su,by show (0:Nat)<_;omega,k.ok,?_,.refl n5,k.cn,fun _=>⟨rfl,rfl,n3,n4,n5⟩,fun h=>(by cases h),List.nodup_nil,fun n h1 h2=>?_,k.cl,k.fit⟩,
   ⟨hsu,p.pl,p.nd,p.rm,p.rg,p.at_,fun i h1 h2=>?_,fun h=>(by cases h),fun _=>⟨Nat.le_refl _,by show A.sure*A.size≤A.bytes;rw [hsu];omega,by show A.sure≤_;rw [hsu];exact k.hm⟩⟩⟩,fun h=>(by cases h)⟩
 ·obtain ⟨base,ops,st,hb,hk,he⟩:=k.st;obtain ⟨g1,g2⟩:=he hbe;exact ⟨base,ops,st,by rw [g2];exact .refl n5,by rw [g1];simp,fun _=>⟨g1,g2⟩⟩
 ·have h1:A.bytes<n*A.size:=h1;have h2:n≤A.sure:=h2;have:=k.bk n h1 h2;rw [n1] at this;cases this
 ·have:=p.un i h1 h2;unfold upg at this⊢;rw [if_neg (by rw [hi];rintro ⟨h,_⟩;cases h)] at this;rw [if_neg (by rintro ⟨_,h⟩;have h:A.sure≤i:=h;omega)];exact this
def rszP (P:List (List UInt8)) (n z:Nat):List (List UInt8):=P.take n++List.replicate (n-P.length) (List.replicate z 0)
theorem rszP_len {n z:Nat} : (rszP P n z).length=n:=by unfold rszP;simp;omega
theorem rszP_get {n z i:Nat} (h:i<n):(rszP P n z).getD i []=if i<P.length then P.getD i [] else List.replicate z 0:=by
 unfold rszP;rw [List.getD_eq_getElem?_getD,List.getD_eq_getElem?_getD];by_cases g:i<P.length
 ·rw [if_pos g,List.getElem?_append_left (by rw [List.length_take];omega),List.getElem?_take_of_lt h]
 ·rw [if_neg g,List.getElem?_append_right (by rw [List.length_take];omega),List.length_take,List.getElem?_replicate_of_lt (by omega)];rfl
theorem Rl.resize (R:Rl A s P) (hi:A.in_=true) {n:Nat} (h2:n≤1048576) (h3:n≤mostB A.size):Rl { A with L:=A.L.filter fun x=>decide (x.no≤(n:Int)),now:=n,valid:=min A.valid n } s (rszP P n A.size):=by
 obtain ⟨cur,k,p⟩:=R.kp;have v:=p.vn hi;have hpn:A.now=P.length:=by have:=p.np;unfold presB at this;rw [if_pos hi] at this;exact this
 refine ⟨⟨k.ok,R.fo.okz,R.fo.okj,R.fo.no,R.fo.bg,R.fo.mz,R.fo.mr,R.fo.kn,R.fo.kb,by have:=R.fo.vs;show min A.valid n≤_;omega,h2,R.fo.vb⟩,R.br,⟨cur,⟨k.hd,k.pg,k.hm,k.su,k.no,k.ok,k.st,k.ck,k.cn,k.nb,k.bg,k.kd,k.bk,k.cl,k.fit⟩,?_,?_,?_,?_,?_,?_,?_,?_,?_⟩,fun h=>(by rw [show A.in_=false from h] at hi;cases hi)⟩
 ·unfold presB;rw [if_pos (by exact hi)];exact rszP_len.symm
 ·intro x hx;unfold rszP at hx;rcases List.mem_append.1 hx with h | h
  ·exact p.pl x (List.mem_of_mem_take h)
  ·rw [List.eq_of_mem_replicate h];simp
 ·exact p.nd.sublist (List.filter_sublist.map _)
 ·have:=List.length_filter_le (fun x=>decide (x.no≤(n:Int))) A.L;have:=p.rm;exact ⟨p.rm.1,p.rm.2.1,by show ((A.L.filter _).length:Int)≤A.room;omega⟩
 ·intro x hx;obtain ⟨g1,g2⟩:=List.mem_filter.1 hx;rw [rszP_len];exact ⟨(p.rg x g1).1,of_decide_eq_true g2⟩
 ·intro x hx;obtain ⟨g1,g2⟩:=List.mem_filter.1 hx;have:=p.rg x g1;have g2:=of_decide_eq_true g2;rw [rszP_get (by omega),if_pos (by omega)];exact p.at_ x g1
 ·intro i h1 h4;rw [rszP_len] at h1;rw [rszP_get h1];by_cases g:i<P.length
  ·rw [if_pos g,←p.un i g fun x hx e=>h4 x (List.mem_filter.2 ⟨hx,decide_eq_true (by omega)⟩) e];unfold upg;by_cases g2:A.valid≤i
   ·rw [if_pos ⟨hi,(show min A.valid n≤i by omega)⟩,if_pos ⟨hi,g2⟩]
   ·rw [if_neg fun h=>(by have h:min A.valid n≤i:=h.2;omega),if_neg fun h=>g2 h.2]
  ·rw [if_neg g];unfold upg;rw [if_pos ⟨hi,by show min A.valid n≤i;omega⟩]
 ·intro h;rw [show A.in_=false from h] at hi;cases hi
 ·intro _;have h5:min A.valid n*A.size≤A.valid*A.size:=Nat.mul_le_mul_right _ (by omega);exact ⟨by show min A.valid n≤n;omega,by show min A.valid n*A.size≤A.bytes;omega,h3⟩
theorem Rl.write (R:Rl A s P) (hi:A.in_=true) (h1:1≤no) (h2:no≤P.length) (hb:b.length=A.size):ResC A (writeB A no b) (fun B=>Rl B s (P.set (no-1) b)) (GdBD A.size s):=by
 have hp:=R.pres;unfold presB at hp;rw [if_pos hi] at hp;obtain ⟨hg,Rg⟩:=R.get h1 h2;have e:writeB A no b=endB (if (getB A no).2.2≠0∨(getB A no).2.1=b then ((getB A no).1,(getB A no).2.2) else putB (getB A no).1 no b true):=by
  unfold writeB;rw [if_neg (by rw [R.br];decide),if_neg (by rw [hi];decide),if_neg (by rintro (h | h | h)<;>omega),Int.toNat_natCast]
 rw [e];refine ResB.c ?_;rw [hg];by_cases hq:P.getD (no-1) []=b
 ·rw [if_pos (.inr hq)];refine .inl ⟨rfl,R.hd,id,?_⟩;rw [←hq,set_same (by omega)];exact Rg
 ·rw [if_neg (by rintro (h | h);exact h rfl;exact hq h)];exact (Rg.put h1 h2 hb (fun h=>(by cases h)) fun _=>hi).at rfl
theorem Rl.read (R:Rl A s P) (h1:1≤no) (h2:no≤P.length):ResC A ((readB A no).1,(readB A no).2.2) (fun B=>Rl B s P∧(readB A no).2.1=P.getD (no-1) []) (GdBD A.size s):=by
 have hp:=R.pres;obtain ⟨hg,Rg⟩:=R.get h1 h2;have e:readB A no=((endB (if (getB A no).2.2≠0 then ((getB A no).1,(getB A no).2.2) else putB (getB A no).1 no (getB A no).2.1 false)).1,if (endB (if (getB A no).2.2≠0 then ((getB A no).1,(getB A no).2.2) else putB (getB A no).1 no (getB A no).2.1 false)).2=0 then (getB A no).2.1 else [],(endB (if (getB A no).2.2≠0 then ((getB A no).1,(getB A no).2.2) else putB (getB A no).1 no (getB A no).2.1 false)).2):=by
  unfold readB;rw [if_neg (by rw [R.br];decide),if_neg (by omega),Int.toNat_natCast]
 rw [e,hg];simp only [ne_eq,not_true_eq_false,if_false];have hs:=set_same (P:=P) (k:=no-1) (by omega);have:=(Rg.put (b:=P.getD (no-1) []) (d:=false) h1 h2 (R.page_len (by omega)) (fun _=>rfl) fun h=>(by cases h)).c;rw [hs] at this;rcases this with ⟨a,b,c⟩ | ⟨a,b,c,d,e⟩
 ·exact .inl ⟨a,b,c,by rw [if_pos a]⟩
 ·exact .inr ⟨a,b,c,d,e⟩
theorem heal_jchg {d:Dk} {z u:Nat} {fs:List Fr} : (thenN (restoreB d z u fs) fun d=>if d.dark=true then (d,13) else overB d).1.chg≤d.chg+(fs.length+6):=by
 have h1:=restore_chg (d:=d) (n:=z) (k:=u) (l:=fs);have h4:∀e:Dk,(if e.dark=true then (e,13) else overB e).1.chg≤e.chg+4:=fun e=>by
  split
  ·simp only;omega
  ·exact over_chg
 have:=then_chg (f:=fun d=>if d.dark=true then (d,13) else overB d) (y:=4) h1 (fun d=>h4 d) (by omega);omega
theorem Rl.rollback (R:Rl A s P) (hi:A.in_=true):ResC A (rollbackB A) (fun B=>Rl B s s) (GdBD A.size s)∧(rollbackB A).1.dk.chg≤A.dk.chg+70000:=by
 obtain ⟨cur,k,p⟩:=R.kp;have e:rollbackB A=endB (if A.begun=true∧(healB A.dk).2≠0 then ({ A with dk:=(healB A.dk).1 },(healB A.dk).2) else (actB { A with dk:=if A.begun=true then (healB A.dk).1 else A.dk,L:=[],bytes:=A.sure*A.size } false 0 0,0)):=by
  unfold rollbackB;rw [if_neg (by rw [R.br];decide),if_neg (by rw [hi];decide)]
 have hec:∀a:Bk × Nat,(endB a).1.dk=a.1.dk:=fun a=>by unfold endB;split<;>rfl
 have done:∀ {d:Dk},CleanB s d→DkOk d→Rl (actB { A with dk:=d,L:=[],bytes:=A.sure*A.size } false 0 0) s s:=fun {d} c ok=>
  rest_rl c ok k.pg k.hm rfl rfl rfl rfl rfl rfl rfl k.su (by show A.sure*A.size=_;rw [k.su];rfl) R.br List.nodup_nil ⟨p.rm.1,p.rm.2.1,by have:=p.rm.1;show (([]:List AP).length:Int)≤A.room;simp;omega⟩ (by show ∀x∈([]:List AP),_;simp)
 cases hbe:A.begun with
 | false=>
  rw [hbe] at e;simp only [Bool.false_eq_true,false_and,if_false] at e;rw [e];exact ⟨ResB.c (.inl ⟨rfl,k.hd,id,done (k.clean hbe) k.ok⟩),by rw [hec];show A.dk.chg≤_;omega⟩
 | true=>
  rw [hbe] at e;simp only [true_and,if_true] at e;obtain ⟨fs,hj,hm,hk,e1,e2⟩:=k.bg hbe;obtain ⟨base,ops,st,hb,hk2,_⟩:=k.st;have hml:(List.replicate A.marked (0:UInt8)).length=fs.length+1:=by rw [List.length_replicate,hm]
  have hfew:=hj.few (by rw [←hk];exact k.kd);have hmf:=most_fit k.sz.1 (Nat.le_trans hfew k.hm);have hmr:=k.pg.many;have hfs':fs=fs.take ((List.replicate A.marked (0:UInt8)).length-1):=by rw [hml,Nat.add_sub_cancel,List.take_length]
  have hJl:(jheadN A.size s.length A.nonce++(jputsN A.nonce fs++[])).length≤16777216:=by rw [List.append_nil,List.length_append,jheadN_len,jputsN_len hj.1];omega
  have e1':A.dk.fs nJ=synF (some (jheadN A.size s.length A.nonce++(jputsN A.nonce fs++[]))):=by rw [List.append_nil];exact e1
  have hne:List.replicate A.marked (0:UInt8)≠[]:=by rw [hm];simp [List.replicate_succ]
  have hh:=heal_j (fs':=fs) k.hd k.pg k.no hj hne (by omega) hfs' hJl ⟨e1',e2,base,ops,cur,st,by rw [←hk];exact hb,by rw [←hk];exact hk2,by rw [←hk];exact k.ck,k.cn⟩;have hc:=heal_je (fs':=fs) k.hd k.pg k.no hj hne (by omega) hfs' hJl e1' e2;have hchg:(healB A.dk).1.chg≤A.dk.chg+70000:=by rw [hc];have:=heal_jchg (d:=A.dk) (z:=A.size) (u:=s.length) (fs:=fs);omega
  rw [e];refine ⟨ResB.c ?_,by rw [hec];split<;>exact hchg⟩;rcases hh with ⟨g1,g2,g3,g4⟩ | ⟨g1,g2,g3,g4⟩
  ·rw [if_neg (by simp [g1])];exact .inl ⟨rfl,g2,g3,done g4 k.ok.heal⟩
  ·rw [if_pos (by omega)];exact .inr ⟨g1,g2,g3,g4⟩
theorem DkOk.lay0 (k:DkOk A.dk):DkOk (lay0 A).1∧(lay0 A).1.chg≤A.dk.chg+1:=by
 unfold Go.Proofs.YtpeaicddbnghfaaGreat.lay0;split
 ·exact ⟨k.write,write_chg⟩
 ·exact ⟨k,by simp only;omega⟩
theorem lend_dk (k:DkOk A.dk):DkOk (layEnd A).1.dk∧(layEnd A).1.dk.chg≤A.dk.chg+7:=by
 obtain ⟨k1,c1⟩:=DkOk.lay0 k;have k2:DkOk (thenN (lay0 A) fun d=>lengthB d (A.now*A.size)).1:=DkOk.then k1 fun _ k=>k.len;have c2:=then_chg (f:=fun d=>lengthB d (A.now*A.size)) (y:=2) c1 (fun d=>len_chg) (by omega);rw [lend_def];split
 ·exact ⟨k2,by simp only;omega⟩
 ·refine ⟨k2.over,?_⟩;have:=over_chg (d:=(thenN (lay0 A) fun d=>lengthB d (A.now*A.size)).1);simp only;omega
theorem lay_dk (k:DkOk A.dk):DkOk (layB A).1.dk∧(layB A).1.dk.chg≤A.dk.chg+(A.L.length+40):=by
 by_cases h:(unlikeB A).2=0
 ·by_cases hq:quick A
  ·rw [lay_2 h hq];exact ⟨k,by show A.dk.chg≤_;omega⟩
  ·have hu:=unlike_len (A:=A);have k1:=save_dk (A:=A) (l:=[]) k;by_cases h1:(saveB A []).2=0
   ·have k2:=flush_dk (A:=(saveB A []).1) (l:=(unlikeB A).1) k1.1;by_cases h2:(flushB (saveB A []).1 (unlikeB A).1).2=0
    ·have k3:=cut_dk (A:=(flushB (saveB A []).1 (unlikeB A).1).1) k2.1;by_cases h3:(cutB (flushB (saveB A []).1 (unlikeB A).1).1).2=0
     ·rw [lay_e h hq h1 rfl h2 rfl h3 rfl];have k4:=lend_dk (A:=(cutB (flushB (saveB A []).1 (unlikeB A).1).1).1) k3.1;exact ⟨k4.1,by omega⟩
     ·rw [lay_c h hq h1 rfl h2 rfl h3];exact ⟨k3.1,by omega⟩
    ·rw [lay_f h hq h1 rfl h2];exact ⟨k2.1,by omega⟩
   ·rw [lay_s h hq h1];exact ⟨k1.1,by omega⟩
 ·rw [lay_1 h];exact ⟨k,by show A.dk.chg≤_;omega⟩
theorem Rl.lay (R:Rl A s P) (hi:A.in_=true) (hh:P≠[]→hdOk (P.getD 0 []) A.size=true):ResB A (thenB (layB A) fun B=>(doneB B,0)) (fun B=>Rl B P P) (GdBP A.size s P):=by
 obtain ⟨cur,k,p⟩:=R.kp;have v:=p.vn hi;have hpn:A.now=P.length:=by have:=p.np;unfold presB at this;rw [if_pos hi] at this;exact this
 have pP:PgOk A.size P:=⟨k.pg.sz,p.pl,most_mul k.sz.1 (by rw [←hpn];exact v.2.2),hh⟩;have hl:=k.lay hi v.1 v.2.1 hpn pP p.nd p.rg p.at_ p.un;have hok:=(lay_dk (A:=A) k.ok).1;have hl2:ResB A (layB A) (fun B=>(CleanB P B.dk∧Sm A B∧B.bytes=P.length*A.size)∧DkOk B.dk) (GdBP A.size s P):=by
  rcases hl with ⟨a,b,c,d⟩ | h
  ·exact .inl ⟨a,b,c,d,hok⟩
  ·exact .inr h
 refine hl2.then fun B hd ⟨⟨c,q,hby⟩,ok⟩=>.inl ⟨rfl,hd,id,?_⟩;have ez:(doneB B).size=A.size:=q.size;refine rest_rl c ok (by rw [ez];exact pP) (by rw [ez,←hpn];exact v.2.2) rfl rfl rfl rfl rfl rfl rfl (q.now.trans hpn) (by rw [ez];exact hby) (q.broken.trans R.br) ?_ ⟨by show 1≤B.room;rw [q.room];exact p.rm.1,by show B.room≤_;rw [q.room];exact p.rm.2.1,?_⟩ fun y hy=>?_
 ·show (nos (cl (nos B.L) B.L)).Nodup;rw [nos_cl,q.L];exact p.nd
 ·show ((cl (nos B.L) B.L).length:Int)≤B.room;rw [q.room,q.L];unfold cl;rw [List.length_map];exact p.rm.2.2
 ·have hy:y∈cl (nos B.L) B.L:=hy;obtain ⟨x,hx,rfl⟩:=mem_cl.1 hy;rw [q.L] at hx;rw [cl_no,cl_b,if_pos (show x.no∈nos B.L by rw [q.L];exact List.mem_map.2 ⟨x,hx,rfl⟩)];exact ⟨p.rg x hx,p.at_ x hx,rfl⟩
theorem Rl.commit8 (R:Rl A s P) (hi:A.in_=true) (h0:P≠[]) (hh:hdOk (P.getD 0 []) A.size=false):commitB A=((getB A 1).1,8)∧Rl (getB A 1).1 s P:=by
 have hp:=R.pres;unfold presB at hp;rw [if_pos hi] at hp;have hpl:=List.length_pos_iff.2 h0;obtain ⟨hg,Rg⟩:=R.get (no:=1) (Nat.le_refl _) (by omega);refine ⟨?_,Rg⟩;unfold commitB;rw [if_neg (by rw [R.br];decide),if_neg (by rw [hi];decide),if_neg (by omega)];simp only;rw [hg,if_neg (by simp),if_pos (by unfold headB;exact hh)];rfl
theorem Rl.commit (R:Rl A s P) (hi:A.in_=true) (hh:P≠[]→hdOk (P.getD 0 []) A.size=true):ResC A (commitB A) (fun B=>Rl B P P) (GdBP A.size s P):=by
 have hp:=R.pres;unfold presB at hp;rw [if_pos hi] at hp;by_cases h0:P=[]
 ·have e:commitB A=endB (thenB (layB A) fun B=>(doneB B,0)):=by
   unfold commitB;rw [if_neg (by rw [R.br];decide),if_neg (by rw [hi];decide),if_pos (by rw [hp,h0];rfl)]
  rw [e];exact (R.lay hi hh).c
 ·have hpl:=List.length_pos_iff.2 h0;obtain ⟨hg,Rg⟩:=R.get (no:=1) (Nat.le_refl _) (by omega);have e:commitB A=endB (thenB (layB (getB A 1).1) fun B=>(doneB B,0)):=by
   unfold commitB;rw [if_neg (by rw [R.br];decide),if_neg (by rw [hi];decide),if_neg (by omega)];simp only;rw [hg,if_neg (by simp),if_neg (by unfold headB;have:=hh h0;unfold hdOk at this;simp only [Nat.sub_self];rw [this];decide)]
  rw [e];exact ((Rg.lay hi hh).at rfl).c
end
open Go Go.HL
section
variable {A:Bk} {no:Int} {b:List UInt8}
theorem begin_1 (h:A.broken=true):beginB A=(A,13):=if_pos h
theorem begin_2 (h:A.broken=false) (hi:A.in_=true):beginB A=(A,10):=(if_neg (by simp [h])).trans (if_pos hi)
theorem begin_3 (h:A.broken=false) (hi:A.in_=false):beginB A=(actB A true A.sure A.sure,0):=(if_neg (by simp [h])).trans (if_neg (by simp [hi]))
end
theorem bbegin_any {h:Heap} {p:Nat} {r:RK} {Fc:Nat→Prop} {room:Int} {L:List AP} {E:Nat→Prop} (ok:Hp h (lgF p r Fc) [corI p r,cacL r.c Fc room L] [bysI E r.rd.fs] h) (hk:DkOk r.rd.abs) (hcg:r.rd.chg<300000000) (hkm:r.in_=true→∃m,r.km=some m) (O:r.broken=false→∃s P,Rl (r.abs room L) s P) :
  HC Tryz.prog 39 #[.pointer (some ⟨p,0,none⟩)] h (fun v h'=>∃r' E' Fc',v=.int .i64 ((beginB (r.abs room L)).2:Int)∧r'.abs room (beginB (r.abs room L)).1.L=(beginB (r.abs room L)).1∧(r'.in_=true→∃m,r'.km=some m)∧(r'.d=r.d∧r'.c=r.c)∧LUp h h' p r r' Fc Fc' room (beginB (r.abs room L)).1.L E E'):=by
 refine HC.go Tryz.func39 27 ?_;refine .seq<|.r<|.z .asI<|.nil ?_;refine .seq<|.seq<|.r<|.z .mvP<|.k 5 .func (st_any (r:=r) ((ok).bopn.m0))<|.z .asI<|.nil ?_;refine .seq<|.r<|.z .mvI<|.z .neq<|.nil ?_;refine .cd (fun C0=>?_) (fun C0=>?_)
 ·
  have hbr:r.broken=true:=stE_t C0;refine .seq<|.r<|.z .mvI<|.z .asI<|.nil ?_;have hF:=begin_1 (A:=r.abs room L) hbr;refine .ret ⟨.int .i64 ((stE r.broken:Nat):Int),Res.one rfl rfl,⟨r,E,Fc,(by rw [hF];simp only [stE,hbr];rfl),(by rw [hF]<;>exact rfl),hkm,⟨rfl,rfl⟩,(by rw [hF];exact ⟨(ok).k2.e1,(fun _ h=>Or.inl h)⟩)⟩⟩
 have hbr:r.broken=false:=stE_f C0;obtain ⟨sp,P,R⟩:=O hbr;have k:FOk (r.abs room L):=R.fo;have hszk:r.size=256∨r.size=512∨r.size=1024∨r.size=2048∨r.size=4096:=k.sz;have hsz:r.size≤4096:=by omega
 have hPl:=R.few;have hpr:presK r=P.length:=R.pres;refine .skip<|.seq<|.seq<|?_;have ok:=(ok).bopn;refine .r<|.z .mvP<|.z .nil<|.z (.fa T.fd136_0)<|.z (.fa T.fd134_0)<|.z (.ldx T.ag4 ok.m0)<|.nil ?_;refine .cond (fun C1=>?_) (fun C1=>?_)
 ·
  refine .seq<|.r<|.z .asI<|.nil ?_;have ok:=Hp.bcls (p:=p) (kept:=r.kept) (ok);have hF:=begin_2 (A:=r.abs room L) hbr C1;refine .ret ⟨.int .i64 10,Res.one rfl rfl,⟨(⟨r.in_,r.now,r.valid,r.begun,r.nonce,r.km,r.kept,r.marked,r.d,r.rd,r.size,r.c,r.sure,r.bytes,r.broken⟩:RK),E,Fc,(by rw [hF]<;>rfl),(by rw [hF]<;>exact rfl),hkm,⟨rfl,rfl⟩,(by rw [hF];exact ⟨(ok).k2.e1,(fun _ h=>Or.inl h)⟩)⟩⟩
 refine .skip<|.seq<|.a 13 (fun fl hh=>cond fl True (Hp h (lgF p r Fc) [boxI p 136 [.bool r.in_,.int .i64 (r.now:Int),.int .i64 (r.valid:Int),.bool r.begun,.int .u64 (r.nonce:Int),.map r.km,.int .i64 (r.marked:Int),.pointer (some ⟨r.d,0,none⟩),.int .i64 (r.size:Int),.pointer (some ⟨r.c,0,none⟩),.int .i64 (r.sure:Int),.int .i64 (r.bytes:Int),.bool r.broken],kepI r.km r.kept,dskI r.d r.rd,cacL r.c Fc room L] [bysI E r.rd.fs] hh)) mixed ?_;have hS:=ok;refine .g 0 false rfl 14 hS (fun _=>.mvP)<|.g 1 false rfl 15 hS (fun _=>.mvP)<|.g 2 false rfl 16 hS (fun _=>.nil)<|.g 3 false rfl 17 hS (fun _=>.fa T.fd136_4)<|.l 4 false rfl 18 hS (fun _ hS=>.ldx T.ag3 hS.m0)<|.g 5 false rfl 19 hS (fun _=>.mvP)<|.g 6 false rfl 20 hS (fun _=>.nil)<|.g 7 false rfl 21 hS (fun _=>.fa T.fd136_4)<|.l 8 false rfl 22 hS (fun _ hS=>.ldx T.ag3 hS.m0)<|.o1 9<|.a' false rfl 23 (.mkm (Value.int .i64) ok) ?_;rintro _ η1 ⟨mb1,rfl,ok⟩;refine ⟨ok.n4.n4.n4.n4.k4,?_⟩;have hS:=ok.n4.n4.n4.n4.k4;refine .g 10 false rfl 24 hS (fun _=>.bd #[.bool true,.int .i64 (r.sure:Int),.int .i64 (r.sure:Int),.bool false,.int .u64 0,.map (some mb1),.int .i64 0] T.zr134 T.pl134 (by kernel_rfl))<|.g 11 false rfl 25 hS (fun _=>.nil)<|.g 12 false rfl 26 hS (fun _=>.fa T.fd136_0)<|.o1 13<|.ur' true rfl (.stA (vs:=[.bool true,.int .i64 (r.sure:Int),.int .i64 (r.sure:Int),.bool false,.int .u64 0,.map (some mb1),.int .i64 0]) T.sz134 ok.n1 (oneL rfl)) ?_;rintro η2 ⟨ok,cg⟩;refine ⟨trivial,?_⟩;refine .e ?_;refine .seq<|.r<|.z .asI<|.nil ?_;have ok:=Hp.bcls (p:=p) (kept:=[]) (ok.n3.n2.n2);have hF:=begin_3 (A:=r.abs room L) hbr (show r.in_=false by simpa using C1);refine .ret ⟨.int .i64 0,Res.one rfl rfl,⟨(⟨true,r.sure,r.sure,false,0,(some mb1),[],0,r.d,r.rd,r.size,r.c,r.sure,r.bytes,r.broken⟩:RK),E,Fc,(by rw [hF]<;>rfl),(by rw [hF]<;>exact rfl),fun _=>⟨_,rfl⟩,⟨rfl,rfl⟩,(by rw [hF];exact ⟨(ok.n2.n1).k2.e1,(fun _ h=>Or.inl h)⟩)⟩⟩
theorem bbeginNil_any {h:Heap} :
  HC Tryz.prog 39 #[.pointer none] h (fun v h'=>v=.int .i64 2∧h'=h):=by
 refine HC.go Tryz.func39 27 ?_;refine .seq<|.r<|.z .asI<|.nil ?_;refine .seq<|.seq<|.r<|.z .mvP<|.k 5 .func stNil_any<|.z .asI<|.nil ?_;refine .seq<|.r<|.z .mvI<|.z .neq<|.nil ?_;refine .ct<|.seq<|.r<|.z .mvI<|.z .asI<|.nil ?_;refine .ret ⟨.int .i64 2,Res.one rfl rfl,⟨rfl,rfl⟩⟩
theorem bPagesNil_any {h:Heap} :
  HC Tryz.prog 32 #[.pointer none] h (fun v h'=>v=.int .i64 0∧h'=h):=by
 refine HC.go Tryz.func32 13 ?_;refine .seq<|.r<|.z .asI<|.nil ?_;refine .seq<|.seq<|.r<|.z .mvP<|.z (.pEqN T.pt47)<|.z .mvB<|.y<|.y<|.y<|.y<|.z .pkt<|.nil ?_;refine .ct<|.seq<|.r<|.z .asI<|.nil ?_;refine .ret ⟨.int .i64 0,Res.one rfl rfl,⟨rfl,rfl⟩⟩
theorem bPages_any {h:Heap} {p:Nat} {r:RK} (hb:(bboxI p r).p h) :
  HC Tryz.prog 32 #[.pointer (some ⟨p,0,none⟩)] h (fun v h'=>v=.int .i64 ((if r.broken=true then 0 else presK r:Nat):Int)∧h'=h):=by
 refine HC.go Tryz.func32 13 ?_;refine .seq<|.r<|.z .asI<|.nil ?_;refine .seq<|.seq<|.r<|.z .mvP<|.z (.pEqS T.pt47)<|.z .mvB<|.z .mvP<|.z .nil<|.z (.fa T.fd136_6)<|.z (.ldx T.ag4 hb)<|.z .pkf<|.nil ?_;refine .cond (fun C0=>?_) (fun C0=>?_)
 ·
  refine .seq<|.r<|.z .asI<|.nil ?_;refine .ret ⟨.int .i64 0,Res.one rfl rfl,⟨by rw [if_pos (show r.broken=true by first | exact C0 | simpa using C0)];rfl,rfl⟩⟩
 refine .skip<|.seq<|.r<|.z .mvP<|.k 12 .func (pres_any (r:=r) hb)<|.z .asI<|.nil ?_;refine .ret ⟨.int .i64 ((presK r:Nat):Int),Res.one rfl rfl,⟨by rw [if_neg (show ¬r.broken=true by simpa using C0)],rfl⟩⟩
theorem bsize_any {h:Heap} {p:Nat} {r:RK} (hb:(bboxI p r).p h) :
  HC Tryz.prog 34 #[.pointer (some ⟨p,0,none⟩)] h (fun v h'=>v=.int .i64 ((if r.broken=true then 0 else r.size:Nat):Int)∧h'=h):=by
 refine HC.go Tryz.func34 15 ?_;refine .seq<|.r<|.z .asI<|.nil ?_;refine .seq<|.seq<|.r<|.z .mvP<|.z (.pEqS T.pt47)<|.z .mvB<|.z .mvP<|.z .nil<|.z (.fa T.fd136_6)<|.z (.ldx T.ag4 hb)<|.z .pkf<|.nil ?_;refine .cond (fun C0=>?_) (fun C0=>?_)
 ·
  refine .seq<|.r<|.z .asI<|.nil ?_;refine .ret ⟨.int .i64 0,Res.one rfl rfl,⟨by rw [if_pos (show r.broken=true by first | exact C0 | simpa using C0)];rfl,rfl⟩⟩
 refine .skip<|.seq<|.r<|.z .mvP<|.z .nil<|.z (.fa T.fd136_2)<|.z (.ldx T.ag3 hb)<|.z .asI<|.nil ?_;refine .ret ⟨.int .i64 (r.size:Int),Res.one rfl rfl,⟨by rw [if_neg (show ¬r.broken=true by simpa using C0)],rfl⟩⟩
theorem bin_any {h:Heap} {p:Nat} {r:RK} (hb:(bboxI p r).p h) :
  HC Tryz.prog 31 #[.pointer (some ⟨p,0,none⟩)] h (fun v h'=>v=.bool (!r.broken && r.in_)∧h'=h):=by
 refine HC.go Tryz.func31 19 ?_;refine .seq<|.r<|.z .asB<|.nil ?_;refine .seq<|.r<|.z .mvP<|.z (.pNeS T.pt47)<|.z .mvB<|.z .mvP<|.z .nil<|.z (.fa T.fd136_6)<|.z (.ldx T.ag4 hb)<|.z .not<|.z .pkt<|.z .mvB<|.spl (fun G12=>?_) (fun G12=>?_)
 ·
  refine .z .mvP<|.z .nil<|.z (.fa T.fd136_0)<|.z (.fa T.fd134_0)<|.z (.ldx T.ag4 hb)<|.z .pkt<|.z .asB<|.nil ?_;refine .ret ⟨.bool r.in_,Res.one rfl rfl,⟨by simp_all,rfl⟩⟩
 refine .y<|.y<|.y<|.y<|.y<|.z .pkf<|.z .asB<|.nil ?_;refine .ret ⟨.bool false,Res.one rfl rfl,⟨by simp_all,rfl⟩⟩
open Go Go.HL
theorem hposA {A:Bk} {s P:List (List UInt8)} {no:Nat} {b:List UInt8} {d:Bool} (R:Rl A s P) (h1:1≤no):∀f∈putA A.room no b d A.L,1≤f.page∧f.page≤1048576:=fun f hf=>by
 obtain ⟨x,g1,_,_,rfl⟩:=(R.putA h1).2.1 f hf;obtain ⟨cur,k,p⟩:=R.kp;have:=p.rg x g1;have:=R.few;simp only;omega
theorem Rl.rm {A:Bk} {s P:List (List UInt8)} (R:Rl A s P):1≤A.room∧A.room≤1048576∧(A.L.length:Int)≤A.room:=let ⟨_,_,p⟩:=R.kp;p.rm
theorem RK.abs_end {r:RK} {room:Int} {L:List AP} {z:Nat} : ({ r with broken:=endK (z:Int) r.broken } : RK).abs room L=(endB (r.abs room L,z)).1:=by
 unfold endK endB RK.abs;by_cases h:z=13
 ·subst h;rfl
 ·rw [if_neg (by omega),if_neg h]
theorem flush_sm {A:Bk} {l:List AFr} : Sm A (flushB A l).1:=by
 by_cases hl:l=[]
 ·subst hl;exact .refl A
 ·have k1:=(save_st (A:=A) (l:=l.map fun f=>f.page.toNat)).sm;by_cases he:(saveB A (l.map fun f=>f.page.toNat)).2=0
  ·have k2:=k1.trans cut_sm;by_cases h2:(cutB (saveB A (l.map fun f=>f.page.toNat)).1).2=0
   ·rw [flush_3 hl he rfl h2 rfl];exact k2.trans layF_sm
   ·rw [flush_2 hl he rfl h2];exact k2
  ·rw [flush_1 hl he];exact k1
theorem put_in {A:Bk} {no:Nat} {b:List UInt8} {d:Bool} : (putB A no b d).1.in_=A.in_:=by unfold putB;exact flush_sm.in_
theorem endB_2 {a:Bk × Nat} : (endB a).2=a.2:=by unfold endB;split<;>simp_all
theorem endB_L {a:Bk × Nat} : (endB a).1.L=a.1.L:=by unfold endB;split<;>rfl
section
variable {A:Bk} {no:Int} {b:List UInt8}
theorem read_1 (h:A.broken=true):readB A no=(A,[],13):=if_pos h
theorem read_2 (h:A.broken=false) (h1:no<1∨(presB A:Int)<no):readB A no=(A,[],1):=(if_neg (by simp [h])).trans (if_pos h1)
variable {s P:List (List UInt8)} {n:Nat}
theorem read_3 (R:Rl A s P) (h1:1≤n) (h2:n≤P.length):readB A n=((endB (putB (getB A n).1 n (P.getD (n-1) []) false)).1,if (putB (getB A n).1 n (P.getD (n-1) []) false).2=0 then P.getD (n-1) [] else [],(putB (getB A n).1 n (P.getD (n-1) []) false).2):=by
 have hp:=R.pres;have hg:=(R.get h1 h2).1;have e:readB A n=((endB (if (getB A n).2.2≠0 then ((getB A n).1,(getB A n).2.2) else putB (getB A n).1 n (getB A n).2.1 false)).1,if (endB (if (getB A n).2.2≠0 then ((getB A n).1,(getB A n).2.2) else putB (getB A n).1 n (getB A n).2.1 false)).2=0 then (getB A n).2.1 else [],(endB (if (getB A n).2.2≠0 then ((getB A n).1,(getB A n).2.2) else putB (getB A n).1 n (getB A n).2.1 false)).2):=by
  unfold readB;rw [if_neg (by rw [R.br];decide),if_neg (by omega),Int.toNat_natCast]
 rw [e,hg];simp only [ne_eq,not_true_eq_false,if_false];rw [endB_2]
theorem write_1 (h:A.broken=true):writeB A no b=(A,13):=if_pos h
theorem write_2 (h:A.broken=false) (hi:A.in_=false):writeB A no b=(A,10):=(if_neg (by simp [h])).trans (if_pos hi)
theorem write_3 (h:A.broken=false) (hi:A.in_=true) (h1:no<1∨(A.now:Int)<no∨b.length≠A.size):writeB A no b=(A,1):=(if_neg (by simp [h])).trans ((if_neg (by simp [hi])).trans (if_pos h1))
theorem write_4 (R:Rl A s P) (hi:A.in_=true) (h1:1≤n) (h2:n≤P.length) (h3:b.length=A.size) (hq:P.getD (n-1) []=b):writeB A n b=((getB A n).1,0):=by
 have hp:=R.pres;unfold presB at hp;rw [if_pos hi] at hp;have hg:=(R.get h1 h2).1;unfold writeB;rw [if_neg (by rw [R.br];decide),if_neg (by rw [hi];decide),if_neg (by rintro (h | h | h)<;>omega),Int.toNat_natCast];simp only;rw [hg,if_pos (.inr hq)];rfl
theorem write_5 (R:Rl A s P) (hi:A.in_=true) (h1:1≤n) (h2:n≤P.length) (h3:b.length=A.size) (hq:P.getD (n-1) []≠b):writeB A n b=endB (putB (getB A n).1 n b true):=by
 have hp:=R.pres;unfold presB at hp;rw [if_pos hi] at hp;have hg:=(R.get h1 h2).1;unfold writeB;rw [if_neg (by rw [R.br];decide),if_neg (by rw [hi];decide),if_neg (by rintro (h | h | h)<;>omega),Int.toNat_natCast];simp only;rw [hg,if_neg (by rintro (h | h);exact h rfl;exact hq h)]
end
theorem bread_any {h:Heap} {p:Nat} {r:RK} {Fc:Nat→Prop} {room:Int} {L:List AP} {E:Nat→Prop} {no:Int} (ok:Hp h (lgF p r Fc) [corI p r,cacL r.c Fc room L] [bysI E r.rd.fs] h) (hk:DkOk r.rd.abs) (hcg:r.rd.chg<300000000) (hkm:r.in_=true→∃m,r.km=some m) (O:r.broken=false→∃s P,Rl (r.abs room L) s P) :
  HC Tryz.prog 43 #[.pointer (some ⟨p,0,none⟩),.int .i64 no] h (fun v h'=>∃r' E' Fc' a c,v=.tuple #[.slice a (readB (r.abs room L) no).2.1.length c,.int .i64 ((readB (r.abs room L) no).2.2:Int)]∧r'.abs room (readB (r.abs room L) no).1.L=(readB (r.abs room L) no).1∧(r'.in_=true→∃m,r'.km=some m)∧(r'.d=r.d∧r'.c=r.c)∧Hp h (lgF p r Fc) [capI 1 5 (a,(readB (r.abs room L) no).2.1.length,c) ((readB (r.abs room L) no).2.1.map bv),corI p r',cacL r.c Fc' room (readB (r.abs room L) no).1.L] [bysI E' r'.rd.fs] h'∧∀j,E' j→E j∨h.size≤j):=by
 refine HC.goD Tryz.func43 37 ?_;refine .seq<|.lift<|.r<|.z .asS<|.a' 5 (.alI T.zr34 ok) ?_;rintro _ η1 ⟨pb1,rfl,ok,xe⟩;refine .nil ?_;refine .end<|HSD.on<|.seq<|.seq<|.lift<|.r<|.z .mvP<|.k 8 .func (st_any (r:=r) ((ok.n1).bopn.m0))<|.z .asI<|.nil ?_;refine .end<|HSD.on<|.seq<|.lift<|.r<|.z .mvI<|.z .neq<|.nil ?_;refine .end<|HSD.on<|.lift<|.cd (fun C0=>?_) (fun C0=>?_)
 ·
  have hbr:r.broken=true:=stE_t C0;refine .seq<|.r<|.z .mvI<|.z .asS<|.ur' (.stI T.sz34 ok) ?_;rintro η2 ⟨ok,cg⟩;refine .nil ?_;have ok:=ok.nilC (k:=1) (e:=5);have hF:=read_1 (A:=r.abs room L) (no:=no) hbr;refine .ret ⟨.tuple #[.slice none 0 0,.int .i64 ((stE r.broken:Nat):Int)],Res.many (vs:=[.slice none 0 0,.int .i64 ((stE r.broken:Nat):Int)]) rfl ⟨rfl,⟨_,rfl,load_1 T.ag34 ok.m1⟩,trivial⟩ rfl,⟨r,E,Fc,none,0,(by rw [hF];simp only [stE,hbr];rfl),(by rw [hF]<;>rfl),hkm,⟨rfl,rfl⟩,(by rw [hF];exact (ok.n3.n3.n2).k3.e1),(fun _ h=>Or.inl h)⟩⟩
 have hbr:r.broken=false:=stE_f C0;obtain ⟨sp,P,R⟩:=O hbr;have k:FOk (r.abs room L):=R.fo;have hszk:r.size=256∨r.size=512∨r.size=1024∨r.size=2048∨r.size=4096:=k.sz;have hsz:r.size≤4096:=by omega
 have hPl:=R.few;have hpr:presK r=P.length:=R.pres;have hrm:=R.rm;replace hrm:1≤room∧room≤1048576∧(L.length:Int)≤room:=hrm;have hlg:∀n:Int,(getL n L).length≤L.length:=fun n=>by obtain ⟨_,_,p⟩:=R.kp;exact getL_len p.nd
 refine .skip<|.end<|HSD.on<|.seq<|.rd<|.z .mvP<|.df (args:=[.pointer (some ⟨p,0,none⟩),.pointer (some ⟨pb1,0,none⟩)]) rfl<|?_;refine .seq<|.seq<|.r<|.z .mvI<|.z .lss<|.z .mvB<|.sd (fun G15=>?_) (fun G15=>?_)
 ·
  refine .y<|.y<|.y<|.y<|.z .pkt<|.nil ?_;refine .ct<|.seq<|.r<|.z .asS<|.ur' (.stI T.sz34 ok) ?_;rintro η3 ⟨ok,cg⟩;refine .nil ?_;have ok:=(ok.n1).bopn;refine .ret ⟨_,_,_,rfl,(end_any (p:=p) (q:=pb1) (r:=(⟨r.in_,r.now,r.valid,r.begun,r.nonce,r.km,r.kept,r.marked,r.d,r.rd,r.size,r.c,r.sure,r.bytes,r.broken⟩:RK)) (z:=1) (ok).loc0 (ok).m3),?_⟩;rintro _ η4 ⟨rfl,q⟩;have ok:=(ok).lift1 q;have ok:=Hp.bcls (p:=p) (kept:=r.kept) (ok);have ok:=ok.nilC (k:=1) (e:=5);have hF:=read_2 (A:=r.abs room L) (no:=no) hbr (by show no<1∨((presK r:Nat):Int)<no;first | exact .inl (by omega) | exact .inr (by omega));refine ⟨.tuple #[.slice none 0 0,.int .i64 1],Res.many (vs:=[.slice none 0 0,.int .i64 1]) rfl ⟨rfl,⟨_,rfl,load_1 T.ag34 ok.m2⟩,trivial⟩ rfl,⟨(⟨r.in_,r.now,r.valid,r.begun,r.nonce,r.km,r.kept,r.marked,r.d,r.rd,r.size,r.c,r.sure,r.bytes,(endK 1 r.broken)⟩:RK),E,Fc,none,0,(by rw [hF]<;>rfl),(by rw [hF]<;>rfl),hkm,⟨rfl,rfl⟩,(by rw [hF];exact (ok.n3.n2.n2).k3.e1),(fun _ h=>Or.inl h)⟩⟩
 refine .z .mvI<|.z .mvP<|.k 18 .func (pres_any (r:=r) ((ok.n1).bopn.m0))<|.z .gtr<|.z .pkf<|.nil ?_;refine .cd (fun C1=>?_) (fun C1=>?_)
 ·
  refine .seq<|.r<|.z .asS<|.ur' (.stI T.sz34 ok) ?_;rintro η5 ⟨ok,cg⟩;refine .nil ?_;have ok:=(ok.n1).bopn;refine .ret ⟨_,_,_,rfl,(end_any (p:=p) (q:=pb1) (r:=(⟨r.in_,r.now,r.valid,r.begun,r.nonce,r.km,r.kept,r.marked,r.d,r.rd,r.size,r.c,r.sure,r.bytes,r.broken⟩:RK)) (z:=1) (ok).loc0 (ok).m3),?_⟩;rintro _ η6 ⟨rfl,q⟩;have ok:=(ok).lift1 q;have ok:=Hp.bcls (p:=p) (kept:=r.kept) (ok);have ok:=ok.nilC (k:=1) (e:=5);have hF:=read_2 (A:=r.abs room L) (no:=no) hbr (by show no<1∨((presK r:Nat):Int)<no;first | exact .inl (by omega) | exact .inr (by omega));refine ⟨.tuple #[.slice none 0 0,.int .i64 1],Res.many (vs:=[.slice none 0 0,.int .i64 1]) rfl ⟨rfl,⟨_,rfl,load_1 T.ag34 ok.m2⟩,trivial⟩ rfl,⟨(⟨r.in_,r.now,r.valid,r.begun,r.nonce,r.km,r.kept,r.marked,r.d,r.rd,r.size,r.c,r.sure,r.bytes,(endK 1 r.broken)⟩:RK),E,Fc,none,0,(by rw [hF]<;>rfl),(by rw [hF]<;>rfl),hkm,⟨rfl,rfl⟩,(by rw [hF];exact (ok.n3.n2.n2).k3.e1),(fun _ h=>Or.inl h)⟩⟩
 refine .skip<|.seq<|?_;obtain ⟨n,rfl⟩:∃n:Nat,no=(n:Int):=⟨no.toNat,by omega⟩;have hnP:n≤P.length:=by omega
 have hlgn:=hlg n;refine .r<|.z .mvP<|.z .mvI<|.c' 24 .func (bget_any (p:=p) (r:=r) (Fc:=Fc) (room:=room) (L:=L) (E:=E) (no:=n) (Hp.pair (ok.n2.n2)).e1 hk hsz (by omega)) ?_;rintro _ η7 ⟨Fq1,aq1,cq1,rfl,q⟩;have hgq1:=(R.get (no:=n) (by omega) (by omega)).1;have Rgq1:Rl (RK.abs r room (getL (n:Int) L)) sp P:=(R.get (no:=n) (by omega) (by omega)).2;rw [show (getB (RK.abs r room L) n).2.1=P.getD (n-1) [] from congrArg (·.1) hgq1] at q⊢;rw [show (getB (RK.abs r room L) n).2.2=0 from congrArg (·.2) hgq1];have hplq1:(P.getD (n-1) []).length=r.size:=R.page_len (by omega);have ok:=(Hp.unpair (ok.n2.n2) q (fun i hi j hj=>.inl ⟨_,List.mem_cons_self,List.mem_singleton.1 hi▸hj⟩)).tR;refine .z .mvU<|.z .ex<|.z .ex<|.z .asS<|.ur' (.stI T.sz34 ok.n3) ?_;rintro η8 ⟨ok,cg⟩;refine .nil ?_;refine .seq<|.seq<|.r<|.z (.ldx T.ag34 ok.m0)<|.z .eql<|.nil ?_;refine .ct<|.r<|.z .mvP<|.z .mvI<|.z .mvS<|.c' 32 .func (bput_any (p:=p) (r:=r) (Fc:=Fq1) (room:=room) (L:=(getL (n:Int) L)) (E:=E) (no:=n) (a:=aq1) (c:=cq1) (l:=(P.getD (n-1) [])) (d:=false) ((Hp.pair ((ok.n3.n3.n3).frzB (l:=(P.getD (n-1) [])) rfl)).f1.e2) hk (show r.rd.chg<390000000 by omega) (by omega) hrm.1 (show (getL _ _).length≤100000000 by omega) (Rgq1.fo) (fun h=>hkm ((Rgq1.putA (no:=n) (b:=(P.getD (n-1) [])) (d:=false) (by omega)).2.2 h)) (by have:=(Rgq1.putA (no:=n) (b:=(P.getD (n-1) [])) (d:=false) (by omega)).1;exact Nat.le_trans this (by decide)) (fun f hf=>hposA Rgq1 (by omega) f hf)) ?_;rintro _ η9 ⟨rk1,Ek1,Fk1,rfl,hAk1,hdk1,upk1⟩;have hzp:=(ok.n1.n3.n3).chg.size;have ok:=(Hp.unpair (ok.n1.n3.n3) upk1.hp (fun i hi j hj=>by rw [List.mem_singleton.1 hi] at hj;exact (upk1.new j hj).imp (fun h=>⟨_,List.mem_cons_self,h⟩) id));have hnk1:=fun j hj=>(upk1.new j hj).elim ((fun _ h=>Or.inl h) j) fun h1=>Or.inr (Nat.le_trans hzp h1);refine .ur' (.stI T.sz34 ok.n3) ?_;rintro η10 ⟨ok,cg⟩;refine .nil ?_;refine .seq<|.seq<|.r<|.z (.ldx T.ag34 ok.m0)<|.z .neq<|.nil ?_;refine .cd (fun C3=>?_) (fun C3=>?_)
 ·
  refine .seq<|.t 2 mixed ?_;simp only [List.take_succ_cons,List.take_zero,List.drop_succ_cons,List.drop_zero];refine .z (.ldx T.ag34 ok.m0)<|.z .asS<|.nil ?_;refine .ur' (.stI T.sz34 ok) ?_;rintro η11 ⟨ok,cg⟩;refine .nil ?_;have ok:=(ok.n1).bopn;refine .ret ⟨_,_,_,rfl,(end_any (p:=p) (q:=pb1) (r:=(⟨rk1.in_,rk1.now,rk1.valid,rk1.begun,rk1.nonce,rk1.km,rk1.kept,rk1.marked,rk1.d,rk1.rd,rk1.size,rk1.c,rk1.sure,rk1.bytes,rk1.broken⟩:RK)) (z:=((putB (RK.abs r room (getL (n:Int) L)) n (P.getD (n-1) []) false).2:Int)) (ok).loc0 (ok).m3),?_⟩;rintro _ η12 ⟨rfl,q⟩;have ok:=(ok).lift1 q;have ok:=Hp.bcls (p:=p) (kept:=rk1.kept) (ok);have ok:=ok.nilC (k:=1) (e:=5);have hF:=read_3 (n:=n) R (by omega) (by omega);have hLk1:(endB (putB (RK.abs r room (getL (n:Int) L)) n (P.getD (n-1) []) false)).1.L=(putL room (n:Int) (P.getD (n-1) []) false (getL (n:Int) L)):=endB_L.trans (congrArg Bk.L hAk1).symm;replace hF:readB (r.abs room L) (n:Int)=((endB (putB (RK.abs r room (getL (n:Int) L)) n (P.getD (n-1) []) false)).1,if (putB (RK.abs r room (getL (n:Int) L)) n (P.getD (n-1) []) false).2=0 then P.getD (n-1) [] else [],(putB (RK.abs r room (getL (n:Int) L)) n (P.getD (n-1) []) false).2):=hF;rw [if_neg (show ¬(putB (RK.abs r room (getL (n:Int) L)) n (P.getD (n-1) []) false).2=0 by omega)] at hF;refine ⟨.tuple #[.slice none 0 0,.int .i64 ((putB (RK.abs r room (getL (n:Int) L)) n (P.getD (n-1) []) false).2:Int)],Res.many (vs:=[.slice none 0 0,.int .i64 ((putB (RK.abs r room (getL (n:Int) L)) n (P.getD (n-1) []) false).2:Int)]) rfl ⟨rfl,⟨_,rfl,load_1 T.ag34 ok.m2⟩,trivial⟩ rfl,⟨(⟨rk1.in_,rk1.now,rk1.valid,rk1.begun,rk1.nonce,rk1.km,rk1.kept,rk1.marked,rk1.d,rk1.rd,rk1.size,rk1.c,rk1.sure,rk1.bytes,(endK ((putB (RK.abs r room (getL (n:Int) L)) n (P.getD (n-1) []) false).2:Int) rk1.broken)⟩:RK),Ek1,Fk1,none,0,(by rw [hF]<;>rfl),(by rw [hF];simp only;rw [hLk1];have:=RK.abs_end (r:=rk1) (room:=room) (L:=(putL room (n:Int) (P.getD (n-1) []) false (getL (n:Int) L))) (z:=(putB (RK.abs r room (getL (n:Int) L)) n (P.getD (n-1) []) false).2);rw [hAk1] at this;exact this),(by show rk1.in_=true→∃m,rk1.km=some m;intro h;rw [hdk1.2.2];exact hkm ((put_in (A:=RK.abs r room (getL (n:Int) L)) (no:=n) (b:=P.getD (n-1) []) (d:=false)).symm.trans ((congrArg Bk.in_ hAk1).symm.trans h))),⟨hdk1.1,hdk1.2.1⟩,(by rw [hF];simp only;rw [hLk1];exact (ok.n3.n2.n2).k3.e1),hnk1⟩⟩
 refine .skip<|.seq<|.r<|.z .mvS<|.z .asS<|.ur' (.stI T.sz34 ok) ?_;rintro η13 ⟨ok,cg⟩;refine .nil ?_;have ok:=(ok.n1).bopn;refine .ret ⟨_,_,_,rfl,(end_any (p:=p) (q:=pb1) (r:=(⟨rk1.in_,rk1.now,rk1.valid,rk1.begun,rk1.nonce,rk1.km,rk1.kept,rk1.marked,rk1.d,rk1.rd,rk1.size,rk1.c,rk1.sure,rk1.bytes,rk1.broken⟩:RK)) (z:=0) (ok).loc0 (ok).m3),?_⟩;rintro _ η14 ⟨rfl,q⟩;have ok:=(ok).lift1 q;have ok:=Hp.bcls (p:=p) (kept:=rk1.kept) (ok);have hF:=read_3 (n:=n) R (by omega) (by omega);have hLk1:(endB (putB (RK.abs r room (getL (n:Int) L)) n (P.getD (n-1) []) false)).1.L=(putL room (n:Int) (P.getD (n-1) []) false (getL (n:Int) L)):=endB_L.trans (congrArg Bk.L hAk1).symm;replace hF:readB (r.abs room L) (n:Int)=((endB (putB (RK.abs r room (getL (n:Int) L)) n (P.getD (n-1) []) false)).1,if (putB (RK.abs r room (getL (n:Int) L)) n (P.getD (n-1) []) false).2=0 then P.getD (n-1) [] else [],(putB (RK.abs r room (getL (n:Int) L)) n (P.getD (n-1) []) false).2):=hF;have hz0:(putB (RK.abs r room (getL (n:Int) L)) n (P.getD (n-1) []) false).2=0:=by omega
 rw [if_pos hz0,hz0] at hF;refine ⟨.tuple #[.slice aq1 ((P.getD (n-1) []).length) cq1,.int .i64 0],Res.many (vs:=[.slice aq1 ((P.getD (n-1) []).length) cq1,.int .i64 0]) rfl ⟨rfl,⟨_,rfl,load_1 T.ag34 ok.m1⟩,trivial⟩ rfl,⟨(⟨rk1.in_,rk1.now,rk1.valid,rk1.begun,rk1.nonce,rk1.km,rk1.kept,rk1.marked,rk1.d,rk1.rd,rk1.size,rk1.c,rk1.sure,rk1.bytes,(endK 0 rk1.broken)⟩:RK),Ek1,Fk1,aq1,cq1,(by rw [hF]<;>rfl),(by rw [hF];simp only;rw [hLk1];have:=RK.abs_end (r:=rk1) (room:=room) (L:=(putL room (n:Int) (P.getD (n-1) []) false (getL (n:Int) L))) (z:=0);rw [hAk1] at this;exact this.trans (congrArg (fun x=>(endB x).1) (Prod.ext rfl hz0.symm))),(by show rk1.in_=true→∃m,rk1.km=some m;intro h;rw [hdk1.2.2];exact hkm ((put_in (A:=RK.abs r room (getL (n:Int) L)) (no:=n) (b:=P.getD (n-1) []) (d:=false)).symm.trans ((congrArg Bk.in_ hAk1).symm.trans h))),⟨hdk1.1,hdk1.2.1⟩,(by rw [hF];simp only;rw [hLk1];exact (ok.n2.n1.n3).k3.e1),hnk1⟩⟩
theorem bwrite_any {h:Heap} {p:Nat} {r:RK} {Fc:Nat→Prop} {room:Int} {L:List AP} {E F2 E2:Nat→Prop} {no:Int} {a:Option Addr} {c:Nat} {l:List UInt8} (ok:Hp h (lgF p r Fc) [corI p r,cacL r.c Fc room L] [bysI E r.rd.fs,rdI F2 E2 (a,l.length,c) l] h) (hk:DkOk r.rd.abs) (hcg:r.rd.chg<300000000) (hkm:r.in_=true→∃m,r.km=some m) (O:r.broken=false→∃s P,Rl (r.abs room L) s P) :
  HC Tryz.prog 84 #[.pointer (some ⟨p,0,none⟩),.int .i64 no,.slice a l.length c] h (fun v h'=>∃r' E' Fc',v=.int .i64 ((writeB (r.abs room L) no l).2:Int)∧r'.abs room (writeB (r.abs room L) no l).1.L=(writeB (r.abs room L) no l).1∧(r'.in_=true→∃m,r'.km=some m)∧(r'.d=r.d∧r'.c=r.c)∧LUp h h' p r r' Fc Fc' room (writeB (r.abs room L) no l).1.L E E'):=by
 have hlc:=ok.r1.c;have hlm:=ok.r1.m;simp only at hlc hlm;refine HC.goD Tryz.func84 61 ?_;refine .seq<|.lift<|.r<|.a' 6 (.alI T.zr34 ok) ?_;rintro _ η1 ⟨pb1,rfl,ok,xe⟩;refine .nil ?_;refine .end<|HSD.on<|.seq<|.seq<|.lift<|.r<|.z .mvP<|.k 10 .func (st_any (r:=r) ((ok.n1).bopn.m0))<|.z .asI<|.nil ?_;refine .end<|HSD.on<|.seq<|.lift<|.r<|.z .mvI<|.z .neq<|.nil ?_;refine .end<|HSD.on<|.lift<|.cd (fun C0=>?_) (fun C0=>?_)
 ·
  have hbr:r.broken=true:=stE_t C0;refine .seq<|.r<|.z .mvI<|.ur' (.stI T.sz34 ok) ?_;rintro η2 ⟨ok,cg⟩;refine .nil ?_;have hF:=write_1 (A:=r.abs room L) (no:=no) (b:=l) hbr;refine .ret ⟨.int .i64 ((stE r.broken:Nat):Int),Res.many (vs:=[.int .i64 ((stE r.broken:Nat):Int)]) rfl ⟨⟨_,rfl,load_1 T.ag34 ok.m0⟩,trivial⟩ rfl,⟨r,E,Fc,(by rw [hF];simp only [stE,hbr];rfl),(by rw [hF]<;>rfl),hkm,⟨rfl,rfl⟩,(by rw [hF];exact ⟨(ok.n2.n2).k2.e1,(fun _ h=>Or.inl h)⟩)⟩⟩
 have hbr:r.broken=false:=stE_f C0;obtain ⟨sp,P,R⟩:=O hbr;have k:FOk (r.abs room L):=R.fo;have hszk:r.size=256∨r.size=512∨r.size=1024∨r.size=2048∨r.size=4096:=k.sz;have hsz:r.size≤4096:=by omega
 have hPl:=R.few;have hpr:presK r=P.length:=R.pres;have hrm:=R.rm;replace hrm:1≤room∧room≤1048576∧(L.length:Int)≤room:=hrm;have hlg:∀n:Int,(getL n L).length≤L.length:=fun n=>by obtain ⟨_,_,p⟩:=R.kp;exact getL_len p.nd
 refine .skip<|.end<|HSD.on<|.seq<|.rd<|.z .mvP<|.df (args:=[.pointer (some ⟨p,0,none⟩),.pointer (some ⟨pb1,0,none⟩)]) rfl<|?_;refine .seq<|.block fun K0 hK0=>.seq<|?_;have ok:=(ok.n1).bopn;refine .r<|.z .mvP<|.z .nil<|.z (.fa T.fd136_0)<|.z (.fa T.fd134_0)<|.z (.ldx T.ag4 ok.m0)<|.z .not<|.z .asB<|.nil ?_;refine .cond (fun C1=>?_) (fun C1=>?_)
 ·
  refine .seq<|.r<|.ur' (.stI T.sz34 ok.n3) ?_;rintro η3 ⟨ok,cg⟩;refine .nil ?_;refine .ret ⟨_,_,_,rfl,(end_any (p:=p) (q:=pb1) (r:=(⟨r.in_,r.now,r.valid,r.begun,r.nonce,r.km,r.kept,r.marked,r.d,r.rd,r.size,r.c,r.sure,r.bytes,r.broken⟩:RK)) (z:=10) (ok.n1).loc0 (ok.n1).m1),?_⟩;rintro _ η4 ⟨rfl,q⟩;have ok:=(ok.n1).lift1 q;have ok:=Hp.bcls (p:=p) (kept:=r.kept) (ok.n3.n3.n2);have hF:=write_2 (A:=r.abs room L) (no:=no) (b:=l) hbr (show r.in_=false by simpa using C1);refine ⟨.int .i64 10,Res.many (vs:=[.int .i64 10]) rfl ⟨⟨_,rfl,load_1 T.ag34 ok.m1⟩,trivial⟩ rfl,⟨(⟨r.in_,r.now,r.valid,r.begun,r.nonce,r.km,r.kept,r.marked,r.d,r.rd,r.size,r.c,r.sure,r.bytes,(endK 10 r.broken)⟩:RK),E,Fc,(by rw [hF]<;>rfl),(by rw [hF]<;>rfl),hkm,⟨rfl,rfl⟩,(by rw [hF];exact ⟨(ok.n2.n1).k2.e1,(fun _ h=>Or.inl h)⟩)⟩⟩
 have hin:r.in_=true:=by simpa using C1
 have hpn:presK r=r.now:=if_pos hin;refine .seq<|.r<|.z .mvI<|.z .lss<|.z .mvB<|.sd (fun G25=>?_) (fun G25=>?_)
 ·
  refine .y<|.y<|.y<|.y<|.y<|.y<|.y<|.z .pkt<|.z .mvB<|.y<|.y<|.y<|.y<|.y<|.y<|.y<|.z .pkt<|.z .asB<|.nil ?_;refine .ct<|.seq<|.r<|.ur' (.stI T.sz34 ok.n3) ?_;rintro η5 ⟨ok,cg⟩;refine .nil ?_;refine .ret ⟨_,_,_,rfl,(end_any (p:=p) (q:=pb1) (r:=(⟨r.in_,r.now,r.valid,r.begun,r.nonce,r.km,r.kept,r.marked,r.d,r.rd,r.size,r.c,r.sure,r.bytes,r.broken⟩:RK)) (z:=1) (ok.n1).loc0 (ok.n1).m1),?_⟩;rintro _ η6 ⟨rfl,q⟩;have ok:=(ok.n1).lift1 q;have ok:=Hp.bcls (p:=p) (kept:=r.kept) (ok.n3.n3.n2);have hF:=write_3 (A:=r.abs room L) (no:=no) (b:=l) hbr hin (by show no<1∨(r.now:Int)<no∨l.length≠r.size;first | exact .inl (by omega) | exact .inr (.inl (by omega)) | exact .inr (.inr (by omega)));refine ⟨.int .i64 1,Res.many (vs:=[.int .i64 1]) rfl ⟨⟨_,rfl,load_1 T.ag34 ok.m1⟩,trivial⟩ rfl,⟨(⟨r.in_,r.now,r.valid,r.begun,r.nonce,r.km,r.kept,r.marked,r.d,r.rd,r.size,r.c,r.sure,r.bytes,(endK 1 r.broken)⟩:RK),E,Fc,(by rw [hF]<;>rfl),(by rw [hF]<;>rfl),hkm,⟨rfl,rfl⟩,(by rw [hF];exact ⟨(ok.n2.n1).k2.e1,(fun _ h=>Or.inl h)⟩)⟩⟩
 refine .z .mvI<|.z .mvP<|.z .nil<|.z (.fa T.fd136_0)<|.z (.fa T.fd134_1)<|.z (.ldx T.ag3 ok.m0)<|.z .gtr<|.z .pkf<|.z .mvB<|.sd (fun G34=>?_) (fun G34=>?_)
 ·
  refine .y<|.y<|.y<|.y<|.y<|.y<|.y<|.z .pkt<|.z .asB<|.nil ?_;refine .ct<|.seq<|.r<|.ur' (.stI T.sz34 ok.n3) ?_;rintro η7 ⟨ok,cg⟩;refine .nil ?_;refine .ret ⟨_,_,_,rfl,(end_any (p:=p) (q:=pb1) (r:=(⟨r.in_,r.now,r.valid,r.begun,r.nonce,r.km,r.kept,r.marked,r.d,r.rd,r.size,r.c,r.sure,r.bytes,r.broken⟩:RK)) (z:=1) (ok.n1).loc0 (ok.n1).m1),?_⟩;rintro _ η8 ⟨rfl,q⟩;have ok:=(ok.n1).lift1 q;have ok:=Hp.bcls (p:=p) (kept:=r.kept) (ok.n3.n3.n2);have hF:=write_3 (A:=r.abs room L) (no:=no) (b:=l) hbr hin (by show no<1∨(r.now:Int)<no∨l.length≠r.size;first | exact .inl (by omega) | exact .inr (.inl (by omega)) | exact .inr (.inr (by omega)));refine ⟨.int .i64 1,Res.many (vs:=[.int .i64 1]) rfl ⟨⟨_,rfl,load_1 T.ag34 ok.m1⟩,trivial⟩ rfl,⟨(⟨r.in_,r.now,r.valid,r.begun,r.nonce,r.km,r.kept,r.marked,r.d,r.rd,r.size,r.c,r.sure,r.bytes,(endK 1 r.broken)⟩:RK),E,Fc,(by rw [hF]<;>rfl),(by rw [hF]<;>rfl),hkm,⟨rfl,rfl⟩,(by rw [hF];exact ⟨(ok.n2.n1).k2.e1,(fun _ h=>Or.inl h)⟩)⟩⟩
 refine .z .mvS<|.z (.len T.el22)<|.z .mvP<|.z .nil<|.z (.fa T.fd136_2)<|.z (.ldx T.ag3 ok.m0)<|.z .neq<|.z .pkf<|.z .asB<|.nil ?_;refine .cd (fun C2=>?_) (fun C2=>?_)
 ·
  refine .seq<|.r<|.ur' (.stI T.sz34 ok.n3) ?_;rintro η9 ⟨ok,cg⟩;refine .nil ?_;refine .ret ⟨_,_,_,rfl,(end_any (p:=p) (q:=pb1) (r:=(⟨r.in_,r.now,r.valid,r.begun,r.nonce,r.km,r.kept,r.marked,r.d,r.rd,r.size,r.c,r.sure,r.bytes,r.broken⟩:RK)) (z:=1) (ok.n1).loc0 (ok.n1).m1),?_⟩;rintro _ η10 ⟨rfl,q⟩;have ok:=(ok.n1).lift1 q;have ok:=Hp.bcls (p:=p) (kept:=r.kept) (ok.n3.n3.n2);have hF:=write_3 (A:=r.abs room L) (no:=no) (b:=l) hbr hin (by show no<1∨(r.now:Int)<no∨l.length≠r.size;first | exact .inl (by omega) | exact .inr (.inl (by omega)) | exact .inr (.inr (by omega)));refine ⟨.int .i64 1,Res.many (vs:=[.int .i64 1]) rfl ⟨⟨_,rfl,load_1 T.ag34 ok.m1⟩,trivial⟩ rfl,⟨(⟨r.in_,r.now,r.valid,r.begun,r.nonce,r.km,r.kept,r.marked,r.d,r.rd,r.size,r.c,r.sure,r.bytes,(endK 1 r.broken)⟩:RK),E,Fc,(by rw [hF]<;>rfl),(by rw [hF]<;>rfl),hkm,⟨rfl,rfl⟩,(by rw [hF];exact ⟨(ok.n2.n1).k2.e1,(fun _ h=>Or.inl h)⟩)⟩⟩
 refine .skip<|.end<|hK0 _ _<|.seq<|?_;obtain ⟨n,rfl⟩:∃n:Nat,no=(n:Int):=⟨no.toNat,by omega⟩;have hnP:n≤P.length:=by omega
 have hlgn:=hlg n;refine .r<|.z .mvP<|.z .mvI<|?_;have ok:=Hp.bcls (p:=p) (kept:=r.kept) (ok);refine .c' 46 .func (bget_any (p:=p) (r:=(⟨r.in_,r.now,r.valid,r.begun,r.nonce,r.km,r.kept,r.marked,r.d,r.rd,r.size,r.c,r.sure,r.bytes,r.broken⟩:RK)) (Fc:=Fc) (room:=room) (L:=L) (E:=E) (no:=n) (Hp.pair (ok.n2.n1)).e1 hk hsz (by omega)) ?_;rintro _ η11 ⟨Fq1,aq1,cq1,rfl,q⟩;have hgq1:=(R.get (no:=n) (by omega) (by omega)).1;have Rgq1:Rl (RK.abs (⟨r.in_,r.now,r.valid,r.begun,r.nonce,r.km,r.kept,r.marked,r.d,r.rd,r.size,r.c,r.sure,r.bytes,r.broken⟩:RK) room (getL (n:Int) L)) sp P:=(R.get (no:=n) (by omega) (by omega)).2;rw [show (getB (RK.abs (⟨r.in_,r.now,r.valid,r.begun,r.nonce,r.km,r.kept,r.marked,r.d,r.rd,r.size,r.c,r.sure,r.bytes,r.broken⟩:RK) room L) n).2.1=P.getD (n-1) [] from congrArg (·.1) hgq1] at q⊢;rw [show (getB (RK.abs (⟨r.in_,r.now,r.valid,r.begun,r.nonce,r.km,r.kept,r.marked,r.d,r.rd,r.size,r.c,r.sure,r.bytes,r.broken⟩:RK) room L) n).2.2=0 from congrArg (·.2) hgq1];have hplq1:(P.getD (n-1) []).length=r.size:=R.page_len (by omega);have ok:=(Hp.unpair (ok.n2.n1) q (fun i hi j hj=>.inl ⟨_,List.mem_cons_self,List.mem_singleton.1 hi▸hj⟩)).tR;refine .z .mvU<|.z .ex<|.z .ex<|.z .asS<|.ur' (.stI T.sz34 ok.n3) ?_;rintro η12 ⟨ok,cg⟩;refine .nil ?_;refine .seq<|.seq<|.r<|.z (.ldx T.ag34 ok.m0)<|.z .neq<|.z .mvB<|.z .mvS<|.z .mvS<|.k 54 .func (equal_any (a:=aq1) (c:=cq1) (l:=(P.getD (n-1) [])) (b:=a) (d:=c) (l2:=l) (RdL.ofCapB (v:=(aq1,(P.getD (n-1) []).length,cq1)) (l:=(P.getD (n-1) [])) ok.m1) ok.r1)<|.z .pkf<|.nil ?_;refine .cd (fun C3=>?_) (fun C3=>?_)
 ·
  refine .seq<|.r<|.z (.ldx T.ag34 ok.m0)<|.ur' (.stI T.sz34 ok) ?_;rintro η13 ⟨ok,cg⟩;refine .nil ?_;have ok:=(ok.n2).bopn;refine .ret ⟨_,_,_,rfl,(end_any (p:=p) (q:=pb1) (r:=(⟨r.in_,r.now,r.valid,r.begun,r.nonce,r.km,r.kept,r.marked,r.d,r.rd,r.size,r.c,r.sure,r.bytes,r.broken⟩:RK)) (z:=0) (ok).loc0 (ok).m3),?_⟩;rintro _ η14 ⟨rfl,q⟩;have ok:=(ok).lift1 q;have ok:=Hp.bcls (p:=p) (kept:=r.kept) (ok);have hF:=write_4 (n:=n) (b:=l) R hin (by omega) (by omega) (show l.length=r.size by omega) C3;refine ⟨.int .i64 0,Res.many (vs:=[.int .i64 0]) rfl ⟨⟨_,rfl,load_1 T.ag34 ok.m1⟩,trivial⟩ rfl,⟨(⟨r.in_,r.now,r.valid,r.begun,r.nonce,r.km,r.kept,r.marked,r.d,r.rd,r.size,r.c,r.sure,r.bytes,(endK 0 r.broken)⟩:RK),E,Fq1,(by rw [hF]<;>rfl),(by rw [hF]<;>rfl),hkm,⟨rfl,rfl⟩,(by rw [hF];exact ⟨(ok.n3.n1).k2.e1,(fun _ h=>Or.inl h)⟩)⟩⟩
 refine .skip<|.seq<|.r<|.z .mvP<|.z .mvI<|.z .mvS<|.c' 60 .func (bput_any (p:=p) (r:=(⟨r.in_,r.now,r.valid,r.begun,r.nonce,r.km,r.kept,r.marked,r.d,r.rd,r.size,r.c,r.sure,r.bytes,r.broken⟩:RK)) (Fc:=Fq1) (room:=room) (L:=(getL (n:Int) L)) (E:=E) (no:=n) (a:=a) (c:=c) (l:=l) (d:=true) ((Hp.pair (ok.n3.n3.f1.f1)).e2) hk (show r.rd.chg<390000000 by omega) (by omega) hrm.1 (show (getL _ _).length≤100000000 by omega) (Rgq1.fo) (fun h=>hkm ((Rgq1.putA (no:=n) (b:=l) (d:=true) (by omega)).2.2 h)) (by have:=(Rgq1.putA (no:=n) (b:=l) (d:=true) (by omega)).1;exact Nat.le_trans this (by decide)) (fun f hf=>hposA Rgq1 (by omega) f hf)) ?_;rintro _ η15 ⟨rk1,Ek1,Fk1,rfl,hAk1,hdk1,upk1⟩;have hzp:=(ok.n3.n3.f1.f1).chg.size;have ok:=(Hp.unpair (ok.n3.n3.f1.f1) upk1.hp (fun i hi j hj=>by rw [List.mem_singleton.1 hi] at hj;exact (upk1.new j hj).imp (fun h=>⟨_,List.mem_cons_self,h⟩) id));have hnk1:=fun j hj=>(upk1.new j hj).elim ((fun _ h=>Or.inl h) j) fun h1=>Or.inr (Nat.le_trans hzp h1);refine .ur' (.stI T.sz34 ok.n2) ?_;rintro η16 ⟨ok,cg⟩;refine .nil ?_;have ok:=(ok.n1).bopn;refine .ret ⟨_,_,_,rfl,(end_any (p:=p) (q:=pb1) (r:=(⟨rk1.in_,rk1.now,rk1.valid,rk1.begun,rk1.nonce,rk1.km,rk1.kept,rk1.marked,rk1.d,rk1.rd,rk1.size,rk1.c,rk1.sure,rk1.bytes,rk1.broken⟩:RK)) (z:=((putB (RK.abs (⟨r.in_,r.now,r.valid,r.begun,r.nonce,r.km,r.kept,r.marked,r.d,r.rd,r.size,r.c,r.sure,r.bytes,r.broken⟩:RK) room (getL (n:Int) L)) n l true).2:Int)) (ok).loc0 (ok).m3),?_⟩;rintro _ η17 ⟨rfl,q⟩;have ok:=(ok).lift1 q;have ok:=Hp.bcls (p:=p) (kept:=rk1.kept) (ok);have hF:=write_5 (n:=n) (b:=l) R hin (by omega) (by omega) (show l.length=r.size by omega) C3;replace hF:writeB (r.abs room L) (n:Int) l=endB (putB (RK.abs (⟨r.in_,r.now,r.valid,r.begun,r.nonce,r.km,r.kept,r.marked,r.d,r.rd,r.size,r.c,r.sure,r.bytes,r.broken⟩:RK) room (getL (n:Int) L)) n l true):=hF;have hLk1:(endB (putB (RK.abs (⟨r.in_,r.now,r.valid,r.begun,r.nonce,r.km,r.kept,r.marked,r.d,r.rd,r.size,r.c,r.sure,r.bytes,r.broken⟩:RK) room (getL (n:Int) L)) n l true)).1.L=(putL room (n:Int) l true (getL (n:Int) L)):=endB_L.trans (congrArg Bk.L hAk1).symm;refine ⟨.int .i64 ((putB (RK.abs (⟨r.in_,r.now,r.valid,r.begun,r.nonce,r.km,r.kept,r.marked,r.d,r.rd,r.size,r.c,r.sure,r.bytes,r.broken⟩:RK) room (getL (n:Int) L)) n l true).2:Int),Res.many (vs:=[.int .i64 ((putB (RK.abs (⟨r.in_,r.now,r.valid,r.begun,r.nonce,r.km,r.kept,r.marked,r.d,r.rd,r.size,r.c,r.sure,r.bytes,r.broken⟩:RK) room (getL (n:Int) L)) n l true).2:Int)]) rfl ⟨⟨_,rfl,load_1 T.ag34 ok.m1⟩,trivial⟩ rfl,⟨(⟨rk1.in_,rk1.now,rk1.valid,rk1.begun,rk1.nonce,rk1.km,rk1.kept,rk1.marked,rk1.d,rk1.rd,rk1.size,rk1.c,rk1.sure,rk1.bytes,(endK ((putB (RK.abs (⟨r.in_,r.now,r.valid,r.begun,r.nonce,r.km,r.kept,r.marked,r.d,r.rd,r.size,r.c,r.sure,r.bytes,r.broken⟩:RK) room (getL (n:Int) L)) n l true).2:Int) rk1.broken)⟩:RK),Ek1,Fk1,(by rw [hF,endB_2]),(by rw [hF,hLk1];have:=RK.abs_end (r:=rk1) (room:=room) (L:=(putL room (n:Int) l true (getL (n:Int) L))) (z:=(putB (RK.abs (⟨r.in_,r.now,r.valid,r.begun,r.nonce,r.km,r.kept,r.marked,r.d,r.rd,r.size,r.c,r.sure,r.bytes,r.broken⟩:RK) room (getL (n:Int) L)) n l true).2);rw [hAk1] at this;exact this),(by show rk1.in_=true→∃m,rk1.km=some m;intro h;rw [hdk1.2.2];exact hkm ((put_in (A:=RK.abs r room (getL (n:Int) L)) (no:=n) (b:=l) (d:=true)).symm.trans ((congrArg Bk.in_ hAk1).symm.trans h))),⟨hdk1.1,hdk1.2.1⟩,(by rw [hF,hLk1];exact ⟨(ok.n2.n1).k2.e1,hnk1⟩)⟩⟩
open Go Go.HL
def rzL (n:Int) (s:List Int) (L:List AP):List AP:=L.filter fun x=>decide (¬(x.no∈s∧n<x.no))
theorem rz_0 {n:Int} {L:List AP} : rzL n [] L=L:=by unfold rzL;simp
theorem rz_all {n:Int} {L:List AP} : rzL n (nos L) L=L.filter fun x=>decide (x.no≤n):=by
 unfold rzL;refine List.filter_congr fun x hx=>?_;have:x.no∈nos L:=List.mem_map.2 ⟨x,hx,rfl⟩;by_cases h:x.no≤n
 ·simp [h,Int.not_lt.2 h]
 ·simp [h,this,Int.not_le.1 h]
theorem take_mem {s:List Int} {i:Nat} (hi:i<s.length) (y:Int):y∈s.take (i+1)↔y∈s.take i∨y=s[i]:=by rw [List.take_succ_eq_append_getElem hi];simp only [List.mem_append,List.mem_singleton]
theorem rz_skip {n:Int} {L:List AP} {s:List Int} {i:Nat} (hi:i<s.length) (h:¬n<s[i]):rzL n (s.take (i+1)) L=rzL n (s.take i) L:=by
 unfold rzL;refine List.filter_congr fun x _=>?_;simp only [take_mem hi];by_cases e:x.no=s[i]
 ·rw [e];simp [h]
 ·simp [e]
theorem rz_drop {n:Int} {L:List AP} {s:List Int} {i:Nat} (hi:i<s.length) (h:n<s[i]):dr [s[i]] (rzL n (s.take i) L)=rzL n (s.take (i+1)) L:=by
 unfold rzL dr;rw [List.filter_filter];refine List.filter_congr fun x _=>?_;simp only [take_mem hi];by_cases e:x.no=s[i]
 ·rw [e];simp [h]
 ·simp [e]
theorem ldrop1_any {h:Heap} {c:Nat} {F:Nat→Prop} {room:Int} {L:List AP} {x:SV} {no:Int} (q:CRep h F c room L) (hl:Sl h 1 (sv x) ([no].map iv)) (hd:∀b,blk (sv x) b→¬F b) :
  HC Tryz.prog 97 #[.pointer (some ⟨c,0,none⟩),sv x] h (fun v h'=>∃F',v=.tuple #[]∧Hp h F [cacL c F' room (dr [no] L)] [] h'):=
 (dropl_any q hl (by simp) hd).mono fun v h' ⟨F',hv,hr,hs⟩=>⟨F',hv,Step.hp (x:=cacL c F room L) (it:=cacL c F' room (dr [no] L)) q q.lt rfl hs hr hr.lt rfl⟩
theorem ldropa_any {h:Heap} {c:Nat} {F:Nat→Prop} {room:Int} {L:List AP} (q:CRep h F c room L) :
  HC Tryz.prog 97 #[.pointer (some ⟨c,0,none⟩),.slice none 0 0] h (fun v h'=>∃F',v=.tuple #[]∧Hp h F [cacL c F' room []] [] h'):=by
 refine (dropl_any q (lv:=(none,0,0)) (l:=[]) (Sl.nil _ 1) (by simp) (fun b ⟨_,_,_,e,_⟩=>by cases e)).mono fun v h' ⟨F',hv,hr,hs⟩=>⟨F',hv,?_⟩;have e:dr (if ([]:List Int)=[] then (nos L).reverse else []) L=[]:=by
  unfold dr;rw [if_pos rfl,List.filter_eq_nil_iff];intro x hx;simp [nos];exact ⟨x,hx,rfl⟩
 rw [e] at hr;exact Step.hp (x:=cacL c F room L) (it:=cacL c F' room []) q q.lt rfl hs hr hr.lt rfl
theorem lclean_any {h:Heap} {c:Nat} {F:Nat→Prop} {room:Int} {L:List AP} (q:CRep h F c room L) :
  HC Tryz.prog 101 #[.pointer (some ⟨c,0,none⟩),.slice none 0 0] h (fun v h'=>v=.tuple #[]∧Hp h F [cacL c F room (cl (nos L) L)] [] h'):=by
 refine (clean_any q (lv:=(none,0,0)) (l:=[]) (Sl.nil _ 1) (by simp)).mono fun v h' ⟨hv,hr,hc⟩=>⟨hv,?_⟩;have e:cl (if ([]:List Int)=[] then (nos L).reverse else []) L=cl (nos L) L:=by
  rw [if_pos rfl];unfold cl;exact List.map_congr_left fun x _=>by simp
 rw [e] at hr;exact Step.hp (x:=cacL c F room L) (it:=cacL c F room (cl (nos L) L)) q q.lt rfl ⟨hc,fun _ h=>.inl h⟩ hr hr.lt rfl
section
variable {A:Bk} {n:Int}
theorem bresize_1 (h:A.broken=true):resizeB A n=(A,13):=if_pos h
theorem bresize_2 (h:A.broken=false) (hi:A.in_=false):resizeB A n=(A,10):=(if_neg (by simp [h])).trans (if_pos hi)
variable (h:A.broken=false) (hi:A.in_=true)
include h hi
theorem bresize_3 (h1:n<0):resizeB A n=(A,1):=(if_neg (by simp [h])).trans ((if_neg (by simp [hi])).trans (if_pos h1))
theorem bresize_4 (h1:¬n<0) (h2:1048576<n∨(mostB A.size:Int)<n):resizeB A n=(A,5):=(if_neg (by simp [h])).trans ((if_neg (by simp [hi])).trans ((if_neg h1).trans (if_pos h2)))
theorem bresize_5 {m:Nat} (h2:¬(1048576<(m:Int)∨(mostB A.size:Int)<(m:Int))):resizeB A m=({ A with L:=A.L.filter fun x=>decide (x.no≤(m:Int)),now:=m,valid:=min A.valid m },0):=(if_neg (by simp [h])).trans ((if_neg (by simp [hi])).trans ((if_neg (by omega)).trans ((if_neg h2).trans (by simp))))
end
theorem bresize_any {h:Heap} {p:Nat} {r:RK} {Fc:Nat→Prop} {room:Int} {L:List AP} {E:Nat→Prop} {n:Int} (ok:Hp h (lgF p r Fc) [corI p r,cacL r.c Fc room L] [bysI E r.rd.fs] h) (hk:DkOk r.rd.abs) (hcg:r.rd.chg<300000000) (hkm:r.in_=true→∃m,r.km=some m) (O:r.broken=false→∃s P,Rl (r.abs room L) s P) (hn : -9223372036854775808≤n∧n≤9223372036854775807) :
  HC Tryz.prog 83 #[.pointer (some ⟨p,0,none⟩),.int .i64 n] h (fun v h'=>∃r' E' Fc',v=.int .i64 ((resizeB (r.abs room L) n).2:Int)∧r'.abs room (resizeB (r.abs room L) n).1.L=(resizeB (r.abs room L) n).1∧(r'.in_=true→∃m,r'.km=some m)∧(r'.d=r.d∧r'.c=r.c)∧LUp h h' p r r' Fc Fc' room (resizeB (r.abs room L) n).1.L E E'):=by
 refine HC.go Tryz.func83 72 ?_;refine .seq<|.r<|.z .asI<|.nil ?_;refine .seq<|.seq<|.r<|.z .mvP<|.k 9 .func (st_any (r:=r) ((ok).bopn.m0))<|.z .asI<|.nil ?_;refine .seq<|.r<|.z .mvI<|.z .neq<|.nil ?_;refine .cd (fun C0=>?_) (fun C0=>?_)
 ·
  have hbr:r.broken=true:=stE_t C0;refine .seq<|.r<|.z .mvI<|.z .asI<|.nil ?_;have hF:=bresize_1 (A:=r.abs room L) (n:=n) hbr;refine .ret ⟨.int .i64 ((stE r.broken:Nat):Int),Res.one rfl rfl,⟨r,E,Fc,(by rw [hF];simp only [stE,hbr];rfl),(by rw [hF]<;>rfl),hkm,⟨rfl,rfl⟩,(by rw [hF];exact ⟨(ok).k2.e1,(fun _ h=>Or.inl h)⟩)⟩⟩
 have hbr:r.broken=false:=stE_f C0;obtain ⟨sp,P,R⟩:=O hbr;have k:FOk (r.abs room L):=R.fo;have hszk:r.size=256∨r.size=512∨r.size=1024∨r.size=2048∨r.size=4096:=k.sz;have hsz:r.size≤4096:=by omega
 have hPl:=R.few;have hpr:presK r=P.length:=R.pres;refine .skip<|.seq<|.block fun K0 hK0=>.seq<|?_;have ok:=(ok).bopn;refine .r<|.z .mvP<|.z .nil<|.z (.fa T.fd136_0)<|.z (.fa T.fd134_0)<|.z (.ldx T.ag4 ok.m0)<|.z .not<|.z .asB<|.nil ?_;refine .cond (fun C1=>?_) (fun C1=>?_)
 ·
  refine .seq<|.r<|.z .asI<|.nil ?_;have ok:=Hp.bcls (p:=p) (kept:=r.kept) (ok);have hF:=bresize_2 (A:=r.abs room L) (n:=n) hbr (show r.in_=false by simpa using C1);refine .ret ⟨.int .i64 10,Res.one rfl rfl,⟨(⟨r.in_,r.now,r.valid,r.begun,r.nonce,r.km,r.kept,r.marked,r.d,r.rd,r.size,r.c,r.sure,r.bytes,r.broken⟩:RK),E,Fc,(by rw [hF]<;>rfl),(by rw [hF]<;>rfl),hkm,⟨rfl,rfl⟩,(by rw [hF];exact ⟨(ok).k2.e1,(fun _ h=>Or.inl h)⟩)⟩⟩
 have hin:r.in_=true:=by simpa using C1
 refine .seq<|.r<|.z .mvI<|.z .lss<|.z .asB<|.nil ?_;refine .cd (fun C2=>?_) (fun C2=>?_)
 ·
  refine .seq<|.r<|.z .asI<|.nil ?_;have ok:=Hp.bcls (p:=p) (kept:=r.kept) (ok);have hF:=bresize_3 (A:=r.abs room L) (n:=n) hbr hin (by omega);refine .ret ⟨.int .i64 1,Res.one rfl rfl,⟨(⟨r.in_,r.now,r.valid,r.begun,r.nonce,r.km,r.kept,r.marked,r.d,r.rd,r.size,r.c,r.sure,r.bytes,r.broken⟩:RK),E,Fc,(by rw [hF]<;>rfl),(by rw [hF]<;>rfl),hkm,⟨rfl,rfl⟩,(by rw [hF];exact ⟨(ok).k2.e1,(fun _ h=>Or.inl h)⟩)⟩⟩
 refine .seq<|.r<|.z .mvI<|.z .gtr<|.z .mvB<|.sd (fun G26=>?_) (fun G26=>?_)
 ·
  refine .y<|.y<|.y<|.y<|.y<|.y<|.y<|.z .pkt<|.z .asB<|.nil ?_;refine .ct<|.seq<|.r<|.z .asI<|.nil ?_;have ok:=Hp.bcls (p:=p) (kept:=r.kept) (ok);have hF:=bresize_4 (A:=r.abs room L) (n:=n) hbr hin (by omega) (by show 1048576<n∨((mostB r.size:Nat):Int)<n;first | exact .inl (by omega) | exact .inr (by omega));refine .ret ⟨.int .i64 5,Res.one rfl rfl,⟨(⟨r.in_,r.now,r.valid,r.begun,r.nonce,r.km,r.kept,r.marked,r.d,r.rd,r.size,r.c,r.sure,r.bytes,r.broken⟩:RK),E,Fc,(by rw [hF]<;>rfl),(by rw [hF]<;>rfl),hkm,⟨rfl,rfl⟩,(by rw [hF];exact ⟨(ok).k2.e1,(fun _ h=>Or.inl h)⟩)⟩⟩
 refine .z .mvI<|.z .mvP<|.z .nil<|.z (.fa T.fd136_2)<|.z (.ldx T.ag3 ok.m0)<|.k 32 .func (most_any (n:=r.size) (by omega))<|.z .gtr<|.z .pkf<|.z .asB<|.nil ?_;refine .cd (fun C3=>?_) (fun C3=>?_)
 ·
  refine .seq<|.r<|.z .asI<|.nil ?_;have ok:=Hp.bcls (p:=p) (kept:=r.kept) (ok);have hF:=bresize_4 (A:=r.abs room L) (n:=n) hbr hin (by omega) (by show 1048576<n∨((mostB r.size:Nat):Int)<n;first | exact .inl (by omega) | exact .inr (by omega));refine .ret ⟨.int .i64 5,Res.one rfl rfl,⟨(⟨r.in_,r.now,r.valid,r.begun,r.nonce,r.km,r.kept,r.marked,r.d,r.rd,r.size,r.c,r.sure,r.bytes,r.broken⟩:RK),E,Fc,(by rw [hF]<;>rfl),(by rw [hF]<;>rfl),hkm,⟨rfl,rfl⟩,(by rw [hF];exact ⟨(ok).k2.e1,(fun _ h=>Or.inl h)⟩)⟩⟩
 refine .skip<|.end<|hK0 _ _<|.seq<|.seq<|?_;obtain ⟨nn,rfl⟩:∃nn:Nat,n=(nn:Int):=⟨n.toNat,by omega⟩;refine .r<|.z .mvP<|.z .nil<|.z (.fa T.fd136_3)<|.z (.ldx T.ag109 ok.m0)<|.c' 39 .func (pages_any (ok.n3).m0) ?_;rintro _ η1 own;obtain ⟨ya1,yn1,yc1,rfl⟩:=own.form3;have ok:=ok.own own;obtain rfl:yn1=(nos L).length:=by have:=(Cap.sl ok.m0).cells.len;simpa using this.symm
 have ok:=ok.frzI (l:=(nos L)) rfl;have hmc:=ok.r0.m;have hcc:=ok.r0.c;simp only at hmc hcc;refine .z (.len T.el167)<|.z .mvI<|.nil ?_;refine .block fun K1 hK1=>.loop (fun m s hh=>∃(i:Nat) (Fi:Nat→Prop),Has s [(0,.pointer (some ⟨p,0,none⟩)),(1,.int .i64 (nn:Int)),(39,.slice ya1 ((nos L).length) yc1),(40,.int .i64 (((nos L).length:Nat):Int)),(41,.int .i64 (i:Int))]∧Hp h (lgF p r Fc) [corI p r,cacL r.c Fi room (rzL (nn:Int) ((nos L).take i) L)] [rdI (blkC (sv (ya1,(nos L).length,yc1))) none_ (ya1,(nos L).length,yc1) (nos L),bysI E r.rd.fs] hh∧i≤(nos L).length∧m=(nos L).length-i) ?_ ?_;have ok:=Hp.bcls (p:=p) (kept:=r.kept) (ok);have ok:=ok;rw [show cacL r.c Fc room L=cacL r.c Fc room (rzL (nn:Int) ((nos L).take 0) L) from by rw [show (rzL (nn:Int) ((nos L).take 0) L)=L from rz_0]] at ok
 ·exact ⟨_,0,Fc,⟨rfl,rfl,rfl,rfl,rfl,trivial⟩,(ok.f1.f1).k2.e2,Nat.zero_le _,rfl⟩
 rintro _ _ η2 ⟨i,Fi,hs,ok,hi,rfl⟩ J0 hJ0;refine .frame hs fun τ=>?_;refine .seq<|.r<|.z .lss<|.nil ?_;refine .seq<|.cdr (fun C4=>?_) (fun C4=>?_)
 ·
  refine .exit<|hK1 _ _<|.seq<|?_;have ok:=(ok).bopn;have hrz:(rzL (nn:Int) ((nos L).take i) L)=L.filter fun x=>decide (x.no≤(nn:Int)):=by rw [show i=(nos L).length by omega,List.take_length];exact rz_all
  rw [hrz] at ok;refine .r<|.z .mvP<|.z .mvP<|.z .mvI<|.z .mvP<|.z .nil<|.z (.fa T.fd136_0)<|.z (.fa T.fd134_2)<|.z (.ldx T.ag3 ok.m0)<|.z .mvI<|.z .min2<|?_;rw [show ((min (r.valid:Int) (nn:Int)):Int)=((min r.valid nn:Nat):Int) from by omega];refine .z .nil<|.z (.fa T.fd136_0)<|.z (.fa T.fd134_1)<|.ur' (.stI T.sz3 ok) ?_;rintro η3 ⟨ok,cg⟩;refine .z .nil<|.z (.fa T.fd136_0)<|.z (.fa T.fd134_2)<|.ur' (.stI T.sz3 ok) ?_;rintro η4 ⟨ok,cg⟩;refine .nil ?_;refine .seq<|.r<|.z .asI<|.nil ?_;have ok:=Hp.bcls (p:=p) (kept:=r.kept) (ok);have hF:=bresize_5 (A:=r.abs room L) (m:=nn) hbr hin (by show ¬(1048576<(nn:Int)∨((mostB r.size:Nat):Int)<(nn:Int));omega);refine .ret ⟨.int .i64 0,Res.one rfl rfl,⟨(⟨r.in_,nn,(min r.valid nn),r.begun,r.nonce,r.km,r.kept,r.marked,r.d,r.rd,r.size,r.c,r.sure,r.bytes,r.broken⟩:RK),E,Fi,(by rw [hF]<;>rfl),(by rw [hF]<;>rfl),hkm,⟨rfl,rfl⟩,(by rw [hF];exact ⟨(ok.f1).k2.e1,(fun _ h=>Or.inl h)⟩)⟩⟩
 refine .skip<|.seq<|.block fun K2 hK2=>.seq<|.r<|?_;obtain ⟨bb1,oo1,rfl,fb1⟩:=ok.r0.pos (by omega);refine .z (.ix1 i T.el167 T.sz3)<|.z (.ld T.ag3 (ok.r0.i64 (i:=i) (by omega)))<|.z .asI<|.nil ?_;refine .seq<|.r<|.z .mvI<|.z .mvI<|.z .gtr<|.nil ?_;refine .cd (fun C5=>?_) (fun C5=>?_)
 ·
  have ok:=(ok).bopn;refine .r<|.z .mvP<|.z .nil<|.z (.fa T.fd136_3)<|.z (.ldx T.ag109 ok.m0)<|.z .mvI<|.a' 53 (.lit [.tmp 52] (cs:=[.int .i64 ((nos L)[i])]) T.el167 T.sz3 T.zr3 ok ⟨rfl,trivial⟩) ?_;rintro _ η5 ⟨pb1,rfl,ok,xe⟩;refine .c' 54 .func (ldrop1_any (x:=(some ⟨pb1,0,none⟩,1,1)) (no:=(nos L)[i]) (ok.n4).m0 (ok.n4).m1.sl (fun b hb hF=>(List.pairwise_cons.1 (ok.n4).mm).1 _ List.mem_cons_self b hF (blk_toC hb))) ?_;rintro _ η6 ⟨Fd1,rfl,q⟩;have ok:=(ok.n4).lift1 q;refine .nil ?_;refine .end<|hK2 _ _<|.r<|.z (.addI (b:=1))<|.z .mvI<|.nil ?_;refine .end<|?_;have ok:=Hp.bcls (p:=p) (kept:=r.kept) (ok.n4.n4.n4);have ok:=ok;rw [rz_drop (by omega) C5] at ok;refine hJ0 _ _ _ ⟨i+1,Fd1,⟨rfl,rfl,rfl,rfl,rfl,trivial⟩,(ok.f1.f1).k2.e2,by omega,rfl⟩ (by omega)
 refine .skip<|.end<|hK2 _ _<|.r<|.z (.addI (b:=1))<|.z .mvI<|.nil ?_;refine .end<|?_;have ok:=ok;rw [←rz_skip (by omega) (by omega)] at ok;refine hJ0 _ _ _ ⟨i+1,Fi,⟨rfl,rfl,rfl,rfl,rfl,trivial⟩,(ok.f1.f1).k2.e2,by omega,rfl⟩ (by omega)
open Go Go.HL
section
variable {A:Bk} {s P:List (List UInt8)} (R:Rl A s P)
include R
theorem Rl.llen:A.L.length≤1048576:=by have:=R.rm;omega
theorem Rl.nrng:∀k∈nos A.L,-9223372036854775808≤k∧k≤9223372036854775807:=fun k hk=>by
 obtain ⟨x,hx,rfl⟩:=List.mem_map.1 hk;obtain ⟨_,_,p⟩:=R.kp;have:=p.rg x hx;have:=R.few;omega
theorem Rl.dpos:∀f∈dirtyB A.L,1≤f.page∧f.page≤1048576:=fun f hf=>by
 obtain ⟨_,_,p⟩:=R.kp;obtain ⟨x,hx,_,rfl⟩:=(dirtyB_mem p.nd).1 hf;have:=p.rg x hx;have:=R.few;simp only;omega
end
section
variable {A:Bk} {s P:List (List UInt8)}
theorem bcommit_1 (h:A.broken=true):commitB A=(A,13):=if_pos h
theorem bcommit_2 (h:A.broken=false) (hi:A.in_=false):commitB A=(A,10):=(if_neg (by simp [h])).trans (if_pos hi)
variable (R:Rl A s P) (hi:A.in_=true)
include R hi
theorem bcommit_0 (h0:A.now=0):commitB A=endB (thenB (layB A) fun B=>(doneB B,0)):=by
 unfold commitB;rw [if_neg (by rw [R.br];decide),if_neg (by rw [hi];decide),if_pos h0]
theorem bcommit_3 (h0:¬A.now=0) (hh:hdOk (P.getD (1-1) []) A.size=true):commitB A=endB (thenB (layB (getB A 1).1) fun B=>(doneB B,0)):=by
 have hp:=R.pres;unfold presB at hp;rw [if_pos hi] at hp;have hg:=(R.get (no:=1) (Nat.le_refl _) (by omega)).1;unfold commitB;rw [if_neg (by rw [R.br];decide),if_neg (by rw [hi];decide),if_neg h0];simp only;rw [hg,if_neg (by simp),if_neg (by unfold headB;unfold hdOk at hh;rw [hh];decide)]
theorem bcommit_4 (h0:¬A.now=0) (hh:hdOk (P.getD (1-1) []) A.size=false):commitB A=((getB A 1).1,8):=by
 have hp:=R.pres;unfold presB at hp;rw [if_pos hi] at hp;have hg:=(R.get (no:=1) (Nat.le_refl _) (by omega)).1;unfold commitB;rw [if_neg (by rw [R.br];decide),if_neg (by rw [hi];decide),if_neg h0];simp only;rw [hg,if_neg (by simp),if_pos (by unfold headB;unfold hdOk at hh;exact hh)];rfl
end
theorem then_done {A:Bk} (h:(layB A).2=0):thenB (layB A) (fun B=>(doneB B,0))=(doneB (layB A).1,0):=thenB_0 h
theorem endB_0 {A:Bk} : endB (A,0)=(A,0):=if_neg (by simp)
theorem lay_in {A:Bk} {s P:List (List UInt8)} (R:Rl A s P):Sm A (layB A).1:=by
 by_cases h:(unlikeB A).2=0
 ·by_cases hq:quick A
  ·rw [lay_2 h hq];exact .refl A
  ·have k1:=(save_st (A:=A) (l:=[])).sm;by_cases h1:(saveB A []).2=0
   ·have k2:=k1.trans (flush_sm (A:=(saveB A []).1) (l:=(unlikeB A).1));by_cases h2:(flushB (saveB A []).1 (unlikeB A).1).2=0
    ·have k3:=k2.trans cut_sm;by_cases h3:(cutB (flushB (saveB A []).1 (unlikeB A).1).1).2=0
     ·rw [lay_e h hq h1 rfl h2 rfl h3 rfl];refine k3.trans ?_;rw [lend_def];split<;>exact ⟨rfl,rfl,rfl,rfl,rfl,rfl,rfl⟩
     ·rw [lay_c h hq h1 rfl h2 rfl h3];exact k3
    ·rw [lay_f h hq h1 rfl h2];exact k2
   ·rw [lay_s h hq h1];exact k1
 ·rw [lay_1 h];exact .refl A
theorem bcommit_any {h:Heap} {p:Nat} {r:RK} {Fc:Nat→Prop} {room:Int} {L:List AP} {E:Nat→Prop} (ok:Hp h (lgF p r Fc) [corI p r,cacL r.c Fc room L] [bysI E r.rd.fs] h) (hk:DkOk r.rd.abs) (hcg:r.rd.chg<300000000) (hkm:r.in_=true→∃m,r.km=some m) (O:r.broken=false→∃s P,Rl (r.abs room L) s P) :
  HC Tryz.prog 40 #[.pointer (some ⟨p,0,none⟩)] h (fun v h'=>∃r' E' Fc',v=.int .i64 ((commitB (r.abs room L)).2:Int)∧r'.abs room (commitB (r.abs room L)).1.L=(commitB (r.abs room L)).1∧(r'.in_=true→∃m,r'.km=some m)∧(r'.d=r.d∧r'.c=r.c)∧LUp h h' p r r' Fc Fc' room (commitB (r.abs room L)).1.L E E'):=by
 refine HC.goD Tryz.func40 73 ?_;refine .seq<|.lift<|.r<|.a' 2 (.alI T.zr34 ok) ?_;rintro _ η1 ⟨pb1,rfl,ok,xe⟩;refine .nil ?_;refine .end<|HSD.on<|.seq<|.seq<|.lift<|.r<|.z .mvP<|.k 10 .func (st_any (r:=r) ((ok.n1).bopn.m0))<|.z .asI<|.nil ?_;refine .end<|HSD.on<|.seq<|.lift<|.r<|.z .mvI<|.z .neq<|.nil ?_;refine .end<|HSD.on<|.lift<|.cd (fun C0=>?_) (fun C0=>?_)
 ·
  have hbr:r.broken=true:=stE_t C0;refine .seq<|.r<|.z .mvI<|.ur' (.stI T.sz34 ok) ?_;rintro η2 ⟨ok,cg⟩;refine .nil ?_;have hF:=bcommit_1 (A:=r.abs room L) hbr;refine .ret ⟨.int .i64 ((stE r.broken:Nat):Int),Res.many (vs:=[.int .i64 ((stE r.broken:Nat):Int)]) rfl ⟨⟨_,rfl,load_1 T.ag34 ok.m0⟩,trivial⟩ rfl,⟨r,E,Fc,(by rw [hF];simp only [stE,hbr];rfl),(by rw [hF]<;>rfl),hkm,⟨rfl,rfl⟩,(by rw [hF];exact ⟨(ok.n2.n2).k2.e1,(fun _ h=>Or.inl h)⟩)⟩⟩
 have hbr:r.broken=false:=stE_f C0;obtain ⟨sp,P,R⟩:=O hbr;have k:FOk (r.abs room L):=R.fo;have hszk:r.size=256∨r.size=512∨r.size=1024∨r.size=2048∨r.size=4096:=k.sz;have hsz:r.size≤4096:=by omega
 have hPl:=R.few;have hpr:presK r=P.length:=R.pres;refine .skip<|.end<|HSD.on<|.seq<|.rd<|.z .mvP<|.df (args:=[.pointer (some ⟨p,0,none⟩),.pointer (some ⟨pb1,0,none⟩)]) rfl<|?_;refine .seq<|.seq<|?_;have ok:=(ok.n1).bopn;refine .r<|.z .mvP<|.z .nil<|.z (.fa T.fd136_0)<|.z (.fa T.fd134_0)<|.z (.ldx T.ag4 ok.m0)<|.z .not<|.nil ?_;refine .cond (fun C1=>?_) (fun C1=>?_)
 ·
  refine .seq<|.r<|.ur' (.stI T.sz34 ok.n3) ?_;rintro η3 ⟨ok,cg⟩;refine .nil ?_;refine .ret ⟨_,_,_,rfl,(end_any (p:=p) (q:=pb1) (r:=(⟨r.in_,r.now,r.valid,r.begun,r.nonce,r.km,r.kept,r.marked,r.d,r.rd,r.size,r.c,r.sure,r.bytes,r.broken⟩:RK)) (z:=10) (ok.n1).loc0 (ok.n1).m1),?_⟩;rintro _ η4 ⟨rfl,q⟩;have ok:=(ok.n1).lift1 q;have ok:=Hp.bcls (p:=p) (kept:=r.kept) (ok.n3.n3.n2);have hF:=bcommit_2 (A:=r.abs room L) hbr (show r.in_=false by simpa using C1);refine ⟨.int .i64 10,Res.many (vs:=[.int .i64 10]) rfl ⟨⟨_,rfl,load_1 T.ag34 ok.m1⟩,trivial⟩ rfl,⟨(⟨r.in_,r.now,r.valid,r.begun,r.nonce,r.km,r.kept,r.marked,r.d,r.rd,r.size,r.c,r.sure,r.bytes,(endK 10 r.broken)⟩:RK),E,Fc,(by rw [hF]<;>rfl),(by rw [hF]<;>rfl),hkm,⟨rfl,rfl⟩,(by rw [hF];exact ⟨(ok.n2.n1).k2.e1,(fun _ h=>Or.inl h)⟩)⟩⟩
 have hin:r.in_=true:=by simpa using C1
 have hpn:presK r=r.now:=if_pos hin;refine .skip<|.seq<|.seq<|.r<|.z .mvP<|.z .nil<|.z (.fa T.fd136_0)<|.z (.fa T.fd134_1)<|.z (.ldx T.ag3 ok.m0)<|.z .gtr<|.nil ?_;refine .join (fun s hh=>∃(Lj:List AP) (Fj:Nat→Prop),Has s [(0,.pointer (some ⟨p,0,none⟩)),(2,.pointer (some ⟨pb1,0,none⟩))]∧Hp h (lgF p r Fc) [boxI pb1 34 [.int .i64 0],corI p r,cacL r.c Fj room Lj] [bysI E r.rd.fs] hh∧Rl (r.abs room Lj) sp P∧commitB (r.abs room L)=endB (thenB (layB (r.abs room Lj)) fun B=>(doneB B,0))) ?_ ?_
 ·
  refine .cd (fun C2=>?_) (fun C2=>?_)
  ·
   refine .seq<|.r<|.z .mvP<|?_;have ok:=Hp.bcls (p:=p) (kept:=r.kept) (ok);refine .c' 29 .func (bget_any (p:=p) (r:=(⟨r.in_,r.now,r.valid,r.begun,r.nonce,r.km,r.kept,r.marked,r.d,r.rd,r.size,r.c,r.sure,r.bytes,r.broken⟩:RK)) (Fc:=Fc) (room:=room) (L:=L) (E:=E) (no:=1) (Hp.pair (ok.n2.n1)).e1 hk hsz (by omega)) ?_;rintro _ η5 ⟨Fq1,aq1,cq1,rfl,q⟩;have hgq1:=(R.get (no:=1) (Nat.le_refl _) (by omega)).1;have Rgq1:Rl (RK.abs (⟨r.in_,r.now,r.valid,r.begun,r.nonce,r.km,r.kept,r.marked,r.d,r.rd,r.size,r.c,r.sure,r.bytes,r.broken⟩:RK) room (getL (1:Int) L)) sp P:=(R.get (no:=1) (Nat.le_refl _) (by omega)).2;rw [show (getB (RK.abs (⟨r.in_,r.now,r.valid,r.begun,r.nonce,r.km,r.kept,r.marked,r.d,r.rd,r.size,r.c,r.sure,r.bytes,r.broken⟩:RK) room L) 1).2.1=P.getD (1-1) [] from congrArg (·.1) hgq1] at q⊢;rw [show (getB (RK.abs (⟨r.in_,r.now,r.valid,r.begun,r.nonce,r.km,r.kept,r.marked,r.d,r.rd,r.size,r.c,r.sure,r.bytes,r.broken⟩:RK) room L) 1).2.2=0 from congrArg (·.2) hgq1];have hplq1:(P.getD (1-1) []).length=r.size:=R.page_len (by omega);have ok:=(Hp.unpair (ok.n2.n1) q (fun i hi j hj=>.inl ⟨_,List.mem_cons_self,List.mem_singleton.1 hi▸hj⟩)).tR;refine .z .mvU<|.z .ex<|.z .ex<|.z .asS<|.z .asI<|.nil ?_;refine .seq<|.seq<|.r<|.z .mvI<|.z .neq<|.nil ?_;refine .cf<|.skip<|.seq<|.r<|.z .mvS<|.c' 37 .func (dec_any (a:=aq1) (c:=cq1) (l:=(P.getD (1-1) [])) (RdL.ofCapB (v:=(aq1,(P.getD (1-1) []).length,cq1)) (l:=(P.getD (1-1) [])) ok.m0)) ?_;rintro _ η6 ⟨rfl,hx⟩;rw [show (decN (P.getD (1-1) [])).1.val=.agg #[.int .i64 (decN (P.getD (1-1) [])).1.size,.int .i64 (decN (P.getD (1-1) [])).1.pages,.int .i64 (decN (P.getD (1-1) [])).1.free,.int .i64 (decN (P.getD (1-1) [])).1.many,.int .i64 (decN (P.getD (1-1) [])).1.cookie,.int .i64 (decN (P.getD (1-1) [])).1.version] from rfl];have ok:=ok.ext hx;refine .z .mvU<|.z .ex<|.z .ex<|.a' 6 (.alA T.zr148 ok) ?_;rintro _ η7 ⟨pb2,rfl,ok,xe⟩;refine .ur' (.stW (vs:=[.int .i64 ((decN (P.getD (1-1) [])).1.size),.int .i64 ((decN (P.getD (1-1) [])).1.pages),.int .i64 ((decN (P.getD (1-1) [])).1.free),.int .i64 ((decN (P.getD (1-1) [])).1.many),.int .i64 ((decN (P.getD (1-1) [])).1.cookie),.int .i64 ((decN (P.getD (1-1) [])).1.version)]) T.sz148 ok (oneL rfl)) ?_;rintro η8 ⟨ok,cg⟩;refine .z .asI<|.nil ?_;refine .seq<|?_;have ok:=(ok.n2).bopn;refine .q (hm:=mixed)<|.z .mvI<|.z .neq<|.z .mvB<|.sd (fun G42=>?_) (fun G42=>?_)
   ·
    have hhd:hdOk (P.getD (1-1) []) r.size=false:=decide_eq_false (by rintro ⟨h1,h2⟩;omega);refine .y<|.y<|.y<|.y<|.y<|.y<|.y<|.z .pkt<|.nil ?_;refine .ct<|.seq<|.r<|.ur' (.stI T.sz34 ok.n6) ?_;rintro η9 ⟨ok,cg⟩;refine .nil ?_;refine .ret ⟨_,_,_,rfl,(end_any (p:=p) (q:=pb1) (r:=(⟨r.in_,r.now,r.valid,r.begun,r.nonce,r.km,r.kept,r.marked,r.d,r.rd,r.size,r.c,r.sure,r.bytes,r.broken⟩:RK)) (z:=8) (ok.n1).loc0 (ok.n1).m1),?_⟩;rintro _ η10 ⟨rfl,q⟩;have ok:=(ok.n1).lift1 q;have ok:=Hp.bcls (p:=p) (kept:=r.kept) (ok.n3.n3.n2);have hF:=bcommit_4 (A:=r.abs room L) R hin (show ¬r.now=0 by omega) hhd;refine ⟨.int .i64 8,Res.many (vs:=[.int .i64 8]) rfl ⟨⟨_,rfl,load_1 T.ag34 ok.m1⟩,trivial⟩ rfl,⟨(⟨r.in_,r.now,r.valid,r.begun,r.nonce,r.km,r.kept,r.marked,r.d,r.rd,r.size,r.c,r.sure,r.bytes,(endK 8 r.broken)⟩:RK),E,Fq1,(by rw [hF]<;>rfl),(by rw [hF]<;>rfl),hkm,⟨rfl,rfl⟩,(by rw [hF];exact ⟨(ok.n4.n1).k2.e1,(fun _ h=>Or.inl h)⟩)⟩⟩
   refine .z (.fa T.fd148_0)<|.z (.ldx T.ag3 ok.m3)<|.z .mvP<|.z .nil<|.z (.fa T.fd136_2)<|.z (.ldx T.ag3 ok.m0)<|.z .neq<|.z .pkf<|.nil ?_;refine .cd (fun C4=>?_) (fun C4=>?_)
   ·
    have hhd:hdOk (P.getD (1-1) []) r.size=false:=decide_eq_false (by rintro ⟨h1,h2⟩;omega);refine .seq<|.r<|.ur' (.stI T.sz34 ok.n6) ?_;rintro η11 ⟨ok,cg⟩;refine .nil ?_;refine .ret ⟨_,_,_,rfl,(end_any (p:=p) (q:=pb1) (r:=(⟨r.in_,r.now,r.valid,r.begun,r.nonce,r.km,r.kept,r.marked,r.d,r.rd,r.size,r.c,r.sure,r.bytes,r.broken⟩:RK)) (z:=8) (ok.n1).loc0 (ok.n1).m1),?_⟩;rintro _ η12 ⟨rfl,q⟩;have ok:=(ok.n1).lift1 q;have ok:=Hp.bcls (p:=p) (kept:=r.kept) (ok.n3.n3.n2);have hF:=bcommit_4 (A:=r.abs room L) R hin (show ¬r.now=0 by omega) hhd;refine ⟨.int .i64 8,Res.many (vs:=[.int .i64 8]) rfl ⟨⟨_,rfl,load_1 T.ag34 ok.m1⟩,trivial⟩ rfl,⟨(⟨r.in_,r.now,r.valid,r.begun,r.nonce,r.km,r.kept,r.marked,r.d,r.rd,r.size,r.c,r.sure,r.bytes,(endK 8 r.broken)⟩:RK),E,Fq1,(by rw [hF]<;>rfl),(by rw [hF]<;>rfl),hkm,⟨rfl,rfl⟩,(by rw [hF];exact ⟨(ok.n4.n1).k2.e1,(fun _ h=>Or.inl h)⟩)⟩⟩
   have hhd:hdOk (P.getD (1-1) []) r.size=true:=decide_eq_true ⟨by omega,by omega⟩;refine .skip<|.end<|?_;have ok:=Hp.bcls (p:=p) (kept:=r.kept) (ok);refine ⟨(getL (1:Int) L),Fq1,⟨rfl,rfl,trivial⟩,ok.n3.n1.n4.k3,Rgq1,bcommit_3 (A:=r.abs room L) R hin (show ¬r.now=0 by omega) hhd⟩
  refine .skip<|.end<|?_;have ok:=Hp.bcls (p:=p) (kept:=r.kept) (ok);refine ⟨L,Fc,⟨rfl,rfl,trivial⟩,ok.n2.n1.n2,R,bcommit_0 (A:=r.abs room L) R hin (show r.now=0 by omega)⟩
 rintro s η13 ⟨Lj,Fj,hs,ok,Rj,hcj⟩;refine .frame hs fun τ=>?_;refine .seq<|.seq<|.r<|.z .mvP<|.c' 52 .func (blay_any (p:=p) (r:=r) (Fc:=Fj) (room:=room) (L:=Lj) (E:=E) (Hp.pair (ok.n2.n2)).e1 hk (show r.rd.chg<380000000 by omega) Rj.fo (hkm hin) Rj.llen Rj.nrng Rj.dpos) ?_;rintro _ η14 ⟨rk1,Ek1,rfl,hAk1,hdk1,upk1⟩;have hzl:=(ok.n2.n2).chg.size;have ok:=(Hp.unpair (ok.n2.n2) upk1.hp (fun i hi j hj=>by rw [List.mem_singleton.1 hi] at hj;exact (upk1.new j hj).imp (fun h=>⟨_,List.mem_cons_self,h⟩) id));have hnk1:=fun j hj=>(upk1.new j hj).elim ((fun _ h=>Or.inl h) j) fun h1=>Or.inr (Nat.le_trans hzl h1);refine .z .asI<|.nil ?_;refine .seq<|.r<|.z .mvI<|.z .neq<|.nil ?_;refine .cd (fun C5=>?_) (fun C5=>?_)
 ·
  refine .seq<|.r<|.z .mvI<|.ur' (.stI T.sz34 ok.n2) ?_;rintro η15 ⟨ok,cg⟩;refine .nil ?_;have ok:=(ok.n1).bopn;refine .ret ⟨_,_,_,rfl,(end_any (p:=p) (q:=pb1) (r:=(⟨rk1.in_,rk1.now,rk1.valid,rk1.begun,rk1.nonce,rk1.km,rk1.kept,rk1.marked,rk1.d,rk1.rd,rk1.size,rk1.c,rk1.sure,rk1.bytes,rk1.broken⟩:RK)) (z:=((layB (RK.abs r room Lj)).2:Int)) (ok).loc0 (ok).m3),?_⟩;rintro _ η16 ⟨rfl,q⟩;have ok:=(ok).lift1 q;have ok:=Hp.bcls (p:=p) (kept:=rk1.kept) (ok);have hF:=hcj.trans (congrArg endB (thenB_e (a:=layB (r.abs room Lj)) (fun h=>C5 (Int.natCast_eq_zero.2 h))));have hLk1:(endB (layB (RK.abs r room Lj))).1.L=Lj:=endB_L.trans (congrArg Bk.L hAk1).symm;refine ⟨.int .i64 ((layB (RK.abs r room Lj)).2:Int),Res.many (vs:=[.int .i64 ((layB (RK.abs r room Lj)).2:Int)]) rfl ⟨⟨_,rfl,load_1 T.ag34 ok.m1⟩,trivial⟩ rfl,⟨(⟨rk1.in_,rk1.now,rk1.valid,rk1.begun,rk1.nonce,rk1.km,rk1.kept,rk1.marked,rk1.d,rk1.rd,rk1.size,rk1.c,rk1.sure,rk1.bytes,(endK ((layB (RK.abs r room Lj)).2:Int) rk1.broken)⟩:RK),Ek1,Fj,(by rw [hF,endB_2]),(by rw [hF,hLk1];have:=RK.abs_end (r:=rk1) (room:=room) (L:=Lj) (z:=(layB (RK.abs r room Lj)).2);rw [hAk1] at this;exact this),(by show rk1.in_=true→∃m,rk1.km=some m;intro _;rw [hdk1.2.2];exact hkm hin),⟨hdk1.1,hdk1.2.1⟩,(by rw [hF,hLk1];exact ⟨(ok.n2.n1).k2.e1,hnk1⟩)⟩⟩
 refine .skip<|.seq<|?_;have ok:=(ok).bopn;refine .r<|.z .mvP<|.z .nil<|.z (.fa T.fd136_3)<|.z (.ldx T.ag109 ok.m0)<|?_;rw [hdk1.2.1];refine .c' 60 .func (lclean_any (ok.n3).m0) ?_;rintro _ η17 ⟨rfl,q⟩;have ok:=(ok.n3).lift1 q;refine .nil ?_;refine .seq<|.r<|.z .mvP<|.z .mvP<|.z .nil<|.z (.fa T.fd136_0)<|.z (.fa T.fd134_1)<|.z (.ldx T.ag3 ok.m1)<|.z .nil<|.z (.fa T.fd136_4)<|.ur' (.stI T.sz3 ok.n1) ?_;rintro η18 ⟨ok,cg⟩;refine .nil ?_;refine .seq<|.r<|.z .mvP<|.z (.bd #[.bool false,.int .i64 0,.int .i64 0,.bool false,.int .u64 0,.map none,.int .i64 0] T.zr134 T.pl134 rfl)<|.z .nil<|.z (.fa T.fd136_0)<|.ur' (.stA (vs:=[.bool false,.int .i64 0,.int .i64 0,.bool false,.int .u64 0,.map none,.int .i64 0]) T.sz134 ok (oneL rfl)) ?_;rintro η19 ⟨ok,cg⟩;refine .nil ?_;refine .seq<|.r<|.ur' (.stI T.sz34 ok.n4) ?_;rintro η20 ⟨ok,cg⟩;refine .nil ?_;refine .ret ⟨_,_,_,rfl,(end_any (p:=p) (q:=pb1) (r:=(⟨false,0,0,false,0,none,[],0,rk1.d,rk1.rd,rk1.size,rk1.c,rk1.now,rk1.bytes,rk1.broken⟩:RK)) (z:=0) (ok.n1).loc0 (ok.n1).m1),?_⟩;rintro _ η21 ⟨rfl,q⟩;have ok:=(ok.n1).lift1 q;have ok:=ok.kepNil (kept:=[]);have ok:=Hp.bcls (p:=p) (kept:=[]) (ok.n5.n1.n2);have hF:=hcj.trans ((congrArg endB (then_done (A:=r.abs room Lj) (Int.natCast_eq_zero.1 (Decidable.not_not.1 C5)))).trans endB_0);have hLk1:(doneB (layB (RK.abs r room Lj)).1).L=(cl (nos Lj) Lj):=by rw [←hAk1];rfl
 refine ⟨.int .i64 0,Res.many (vs:=[.int .i64 0]) rfl ⟨⟨_,rfl,load_1 T.ag34 ok.m1⟩,trivial⟩ rfl,⟨(⟨false,0,0,false,0,none,[],0,rk1.d,rk1.rd,rk1.size,rk1.c,rk1.now,rk1.bytes,(endK 0 rk1.broken)⟩:RK),Ek1,Fj,(by rw [hF]<;>rfl),(by rw [hF];simp only;rw [hLk1,←hAk1]<;>rfl),(by intro h;cases h),⟨hdk1.1,hdk1.2.1⟩,(by rw [hF];simp only;rw [hLk1];exact ⟨(ok.n2.n1).k2.e1,hnk1⟩)⟩⟩
open Go Go.HL
section
variable {A:Bk}
theorem rollb_1 (h:A.broken=true):rollbackB A=(A,13):=if_pos h
theorem rollb_2 (h:A.broken=false) (hi:A.in_=false):rollbackB A=(A,10):=(if_neg (by simp [h])).trans (if_pos hi)
variable (h:A.broken=false) (hi:A.in_=true)
include h hi
theorem rollb_3 (hb:A.begun=true) (he:(healB A.dk).2≠0):rollbackB A=endB ({ A with dk:=(healB A.dk).1 },(healB A.dk).2):=(if_neg (by simp [h])).trans ((if_neg (by simp [hi])).trans (congrArg endB (if_pos ⟨hb,he⟩)))
theorem rollb_4 (he:¬(A.begun=true∧(healB A.dk).2≠0)) {d:Dk} (hd:d=if A.begun=true then (healB A.dk).1 else A.dk):rollbackB A=(actB { A with dk:=d,L:=[],bytes:=A.sure*A.size } false 0 0,0):=by
 subst hd;exact (if_neg (by simp [h])).trans ((if_neg (by simp [hi])).trans ((congrArg endB (if_neg he)).trans endB_0))
end
theorem brollback_any {h:Heap} {p:Nat} {r:RK} {Fc:Nat→Prop} {room:Int} {L:List AP} {E:Nat→Prop} (ok:Hp h (lgF p r Fc) [corI p r,cacL r.c Fc room L] [bysI E r.rd.fs] h) (hk:DkOk r.rd.abs) (hcg:r.rd.chg<300000000) (hkm:r.in_=true→∃m,r.km=some m) (O:r.broken=false→∃s P,Rl (r.abs room L) s P) :
  HC Tryz.prog 37 #[.pointer (some ⟨p,0,none⟩)] h (fun v h'=>∃r' E' Fc',v=.int .i64 ((rollbackB (r.abs room L)).2:Int)∧r'.abs room (rollbackB (r.abs room L)).1.L=(rollbackB (r.abs room L)).1∧(r'.in_=true→∃m,r'.km=some m)∧(r'.d=r.d∧r'.c=r.c)∧LUp h h' p r r' Fc Fc' room (rollbackB (r.abs room L)).1.L E E'):=by
 refine HC.goD Tryz.func37 51 ?_;refine .seq<|.lift<|.r<|.a' 2 (.alI T.zr34 ok) ?_;rintro _ η1 ⟨pb1,rfl,ok,xe⟩;refine .nil ?_;refine .end<|HSD.on<|.seq<|.seq<|.lift<|.r<|.z .mvP<|.k 6 .func (st_any (r:=r) ((ok.n1).bopn.m0))<|.z .asI<|.nil ?_;refine .end<|HSD.on<|.seq<|.lift<|.r<|.z .mvI<|.z .neq<|.nil ?_;refine .end<|HSD.on<|.lift<|.cd (fun C0=>?_) (fun C0=>?_)
 ·
  have hbr:r.broken=true:=stE_t C0;refine .seq<|.r<|.z .mvI<|.ur' (.stI T.sz34 ok) ?_;rintro η2 ⟨ok,cg⟩;refine .nil ?_;have hF:=rollb_1 (A:=r.abs room L) hbr;refine .ret ⟨.int .i64 ((stE r.broken:Nat):Int),Res.many (vs:=[.int .i64 ((stE r.broken:Nat):Int)]) rfl ⟨⟨_,rfl,load_1 T.ag34 ok.m0⟩,trivial⟩ rfl,⟨r,E,Fc,(by rw [hF];simp only [stE,hbr];rfl),(by rw [hF]<;>rfl),hkm,⟨rfl,rfl⟩,(by rw [hF];exact ⟨(ok.n2.n2).k2.e1,(fun _ h=>Or.inl h)⟩)⟩⟩
 have hbr:r.broken=false:=stE_f C0;obtain ⟨sp,P,R⟩:=O hbr;have k:FOk (r.abs room L):=R.fo;have hszk:r.size=256∨r.size=512∨r.size=1024∨r.size=2048∨r.size=4096:=k.sz;have hsz:r.size≤4096:=by omega
 have hPl:=R.few;have hpr:presK r=P.length:=R.pres;refine .skip<|.end<|HSD.on<|.seq<|.rd<|.z .mvP<|.df (args:=[.pointer (some ⟨p,0,none⟩),.pointer (some ⟨pb1,0,none⟩)]) rfl<|?_;refine .seq<|.seq<|?_;have ok:=(ok.n1).bopn;refine .r<|.z .mvP<|.z .nil<|.z (.fa T.fd136_0)<|.z (.fa T.fd134_0)<|.z (.ldx T.ag4 ok.m0)<|.z .not<|.nil ?_;refine .cond (fun C1=>?_) (fun C1=>?_)
 ·
  refine .seq<|.r<|.ur' (.stI T.sz34 ok.n3) ?_;rintro η3 ⟨ok,cg⟩;refine .nil ?_;refine .ret ⟨_,_,_,rfl,(end_any (p:=p) (q:=pb1) (r:=(⟨r.in_,r.now,r.valid,r.begun,r.nonce,r.km,r.kept,r.marked,r.d,r.rd,r.size,r.c,r.sure,r.bytes,r.broken⟩:RK)) (z:=10) (ok.n1).loc0 (ok.n1).m1),?_⟩;rintro _ η4 ⟨rfl,q⟩;have ok:=(ok.n1).lift1 q;have ok:=Hp.bcls (p:=p) (kept:=r.kept) (ok.n3.n3.n2);have hF:=rollb_2 (A:=r.abs room L) hbr (show r.in_=false by simpa using C1);refine ⟨.int .i64 10,Res.many (vs:=[.int .i64 10]) rfl ⟨⟨_,rfl,load_1 T.ag34 ok.m1⟩,trivial⟩ rfl,⟨(⟨r.in_,r.now,r.valid,r.begun,r.nonce,r.km,r.kept,r.marked,r.d,r.rd,r.size,r.c,r.sure,r.bytes,(endK 10 r.broken)⟩:RK),E,Fc,(by rw [hF]<;>rfl),(by rw [hF]<;>rfl),hkm,⟨rfl,rfl⟩,(by rw [hF];exact ⟨(ok.n2.n1).k2.e1,(fun _ h=>Or.inl h)⟩)⟩⟩
 have hin:r.in_=true:=by simpa using C1
 have hsu:=(okJ_le k.okj).2.1;replace hsu:r.sure≤1048576:=hsu;have hmz:r.sure*r.size≤1048576*4096:=Nat.mul_le_mul hsu hsz;refine .skip<|.seq<|.seq<|.r<|.z .mvP<|.z .nil<|.z (.fa T.fd136_0)<|.z (.fa T.fd134_3)<|.z (.ldx T.ag4 ok.m0)<|.nil ?_;refine .join (fun s hh=>∃(rdj:RD) (Ej:Nat→Prop),Has s [(0,.pointer (some ⟨p,0,none⟩)),(2,.pointer (some ⟨pb1,0,none⟩))]∧Hp h (lgF p r Fc) [boxI pb1 34 [.int .i64 0],corI p (⟨r.in_,r.now,r.valid,r.begun,r.nonce,r.km,r.kept,r.marked,r.d,rdj,r.size,r.c,r.sure,r.bytes,r.broken⟩:RK),cacL r.c Fc room L] [bysI Ej rdj.fs] hh∧rdj.abs=(if (r.abs room L).begun=true then (healB (r.abs room L).dk).1 else (r.abs room L).dk)∧(¬((r.abs room L).begun=true∧(healB (r.abs room L).dk).2≠0))∧(∀j,Ej j→E j∨h.size≤j)) ?_ ?_
 ·
  refine .cond (fun C2=>?_) (fun C2=>?_)
  ·
   refine .seq<|.r<|.z .mvP<|.z .nil<|.z (.fa T.fd136_1)<|.z (.ldx T.ag30 ok.m0)<|.c' 26 .func (heal_any (d:=r.d) (r:=r.rd) (E:=E) (ok.n2).loc1 hk (by omega)) ?_;rintro _ η5 ⟨rw1,Ew1,rfl,haw1,upw1⟩;have hzw1:=(ok).chg.size;have ok:=(ok.n2).dsk (d:=r.d) (r:=r.rd) upw1;have hkw1:DkOk rw1.abs:=by rw [haw1];exact (hk).heal
   have hcw1:rw1.chg≤r.rd.chg+17000000:=Int.le_trans (Int.le_of_eq (congrArg Dk.chg haw1)) (heal_chg hk);have hnw1:=fun j hj=>(upw1.new j hj).elim ((fun _ h=>Or.inl h) j) fun h1=>Or.inr (Nat.le_trans hzw1 h1);refine .z .asI<|.nil ?_;refine .seq<|.r<|.z .mvI<|.z .neq<|.nil ?_;refine .cd (fun C3=>?_) (fun C3=>?_)
   ·
    refine .seq<|.r<|.z .mvI<|.ur' (.stI T.sz34 ok.n3) ?_;rintro η6 ⟨ok,cg⟩;refine .nil ?_;refine .ret ⟨_,_,_,rfl,(end_any (p:=p) (q:=pb1) (r:=(⟨r.in_,r.now,r.valid,r.begun,r.nonce,r.km,r.kept,r.marked,r.d,rw1,r.size,r.c,r.sure,r.bytes,r.broken⟩:RK)) (z:=((healB r.rd.abs).2:Int)) (ok.n2).loc0 (ok.n2).m1),?_⟩;rintro _ η7 ⟨rfl,q⟩;have ok:=(ok.n2).lift1 q;have ok:=Hp.bcls (p:=p) (kept:=r.kept) (ok.n2.n3.n2);have hF:=rollb_3 (A:=r.abs room L) hbr hin C2 (fun h=>C3 (Int.natCast_eq_zero.2 h));have hab:((⟨r.in_,r.now,r.valid,r.begun,r.nonce,r.km,r.kept,r.marked,r.d,rw1,r.size,r.c,r.sure,r.bytes,r.broken⟩:RK)).abs room L = { r.abs room L with dk:=(healB r.rd.abs).1 }:=by show RK.abs _ _ _=_;simp only [RK.abs];rw [haw1]
    have hF2:rollbackB (r.abs room L)=endB (((⟨r.in_,r.now,r.valid,r.begun,r.nonce,r.km,r.kept,r.marked,r.d,rw1,r.size,r.c,r.sure,r.bytes,r.broken⟩:RK)).abs room L,(healB r.rd.abs).2):=by rw [hab];exact hF
    have hL:(endB (((⟨r.in_,r.now,r.valid,r.begun,r.nonce,r.km,r.kept,r.marked,r.d,rw1,r.size,r.c,r.sure,r.bytes,r.broken⟩:RK)).abs room L,(healB r.rd.abs).2)).1.L=L:=endB_L;refine ⟨.int .i64 ((healB r.rd.abs).2:Int),Res.many (vs:=[.int .i64 ((healB r.rd.abs).2:Int)]) rfl ⟨⟨_,rfl,load_1 T.ag34 ok.m1⟩,trivial⟩ rfl,⟨(⟨r.in_,r.now,r.valid,r.begun,r.nonce,r.km,r.kept,r.marked,r.d,rw1,r.size,r.c,r.sure,r.bytes,(endK ((healB r.rd.abs).2:Int) r.broken)⟩:RK),Ew1,Fc,(by rw [hF2,endB_2]),(by rw [hF2,hL];exact RK.abs_end (r:=(⟨r.in_,r.now,r.valid,r.begun,r.nonce,r.km,r.kept,r.marked,r.d,rw1,r.size,r.c,r.sure,r.bytes,r.broken⟩:RK)) (room:=room) (L:=L) (z:=(healB r.rd.abs).2)),hkm,⟨rfl,rfl⟩,(by rw [hF2,hL];exact ⟨(ok.n2.n1).k2.e1,hnw1⟩)⟩⟩
   refine .skip<|.end<|?_;have ok:=Hp.bcls (p:=p) (kept:=r.kept) (ok.n2.n2);refine ⟨rw1,Ew1,⟨rfl,rfl,trivial⟩,ok.n2.n1.n2,(by rw [if_pos (show (r.abs room L).begun=true from C2)];exact haw1),(by rintro ⟨_,h⟩;exact h (Int.natCast_eq_zero.1 (Decidable.not_not.1 C3))),hnw1⟩
  refine .skip<|.end<|?_;have ok:=Hp.bcls (p:=p) (kept:=r.kept) (ok);refine ⟨r.rd,E,⟨rfl,rfl,trivial⟩,ok.n2.n1.n2,(by rw [if_neg (show ¬(r.abs room L).begun=true from (show ¬r.begun=true by simpa using C2))];rfl),(by rintro ⟨h,_⟩;exact absurd h (show ¬r.begun=true by simpa using C2)),(fun _ h=>Or.inl h)⟩
 rintro s η8 ⟨rdj,Ej,hs,ok,haj,hej,hnj⟩;refine .frame hs fun τ=>?_;refine .seq<|?_;have ok:=(ok.n1).bopn;refine .r<|.z .mvP<|.z .nil<|.z (.fa T.fd136_3)<|.z (.ldx T.ag109 ok.m0)<|.c' 34 .func (ldropa_any (ok.n4).m0) ?_;rintro _ η9 ⟨Fd1,rfl,q⟩;have ok:=(ok.n4).lift1 q;refine .nil ?_;refine .seq<|.t 12 mixed ?_;simp only [List.take_succ_cons,List.take_zero,List.drop_succ_cons,List.drop_zero];refine .z .mvP<|.z .mvP<|.z .nil<|.z (.fa T.fd136_4)<|.z (.ldx T.ag3 ok.m1)<|.z .mvP<|.z .nil<|.z (.fa T.fd136_2)<|.z (.ldx T.ag3 ok.m1)<|.z .mulI<|.z .nil<|.z (.fa T.fd136_5)<|.nil ?_;refine .ur' (.stI T.sz3 ok.n1) ?_;rintro η10 ⟨ok,cg⟩;refine .nil ?_;refine .seq<|.r<|.z .mvP<|.z (.bd #[.bool false,.int .i64 0,.int .i64 0,.bool false,.int .u64 0,.map none,.int .i64 0] T.zr134 T.pl134 rfl)<|.z .nil<|.z (.fa T.fd136_0)<|.ur' (.stA (vs:=[.bool false,.int .i64 0,.int .i64 0,.bool false,.int .u64 0,.map none,.int .i64 0]) T.sz134 ok (oneL rfl)) ?_;rintro η11 ⟨ok,cg⟩;refine .nil ?_;refine .seq<|.r<|.ur' (.stI T.sz34 ok.n4) ?_;rintro η12 ⟨ok,cg⟩;refine .nil ?_;refine .ret ⟨_,_,_,rfl,(end_any (p:=p) (q:=pb1) (r:=(⟨false,0,0,false,0,none,[],0,r.d,rdj,r.size,r.c,r.sure,(r.sure*r.size),r.broken⟩:RK)) (z:=0) (ok.n1).loc0 (ok.n1).m1),?_⟩;rintro _ η13 ⟨rfl,q⟩;have ok:=(ok.n1).lift1 q;have ok:=ok.kepNil (kept:=[]);have ok:=Hp.bcls (p:=p) (kept:=[]) (ok.n5.n1.n2);have hF:=rollb_4 (A:=r.abs room L) hbr hin hej haj;refine ⟨.int .i64 0,Res.many (vs:=[.int .i64 0]) rfl ⟨⟨_,rfl,load_1 T.ag34 ok.m1⟩,trivial⟩ rfl,⟨(⟨false,0,0,false,0,none,[],0,r.d,rdj,r.size,r.c,r.sure,(r.sure*r.size),(endK 0 r.broken)⟩:RK),Ej,Fd1,(by rw [hF]<;>rfl),(by rw [hF];show RK.abs _ _ _=_;simp only [RK.abs]<;>rfl),(by intro h;cases h),⟨rfl,rfl⟩,(by rw [hF];exact ⟨(ok.n2.n1).k2.e1,hnj⟩)⟩⟩
section
variable {d:Dk} {z room:Int}
theorem bopn_1 (h:okZ z=false):openB d z room=(d,0,1):=if_pos h
variable (h:okZ z=true)
include h
theorem bopn_2 (h1:¬(1≤room∧room≤1048576)):openB d z room=(d,0,1):=(if_neg (by simp [h])).trans (if_pos h1)
variable (h1:1≤room∧room≤1048576)
include h1
theorem bopn_3 (h2:d.dark=true):openB d z room=(d,0,13):=(if_neg (by simp [h])).trans ((if_neg (fun g=>g h1)).trans (if_pos h2))
variable (h2:d.dark=false)
include h2
theorem bopn_4 (h3:(healB d).2≠0):openB d z room=((healB d).1,0,(healB d).2):=(if_neg (by simp [h])).trans ((if_neg (fun g=>g h1)).trans ((if_neg (by simp [h2])).trans (if_pos h3)))
theorem bopn_5 (h3:(healB d).2=0):openB d z room=((healB d).1,lookB (healB d).1 z.toNat):=(if_neg (by simp [h])).trans ((if_neg (fun g=>g h1)).trans ((if_neg (by simp [h2])).trans (if_neg (by simp [h3]))))
end
theorem look_le {d:Dk} {z:Nat} (k:DkOk d) (hz:256≤z):(lookB d z).1≤16777216:=by
 have:=sizeN_lt (n:=nT) k;unfold lookB
 repeat' split
 all_goals simp only
 all_goals omega
theorem lcnew_any {h:Heap} {room:Int} : HC Tryz.prog 69 #[.int .i64 room] h (fun v h'=>(¬(1≤room∧room≤1048576)∧v=.tuple #[.pointer none,.int .i64 1]∧Ext h h')∨
  ((1≤room∧room≤1048576)∧∃c F,v=.tuple #[.pointer (some ⟨c,0,none⟩),.int .i64 0]∧Ext h h'∧(cacL c F room []).p h'∧∀j,F j→Nw h h' j)):=
 (cnew_any (h:=h) (room:=room)).mono fun v h' q=>q.imp (fun ⟨h1,h2,h3⟩=>⟨h1,h2,by rw [h3];exact Ext.refl _⟩) fun ⟨h1,p,F,hv,hr,hx,hn⟩=>⟨h1,p,F,hv,hx,hr,fun j hj=>⟨hn j hj,hr.lt j hj⟩⟩
def openedB (d:Dk) (z:Nat) (room:Int) (n:Nat):Bk:=⟨d,z,room,[],false,0,0,false,0,[],0,n / z,n,false⟩
theorem bopen_any {h:Heap} {d:Nat} {z room:Int} {r:RD} {E:Nat→Prop} (ok:Hp h (dskI d r).F [dskI d r] [bysI E r.fs] h) (hk:DkOk r.abs) (hcg:r.chg<300000000) (hz : -9223372036854775808≤z∧z≤9223372036854775807) :
  HC Tryz.prog 26 #[.pointer (some ⟨d,0,none⟩),.int .i64 z,.int .i64 room] h (fun v h'=>(∃r' E',(openB r.abs z room).2.2≠0∧v=.tuple #[.pointer none,.int .i64 ((openB r.abs z room).2.2:Int)]∧r'.abs=(openB r.abs z room).1∧DUp h h' d r r' E E')∨(∃p rk E' Fc,(openB r.abs z room).2.2=0∧v=.tuple #[.pointer (some ⟨p,0,none⟩),.int .i64 0]∧rk.abs room []=openedB (openB r.abs z room).1 z.toNat room (openB r.abs z room).2.1∧(rk.d=d∧rk.in_=false)∧Hp h (dskI d r).F [corI p rk,cacL rk.c Fc room []] [bysI E' rk.rd.fs] h'∧∀j,E' j→E j∨h.size≤j)):=by
 refine HC.go Tryz.func26 62 ?_;refine .seq<|.r<|.z .asP<|.z .asI<|.nil ?_;refine .seq<|.block fun K0 hK0=>.seq<|.r<|.z .mvP<|.z (.pEqS T.pt30)<|.z .asB<|.nil ?_;refine .cf<|.seq<|.r<|.z .mvI<|.z .lss<|.z .mvB<|.sd (fun G18=>?_) (fun G18=>?_)
 ·
  have hzf:okZ z=false:=decide_eq_false (by omega);refine .y<|.y<|.z .pkt<|.z .mvB<|.y<|.y<|.y<|.y<|.y<|.z .pkt<|.z .asB<|.nil ?_;refine .ct<|.seq<|.r<|.z .asP<|.z .asI<|.nil ?_;have hF:=bopn_1 (d:=r.abs) (room:=room) hzf;refine .ret ⟨.tuple #[.pointer none,.int .i64 1],Res.two rfl rfl rfl,.inl ⟨r,E,by rw [hF];first | omega | (simp only;omega),(by rw [hF]<;>rfl),(by rw [hF]),((ok).k1.e1).up (fun _ h=>Or.inl h)⟩⟩
 refine .z .mvI<|.z .gtr<|.z .pkf<|.z .mvB<|.sd (fun G22=>?_) (fun G22=>?_)
 ·
  have hzf:okZ z=false:=decide_eq_false (by omega);refine .y<|.y<|.y<|.y<|.y<|.z .pkt<|.z .asB<|.nil ?_;refine .ct<|.seq<|.r<|.z .asP<|.z .asI<|.nil ?_;have hF:=bopn_1 (d:=r.abs) (room:=room) hzf;refine .ret ⟨.tuple #[.pointer none,.int .i64 1],Res.two rfl rfl rfl,.inl ⟨r,E,by rw [hF];first | omega | (simp only;omega),(by rw [hF]<;>rfl),(by rw [hF]),((ok).k1.e1).up (fun _ h=>Or.inl h)⟩⟩
 obtain ⟨q,rfl⟩:∃q:Nat,z=(q:Int):=⟨z.toNat,by omega⟩;have hq:=and_pow q (by omega) (by omega);refine .z .mvI<|.z .mvI<|.z .sub<|.z (.bandI q (q-1))<|.z .neq<|.z .pkf<|.z .asB<|.nil ?_;refine .cd (fun C1=>?_) (fun C1=>?_)
 ·
  have hzf:okZ (q:Int)=false:=decide_eq_false (by omega);refine .seq<|.r<|.z .asP<|.z .asI<|.nil ?_;have hF:=bopn_1 (d:=r.abs) (room:=room) hzf;refine .ret ⟨.tuple #[.pointer none,.int .i64 1],Res.two rfl rfl rfl,.inl ⟨r,E,by rw [hF];first | omega | (simp only;omega),(by rw [hF]<;>rfl),(by rw [hF]),((ok).k1.e1).up (fun _ h=>Or.inl h)⟩⟩
 have hzt:okZ (q:Int)=true:=decide_eq_true (by omega);have hqz:=okZ_le hzt;refine .skip<|.end<|hK0 _ _<|.seq<|.r<|.z .mvI<|.c' 31 .func (lcnew_any (room:=room)) ?_;rintro _ η1 (⟨hrm,rfl,hx⟩ | ⟨hrm,cc1,cF1,rfl,hx,hcac,hnw⟩)
 ·
  have ok:=ok.ext hx;refine .z .mvU<|.z .ex<|.z .ex<|.z .asP<|.z .asI<|.nil ?_;refine .seq<|.seq<|.r<|.z .mvI<|.z .neq<|.nil ?_;refine .ct<|.seq<|.r<|.z .mvI<|.z .asP<|.z .asI<|.nil ?_;have hF:=bopn_2 (d:=r.abs) hzt hrm;refine .ret ⟨.tuple #[.pointer none,.int .i64 1],Res.two rfl rfl rfl,.inl ⟨r,E,by rw [hF];first | omega | (simp only;omega),(by rw [hF]<;>rfl),(by rw [hF]),((ok).k1.e1).up (fun _ h=>Or.inl h)⟩⟩
 have ok:=ok.newM hx (cacL cc1 cF1 room []) hcac hnw;refine .z .mvU<|.z .ex<|.z .ex<|.z .asP<|.z .asI<|.nil ?_;refine .seq<|.seq<|.r<|.z .mvI<|.z .neq<|.nil ?_;refine .cf<|.skip<|.seq<|.seq<|.r<|.z .mvP<|.k 38 .func (dark_any (d:=d) (r:=r) (dsk_parts (ok.m1)).1)<|.nil ?_;refine .cond (fun C3=>?_) (fun C3=>?_)
 ·
  refine .seq<|.r<|.z .asP<|.z .asI<|.nil ?_;have hF:=bopn_3 (d:=r.abs) hzt hrm C3;refine .ret ⟨.tuple #[.pointer none,.int .i64 13],Res.two rfl rfl rfl,.inl ⟨r,E,by rw [hF];first | omega | (simp only;omega),(by rw [hF]<;>rfl),(by rw [hF]),((ok.n1).k1.e1).up (fun _ h=>Or.inl h)⟩⟩
 refine .skip<|.seq<|.seq<|.r<|.z .mvP<|.c' 40 .func (heal_any (d:=d) (r:=r) (E:=E) (ok.n1).loc1 hk (by omega)) ?_;rintro _ η2 ⟨rw1,Ew1,rfl,haw1,upw1⟩;have hzw1:=(ok).chg.size;have ok:=(ok.n1).dsk (d:=d) (r:=r) upw1;have hkw1:DkOk rw1.abs:=by rw [haw1];exact (hk).heal
 have hcw1:rw1.chg≤r.chg+17000000:=Int.le_trans (Int.le_of_eq (congrArg Dk.chg haw1)) (heal_chg hk);have hnw1:=fun j hj=>(upw1.new j hj).elim ((fun _ h=>Or.inl h) j) fun h1=>Or.inr (Nat.le_trans hzw1 h1);refine .z .asI<|.nil ?_;refine .seq<|.r<|.z .mvI<|.z .neq<|.nil ?_;refine .cd (fun C4=>?_) (fun C4=>?_)
 ·
  refine .seq<|.r<|.z .mvI<|.z .asP<|.z .asI<|.nil ?_;have hF:=bopn_4 (d:=r.abs) hzt hrm (show r.abs.dark=false from (show r.dark=false by simpa using C3)) (fun h=>C4 (Int.natCast_eq_zero.2 h));refine .ret ⟨.tuple #[.pointer none,.int .i64 ((healB r.abs).2:Int)],Res.two rfl rfl rfl,.inl ⟨rw1,Ew1,by rw [hF];first | omega | (simp only;omega),(by rw [hF]<;>rfl),(by rw [hF];exact haw1),((ok).k1.e1).up hnw1⟩⟩
 refine .skip<|.seq<|.r<|.z .mvP<|.z .mvI<|.c' 47 .func (blook_any (d:=d) (n:=q) (r:=rw1) (E:=Ew1) ((ok).rdo) hkw1 ⟨by omega,by omega⟩) ?_;rintro _ η3 ⟨rfl,hx⟩;have ok:=ok.ext hx;refine .z .mvU<|.z .ex<|.z .ex<|.z .asI<|.z .asI<|.nil ?_;refine .seq<|.seq<|.r<|.z .mvI<|.z .neq<|.nil ?_;refine .cd (fun C5=>?_) (fun C5=>?_)
 ·
  refine .seq<|.r<|.z .mvI<|.z .asP<|.z .asI<|.nil ?_;have hF:=bopn_5 (d:=r.abs) hzt hrm (show r.abs.dark=false from (show r.dark=false by simpa using C3)) (Int.natCast_eq_zero.1 (Decidable.not_not.1 C4));rw [←haw1,Int.toNat_natCast] at hF;refine .ret ⟨.tuple #[.pointer none,.int .i64 (((lookB rw1.abs q).2:Nat):Int)],Res.two rfl rfl rfl,.inl ⟨rw1,Ew1,by rw [hF];first | omega | (simp only;omega),(by rw [hF]<;>rfl),(by rw [hF]),((ok).k1.e1).up hnw1⟩⟩
 refine .skip<|.seq<|?_;have hl0:(lookB rw1.abs q).2=0:=Int.natCast_eq_zero.1 (Decidable.not_not.1 C5);have hll:=look_le (d:=rw1.abs) (z:=q) hkw1 (by omega);refine .r<|.z .mvP<|.z .mvI<|.z .mvP<|.z .mvI<|.z .mvI<|.z (.quoI (a:=(lookB rw1.abs q).1) (b:=q))<|.z .mvI<|.z (.bd #[.bool false,.int .i64 0,.int .i64 0,.bool false,.int .u64 0,.map none,.int .i64 0,.pointer (some ⟨d,0,none⟩),.int .i64 (q:Int),.pointer (some ⟨cc1,0,none⟩),.int .i64 (((lookB rw1.abs q).1 / q:Nat):Int),.int .i64 (((lookB rw1.abs q).1:Nat):Int),.bool false] T.zr136 T.pl136 (by kernel_rfl))<|.a' 61 (.bxA (cs:=[.bool false,.int .i64 0,.int .i64 0,.bool false,.int .u64 0,.map none,.int .i64 0,.pointer (some ⟨d,0,none⟩),.int .i64 (q:Int),.pointer (some ⟨cc1,0,none⟩),.int .i64 (((lookB rw1.abs q).1 / q:Nat):Int),.int .i64 (((lookB rw1.abs q).1:Nat):Int),.bool false]) ok) ?_;rintro _ η4 ⟨pb1,rfl,ok,xe⟩;refine .z .asP<|.z .asI<|.nil ?_;have hF:=bopn_5 (d:=r.abs) hzt hrm (show r.abs.dark=false from (show r.dark=false by simpa using C3)) (Int.natCast_eq_zero.1 (Decidable.not_not.1 C4));rw [←haw1,Int.toNat_natCast] at hF;have ok:=ok.kepNil (kept:=[]);have ok:=Hp.bcls (p:=pb1) (kept:=[]) (ok.n2.n1.n2);refine .ret ⟨.tuple #[.pointer (some ⟨pb1,0,none⟩),.int .i64 0],Res.two rfl rfl rfl,.inr ⟨pb1,(⟨false,0,0,false,0,none,[],0,d,rw1,q,cc1,((lookB rw1.abs q).1 / q),(lookB rw1.abs q).1,false⟩:RK),Ew1,cF1,by rw [hF];exact hl0,rfl,(by rw [hF];show RK.abs _ _ _=_;simp only [RK.abs,openedB,Int.toNat_natCast]),⟨rfl,rfl⟩,(ok).k2.e1,hnw1⟩⟩
theorem bopenNil_any {h:Heap} {z room:Int} :
  HC Tryz.prog 26 #[.pointer none,.int .i64 z,.int .i64 room] h (fun v h'=>v=.tuple #[.pointer none,.int .i64 2]∧h'=h):=by
 refine HC.go Tryz.func26 62 ?_;refine .seq<|.r<|.z .asP<|.z .asI<|.nil ?_;refine .seq<|.block fun K0 hK0=>.seq<|.r<|.z .mvP<|.z (.pEqN T.pt30)<|.z .asB<|.nil ?_;refine .ct<|.seq<|.r<|.z .asP<|.z .asI<|.nil ?_;refine .ret ⟨.tuple #[.pointer none,.int .i64 2],Res.two rfl rfl rfl,⟨rfl,rfl⟩⟩
open Go Go.HL
structure BPl (A:Bk):Prop where
 ok:DkOk A.dk
 O:A.broken=false→∃s P,Rl A s P
section
variable {A:Bk}
theorem BPl.bad {A':Bk} (k:DkOk A'.dk) (h:A'.broken=true):BPl A':=⟨k,fun h2=>by rw [h] at h2;cases h2⟩
theorem BPl.res {r:Bk × Nat} {G:Bk→Prop} {B:Dk→Prop} (h:ResC A r G B) (k:DkOk r.1.dk) (hG:∀A',G A'→∃s P,Rl A' s P):BPl r.1:=by
 rcases h with ⟨_,_,g⟩ | ⟨_,b,_⟩
 ·exact ⟨k,fun _=>hG _ g⟩
 ·exact .bad k b
theorem end_dk {a:Bk × Nat} : (endB a).1.dk=a.1.dk:=by unfold endB;split<;>rfl
theorem put_dk {s P:List (List UInt8)} {no:Nat} {b:List UInt8} {d:Bool} (R:Rl A s P) (h1:1≤no) (k:DkOk A.dk):DkOk (putB A no b d).1.dk∧(putB A no b d).1.dk.chg≤A.dk.chg+10:=by
 have h:=flush_dk (A:={ A with L:=putL A.room no b d A.L }) (l:=putA A.room no b d A.L) k;have:=(R.putA (b:=b) (d:=d) h1).1;exact ⟨h.1,Int.le_trans h.2 (by show A.dk.chg+9+_≤_;omega)⟩
theorem getB_dk {no:Nat} : (getB A no).1.dk=A.dk:=rfl
variable (P:BPl A)
include P
theorem BPl.begin:BPl (beginB A).1∧(beginB A).1.dk=A.dk:=by
 by_cases hb:A.broken=true
 ·have e:beginB A=(A,13):=if_pos hb;rw [e];exact ⟨P,rfl⟩
 by_cases hi:A.in_=true
 ·have e:beginB A=(A,10):=by unfold beginB;rw [if_neg hb,if_pos hi]
  rw [e];exact ⟨P,rfl⟩
 ·obtain ⟨s,Q,R⟩:=P.O (by simpa using hb);obtain ⟨e,R2⟩:=R.begin (by simpa using hi);rw [e];exact ⟨⟨P.ok,fun _=>⟨s,s,R2⟩⟩,rfl⟩
theorem BPl.resize {n:Int} : BPl (resizeB A n).1∧(resizeB A n).1.dk=A.dk:=by
 unfold resizeB;by_cases hb:A.broken=true
 ·rw [if_pos hb];exact ⟨P,rfl⟩
 rw [if_neg hb];by_cases hi:A.in_=false
 ·rw [if_pos hi];exact ⟨P,rfl⟩
 rw [if_neg hi];by_cases h0:n<0
 ·rw [if_pos h0];exact ⟨P,rfl⟩
 rw [if_neg h0];by_cases h1:1048576<n∨(mostB A.size:Int)<n
 ·rw [if_pos h1];exact ⟨P,rfl⟩
 rw [if_neg h1];obtain ⟨s,Q,R⟩:=P.O (by simpa using hb);obtain ⟨n,rfl⟩:∃m:Nat,n=(m:Int):=⟨n.toNat,by omega⟩;exact ⟨⟨P.ok,fun _=>⟨s,_,R.resize (by simpa using hi) (n:=n) (by omega) (by omega)⟩⟩,rfl⟩
theorem BPl.read {no:Int} : BPl (readB A no).1∧(readB A no).1.dk.chg≤A.dk.chg+10:=by
 by_cases hb:A.broken=true
 ·have e:readB A no=(A,[],13):=if_pos hb;rw [e];exact ⟨P,by show A.dk.chg≤_;omega⟩
 obtain ⟨s,Q,R⟩:=P.O (by simpa using hb);have hp:=R.pres;by_cases h1:no<1∨(presB A:Int)<no
 ·have e:readB A no=(A,[],1):=by unfold readB;rw [if_neg hb,if_pos h1]
  rw [e];exact ⟨P,by show A.dk.chg≤_;omega⟩
 obtain ⟨n,rfl⟩:∃m:Nat,no=(m:Int):=⟨no.toNat,by omega⟩;have hr:=R.read (no:=n) (by omega) (by omega);have hg:=R.get (no:=n) (by omega) (by omega);have e:(readB A (n:Int)).1=(endB (putB (getB A n).1 n (getB A n).2.1 false)).1:=by
  unfold readB;rw [if_neg hb,if_neg h1];simp only [Int.toNat_natCast];rw [if_neg (by rw [hg.1];simp)]
 have k:=put_dk (b:=(getB A n).2.1) (d:=false) (no:=n) hg.2 (by omega) (by rw [getB_dk];exact P.ok);have e2:(readB A (n:Int)).1.dk=(putB (getB A n).1 n (getB A n).2.1 false).1.dk:=by rw [e,end_dk]
 exact ⟨.res hr (by show DkOk (readB A (n:Int)).1.dk;rw [e2];exact k.1) fun A' h=>⟨s,Q,h.1⟩,by rw [e2];exact k.2⟩
theorem BPl.write {no:Int} {b:List UInt8} : BPl (writeB A no b).1∧(writeB A no b).1.dk.chg≤A.dk.chg+10:=by
 by_cases hb:A.broken=true
 ·have e:writeB A no b=(A,13):=if_pos hb;rw [e];exact ⟨P,by show A.dk.chg≤_;omega⟩
 by_cases hi:A.in_=false
 ·have e:writeB A no b=(A,10):=by unfold writeB;rw [if_neg hb,if_pos hi]
  rw [e];exact ⟨P,by show A.dk.chg≤_;omega⟩
 by_cases h1:no<1∨(A.now:Int)<no∨b.length≠A.size
 ·have e:writeB A no b=(A,1):=by unfold writeB;rw [if_neg hb,if_neg hi,if_pos h1]
  rw [e];exact ⟨P,by show A.dk.chg≤_;omega⟩
 obtain ⟨s,Q,R⟩:=P.O (by simpa using hb);have hp:=R.pres;have hi':A.in_=true:=by simpa using hi
 unfold presB at hp;rw [if_pos hi'] at hp;obtain ⟨n,rfl⟩:∃m:Nat,no=(m:Int):=⟨no.toNat,by omega⟩;have hr:=R.write hi' (no:=n) (b:=b) (by omega) (by omega) (by omega);have hg:=R.get (no:=n) (by omega) (by omega);have e2:(writeB A (n:Int) b).1.dk=(if (getB A n).2.2≠0∨(getB A n).2.1=b then ((getB A n).1,(getB A n).2.2) else putB (getB A n).1 n b true).1.dk:=by
  unfold writeB;rw [if_neg hb,if_neg hi,if_neg h1];simp only [Int.toNat_natCast];rw [end_dk]
 have k:=put_dk (b:=b) (d:=true) (no:=n) hg.2 (by omega) (by rw [getB_dk];exact P.ok);have k2:DkOk (writeB A (n:Int) b).1.dk∧(writeB A (n:Int) b).1.dk.chg≤A.dk.chg+10:=by
  rw [e2];split
  ·exact ⟨P.ok,by show A.dk.chg≤_;omega⟩
  ·exact k
 exact ⟨.res hr k2.1 fun A' h=>⟨s,_,h⟩,k2.2⟩
theorem BPl.commit:BPl (commitB A).1∧(commitB A).1.dk.chg≤A.dk.chg+1100000:=by
 by_cases hb:A.broken=true
 ·have e:commitB A=(A,13):=if_pos hb;rw [e];exact ⟨P,by show A.dk.chg≤_;omega⟩
 by_cases hi:A.in_=false
 ·have e:commitB A=(A,10):=by unfold commitB;rw [if_neg hb,if_pos hi]
  rw [e];exact ⟨P,by show A.dk.chg≤_;omega⟩
 have hi':A.in_=true:=by simpa using hi
 obtain ⟨s,Q,R⟩:=P.O (by simpa using hb);have hLL:∀ {B:Bk} {Q:List (List UInt8)},Rl B s Q→B.L.length≤1048576:=fun R=>by
  obtain ⟨_,_,p⟩:=R.kp;have:=p.rm;omega
 have done:∀a:Bk × Nat,(thenB a fun B=>(doneB B,0)).1.dk=a.1.dk:=fun a=>by unfold thenB;split<;>rfl
 by_cases h0:Q≠[]∧hdOk (Q.getD 0 []) A.size=false
 ·obtain ⟨e,R2⟩:=R.commit8 hi' h0.1 h0.2;rw [e];exact ⟨⟨P.ok,fun _=>⟨s,Q,R2⟩⟩,by show A.dk.chg≤_;omega⟩
 have hr:=R.commit hi' fun h=>by
  cases h9:hdOk (Q.getD 0 []) A.size
  ·exact absurd ⟨h,h9⟩ h0
  ·rfl
 have k2:DkOk (commitB A).1.dk∧(commitB A).1.dk.chg≤A.dk.chg+1100000:=by
  unfold commitB;rw [if_neg hb,if_neg hi,end_dk];by_cases hn:A.now=0
  ·rw [if_pos hn,done];have:=lay_dk P.ok;have h2:=hLL R;exact ⟨this.1,by omega⟩
  ·rw [if_neg hn];have hg:=R.get (no:=1) (by omega) (by have:=R.pres;unfold presB at this;rw [if_pos hi'] at this;omega);have:=lay_dk (A:=(getB A 1).1) P.ok;have h2:=hLL hg.2;have h3:(getB A 1).1.dk.chg=A.dk.chg:=rfl;simp only;split
   ·exact ⟨P.ok,by show A.dk.chg≤_;omega⟩
   ·split
    ·exact ⟨P.ok,by show A.dk.chg≤_;omega⟩
    ·rw [done];exact ⟨this.1,by omega⟩
 exact ⟨.res hr k2.1 fun A' h=>⟨Q,Q,h⟩,k2.2⟩
end
structure BgP (h:Heap) (p d:Nat) (F:Nat→Prop) (A:Bk) (r:RK) (E Fc:Nat→Prop):Prop where
 co:(corI p r).p h
 ca:(cacL r.c Fc A.room A.L).p h
 b:Bys h E r.rd.fs
 f:∀j,(corI p r).F j→F j
 g:∀j,Fc j→F j
 e:∀j,E j→F j
 nc:∀j,(corI p r).F j→¬Fc j
 ne:∀j,(corI p r).F j→¬E j
 nf:∀j,Fc j→¬E j
 a:r.abs A.room A.L=A
 km:r.in_=true→∃m,r.km=some m
 P:BPl A
 d:r.d=d
@[reducible] def bgI (p d:Nat) (F:Nat→Prop) (A:Bk):Itm:=⟨fun h=>∃r E Fc,BgP h p d F A r E Fc,F,fun _ _ _ c g ⟨r,E,Fc,q⟩=>⟨r,E,Fc,(corI p r).st _ _ _ c (fun j hj=>g j (q.f j hj)) q.co,(cacL r.c Fc A.room A.L).st _ _ _ c (fun j hj=>g j (q.g j hj)) q.ca,(bysI E r.rd.fs).st _ _ _ c (fun j hj=>g j (q.e j hj)) q.b,q.f,q.g,q.e,q.nc,q.ne,q.nf,q.a,q.km,q.P,q.d⟩⟩
section
variable {h h':Heap} {d p:Nat} {F G E E' Fc Fc':Nat→Prop} {A A':Bk} {r r':RK}
theorem bg_pl (ok:(bgI p d F A).p h):BPl A:=let ⟨_,_,_,q⟩:=ok;q.P
theorem bg_open {M:List Itm} (ok:Hp h F [bgI p d F A] M h):∃r E Fc,r.abs A.room A.L=A∧(r.in_=true→∃m,r.km=some m)∧r.d=d∧Hp h (lgF p r Fc) [corI p r,cacL r.c Fc A.room A.L] [bysI E r.rd.fs] h∧(∀j,lgF p r Fc j→F j)∧∀j,E j→F j:=by
 obtain ⟨r,E,Fc,q⟩:=ok.m0;have hl:=(ok.m (bgI p d F A) (by simp)).2;refine ⟨r,E,Fc,q.a,q.km,q.d,⟨Chg.refl _ _,fun i hi=>?_,fun i hi=>by rw [List.mem_singleton.1 hi];exact ⟨q.b,fun j hj=>(hl j (q.e j hj)).1⟩,?_,fun a ha b hb=>?_⟩,fun j hj=>hj.elim (q.f j) (q.g j),q.e⟩
 ·rcases List.mem_cons.1 hi with rfl | hi
  ·exact ⟨q.co,fun j hj=>⟨(hl j (q.f j hj)).1,.inl (.inl hj)⟩⟩
  ·rw [List.mem_singleton.1 hi];exact ⟨q.ca,fun j hj=>⟨(hl j (q.g j hj)).1,.inl (.inr hj)⟩⟩
 ·exact List.pairwise_cons.2 ⟨fun b hb=>by rw [List.mem_singleton.1 hb];exact q.nc,List.pairwise_singleton _ _⟩
 ·rw [List.mem_singleton.1 hb];rcases List.mem_cons.1 ha with rfl | ha
  ·exact q.ne
  ·rw [List.mem_singleton.1 ha];exact q.nf
theorem bg_close {M:List Itm} (q:Hp h G (corI p r'::cacL r'.c Fc' A'.room A'.L::M) [bysI E' r'.rd.fs] h') (hG:∀j,G j→F j) (hE:∀j,E' j→F j∨h.size≤j) (ha:r'.abs A'.room A'.L=A') (hkm:r'.in_=true→∃m,r'.km=some m) (P:BPl A') (hd:r'.d=d):Hp h F (bgI p d (fun j=>(corI p r').F j∨Fc' j∨E' j) A'::M) [] h':=by
 have hm:=List.pairwise_cons.1 q.mm;have hm2:=List.pairwise_cons.1 hm.2;refine ⟨q.chg.mono fun j _=>hG j,fun i hi=>?_,by simp,List.pairwise_cons.2 ⟨fun b hb j hj hb2=>?_,hm2.2⟩,by simp⟩
 ·rcases List.mem_cons.1 hi with rfl | hi
  ·refine ⟨⟨r',E',Fc',q.m0,q.m1,q.r0,fun j hj=>.inl hj,fun j hj=>.inr (.inl hj),fun j hj=>.inr (.inr hj),hm.1 (cacL r'.c Fc' A'.room A'.L) (by simp),q.mr (corI p r') (by simp) (bysI E' r'.rd.fs) (by simp),q.mr (cacL r'.c Fc' A'.room A'.L) (by simp) (bysI E' r'.rd.fs) (by simp),ha,hkm,P,hd⟩,fun j hj=>?_⟩;rcases hj with hj | hj | hj
   ·have:=(q.m _ List.mem_cons_self).2 j hj;exact ⟨this.1,this.2.imp (hG j) id⟩
   ·have:=(q.m (cacL r'.c Fc' A'.room A'.L) (by simp)).2 j hj;exact ⟨this.1,this.2.imp (hG j) id⟩
   ·exact ⟨(q.r _ List.mem_cons_self).2 j hj,hE j hj⟩
  ·have:=q.m i (List.mem_cons_of_mem _ (List.mem_cons_of_mem _ hi));exact ⟨this.1,fun j hj=>⟨(this.2 j hj).1,(this.2 j hj).2.imp (hG j) id⟩⟩
 ·rcases hj with hj | hj | hj
  ·exact hm.1 b (List.mem_cons_of_mem _ hb) j hj hb2
  ·exact hm2.1 b hb j hj hb2
  ·exact q.mr b (List.mem_cons_of_mem _ (List.mem_cons_of_mem _ hb)) _ List.mem_cons_self j hb2 hj
theorem bg_up {v:Value} {a:Bk × Nat} (q:∃r' E' Fc',v=.int .i64 (a.2:Int)∧r'.abs A.room a.1.L=a.1∧(r'.in_=true→∃m,r'.km=some m)∧(r'.d=r.d∧r'.c=r.c)∧LUp h h' p r r' Fc Fc' A.room a.1.L E E') (hf:∀j,lgF p r Fc j→F j) (he:∀j,E j→F j) (P:BPl a.1) (hd:r.d=d):∃F',v=.int .i64 (a.2:Int)∧Hp h F [bgI p d F' a.1] [] h':=by
 obtain ⟨r',E',Fc',hv,ha,hkm,hdc,up⟩:=q;have hr:a.1.room=A.room:=(congrArg Bk.room ha).symm;have hp:=up.hp;rw [←hdc.2,←hr] at hp;exact ⟨_,hv,bg_close hp hf (fun j hj=>(up.new j hj).imp (he j) id) (by rw [hr];exact ha) hkm P (hdc.1.trans hd)⟩
theorem bg_dg (ok:(bgI p d F A).p h):(dgI d F A.dk).p h:=by
 obtain ⟨r,E,Fc,q⟩:=ok;have hF:∀j,(dskI d r.rd).F j→(corI p r).F j:=fun j hj=>cor_F.2 (.inr (.inr (by rw [q.d];exact hj)));refine ⟨r.rd,E,?_,q.b,fun j hj=>q.f j (hF j hj),q.e,fun j hj=>q.ne j (hF j hj),congrArg Bk.dk q.a⟩;have:=q.co.1 (dskI r.d r.rd) (by simp);rw [q.d] at this;exact this
theorem bg_dgo {M R:List Itm} {h0:Heap} {D:Nat→Prop} (ok:Hp h0 D (bgI p d F A::M) R h):Hp h0 D (dgI d F A.dk::M) R h:=ok.re _ (bg_dg ok.m0) fun _ x=>x
end
open Go Go.HL
section
variable {h h':Heap} {d p:Nat} {F:Nat→Prop} {A:Bk}
theorem gbbegin_any (ok:Hp h F [bgI p d F A] [] h) (hcg:A.dk.chg<300000000) :
  HC Tryz.prog 39 #[.pointer (some ⟨p,0,none⟩)] h (fun v h'=>∃F',v=.int .i64 ((beginB A).2:Int)∧Hp h F [bgI p d F' (beginB A).1] [] h'):=by
 have P:=bg_pl ok.m0;obtain ⟨r,E,Fc,ha,hkm,hd,o,hf,he⟩:=bg_open ok;refine (bbegin_any o (by rw [show r.rd.abs=A.dk from congrArg Bk.dk ha];exact P.ok) (by rw [show r.rd.chg=A.dk.chg from congrArg (fun a=>a.dk.chg) ha];exact hcg) hkm (fun hb=>by rw [ha];exact P.O (by rw [←show r.broken=A.broken from congrArg Bk.broken ha];exact hb))).mono fun v h' q=>?_;rw [ha] at q;exact bg_up q hf he P.begin.1 hd
theorem gbcommit_any (ok:Hp h F [bgI p d F A] [] h) (hcg:A.dk.chg<300000000) :
  HC Tryz.prog 40 #[.pointer (some ⟨p,0,none⟩)] h (fun v h'=>∃F',v=.int .i64 ((commitB A).2:Int)∧Hp h F [bgI p d F' (commitB A).1] [] h'):=by
 have P:=bg_pl ok.m0;obtain ⟨r,E,Fc,ha,hkm,hd,o,hf,he⟩:=bg_open ok;refine (bcommit_any o (by rw [show r.rd.abs=A.dk from congrArg Bk.dk ha];exact P.ok) (by rw [show r.rd.chg=A.dk.chg from congrArg (fun a=>a.dk.chg) ha];exact hcg) hkm (fun hb=>by rw [ha];exact P.O (by rw [←show r.broken=A.broken from congrArg Bk.broken ha];exact hb))).mono fun v h' q=>?_;rw [ha] at q;exact bg_up q hf he P.commit.1 hd
theorem gbresize_any {n:Int} (ok:Hp h F [bgI p d F A] [] h) (hcg:A.dk.chg<300000000) (hn : -9223372036854775808≤n∧n≤9223372036854775807) :
  HC Tryz.prog 83 #[.pointer (some ⟨p,0,none⟩),.int .i64 n] h (fun v h'=>∃F',v=.int .i64 ((resizeB A n).2:Int)∧Hp h F [bgI p d F' (resizeB A n).1] [] h'):=by
 have P:=bg_pl ok.m0;obtain ⟨r,E,Fc,ha,hkm,hd,o,hf,he⟩:=bg_open ok;refine (bresize_any o (by rw [show r.rd.abs=A.dk from congrArg Bk.dk ha];exact P.ok) (by rw [show r.rd.chg=A.dk.chg from congrArg (fun a=>a.dk.chg) ha];exact hcg) hkm (fun hb=>by rw [ha];exact P.O (by rw [←show r.broken=A.broken from congrArg Bk.broken ha];exact hb)) hn).mono fun v h' q=>?_;rw [ha] at q;exact bg_up q hf he P.resize.1 hd
theorem gbwrite_any {a:Option Addr} {c:Nat} {l:List UInt8} {no:Int} {F2 E2:Nat→Prop} (ok:Hp h F [bgI p d F A] [rdI F2 E2 (a,l.length,c) l] h) (hcg:A.dk.chg<300000000) :
  HC Tryz.prog 84 #[.pointer (some ⟨p,0,none⟩),.int .i64 no,.slice a l.length c] h (fun v h'=>∃F',v=.int .i64 ((writeB A no l).2:Int)∧Hp h F [bgI p d F' (writeB A no l).1] [] h'):=by
 have P:=bg_pl ok.m0;obtain ⟨r,E,Fc,ha,hkm,hd,o,hf,he⟩:=bg_open ok;have o2:Hp h (lgF p r Fc) [corI p r,cacL r.c Fc A.room A.L] [bysI E r.rd.fs,rdI F2 E2 (a,l.length,c) l] h:=⟨o.chg,o.m,fun i hi=>by
  rcases List.mem_cons.1 hi with rfl | hi
  ·exact o.r _ (by simp)
  ·exact ok.r i hi,o.mm,fun x hx b hb=>by
  rcases List.mem_cons.1 hb with rfl | hb
  ·exact o.mr x hx _ (by simp)
  ·rw [List.mem_singleton.1 hb];have hxF:∀j,x.F j→F j:=by
    rcases List.mem_cons.1 hx with rfl | hx
    ·exact fun j hj=>hf j (.inl hj)
    ·rw [List.mem_singleton.1 hx];exact fun j hj=>hf j (.inr hj)
   exact fun j hj=>ok.mr (bgI p d F A) (by simp) (rdI F2 E2 (a,l.length,c) l) (by simp) j (hxF j hj)⟩
 refine (bwrite_any o2 (by rw [show r.rd.abs=A.dk from congrArg Bk.dk ha];exact P.ok) (by rw [show r.rd.chg=A.dk.chg from congrArg (fun a=>a.dk.chg) ha];exact hcg) hkm (fun hb=>by rw [ha];exact P.O (by rw [←show r.broken=A.broken from congrArg Bk.broken ha];exact hb))).mono fun v h' q=>?_;rw [ha] at q;exact bg_up q hf he P.write.1 hd
theorem gbread_any {no:Int} (ok:Hp h F [bgI p d F A] [] h) (hcg:A.dk.chg<300000000) :
  HC Tryz.prog 43 #[.pointer (some ⟨p,0,none⟩),.int .i64 no] h (fun v h'=>∃F' a c,v=.tuple #[.slice a (readB A no).2.1.length c,.int .i64 ((readB A no).2.2:Int)]∧Hp h F [capI 1 5 (a,(readB A no).2.1.length,c) ((readB A no).2.1.map bv),bgI p d F' (readB A no).1] [] h'):=by
 have P:=bg_pl ok.m0;obtain ⟨r,E,Fc,ha,hkm,hd,o,hf,he⟩:=bg_open ok;refine (bread_any o (by rw [show r.rd.abs=A.dk from congrArg Bk.dk ha];exact P.ok) (by rw [show r.rd.chg=A.dk.chg from congrArg (fun a=>a.dk.chg) ha];exact hcg) hkm (fun hb=>by rw [ha];exact P.O (by rw [←show r.broken=A.broken from congrArg Bk.broken ha];exact hb))).mono fun v h' q=>?_;rw [ha] at q;obtain ⟨r',E',Fc',a,c,hv,ha',hkm',hdc,hp,hnew⟩:=q;have hr:(readB A no).1.room=A.room:=(congrArg Bk.room ha').symm;have hp2:=hp.n2.n2;rw [←hdc.2,←hr] at hp2;have hp3:=bg_close hp2 hf (fun j hj=>(hnew j hj).imp (he j) id) (by rw [hr];exact ha') hkm' P.read.1 (hdc.1.trans hd);exact ⟨_,a,c,hv,hp3.n1⟩
theorem bg_box (ok:(bgI p d F A).p h):∃r:RK,r.abs A.room A.L=A∧(bboxI p r).p h:=by
 obtain ⟨r,E,Fc,q⟩:=ok;exact ⟨r,q.a,q.co.1 (bboxI p r) (by simp)⟩
theorem gbPages_any (ok:(bgI p d F A).p h) :
  HC Tryz.prog 32 #[.pointer (some ⟨p,0,none⟩)] h (fun v h'=>v=.int .i64 ((if A.broken=true then 0 else presB A:Nat):Int)∧h'=h):=by
 obtain ⟨r,ha,hb⟩:=bg_box ok;have:=bPages_any hb;rw [show r.broken=A.broken from congrArg Bk.broken ha,show presK r=presB A from congrArg presB ha] at this;exact this
theorem gbopen_any {D:Dk} {z room:Int} (ok:Hp h F [dgI d F D] [] h) (hk:DkOk D) (hcg:D.chg<300000000) (hz : -9223372036854775808≤z∧z≤9223372036854775807) (hS:(openB D z room).2.2=0→DkOk (openB D z room).1∧∃s,Rl (openedB (openB D z room).1 z.toNat room (openB D z room).2.1) s s) :
  HC Tryz.prog 26 #[.pointer (some ⟨d,0,none⟩),.int .i64 z,.int .i64 room] h (fun v h'=>(∃F',(openB D z room).2.2≠0∧v=.tuple #[.pointer none,.int .i64 ((openB D z room).2.2:Int)]∧Hp h F [dgI d F' (openB D z room).1] [] h')∨
   (∃p F',(openB D z room).2.2=0∧v=.tuple #[.pointer (some ⟨p,0,none⟩),.int .i64 0]∧Hp h F [bgI p d F' (openedB (openB D z room).1 z.toNat room (openB D z room).2.1)] [] h')):=by
 obtain ⟨r,E,rfl,o,hf,he⟩:=dg_open ok;refine (bopen_any o hk hcg hz).mono fun v h' q=>?_;rcases q with ⟨r',E',e1,hv,ha,up⟩ | ⟨p,rk,E',Fc,e1,hv,ha,hdi,hp,hn⟩
 ·obtain ⟨F',q⟩:=dg_up up hf he;rw [ha] at q;exact .inl ⟨F',e1,hv,q⟩
 ·obtain ⟨hk2,s,R⟩:=hS e1;exact .inr ⟨p,_,e1,hv,bg_close (A':=openedB (openB r.abs z room).1 z.toNat room (openB r.abs z room).2.1) hp hf (fun j hj=>(hn j hj).imp (he j) id) ha (fun h9=>by rw [hdi.2] at h9;cases h9) ⟨hk2,fun _=>⟨s,s,R⟩⟩ hdi.1⟩
theorem gbopen0_any {D:Dk} {z room:Int} (ok:Hp h F [dgI d F D] [] h) (hk:DkOk D) (hcg:D.chg<300000000) (hz : -9223372036854775808≤z∧z≤9223372036854775807) (h0:(openB D z room).2.2=0) (hS:DkOk (openB D z room).1∧∃s,Rl (openedB (openB D z room).1 z.toNat room (openB D z room).2.1) s s) :
  HC Tryz.prog 26 #[.pointer (some ⟨d,0,none⟩),.int .i64 z,.int .i64 room] h (fun v h'=>∃p F',v=.tuple #[.pointer (some ⟨p,0,none⟩),.int .i64 0]∧Hp h F [bgI p d F' (openedB (openB D z room).1 z.toNat room (openB D z room).2.1)] [] h'):=
 (gbopen_any ok hk hcg hz (fun _=>hS)).mono fun v h' q=>q.elim (fun ⟨_,h1,_⟩=>absurd h0 h1) fun ⟨p,F',_,hv,hp⟩=>⟨p,F',hv,hp⟩
end
open Go Go.HL
theorem beginP_1 {w:WPg} (h:w.in_=true):beginP w=(w,10):=if_pos h
theorem beginP_2 {w:WPg} (h:¬w.in_=true):beginP w=({ w with in_:=true,now:=w.sure },0):=if_neg h
theorem rollbackP_1 {w:WPg} (h:w.in_=false):rollbackP w=(w,10):=if_pos h
theorem rollbackP_2 {w:WPg} (h:¬w.in_=false):rollbackP w=(⟨w.z,w.sure,[],false,w.fr⟩,0):=if_neg h
theorem writeP_1 {w:WPg} {no:Int} {b:List UInt8} (h:w.in_=false):writeP w no b=(w,10):=if_pos h
theorem writeP_2 {w:WPg} {no:Int} {b:List UInt8} (h:¬w.in_=false) (h2:no<1∨(w.now.length:Int)<no∨b.length≠w.z):writeP w no b=(w,1):=by unfold writeP;rw [if_neg h,if_pos h2]
theorem writeP_3 {w:WPg} {no:Int} {b:List UInt8} (h:¬w.in_=false) (h2:¬(no<1∨(w.now.length:Int)<no∨b.length≠w.z)):writeP w no b=({ w with now:=w.now.set (no-1).toNat b },0):=by unfold writeP;rw [if_neg h,if_neg h2]
theorem pgs_snoc {l:List RB} {x:RB} : pgs (l++[x])=pgs l++[x.l]:=List.map_append
theorem readP_1 {w:WPg} {no:Int} (h:no<1∨(w.pages.length:Int)<no):readP w no=([],1):=if_pos h
theorem readP_2 {w:WPg} {no:Int} (h:¬(no<1∨(w.pages.length:Int)<no)):readP w no=(w.pages.getD (no-1).toNat [],0):=if_neg h
theorem join_any {h:Heap} {F E:Nat→Prop} {x:SV} {L:List (List UInt8)} (hl:RdL h F E x L) (hN:L.flatten.length≤1000000000) :
  HC Tryz.prog 25 #[sv x] h (fun v h'=>Own h h' 1 5 v (L.flatten.map bv)):=by
 obtain ⟨a,c,rfl,hc1,hc2⟩:=hl.form;have ok:=(Hp.nil h none_).arg hl;refine HC.go Tryz.func25 32 ?_;refine .seq<|.r<|.z .asS<|.nil ?_;refine .seq<|.r<|.z .asS<|.nil ?_;refine .seq<|.seq<|?_;have ok:=ok.nilC (k:=1) (e:=5);refine .r<|.z .asI<|.nil ?_;refine .block fun K0 hK0=>.loop (fun m s hh=>∃(i:Nat) (a1:Option Addr) (n1 c1:Nat),Has s [(0,.slice a L.length c),(3,.slice a1 n1 c1),(4,.int .i64 (i:Int))]∧Hp h none_ [capI 1 5 (a1,n1,c1) ((L.take i).flatten.map bv)] [rdI (fun j=>F j∧j<h.size) (fun j=>E j∧j<h.size) (a,L.length,c) L] hh∧i≤L.length∧m=L.length-i) ?_ ?_
 ·exact ⟨_,0,_,_,_,⟨rfl,rfl,rfl,trivial⟩,ok.cx (by simp),Nat.zero_le _,rfl⟩
 rintro _ _ η1 ⟨i,a1,n1,c1,hs,ok,hi,rfl⟩ J0 hJ0;refine .frame hs fun τ=>?_;refine .seq<|.seq<|.r<|.z .mvI<|.z .mvS<|.z (.len T.el26)<|.z .lss<|.nil ?_;refine .cdr (fun C0=>?_) (fun C0=>?_)
 ·
  have hil:i=L.length:=by omega
  refine .exit<|hK0 _ _<|.seq<|.r<|.z .mvS<|.z .asS<|.nil ?_;refine .ret ⟨.slice a1 n1 c1,Res.one rfl rfl,by have:=ok.toOwn;rwa [hil,List.take_length] at this⟩
 have hil:i<L.length:=by omega
 have hfl:=flatten_take hil;have hlen:(L.take (i+1)).flatten.length≤L.flatten.length:=by rw [←List.take_append_drop (i+1) L,List.flatten_append];simp
 refine .skip<|.seq<|.block fun K1 hK1=>.seq<|.r<|.z .asI<|.nil ?_;refine .block fun K2 hK2=>.loop (fun m s hh=>∃(j:Nat) (a1:Option Addr) (n1 c1:Nat),Has s [(0,.slice a L.length c),(3,.slice a1 n1 c1),(4,.int .i64 (i:Int)),(5,.int .i64 (j:Int))]∧Hp h none_ [capI 1 5 (a1,n1,c1) (((L.take i).flatten++L[i].take j).map bv)] [rdI (fun j=>F j∧j<h.size) (fun j=>E j∧j<h.size) (a,L.length,c) L] hh∧j≤L[i].length∧m=L[i].length-j) ?_ ?_
 ·exact ⟨_,0,_,_,_,⟨rfl,rfl,rfl,rfl,trivial⟩,ok.cx (by simp),Nat.zero_le _,rfl⟩
 rintro _ _ η2 ⟨j,a1,n1,c1,hs,ok,hj,rfl⟩ J1 hJ1;refine .frame hs fun τ=>?_;refine .seq<|.seq<|.r<|.z .mvI<|.z .mvS<|.z .mvI<|?_;obtain ⟨bb1,oo1,rfl,fb1⟩:=ok.r0.pos (by omega);refine .z (.ix1 i T.el26 T.sz22)<|?_;obtain ⟨ya1,yc1,he1,hr1⟩:=ok.r0.row (i:=i) (by omega);have ok:=ok.d0 (rdI (fun j=>E j∧j<h.size) (fun j=>E j∧j<h.size) (ya1,L[i].length,yc1) (L[i])) hr1 (fun _ h=>.inr (h.elim id id));refine .z (.ld T.ag22 he1)<|.z (.len T.el22)<|.z .lss<|.nil ?_;refine .cdr (fun C1=>?_) (fun C1=>?_)
 ·
  have hjl:j=L[i].length:=by omega
  have ok:=ok.cx (ys:=(L.take (i+1)).flatten.map bv) (by rw [hfl,hjl,List.take_length]);refine .exit<|hK2 _ _<|.end<|hK1 _ _<|.r<|.z .mvI<|.z .add<|.z .asI<|.nil ?_;refine .end<|hJ0 _ _ _ ⟨i+1,_,_,_,⟨rfl,rfl,rfl,trivial⟩,ok.tR.cx (by simp),by omega,rfl⟩ (by omega)
 have hjl:j<L[i].length:=by omega
 have hbd:(L.take i).flatten.length+j+1≤1000000000:=by rw [hfl,List.length_append] at hlen;omega
 have htk:=take_next hjl;refine .skip<|.seq<|.block fun K3 hK3=>.r<|.z .mvS<|.z .mvS<|.z .mvI<|.z (.ix1 i T.el26 T.sz22)<|?_;obtain ⟨ya2,yc2,he2,hr2⟩:=ok.r1.row (i:=i) (by omega);have ok:=ok.d1 (rdI (fun j=>E j∧j<h.size) (fun j=>E j∧j<h.size) (ya2,L[i].length,yc2) (L[i])) hr2 (fun _ h=>.inr (h.elim id id));refine .z (.ld T.ag22 he2)<|.z .mvI<|?_;obtain ⟨bb2,oo2,rfl,fb2⟩:=ok.r0.pos (by omega);refine .z (.ix1 j T.el22 T.sz5)<|.z (.ld T.ag5 (ok.r0.u8 (i:=j) (by omega)))<|.a' 29 (.lit [.tmp 28] (cs:=[.int .u8 ((L[i])[j].toNat:Int)]) T.el22 T.sz5 T.zr5 ok ⟨rfl,trivial⟩) ?_;rintro _ η3 ⟨pb1,rfl,ok,xe⟩;refine .a' 30 (.app (news:=[.int .u8 ((L[i])[j].toNat:Int)]) T.el22 T.sz5 T.by5 T.zr5 ok.n1 (ok.n1.m1).sl (oneL rfl) (by simp only [List.length_map,List.length_append,List.length_take,List.length_cons,List.length_nil];omega)) ?_;rintro _ η4 ⟨ya3,yn1,yc3,rfl,ok,ap⟩;refine .z .asS<|.nil ?_;refine .end<|hK3 _ _<|.r<|.z .mvI<|.z .add<|.z .asI<|.nil ?_;refine .end<|hJ1 _ _ _ ⟨j+1,_,_,_,⟨rfl,rfl,rfl,rfl,trivial⟩,ok.k1.tR.tR.cx (by rw [htk,←List.append_assoc];exact snocB),by omega,rfl⟩ (by omega)
def resizeQ (w:WPg) (n:Int):WPg × Nat:=if w.in_=false then (w,10) else if n<0 then (w,1) else if 1048576<n∨((mostB w.z:Nat):Int)<n then (w,5) else ({ w with now:=growL w.now w.z n.toNat },0)
def commitQ (w:WPg):WPg × Nat:=if w.in_=false then (w,10) else if w.now≠[]∧hdOk (w.now.getD 0 []) w.z=false then (w,8) else (⟨w.z,w.now,[],false,w.fr⟩,0)
section
variable {w:WPg} {n:Int}
theorem resizeQ_1 (h:w.in_=false):resizeQ w n=(w,10):=if_pos h
theorem resizeQ_2 (h:¬w.in_=false) (h2:n<0):resizeQ w n=(w,1):=by unfold resizeQ;rw [if_neg h,if_pos h2]
theorem resizeQ_3 (h:¬w.in_=false) (h2:¬n<0) (h3:1048576<n∨((mostB w.z:Nat):Int)<n):resizeQ w n=(w,5):=by unfold resizeQ;rw [if_neg h,if_neg h2,if_pos h3]
theorem resizeQ_4 (h:¬w.in_=false) (h2:¬n<0) (h3:¬(1048576<n∨((mostB w.z:Nat):Int)<n)):resizeQ w n=({ w with now:=growL w.now w.z n.toNat },0):=by unfold resizeQ;rw [if_neg h,if_neg h2,if_neg h3]
theorem commitQ_1 (h:w.in_=false):commitQ w=(w,10):=if_pos h
theorem commitQ_2 (h:¬w.in_=false) (h2:w.now≠[]∧hdOk (w.now.getD 0 []) w.z=false):commitQ w=(w,8):=by unfold commitQ;rw [if_neg h,if_pos h2]
theorem commitQ_3 (h:¬w.in_=false) (h2:¬(w.now≠[]∧hdOk (w.now.getD 0 []) w.z=false)):commitQ w=(⟨w.z,w.now,[],false,w.fr⟩,0):=by unfold commitQ;rw [if_neg h,if_neg h2]
end
end Go.Proofs.YtpeaicddbnghfaaGreat
namespace Go.HL
open Go Go.Proofs.YtpeaicddbnghfaaGreat
theorem Hp.locC {h0 h:Heap} {D:Nat→Prop} {M R:List Itm} {x:Itm} {e:TypeId} {a:Option Addr} {c:Nat} {l:List UInt8} (ok:Hp h0 D (x::capI 1 e (a,l.length,c) (l.map bv)::M) R h):Hp h x.F [x] [rdI (blkC (sv (a,l.length,c))) none_ (a,l.length,c) l] h:=
 (ok.k2.n1.frzB (l:=l) rfl).loc1
end Go.HL
