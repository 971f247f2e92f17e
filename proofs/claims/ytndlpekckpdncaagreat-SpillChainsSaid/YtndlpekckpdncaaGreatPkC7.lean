/- Bytes are put into a chain. Conditions: the store is in order, the bytes are readable. A disk as one item that is told in plain terms alone; its calls so. Conditions: those that each fact names. The pager that logs ahead, its small parts: a page's size, a file removed for good, a whole file, a page's head. Conditions: the disk is in order. The pager that logs ahead: what is told first, the power gone, the log forgotten, the mark and the log removed. Conditions: the disk is in order. Logs that are written frame by frame, in plain terms: their bytes, their links, and what a scan of a part of one finds. Conditions: the frames are of the log's size. Files of a disk, byte by byte: what changes do to them, how the power goes, and what a crash may leave. Conditions: those that each fact names. Frames laid over a file, in plain terms. Conditions: those that each fact names. Opening a file that was left in any state in between, in plain terms: it has the sure pages; and so it has when the power goes within. Conditions: those that each fact names. Journals in plain terms: beginnings, entries, and how a journal is scanned. Conditions: those that each fact names. The contracts of maps.Keys, slices.Sorted and slices.Sort, laid at this program by the kit. Conditions: none. maps.Keys and slices.Sorted over the cache's map, at a seat where they serve a map of frames too. Conditions: the keys are ints of 64 bits. The method Put of a cache: what goes is read in the cache's own blocks. Conditions: as CaImp4's. The method Dirty of a cache. Conditions: the cache is well laid, its numbers are ints of 64 bits. The pager that keeps a journal, in plain terms: what each of its functions does to the disk, the cache and its own state. Conditions: those that each fact names. The pager that keeps a journal, its small parts: a file removed for good, the journal and its mark removed, the file's length. Conditions: the disk is in order. The pager that keeps a journal: the journal's pages are laid over the file. Conditions: the disk is in order; the frames' pages are in their range. Journals: sizes, beginnings and entries, of the program and of the document. Conditions: the slices are readable, numbers in their ranges. The program's Scan of a journal. Conditions: the bytes are readable. The pager that keeps a journal, in memory: its box, the map of what is kept, and its disk as one item that turns (the core); the cache beside it. Conditions: those that each fact names. The pager that keeps a journal: pages are written to its file; a commit's work on the disk, in plain terms. Conditions: those that each fact names. The pager that keeps a journal and its pages: what ties them, and that each part of a call keeps it. Conditions: those that each fact names. The pager that keeps a journal: a page is put into the cache; the dirty pages that are unlike the file's. Conditions: the pager is in order. The calls of the pager that keeps a journal, in plain terms: what they make of its pages, and of its file. Conditions: those that each fact names. Pagers of either make, opened on a new disk: nothing is in them. Conditions: the size and the room may be. A store is opened on a new disk, with either pager. Conditions: the size and the room may be. A page's bytes of a number; numbers among others; rows of numbers that are the same. Conditions: few. -/
import Derived.Test.YtndlpekckpdncaaGreatPkC6
import Derived.Shelf.SlIterI.Nil
import Derived.Shelf.SortM.Plain
import Derived.Shelf.SortM.SortNone
import Derived.Ground.GgzProg
import Derived.Ground.SlgmProg
import Derived.Test.YtndlpekckpdncaaGreatProg
set_option maxRecDepth 100000
set_option maxHeartbeats 2000000
set_option linter.all false
namespace Go.Proofs.YtndlpekckpdncaaGreat
open Go Go.HL
def takeA:St→List Int→Nat→St × List Int × Nat
 | w,acc,0=>(w,acc,0)
 | w,acc,k+1=>if (takeF w).2.2≠0 then ((takeF w).1,acc,(takeF w).2.2) else takeA (takeF w).1 (acc++[(takeF w).2.1]) k
def putPg (z:Nat) (pl:List Int) (P:List (List UInt8)) (i:Nat):List UInt8:=fixedN (pl.getD (i+1) 0).toNat 4++(P.getD i []++List.replicate (z-4-(P.getD i []).length) 0)
def wrA (z:Nat) (pl:List Int) (P:List (List UInt8)):Nat→Nat→St→St × Nat
 | 0,_,w=>(w,0)
 | f+1,i,w=>if (w.write (pl.getD i 0) (putPg z pl P i)).2≠0 then w.write (pl.getD i 0) (putPg z pl P i) else wrA z pl P f (i+1) (w.write (pl.getD i 0) (putPg z pl P i)).1
def parts (l:List UInt8) (n:Nat):List (List UInt8):=pgs (ckL none l n (l.length+1) 0)
def putF (w:St) (l:List UInt8):St × Int × Nat:=if w.in_=false then (w,0,10) else if 16384<l.length then (w,0,3) else
 if (takeA w [] (parts l (w.z-4)).length).2.2≠0 then ((takeA w [] (parts l (w.z-4)).length).1,0,(takeA w [] (parts l (w.z-4)).length).2.2) else
 if (wrA w.z (takeA w [] (parts l (w.z-4)).length).2.1 (parts l (w.z-4)) (parts l (w.z-4)).length 0 (takeA w [] (parts l (w.z-4)).length).1).2≠0 then
  ((wrA w.z (takeA w [] (parts l (w.z-4)).length).2.1 (parts l (w.z-4)) (parts l (w.z-4)).length 0 (takeA w [] (parts l (w.z-4)).length).1).1,0,(wrA w.z (takeA w [] (parts l (w.z-4)).length).2.1 (parts l (w.z-4)) (parts l (w.z-4)).length 0 (takeA w [] (parts l (w.z-4)).length).1).2) else
 ((wrA w.z (takeA w [] (parts l (w.z-4)).length).2.1 (parts l (w.z-4)) (parts l (w.z-4)).length 0 (takeA w [] (parts l (w.z-4)).length).1).1,(takeA w [] (parts l (w.z-4)).length).2.1.getD 0 0,0)
theorem ck_pgs {a b:Option Addr} {l:List UInt8} {n:Nat} : ∀(f i:Nat),pgs (ckL a l n f i)=pgs (ckL b l n f i)
 | 0,_=>rfl
 | f+1,i=>by
  by_cases h:i<l.length
  ·rw [ck_step h,ck_step h];show (ckP a l n i).l::pgs (ckL a l n f (i+n))=(ckP b l n i).l::pgs (ckL b l n f (i+n));rw [ck_pgs f (i+n)];rfl
  ·rw [ck_end h,ck_end h]
theorem ck_rd {h:Heap} {F E:Nat→Prop} {a:Option Addr} {c n:Nat} {l:List UInt8} (r:RdL h F E (a,l.length,c) l) (hn:1≤n):∀(f i:Nat),∀x∈ckL a l n f i,RdL h F E (x.a,x.l.length,x.c) x.l
 | 0,_,x,hx=>by cases hx
 | f+1,i,x,hx=>by
  by_cases hi:i<l.length
  ·rw [ck_step hi] at hx;rcases List.mem_cons.1 hx with rfl | hx
   ·have hlc:l.length≤c:=r.c;have hl:=ckP_len (a:=a) (l:=l) (n:=n) (i:=i);have q:=r.cut (i:=i) (j:=i+min n (l.length-i)) (by omega) (by omega);rw [show i+min n (l.length-i)-i=min n (l.length-i) by omega] at q;have hc:cutA a i c 1=(ckP a l n i).a:=by unfold ckP cutA;rw [if_neg (by omega),if_neg (by omega)]
    obtain ⟨q1,q2,q3,q4⟩:=q;refine ⟨rfl,Nat.le_refl _,by show (ckP a l n i).l.length≤9223372036854775807;have:=r.m;simp only at this;omega,fun hp=>?_⟩;obtain ⟨b,o,e,rest⟩:=q4 hp;exact ⟨b,o,hc.symm.trans e,rest⟩
   ·exact ck_rd r hn f (i+n) x hx
  ·rw [ck_end hi] at hx;cases hx
theorem ck_max {a:Option Addr} {l:List UInt8} {n:Nat} : ∀(f i:Nat),∀x∈ckL a l n f i,x.l.length≤n
 | 0,_,x,hx=>by cases hx
 | f+1,i,x,hx=>by
  by_cases hi:i<l.length
  ·rw [ck_step hi] at hx;rcases List.mem_cons.1 hx with rfl | hx
   ·rw [ckP_len];omega
   ·exact ck_max f (i+n) x hx
  ·rw [ck_end hi] at hx;cases hx
theorem ck_few {a:Option Addr} {l:List UInt8} {n:Nat} (hn:1≤n):∀(f i:Nat),(ckL a l n f i).length≤l.length-i
 | 0,_=>Nat.zero_le _
 | f+1,i=>by
  by_cases hi:i<l.length
  ·rw [ck_step hi,List.length_cons];have:=ck_few (a:=a) (l:=l) hn f (i+n);omega
  ·rw [ck_end hi];simp
theorem takeF_nn {w:St} (k:StOk w):0≤(takeF w).2.1∧(takeF w).2.1≤4294967296:=by
 have hf:=(St.head_r k).free;have hw:=St.few k;have ht:∀x:St × Int × Nat,0≤x.2.1∧x.2.1≤4294967296→0≤(toldF x).2.1∧(toldF x).2.1≤4294967296:=fun x h=>by unfold toldF;show 0≤ite _ _ _∧ite _ _ _≤(4294967296:Int);split<;>omega
 have hg:0≤(frGrow w).2.1∧(frGrow w).2.1≤4294967296:=by
  unfold frGrow;split
  ·exact ⟨by show (0:Int)≤0;omega,by show (0:Int)≤4294967296;omega⟩
  split
  ·exact ⟨by show (0:Int)≤0;omega,by show (0:Int)≤4294967296;omega⟩
  ·show 0≤(w.pgs.length:Int)+1∧(w.pgs.length:Int)+1≤4294967296;omega
 have hno:0≤tkNo w∧tkNo w≤4294967296:=by
  unfold tkNo;have:=rdN_lt (l:=tkA w) (p:=8+4*(tkN w-1));split<;>omega
 unfold takeF;split
 ·exact ⟨by show (0:Int)≤0;omega,by show (0:Int)≤4294967296;omega⟩
 split
 ·exact ht _ hg
 split
 ·exact ⟨by show (0:Int)≤0;omega,by show (0:Int)≤4294967296;omega⟩
 split
 ·exact ⟨by show (0:Int)≤0;omega,by show (0:Int)≤4294967296;omega⟩
 ·exact ht _ hno
theorem _root_.Go.HL.Hp.frzPg {h0 h:Heap} {D F2 E2:Nat→Prop} {M R:List Itm} {e:TypeId} {pa a:Option Addr} {pc c n:Nat} {l:List UInt8} {P:List RB} (ok:Hp h0 D (capI 1 e (pa,P.length,pc) (P.flatMap RB.cells)::M) (rdI F2 E2 (a,n,c) l::R) h) (hp:∀x∈P,RdL h F2 E2 (x.a,x.l.length,x.c) x.l):Hp h0 D M (pgwI (fun j=>blkC (sv (pa,P.length,pc)) j∨F2 j∨E2 j) (pa,P.length,pc) P::rdI F2 E2 (a,n,c) l::R) h:=by
 have hc:Cap h 1 e (sv (pa,P.length,pc)) (P.flatMap RB.cells):=ok.m0;have o:Hp h0 D M (capI 1 e (pa,P.length,pc) (P.flatMap RB.cells)::rdI F2 E2 (a,n,c) l::R) h:=ok.frz;have o2:=o.or (r:=capI 1 e (pa,P.length,pc) (P.flatMap RB.cells)) (r':=rdI F2 E2 (a,n,c) l) (by simp) (by simp) (pgwI (fun j=>blkC (sv (pa,P.length,pc)) j∨F2 j∨E2 j) (pa,P.length,pc) P) (PgB.of (E':=fun j=>F2 j∨E2 j) hc (fun y hy=>(hp y hy).mono (fun _ h=>.inl h) (fun _ h=>.inr h)) (fun _ h=>.inl h) (fun _ h=>.inr h)) (fun j h=>h.imp id id);exact o2.sub (by simp;intro a h;exact .inr (.inr (.inr h)))
theorem setHead_zz {w:St} {H:Hd} : (w.setHead H).1.z=w.z:=by
 unfold St.setHead;split
 ·rfl
 split<;>rfl
theorem hdd_zz {w:St} {f m:Int} : (hdd w f m).1.z=w.z:=setHead_zz
theorem frGrow_zz {w:St} : (frGrow w).1.z=w.z:=by
 unfold frGrow;split
 ·rfl
 split
 ·exact write_z
 ·exact hdd_zz.trans write_z
theorem takeF_zz {w:St} : (takeF w).1.z=w.z:=by
 have h1:(tkZ w).1.z=w.z:=write_z.trans tkW_z;unfold takeF;split
 ·rfl
 split
 ·exact frGrow_zz
 split
 ·exact tkW_z
 split
 ·exact h1
 ·exact hdd_zz.trans h1
theorem takeA_e {w:St} {acc:List Int} {k:Nat} (h:(takeF w).2.2≠0):takeA w acc (k+1)=((takeF w).1,acc,(takeF w).2.2):=if_pos h
theorem takeA_s {w:St} {acc:List Int} {k:Nat} (h:¬(takeF w).2.2≠0):takeA w acc (k+1)=takeA (takeF w).1 (acc++[(takeF w).2.1]) k:=if_neg h
theorem wrA_e {z j f:Nat} {pl:List Int} {P:List (List UInt8)} {w:St} {no:Int} (hn:pl.getD j 0=no) (h:(w.write no (putPg z pl P j)).2≠0):wrA z pl P (f+1) j w=w.write no (putPg z pl P j):=by subst hn;exact if_pos h
theorem wrA_s {z j f:Nat} {pl:List Int} {P:List (List UInt8)} {w:St} {no:Int} (hn:pl.getD j 0=no) (h:¬(w.write no (putPg z pl P j)).2≠0):wrA z pl P (f+1) j w=wrA z pl P f (j+1) (w.write no (putPg z pl P j)).1:=by subst hn;exact if_neg h
theorem getD_at {l:List Int} {i:Nat} (h:i<l.length):l.getD i 0=l[i]:=by rw [List.getD_eq_getElem?_getD,List.getElem?_eq_getElem h];rfl
section
variable {w:St} {l:List UInt8}
theorem putF_10 (h:w.in_=false):putF w l=(w,0,10):=if_pos h
theorem putF_3 (h:w.in_=true) (h2:16384<l.length):putF w l=(w,0,3):=by unfold putF;rw [if_neg (by rw [h];decide),if_pos h2]
variable (h:w.in_=true) (h2:¬16384<l.length) {w2 w3:St} {pl:List Int} {c:Nat}
include h h2
theorem putF_t (h3:takeA w [] (parts l (w.z-4)).length=(w2,pl,c)) (hc:c≠0):putF w l=(w2,0,c):=by unfold putF;rw [if_neg (by rw [h];decide),if_neg h2,h3,if_pos hc]
theorem putF_w (h3:takeA w [] (parts l (w.z-4)).length=(w2,pl,0)) (h4:wrA w.z pl (parts l (w.z-4)) (parts l (w.z-4)).length 0 w2=(w3,c)) (hc:c≠0):putF w l=(w3,0,c):=by unfold putF;rw [if_neg (by rw [h];decide),if_neg h2,h3,if_neg (fun e=>e rfl)];simp only;rw [h4,if_pos hc]
theorem putF_0 (h3:takeA w [] (parts l (w.z-4)).length=(w2,pl,0)) (h4:wrA w.z pl (parts l (w.z-4)) (parts l (w.z-4)).length 0 w2=(w3,0)):putF w l=(w3,pl.getD 0 0,0):=by unfold putF;rw [if_neg (by rw [h];decide),if_neg h2,h3,if_neg (fun e=>e rfl)];simp only;rw [h4,if_neg (fun e=>e rfl)]
end
theorem spPut_any {G:Pgr} {h:Heap} {so bc:Nat} {F F2 E2:Nat→Prop} {w:St} {ba:Option Addr} {bl:List UInt8} (ok:Hp h F [dsI G so F w] [rdI F2 E2 (ba,bl.length,bc) bl] h) :
  HC Tryz.prog 56 #[.pointer (some ⟨so,0,none⟩),.slice ba bl.length bc] h (fun v h'=>∃F',v=.tuple #[.int .i64 (putF w bl).2.1,.int .i64 ((putF w bl).2.2:Int)]∧Hp h F [dsI G so F' (putF w bl).1] [] h'):=by
 have hso:=ds_ok ok.m0;have hzc:=okSz_c hso.z;have hbc:=ok.r0.c;have hbm:=ok.r0.m;simp only at hbc hbm;refine HC.go Tryz.func56 96 ?_;refine .s<|.z .asI<|.z .asI<|.nil<|.seq<|.block fun K0 hK0=>.s<|.z .mvP<|.z (.pEqS T.pt27)<|.z .asB<|.nil<|.cf<|.s<|.z .mvP<|.k 20 .func (sIn_any (G:=G) (F:=F) (w:=w) ok.m0)<|.z .not<|.z .asB<|.nil<|.cond (fun C1=>?_) (fun C1=>?_)
 ·
  refine .s<|.z .asI<|.z .asI<|.nil<|.ret ⟨.tuple #[.int .i64 0,.int .i64 10],Res.two rfl rfl rfl,⟨F,by rw [putF_10 (by simpa using C1)]<;>rfl,by rw [putF_10 (by simpa using C1)];exact (ok).k1.tR⟩⟩
 have hin:w.in_=true:=by simpa using C1
 refine .s<|.z .mvS<|.z (.len T.el44)<|.z .gtr<|.z .asB<|.nil<|.cd (fun C2=>?_) (fun C2=>?_)
 ·
  refine .s<|.z .asI<|.z .asI<|.nil<|.ret ⟨.tuple #[.int .i64 0,.int .i64 3],Res.two rfl rfl rfl,⟨F,by rw [putF_3 hin (by omega)]<;>rfl,by rw [putF_3 hin (by omega)];exact (ok).k1.tR⟩⟩
 refine .skip<|.end<|hK0 _ _<|.s<|.z .asS<|?_;have ok:=ok.nilC (k:=1) (e:=3);refine .nil ?_;refine .seq<|?_;obtain ⟨zk,hzk⟩:∃k,w.z=k+4:=⟨w.z-4,by omega⟩;refine .r<|.z .mvS<|.z .mvP<|.k 28 .func (sSize_any (G:=G) (F:=F) (w:=w) ok.m1)<|.z .sub<|?_;rw [show ((w.z:Int)-4)=(zk:Int) from by omega];refine .c' 30 .func (chunk_any (a:=ba) (c:=bc) (l:=bl) (n:=zk) (by omega)) ?_;rintro _ η1 ⟨b1ck1,b2ck1,rfl,q⟩;have ok:=ok.addML q;have okc:=ok;refine .c' 31 .func (collect_any (a:=ba) (c:=bc) (n:=zk) (l:=bl) (by omega) (by omega) (by omega) ((Hp.lc2 okc).sub (R':=[]) (by simp))) ?_;rintro _ η2 ⟨pa,pc,rfl,q⟩;have ok:=Hp.lf2 okc q;obtain ⟨P,hP⟩:∃P,ckL ba bl zk (bl.length+1) 0=P:=⟨_,rfl⟩;rw [hP] at ok;have hPr:=ck_rd (by exact (ok.r0)) (show 1≤zk by omega) (bl.length+1) 0;have hPm:=ck_max (a:=ba) (l:=bl) (n:=zk) (bl.length+1) 0;have hPf:=ck_few (a:=ba) (l:=bl) (n:=zk) (by omega) (bl.length+1) 0;rw [hP] at hPr hPm hPf;rw [hP];obtain ⟨EP,ok⟩:∃E,Hp h F [boxI b1ck1 44 [.slice ba bl.length bc],boxI b2ck1 3 [.int .i64 (zk:Int)],capI 1 3 (none,0,0) (([]:List Int).map iv),dsI G so F w] (pgwI E (pa,P.length,pc) P::[rdI F2 E2 (ba,bl.length,bc) bl]) _:=⟨_,ok.frzPg hPr⟩;have hPP:pgs P=parts bl (w.z-4):=by rw [←hP,show w.z-4=zk by omega];exact ck_pgs _ _
 have hPL:P.length=(parts bl (w.z-4)).length:=by rw [←hPP,pgs_len]
 refine .z .asS<|.nil<|.seq<|.s<|.z .mvS<|.z (.len T.el28)<|.z .mvI<|.nil<|.block fun K1 hK1=>.loop (fun m s hh=>∃(i:Nat) (wi:St) (pl:List Int) (a6:Option Addr) (c6:Nat) (Fo:Nat→Prop),Has s [(0,.pointer (some ⟨so,0,none⟩)),(6,.slice a6 pl.length c6),(7,.slice pa P.length pc),(33,.int .i64 (P.length:Int)),(34,.int .i64 (i:Int))]∧Hp h F [dsI G so Fo wi,capI 1 3 (a6,pl.length,c6) (pl.map iv)] [pgwI EP (pa,P.length,pc) P,rdI F2 E2 (ba,bl.length,bc) bl] hh∧i≤P.length∧pl.length=i∧takeA wi pl (P.length-i)=takeA w [] P.length∧(∀k∈pl,0≤k∧k≤4294967296)∧wi.z=w.z∧m=P.length-i) ?_ ?_
 ·exact ⟨_,0,w,[],none,0,F,⟨rfl,rfl,rfl,rfl,rfl,trivial⟩,(ok.n2.n3).k2,Nat.zero_le _,rfl,rfl,by simp,rfl,rfl⟩
 rintro _ _ η3 ⟨i,wi,pl,a6,c6,Fo,hs,ok,hi,hpl,htk,hnn,hwz,rfl⟩ J0 hJ0;refine .frame hs fun τ=>?_;refine .s<|.z .lss<|.nil<|.seq<|.cdr (fun C3=>?_) (fun C3=>?_)
 ·
  have hiP:i=P.length:=by omega
  have htk3:takeA w [] P.length=(wi,pl,0):=by rw [←htk,hiP,Nat.sub_self];rfl
  refine .exit<|hK1 _ _<|.seq<|.seq<|?_;have ok:=(ok.n1).frzI (l:=pl) rfl;have hpc:=ok.r0.c;have hpm:=ok.r0.m;simp only at hpc hpm;refine .r<|.z .mvS<|.z (.len T.el28)<|.z .mvI<|.nil<|.block fun K3 hK3=>.loop (fun m s hh=>∃(j:Nat) (wj:St) (Fo:Nat→Prop),Has s [(0,.pointer (some ⟨so,0,none⟩)),(6,.slice a6 pl.length c6),(49,.slice pa P.length pc),(50,.int .i64 (P.length:Int)),(51,.int .i64 (j:Int))]∧Hp h F [dsI G so Fo wj] [rdI (blkC (sv (a6,pl.length,c6))) none_ (a6,pl.length,c6) pl,pgwI EP (pa,P.length,pc) P] hh∧j≤P.length∧wrA w.z pl (pgs P) (P.length-j) j wj=wrA w.z pl (pgs P) P.length 0 wi∧wj.z=w.z∧m=P.length-j) ?_ ?_
  ·exact ⟨_,0,wi,Fo,⟨rfl,rfl,rfl,rfl,rfl,trivial⟩,(ok).k1.f1.f1.e2,Nat.zero_le _,rfl,hwz,rfl⟩
  rintro _ _ η4 ⟨j,wj,Fo,hs,ok,hj,hwr,hjz,rfl⟩ J1 hJ1;refine .frame hs fun τ=>?_;refine .s<|.z .lss<|.nil<|.seq<|.cdr (fun C5=>?_) (fun C5=>?_)
  ·
   have hjE:j=P.length:=by omega
   have hwr3:wrA w.z pl (pgs P) P.length 0 wi=(wj,0):=by rw [←hwr,hjE,Nat.sub_self];rfl
   refine .exit<|hK3 _ _<|.seq<|.s<|.z .mvS<|.z (.len T.el24)<|.z .eql<|.nil<|.cd (fun C8=>?_) (fun C8=>?_)
   ·
    refine .s<|.z .asI<|.z .asI<|.nil<|.ret ⟨.tuple #[.int .i64 0,.int .i64 0],Res.two rfl rfl rfl,⟨Fo,by rw [putF_0 hin (by omega) (by rw [←hPL];exact htk3) (by rw [←hPP,pgs_len];exact hwr3),show pl.getD 0 0=0 by rw [List.getD_eq_getElem?_getD,List.getElem?_eq_none (by omega)];rfl]<;>rfl,by rw [putF_0 hin (by omega) (by rw [←hPL];exact htk3) (by rw [←hPP,pgs_len];exact hwr3),show pl.getD 0 0=0 by rw [List.getD_eq_getElem?_getD,List.getElem?_eq_none (by omega)];rfl];exact (ok).k1.tR.tR⟩⟩
   refine .skip<|.s<|.z .mvS<|?_;obtain ⟨bb1,oo1,rfl,fb1⟩:=ok.r0.pos (by omega);refine .z (.ix1 0 T.el24 T.sz3 (hi:=by omega))<|.z (.ld T.ag3 (ok.r0.i64 (i:=0) (by omega)))<|.z .asI<|.z .asI<|.nil<|.ret ⟨.tuple #[.int .i64 (pl[0]),.int .i64 0],Res.two rfl rfl rfl,⟨Fo,by rw [putF_0 hin (by omega) (by rw [←hPL];exact htk3) (by rw [←hPP,pgs_len];exact hwr3),getD_at (show 0<pl.length by omega)]<;>rfl,by rw [putF_0 hin (by omega) (by rw [←hPL];exact htk3) (by rw [←hPP,pgs_len];exact hwr3),getD_at (show 0<pl.length by omega)];exact (ok).k1.tR.tR⟩⟩
  have hjP:j<P.length:=by omega
  refine .skip<|.seq<|.block fun K4 hK4=>.s<|.z .mvI<|?_;obtain ⟨bb2,oo2,rfl,fb2⟩:=ok.r1.pos (by omega);refine .z (.ix1 j T.el28 T.sz44 (hi:=by omega))<|.z (.ld T.ag44 (sl_at1 RB.cells_len (ok.r1).sl (i:=j) (by omega) rfl))<|.z .asI<|.z .asS<|.nil<|.seq<|?_;have ok:=ok.d1 (rdI EP EP (P[j].a,P[j].l.length,P[j].c) P[j].l) ((ok.r1).by' _ (List.getElem_mem hjP)) (fun _ h=>h.elim id id);have hpx:=hPm _ (List.getElem_mem hjP);have hjc:=ok.r0.c;have hjm:=ok.r0.m;simp only at hjc hjm;refine .r<|.z .asI<|.nil<|.seq<|.s<|.z .mvI<|.z (.addI (b:=1))<|.z .mvS<|.z (.len T.el24)<|.z .lss<|.nil<|.join (fun s hh=>∃(nx:Nat),Has s [(0,.pointer (some ⟨so,0,none⟩)),(6,.slice a6 pl.length c6),(10,.int .i64 (j:Int)),(11,.slice (P[j].a) (P[j].l.length) (P[j].c)),(12,.int .i64 (nx:Int)),(49,.slice (some ⟨bb2,oo2,none⟩) P.length pc),(50,.int .i64 (P.length:Int)),(51,.int .i64 (j:Int))]∧Hp h F [dsI G so Fo wj] [rdI EP EP (P[j].a,P[j].l.length,P[j].c) (P[j].l),rdI (blkC (sv (a6,pl.length,c6))) none_ (a6,pl.length,c6) pl,pgwI EP (some ⟨bb2,oo2,none⟩,P.length,pc) P] hh∧nx=(pl.getD (j+1) 0).toNat∧nx≤4294967296) ?_ ?_
  ·
   refine .cd (fun C6=>?_) (fun C6=>?_)
   ·
    refine .r<|.z .mvS<|.z .mvI<|.z (.addI (b:=1))<|?_;obtain ⟨bb3,oo3,rfl,fb3⟩:=ok.r1.pos (by omega);refine .z (.ix1 (j+1) T.el24 T.sz3 (hi:=by omega))<|.z (.ld T.ag3 (ok.r1.i64 (i:=(j+1)) (by omega)))<|?_;obtain ⟨nx,hnx⟩:∃nx:Nat,pl[j+1]=(nx:Int):=⟨_,(Int.toNat_of_nonneg (hnn _ (List.getElem_mem (by omega))).1).symm⟩;rw [hnx];refine .z .asI<|.nil<|.end<|⟨nx,⟨rfl,rfl,rfl,rfl,rfl,rfl,rfl,rfl,trivial⟩,ok,by rw [getD_at (by omega),hnx];rfl,by have:=(hnn _ (List.getElem_mem (show j+1<pl.length by omega))).2;omega⟩
   refine .skip<|.end<|⟨0,⟨rfl,rfl,rfl,rfl,rfl,rfl,rfl,rfl,trivial⟩,ok,by rw [List.getD_eq_getElem?_getD,List.getElem?_eq_none (by omega)];rfl,by omega⟩
  rintro s η5 ⟨nx,hs,ok,hnx2,hnx3⟩;refine .frame hs fun τ=>?_;refine .s<|.z .mvI<|.z (.cvs T.in130 T.in3 (M:=18446744073709551616) rfl rfl)<|.c' 68 .func (fixed_any (n:=nx) (size:=4) (by omega) (by omega) (by omega)) ?_;rintro _ η6 own;obtain ⟨ya1,yc1,rfl⟩:=own.formB;have ok:=ok.own own;refine .z .mvS<|.z .mvP<|.k 71 .func (sSize_any (G:=G) (F:=Fo) (w:=wj) ok.m1)<|.z .sub<|.z .mvS<|.z (.len T.el44)<|.z .sub<|?_;obtain ⟨zl,hzl,hzn⟩:∃zl:List UInt8,List.replicate zl.length (0:UInt8)=zl∧zl.length=w.z-4-P[j].l.length:=⟨List.replicate (w.z-4-P[j].l.length) 0,by simp,by simp⟩;rw [show (((wj.z:Int)-4)-((P[j].l.length:Nat):Int))=((zl.length:Nat):Int) from by omega];refine .a' 76 (.mks zl.length zl.length T.el44 T.sz5 T.by5 T.zr5 ok) ?_;rintro _ η7 ⟨pb1,rfl,ok,xe⟩;have ok:=ok.cx (ys:=(List.replicate zl.length (0:UInt8)).map bv) (zeros8 _);have ok:=ok.cx (ys:=zl.map bv) (by rw [hzl]);refine .a' 77 (.lit [.tmp 68,.tmp 69,.tmp 76] (cs:=[.slice ya1 ((fixedN nx 4).length) yc1,.slice (P[j].a) (P[j].l.length) (P[j].c),.slice (some ⟨pb1,0,none⟩) zl.length zl.length]) T.el28 T.sz44 T.zr44 ok ⟨rfl,rfl,rfl,trivial⟩) ?_;rintro _ η8 ⟨pb2,rfl,ok,xe⟩;refine .c' 78 .func (njoin_any (a:=some ⟨pb2,0,none⟩) (c:=3) (L:=[(fixedN nx 4),P[j].l,zl]) (RdL.rows (v:=(some ⟨pb2,0,none⟩,3,3)) (xs:=[(ya1,(fixedN nx 4).length,yc1),(P[j].a,P[j].l.length,P[j].c),(some ⟨pb1,0,none⟩,zl.length,zl.length)]) (ls:=[(fixedN nx 4),P[j].l,zl]) ok.m0 ⟨⟨_,_,(RdL.ofCapB (v:=(ya1,(fixedN nx 4).length,yc1)) (l:=(fixedN nx 4)) ok.m2)⟩,⟨_,_,ok.r0⟩,⟨_,_,(RdL.ofCapB (v:=(some ⟨pb1,0,none⟩,zl.length,zl.length)) (l:=zl) ok.m1)⟩,trivial⟩) (by rw [show [fixedN nx 4,P[j].l,zl].flatten.length=4+(P[j].l.length+zl.length) from by simp [fixedN_len]];omega)) ?_;rintro _ η9 own;obtain ⟨ya2,yc2,rfl⟩:=own.formB;have ok:=ok.own own;have hpg:[fixedN nx 4,P[j].l,zl].flatten=putPg w.z pl (pgs P) j:=by unfold putPg;rw [←hnx2,show (pgs P).getD j []=P[j].l from by simp [pgs,hjP],←hzn,hzl];simp
  rw [hpg] at ok⊢;have hpl2:(putPg w.z pl (pgs P) j).length=w.z:=by rw [←hpg];simp [fixedN_len];omega
  refine .z .asS<|.nil<|.s<|.z .mvP<|.z .mvS<|.z .mvI<|?_;obtain ⟨bb4,oo4,rfl,fb4⟩:=ok.r1.pos (by omega);refine .z (.ix1 j T.el24 T.sz3 (hi:=by omega))<|.z (.ld T.ag3 (ok.r1.i64 (i:=j) (by omega)))<|.z .mvS<|.c' 85 .func (sWriteC_any (G:=G) (w:=wj) (no:=pl[j]) (l:=putPg w.z pl (pgs P) j) (ok.n4) (by rw [hpl2];omega)) ?_;rintro _ η10 ⟨Fk1,rfl,q⟩;have ok:=(ok.n4).lift1 q;refine .z .asI<|.nil<|.s<|.z .mvI<|.z .neq<|.nil<|.cd (fun C7=>?_) (fun C7=>?_)
  ·
   refine .s<|.z .mvI<|.z .asI<|.z .asI<|.nil<|.ret ⟨.tuple #[.int .i64 0,.int .i64 (((wj.write (pl[j]) (putPg w.z pl (pgs P) j)).2:Nat):Int)],Res.two rfl rfl rfl,⟨Fk1,by rw [putF_w hin (by omega) (by rw [←hPL];exact htk3) (by rw [←hPP,pgs_len,←hwr,show P.length-j=(P.length-(j+1))+1 by omega,wrA_e (getD_at (show j<pl.length by omega)) (by omega)]) (by omega)]<;>rfl,by rw [putF_w hin (by omega) (by rw [←hPL];exact htk3) (by rw [←hPP,pgs_len,←hwr,show P.length-j=(P.length-(j+1))+1 by omega,wrA_e (getD_at (show j<pl.length by omega)) (by omega)]) (by omega)];exact (ok).k1.tR.tR.tR⟩⟩
  have hwr2:wrA w.z pl (pgs P) (P.length-(j+1)) (j+1) (wj.write pl[j] (putPg w.z pl (pgs P) j)).1=wrA w.z pl (pgs P) P.length 0 wi:=by rw [←hwr,show P.length-j=(P.length-(j+1))+1 by omega,wrA_s (getD_at (by omega)) (by omega)]
  refine .skip<|.end<|hK4 _ _<|.r<|.z (.addI (b:=1))<|.z .mvI<|.nil<|.end<|hJ1 _ _ _ ⟨j+1,((wj.write (pl[j]) (putPg w.z pl (pgs P) j)).1),Fk1,⟨rfl,rfl,rfl,rfl,rfl,trivial⟩,(ok).k1.f2.f2.e2,by omega,hwr2,write_z.trans hjz,rfl⟩ (by omega)
 refine .skip<|.seq<|.block fun K2 hK2=>.seq<|?_;have hsw:=ds_ok ok.m0;refine .r<|.z .mvP<|.c' 38 .func (ftake_any (G:=G) (w:=wi) (ok).loc0) ?_;rintro _ η11 ⟨Ft1,rfl,q⟩;have ok:=(ok).lift1 q;refine .z .mvU<|.z .ex<|.z .ex<|.z .asI<|.z .asI<|.nil<|.seq<|.s<|.z .mvI<|.z .neq<|.nil<|.cd (fun C4=>?_) (fun C4=>?_)
 ·
  refine .s<|.z .mvI<|.z .asI<|.z .asI<|.nil<|.ret ⟨.tuple #[.int .i64 0,.int .i64 (((takeF wi).2.2:Nat):Int)],Res.two rfl rfl rfl,⟨Ft1,by rw [putF_t hin (by omega) (by rw [←hPL,←htk,show P.length-i=(P.length-(i+1))+1 by omega,takeA_e (by omega)]) (by omega)]<;>rfl,by rw [putF_t hin (by omega) (by rw [←hPL,←htk,show P.length-i=(P.length-(i+1))+1 by omega,takeA_e (by omega)]) (by omega)];exact (ok).k1.tR.tR⟩⟩
 have htk2:takeA (takeF wi).1 (pl++[(takeF wi).2.1]) (P.length-(i+1))=takeA w [] P.length:=by rw [←htk,show P.length-i=(P.length-(i+1))+1 by omega,takeA_s (by omega)]
 have hnn2:∀k∈pl++[(takeF wi).2.1],0≤k∧k≤4294967296:=fun k hk=>(List.mem_append.1 hk).elim (hnn k) fun e=>by rw [List.mem_singleton.1 e];exact takeF_nn hsw
 have hwz2:(takeF wi).1.z=w.z:=takeF_zz.trans hwz;refine .skip<|.r<|.z .mvS<|.z .mvI<|.a' 46 (.lit [.tmp 45] (cs:=[.int .i64 ((takeF wi).2.1)]) T.el24 T.sz3 T.zr3 ok ⟨rfl,trivial⟩) ?_;rintro _ η12 ⟨pb3,rfl,ok,xe⟩;refine .a' 47 (.app (news:=[.int .i64 ((takeF wi).2.1)]) T.el24 T.sz3 T.by3 T.zr3 ok.n2 (ok.n2.m1).sl (oneL rfl) (by simp only [List.length_map,List.length_cons,List.length_nil];omega)) ?_;rintro _ η13 ⟨ya3,yn3,yc3,rfl,ok,ap⟩;have ok:=ok.cx (ys:=(pl++[(takeF wi).2.1]).map iv) snocI;obtain rfl:yn3=(pl++[(takeF wi).2.1]).length:=ok.lenI2;refine .z .asS<|.nil<|.end<|hK2 _ _<|.r<|.z (.addI (b:=1))<|.z .mvI<|.nil<|.end<|hJ0 _ _ _ ⟨i+1,((takeF wi).1),pl++[(takeF wi).2.1],ya3,yc3,Ft1,⟨rfl,rfl,rfl,rfl,rfl,trivial⟩,(ok.n2).k2,by omega,by simp;omega,htk2,hnn2,hwz2,rfl⟩ (by omega)
open Go Go.HL
structure DgP (h:Heap) (d:Nat) (F:Nat→Prop) (D:Dk) (r:RD) (E:Nat→Prop):Prop where
 p:(dskI d r).p h
 b:Bys h E r.fs
 f:∀j,(dskI d r).F j→F j
 e:∀j,E j→F j
 n:∀j,(dskI d r).F j→¬E j
 a:r.abs=D
@[reducible] def dgI (d:Nat) (F:Nat→Prop) (D:Dk):Itm:=⟨fun h=>∃r E,DgP h d F D r E,F,fun _ _ _ c g ⟨r,E,q⟩=>⟨r,E,(dskI d r).st _ _ _ c (fun j hj=>g j (q.f j hj)) q.p,(bysI E r.fs).st _ _ _ c (fun j hj=>g j (q.e j hj)) q.b,q.f,q.e,q.n,q.a⟩⟩
section
variable {h h':Heap} {d p:Nat} {F G E E':Nat→Prop} {D:Dk} {r r':RD}
theorem dg_open {M:List Itm} (ok:Hp h F [dgI d F D] M h):∃r E,r.abs=D∧Hp h (dskI d r).F [dskI d r] [bysI E r.fs] h∧(∀j,(dskI d r).F j→F j)∧∀j,E j→F j:=by
 obtain ⟨r,E,q⟩:=ok.m0;have hl:=(ok.m (dgI d F D) (by simp)).2;exact ⟨r,E,q.a,⟨Chg.refl _ _,fun i hi=>by rw [List.mem_singleton.1 hi];exact ⟨q.p,fun j hj=>⟨(hl j (q.f j hj)).1,.inl hj⟩⟩,fun i hi=>by rw [List.mem_singleton.1 hi];exact ⟨q.b,fun j hj=>(hl j (q.e j hj)).1⟩,List.pairwise_singleton _ _,fun a ha b hb=>by rw [List.mem_singleton.1 ha,List.mem_singleton.1 hb];exact q.n⟩,q.f,q.e⟩
theorem dg_close {M:List Itm} (q:Hp h G (dskI d r'::M) [bysI E' r'.fs] h') (hG:∀j,G j→F j) (hE:∀j,E' j→F j∨h.size≤j):Hp h F (dgI d (fun j=>(dskI d r').F j∨E' j) r'.abs::M) [] h':=by
 have hm:=List.pairwise_cons.1 q.mm;refine ⟨q.chg.mono fun j _=>hG j,fun i hi=>?_,by simp,List.pairwise_cons.2 ⟨fun b hb j hj hb2=>?_,hm.2⟩,by simp⟩
 ·rcases List.mem_cons.1 hi with rfl | hi
  ·refine ⟨⟨r',E',q.m0,q.r0,fun j hj=>.inl hj,fun j hj=>.inr hj,q.mr (dskI d r') (by simp) (bysI E' r'.fs) (by simp),rfl⟩,fun j hj=>?_⟩;rcases hj with hj | hj
   ·have:=(q.m _ List.mem_cons_self).2 j hj;exact ⟨this.1,this.2.imp (hG j) id⟩
   ·exact ⟨(q.r _ List.mem_cons_self).2 j hj,hE j hj⟩
  ·have:=q.m i (List.mem_cons_of_mem _ hi);exact ⟨this.1,fun j hj=>⟨(this.2 j hj).1,(this.2 j hj).2.imp (hG j) id⟩⟩
 ·rcases hj with hj | hj
  ·exact hm.1 b hb j hj hb2
  ·exact q.mr b (List.mem_cons_of_mem _ hb) _ List.mem_cons_self j hb2 hj
theorem dg_up (up:DUp h h' d r r' E E') (hf:∀j,(dskI d r).F j→F j) (he:∀j,E j→F j):∃F',Hp h F [dgI d F' r'.abs] [] h':=⟨_,dg_close up.hp hf fun j hj=>(up.new j hj).imp (he j) id⟩
section
variable {n:List UInt8} {z y:Int} {a:Option Addr} {c:Nat} {l:List UInt8} {F2 E2:Nat→Prop}
theorem dgwrite_any (ok:Hp h F [dgI d F D] [rdI F2 E2 (a,l.length,c) l] h) (hk:DkOk D) (hcg:D.chg<1000000000) (hz : -9223372036854775808≤z∧z≤9223372036854775807) :
  HC Tryz.prog 207 #[.pointer (some ⟨d,0,none⟩),.string (BA n),.int .i64 z,.slice a l.length c] h (fun v h'=>∃F',v=.int .i64 ((writeN D n z l).2:Int)∧Hp h F [dgI d F' (writeN D n z l).1] [] h'):=by
 obtain ⟨r,E,rfl,o,hf,he⟩:=dg_open ok;have o2:Hp h (dskI d r).F [dskI d r] [bysI E r.fs,rdI F2 E2 (a,l.length,c) l] h:=⟨o.chg,o.m,fun i hi=>by
  rcases List.mem_cons.1 hi with rfl | hi
  ·exact o.r _ (by simp)
  ·exact ok.r i hi,o.mm,fun x hx b hb=>by
  rcases List.mem_cons.1 hb with rfl | hb
  ·exact o.mr x hx _ (by simp)
  ·rw [List.mem_singleton.1 hx,List.mem_singleton.1 hb];exact fun j hj=>ok.mr (dgI d F r.abs) (by simp) (rdI F2 E2 (a,l.length,c) l) (by simp) j (hf j hj)⟩
 refine (write_any o2 hk hcg hz).mono fun v h' ⟨r',E',hv,ha,up⟩=>?_;obtain ⟨F',hp⟩:=dg_up up hf he;rw [ha] at hp;exact ⟨F',hv,hp⟩
theorem dgsync_any (ok:Hp h F [dgI d F D] [] h) (hk:DkOk D) (hcg:D.chg<1000000000) :
  HC Tryz.prog 209 #[.pointer (some ⟨d,0,none⟩),.string (BA n)] h (fun v h'=>∃F',v=.int .i64 ((syncN D n).2:Int)∧Hp h F [dgI d F' (syncN D n).1] [] h'):=by
 obtain ⟨r,E,rfl,o,hf,he⟩:=dg_open ok;refine (sync_any o hk hcg).mono fun v h' ⟨r',E',hv,ha,up⟩=>?_;obtain ⟨F',hp⟩:=dg_up up hf he;rw [ha] at hp;exact ⟨F',hv,hp⟩
theorem dgsize_any (ok:Hp h F [dgI d F D] [] h) :
  HC Tryz.prog 136 #[.pointer (some ⟨d,0,none⟩),.string (BA n)] h (fun v h'=>v=.tuple #[.int .i64 ((sizeN D n).1:Int),.bool (sizeN D n).2]∧h'=h):=by
 obtain ⟨r,E,rfl,o,hf,he⟩:=dg_open ok;exact size_anyD o.m0
theorem dgread_any (ok:Hp h F [dgI d F D] [] h) (hk:DkOk D) (hy : -9223372036854775808≤y∧y≤9223372036854775807) (hz : -9223372036854775808≤z∧z≤9223372036854775807) :
  HC Tryz.prog 180 #[.pointer (some ⟨d,0,none⟩),.string (BA n),.int .i64 y,.int .i64 z] h (fun v h'=>∃w,v=.tuple #[w,.int .i64 ((readN D n y z).2:Int)]∧Own h h' 1 5 w ((readN D n y z).1.map bv)):=by
 obtain ⟨r,E,rfl,o,hf,he⟩:=dg_open ok;exact read_anyD o.rdo hk hy hz
theorem dgdark_any (ok:Hp h F [dgI d F D] [] h) :
  HC Tryz.prog 135 #[.pointer (some ⟨d,0,none⟩)] h (fun v h'=>v=.bool D.dark∧h'=h):=by
 obtain ⟨r,E,rfl,o,hf,he⟩:=dg_open ok;exact dark_any (dsk_parts o.m0).1
theorem dgchanges_any (ok:Hp h F [dgI d F D] [] h) :
  HC Tryz.prog 268 #[.pointer (some ⟨d,0,none⟩)] h (fun v h'=>v=.int .i64 D.chg∧h'=h):=by
 obtain ⟨r,E,rfl,o,hf,he⟩:=dg_open ok;exact changes_any (dsk_parts o.m0).1
end
theorem dgnew_any:HC Tryz.prog 35 #[] h (fun v h'=>∃d F,v=.pointer (some ⟨d,0,none⟩)∧Hp h none_ [dgI d F newN] [] h'):=
 new_any.mono fun v h' ⟨d,r,hv,ha,q⟩=>⟨d,_,hv,by
  have hp:=dg_close (F:=none_) q (fun _ f=>f) (fun j f=>f.elim);rw [ha] at hp;exact hp⟩
end
open Go Go.HL
theorem gone_0 {d:Dk} {n:List UInt8} (h:(removeN d n).2=0):goneN d n=syncN (removeN d n).1 n:=if_pos h
theorem gone_4 {d:Dk} {n:List UInt8} (h:(removeN d n).2=4):goneN d n=((removeN d n).1,0):=by unfold goneN;rw [if_neg (by omega),if_pos h]
theorem gone_e {d:Dk} {n:List UInt8} (h:(removeN d n).2≠0) (h4:(removeN d n).2≠4):goneN d n=removeN d n:=by unfold goneN;rw [if_neg h,if_neg h4]
theorem aright_any {h:Heap} {z:Int} (hz : -9223372036854775808≤z∧z≤9223372036854775807) :
  HC Tryz.prog 132 #[.int .i64 z] h (fun v h'=>v=.bool (okZ z)∧h'=h):=by
 refine HC.go Tryz.func132 16 ?_;refine .s<|.z .asB<|.nil<|.s<|.z .mvI<|.z .geq<|.z .mvB<|.sd (fun G5=>?_) (fun G5=>?_)
 ·
  refine .z .mvI<|.z .leq<|.z .pkt<|.z .mvB<|.sd (fun G9=>?_) (fun G9=>?_)
  ·
   obtain ⟨q,rfl⟩:∃q:Nat,z=(q:Int):=⟨z.toNat,by omega⟩;have hq:=and_pow q (by omega) (by omega);refine .z .mvI<|.z .mvI<|.z .sub<|.z (.bandI q (q-1))<|.z .eql<|.z .pkt<|.z .asB<|.nil<|.ret ⟨.bool (decide ((((q &&& (q-1)):Nat):Int)=0)),Res.one rfl rfl,⟨by first | exact congrArg _ (by unfold okZ;rw [decide_eq_decide];omega) | exact congrArg _ (by unfold okZ;exact (decide_eq_false (by omega)).symm) | exact congrArg _ (by unfold okZ;exact (decide_eq_true (by omega)).symm),rfl⟩⟩
  refine .y<|.y<|.y<|.y<|.y<|.z .pkf<|.z .asB<|.nil<|.ret ⟨.bool false,Res.one rfl rfl,⟨by first | exact congrArg _ (by unfold okZ;rw [decide_eq_decide];omega) | exact congrArg _ (by unfold okZ;exact (decide_eq_false (by omega)).symm) | exact congrArg _ (by unfold okZ;exact (decide_eq_true (by omega)).symm),rfl⟩⟩
 refine .y<|.y<|.z .pkf<|.z .mvB<|.y<|.y<|.y<|.y<|.y<|.z .pkf<|.z .asB<|.nil<|.ret ⟨.bool false,Res.one rfl rfl,⟨by first | exact congrArg _ (by unfold okZ;rw [decide_eq_decide];omega) | exact congrArg _ (by unfold okZ;exact (decide_eq_false (by omega)).symm) | exact congrArg _ (by unfold okZ;exact (decide_eq_true (by omega)).symm),rfl⟩⟩
theorem gone_any {h:Heap} {d:Nat} {n:List UInt8} {r:RD} {E:Nat→Prop} (ok:Hp h (dskI d r).F [dskI d r] [bysI E r.fs] h) (hk:DkOk r.abs) (hcg:r.chg<900000000) :
  HC Tryz.prog 179 #[.pointer (some ⟨d,0,none⟩),.string (BA n)] h (fun v h'=>∃r' E',v=.int .i64 ((goneN r.abs n).2:Int)∧r'.abs=(goneN r.abs n).1∧DUp h h' d r r' E E'):=by
 refine HC.go Tryz.func179 17 ?_;refine .s<|.z .asI<|.nil<|.seq<|.s<|.z .mvP<|.z .mvT<|.c' 8 .func (remove_any (d:=d) (r:=r) (E:=E) (n:=n) (ok).loc1 hk (by omega)) ?_;rintro _ η1 ⟨rw1,Ew1,rfl,haw1,upw1⟩;have hzw1:=(ok).chg.size;have ok:=(ok).dsk (d:=d) (r:=r) upw1;have hkw1:DkOk rw1.abs:=by rw [haw1];exact (hk).remove
 have hcw1:rw1.chg≤r.chg+1:=Int.le_trans (Int.le_of_eq (congrArg Dk.chg haw1)) remove_chg;have hnw1:=fun j hj=>(upw1.new j hj).elim ((fun _ h=>Or.inl h) j) fun h1=>Or.inr (Nat.le_trans hzw1 h1);refine .z .asI<|.nil<|.s<|.z .mvI<|.z .neq<|.nil<|.cd (fun C0=>?_) (fun C0=>?_)
 ·
  refine .seq<|.s<|.z .mvI<|.z .eql<|.nil<|.cd (fun C1=>?_) (fun C1=>?_)
  ·
   refine .s<|.z .asI<|.nil<|.ret ⟨.int .i64 0,Res.one rfl rfl,⟨rw1,Ew1,(by rw [gone_4 (by omega)];rfl),(by rw [gone_4 (by omega)];exact haw1),((ok).k1.e1).up hnw1⟩⟩
  refine .skip<|.s<|.z .mvI<|.z .asI<|.nil<|.ret ⟨.int .i64 ((removeN r.abs n).2:Int),Res.one rfl rfl,⟨rw1,Ew1,(by rw [gone_e (by omega) (by omega)]),(by rw [gone_e (by omega) (by omega)];exact haw1),((ok).k1.e1).up hnw1⟩⟩
 refine .skip<|.s<|.z .mvP<|.z .mvT<|.c' 16 .func (sync_any (d:=d) (r:=rw1) (E:=Ew1) (n:=n) (ok).loc1 hkw1 (by omega)) ?_;rintro _ η2 ⟨rw2,Ew2,rfl,haw2,upw2⟩;have hzw2:=(ok).chg.size;have ok:=(ok).dsk (d:=d) (r:=rw1) upw2;have hkw2:DkOk rw2.abs:=by rw [haw2];exact (hkw1).sync
 have hcw2:rw2.chg≤rw1.chg+1:=Int.le_trans (Int.le_of_eq (congrArg Dk.chg haw2)) sync_chg;have hnw2:=fun j hj=>(upw2.new j hj).elim (hnw1 j) fun h1=>Or.inr (Nat.le_trans hzw2 h1);refine .z .asI<|.nil<|.ret ⟨.int .i64 ((syncN rw1.abs n).2:Int),Res.one rfl rfl,⟨rw2,Ew2,(by rw [gone_0 (by omega),haw1]),(by rw [gone_0 (by omega),←haw1];exact haw2),((ok).k1.e1).up hnw2⟩⟩
theorem headed_any {h:Heap} {F E:Nat→Prop} {n:Nat} {a:Option Addr} {c:Nat} {l:List UInt8} (hl:RdL h F E (a,l.length,c) l) :
  HC Tryz.prog 282 #[.slice a l.length c,.int .i64 (n:Int)] h (fun v h'=>v=.bool (hdOk l n)∧Ext h h'):=by
 have hc2:=hl.m;have hc1:l.length≤c:=hl.c;simp only at hc2;have ok:=(Hp.nil h none_).arg hl;refine HC.go Tryz.func282 20 ?_;refine .s<|.z .asB<|.nil<|.s<|.z .mvS<|.c' 9 .func (dec_any (a:=a) (c:=c) (l:=l) ok.r0) ?_;rintro _ η1 ⟨rfl,hx⟩;rw [show (decN l).1.val=.agg #[.int .i64 (decN l).1.size,.int .i64 (decN l).1.pages,.int .i64 (decN l).1.free,.int .i64 (decN l).1.many,.int .i64 (decN l).1.cookie,.int .i64 (decN l).1.version] from rfl];have ok:=ok.ext hx;refine .z .mvU<|.z .ex<|.z .ex<|.a' 5 (.alA T.zr38 ok) ?_;rintro _ η2 ⟨pb1,rfl,ok,xe⟩;refine .ur' (.stW (vs:=[.int .i64 ((decN l).1.size),.int .i64 ((decN l).1.pages),.int .i64 ((decN l).1.free),.int .i64 ((decN l).1.many),.int .i64 ((decN l).1.cookie),.int .i64 ((decN l).1.version)]) T.sz38 ok (oneL rfl)) ?_;rintro η3 ⟨ok,cg⟩;refine .z .asI<|.nil<|.s<|.z .mvI<|.z .eql<|.z .mvB<|.sd (fun G14=>?_) (fun G14=>?_)
 ·
  refine .z (.fa T.fd38_0)<|.z (.ldx T.ag3 ok.m0)<|.z .mvI<|.z .eql<|.z .pkt<|.z .asB<|.nil<|.ret ⟨.bool (decide ((decN l).1.size=(n:Int))),Res.one rfl rfl,⟨congrArg Value.bool (decide_eq_decide.2 ⟨fun h=>⟨by omega,h⟩,fun h=>h.2⟩),ok.chg⟩⟩
 refine .y<|.y<|.y<|.y<|.z .pkf<|.z .asB<|.nil<|.ret ⟨.bool false,Res.one rfl rfl,⟨congrArg Value.bool (decide_eq_false (by rintro ⟨h1,h2⟩;omega)).symm,ok.chg⟩⟩
theorem fresh_any {h:Heap} {p:Nat} {v0 v1 v2 v3 v4 v5 v6 v7 v8 v9 v10 v11:Value} (ok:Hp h (fun j=>j=p) [boxI p 202 [v0,v1,v2,v3,v4,v5,v6,v7,v8,v9,v10,v11]] [] h) :
  HC Tryz.prog 134 #[.pointer (some ⟨p,0,none⟩)] h (fun v h'=>∃m,v=.tuple #[]∧Hp h (fun j=>j=p) [boxI p 202 [.int .i64 0,.int .i64 0,.int .u64 0,.map (some m),v4,v5,v6,v7,v8,v9,v10,v11],mapI (Value.int .i64) m []] [] h'):=by
 refine HC.go Tryz.func134 7 ?_;refine .r<|.z .mvP<|.a' 3 (.mkm (Value.int .i64) ok) ?_;rintro _ η1 ⟨mb1,rfl,ok⟩;refine .z (.bd #[.int .i64 0,.int .i64 0,.int .u64 0,.map (some mb1)] T.zr198 T.pl198 rfl)<|.z .nil<|.z (.fa T.fd202_0)<|.ur' (.stA (vs:=[.int .i64 0,.int .i64 0,.int .u64 0,.map (some mb1)]) T.sz198 ok.n1 (oneL rfl)) ?_;rintro η2 ⟨ok,cg⟩;refine .nil ?_;refine .end<|⟨.tuple #[],Res.none rfl,⟨_,rfl,ok⟩⟩
def putsN:Nat→List Fr→List UInt8
 | _,[]=>[]
 | p,f::fs=>putN p f++putsN (linkN p f) fs
def linkL (p:Nat) (fs:List Fr):Nat:=fs.foldl linkN p
theorem linkL_lt {p:Nat} (h:p<18446744073709551616) (fs:List Fr):linkL p fs<18446744073709551616:=by
 induction fs generalizing p with
 | nil=>exact h
 | cons f fs ih=>exact ih (nextN_lt h _)
theorem linkL_snoc (p:Nat) (fs:List Fr) (f:Fr):linkL p (fs++[f])=linkN (linkL p fs) f:=by simp [linkL]
theorem linkL_app (p:Nat) (fs gs:List Fr):linkL p (fs++gs)=linkL (linkL p fs) gs:=by simp [linkL]
theorem putsN_app (p:Nat) (fs gs:List Fr):putsN p (fs++gs)=putsN p fs++putsN (linkL p fs) gs:=by
 induction fs generalizing p with
 | nil=>rfl
 | cons f fs ih=>simp only [List.cons_append,putsN,ih,List.append_assoc];rfl
theorem putsN_snoc (p:Nat) (fs:List Fr) (f:Fr):putsN p (fs++[f])=putsN p fs++putN (linkL p fs) f:=by rw [putsN_app];simp [putsN]
def okL (size:Nat) (fs:List Fr):Prop:=∀f∈fs,okF f=true∧f.b.length=size
theorem putsN_len {size:Nat} {p:Nat} {fs:List Fr} (h:okL size fs):(putsN p fs).length=fs.length*(16+size):=by
 induction fs generalizing p with
 | nil=>simp [putsN]
 | cons f fs ih=>
  have h1:=(h f List.mem_cons_self).2;have h2:=ih (p:=linkN p f) fun g hg=>h g (List.mem_cons_of_mem _ hg);rw [putsN,List.length_append,putN_len,h1,h2,List.length_cons,Nat.add_mul];omega
def gd (b:List UInt8) (i:Nat):UInt8:=b.getD i 0
theorem gd_nil (i:Nat):gd [] i=0:=rfl
theorem gd_ge {b:List UInt8} {i:Nat} (h:b.length≤i):gd b i=0:=by unfold gd;rw [List.getD_eq_getElem?_getD,List.getElem?_eq_none h];rfl
theorem gd_lt {b:List UInt8} {i:Nat} (h:i<b.length):gd b i=b[i]:=by unfold gd;rw [List.getD_eq_getElem?_getD,List.getElem?_eq_getElem h];rfl
theorem gd_app {a b:List UInt8} {i:Nat} : gd (a++b) i=if i<a.length then gd a i else gd b (i-a.length):=by
 unfold gd;rw [List.getD_eq_getElem?_getD,List.getD_eq_getElem?_getD,List.getD_eq_getElem?_getD];split
 ·rename_i h;rw [List.getElem?_append_left h]
 ·rename_i h;rw [List.getElem?_append_right (by omega)]
theorem gd_take {b:List UInt8} {n i:Nat} : gd (b.take n) i=if i<n then gd b i else 0:=by
 split
 ·rename_i h;unfold gd;rw [List.getD_eq_getElem?_getD,List.getD_eq_getElem?_getD,List.getElem?_take_of_lt h]
 ·rename_i h;exact gd_ge (by rw [List.length_take];omega)
theorem gd_drop {b:List UInt8} {n i:Nat} : gd (b.drop n) i=gd b (n+i):=by unfold gd;rw [List.getD_eq_getElem?_getD,List.getD_eq_getElem?_getD,List.getElem?_drop]
theorem gd_zeros {n i:Nat} : gd (List.replicate n 0) i=0:=by
 by_cases h:i<n
 ·rw [gd_lt (by simpa using h)];simp
 ·exact gd_ge (by simp;omega)
theorem ext_gd {a b:List UInt8} (hl:a.length=b.length) (h:∀i,i<a.length→gd a i=gd b i):a=b:=by
 refine List.ext_getElem hl fun i h1 h2=>?_;have:=h i h1;rwa [gd_lt h1,gd_lt h2] at this
theorem gd_longN {b:List UInt8} {n i:Nat} : gd (longN b n) i=if i<n then gd b i else 0:=by
 unfold longN;rw [gd_app,gd_take,gd_zeros,List.length_take];by_cases h1:i<n
 ·by_cases h2:i<b.length
  ·rw [if_pos (by omega),if_pos h1]
  ·rw [if_neg (by omega),if_pos h1,gd_ge (by omega)]
 ·rw [if_neg (by omega),if_neg h1]
def wrB (b:List UInt8) (p:Nat) (c:List UInt8):List UInt8:=patchN (longN b (max b.length (p+c.length))) p c
theorem wrB_len {b c:List UInt8} {p:Nat} : (wrB b p c).length=max b.length (p+c.length):=by
 unfold wrB;rw [patchN_len (by rw [longN_len];omega),longN_len]
theorem gd_wrB {b c:List UInt8} {p i:Nat} : gd (wrB b p c) i=if p≤i∧i<p+c.length then gd c (i-p) else gd b i:=by
 unfold wrB patchN;obtain ⟨m,hm⟩:∃m,m=max b.length (p+c.length):=⟨_,rfl⟩;have h1:b.length≤m:=by omega
 have h2:p+c.length≤m:=by omega
 rw [←hm];have h3:((longN b m).take p).length=p:=by rw [List.length_take,longN_len];omega
 rw [gd_app,gd_app,List.length_append,h3,gd_take,gd_drop,gd_longN,gd_longN];by_cases g1:i<p
 ·rw [if_pos (by omega),if_pos g1,if_pos g1,if_pos (by omega),if_neg (by omega)]
 ·by_cases g2:i<p+c.length
  ·rw [if_pos g2,if_neg g1,if_pos ⟨by omega,g2⟩]
  ·have g3:¬(p≤i∧i<p+c.length):=fun h=>g2 h.2;rw [if_neg g2,show p+c.length+(i-(p+c.length))=i by omega,if_neg g3];split
   ·rfl
   ·rw [gd_ge (by omega)]
theorem wrB_end {b c:List UInt8} : wrB b b.length c=b++c:=by
 refine ext_gd (by rw [wrB_len,List.length_append];omega) fun i hi=>?_;rw [gd_wrB,gd_app];rw [wrB_len] at hi;by_cases h:i<b.length
 ·rw [if_neg (by omega),if_pos h]
 ·rw [if_pos (by omega),if_neg h]
theorem wrB_nil {c:List UInt8} : wrB [] 0 c=c:=by have:=wrB_end (b:=[]) (c:=c);simpa using this
theorem flat_lenZ {z:Nat} {l:List (List UInt8)} (h:∀x∈l,x.length=z):l.flatten.length=l.length*z:=by
 induction l with
 | nil=>simp
 | cons a l ih=>
  rw [List.flatten_cons,List.length_append,h a List.mem_cons_self,ih fun x hx=>h x (List.mem_cons_of_mem _ hx),List.length_cons,Nat.add_mul];omega
theorem flat_drop {z:Nat} {l:List (List UInt8)} (h:∀x∈l,x.length=z) {i:Nat} (hi:i<l.length):(l.flatten.drop (i*z)).take z=l[i]:=by
 induction l generalizing i with
 | nil=>simp at hi
 | cons a l ih=>
  have ha:=h a List.mem_cons_self;cases i with
  | zero=>rw [Nat.zero_mul,List.drop_zero,List.flatten_cons,List.take_left' ha];rfl
  | succ i=>
   rw [List.flatten_cons,Nat.add_mul,Nat.one_mul,Nat.add_comm,←List.drop_drop,List.drop_left' ha,List.getElem_cons_succ];exact ih (fun x hx=>h x (List.mem_cons_of_mem _ hx)) (by simpa using hi)
theorem gd_flat {z:Nat} {l:List (List UInt8)} (h:∀x∈l,x.length=z) (hz:0<z) (i:Nat):gd l.flatten i=gd (l.getD (i / z) []) (i%z):=by
 have hm:=Nat.mod_lt i hz;have hd:i / z*z+i%z=i:=by rw [Nat.mul_comm];exact Nat.div_add_mod i z
 by_cases hi:i / z<l.length
 ·have e:l.getD (i / z) []=l[i / z]:=by simp [hi]
  rw [e,←flat_drop h hi,gd_take,if_pos hm,gd_drop,hd]
 ·have e:l.getD (i / z) []=[]:=by rw [List.getD_eq_getElem?_getD,List.getElem?_eq_none (Nat.le_of_not_lt hi)];rfl
  rw [e,gd_nil,gd_ge];rw [flat_lenZ h];have h1:l.length*z≤i / z*z:=Nat.mul_le_mul_right _ (Nat.le_of_not_lt hi);exact Nat.le_trans h1 (Nat.div_mul_le_self i z)
def nOk (n:List UInt8):Prop:=1≤n.length∧n.length≤32
section
variable {d:Dk} {r:Dk × Nat} {G G' B B':Dk→Prop} {n:List UInt8}
theorem wrong_0 {zs:List Int} (hd:d.dark=false) (hn:nOk n) (hz:∀z∈zs,0≤z):wrongN d n zs=0:=by
 unfold wrongN;rw [if_neg,if_neg (by rw [hd];decide)];rintro (h | h | ⟨z,h1,h2⟩)
 ·have:=hn.1;omega
 ·have:=hn.2;omega
 ·have:=hz z h1;omega
end
open Go Go.HL
def latK (l:List Fr) (k:Nat) (p:Int):Option (List UInt8):=(mget (latM l k) p).map fun i=>(frN l i).b
def latQ (l:List Fr) (p:Int):Option (List UInt8):=latK l l.length p
def manyN (l:List Fr):Nat:=(latC l l.length).toNat
def ovB (fs:List Fr) (z:Nat) (T:List UInt8):List UInt8:=(List.range (manyN fs*z)).map fun i=>match latQ fs ((i / z:Nat)+1) with | some b=>gd b (i%z) | none=>gd T i
theorem ovB_len {fs:List Fr} {z:Nat} {T:List UInt8} : (ovB fs z T).length=manyN fs*z:=by simp [ovB]
theorem gd_ovB {fs:List Fr} {z:Nat} {T:List UInt8} {i:Nat} (h:i<manyN fs*z):gd (ovB fs z T) i=match latQ fs ((i / z:Nat)+1) with | some b=>gd b (i%z) | none=>gd T i:=by
 rw [gd_lt (by rw [ovB_len];exact h)];simp [ovB]
def tgt (fs:List Fr) (z:Nat) (T:List UInt8):List UInt8:=if fs=[] then T else ovB fs z T
section
variable {l:List Fr} {k:Nat}
theorem latK_some {p:Int} {b:List UInt8} (h:latK l k p=some b):∃i,i∈latO l k∧(frN l i).page=p∧(frN l i).b=b:=by
 unfold latK at h;cases hm:mget (latM l k) p with
 | none=>rw [hm] at h;cases h
 | some i=>
  rw [hm] at h;injection h with h;have h1:=mget_mem hm;have h2:=(lat l k).key _ h1;exact ⟨i,((lat l k).mem i).2 (by rw [←h2];exact h1),h2.symm,h⟩
theorem latQ_some {p:Int} {b:List UInt8} (h:latQ l p=some b):∃f∈latF l,f.page=p∧f.b=b:=by
 obtain ⟨i,h1,h2,h3⟩:=latK_some h;exact ⟨frN l i,List.mem_map.2 ⟨i,h1,rfl⟩,h2,h3⟩
end
def EndsC (fs:List Fr):Prop:=fs≠[]∧(frN fs (fs.length-1)).commit≠0
theorem latM_app {fs gs:List Fr} {k:Nat} (h:k≤fs.length):latM (fs++gs) k=latM fs k:=by
 induction k with
 | zero=>rfl
 | succ k ih=>
  have e:frN (fs++gs) k=frN fs k:=by unfold frN;rw [List.getElem?_append_left (by omega)]
  rw [latM_succ,latM_succ,ih (by omega)];unfold stepM;rw [e]
theorem mget_iput {m:List (Int × Nat)} {k k':Int} {v:Nat} : mget (iput m k v) k'=if k'=k then some v else mget m k':=by
 have e:iput m k v=mput m k v:=by
  induction m with
  | nil=>rfl
  | cons p m ih=>unfold iput mput;rw [ih]
 rw [e];exact mget_mput
theorem mget_filter {m:List (Int × Nat)} {c k:Int} : mget (m.filter fun p=>decide (p.1≤c)) k=if k≤c then mget m k else none:=by
 induction m with
 | nil=>simp [mget]
 | cons p m ih=>
  by_cases h:p.1≤c
  ·rw [List.filter_cons_of_pos (by exact decide_eq_true h),mget_cons,mget_cons,ih];by_cases h2:p.1=k
   ·rw [if_pos h2,if_pos h2,if_pos (by omega)]
   ·rw [if_neg h2,if_neg h2]
  ·rw [List.filter_cons_of_neg (by simpa using h),ih,mget_cons];by_cases h2:p.1=k
   ·rw [if_neg (by omega),if_neg (by omega)]
   ·rw [if_neg h2]
theorem latK_succ {l:List Fr} {k:Nat} {p:Int} : latK l (k+1) p=if (frN l k).commit=0∨p≤(frN l k).commit then (if p=(frN l k).page then some (frN l k).b else latK l k p) else none:=by
 have e:∀(c:Prop) [Decidable c] (o:Option Nat),(if c then some k else o).map (fun i=>(frN l i).b)=if c then some (frN l k).b else o.map (fun i=>(frN l i).b):=fun c _ o=>by split<;>rfl
 unfold latK;rw [latM_succ];unfold stepM;by_cases h:(frN l k).commit=0
 ·rw [if_pos h,if_pos (Or.inl h),mget_iput,e]
 ·rw [if_neg h,mget_filter,mget_iput];by_cases h2:p≤(frN l k).commit
  ·have h3:(frN l k).commit=0∨p≤(frN l k).commit:=Or.inr h2;rw [if_pos h2,if_pos h3,e]
  ·rw [if_neg h2,if_neg (fun h3=>h3.elim h h2)];rfl
theorem latK_app {fs gs:List Fr} {p:Int} {k:Nat} (hk:k≤fs.length):latK (fs++gs) k p=latK fs k p:=by
 unfold latK;rw [latM_app hk];cases hm:mget (latM fs k) p with
 | none=>rfl
 | some i=>
  have hi:=latM_lt fs (mget_mem hm);have e:frN (fs++gs) i=frN fs i:=by unfold frN;rw [List.getElem?_append_left (by simp only at hi;omega)]
  simp only [Option.map_some,e]
theorem latQ_app {fs gs:List Fr} {m:Nat} (hg:gs≠[]) (h0:∀j,j+1<gs.length→(frN gs j).commit=0) (hl:(frN gs (gs.length-1)).commit=(m:Int)) (hm:1≤m) (hd:gs.Pairwise fun a b=>a.page≠b.page) (p:Int) :
  latQ (fs++gs) p=if p≤m then (match gs.find? fun f=>decide (f.page=p) with | some f=>some f.b | none=>latQ fs p) else none:=by
 have key:∀c,c<gs.length→latK (fs++gs) (fs.length+c) p=match (gs.take c).find? fun f=>decide (f.page=p) with | some f=>some f.b | none=>latQ fs p:=fun c=>by
  induction c with
  | zero=>intro _;rw [Nat.add_zero,latK_app (Nat.le_refl _)];rfl
  | succ c ih=>
   intro hc;have e:frN (fs++gs) (fs.length+c)=gs[c]:=by
    unfold frN;rw [List.getElem?_append_right (by omega),Nat.add_sub_cancel_left,List.getElem?_eq_getElem (by omega)];rfl
   have e2:frN gs c=gs[c]:=by unfold frN;rw [List.getElem?_eq_getElem (by omega)];rfl
   have h1:=h0 c hc;rw [e2] at h1;rw [←Nat.add_assoc,latK_succ,e,if_pos (.inl h1),ih (by omega),List.take_succ_eq_append_getElem (by omega),List.find?_append];by_cases h2:p=gs[c].page
   ·rw [if_pos h2];have h3:(gs.take c).find? (fun f=>decide (f.page=p))=none:=by
     rw [List.find?_eq_none];intro f hf;obtain ⟨i,hi,rfl⟩:=List.mem_iff_getElem.1 hf;rw [List.length_take] at hi;rw [List.getElem_take];have:=(List.pairwise_iff_getElem.1 hd) i c (by omega) (by omega) (by omega);simp only [decide_eq_true_eq];intro e;exact this (e.trans h2)
    rw [h3,h2];simp
   ·rw [if_neg h2];have h3:[gs[c]].find? (fun f=>decide (f.page=p))=none:=by
     rw [List.find?_cons_of_neg (by simpa using fun e=>h2 e.symm)];rfl
    rw [h3];cases (gs.take c).find? fun f=>decide (f.page=p)<;>rfl
 have hp:0<gs.length:=List.length_pos_iff.2 hg;have hlen:(fs++gs).length=fs.length+(gs.length-1)+1:=by rw [List.length_append];omega
 have e:frN (fs++gs) (fs.length+(gs.length-1))=gs[gs.length-1]:=by
  unfold frN;rw [List.getElem?_append_right (by omega),Nat.add_sub_cancel_left,List.getElem?_eq_getElem (by omega)];rfl
 have e2:frN gs (gs.length-1)=gs[gs.length-1]:=by unfold frN;rw [List.getElem?_eq_getElem (by omega)];rfl
 rw [e2] at hl;unfold latQ;rw [hlen,latK_succ,e,hl];by_cases h1:p≤(m:Int)
 ·rw [if_pos (.inr h1),if_pos h1,key _ (by omega)]
  conv=>rhs;rw [show gs=gs.take (gs.length-1)++[gs[gs.length-1]] by
   rw [←List.take_succ_eq_append_getElem (by omega),show gs.length-1+1=gs.length by omega,List.take_length]]
  rw [List.find?_append];by_cases h2:p=gs[gs.length-1].page
  ·rw [if_pos h2];have h3:(gs.take (gs.length-1)).find? (fun f=>decide (f.page=p))=none:=by
    rw [List.find?_eq_none];intro f hf;obtain ⟨i,hi,rfl⟩:=List.mem_iff_getElem.1 hf;rw [List.length_take] at hi;rw [List.getElem_take];have:=(List.pairwise_iff_getElem.1 hd) i (gs.length-1) (by omega) (by omega) (by omega);simp only [decide_eq_true_eq];intro e;exact this (e.trans h2)
   rw [h3,List.find?_cons_of_pos (by simpa using h2.symm)];rfl
  ·rw [if_neg h2];have h3:[gs[gs.length-1]].find? (fun f=>decide (f.page=p))=none:=by
    rw [List.find?_cons_of_neg (by simpa using fun e=>h2 e.symm)];rfl
   rw [h3];cases (gs.take (gs.length-1)).find? fun f=>decide (f.page=p)<;>rfl
 ·rw [if_neg (by rintro (h | h)<;>omega),if_neg h1]
open Go Go.HL
structure PgOk (z:Nat) (s:List (List UInt8)):Prop where
 sz:okSz z=true
 len:∀l∈s,l.length=z
 fit:s.length*z≤16777216
 hd:s≠[]→hdOk (s.getD 0 []) z=true
theorem okSz_b {z:Nat} (h:okSz z=true):256≤z∧z≤4096:=by have:=okSz_cases h;omega
theorem PgOk.many {z:Nat} {s:List (List UInt8)} (p:PgOk z s):s.length≤65536:=by
 have h1:=(okSz_b p.sz).1;have h2:s.length*256≤s.length*z:=Nat.mul_le_mul_left _ h1;have:=p.fit;omega
def logB (z salt:Nat) (fs:List Fr):List UInt8:=headN z salt++putsN (nextN salt (headN z salt)) fs
theorem logB_len {z salt:Nat} {fs:List Fr} (h:okL z fs):(logB z salt fs).length=20+fs.length*(16+z):=by unfold logB;rw [List.length_append,headN_len,putsN_len h]
theorem okZ_of {z:Nat} (h:okSz z=true):okZ (z:Int)=true:=by have:=okSz_cases h;exact decide_eq_true (by omega)
def jsign:List UInt8:=[116,111,109,101,32,106,110,108]
def okJ (n k:Nat):Bool:=okSz n && decide (k≤1048576∧n*k≤16777216)
def jfrontN (n k s:Nat):List UInt8:=jsign++fixedN n 4++fixedN k 4++fixedN s 8
def jheadN (n k s:Nat):List UInt8:=jfrontN n k s++fixedN (sumN (jfrontN n k s)) 4
def jfootN (s:Nat) (b:List UInt8):List UInt8:=fixedN (sumN (fixedN s 8++b)) 4
def jbodyN (p:Nat) (b:List UInt8):List UInt8:=fixedN p 4++b
def jputN (s p:Nat) (b:List UInt8):List UInt8:=jbodyN p b++jfootN s (jbodyN p b)
def okE (f:Fr):Bool:=decide (1≤f.page∧f.page≤1048576∧f.commit=0) && okSz f.b.length
theorem okJ_1 {n k:Nat} (h:okZ (n:Int)=false):okJ n k=false:=by rw [okZ_nat] at h;simp [okJ,h]
theorem okJ_2 {n k:Nat} (h:¬k≤1048576):okJ n k=false:=by simp [okJ,h]
theorem okJ_3 {n k:Nat} (h:¬n*k≤16777216):okJ n k=false:=by simp [okJ,h]
theorem okJ_t {n k:Nat} (h:okZ (n:Int)=true) (h1:k≤1048576) (h2:n*k≤16777216):okJ n k=true:=by rw [okZ_nat] at h;simp [okJ,h,h1,h2]
theorem okZ_le {n:Nat} (h:okZ (n:Int)=true):n=256∨n=512∨n=1024∨n=2048∨n=4096:=by
 have:=of_decide_eq_true h;omega
theorem okZ_mul {n k:Nat} (h:okZ (n:Int)=true) (hk:k≤1048576):n*k≤4294967296:=
 Nat.le_trans (Nat.mul_le_mul (show n≤4096 by have:=okZ_le h;omega) hk) (by decide)
theorem okZ_quo {n k:Nat} (h:okZ (n:Int)=true):k≤16777216 / n↔n*k≤16777216:=by
 rcases okZ_le h with rfl | rfl | rfl | rfl | rfl<;>omega
theorem jheadN_len (n k s:Nat):(jheadN n k s).length=28:=by simp [jheadN,jfrontN,jsign,fixedN_len]
theorem jputN_len (s p:Nat) (b:List UInt8):(jputN s p b).length=b.length+8:=by simp [jputN,jbodyN,jfootN,fixedN_len];omega
theorem okE_1 {p q:Int} {l:List UInt8} (h:¬(1≤p∧p≤1048576∧q=0)):okE ⟨p,q,l⟩=false:=by simp only [okE,decide_eq_false h,Bool.false_and]
theorem okE_2 {p q:Int} {l:List UInt8} (h:okZ (l.length:Int)=false):okE ⟨p,q,l⟩=false:=by rw [okZ_nat] at h;simp only [okE,h,Bool.and_false]
theorem okE_t {p q:Int} {l:List UInt8} (h:okZ (l.length:Int)=true) (h1:1≤p∧p≤1048576∧q=0):okE ⟨p,q,l⟩=true:=by rw [okZ_nat] at h;simp only [okE,h,decide_eq_true h1,Bool.and_true]
end Go.Proofs.YtndlpekckpdncaaGreat
namespace Go.Proofs
open Go.Shelf
def Tryz.keysC_ren:Go.Shelf.Ren:=⟨fun | 7=>319 | 10=>320 | n=>n,fun | 23=>245 | 26=>3 | 3=>339 | 28=>217 | 0=>0 | 27=>216 | 33=>49 | 4=>4 | n=>n,fun | n=>n⟩
theorem Tryz.keysC:Go.Proofs.SlLaysZI.n7 Tryz.prog Tryz.keysC_ren:={
 mixed:=by kernel_rfl
 f7:=⟨Tryz.f319.name,by decide,Tryz.func319.trans (congrArg some (by kernel_rfl))⟩
 f10:=⟨Tryz.f320.name,by decide,Tryz.func320.trans (congrArg some (by kernel_rfl))⟩
 t0:=Tryz.underlying0
 a0:=Tryz.isAgg0
 z0:=Tryz.sizeOf0
 v0:=Tryz.zeroValue0
 t4:=Tryz.underlying4
 a4:=Tryz.isAgg4
 z4:=Tryz.sizeOf4
 v4:=Tryz.zeroValue4
 t23:=Tryz.underlying245
 a23:=Tryz.isAgg245
 z23:=Tryz.sizeOf245
 v23:=Tryz.zeroValue245
 t26:=Tryz.underlying3
 a26:=Tryz.isAgg3
 z26:=Tryz.sizeOf3
 v26:=Tryz.zeroValue3
 t27:=Tryz.underlying216
 a27:=Tryz.isAgg216
 z27:=Tryz.sizeOf216
 v27:=Tryz.zeroValue216
 t28:=Tryz.underlying217
 a28:=Tryz.isAgg217
 z28:=Tryz.sizeOf217
 v28:=Tryz.zeroValue217
 t33:=Tryz.underlying49
 a33:=Tryz.isAgg49
 z33:=Tryz.sizeOf49
 v33:=Tryz.zeroValue49 }
end Go.Proofs
namespace Go.Proofs.YtndlpekckpdncaaGreat
open Go Go.HL Go.RowKit Go.Maps Go.Sort Go.Shelf Go.MapKept
theorem ckeys_any {h:Heap} {mb:Nat} : HC Tryz.prog 319 #[.map (some mb)] h (fun v h'=>v=.func (.func 320) #[] #[ptr h.size]∧h'=h.push (.cells #[.map (some mb)] 245 (0,0))):=
 HC.of_calls ⟨_,Tryz.func319,by decide,rfl⟩ fun w hw=>(callsIn_wide.1 (AnyZI.keys_in Tryz.keysC Fence.wide 5 trivial rfl (some mb) w)).mono fun e w' ⟨h1,h2⟩=>by
  subst h2 hw;exact ⟨_,h1,(RowKit.Below.refl _ w).alloc (Nat.le_refl _) _,rfl,rfl⟩
theorem csorted_any {h:Heap} {mb:Nat} {ks:List Int} {f:Int→Value} (hm:MapT (Value.int .i64) h mb (ks.map fun k=>(k,f k))) (hr:∀k∈ks,-9223372036854775808≤k∧k≤9223372036854775807) (hl:ks.length≤1000000000000) :
  HC Tryz.prog 144 #[.func (.func 320) #[] #[ptr h.size]] (h.push (.cells #[.map (some mb)] 245 (0,0)))
   (fun v h'=>∃S:List Int,S.Perm ks∧S.Pairwise (·≤·)∧Own (h.push (.cells #[.map (some mb)] 245 (0,0))) h' 1 3 v (S.map iv)):=
 HC.of_calls ⟨_,Tryz.func144,by decide,rfl⟩ fun w hw=>by
  have hsz:w.heap.size=h.size+1:=by rw [hw];simp
  obtain ⟨nn,D,hown,hD,hK⟩:=owns_keys hm hr hl (w:=w) (by rw [hw,Array.getElem?_push,if_neg (by have:=hm.lt;omega)]);have hseq:SeqGives Fence.wide 2 Tryz.prog 320 #[.pointer (some ⟨h.size,0,none⟩)] encZ (fun ss=>ss.Perm (intKeys D)) (Maps.size D) w:=
   AnyZI.keys_gives (ρ:=Tryz.keysC_ren) { Tryz.keysC with } Fence.wide _ trivial rfl (by omega) h.size mb nn D w (by omega) (by rw [cell?_eq,hw];exact cell_of (push_same _ _) 0) hown
  have cS:=AnyZI.sorted_in Tryz.sortedA Fence.wide 5 trivial trivial trivial trivial rfl (by omega) (sorts_in _) (enters_of Tryz.func68 (by kernel_rfl) rfl) 320 #[.pointer (some ⟨h.size,0,none⟩)] trivial (enters_of Tryz.func320 (by kernel_rfl) rfl) _ (Maps.size D) (by show _≤9223372036854775807;omega) (by omega) w hseq;refine (callsIn_wide.1 cS).mono fun e w' ⟨v,ss,h1,h2,h3,h4,h5⟩=>⟨v,h1,by rw [←hw];exact h5,ss.mergeSort (fun x y=>decide (x≤y)),?_,?_,?_⟩
  ·exact (List.mergeSort_perm _ _).trans (h2.trans hK)
  ·have:=List.pairwise_mergeSort (le:=fun x y:Int=>decide (x≤y)) (fun a b c h1 h2=>by simp at h1 h2⊢;omega) (fun a b=>by simp;omega) ss;exact this.imp fun h=>by simpa using h
  ·have hx:Ext w.heap w'.heap:=Ext.of_below rfl h5;rw [←hw];have hml:(ss.mergeSort fun x y=>decide (x≤y)).length=ss.length:=List.length_mergeSort _;rcases h3.2 with ⟨rfl,hz⟩ | ⟨g,cap,cur,rfl,hg,hgb,hnc,hcm,hcs,hct⟩
   ·have hs0:ss=[]:=List.length_eq_zero_iff.1 hz;subst hs0;rw [List.mergeSort_nil];exact Own.nil hx _ _
   ·refine ⟨⟨_,_,_,rfl,hnc,hcm,by simp,.inr ⟨g,0,cur,(0,0),rfl,hgb,by simp;omega,fzOk_zero _,?_⟩⟩,hx,fun b hb=>?_⟩
    ·rw [List.drop_zero];exact hct
    ·obtain ⟨o,n,c,e⟩:=hb;injection e with e;injection e with e;injection e with e;subst e;exact hg
def AFr.fr (x:AFr):Fr:=⟨x.page,x.commit,x.b⟩
def FrIn (h:Heap) (G:Nat→Prop) (v:Value) (L:List AFr):Prop:=∃x:SV,v=sv x∧RdL h G G x (L.map AFr.fr)
theorem FrIn.nil {h:Heap} {G:Nat→Prop} : FrIn h G (.slice none 0 0) []:=⟨(none,0,0),rfl,RdL.nil _ _ _⟩
theorem put_anyF {h:Heap} {F:Nat→Prop} {p:Nat} {room:Int} {L:List AP} (r:CRep h F p room L) (hlen:L.length≤100000000) (no:Int) {bs:SV} {l:List UInt8} (hb:Sl h 1 (sv bs) (l.map bv)) (hbl:l.length≤1000000) (d:Bool) (hrm:1≤room) :
  HC Tryz.prog 288 #[ptr p,.int .i64 no,sv bs,.bool d] h (fun v h'=>∃F',CRep h' F' p room (putL room no l d L)∧Step F h F' h'∧FrIn h' F' v (putA room no l d L)):=by
 obtain ⟨m,ov,ks,q,r⟩:=r;obtain ⟨dd,hdd⟩:∃dd,dd=(d || wasD no L):=⟨_,rfl⟩;refine HC.body Tryz.func288 rfl (by kernel_rfl) 87 rfl rfl ?_;refine HW.seq fun K1 hK1=>?_;refine HW.region ?_;refine HO.v (V.asS rfl) rfl 8 rfl rfl ?_;refine HO.nil ?_;refine hK1 _ _ ?_;refine HW.seq fun K2 hK2=>?_;refine HW.seq fun K3 hK3=>?_;refine HW.region ?_;refine HO.v (V.mvP rfl) rfl 12 rfl rfl ?_;refine HO.v (V.ptrEqNil rfl rfl T.pt194) rfl 13 rfl rfl ?_;refine HO.v (V.mvB rfl) rfl 14 rfl rfl ?_;refine HO.spl (fun hb2=>?_) (fun hb2=>?_)
 ·
  refine HO.no rfl 15 rfl rfl ?_;refine HO.no rfl 16 rfl rfl ?_;refine HO.v (V.pick_t rfl rfl) rfl 17 rfl rfl ?_;refine HO.nil ?_;refine hK3 _ _ ?_;refine HW.cond_t rfl ?_;refine HW.seq fun K4 hK4=>?_;refine HW.region ?_;refine HO.v (V.asS rfl) rfl 8 rfl rfl ?_;refine HO.nil ?_;refine hK4 _ _ ?_;refine HW.ret ?_;refine ⟨.slice none 0 0,Res.one rfl rfl,(by simp at hb2)⟩
 ·
  refine HO.v (V.mvI rfl) rfl 15 rfl rfl ?_;refine HO.v (V.lss rfl rfl rfl) rfl 16 rfl rfl ?_;refine HO.v (V.pick_f rfl rfl) rfl 17 rfl rfl ?_;refine HO.nil ?_;refine hK3 _ _ ?_;refine HW.cond rfl (fun hc=>?_) (fun hc=>?_)
  ·
   refine HW.seq fun K5 hK5=>?_;refine HW.region ?_;refine HO.v (V.asS rfl) rfl 8 rfl rfl ?_;refine HO.nil ?_;refine hK5 _ _ ?_;refine HW.ret ?_;refine ⟨.slice none 0 0,Res.one rfl rfl,F,(by unfold putL;rw [if_pos (of_decide_eq_true hc)];exact ⟨m,ov,ks,q,r⟩),⟨Chg.refl _ _,fun b hb=>.inl hb⟩,(by unfold putA;rw [if_pos (of_decide_eq_true hc)];exact FrIn.nil)⟩
  refine HW.skip ?_;refine hK2 _ _ ?_;refine HW.seqc (fun s hh=>Has s [(0,ptr p),(1,.int .i64 no),(2,sv bs),(3,.bool dd)]∧h=hh) ?_ ?_
  ·
   refine HW.seq fun K7 hK7=>?_;refine HW.region ?_;refine HO.v (V.mvP rfl) rfl 18 rfl rfl ?_;refine HO.v (V.nilCheck rfl) rfl 19 rfl rfl ?_;refine HO.v (V.fieldAddr rfl T.fd249_2) rfl 20 rfl rfl ?_;refine HO.v (V.load rfl (load_one T.ag245 (v:=.map (some m)) (cell_of r.hp 2))) rfl 21 rfl rfl ?_;refine HO.v (V.mvI rfl) rfl 22 rfl rfl ?_;refine HO.v (V.lookupE (KV.int .i64) rfl rfl r.mp.map T.mp245 (inB_iff T.in3) T.zr339 (r.mp.get no)) rfl 23 rfl rfl ?_;refine HO.v (V.asP rfl) rfl 9 rfl rfl ?_;refine HO.nil ?_;refine hK7 _ _ ?_;refine HW.seq fun K8 hK8=>?_;refine HW.region ?_;refine HO.v (V.mvP rfl) rfl 24 rfl rfl ?_;refine HO.v (V.ptrNeNil rfl rfl T.pt339) rfl 25 rfl rfl ?_;refine HO.nil ?_;refine hK8 _ _ ?_;refine HW.condr rfl (fun hc=>?_) (fun hc=>?_)
   ·
    refine HW.skip ?_;have hn:hit no L=none:=by simpa using hc
    obtain rfl:d=dd:=by subst hdd;unfold wasD;rw [hn];simp
    refine ⟨⟨rfl,rfl,rfl,rfl,trivial⟩,rfl⟩
   refine HW.region ?_;refine HO.v (V.mvB rfl) rfl 26 rfl rfl ?_;refine HO.v (V.mvB rfl) rfl 27 rfl rfl ?_;refine HO.spl (fun hb1=>?_) (fun hb1=>?_)
   ·
    refine HO.no rfl 28 rfl rfl ?_;refine HO.no rfl 29 rfl rfl ?_;refine HO.no rfl 30 rfl rfl ?_;refine HO.no rfl 31 rfl rfl ?_;refine HO.v (V.pick_t rfl rfl) rfl 32 rfl rfl ?_;refine HO.v (V.asB rfl) rfl 3 rfl rfl ?_;refine HO.nil ?_;obtain rfl:true=dd:=by subst hdd hb1;simp
    refine ⟨⟨rfl,rfl,rfl,rfl,trivial⟩,rfl⟩
   ·
    have hx:∃x,hit no L=some x:=by
     cases e:hit no L with
     | some x=>exact ⟨x,rfl⟩
     | none=>rw [e] at hc;simp at hc
    obtain ⟨x,hx⟩:=hx;obtain ⟨hxm,hxn⟩:=hit_some hx;obtain ⟨pb,hq,_⟩:=r.hpage hxm;rw [hxn] at hq;rw [hx];refine HO.v (V.mvP rfl) rfl 28 rfl rfl ?_;refine HO.v (V.nilCheck rfl) rfl 29 rfl rfl ?_;refine HO.v (V.fieldAddr rfl T.fd341_1) rfl 30 rfl rfl ?_;refine HO.v (V.load rfl (load_one T.ag4 (v:=.bool x.d) (cell_of hq 1))) rfl 31 rfl rfl ?_;refine HO.v (V.pick_f rfl rfl) rfl 32 rfl rfl ?_;refine HO.v (V.asB rfl) rfl 3 rfl rfl ?_;refine HO.nil ?_;obtain rfl:x.d=dd:=by subst hdd hb1;unfold wasD;rw [hx];simp
    refine ⟨⟨rfl,rfl,rfl,rfl,trivial⟩,rfl⟩
  rintro s hh ⟨hs,rfl⟩;refine HW.frame hs fun τ=>?_;refine HW.seq fun K9 hK9=>?_;refine HW.any 10 (fun fl h=>cond fl True (h[p]? = some (.cells #[sv ov,.int .i64 room,.map (some m)] 249 (0,0)))) mixed ?_;have hS:h[p]? = some (.cells #[sv ov,.int .i64 room,.map (some m)] 249 (0,0)):=r.hp;refine HA.p 0 rfl (by kernel_rfl) (by kernel_rfl) (by kernel_rfl) rfl rfl 33 rfl rfl (fl:=false) (by kernel_rfl) hS (fun _=>V.mvP rfl) ?_;refine HA.p 1 rfl (by kernel_rfl) (by kernel_rfl) (by kernel_rfl) rfl rfl 34 rfl rfl (fl:=false) (by kernel_rfl) hS (fun _=>V.nilCheck rfl) ?_;refine HA.p 2 rfl (by kernel_rfl) (by kernel_rfl) (by kernel_rfl) rfl rfl 35 rfl rfl (fl:=false) (by kernel_rfl) hS (fun _=>V.fieldAddr rfl T.fd249_2) ?_;refine HA.v 3 rfl (by kernel_rfl) (by kernel_rfl) (by kernel_rfl) rfl rfl 36 rfl rfl (fl:=false) (by kernel_rfl) hS (by kernel_rfl) (fun _ hS=>V.load rfl (load_one T.ag245 (v:=.map (some m)) (cell_of hS 2))) ?_;refine HA.p 4 rfl (by kernel_rfl) (by kernel_rfl) (by kernel_rfl) rfl rfl 37 rfl rfl (fl:=false) (by kernel_rfl) hS (fun _=>V.mvI rfl) ?_;refine HA.p 5 rfl (by kernel_rfl) (by kernel_rfl) (by kernel_rfl) rfl rfl 38 rfl rfl (fl:=false) (by kernel_rfl) hS (fun _=>V.mvS rfl) ?_;refine HA.p 7 rfl (by kernel_rfl) (by kernel_rfl) (by kernel_rfl) rfl rfl 40 rfl rfl (fl:=false) (by kernel_rfl) hS (fun _=>V.mvB rfl) ?_;refine HA.one 6 (by kernel_rfl) ?_;refine Up.c rfl rfl 39 rfl rfl OpC.func (cloneB_any hb (by omega)) (fl:=false) (by kernel_rfl) ?_;rintro _ h1 ow;have hSn:h1[p]? = some (.cells #[sv ov,.int .i64 room,.map (some m)] 249 (0,0)):=ow.ext.block r.hp (fun f=>f);refine ⟨hSn,?_⟩;replace hS:=hSn;obtain ⟨rb,rfl⟩:=ow.cap.form;refine HA.p 8 rfl (by kernel_rfl) (by kernel_rfl) (by kernel_rfl) rfl rfl 41 rfl rfl (fl:=false) (by kernel_rfl) hS (fun _=>V.build (cs:=#[sv rb,.bool dd]) T.zr341 T.pl341 rfl) ?_;refine HA.one 9 (by kernel_rfl) ?_;have hSn:(h1.push (.cells #[sv rb,.bool dd] 341 (0,0)))[p]? = some (.cells #[sv ov,.int .i64 room,.map (some m)] 249 (0,0)):=push_other hS;refine Up.e rfl rfl 42 rfl rfl (V.boxA rfl) (fl:=false) (by kernel_rfl) hSn ?_;replace hS:=hSn;refine HA.one 10 (by kernel_rfl) ?_;have e2:Ext h (h1.push (.cells #[sv rb,.bool dd] 341 (0,0))):=ow.ext.trans (Ext.push _ _);refine Up.ur rfl rfl rfl (V.mapUpdate (KV.int .i64) V.sbI rfl rfl rfl (r.mp.map.ext e2) T.mp245 (inB_iff T.in3)) (fl:=true) (by kernel_rfl) ?_;rintro h3 pu;refine ⟨trivial,?_⟩;refine HA.done (by kernel_rfl) ?_;refine hK9 _ _ ?_;refine HW.seq fun K10 hK10=>?_;have c3:CMap h3 (fun b=>F b∨h.size≤b) m (putL1 no l d L) (kput ks no) (fput q no h1.size):=by
   have c2:CMap (h1.push (.cells #[sv rb,.bool dd] 341 (0,0))) F m L ks q:=r.mp.chg e2 (fun _ g _=>g.elim) fun _ f=>f;have hp:PgAt (h1.push (.cells #[sv rb,.bool dd] 341 (0,0))) (fun b=>F b∨h.size≤b) h1.size ⟨no,l,dd⟩:=⟨⟨rb,push_same _ _,ow.cap.ext (Ext.push _ _),fun j hj=>.inr (ow.fresh j hj)⟩,.inr ow.ext.size⟩;have:=c2.put hp (fun y hy e=>by
    have h1:=r.lt _ (r.mp.pg y hy).own;have h2:=ow.ext.size;omega) (fun b f=>.inl f) pu
   unfold putL1;rw [←hdd];exact this
  have hsz:h.size≤h3.size:=by have h1:=e2.size;have h2:=pu.size;omega
  have hc3:Chg (fun b=>b=m) h h3:=e2.to.trans pu.chg;have o3:Ordr h3 p (.int .i64 room) (.map (some m)) ov (nos L).reverse:=r.od.chg hc3 r.ne_p r.ne_o;refine HW.region ?_;refine HO.v (V.mvP rfl) rfl 43 rfl rfl ?_;refine HO.v (V.nilCheck rfl) rfl 44 rfl rfl ?_;refine HO.v (V.fieldAddr rfl T.fd249_0) rfl 45 rfl rfl ?_;refine HO.v (V.mvI rfl) rfl 46 rfl rfl ?_;refine HO.c OpC.func rfl 47 rfl rfl (touch_any o3 (by have:=r.len;simp [nos];omega)) ?_;rintro _ h4 ⟨ov1,rfl,t⟩;refine HO.nil ?_;refine hK10 _ _ ?_;have o4:Ordr h4 p (.int .i64 room) (.map (some m)) ov1 (nos (putL1 no l d L)).reverse:=by
   have:=t.ordr;have e:=order_touch (x:=⟨no,l,d || wasD no L⟩) r.mp.nd;rw [e] at this;exact this
  have c4:CMap h4 (fun b=>F b∨h.size≤b) m (putL1 no l d L) (kput ks no) (fput q no h1.size):=c3.chg t.chg (fun b g _=>by
   rcases g with rfl | hb
   ·exact .inl ⟨_,_,o3.hp⟩
   ·exact .inr (o3.ord.blk hb)) fun _ f=>f
  have i4:=CIn.mk' c4 o4 (.inl r.fp) (fun b hb=>(t.place b hb).imp (r.fo b) fun h=>Nat.le_trans hsz h) (by have h1:=putL1_len no l d L;omega) (fun y hy=>by
   rcases List.mem_cons.1 hy with rfl | hy
   ·exact hbl
   ·exact r.sm y (mem_rid.1 hy).1)
  have st4:Step F h (fun b=>(F b∨h.size≤b)∧b<h4.size) h4:=⟨(hc3.mono fun b _ hb=>by subst hb;exact r.mp.own).trans' t.chg fun b _ hb=>by
   rcases hb with rfl | hb
   ·exact r.fp
   ·exact r.fo b hb,fun b hb=>hb.1⟩
  have hno:¬no<1:=of_decide_eq_false hc;have hol:ov1.2.1=(putL1 no l d L).length:=by
   obtain ⟨a,n,c⟩:=ov1;have ho:Cap h4 1 3 (.slice a n c) ((nos (putL1 no l d L)).reverse.map iv):=o4.ord;have:=ho.sl.cells.len;simpa [nos] using this.symm
  refine HW.seq fun K11 hK11=>?_;refine HW.seq fun K12 hK12=>?_;refine HW.quiet mixed (by kernel_rfl) ?_;refine HQ.v (V.mvP rfl) rfl 48 rfl rfl ?_;refine HQ.v (V.nilCheck rfl) rfl 49 rfl rfl ?_;refine HQ.v (V.fieldAddr rfl T.fd249_0) rfl 50 rfl rfl ?_;refine HQ.v (V.fieldAddr rfl T.fd247_0) rfl 51 rfl rfl ?_;refine HQ.v (V.load rfl (load_one T.ag24 (v:=sv ov1) (cell_of t.ordr.hp 0))) rfl 52 rfl rfl ?_;refine HQ.v (V.len rfl T.el24) rfl 53 rfl rfl ?_;refine HQ.v (V.mvP rfl) rfl 54 rfl rfl ?_;refine HQ.v (V.nilCheck rfl) rfl 55 rfl rfl ?_;refine HQ.v (V.fieldAddr rfl T.fd249_1) rfl 56 rfl rfl ?_;refine HQ.v (V.load rfl (load_one T.ag3 (v:=.int .i64 room) (cell_of t.ordr.hp 1))) rfl 57 rfl rfl ?_;refine HQ.v (V.leq rfl rfl rfl) rfl 58 rfl rfl ?_;refine HQ.nil ?_;refine hK12 _ _ ?_;refine HW.cond rfl (fun hc=>?_) (fun hc=>?_)
  ·
   refine HW.seq fun K13 hK13=>?_;have hle:((putL1 no l d L).length:Int)≤room:=by have:=of_decide_eq_true hc;omega
   refine HW.region ?_;refine HO.v (V.asS rfl) rfl 8 rfl rfl ?_;refine HO.nil ?_;refine hK13 _ _ ?_;refine HW.ret ?_;refine ⟨.slice none 0 0,Res.one rfl rfl,_,(by unfold putL;rw [if_neg hno,if_pos hle];exact ⟨m,ov1,_,_,i4⟩),st4,(by unfold putA;rw [if_neg hno,if_pos hle];exact FrIn.nil)⟩
  refine HW.skip ?_;refine hK11 _ _ ?_;refine HW.seq fun K14 hK14=>?_;have hgt:¬((putL1 no l d L).length:Int)≤room:=by have:=of_decide_eq_false hc;omega
  obtain ⟨x,hlast⟩:∃x,(putL1 no l d L).getLast? = some x:=by
   cases e:(putL1 no l d L).getLast? with
   | some x=>exact ⟨x,rfl⟩
   | none=>rw [List.getLast?_eq_none_iff] at e;simp [putL1] at e
  have hxm:x∈putL1 no l d L:=List.mem_of_getLast? hlast;obtain ⟨pb,hq,hpb,hpf⟩:=i4.hpage hxm;have hhx:hit x.no (putL1 no l d L)=some x:=by
   obtain ⟨y,hy⟩:=hit_mem (List.mem_map.2 ⟨x,hxm,rfl⟩:x.no∈nos (putL1 no l d L));rw [hy,nos_inj i4.mp.nd (hit_some hy).1 hxm (hit_some hy).2]
  obtain ⟨oa,on,oc⟩:=ov1;have hoc0:Cap h4 1 3 (.slice oa on oc) ((nos (putL1 no l d L)).reverse.map iv):=o4.ord;have hol':on=(putL1 no l d L).length:=hol;obtain ⟨ob,oo,rfl,hoc⟩:=hoc0.sl.cells.pos (by rw [hol'];simp [putL1]);have hx0:((nos (putL1 no l d L)).reverse.map iv)[0]? = some (.int .i64 x.no):=by
   obtain ⟨M,hM⟩:=List.getLast?_eq_some_iff.1 hlast;rw [hM];simp [nos,iv]
  refine HW.region ?_;refine HO.v (V.mvP rfl) rfl 59 rfl rfl ?_;refine HO.v (V.nilCheck rfl) rfl 60 rfl rfl ?_;refine HO.v (V.fieldAddr rfl T.fd249_0) rfl 61 rfl rfl ?_;refine HO.v (V.fieldAddr rfl T.fd247_0) rfl 62 rfl rfl ?_;refine HO.v (V.load rfl (load_one T.ag24 (v:=sv (some ⟨ob,oo,none⟩,on,oc)) (cell_of t.ordr.hp 0))) rfl 63 rfl rfl ?_;refine HO.v (V.indexAddr1 rfl rfl T.el24 T.sz3 (by omega)) rfl 64 rfl rfl ?_;refine HO.v (V.load rfl (load_one T.ag3 (v:=.int .i64 x.no) (hoc 0 _ hx0))) rfl 65 rfl rfl ?_;refine HO.v (V.asI rfl) rfl 10 rfl rfl ?_;refine HO.nil ?_;refine hK14 _ _ ?_;refine HW.seq fun K15 hK15=>?_;refine HW.region ?_;refine HO.v (V.mvP rfl) rfl 66 rfl rfl ?_;refine HO.v (V.nilCheck rfl) rfl 67 rfl rfl ?_;refine HO.v (V.fieldAddr rfl T.fd249_2) rfl 68 rfl rfl ?_;refine HO.v (V.load rfl (load_one T.ag245 (v:=.map (some m)) (cell_of t.ordr.hp 2))) rfl 69 rfl rfl ?_;refine HO.v (V.mvI rfl) rfl 70 rfl rfl ?_;refine HO.v (V.lookupE (KV.int .i64) rfl rfl i4.mp.map (v:=ptr (fput q no h1.size x.no)) T.mp245 (inB_iff T.in3) T.zr339 ((i4.mp.get x.no).trans (by rw [hhx];rfl))) rfl 71 rfl rfl ?_;refine HO.v (V.asP rfl) rfl 11 rfl rfl ?_;refine HO.nil ?_;refine hK15 _ _ ?_;refine HW.seq fun K16 hK16=>?_;refine HW.region ?_;refine HO.v (V.mvP rfl) rfl 72 rfl rfl ?_;refine HO.v (V.mvI rfl) rfl 73 rfl rfl ?_;refine HO.c OpC.func rfl 74 rfl rfl (drop_in i4 x.no) ?_;rintro _ h5 ⟨ov5,rfl,i5,chg5⟩;refine HO.nil ?_;refine hK16 _ _ ?_;have hk5:∀b,(b=m∨b=p∨blkC (sv (some ⟨ob,oo,none⟩,on,oc)) b)→isT h4 b 341∨isT h4 b 5→False:=fun b hb ht=>by
   rcases hb with rfl | hb
   ·obtain ⟨es,cl,h1,_⟩:=i4.mp.map;rcases ht with ⟨cs,fz,h2⟩ | ⟨cs,fz,h2⟩<;>(rw [h1] at h2;injection h2 with h2;cases h2)
   ·rcases i4.kind b hb with h1 | h1<;>rcases ht with h2 | h2<;>exact absurd (h1.eq h2) (by decide)
  have hq5:h5[fput q no h1.size x.no]? = some (.cells #[sv pb,.bool x.d] 341 (0,0)):=chg5.block hq fun hb=>hk5 _ hb (.inl ⟨_,_,hq⟩);have hpb5:Cap h5 1 5 (sv pb) (x.b.map bv):=hpb.chg chg5 fun j hj hb=>hk5 _ hb (.inr (hpb.blk hj));have st5:=st4.trans (F2:=wd (fun b=>(F b∨h.size≤b)∧b<h4.size) h4.size h5.size) ⟨chg5.mono fun b _ hb=>by
   rcases hb with rfl | rfl | hb
   ·exact i4.mp.own
   ·exact i4.fp
   ·exact i4.fo b hb,fun b hb=>hb.imp id fun h=>h.1⟩
  refine HW.seq fun K17 hK17=>?_;refine HW.seq fun K18 hK18=>?_;refine HW.region ?_;refine HO.v (V.mvP rfl) rfl 75 rfl rfl ?_;refine HO.v (V.nilCheck rfl) rfl 76 rfl rfl ?_;refine HO.v (V.fieldAddr rfl T.fd341_1) rfl 77 rfl rfl ?_;refine HO.v (V.load rfl (load_one T.ag4 (v:=.bool x.d) (cell_of hq5 1))) rfl 78 rfl rfl ?_;refine HO.v (V.not rfl) rfl 79 rfl rfl ?_;refine HO.nil ?_;refine hK18 _ _ ?_;refine HW.cond rfl (fun hc=>?_) (fun hc=>?_)
  ·
   refine HW.seq fun K19 hK19=>?_;refine HW.region ?_;refine HO.v (V.asS rfl) rfl 8 rfl rfl ?_;refine HO.nil ?_;refine hK19 _ _ ?_;refine HW.ret ?_;refine ⟨.slice none 0 0,Res.one rfl rfl,_,(by unfold putL;rw [if_neg hno,if_neg hgt,←drop_last i4.mp.nd hlast];exact ⟨m,ov5,_,_,i5⟩),st5,(by unfold putA;rw [if_neg hno,if_neg hgt,hlast,told_no (by simpa using hc)];exact FrIn.nil)⟩
  refine HW.skip ?_;refine hK17 _ _ ?_;refine HW.seq fun K20 hK20=>?_;refine HW.region ?_;refine HO.v (V.mvI rfl) rfl 80 rfl rfl ?_;refine HO.v (V.mvP rfl) rfl 81 rfl rfl ?_;refine HO.v (V.nilCheck rfl) rfl 82 rfl rfl ?_;refine HO.v (V.fieldAddr rfl T.fd341_0) rfl 83 rfl rfl ?_;refine HO.v (V.load rfl (load_one T.ag44 (v:=sv pb) (cell_of hq5 0))) rfl 84 rfl rfl ?_;refine HO.v (V.build (cs:=#[.int .i64 x.no,.int .i64 0,sv pb]) T.zr277 T.pl277 rfl) rfl 85 rfl rfl ?_;refine HO.e (V.buildSlice [.tmp 85] (cs:=#[.int .i64 x.no,.int .i64 0,sv pb]) T.el252 T.sz277 T.zr277 rfl rfl rfl ⟨rfl,trivial⟩ rfl) rfl 86 rfl rfl ?_;refine HO.v (V.asS rfl) rfl 8 rfl rfl ?_;refine HO.nil ?_;refine hK20 _ _ ?_;refine HW.ret ?_;have i6:CIn (h5.push (.cells #[.int .i64 x.no,.int .i64 0,sv pb] 277 (0,0))) (fun b=>wd (fun b=>(F b∨h.size≤b)∧b<h4.size) h4.size h5.size b∨b=h5.size) p m ov5 room _ _ _:=
   ⟨i5.mp.chg (G:=none_) (Ext.push _ _) (fun _ f=>f.elim) fun _ f=>.inl f,i5.od.chg (G:=none_) (Ext.push _ _) (fun f=>f) fun _ _ f=>f,.inl i5.fp,fun b hb=>.inl (i5.fo b hb),fun b hb=>by
    rw [Array.size_push];rcases hb with hb | rfl
    ·have:=i5.lt b hb;omega
    ·omega,i5.len,i5.sm⟩
  refine ⟨.slice (some ⟨h5.size,0,none⟩) 1 1,Res.one rfl rfl,_,(by unfold putL;rw [if_neg hno,if_neg hgt,←drop_last i4.mp.nd hlast];exact ⟨m,ov5,_,_,i6⟩),⟨st5.chg.trans' (Ext.push _ _) fun _ _ f=>f.elim,fun b hb=>Or.elim (show wd (fun b=>(F b∨h.size≤b)∧b<h4.size) h4.size h5.size b∨b=h5.size from hb) (st5.place b) fun e=>.inr (by have:=st5.chg.size;omega)⟩,?_⟩;have hd:x.d=true:=by simpa using hc
  unfold putA;rw [if_neg hno,if_neg hgt,hlast,told_yes hd];refine ⟨(some ⟨h5.size,0,none⟩,1,1),rfl,rfl,Nat.le_refl _,by simp,fun _=>⟨h5.size,0,rfl,.inr rfl,fun i hi=>?_⟩⟩;obtain rfl:i=0:=by simp at hi;omega
  refine ⟨[.int .i64 x.no,.int .i64 0,sv pb],⟨pb,rfl,(RdL.of_cap1 (f:=bv) (x:=pb) (l:=x.b) (E:=none_) rfl (fun _ _ _=>rfl) (hpb5.ext (Ext.push _ _))).mono (fun j hj=>.inl (.inl (hpf j hj))) (fun _ f=>f.elim)⟩,fun j v hj=>?_⟩;rw [Nat.zero_mul,Nat.zero_add];exact cell_of (push_same _ _) j |>.trans (by simpa using hj)
theorem ints_cell {h:Heap} {a:Option Addr} {n c:Nat} {l:List Int} (r:Sl h 1 (.slice a n c) (l.map iv)) {j:Nat} (hj:j<l.length):∃b o,a=some ⟨b,o,none⟩∧cell h b (o+j)=some (.int .i64 l[j]):=by
 have hl:=r.cells.len;obtain ⟨b,o,rfl,hc⟩:=r.cells.pos (by simp at hl;omega);exact ⟨b,o,rfl,hc j _ (by simp [hj,iv])⟩
def dirty1 (L:List AP) (k:Int):List AFr:=toldL (hit k L)
def dirtyS (S:List Int) (L:List AP):List AFr:=S.flatMap (dirty1 L)
structure FrCap (h:Heap) (f:CFr) (x:AFr):Prop where
 page:f.page=x.page
 commit:f.commit=x.commit
 b:Cap h 1 5 (sv f.b) (x.b.map bv)
theorem FrCap.chg {F:Nat→Prop} {h h':Heap} {f:CFr} {x:AFr} (r:FrCap h f x) (c:Chg F h h') (hf:∀b,F b→isT h b 5→False):FrCap h' f x:=
 ⟨r.page,r.commit,r.b.chg c fun b hb g=>by
  obtain ⟨cs,fz,h1⟩:=r.b.blk hb;exact hf b g ⟨cs,fz,h1⟩⟩
structure FrNw (h0 h:Heap) (f:CFr) (x:AFr):Prop where
 is:FrCap h f x
 nw:∀j,blkC (sv f.b) j→h0.size≤j
theorem FrNw.in {h0 h:Heap} {v:SV} {fl:List CFr} {L:List AFr} (hx:Ext h0 h) (c:Cap h 3 277 (sv v) (fl.flatMap fr)) (hv:∀j,blkC (sv v) j→h0.size≤j) (hall:All2 (FrNw h0 h) fl L):FrIn h (Nw h0 h) (sv v) L:=by
 refine ⟨v,rfl,(RdL.of_cap (α:=Fr) (E:=Nw h0 h) (css:=fl.map fr) (by rw [←List.flatMap_def];exact c) ⟨by simp [hall.1],fun i h1 h2=>?_⟩).mono (fun j hj=>⟨hv j hj,c.lt hj⟩) (fun _ h=>h)⟩;have q:=hall.2 i (by simpa using h1) (by simpa using h2);rw [List.getElem_map,List.getElem_map];refine ⟨(fl[i]'(by simpa using h1)).b,by simp only [fr,AFr.fr,q.is.page,q.is.commit];rfl,(RdL.of_cap1 (f:=bv) (E:=none_) rfl (fun _ _ _=>rfl) q.is.b).mono (fun j hj=>⟨q.nw j hj,q.is.b.lt hj⟩) (fun _ f=>f.elim)⟩
theorem dirty_next {S:List Int} {L:List AP} {k:Nat} (h:k<S.length):dirtyS (S.take (k+1)) L=dirtyS (S.take k) L++dirty1 L S[k]:=by
 unfold dirtyS;rw [take_next h,List.flatMap_append];simp
theorem dirty_len (S:List Int) (L:List AP):(dirtyS S L).length≤S.length:=by
 unfold dirtyS;induction S with
 | nil=>simp
 | cons a s ih=>
  rw [List.flatMap_cons,List.length_append];have:(dirty1 L a).length≤1:=by
   unfold dirty1 toldL;split
   ·split<;>simp
   ·simp
  simp only [List.length_cons];omega
theorem dirty_any {h:Heap} {F:Nat→Prop} {p:Nat} {room:Int} {L:List AP} (r:CRep h F p room L) (hr:∀k∈nos L,-9223372036854775808≤k∧k≤9223372036854775807) :
  HC Tryz.prog 316 #[ptr p] h (fun v h'=>∃S:List Int,S.Perm (nos L)∧S.Pairwise (·≤·)∧FrIn h' (Nw h h') v (dirtyS S L)∧Ext h h'):=by
 obtain ⟨mb,ov,ks,q,r⟩:=r;have hkp:ks.Perm (nos L):=(List.perm_ext_iff_of_nodup r.mp.keys r.mp.nd).2 r.mp.mem;have hkl:ks.length≤1000000000000:=by rw [hkp.length_eq];have:=r.len;simp [nos];omega
 refine HC.body Tryz.func316 rfl (by kernel_rfl) 42 rfl rfl ?_;refine HW.seq fun K1 hK1=>?_;refine HW.region ?_;refine HO.v (V.asS rfl) rfl 2 rfl rfl ?_;refine HO.nil ?_;refine hK1 _ _ ?_;refine HW.seq fun K2 hK2=>?_;refine HW.seq fun K3 hK3=>?_;refine HW.region ?_;refine HO.v (V.mvP rfl) rfl 7 rfl rfl ?_;refine HO.v (V.ptrEqNil rfl rfl T.pt194) rfl 8 rfl rfl ?_;refine HO.nil ?_;refine hK3 _ _ ?_;refine HW.cond rfl (fun hc=>?_) (fun hc=>?_)
 ·
  refine HW.seq fun K4 hK4=>?_;refine HW.region ?_;refine HO.v (V.asS rfl) rfl 2 rfl rfl ?_;refine HO.nil ?_;refine hK4 _ _ ?_;refine HW.ret ?_;refine ⟨.slice none 0 0,Res.one rfl rfl,(by simp at hc)⟩
 refine HW.skip ?_;refine hK2 _ _ ?_;refine HW.seq fun K5 hK5=>?_;refine HW.region ?_;refine HO.v (V.asS rfl) rfl 3 rfl rfl ?_;refine HO.nil ?_;refine hK5 _ _ ?_;refine HW.seq fun K6 hK6=>?_;refine HW.seq fun K7 hK7=>?_;refine HW.region ?_;refine HO.v (V.mvP rfl) rfl 9 rfl rfl ?_;refine HO.v (V.nilCheck rfl) rfl 10 rfl rfl ?_;refine HO.v (V.fieldAddr rfl T.fd249_2) rfl 11 rfl rfl ?_;refine HO.v (V.load rfl (load_one T.ag245 (v:=.map (some mb)) (cell_of r.hp 2))) rfl 12 rfl rfl ?_;refine HO.c OpC.func rfl 13 rfl rfl ckeys_any ?_;rintro _ _ ⟨rfl,rfl⟩;refine HO.c OpC.func rfl 14 rfl rfl (csorted_any r.mp.map (fun k hk=>hr k ((r.mp.mem k).1 hk)) hkl) ?_;rintro _ h1 ⟨S,hp0,hsort,ow⟩;obtain ⟨⟨sa,sn,sc⟩,rfl⟩:=ow.cap.form;have hperm:=hp0.trans hkp;have x1:=(Ext.push h (.cells #[.map (some mb)] 245 (0,0))).trans ow.ext;have hsl:Sl h1 1 (.slice sa sn sc) (S.map iv):=ow.sl;have hSn:S.length=sn:=by simpa using hsl.cells.len
 have hSl:S.length≤100000001:=by rw [hperm.length_eq];have:=r.len;simpa [nos] using this
 refine HO.v (V.len rfl T.el24) rfl 15 rfl rfl ?_;refine HO.v (V.mvI rfl) rfl 16 rfl rfl ?_;refine HO.nil ?_;refine hK7 _ _ ?_;refine HW.block ?_;refine HW.loopm (fun m s hh=>∃(k:Nat) (wv:SV),Has s [(0,ptr p),(3,sv wv),(14,.slice sa sn sc),(15,.int .i64 sn),(16,.int .i64 k)]∧(∃fl,Own h1 hh 3 277 (sv wv) (fl.flatMap fr)∧All2 (FrNw h hh) fl (dirtyS (S.take k) L))∧k≤sn∧m=sn-k) ?_ ?_
 ·exact ⟨_,0,(none,0,0),⟨rfl,rfl,rfl,rfl,rfl,trivial⟩,⟨[],Own.nil (Ext.refl _) _ _,All2.nil⟩,by omega,rfl⟩
 rintro m s hh ⟨k,wv,hs,⟨fl,owf,hall⟩,hkn,rfl⟩ J8 hJ8;refine HW.frame hs fun τ=>?_;refine HW.seq fun K9 hK9=>?_;refine HW.region ?_;refine HO.v (V.lss rfl rfl rfl) rfl 17 rfl rfl ?_;refine HO.nil ?_;refine hK9 _ _ ?_;refine HW.seq fun K10 hK10=>?_;refine HW.condr rfl (fun hc=>?_) (fun hc=>?_)
 ·
  refine HW.exit ?_;refine hK6 _ _ ?_;refine HW.seq fun K11 hK11=>?_;refine HW.region ?_;refine HO.v (V.mvS rfl) rfl 41 rfl rfl ?_;refine HO.v (V.asS rfl) rfl 2 rfl rfl ?_;refine HO.nil ?_;refine hK11 _ _ ?_;refine HW.ret ?_;refine ⟨sv wv,Res.one rfl rfl,S,hperm,hsort,(by have h1:=of_decide_eq_false hc;rw [List.take_of_length_le (by omega)] at hall;exact FrNw.in (x1.trans owf.ext) owf.cap (fun j hj=>Nat.le_trans x1.size (owf.fresh j hj)) hall),x1.trans owf.ext⟩
 refine HW.skip ?_;refine hK10 _ _ ?_;refine HW.seq fun K12 hK12=>?_;have hk2:k<S.length:=by have:=of_decide_eq_true hc;omega
 have rH:=r.chg (x1.trans owf.ext) fun _ _ f=>f;have hnx:=dirty_next (L:=L) hk2;obtain ⟨b,o,rfl,hcel⟩:=ints_cell (hsl.ext owf.ext) hk2;obtain ⟨x,hx⟩:=hit_mem ((hperm.mem_iff).1 (List.getElem_mem hk2));obtain ⟨hxm,hxn⟩:=hit_some hx;obtain ⟨pb,hq,hpb,_⟩:=rH.hpage hxm;rw [hxn] at hq;refine HW.block ?_;refine HW.seq fun K13 hK13=>?_;refine HW.region ?_;refine HO.v (V.indexAddr1 rfl rfl T.el24 T.sz3 (by omega)) rfl 18 rfl rfl ?_;refine HO.v (V.load rfl (load_one T.ag3 (v:=.int .i64 S[k]) hcel)) rfl 19 rfl rfl ?_;refine HO.v (V.asI rfl) rfl 5 rfl rfl ?_;refine HO.nil ?_;refine hK13 _ _ ?_;refine HW.seq fun K14 hK14=>?_;refine HW.region ?_;refine HO.v (V.mvP rfl) rfl 20 rfl rfl ?_;refine HO.v (V.nilCheck rfl) rfl 21 rfl rfl ?_;refine HO.v (V.fieldAddr rfl T.fd249_2) rfl 22 rfl rfl ?_;refine HO.v (V.load rfl (load_one T.ag245 (v:=.map (some mb)) (cell_of rH.hp 2))) rfl 23 rfl rfl ?_;refine HO.v (V.mvI rfl) rfl 24 rfl rfl ?_;refine HO.v (V.lookupE (KV.int .i64) rfl rfl rH.mp.map (v:=ptr (q S[k])) T.mp245 (inB_iff T.in3) T.zr339 ((rH.mp.get S[k]).trans (by rw [hx];rfl))) rfl 25 rfl rfl ?_;refine HO.v (V.asP rfl) rfl 6 rfl rfl ?_;refine HO.nil ?_;refine hK14 _ _ ?_;refine HW.seq fun K15 hK15=>?_;refine HW.region ?_;refine HO.v (V.mvP rfl) rfl 26 rfl rfl ?_;refine HO.v (V.nilCheck rfl) rfl 27 rfl rfl ?_;refine HO.v (V.fieldAddr rfl T.fd341_1) rfl 28 rfl rfl ?_;refine HO.v (V.load rfl (load_one T.ag4 (v:=.bool x.d) (cell_of hq 1))) rfl 29 rfl rfl ?_;refine HO.nil ?_;refine hK15 _ _ ?_;refine HW.condr rfl (fun hc=>?_) (fun hc=>?_)
 ·
  refine HW.skip ?_;refine hK12 _ _ ?_;refine HW.region ?_;refine HO.v (V.add rfl rfl (by omega)) rfl 40 rfl rfl ?_;refine HO.v (V.mvI rfl) rfl 16 rfl rfl ?_;refine HO.nil ?_;refine hJ8 _ _ _ ⟨k+1,wv,⟨rfl,rfl,rfl,rfl,rfl,trivial⟩,⟨fl,owf,(by rw [hnx];unfold dirty1;rw [hx,told_no hc,List.append_nil];exact hall)⟩,by omega,rfl⟩ (by omega)
 refine HW.region ?_;refine HO.v (V.mvS rfl) rfl 30 rfl rfl ?_;refine HO.v (V.mvI rfl) rfl 31 rfl rfl ?_;refine HO.v (V.mvP rfl) rfl 32 rfl rfl ?_;refine HO.v (V.nilCheck rfl) rfl 33 rfl rfl ?_;refine HO.v (V.fieldAddr rfl T.fd341_0) rfl 34 rfl rfl ?_;refine HO.v (V.load rfl (load_one T.ag44 (v:=sv pb) (cell_of hq 0))) rfl 35 rfl rfl ?_;refine HO.c OpC.func rfl 36 rfl rfl (cloneB_any hpb.sl (by have:=r.sm x hxm;omega)) ?_;rintro _ h3 owb;obtain ⟨rb,rfl⟩:=owb.cap.form;refine HO.v (V.build (cs:=#[.int .i64 S[k],.int .i64 0,sv rb]) T.zr277 T.pl277 rfl) rfl 37 rfl rfl ?_;refine HO.e (V.buildSlice [.tmp 37] (cs:=#[.int .i64 S[k],.int .i64 0,sv rb]) T.el252 T.sz277 T.zr277 rfl rfl rfl ⟨rfl,trivial⟩ rfl) rfl 38 rfl rfl ?_;have e4:Ext hh (h3.push (.cells #[.int .i64 S[k],.int .i64 0,sv rb] 277 (0,0))):=owb.ext.trans (Ext.push _ _);have ow4:=owf.push e4;have hfit:((fl.flatMap fr).length+(fr ⟨S[k],0,rb⟩).length)*(39+1)≤140737488355328:=by
  have h1:=hall.1;have h2:=dirty_len (S.take k) L;have h3:(S.take k).length≤S.length:=by simp;omega
  have h4:(fl.flatMap fr).length=fl.length*3:=flat_len fr_len fl;have h5:(fr ⟨S[k],0,rb⟩).length=3:=rfl;omega
 refine HO.a (V.append rfl rfl T.el252 T.sz277 T.by277 T.zr277 rfl ow4.cap (sl_new (n:=1) rfl (by omega)) (fr_one ⟨S[k],0,rb⟩) hfit) rfl 39 rfl rfl ?_;rintro _ h5 hap;obtain ⟨w2,rfl⟩:=hap.cap.form;have ow5:=ow4.app hap;refine HO.v (V.asS rfl) rfl 3 rfl rfl ?_;refine HO.nil ?_;refine hK12 _ _ ?_;refine HW.region ?_;refine HO.v (V.add rfl rfl (by omega)) rfl 40 rfl rfl ?_;refine HO.v (V.mvI rfl) rfl 16 rfl rfl ?_;refine HO.nil ?_;refine hJ8 _ _ _ ⟨k+1,w2,⟨rfl,rfl,rfl,rfl,rfl,trivial⟩,⟨fl++[⟨S[k],0,rb⟩],?_,?_⟩,by omega,rfl⟩ (by omega)
 ·rw [List.flatMap_append];simpa using ow5
 ·rw [hnx];unfold dirty1;rw [hx,told_yes hc];have hty:∀j,blkC (sv wv) j→isT (h3.push (.cells #[.int .i64 S[k],.int .i64 0,sv rb] 277 (0,0))) j 5→False:=fun j hj ht=>by
   have h1:isT (h3.push (.cells #[.int .i64 S[k],.int .i64 0,sv rb] 277 (0,0))) j 277:=ow4.cap.blk hj;exact absurd (h1.eq ht) (by decide)
  refine All2.append (hall.mono fun f y h=>⟨(h.is.chg e4 fun _ g _=>g.elim).chg hap.chg hty,h.nw⟩) (All2.cons ?_ All2.nil);exact ⟨FrCap.chg ⟨hxn.symm,rfl,owb.cap.ext (Ext.push _ _)⟩ hap.chg hty,fun j hj=>Nat.le_trans (x1.trans owf.ext).size (owb.fresh j hj)⟩
def nJ:List UInt8:=[116,111,109,101,46,98,97,99,107]
def mostB (size:Nat):Nat:=16777188 / (size+8)
structure Bk where
 dk:Dk
 size:Nat
 room:Int
 L:List AP
 in_:Bool
 now:Nat
 valid:Nat
 begun:Bool
 nonce:Nat
 kept:List Int
 marked:Nat
 sure:Nat
 bytes:Nat
 broken:Bool
def dirtyB (L:List AP):List AFr:=dirtyS ((nos L).mergeSort fun a b=>decide (a≤b)) L
section
variable {d:Dk} {n:List UInt8}
theorem size_f (h:(sizeN d n).2=false):d.dark=true∨thereN d n=false:=by
 unfold sizeN at h;split at h
 ·assumption
 ·cases h
theorem size_t (h:(sizeN d n).2=true):d.dark=false∧thereN d n=true:=by
 unfold sizeN at h;split at h
 ·cases h
 ·rename_i h1;exact ⟨by cases hd:d.dark<;>simp [hd] at h1⊢,by cases ht:thereN d n<;>simp [ht] at h1⊢⟩
theorem rem_dark (hn:1≤n.length∧n.length≤32) (h:d.dark=true):removeN d n=(d,13):=by
 have h1:wrongN d n []=13:=by unfold wrongN;rw [if_neg (by rintro (h | h | ⟨z,hz,_⟩)<;>first | omega | cases hz),if_pos h]
 unfold removeN;rw [h1];rfl
theorem rem_none (hn:1≤n.length∧n.length≤32) (h:d.dark=false) (ht:thereN d n=false):removeN d n=(d,4):=by
 have h1:wrongN d n []=0:=by unfold wrongN;rw [if_neg (by rintro (h | h | ⟨z,hz,_⟩)<;>first | omega | cases hz),if_neg (by simp [h])]
 unfold removeN;rw [h1];simp [ht]
theorem rem_there (h:thereN d n=true):(removeN d n).2≠4:=by
 unfold removeN wrongN doN powerN
 repeat' split
 all_goals first | (simp_all;done) | (simp only;omega)
theorem bgone_1 (hn:1≤n.length∧n.length≤32) (h:d.dark=true):goneN d n=(d,13):=by unfold goneN;rw [rem_dark hn h];rfl
theorem bgone_2 (hn:1≤n.length∧n.length≤32) (h:(sizeN d n).2=false) (hd:d.dark=false):goneN d n=(d,0):=by
 unfold goneN;rw [rem_none hn hd ((size_f h).resolve_left (by simp [hd]))];rfl
theorem bgone_3 (h:(removeN d n).2=0):goneN d n=syncN (removeN d n).1 n:=if_pos h
theorem bgone_4 (h:(sizeN d n).2=true) (h1:(removeN d n).2≠0):goneN d n=removeN d n:=by
 unfold goneN;rw [if_neg h1,if_neg (rem_there (size_t h).2)]
end
theorem bgone_any {h:Heap} {d:Nat} {n:List UInt8} {r:RD} {E:Nat→Prop} (ok:Hp h (dskI d r).F [dskI d r] [bysI E r.fs] h) (hk:DkOk r.abs) (hcg:r.chg<900000000) (hn:1≤n.length∧n.length≤32) :
  HC Tryz.prog 215 #[.pointer (some ⟨d,0,none⟩),.string (BA n)] h (fun v h'=>∃r' E',v=.int .i64 ((goneN r.abs n).2:Int)∧r'.abs=(goneN r.abs n).1∧DUp h h' d r r' E E'):=by
 refine HC.go Tryz.func215 27 ?_;refine .s<|.z .asI<|.nil<|.seq<|.s<|.z .mvP<|.z .mvT<|.k 11 .func (size_anyD (d:=d) (r:=r) (n:=n) (ok.m0))<|.z .mvU<|.z .ex<|.z .ex<|.z .asI<|.z .asB<|.nil<|.s<|.z .mvB<|.z .not<|.nil<|.cond (fun C0=>?_) (fun C0=>?_)
 ·
  have hs0:(sizeN r.abs n).2=false:=by simpa using C0
  refine .seq<|.s<|.z .mvP<|.k 17 .func (dark_any (d:=d) (r:=r) (dsk_parts (ok.m0)).1)<|.nil<|.cond (fun C1=>?_) (fun C1=>?_)
  ·
   refine .s<|.z .asI<|.nil<|.ret ⟨.int .i64 13,Res.one rfl rfl,⟨r,E,(by rw [bgone_1 hn (show r.abs.dark=true from C1)];rfl),(by rw [bgone_1 hn (show r.abs.dark=true from C1)]),((ok).k1.e1).up (fun _ h=>Or.inl h)⟩⟩
  refine .skip<|.s<|.z .asI<|.nil<|.ret ⟨.int .i64 0,Res.one rfl rfl,⟨r,E,(by rw [bgone_2 hn hs0 (show r.dark=false by simpa using C1)];rfl),(by rw [bgone_2 hn hs0 (show r.dark=false by simpa using C1)]),((ok).k1.e1).up (fun _ h=>Or.inl h)⟩⟩
 have hs0:(sizeN r.abs n).2=true:=by simpa using C0
 refine .skip<|.seq<|.s<|.z .mvP<|.z .mvT<|.c' 20 .func (remove_any (d:=d) (r:=r) (E:=E) (n:=n) (ok).loc1 hk (by omega)) ?_;rintro _ η1 ⟨rw1,Ew1,rfl,haw1,upw1⟩;have hzw1:=(ok).chg.size;have ok:=(ok).dsk (d:=d) (r:=r) upw1;have hkw1:DkOk rw1.abs:=by rw [haw1];exact (hk).remove
 have hcw1:rw1.chg≤r.chg+1:=Int.le_trans (Int.le_of_eq (congrArg Dk.chg haw1)) remove_chg;have hnw1:=fun j hj=>(upw1.new j hj).elim ((fun _ h=>Or.inl h) j) fun h1=>Or.inr (Nat.le_trans hzw1 h1);refine .z .asI<|.nil<|.s<|.z .mvI<|.z .neq<|.nil<|.cd (fun C2=>?_) (fun C2=>?_)
 ·
  refine .s<|.z .mvI<|.z .asI<|.nil<|.ret ⟨.int .i64 ((removeN r.abs n).2:Int),Res.one rfl rfl,⟨rw1,Ew1,(by rw [bgone_4 hs0 (by omega)]),(by rw [bgone_4 hs0 (by omega)];exact haw1),((ok).k1.e1).up hnw1⟩⟩
 refine .skip<|.s<|.z .mvP<|.z .mvT<|.c' 26 .func (sync_any (d:=d) (r:=rw1) (E:=Ew1) (n:=n) (ok).loc1 hkw1 (by omega)) ?_;rintro _ η2 ⟨rw2,Ew2,rfl,haw2,upw2⟩;have hzw2:=(ok).chg.size;have ok:=(ok).dsk (d:=d) (r:=rw1) upw2;have hkw2:DkOk rw2.abs:=by rw [haw2];exact (hkw1).sync
 have hcw2:rw2.chg≤rw1.chg+1:=Int.le_trans (Int.le_of_eq (congrArg Dk.chg haw2)) sync_chg;have hnw2:=fun j hj=>(upw2.new j hj).elim (hnw1 j) fun h1=>Or.inr (Nat.le_trans hzw2 h1);refine .z .asI<|.nil<|.ret ⟨.int .i64 ((syncN rw1.abs n).2:Int),Res.one rfl rfl,⟨rw2,Ew2,(by rw [bgone_3 (by omega),haw1]),(by rw [bgone_3 (by omega),←haw1];exact haw2),((ok).k1.e1).up hnw2⟩⟩
theorem most_any {h:Heap} {n:Nat} (hn:n≤16777216) :
  HC Tryz.prog 184 #[.int .i64 (n:Int)] h (fun v h'=>v=.int .i64 ((mostB n:Nat):Int)∧h'=h):=by
 refine HC.go Tryz.func184 6 ?_;refine .s<|.z .asI<|.nil<|.s<|.z .mvI<|.z (.addI (b:=8))<|.z (.quoI (a:=16777188) (b:=(n+8)))<|.z .asI<|.nil<|.ret ⟨.int .i64 ((16777188 / (n+8):Nat):Int),Res.one rfl rfl,⟨rfl,rfl⟩⟩
open Go Go.HL
def setE (s:List Int):List (Int × Value):=s.map fun k=>(k,.bool true)
theorem setE_get {s:List Int} {k:Int} : (aget (setE s) k).getD (.bool false)=.bool (decide (k∈s)):=by
 induction s with
 | nil=>rfl
 | cons a s ih=>
  unfold setE aget at ih⊢;rw [List.map_cons,List.find?_cons];by_cases h:a=k
  ·simp [h]
  ·have h2:¬k=a:=fun e=>h e.symm;simpa [h,h2] using ih
theorem setE_put {s:List Int} {k:Int} (h:k∉s):aput (setE s) k (.bool true)=setE (s++[k]):=by
 induction s with
 | nil=>rfl
 | cons a s ih=>
  have h1:¬a=k:=fun e=>h (by simp [e]);have h2:=ih fun hs=>h (List.mem_cons_of_mem _ hs);unfold setE at h2⊢;simp only [List.map_cons,List.cons_append,aput,if_neg h1];rw [h2]
theorem jright_any {h:Heap} {z:Int} (hz : -9223372036854775808≤z∧z≤9223372036854775807) :
  HC Tryz.prog 231 #[.int .i64 z] h (fun v h'=>v=.bool (okZ z)∧h'=h):=by
 refine HC.go Tryz.func231 16 ?_;refine .s<|.z .asB<|.nil<|.s<|.z .mvI<|.z .geq<|.z .mvB<|.sd (fun G5=>?_) (fun G5=>?_)
 ·
  refine .z .mvI<|.z .leq<|.z .pkt<|.z .mvB<|.sd (fun G9=>?_) (fun G9=>?_)
  ·
   obtain ⟨q,rfl⟩:∃q:Nat,z=(q:Int):=⟨z.toNat,by omega⟩;have hq:=and_pow q (by omega) (by omega);refine .z .mvI<|.z .mvI<|.z .sub<|.z (.bandI q (q-1))<|.z .eql<|.z .pkt<|.z .asB<|.nil<|.ret ⟨.bool (decide ((((q &&& (q-1)):Nat):Int)=0)),Res.one rfl rfl,⟨by first | exact congrArg _ (by unfold okZ;rw [decide_eq_decide];omega) | exact congrArg _ (by unfold okZ;exact (decide_eq_false (by omega)).symm) | exact congrArg _ (by unfold okZ;exact (decide_eq_true (by omega)).symm),rfl⟩⟩
  refine .y<|.y<|.y<|.y<|.y<|.z .pkf<|.z .asB<|.nil<|.ret ⟨.bool false,Res.one rfl rfl,⟨by first | exact congrArg _ (by unfold okZ;rw [decide_eq_decide];omega) | exact congrArg _ (by unfold okZ;exact (decide_eq_false (by omega)).symm) | exact congrArg _ (by unfold okZ;exact (decide_eq_true (by omega)).symm),rfl⟩⟩
 refine .y<|.y<|.z .pkf<|.z .mvB<|.y<|.y<|.y<|.y<|.y<|.z .pkf<|.z .asB<|.nil<|.ret ⟨.bool false,Res.one rfl rfl,⟨by first | exact congrArg _ (by unfold okZ;rw [decide_eq_decide];omega) | exact congrArg _ (by unfold okZ;exact (decide_eq_false (by omega)).symm) | exact congrArg _ (by unfold okZ;exact (decide_eq_true (by omega)).symm),rfl⟩⟩
theorem jstart0_any {h:Heap} {n k s:Nat} (hn:n<4294967296) (hk:k<4294967296) (hs:s<18446744073709551616) :
  HC Tryz.prog 232 #[.int .u64 (n:Int),.int .u64 (k:Int),.int .u64 (s:Int)] h (fun v h'=>Own h h' 1 5 v ((jheadN n k s).map bv)):=by
 have ok:=Hp.nil h none_;refine HC.go Tryz.func232 26 ?_;refine .s<|.z .asS<|.nil<|.s<|.a' 8 (.lit [.const (.int .u8 116),.const (.int .u8 111),.const (.int .u8 109),.const (.int .u8 101),.const (.int .u8 32),.const (.int .u8 106),.const (.int .u8 110),.const (.int .u8 108)] (cs:=[.int .u8 116,.int .u8 111,.int .u8 109,.int .u8 101,.int .u8 32,.int .u8 106,.int .u8 110,.int .u8 108]) T.el44 T.sz5 T.zr5 ok ⟨rfl,rfl,rfl,rfl,rfl,rfl,rfl,rfl,trivial⟩) ?_;rintro _ η1 ⟨pb1,rfl,ok,xe⟩;have ok:=ok.cx (ys:=([116,111,109,101,32,106,110,108]:List UInt8).map bv) rfl;refine .a' 9 (.cvL T.el44 T.in5 ok) ?_;rintro _ η2 ⟨rfl,ok,cg⟩;refine .z .mvI<|.c' 11 .func (fixed_any (n:=n) (size:=4) (by omega) (by omega) (by omega)) ?_;rintro _ η3 own;obtain ⟨ya1,yc1,rfl⟩:=own.formB;have ok:=ok.own own;refine .z .mvI<|.c' 13 .func (fixed_any (n:=k) (size:=4) (by omega) (by omega) (by omega)) ?_;rintro _ η4 own;obtain ⟨ya2,yc2,rfl⟩:=own.formB;have ok:=ok.own own;refine .z .mvI<|.c' 15 .func (fixed_any (n:=s) (size:=8) (by omega) (by omega) (by omega)) ?_;rintro _ η5 own;obtain ⟨ya3,yc3,rfl⟩:=own.formB;have ok:=ok.own own;refine .a' 16 (.lit [.tmp 9,.tmp 11,.tmp 13,.tmp 15] (cs:=[.slice (some ⟨pb1,0,none⟩) 8 8,.slice ya1 ((fixedN n 4).length) yc1,.slice ya2 ((fixedN k 4).length) yc2,.slice ya3 ((fixedN s 8).length) yc3]) T.el28 T.sz44 T.zr44 ok ⟨rfl,rfl,rfl,rfl,trivial⟩) ?_;rintro _ η6 ⟨pb2,rfl,ok,xe⟩;refine .c' 17 .func (njoin_any (a:=some ⟨pb2,0,none⟩) (c:=4) (L:=[[116,111,109,101,32,106,110,108],(fixedN n 4),(fixedN k 4),(fixedN s 8)]) (RdL.rows (v:=(some ⟨pb2,0,none⟩,4,4)) (xs:=[(some ⟨pb1,0,none⟩,8,8),(ya1,(fixedN n 4).length,yc1),(ya2,(fixedN k 4).length,yc2),(ya3,(fixedN s 8).length,yc3)]) (ls:=[[116,111,109,101,32,106,110,108],(fixedN n 4),(fixedN k 4),(fixedN s 8)]) ok.m0 ⟨⟨_,_,(RdL.ofCapB (v:=(some ⟨pb1,0,none⟩,8,8)) (l:=[116,111,109,101,32,106,110,108]) ok.m4)⟩,⟨_,_,(RdL.ofCapB (v:=(ya1,(fixedN n 4).length,yc1)) (l:=(fixedN n 4)) ok.m3)⟩,⟨_,_,(RdL.ofCapB (v:=(ya2,(fixedN k 4).length,yc2)) (l:=(fixedN k 4)) ok.m2)⟩,⟨_,_,(RdL.ofCapB (v:=(ya3,(fixedN s 8).length,yc3)) (l:=(fixedN s 8)) ok.m1)⟩,trivial⟩) (by simp [fixedN_len]<;>omega)) ?_;rintro _ η7 own;obtain ⟨ya4,yc4,rfl⟩:=own.formB;have ok:=ok.own own;refine .z .asS<|.nil<|.s<|.z .mvS<|.z .mvS<|?_;have hsm:=sumN_lt ([([[116,111,109,101,32,106,110,108],(fixedN n 4),(fixedN k 4),(fixedN s 8)]).flatten]).flatten;refine .a' 20 (.lit [.tmp 19] (cs:=[.slice ya4 ((([[116,111,109,101,32,106,110,108],(fixedN n 4),(fixedN k 4),(fixedN s 8)]).flatten).length) yc4]) T.el28 T.sz44 T.zr44 ok ⟨rfl,trivial⟩) ?_;rintro _ η8 ⟨pb3,rfl,ok,xe⟩;refine .c' 21 .func (sum_any (a:=some ⟨pb3,0,none⟩) (c:=1) (L:=[([[116,111,109,101,32,106,110,108],(fixedN n 4),(fixedN k 4),(fixedN s 8)]).flatten]) (RdL.rows (v:=(some ⟨pb3,0,none⟩,1,1)) (xs:=[(ya4,(([[116,111,109,101,32,106,110,108],(fixedN n 4),(fixedN k 4),(fixedN s 8)]).flatten).length,yc4)]) (ls:=[([[116,111,109,101,32,106,110,108],(fixedN n 4),(fixedN k 4),(fixedN s 8)]).flatten]) ok.m0 ⟨⟨_,_,(RdL.ofCapB (v:=(ya4,(([[116,111,109,101,32,106,110,108],(fixedN n 4),(fixedN k 4),(fixedN s 8)]).flatten).length,yc4)) (l:=(([[116,111,109,101,32,106,110,108],(fixedN n 4),(fixedN k 4),(fixedN s 8)]).flatten)) ok.m1)⟩,trivial⟩)) ?_;rintro _ η9 ⟨rfl,hx⟩;have ok:=ok.ext hx;refine .z (.cvs T.in130 T.in89 (M:=18446744073709551616) rfl rfl)<|.c' 23 .func (fixed_any (n:=(sumN ([([[116,111,109,101,32,106,110,108],(fixedN n 4),(fixedN k 4),(fixedN s 8)]).flatten]).flatten)) (size:=4) (by omega) (by omega) (by omega)) ?_;rintro _ η10 own;obtain ⟨ya5,yc5,rfl⟩:=own.formB;have ok:=ok.own own;refine .a' 24 (.lit [.tmp 18,.tmp 23] (cs:=[.slice ya4 ((([[116,111,109,101,32,106,110,108],(fixedN n 4),(fixedN k 4),(fixedN s 8)]).flatten).length) yc4,.slice ya5 ((fixedN (sumN ([([[116,111,109,101,32,106,110,108],(fixedN n 4),(fixedN k 4),(fixedN s 8)]).flatten]).flatten) 4).length) yc5]) T.el28 T.sz44 T.zr44 ok ⟨rfl,rfl,trivial⟩) ?_;rintro _ η11 ⟨pb4,rfl,ok,xe⟩;refine .c' 25 .func (njoin_any (a:=some ⟨pb4,0,none⟩) (c:=2) (L:=[([[116,111,109,101,32,106,110,108],(fixedN n 4),(fixedN k 4),(fixedN s 8)]).flatten,(fixedN (sumN ([([[116,111,109,101,32,106,110,108],(fixedN n 4),(fixedN k 4),(fixedN s 8)]).flatten]).flatten) 4)]) (RdL.rows (v:=(some ⟨pb4,0,none⟩,2,2)) (xs:=[(ya4,(([[116,111,109,101,32,106,110,108],(fixedN n 4),(fixedN k 4),(fixedN s 8)]).flatten).length,yc4),(ya5,(fixedN (sumN ([([[116,111,109,101,32,106,110,108],(fixedN n 4),(fixedN k 4),(fixedN s 8)]).flatten]).flatten) 4).length,yc5)]) (ls:=[([[116,111,109,101,32,106,110,108],(fixedN n 4),(fixedN k 4),(fixedN s 8)]).flatten,(fixedN (sumN ([([[116,111,109,101,32,106,110,108],(fixedN n 4),(fixedN k 4),(fixedN s 8)]).flatten]).flatten) 4)]) ok.m0 ⟨⟨_,_,(RdL.ofCapB (v:=(ya4,(([[116,111,109,101,32,106,110,108],(fixedN n 4),(fixedN k 4),(fixedN s 8)]).flatten).length,yc4)) (l:=(([[116,111,109,101,32,106,110,108],(fixedN n 4),(fixedN k 4),(fixedN s 8)]).flatten)) ok.m3)⟩,⟨_,_,(RdL.ofCapB (v:=(ya5,(fixedN (sumN ([([[116,111,109,101,32,106,110,108],(fixedN n 4),(fixedN k 4),(fixedN s 8)]).flatten]).flatten) 4).length,yc5)) (l:=(fixedN (sumN ([([[116,111,109,101,32,106,110,108],(fixedN n 4),(fixedN k 4),(fixedN s 8)]).flatten]).flatten) 4)) ok.m1)⟩,trivial⟩) (by simp [fixedN_len]<;>omega)) ?_;rintro _ η12 own;obtain ⟨ya6,yc6,rfl⟩:=own.formB;have ok:=ok.own own;refine .z .asS<|.nil<|.ret ⟨.slice ya6 ((([([[116,111,109,101,32,106,110,108],(fixedN n 4),(fixedN k 4),(fixedN s 8)]).flatten,(fixedN (sumN ([([[116,111,109,101,32,106,110,108],(fixedN n 4),(fixedN k 4),(fixedN s 8)]).flatten]).flatten) 4)]).flatten).length) yc6,Res.one rfl rfl,by have:=ok.toOwn;simpa [jheadN,jfrontN,jsign] using this⟩
theorem jstart_any {h:Heap} {n k s:Nat} (hn:n<4294967296) (hk:k<4294967296) (hs:s<18446744073709551616) :
  HC Tryz.prog 212 #[.int .i64 (n:Int),.int .i64 (k:Int),.int .u64 (s:Int)] h (fun v h'=>(okJ n k=false∧v=.tuple #[.slice none 0 0,.int .i64 1]∧Ext h h')∨(okJ n k=true∧∃w,v=.tuple #[w,.int .i64 0]∧Own h h' 1 5 w ((jheadN n k s).map bv))):=by
 have ok:=Hp.nil h none_;refine HC.go Tryz.func212 31 ?_;refine .s<|.z .asS<|.z .asI<|.nil<|.seq<|.s<|.z .mvI<|.k 9 .func (jright_any (z:=(n:Int)) (by omega))<|.z .not<|.z .mvB<|.spl (fun G11=>?_) (fun G11=>?_)
 ·
  have hz:okZ (n:Int)=false:=by simpa using G11
  refine .y<|.y<|.z .pkt<|.z .mvB<|.y<|.y<|.z .pkt<|.z .mvB<|.y<|.y<|.y<|.y<|.z .pkt<|.nil<|.ct<|.s<|.z .asS<|.z .asI<|.nil<|.ret ⟨.tuple #[.slice none 0 0,.int .i64 1],Res.two rfl rfl rfl,.inl ⟨by first | exact okJ_1 hz | exact okJ_2 (by omega) | exact okJ_3 (by omega) | exact okJ_3 (fun h9=>by have:=(okZ_quo (k:=k) hz).2 h9;omega),rfl,ok.chg⟩⟩
 have hz:okZ (n:Int)=true:=by simpa using G11
 refine .z .mvI<|.z .lss<|.z .pkf<|.z .mvB<|.sd (fun G15=>?_) (fun G15=>?_)
 ·
  refine .y<|.y<|.z .pkt<|.z .mvB<|.y<|.y<|.y<|.y<|.z .pkt<|.nil<|.ct<|.s<|.z .asS<|.z .asI<|.nil<|.ret ⟨.tuple #[.slice none 0 0,.int .i64 1],Res.two rfl rfl rfl,.inl ⟨by first | exact okJ_1 hz | exact okJ_2 (by omega) | exact okJ_3 (by omega) | exact okJ_3 (fun h9=>by have:=(okZ_quo (k:=k) hz).2 h9;omega),rfl,ok.chg⟩⟩
 refine .z .mvI<|.z .gtr<|.z .pkf<|.z .mvB<|.sd (fun G19=>?_) (fun G19=>?_)
 ·
  refine .y<|.y<|.y<|.y<|.z .pkt<|.nil<|.ct<|.s<|.z .asS<|.z .asI<|.nil<|.ret ⟨.tuple #[.slice none 0 0,.int .i64 1],Res.two rfl rfl rfl,.inl ⟨by first | exact okJ_1 hz | exact okJ_2 (by omega) | exact okJ_3 (by omega) | exact okJ_3 (fun h9=>by have:=(okZ_quo (k:=k) hz).2 h9;omega),rfl,ok.chg⟩⟩
 refine .z .mvI<|.z .mvI<|?_;have hmul:=okZ_mul (n:=n) (k:=k) hz (by omega);refine .z .mulI<|.z .gtr<|.z .pkf<|.nil<|.cd (fun C0=>?_) (fun C0=>?_)
 ·
  refine .s<|.z .asS<|.z .asI<|.nil<|.ret ⟨.tuple #[.slice none 0 0,.int .i64 1],Res.two rfl rfl rfl,.inl ⟨by first | exact okJ_1 hz | exact okJ_2 (by omega) | exact okJ_3 (by omega) | exact okJ_3 (fun h9=>by have:=(okZ_quo (k:=k) hz).2 h9;omega),rfl,ok.chg⟩⟩
 refine .skip<|.s<|.z .mvI<|.z (.cvs T.in130 T.in3 (M:=18446744073709551616) rfl rfl)<|.z .mvI<|.z (.cvs T.in130 T.in3 (M:=18446744073709551616) rfl rfl)<|.z .mvI<|.c' 30 .func (jstart0_any (n:=n) (k:=k) (s:=s) (by omega) (by omega) (by omega)) ?_;rintro _ η1 own;obtain ⟨ya1,yc1,rfl⟩:=own.formB;have ok:=ok.own own;refine .z .asS<|.z .asI<|.nil<|.ret ⟨.tuple #[.slice ya1 ((jheadN n k s).length) yc1,.int .i64 0],Res.two rfl rfl rfl,.inr ⟨okJ_t hz (by omega) (by first | omega | exact (okZ_quo hz).1 (by omega)),_,rfl,by have:=ok.toOwn;simpa [jheadN,jfrontN,jsign] using this⟩⟩
theorem jfoot_any {h:Heap} {F E:Nat→Prop} {s:Nat} {a:Option Addr} {c:Nat} {l:List UInt8} (hs:s<18446744073709551616) (hl:RdL h F E (a,l.length,c) l) :
  HC Tryz.prog 213 #[.int .u64 (s:Int),.slice a l.length c] h (fun v h'=>Own h h' 1 5 v ((jfootN s l).map bv)):=by
 have hc2:=hl.m;have hc1:l.length≤c:=hl.c;simp only at hc2;have ok:=(Hp.nil h none_).arg hl;refine HC.go Tryz.func213 12 ?_;refine .s<|.z .asS<|.nil<|.s<|.z .mvI<|.c' 6 .func (fixed_any (n:=s) (size:=8) (by omega) (by omega) (by omega)) ?_;rintro _ η1 own;obtain ⟨ya1,yc1,rfl⟩:=own.formB;have ok:=ok.own own;refine .z .mvS<|.a' 8 (.lit [.tmp 6,.tmp 7] (cs:=[.slice ya1 ((fixedN s 8).length) yc1,.slice a l.length c]) T.el28 T.sz44 T.zr44 ok ⟨rfl,rfl,trivial⟩) ?_;rintro _ η2 ⟨pb1,rfl,ok,xe⟩;have hsm:=sumN_lt ([fixedN s 8,l]).flatten;refine .c' 9 .func (sum_any (a:=some ⟨pb1,0,none⟩) (c:=2) (L:=[(fixedN s 8),l]) (RdL.rows (v:=(some ⟨pb1,0,none⟩,2,2)) (xs:=[(ya1,(fixedN s 8).length,yc1),(a,l.length,c)]) (ls:=[(fixedN s 8),l]) ok.m0 ⟨⟨_,_,(RdL.ofCapB (v:=(ya1,(fixedN s 8).length,yc1)) (l:=(fixedN s 8)) ok.m1)⟩,⟨_,_,ok.r0⟩,trivial⟩)) ?_;rintro _ η3 ⟨rfl,hx⟩;have ok:=ok.ext hx;refine .z (.cvs T.in130 T.in89 (M:=18446744073709551616) rfl rfl)<|.c' 11 .func (fixed_any (n:=(sumN ([(fixedN s 8),l]).flatten)) (size:=4) (by omega) (by omega) (by omega)) ?_;rintro _ η4 own;obtain ⟨ya2,yc2,rfl⟩:=own.formB;have ok:=ok.own own;refine .z .asS<|.nil<|.ret ⟨.slice ya2 ((fixedN (sumN ([(fixedN s 8),l]).flatten) 4).length) yc2,Res.one rfl rfl,by have:=ok.toOwn;simpa [jfootN] using this⟩
theorem jentry_any {h:Heap} {F E:Nat→Prop} {s:Nat} {z1 z2:Int} {a:Option Addr} {c:Nat} {l:List UInt8} (hs:s<18446744073709551616) (hN:l.length≤10000000) (hl:RdL h F E (a,l.length,c) l) :
  HC Tryz.prog 317 #[.int .u64 (s:Int),.agg #[.int .i64 z1,.int .i64 z2,.slice a l.length c]] h (fun v h'=>(okE ⟨z1,z2,l⟩=false∧v=.tuple #[.slice none 0 0,.int .i64 1]∧Ext h h')∨(okE ⟨z1,z2,l⟩=true∧∃w,v=.tuple #[w,.int .i64 0]∧Own h h' 1 5 w ((jputN s z1.toNat l).map bv))):=by
 have hc2:=hl.m;have hc1:l.length≤c:=hl.c;simp only at hc2;have ok:=(Hp.nil h none_).arg hl;refine HC.go Tryz.func317 41 ?_;refine .s<|.a' 3 (.bxA (cs:=[.int .i64 z1,.int .i64 z2,.slice a l.length c]) ok) ?_;rintro _ η1 ⟨pb1,rfl,ok,xe⟩;refine .z .asS<|.z .asI<|.nil<|.seq<|.s<|.z (.fa T.fd277_0)<|.z (.ldx T.ag3 ok.m0)<|.z .lss<|.z .mvB<|.sd (fun G10=>?_) (fun G10=>?_)
 ·
  refine .y<|.y<|.y<|.z .pkt<|.z .mvB<|.y<|.y<|.y<|.z .pkt<|.z .mvB<|.y<|.y<|.y<|.y<|.y<|.z .pkt<|.nil<|.ct<|.s<|.z .asS<|.z .asI<|.nil<|.ret ⟨.tuple #[.slice none 0 0,.int .i64 1],Res.two rfl rfl rfl,.inl ⟨by first | exact okE_1 (by omega) | exact okE_2 (by simpa using C0),rfl,ok.chg⟩⟩
 refine .z (.fa T.fd277_0)<|.z (.ldx T.ag3 ok.m0)<|.z .gtr<|.z .pkf<|.z .mvB<|.sd (fun G15=>?_) (fun G15=>?_)
 ·
  refine .y<|.y<|.y<|.z .pkt<|.z .mvB<|.y<|.y<|.y<|.y<|.y<|.z .pkt<|.nil<|.ct<|.s<|.z .asS<|.z .asI<|.nil<|.ret ⟨.tuple #[.slice none 0 0,.int .i64 1],Res.two rfl rfl rfl,.inl ⟨by first | exact okE_1 (by omega) | exact okE_2 (by simpa using C0),rfl,ok.chg⟩⟩
 refine .z (.fa T.fd277_1)<|.z (.ldx T.ag3 ok.m0)<|.z .neq<|.z .pkf<|.z .mvB<|.sd (fun G20=>?_) (fun G20=>?_)
 ·
  refine .y<|.y<|.y<|.y<|.y<|.z .pkt<|.nil<|.ct<|.s<|.z .asS<|.z .asI<|.nil<|.ret ⟨.tuple #[.slice none 0 0,.int .i64 1],Res.two rfl rfl rfl,.inl ⟨by first | exact okE_1 (by omega) | exact okE_2 (by simpa using C0),rfl,ok.chg⟩⟩
 refine .z (.fa T.fd277_2)<|.z (.ldx T.ag44 ok.m0)<|.z (.len T.el44)<|.k 24 .func (jright_any (z:=(l.length:Int)) (by omega))<|.z .not<|.z .pkf<|.nil<|.cond (fun C0=>?_) (fun C0=>?_)
 ·
  refine .s<|.z .asS<|.z .asI<|.nil<|.ret ⟨.tuple #[.slice none 0 0,.int .i64 1],Res.two rfl rfl rfl,.inl ⟨by first | exact okE_1 (by omega) | exact okE_2 (by simpa using C0),rfl,ok.chg⟩⟩
 refine .skip<|.seq<|?_;obtain ⟨p,rfl⟩:∃p:Nat,z1=(p:Int):=⟨z1.toNat,by omega⟩;refine .a 9 (fun fl hh=>Hp h none_ [boxI pb1 277 [.int .i64 (p:Int),.int .i64 z2,.slice a l.length c]] [rdI (fun j=>F j∧j<h.size) (fun j=>E j∧j<h.size) (a,l.length,c) l] hh) mixed ?_;have hS:=ok;refine .g 0 false rfl 27 hS (fun _=>.fa T.fd277_0)<|.lw 1 false rfl 28 hS (fun _ _ hS=>.ldx T.ag3 hS.m0)<|.g 2 false rfl 29 hS (fun _=>.cvs T.in130 T.in3 (M:=18446744073709551616) rfl rfl)<|.g 4 false rfl 31 hS (fun _=>.fa T.fd277_2)<|.lw 5 false rfl 32 hS (fun _ _ hS=>.ldx T.ag44 hS.m0)<|.o1 3<|.c' false rfl 30 .func (fixed_any (n:=p) (size:=4) (by omega) (by omega) (by omega)) ?_;rintro _ η2 own;obtain ⟨ya1,yc1,rfl⟩:=own.formB;have ok:=ok.own own;refine ⟨ok.n1.k1,?_⟩;have hS:=ok.n1.k1;refine .o1 6<|.a' false rfl 33 (.lit [.tmp 30,.tmp 32] (cs:=[.slice ya1 ((fixedN p 4).length) yc1,.slice a l.length c]) T.el28 T.sz44 T.zr44 ok ⟨rfl,rfl,trivial⟩) ?_;rintro _ η3 ⟨pb2,rfl,ok,xe⟩;refine ⟨ok.n2.k1,?_⟩;have hS:=ok.n2.k1;refine .o1 7<|.c' false rfl 34 .func (njoin_any (a:=some ⟨pb2,0,none⟩) (c:=2) (L:=[(fixedN p 4),l]) (RdL.rows (v:=(some ⟨pb2,0,none⟩,2,2)) (xs:=[(ya1,(fixedN p 4).length,yc1),(a,l.length,c)]) (ls:=[(fixedN p 4),l]) ok.m0 ⟨⟨_,_,(RdL.ofCapB (v:=(ya1,(fixedN p 4).length,yc1)) (l:=(fixedN p 4)) ok.m1)⟩,⟨_,_,ok.r0⟩,trivial⟩) (by simp [fixedN_len,jfootN]<;>omega)) ?_;rintro _ η4 own;obtain ⟨ya2,yc2,rfl⟩:=own.formB;have ok:=ok.own own;refine ⟨ok.n3.k1,?_⟩;have hS:=ok.n3.k1;refine .g 8 false rfl 6 hS (fun _=>.asS)<|.e ?_;refine .s<|.z .mvS<|.z .mvI<|.z .mvS<|.c' 38 .func (jfoot_any (s:=s) (by omega) (a:=ya2) (c:=yc2) (l:=([(fixedN p 4),l]).flatten) (RdL.ofCapB (v:=(ya2,(([(fixedN p 4),l]).flatten).length,yc2)) (l:=(([(fixedN p 4),l]).flatten)) ok.m0)) ?_;rintro _ η5 own;obtain ⟨ya3,yc3,rfl⟩:=own.formB;have ok:=ok.own own;refine .a' 39 (.lit [.tmp 35,.tmp 38] (cs:=[.slice ya2 ((([(fixedN p 4),l]).flatten).length) yc2,.slice ya3 ((jfootN s (([(fixedN p 4),l]).flatten)).length) yc3]) T.el28 T.sz44 T.zr44 ok ⟨rfl,rfl,trivial⟩) ?_;rintro _ η6 ⟨pb3,rfl,ok,xe⟩;refine .c' 40 .func (njoin_any (a:=some ⟨pb3,0,none⟩) (c:=2) (L:=[([(fixedN p 4),l]).flatten,(jfootN s (([(fixedN p 4),l]).flatten))]) (RdL.rows (v:=(some ⟨pb3,0,none⟩,2,2)) (xs:=[(ya2,(([(fixedN p 4),l]).flatten).length,yc2),(ya3,(jfootN s (([(fixedN p 4),l]).flatten)).length,yc3)]) (ls:=[([(fixedN p 4),l]).flatten,(jfootN s (([(fixedN p 4),l]).flatten))]) ok.m0 ⟨⟨_,_,(RdL.ofCapB (v:=(ya2,(([(fixedN p 4),l]).flatten).length,yc2)) (l:=(([(fixedN p 4),l]).flatten)) ok.m2)⟩,⟨_,_,(RdL.ofCapB (v:=(ya3,(jfootN s (([(fixedN p 4),l]).flatten)).length,yc3)) (l:=(jfootN s (([(fixedN p 4),l]).flatten))) ok.m1)⟩,trivial⟩) (by simp [fixedN_len,jfootN]<;>omega)) ?_;rintro _ η7 own;obtain ⟨ya4,yc4,rfl⟩:=own.formB;have ok:=ok.own own;refine .z .asS<|.z .asI<|.nil<|.ret ⟨.tuple #[.slice ya4 ((([([(fixedN p 4),l]).flatten,(jfootN s (([(fixedN p 4),l]).flatten))]).flatten).length) yc4,.int .i64 0],Res.two rfl rfl rfl,.inr ⟨okE_t (by simpa using C0) (by omega),_,rfl,by have:=ok.toOwn;simpa [jputN,jbodyN,jfootN] using this⟩⟩
theorem okJ_le {n k:Nat} (h:okJ n k=true):n≤4096∧k≤1048576∧n*k≤16777216∧okSz n=true:=by
 simp only [okJ,Bool.and_eq_true,decide_eq_true_eq] at h;have:=h.1;simp only [okSz,Bool.or_eq_true,beq_iff_eq] at this;exact ⟨by omega,h.2.1,h.2.2,h.1⟩
@[reducible] def cacL (c:Nat) (F:Nat→Prop) (room:Int) (L:List AP):Itm:=⟨fun h=>CRep h F c room L,F,fun _ _ _ cg d q=>q.chg cg d⟩
theorem lpage {L:List AP} {no:Int} {x:AP} (h:hit no L=some x):gotL no L=x.b:=by unfold gotL;rw [h];rfl
section
variable {h:Heap} {c:Nat} {F:Nat→Prop} {room:Int} {L:List AP} {no:Int} {l:List UInt8}
theorem lget_any (q:CRep h F c room L) :
  HC Tryz.prog 287 #[.pointer (some ⟨c,0,none⟩),.int .i64 no] h (fun v h'=>∃F',(∃a c' x,v=.tuple #[.slice a x.b.length c',.bool true]∧hit no L=some x∧Hp h F [capI 1 5 (a,x.b.length,c') (x.b.map bv),cacL c F' room (getL no L)] [] h')∨
   (∃a n m,v=.tuple #[.slice a n m,.bool false]∧hit no L=none∧Hp h F [cacL c F' room (getL no L)] [] h')):=by
 refine (get_any q no).mono fun v h' ⟨g,F',hv,hr,hs,hcap,hg⟩=>⟨F',?_⟩;have o1:Hp h F [cacL c F' room (getL no L)] [] h':=Step.hp (x:=cacL c F room L) (it:=cacL c F' room (getL no L)) q q.lt rfl hs hr hr.lt rfl;cases hh:hit no L with
 | none=>obtain ⟨ga,gn,gc⟩:=g;exact .inr ⟨ga,gn,gc,by rw [hv,hh];rfl,rfl,o1⟩
 | some x=>
  rw [lpage hh] at hcap;obtain ⟨a,n,c'⟩:=g;have hn:n=x.b.length:=Cap.lenB hcap;subst hn;refine .inl ⟨a,c',x,by rw [hv,hh];rfl,rfl,⟨o1.chg,fun i hi=>?_,by simp,?_,by simp⟩⟩
  ·rcases List.mem_cons.1 hi with rfl | hi
   ·exact ⟨hcap,fun j hj=>⟨hcap.lt hj,.inr (hg j hj).1⟩⟩
   ·exact o1.m i hi
  ·exact List.pairwise_cons.2 ⟨fun b hb j hj=>by rw [List.mem_singleton.1 hb];exact (hg j hj).2,List.pairwise_singleton _ _⟩
theorem lput_any {a:Option Addr} {n:Nat} {Fb Eb:Nat→Prop} {d:Bool} (q:CRep h F c room L) (hb:RdL h Fb Eb (a,l.length,n) l) (hbl:l.length≤1000000) (hr:1≤room) (hlen:L.length≤100000000) :
  HC Tryz.prog 288 #[.pointer (some ⟨c,0,none⟩),.int .i64 no,.slice a l.length n,.bool d] h (fun v h'=>∃F',Hp h F [cacL c F' room (putL room no l d L)] [] h'∧FrIn h' F' v (putA room no l d L)):=
 (put_anyF q hlen no (bs:=(a,l.length,n)) hb.by hbl d hr).mono fun v h' ⟨F',hr,hst,hf⟩=>⟨F',Step.hp (x:=cacL c F room L) (it:=cacL c F' room (putL room no l d L)) q q.lt rfl hst hr hr.lt rfl,hf⟩
end
structure RK where
 in_:Bool
 now:Nat
 valid:Nat
 begun:Bool
 nonce:Nat
 km:Option Nat
 kept:List Int
 marked:Nat
 d:Nat
 rd:RD
 size:Nat
 c:Nat
 sure:Nat
 bytes:Nat
 broken:Bool
def kepI (km:Option Nat) (kept:List Int):Itm:=match km with
 | none=>anyI none_ (fun _=>True) (fun _ _ _ _ _ _=>trivial)
 | some m=>mapI (Value.int .i64) m (setE kept)
end Go.Proofs.YtndlpekckpdncaaGreat
namespace Go.HL
open Go Go.Proofs.YtndlpekckpdncaaGreat
section
variable {h0 h h':Heap} {D G:Nat→Prop} {M R:List Itm} {p:Nat} {r r':RK} {E E':Nat→Prop}
theorem Hp.kepNil {kept:List Int} (ok:Hp h0 D M R h):Hp h0 D (kepI none kept::M) R h:=ok.newM (Ext.refl _) _ trivial (fun _ f=>f.elim)
theorem Hp.kepSome {m:Nat} {kept:List Int} (ok:Hp h0 D (kepI (some m) kept::M) R h):Hp h0 D (mapI (Value.int .i64) m (setE kept)::M) R h:=ok
end
end Go.HL
namespace Go.Proofs.YtndlpekckpdncaaGreat
open Go Go.HL
section
variable {A:Bk} {s:List (List UInt8)} {cur:Option (List UInt8)}
theorem dirtyS_sub {S:List Int} {L:List AP} : ((dirtyS S L).map (·.page)).Sublist S:=by
 induction S with
 | nil=>exact .slnil
 | cons k S ih=>
  unfold dirtyS at ih⊢;rw [List.flatMap_cons,List.map_append];have h:((dirty1 L k).map (·.page)).Sublist [k]:=by
   unfold dirty1 toldL;cases hh:hit k L with
   | none=>simp
   | some x=>
    have:=(hit_some hh).2;by_cases hd:x.d=true
    ·simp only [hd,if_true,List.map_cons,List.map_nil,this];exact List.Sublist.refl _
    ·simp [hd]
  exact h.append ih
theorem dirtyB_perm {L:List AP} : ((nos L).mergeSort fun a b=>decide (a≤b)).Perm (nos L):=List.mergeSort_perm _ _
end
open Go Go.HL
theorem getD_set {P:List (List UInt8)} {k i:Nat} {b:List UInt8} (hk:k<P.length):(P.set k b).getD i []=if i=k then b else P.getD i []:=by
 rw [List.getD_eq_getElem?_getD,List.getElem?_set,List.getD_eq_getElem?_getD];by_cases h:k=i
 ·subst h;simp [hk]
 ·rw [if_neg h,if_neg fun e=>h e.symm]
theorem set_same {P:List (List UInt8)} {k:Nat} (hk:k<P.length):P.set k (P.getD k [])=P:=by
 have:P.getD k []=P[k]:=by simp [hk]
 rw [this];simp
theorem hit_of {L:List AP} (hn:(nos L).Nodup) {x:AP} (hx:x∈L):hit x.no L=some x:=by
 obtain ⟨y,hy⟩:=hit_mem (List.mem_map.2 ⟨x,hx,rfl⟩:x.no∈nos L);rw [hy,nos_inj hn (hit_some hy).1 hx (hit_some hy).2]
theorem bgetL_mem {L:List AP} (hn:(nos L).Nodup) {no:Int} {y:AP} : y∈getL no L↔y∈L:=by
 unfold getL;cases h:hit no L with
 | none=>exact Iff.rfl
 | some x=>
  have:=touch_mem hn (hit_some h).1 y;rw [(hit_some h).2] at this;exact this
theorem bgetL_nd {L:List AP} (hn:(nos L).Nodup) {no:Int} : (nos (getL no L)).Nodup:=by
 unfold getL;cases h:hit no L with
 | none=>exact hn
 | some x=>have:=nd_touch (x:=x) hn;rw [(hit_some h).2] at this;exact this
theorem put_cases {L:List AP} {room no:Int} {b:List UInt8} {d:Bool} (hno:1≤no) (hr:1≤room):∃ev:Option AP,putL1 no b d L=putL room no b d L++ev.toList∧putA room no b d L=toldL ev∧(∀x,ev=some x→x∈rid no L)∧(((putL1 no b d L).length:Int)≤room+1→((putL room no b d L).length:Int)≤room):=by
 have eL:putL room no b d L=if ((putL1 no b d L).length:Int)≤room then putL1 no b d L else (putL1 no b d L).dropLast:=if_neg (by omega)
 have eA:putA room no b d L=if ((putL1 no b d L).length:Int)≤room then [] else toldL (putL1 no b d L).getLast?:=if_neg (by omega)
 rw [eL,eA];by_cases h:((putL1 no b d L).length:Int)≤room
 ·rw [if_pos h,if_pos h];exact ⟨none,by simp,rfl,fun x h=>(by cases h),fun _=>h⟩
 ·rw [if_neg h,if_neg h];have hl:(putL1 no b d L).length=(rid no L).length+1:=by simp [putL1]
  have hrn:rid no L≠[]:=fun e=>by rw [e] at hl;simp at hl;omega
  obtain ⟨x,hx⟩:∃x,(putL1 no b d L).getLast? = some x:=by
   cases e:(putL1 no b d L).getLast? with
   | some x=>exact ⟨x,rfl⟩
   | none=>rw [List.getLast?_eq_none_iff] at e;simp [putL1] at e
  obtain ⟨M,hM⟩:=List.getLast?_eq_some_iff.1 hx;refine ⟨some x,by rw [hM];simp,by rw [hx],fun y hy=>?_,fun h2=>by rw [List.length_dropLast];omega⟩;cases hy
  cases M with
  | nil=>
   have:=congrArg List.length hM;rw [hl] at this;simp at this;exact absurd this hrn
  | cons m M=>
   have h3:(⟨no,b,d || wasD no L⟩::rid no L:List AP)=m::(M++[x]):=hM;injection h3 with _ h3;rw [h3];simp
section
variable {A:Bk} {s P:List (List UInt8)} {no:Nat} {b:List UInt8} {d:Bool}
theorem wasD_of {L:List AP} (hn:(nos L).Nodup) {no:Int} (h:wasD no L=false):∀x∈L,x.no=no→x.d=false:=fun x hx e=>by
 have:=hit_of hn hx;rw [e] at this;unfold wasD at h;rw [this] at h;exact h
end
open Go Go.HL
theorem srt_uniq:∀ {a b:List Int},a.Perm b→a.Pairwise (·≤·)→b.Pairwise (·≤·)→a=b
 | [],b,p,_,_=>(List.nil_perm.1 p).symm
 | x::a,[],p,_,_=>absurd p.length_eq (by simp)
 | x::a,y::b,p,ha,hb=>by
  have h1:=List.pairwise_cons.1 ha;have h2:=List.pairwise_cons.1 hb;have e:x=y:=by
   rcases List.mem_cons.1 (p.mem_iff.1 List.mem_cons_self) with e | e
   ·exact e
   ·rcases List.mem_cons.1 (p.symm.mem_iff.1 List.mem_cons_self) with f | f
    ·exact f.symm
    ·have:=h2.1 x e;have:=h1.1 y f;omega
  subst e;rw [srt_uniq ((List.perm_cons x).1 p) h1.2 h2.2]
theorem dirty_srt {S:List Int} {L:List AP} (hp:S.Perm (nos L)) (hs:S.Pairwise (·≤·)):dirtyS S L=dirtyB L:=by
 unfold dirtyB;rw [srt_uniq (hp.trans dirtyB_perm.symm) hs ((List.pairwise_mergeSort (le:=fun a b=>decide (a≤b)) (fun a b c h1 h2=>by simp only [decide_eq_true_eq] at *;omega) (fun a b=>by simp only [Bool.or_eq_true,decide_eq_true_eq];omega) (nos L)).imp fun h=>of_decide_eq_true h)]
theorem dirtyB_len {L:List AP} : (dirtyB L).length≤L.length:=by
 have:=dirtyS_sub (S:=(nos L).mergeSort fun a b=>decide (a≤b)) (L:=L);have h1:=this.length_le;rw [List.length_map,List.length_mergeSort] at h1;simpa [nos,dirtyB] using h1
def unG (l:List AFr) (O:List Nat):List AFr:=O.map fun i=>l.getD i ⟨0,0,[]⟩
theorem unG_fr {l:List AFr} {O:List Nat} (h:∀i∈O,i<l.length):O.map (frN (l.map AFr.fr))=(unG l O).map AFr.fr:=by
 unfold unG;rw [List.map_map];exact List.map_congr_left fun i hi=>by have:=h i hi;simp [frN,this]
theorem _root_.Go.HL.Hp.idxR {h0 h:Heap} {D F E:Nat→Prop} {M R:List Itm} {x y:SV} {l:List Fr} {xa:Nat→Option Addr} {xc:Nat→Nat} {O:List Nat} (ok:Hp h0 D (capI 3 277 y (O.flatMap (vfN l xa xc))::M) (frsI F E x l xa xc::R) h) (hO:∀i∈O,i<l.length) :
  Hp h0 D M (rdI (fun j=>blkC (sv y) j∨E j) (fun j=>blkC (sv y) j∨E j) y (O.map (frN l))::frsI F E x l xa xc::R) h:=by
 have hc:=ok.m0;have hf:=ok.r0;have hrd:RdL h (blkC (sv y)) E y (O.map (frN l)):=RdL.of_cap (α:=Fr) (E:=E) (css:=O.map (vfN l xa xc)) (by rw [←List.flatMap_def];exact hc) ⟨by simp,fun i h1 h2=>by
  simp only [List.length_map] at h1;simp only [List.getElem_map];exact ⟨(xa O[i],_,xc O[i]),rfl,hf.b _ (hO _ (List.getElem_mem h1))⟩⟩
 have ok2:=(ok.frz).or (r:=capI 3 277 y (O.flatMap (vfN l xa xc))) (r':=frsI F E x l xa xc) List.mem_cons_self (List.mem_cons_of_mem _ List.mem_cons_self) (rdI (fun j=>blkC (sv y) j∨E j) (fun j=>blkC (sv y) j∨E j) y (O.map (frN l))) (hrd.mono (fun _ h=>.inl h) (fun _ h=>.inr h)) (fun j hj=>(hj.elim id id).elim .inl fun h=>.inr (.inr h));exact ok2.sub fun i hi=>by
  rcases List.mem_cons.1 hi with rfl | hi
  ·exact List.mem_cons_self
  ·exact List.mem_cons_of_mem _ (List.mem_cons_of_mem _ hi)
section
variable {A:Bk} {s P:List (List UInt8)} {no:Nat} {b:List UInt8}
def rszP (P:List (List UInt8)) (n z:Nat):List (List UInt8):=P.take n++List.replicate (n-P.length) (List.replicate z 0)
theorem rszP_len {n z:Nat} : (rszP P n z).length=n:=by unfold rszP;simp;omega
theorem rszP_get {n z i:Nat} (h:i<n):(rszP P n z).getD i []=if i<P.length then P.getD i [] else List.replicate z 0:=by
 unfold rszP;rw [List.getD_eq_getElem?_getD,List.getD_eq_getElem?_getD];by_cases g:i<P.length
 ·rw [if_pos g,List.getElem?_append_left (by rw [List.length_take];omega),List.getElem?_take_of_lt h]
 ·rw [if_neg g,List.getElem?_append_right (by rw [List.length_take];omega),List.length_take,List.getElem?_replicate_of_lt (by omega)];rfl
end
open Go Go.HL
section
variable {h:Heap} {d:Nat} {F:Nat→Prop} {n:List UInt8} (ok:Hp h F [dgI d F newN] [] h)
include ok
theorem nsize_any:HC Tryz.prog 136 #[.pointer (some ⟨d,0,none⟩),.string (BA n)] h (fun v h'=>v=.tuple #[.int .i64 0,.bool false]∧h'=h):=dgsize_any ok
theorem ndark_any:HC Tryz.prog 135 #[.pointer (some ⟨d,0,none⟩)] h (fun v h'=>v=.bool false∧h'=h):=dgdark_any ok
end
theorem ngone_any {h:Heap} {d:Nat} {n:List UInt8} {F:Nat→Prop} (ok:Hp h F [dgI d F newN] [] h) :
  HC Tryz.prog 215 #[.pointer (some ⟨d,0,none⟩),.string (BA n)] h (fun v h'=>v=.int .i64 0∧h'=h):=by
 refine HC.go Tryz.func215 27 ?_;refine .s<|.z .asI<|.nil<|.seq<|.s<|.z .mvP<|.z .mvT<|.k 11 .func (nsize_any (n:=n) (ok).loc0)<|.z .mvU<|.z .ex<|.z .ex<|.z .asI<|.z .asB<|.nil<|.s<|.z .mvB<|.z .not<|.nil<|.ct<|.seq<|.s<|.z .mvP<|.k 17 .func (ndark_any (ok).loc0)<|.nil<|.cf<|.skip<|.s<|.z .asI<|.nil<|.ret ⟨.int .i64 0,Res.one rfl rfl,⟨rfl,rfl⟩⟩
theorem nover_any {h:Heap} {d:Nat} {F:Nat→Prop} (ok:Hp h F [dgI d F newN] [] h) :
  HC Tryz.prog 183 #[.pointer (some ⟨d,0,none⟩)] h (fun v h'=>v=.int .i64 0∧h'=h):=by
 refine HC.go Tryz.func183 11 ?_;refine .s<|.z .asI<|.nil<|.seq<|.s<|.z .mvP<|.k 5 .func (ngone_any (n:=nM) (ok).loc0)<|.z .asI<|.nil<|.s<|.z .mvI<|.z .neq<|.nil<|.cf<|.skip<|.s<|.z .mvP<|.k 10 .func (ngone_any (n:=nJ) (ok).loc0)<|.z .asI<|.nil<|.ret ⟨.int .i64 0,Res.one rfl rfl,⟨rfl,rfl⟩⟩
theorem nheal_any {h:Heap} {d:Nat} {F:Nat→Prop} (ok:Hp h F [dgI d F newN] [] h) :
  HC Tryz.prog 140 #[.pointer (some ⟨d,0,none⟩)] h (fun v h'=>v=.int .i64 0∧h'=h):=by
 refine HC.go Tryz.func140 65 ?_;refine .s<|.z .asI<|.nil<|.seq<|.s<|.z .mvP<|.k 14 .func (nsize_any (n:=nM) (ok).loc0)<|.z .mvU<|.z .ex<|.z .ex<|.z .asI<|.z .asB<|.nil<|.s<|.z .mvB<|.z .mvB<|.y<|.y<|.z .pkf<|.nil<|.cf<|.skip<|.seq<|.s<|.z .mvP<|.k 62 .func (ndark_any (ok).loc0)<|.nil<|.cf<|.skip<|.s<|.z .mvP<|.k 64 .func (nover_any (ok).loc0)<|.z .asI<|.nil<|.ret ⟨.int .i64 0,Res.one rfl rfl,⟨rfl,rfl⟩⟩
theorem nlook_any {h:Heap} {d:Nat} {z:Int} {F:Nat→Prop} (ok:Hp h F [dgI d F newN] [] h) :
  HC Tryz.prog 141 #[.pointer (some ⟨d,0,none⟩),.int .i64 z] h (fun v h'=>v=.tuple #[.int .i64 0,.int .i64 0]∧h'=h):=by
 refine HC.go Tryz.func141 58 ?_;refine .s<|.z .asI<|.z .asI<|.nil<|.s<|.z .mvP<|.k 13 .func (nsize_any (n:=nT) (ok).loc0)<|.z .mvU<|.z .ex<|.z .ex<|.z .asI<|.z .asB<|.nil<|.seq<|.s<|.z .mvB<|.z .not<|.z .mvB<|.y<|.y<|.z .pkt<|.nil<|.ct<|.s<|.z .asI<|.z .asI<|.nil<|.ret ⟨.tuple #[.int .i64 0,.int .i64 0],Res.two rfl rfl rfl,⟨rfl,rfl⟩⟩
theorem nright_any {h:Heap} {z:Nat} (hz:okSz z=true):HC Tryz.prog 132 #[.int .i64 (z:Int)] h (fun v h'=>v=.bool true∧h'=h):=by
 have hzc:=okSz_c hz;refine (aright_any (z:=(z:Int)) (by omega)).mono fun v h' q=>?_;rw [show okZ (z:Int)=true from decide_eq_true (by omega)] at q;exact q
open Go Go.HL
def newS (z:Nat):St:=⟨z,[],false,[],[]⟩
theorem newS_ok {z:Nat} (hz:okSz z=true):StOk (newS z):=⟨hz,.nil,.nil,by simp [newS],by simp [newS],fun _=>⟨rfl,rfl⟩⟩
theorem ds_new {G:Pgr} {h h':Heap} {F pF:Nat→Prop} {s p z:Nat} {lg:Option Addr} {a:G.α} (ha:G.sure a=[]) (hz:okSz z=true) (ok:Hp h F [boxI s 123 [.iface G.tid (pv p),.pointer lg,.int .i64 (z:Int),.bool false,.int .i64 0,.map none,.slice none 0 0,.bool false],G.it p pF a] [] h'):∃F',Hp h F [dsI G s F' (newS z)] [] h':=by
 have o:=(((ok.nowNil (bs:=[])).nilC (k:=2) (e:=120)).dE (svsI none_ []) (fun x h=>by cases h) (fun _ f=>f)).dE (pbsI none_ []) Pbs.nil (fun _ f=>f);have V:SVw G (⟨p,lg,z,false,0,none,[],none,0,[],pF,a⟩:RS G.α) (newS z):=⟨rfl,rfl,ha,fun h=>(by cases h),fun _=>⟨rfl,rfl,rfl,rfl⟩,All2.nil,newS_ok hz⟩;exact ⟨_,ds_close (F:=F) (D:=F) (h:=h) (r':=(⟨p,lg,z,false,0,none,[],none,0,[],pF,a⟩:RS G.α)) (E':=none_) (M:=[]) (R:=[]) (o.n2.n2.n1) (fun _ h=>h) (fun _ f=>f.elim) V⟩
def lcg (x:Nat):Nat:=(x*1664525+1013904223)%4294967296
def lcgs (x:Nat):Nat→Nat
 | 0=>x
 | i+1=>lcg (lcgs x i)
def byteG (x:Nat):UInt8:=UInt8.ofNat (x / 16777216)
def pageG (z seed:Nat):List UInt8:=(List.range z).map fun i=>byteG (lcgs (seed+1) (i+1))
theorem pageG_len {z seed:Nat} : (pageG z seed).length=z:=by simp [pageG]
theorem any_step {l:List Int} {v:Int} {i:Nat} (h:i<l.length) (hn:v∉l.take i) (h2:l[i]≠v):v∉l.take (i+1):=by
 rw [List.take_succ_eq_append_getElem h,List.mem_append,List.mem_singleton];rintro (q | q)
 ·exact hn q
 ·exact h2 q.symm
theorem take_step {l l2:List Int} {i:Nat} (h:i<l.length) (h2:i<l2.length) (hn:l.take i=l2.take i) (h3:l[i]=l2[i]):l.take (i+1)=l2.take (i+1):=by
 rw [List.take_succ_eq_append_getElem h,List.take_succ_eq_append_getElem h2,hn,h3]
end Go.Proofs.YtndlpekckpdncaaGreat
