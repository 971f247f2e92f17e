/- The pager that keeps a journal, its power on: its calls. Conditions: the pager is in order. The contracts of maps.Keys, slices.Sorted and slices.Sort, laid at this program by the kit. Conditions: none. maps.Keys and slices.Sorted over the store's map of pages. Conditions: the keys are ints of 64 bits. A pager of whatever make that keeps what is committed, its power on; and what a store's commit asks and leaves, in plain terms. Conditions: those that each fact names. The pager that keeps a journal, opened on a new disk; it keeps what is committed. Conditions: the power is on; not too much is done. The store's commit. Conditions: the pager keeps what is committed, and may. The store's commit, told by the document's state. Conditions: the pager keeps what is committed, and may. A store is opened on a new disk, with the pager that keeps a journal, and what is committed. Conditions: the size and the room may be. The chapter's first example of the store. Conditions: none. Without a disk there is no store, and of no store nothing. Conditions: none. How a law whose call returns true and turns nothing old closes its row. Conditions: those that each fact names. How arguments that come in read: types opened one by one. Conditions: those that each fact names. Arguments of the laws on the store, opened: modes, heads, deeds. Conditions: none. The law StoreNobody at its opened arguments. Conditions: none. -/
import Derived.Test.YtndlpekckpdncaaGreatPkN6
import Derived.Shelf.SlIterI.Nil
import Derived.Shelf.SortM.Plain
import Derived.Shelf.SortM.SortNone
import Derived.Ground.GgzProg
import Derived.Ground.SlgmProg
import Derived.Test.YtndlpekckpdncaaGreatProg
import Derived.ProofKit
import Derived.OpenShut
import Derived.Below
import Derived.Carry
import Derived.Deep.Slices
import Derived.ChangeArms
import Derived.ChangeMaps5
set_option maxRecDepth 100000
set_option maxHeartbeats 2000000
set_option linter.all false
namespace Go.Proofs.YtndlpekckpdncaaGreat
open Go Go.HL
section
variable {r:RH} {room:Int} {L:List AP} {P:List (List UInt8)}
def begH (r:RH) (m:Nat):RH:={ r with in_:=true,now:=r.sure,valid:=r.sure,begun:=false,nonce:=0,km:=some m,kept:=[],marked:=0 }
theorem HB.begin (k:HB r room L P) (hi:r.in_=false) (m:Nat):HB (begH r m) room L P:=by
 have hb:=k.bs (k.out hi);have hs:r.sure=P.length:=by have:=k.np;unfold presH at this;rw [if_neg (by rw [hi];decide)] at this;exact this
 have hby:=k.k.by_;refine ⟨⟨k.k.sz,k.k.hd,k.k.by_,k.k.fit,k.k.ms,fun h=>(by cases h),fun _=>⟨rfl,rfl⟩,.nil,fun x hx=>(by cases hx),by show (0:Nat)<_;decide,k.k.chg⟩,?_,k.pl,k.mp,k.nd,k.rm,k.rg,k.at_,fun i h1 h2=>?_,fun h=>(by cases h),fun _=>⟨Nat.le_refl _,by show r.sure*r.size≤r.bytes;omega⟩,fun _=>⟨m,rfl⟩,fun h=>(by cases h),fun _=>hb⟩
 ·unfold presH begH;simpa using hs
 ·rw [←k.un i h1 h2];unfold upF begH;simp only [hi];rw [if_neg (by rintro ⟨_,h⟩;omega),if_neg (by rintro ⟨h,_⟩;cases h)]
def rszH (r:RH) (n:Nat):RH:={ r with now:=n,valid:=min r.valid n }
theorem HB.resize (k:HB r room L P) (hi:r.in_=true) {n:Nat} (h3:n*(r.size+8)+28≤16777216):HB (rszH r n) room (L.filter fun x=>decide (x.no≤(n:Int))) (rszP P n r.size):=by
 have v:=k.vn hi;have hn:r.now=P.length:=by have:=k.np;unfold presH at this;rw [if_pos hi] at this;exact this
 have hmem:∀ {x:AP},x∈L.filter (fun x=>decide (x.no≤(n:Int)))↔x∈L∧x.no≤n:=fun {x}=>by simp
 refine ⟨⟨k.k.sz,k.k.hd,k.k.by_,k.k.fit,k.k.ms,k.k.jb,k.k.jn,k.k.kn,k.k.kr,k.k.no,k.k.chg⟩,?_,fun x hx=>?_,by rw [rszP_len];exact h3,?_,⟨k.rm.1,k.rm.2.1,?_⟩,fun x hx=>?_,fun x hx=>?_,fun i hi2 h=>?_,fun h=>absurd (show r.in_=false from h) (by rw [hi];decide),fun _=>⟨Nat.min_le_right _ _,Nat.le_trans (Nat.mul_le_mul_right _ (Nat.min_le_left _ _)) v.2⟩,k.km,k.out,k.bs⟩
 ·unfold presH rszH;simp only [hi,if_true,rszP_len]
 ·obtain ⟨i,hi2,rfl⟩:=List.mem_iff_getElem.1 hx;rw [rszP_len] at hi2;have e:=rszP_get (P:=P) (z:=r.size) hi2;rw [List.getD_eq_getElem?_getD,List.getElem?_eq_getElem (by rw [rszP_len];exact hi2),Option.getD_some] at e;rw [e];split
  ·rename_i h;exact k.page_len h
  ·exact List.length_replicate
 ·unfold nos;exact (List.filter_sublist.map _).nodup k.nd
 ·have:=List.length_filter_le (fun x:AP=>decide (x.no≤(n:Int))) L;have:=k.rm.2.2;omega
 ·have h1:=hmem.1 hx;rw [rszP_len];exact ⟨(k.rg x h1.1).1,h1.2⟩
 ·have h1:=hmem.1 hx;have h2:=k.rg x h1.1;rw [rszP_get (by omega),if_pos (by omega)];exact k.at_ x h1.1
 ·rw [rszP_len] at hi2;rw [rszP_get hi2];have hin2:(rszH r n).in_=true:=hi;rw [upF_in hin2];show upZ r.size (min r.valid n) (fT r.D) i=_;by_cases hp:i<P.length
  ·rw [if_pos hp,←k.un i hp (fun x hx hno=>h x (hmem.2 ⟨hx,by omega⟩) hno),upF_in hi];unfold upZ;by_cases hv:r.valid≤i
   ·rw [if_pos (by omega),if_pos hv]
   ·rw [if_neg (by omega),if_neg hv]
  ·rw [if_neg hp];unfold upZ;rw [if_pos (by omega)]
def cmtH (r':RH):RH:={ r' with in_:=false,now:=0,valid:=0,begun:=false,nonce:=0,km:=none,kept:=[],marked:=0,sure:=r'.now }
theorem HB.commit {r':RH} {L':List AP} (k:HB r room L P) (hi:r.in_=true) (q:LA L' r r' P):HB (cmtH r') room (cl (nos L) L) P:=by
 have hn:r'.now=P.length:=by have:=k.np;unfold presH at this;rw [if_pos hi] at this;exact q.now.trans this
 have hcl:∀ {y:AP},y∈cl (nos L) L→∃x∈L,y=⟨x.no,x.b,false⟩:=fun {y} hy=>by
  unfold cl at hy;obtain ⟨x,hx,rfl⟩:=List.mem_map.1 hy;exact ⟨x,hx,if_pos (show x.no∈nos L from List.mem_map.2 ⟨x,hx,rfl⟩)⟩
 have hnos:nos (cl (nos L) L)=nos L:=by
  unfold nos cl;rw [List.map_map];exact List.map_congr_left fun x _=>by show (if _ then _ else _:AP).no=x.no;split<;>rfl
 have hf:=k.few;refine ⟨⟨by show okSz r'.size=true;rw [q.size];exact k.k.sz,q.hd,by show (fT r'.D).length=r'.bytes;rw [q.len,q.bytes],by show r'.bytes≤_;rw [q.bytes];exact hf.1,by show r'.now*(r'.size+8)+28≤_;rw [q.size,hn];exact k.mp,fun h=>(by cases h),fun _=>⟨rfl,rfl⟩,.nil,fun x hx=>(by cases hx),by show (0:Nat)<_;decide,q.hd.dk.chg⟩,?_,fun x hx=>by show x.length=r'.size;rw [q.size];exact k.pl x hx,by show P.length*(r'.size+8)+28≤_;rw [q.size];exact k.mp,by rw [hnos];exact k.nd,⟨k.rm.1,k.rm.2.1,by have h1:(cl (nos L) L).length=L.length:=List.length_map _;rw [h1];exact k.rm.2.2⟩,fun y hy=>?_,fun y hy=>?_,fun i h1 _=>?_,fun _ y hy=>?_,fun h=>(by cases h),fun h=>(by cases h),fun _=>rfl,fun _=>?_⟩
 ·unfold presH cmtH;simpa using hn
 ·obtain ⟨x,hx,rfl⟩:=hcl hy;exact k.rg x hx
 ·obtain ⟨x,hx,rfl⟩:=hcl hy;exact k.at_ x hx
 ·rw [←q.pg i h1];unfold upF cmtH;rw [if_neg (by rintro ⟨h,_⟩;cases h)];show pgF r'.size _ i=_;rw [q.size]
 ·obtain ⟨x,hx,rfl⟩:=hcl hy;rfl
 ·show r'.bytes=r'.now*r'.size;rw [q.bytes,q.size,hn]
end
theorem hbegin_any {h:Heap} {p:Nat} {r:RH} {D Fd Fc:Nat→Prop} {room:Int} {L:List AP} {P:List (List UInt8)} (k:HB r room L P) (hin:r.in_=false) (ok:Hp h D [hboxI p r,kepI r.km r.kept,dgI r.d Fd r.D,cacL r.c Fc room L] [] h) :
  HC Tryz.prog 294 #[.pointer (some ⟨p,0,none⟩)] h (fun v h'=>v=.int .i64 0∧∃m,Hp h D [hboxI p (begH r m),kepI (some m) [],dgI r.d Fd r.D,cacL r.c Fc room L] [] h'):=by
 refine HC.go Tryz.func294 27 ?_;refine .seq<|.r<|.z .asI<|.nil ?_;refine .seq<|.seq<|.r<|.z .mvP<|.k 5 .func (hst_any (r:=r) ok.m0)<|.z .asI<|.nil ?_;refine .seq<|.r<|.z .mvI<|.z .neq<|.nil ?_;refine .cf<|.skip<|.seq<|.seq<|.r<|.z .mvP<|.z .nil<|.z (.fa T.fd212_0)<|.z (.fa T.fd210_0)<|.z (.ldx T.ag4 ok.m0)<|.nil ?_;refine .cond (fun C1=>?_) (fun C1=>?_)
 ·
  rw [hin] at C1;cases C1
 refine .skip<|.seq<|.a 13 (fun fl hh=>cond fl True (Hp h D [boxI p 212 [.bool r.in_,.int .i64 (r.now:Int),.int .i64 (r.valid:Int),.bool r.begun,.int .u64 (r.nonce:Int),.map r.km,.int .i64 (r.marked:Int),.pointer (some ⟨r.d,0,none⟩),.int .i64 (r.size:Int),.pointer (some ⟨r.c,0,none⟩),.int .i64 (r.sure:Int),.int .i64 (r.bytes:Int),.bool false],kepI r.km r.kept,dgI r.d Fd r.D,cacL r.c Fc room L] [] hh)) mixed ?_;have hS:=ok;refine .g 0 false rfl 14 hS (fun _=>.mvP)<|.g 1 false rfl 15 hS (fun _=>.mvP)<|.g 2 false rfl 16 hS (fun _=>.nil)<|.g 3 false rfl 17 hS (fun _=>.fa T.fd212_4)<|.l 4 false rfl 18 hS (fun _ hS=>.ldx T.ag3 hS.m0)<|.g 5 false rfl 19 hS (fun _=>.mvP)<|.g 6 false rfl 20 hS (fun _=>.nil)<|.g 7 false rfl 21 hS (fun _=>.fa T.fd212_4)<|.l 8 false rfl 22 hS (fun _ hS=>.ldx T.ag3 hS.m0)<|.o1 9<|.a' false rfl 23 (.mkm (Value.int .i64) ok) ?_;rintro _ η1 ⟨mb1,rfl,ok⟩;refine ⟨ok.n4.n4.n4.n4.k4,?_⟩;have hS:=ok.n4.n4.n4.n4.k4;refine .g 10 false rfl 24 hS (fun _=>.bd #[.bool true,.int .i64 (r.sure:Int),.int .i64 (r.sure:Int),.bool false,.int .u64 0,.map (some mb1),.int .i64 0] T.zr210 T.pl210 (by kernel_rfl))<|.g 11 false rfl 25 hS (fun _=>.nil)<|.g 12 false rfl 26 hS (fun _=>.fa T.fd212_0)<|.o1 13<|.ur' true rfl (.stA (vs:=[.bool true,.int .i64 (r.sure:Int),.int .i64 (r.sure:Int),.bool false,.int .u64 0,.map (some mb1),.int .i64 0]) T.sz210 ok.n1 (oneL rfl)) ?_;rintro η2 ⟨ok,cg⟩;refine ⟨trivial,?_⟩;refine .e ?_;refine .seq<|.r<|.z .asI<|.nil ?_;refine .ret ⟨.int .i64 0,Res.one rfl rfl,⟨rfl,mb1,(ok.n4.n4.n3.n3).k4⟩⟩
theorem hresize_any {h:Heap} {p:Nat} {r:RH} {D Fd Fc:Nat→Prop} {room:Int} {L:List AP} {P:List (List UInt8)} {n:Nat} (k:HB r room L P) (hin:r.in_=true) (hn:n*(r.size+8)+28≤16777216) (ok:Hp h D [hboxI p r,kepI r.km r.kept,dgI r.d Fd r.D,cacL r.c Fc room L] [] h) :
  HC Tryz.prog 299 #[.pointer (some ⟨p,0,none⟩),.int .i64 (n:Int)] h (fun v h'=>v=.int .i64 0∧∃Fc',Hp h D [hboxI p (rszH r n),kepI r.km r.kept,dgI r.d Fd r.D,cacL r.c Fc' room (L.filter fun x=>decide (x.no≤(n:Int)))] [] h'):=by
 have hzc:=k.zc;have hnm:n≤mostB r.size:=by unfold mostB;rw [Nat.le_div_iff_mul_le (by omega)];omega
 have hnz:n*264≤n*(r.size+8):=Nat.mul_le_mul_left _ (by omega);have hrm:=k.rm;have hfw:=k.few;refine HC.go Tryz.func299 72 ?_;refine .seq<|.r<|.z .asI<|.nil ?_;refine .seq<|.seq<|.r<|.z .mvP<|.k 9 .func (hst_any (r:=r) ok.m0)<|.z .asI<|.nil ?_;refine .seq<|.r<|.z .mvI<|.z .neq<|.nil ?_;refine .cf<|.skip<|.seq<|.block fun K0 hK0=>.seq<|.r<|.z .mvP<|.z .nil<|.z (.fa T.fd212_0)<|.z (.fa T.fd210_0)<|.z (.ldx T.ag4 ok.m0)<|.z .not<|.z .asB<|.nil ?_;refine .cond (fun C1=>?_) (fun C1=>?_)
 ·
  rw [hin] at C1;simp at C1
 refine .seq<|.r<|.z .mvI<|.z .lss<|.z .asB<|.nil ?_;refine .cd (fun C2=>?_) (fun C2=>?_)
 ·
  omega
 refine .seq<|.r<|.z .mvI<|.z .gtr<|.z .mvB<|.sd (fun G26=>?_) (fun G26=>?_)
 ·
  omega
 refine .z .mvI<|.z .mvP<|.z .nil<|.z (.fa T.fd212_2)<|.z (.ldx T.ag3 ok.m0)<|.k 32 .func (most_any (n:=r.size) (by omega))<|.z .gtr<|.z .pkf<|.z .asB<|.nil ?_;refine .cd (fun C3=>?_) (fun C3=>?_)
 ·
  omega
 refine .skip<|.end<|hK0 _ _<|.seq<|.seq<|.r<|.z .mvP<|.z .nil<|.z (.fa T.fd212_3)<|.z (.ldx T.ag194 ok.m0)<|.c' 39 .func (pages_any (ok.n3).m0) ?_;rintro _ η1 own;obtain ⟨ya1,yn1,yc1,rfl⟩:=own.form3;have ok:=ok.own own;obtain rfl:yn1=(nos L).length:=by have:=(Cap.sl ok.m0).cells.len;simpa using this.symm
 have ok:=ok.frzI (l:=(nos L)) rfl;have hmc:=ok.r0.m;have hcc:=ok.r0.c;simp only at hmc hcc;refine .z (.len T.el24)<|.z .mvI<|.nil ?_;refine .block fun K1 hK1=>.loop (fun m s hh=>∃(i:Nat) (Fi:Nat→Prop),Has s [(0,.pointer (some ⟨p,0,none⟩)),(1,.int .i64 (n:Int)),(39,.slice ya1 ((nos L).length) yc1),(40,.int .i64 (((nos L).length:Nat):Int)),(41,.int .i64 (i:Int))]∧Hp h D [boxI p 212 [.bool r.in_,.int .i64 (r.now:Int),.int .i64 (r.valid:Int),.bool r.begun,.int .u64 (r.nonce:Int),.map r.km,.int .i64 (r.marked:Int),.pointer (some ⟨r.d,0,none⟩),.int .i64 (r.size:Int),.pointer (some ⟨r.c,0,none⟩),.int .i64 (r.sure:Int),.int .i64 (r.bytes:Int),.bool false],kepI r.km r.kept,dgI r.d Fd r.D,cacL r.c Fi room (rzL (n:Int) ((nos L).take i) L)] [rdI (blkC (sv (ya1,(nos L).length,yc1))) none_ (ya1,(nos L).length,yc1) (nos L)] hh∧i≤(nos L).length∧m=(nos L).length-i) ?_ ?_;have ok:=ok.n3;rw [show cacL r.c Fc room L=cacL r.c Fc room (rzL (n:Int) ((nos L).take 0) L) from by rw [show (rzL (n:Int) ((nos L).take 0) L)=L from rz_0]] at ok
 ·exact ⟨_,0,Fc,⟨rfl,rfl,rfl,rfl,rfl,trivial⟩,(ok.n3.n3.n3).k4,Nat.zero_le _,rfl⟩
 rintro _ _ η2 ⟨i,Fi,hs,ok,hi,rfl⟩ J0 hJ0;refine .frame hs fun τ=>?_;refine .seq<|.r<|.z .lss<|.nil ?_;refine .seq<|.cdr (fun C4=>?_) (fun C4=>?_)
 ·
  refine .exit<|hK1 _ _<|.seq<|?_;have hrz:(rzL (n:Int) ((nos L).take i) L)=L.filter fun x=>decide (x.no≤(n:Int)):=by rw [show i=(nos L).length by omega,List.take_length];exact rz_all
  rw [hrz] at ok;refine .r<|.z .mvP<|.z .mvP<|.z .mvI<|.z .mvP<|.z .nil<|.z (.fa T.fd212_0)<|.z (.fa T.fd210_2)<|.z (.ldx T.ag3 ok.m0)<|.z .mvI<|.z .min2<|?_;rw [show ((min (r.valid:Int) (n:Int)):Int)=((min r.valid n:Nat):Int) from by omega];refine .z .nil<|.z (.fa T.fd212_0)<|.z (.fa T.fd210_1)<|.ur' (.stI T.sz3 ok) ?_;rintro η3 ⟨ok,cg⟩;refine .z .nil<|.z (.fa T.fd212_0)<|.z (.fa T.fd210_2)<|.ur' (.stI T.sz3 ok) ?_;rintro η4 ⟨ok,cg⟩;refine .nil ?_;refine .seq<|.r<|.z .asI<|.nil ?_;refine .ret ⟨.int .i64 0,Res.one rfl rfl,⟨rfl,Fi,(ok).k4.e0⟩⟩
 refine .skip<|.seq<|.block fun K2 hK2=>.seq<|.r<|?_;obtain ⟨bb1,oo1,rfl,fb1⟩:=ok.r0.pos (by omega);refine .z (.ix1 i T.el24 T.sz3)<|.z (.ld T.ag3 (ok.r0.i64 (i:=i) (by omega)))<|.z .asI<|.nil ?_;refine .seq<|.r<|.z .mvI<|.z .mvI<|.z .gtr<|.nil ?_;refine .cd (fun C5=>?_) (fun C5=>?_)
 ·
  refine .r<|.z .mvP<|.z .nil<|.z (.fa T.fd212_3)<|.z (.ldx T.ag194 ok.m0)<|.z .mvI<|.a' 53 (.lit [.tmp 52] (cs:=[.int .i64 ((nos L)[i])]) T.el24 T.sz3 T.zr3 ok ⟨rfl,trivial⟩) ?_;rintro _ η5 ⟨pb1,rfl,ok,xe⟩;refine .c' 54 .func (ldrop1_any (x:=(some ⟨pb1,0,none⟩,1,1)) (no:=(nos L)[i]) (ok.n4).m0 (ok.n4).m1.sl (fun b hb hF=>(List.pairwise_cons.1 (ok.n4).mm).1 _ List.mem_cons_self b hF (blk_toC hb))) ?_;rintro _ η6 ⟨Fd1,rfl,q⟩;have ok:=(ok.n4).lift1 q;refine .nil ?_;refine .end<|hK2 _ _<|.r<|.z (.addI (b:=1))<|.z .mvI<|.nil ?_;refine .end<|?_;have ok:=ok;rw [rz_drop (by omega) C5] at ok;refine hJ0 _ _ _ ⟨i+1,Fd1,⟨rfl,rfl,rfl,rfl,rfl,trivial⟩,(ok.n4.n4.n4).k4,by omega,rfl⟩ (by omega)
 refine .skip<|.end<|hK2 _ _<|.r<|.z (.addI (b:=1))<|.z .mvI<|.nil ?_;refine .end<|?_;have ok:=ok.n3;rw [←rz_skip (by omega) (by omega)] at ok;refine hJ0 _ _ _ ⟨i+1,Fi,⟨rfl,rfl,rfl,rfl,rfl,trivial⟩,(ok.n3.n3.n3).k4,by omega,rfl⟩ (by omega)
structure KP (r r':RH):Prop where
 in_:r'.in_=r.in_
 size:r'.size=r.size
 c:r'.c=r.c
 chg:r'.D.chg≤r.D.chg+20
 ro:r.in_=false→r'=r
theorem pt_kp {r r':RH} {l:List AFr} {Q:Prop} (h:l.length≤1∧Q∧(l≠[]→r.in_=true)) (q:(l=[]∧r'=r)∨(l≠[]∧FL r r' l)):KP r r':=by
 rcases q with ⟨_,rfl⟩ | ⟨hl,q⟩
 ·exact ⟨rfl,rfl,rfl,by omega,fun _=>rfl⟩
 ·exact ⟨q.in_,q.size,q.c,by have:=q.chg;have:=h.1;omega,fun hi=>by rw [h.2.2 hl] at hi;cases hi⟩
theorem hbwrite_any {h:Heap} {p:Nat} {r:RH} {D Fd Fc F2 E2:Nat→Prop} {room:Int} {L:List AP} {P:List (List UInt8)} {no:Nat} {a:Option Addr} {c:Nat} {b:List UInt8} (k:HB r room L P) (hin:r.in_=true) (hcg:r.D.chg<480000000) (h1:1≤no) (h2:no≤P.length) (hb:b.length=r.size) (ok:Hp h D [hboxI p r,kepI r.km r.kept,dgI r.d Fd r.D,cacL r.c Fc room L] [rdI F2 E2 (a,b.length,c) b] h) :
  HC Tryz.prog 301 #[.pointer (some ⟨p,0,none⟩),.int .i64 (no:Int),.slice a b.length c] h (fun v h'=>v=.int .i64 0∧∃r' Fd' Fc' L',HB r' room L' (P.set (no-1) b)∧KP r r'∧Hp h D [hboxI p r',kepI r'.km r'.kept,dgI r'.d Fd' r'.D,cacL r'.c Fc' room L'] [] h'):=by
 have hzc:=k.zc;have hsz:=hzc.2;have hfw:=k.few;have hnow:r.now=P.length:=by have:=k.np;unfold presH at this;rw [if_pos hin] at this;exact this
 refine HC.goD Tryz.func301 61 ?_;refine .seq<|.lift<|.r<|.a' 6 (.alI T.zr34 ok) ?_;rintro _ η1 ⟨pb1,rfl,ok,xe⟩;refine .nil ?_;refine .end<|HSD.on<|.seq<|.seq<|.lift<|.r<|.z .mvP<|.k 10 .func (hst_any (r:=r) ok.m1)<|.z .asI<|.nil ?_;refine .end<|HSD.on<|.seq<|.lift<|.r<|.z .mvI<|.z .neq<|.nil ?_;refine .end<|HSD.on<|.lift<|.cf<|.skip<|.end<|HSD.on<|.seq<|.rd<|.z .mvP<|.df (args:=[.pointer (some ⟨p,0,none⟩),.pointer (some ⟨pb1,0,none⟩)]) rfl<|?_;refine .seq<|.block fun K0 hK0=>.seq<|.r<|.z .mvP<|.z .nil<|.z (.fa T.fd212_0)<|.z (.fa T.fd210_0)<|.z (.ldx T.ag4 ok.m1)<|.z .not<|.z .asB<|.nil ?_;refine .cond (fun C1=>?_) (fun C1=>?_)
 ·
  rw [hin] at C1;simp at C1
 refine .seq<|.r<|.z .mvI<|.z .lss<|.z .mvB<|.sd (fun G25=>?_) (fun G25=>?_)
 ·
  omega
 refine .z .mvI<|.z .mvP<|.z .nil<|.z (.fa T.fd212_0)<|.z (.fa T.fd210_1)<|.z (.ldx T.ag3 ok.m1)<|.z .gtr<|.z .pkf<|.z .mvB<|.sd (fun G34=>?_) (fun G34=>?_)
 ·
  omega
 refine .z .mvS<|.z (.len T.el44)<|.z .mvP<|.z .nil<|.z (.fa T.fd212_2)<|.z (.ldx T.ag3 ok.m1)<|.z .neq<|.z .pkf<|.z .asB<|.nil ?_;refine .cd (fun C2=>?_) (fun C2=>?_)
 ·
  omega
 refine .skip<|.end<|hK0 _ _<|.seq<|.r<|.z .mvP<|.z .mvI<|.c' 46 .func (hget_any (p:=p) (r:=r) (L:=L) (no:=no) k.k.hd hsz (by omega) (ok.n4.n4.n3).lc3.e0) ?_;rintro _ η2 ⟨Fg1,ag1,cg1,rfl,q⟩;have ok:=(ok.n4.n4.n3).lf34 q;have hgot:=k.get (no:=no) (by omega) (by omega);rw [hgot.1] at ok⊢;have hgl:(P.getD (no-1) []).length=r.size:=k.page_len (by omega);refine .z .mvU<|.z .ex<|.z .ex<|.z .asS<|.ur' (.stI T.sz34 ok.n4) ?_;rintro η3 ⟨ok,cg⟩;refine .nil ?_;refine .seq<|.seq<|.r<|.z (.ldx T.ag34 ok.m0)<|.z .neq<|.z .mvB<|.z .mvS<|.z .mvS<|.k 54 .func (equal_any (a:=ag1) (c:=cg1) (l:=(P.getD (no-1) [])) (b:=a) (d:=c) (l2:=b) (RdL.ofCapB (v:=(ag1,(P.getD (no-1) []).length,cg1)) (l:=(P.getD (no-1) [])) ok.m1) ok.r0)<|.z .pkf<|.nil ?_;refine .cd (fun C3=>?_) (fun C3=>?_)
 ·
  refine .seq<|.r<|.z (.ldx T.ag34 ok.m0)<|.ur' (.stI T.sz34 ok) ?_;rintro η4 ⟨ok,cg⟩;refine .nil ?_;refine .ret ⟨_,_,_,rfl,(hend_any (p:=p) (q:=pb1) (r:=r) (ok.m2) (ok.m0)),?_⟩;rintro _ _ ⟨rfl,rfl⟩;refine ⟨.int .i64 0,Res.many (vs:=[.int .i64 0]) rfl ⟨⟨_,rfl,load_1 T.ag34 ok.m0⟩,trivial⟩ rfl,⟨rfl,r,Fd,Fg1,_,(by rw [show b=P.getD (no-1) [] from C3.symm,set_same (by omega)];exact hgot.2),⟨rfl,rfl,rfl,by omega,fun _=>rfl⟩,(ok.n4.n4.n5.n5).k4.e0⟩⟩
 refine .skip<|.seq<|.r<|.z .mvP<|.z .mvI<|.z .mvS<|.c' 60 .func (hput_any (p:=p) (r:=r) (L:=(getL (no:Int) L)) (no:=no) (a:=a) (c:=c) (l:=b) (d:=true) hgot.2 (by omega) (by omega) (by omega) (ok.n4.n4.n5.n5).lc4) ?_;rintro _ η5 ⟨rfl,rp1,Fdp1,Fcp1,wp1,q⟩;have ok:=(ok.n4.n4.n5.n5).lf44 q;have hbp1:=hgot.2.put (no:=no) (b:=b) (d:=true) (r':=rp1) (by omega) (by omega) hb (fun h=>by cases h) (fun _=>hin) wp1;refine .ur' (.stI T.sz34 ok.n4) ?_;rintro η6 ⟨ok,cg⟩;refine .nil ?_;refine .ret ⟨_,_,_,rfl,(hend_any (p:=p) (q:=pb1) (r:=rp1) (ok.m1) (ok.m0)),?_⟩;rintro _ _ ⟨rfl,rfl⟩;have hkp:=pt_kp (hgot.2.ptA (by omega)) wp1;refine ⟨.int .i64 0,Res.many (vs:=[.int .i64 0]) rfl ⟨⟨_,rfl,load_1 T.ag34 ok.m0⟩,trivial⟩ rfl,⟨rfl,rp1,Fdp1,Fcp1,_,hbp1,hkp,(by rw [hkp.c];exact (ok.n4.n4.n4.n4).k4.e0)⟩⟩
theorem hbread_any {h:Heap} {p:Nat} {r:RH} {D Fd Fc:Nat→Prop} {room:Int} {L:List AP} {P:List (List UInt8)} {no:Nat} (k:HB r room L P) (hcg:r.D.chg<480000000) (h1:1≤no) (h2:no≤P.length) (ok:Hp h D [hboxI p r,kepI r.km r.kept,dgI r.d Fd r.D,cacL r.c Fc room L] [] h) :
  HC Tryz.prog 298 #[.pointer (some ⟨p,0,none⟩),.int .i64 (no:Int)] h (fun v h'=>∃x c,v=.tuple #[.slice x (P.getD (no-1) []).length c,.int .i64 0]∧∃r' Fd' Fc' L',HB r' room L' P∧KP r r'∧Hp h D [capI 1 5 (x,(P.getD (no-1) []).length,c) ((P.getD (no-1) []).map bv),hboxI p r',kepI r'.km r'.kept,dgI r'.d Fd' r'.D,cacL r'.c Fc' room L'] [] h'):=by
 have hzc:=k.zc;have hsz:=hzc.2;have hfw:=k.few;have hnp:=k.np;refine HC.goD Tryz.func298 37 ?_;refine .seq<|.lift<|.r<|.z .asS<|.a' 5 (.alI T.zr34 ok) ?_;rintro _ η1 ⟨pb1,rfl,ok,xe⟩;refine .nil ?_;refine .end<|HSD.on<|.seq<|.seq<|.lift<|.r<|.z .mvP<|.k 8 .func (hst_any (r:=r) ok.m1)<|.z .asI<|.nil ?_;refine .end<|HSD.on<|.seq<|.lift<|.r<|.z .mvI<|.z .neq<|.nil ?_;refine .end<|HSD.on<|.lift<|.cf<|.skip<|.end<|HSD.on<|.seq<|.rd<|.z .mvP<|.df (args:=[.pointer (some ⟨p,0,none⟩),.pointer (some ⟨pb1,0,none⟩)]) rfl<|?_;refine .seq<|.seq<|.r<|.z .mvI<|.z .lss<|.z .mvB<|.sd (fun G15=>?_) (fun G15=>?_)
 ·
  omega
 refine .z .mvI<|.z .mvP<|.k 18 .func (hpres_any (r:=r) ok.m1)<|.z .gtr<|.z .pkf<|.nil ?_;refine .cd (fun C1=>?_) (fun C1=>?_)
 ·
  omega
 refine .skip<|.seq<|.r<|.z .mvP<|.z .mvI<|.c' 24 .func (hget_any (p:=p) (r:=r) (L:=L) (no:=no) k.k.hd hsz (by omega) (ok.n4.n4.n3).lc3) ?_;rintro _ η2 ⟨Fg1,ag1,cg1,rfl,q⟩;have ok:=(ok.n4.n4.n3).lf34 q;have hgot:=k.get (no:=no) (by omega) (by omega);rw [hgot.1] at ok⊢;have hgl:(P.getD (no-1) []).length=r.size:=k.page_len (by omega);refine .z .mvU<|.z .ex<|.z .ex<|.z .asS<|.ur' (.stI T.sz34 ok.n4) ?_;rintro η3 ⟨ok,cg⟩;refine .nil ?_;refine .seq<|.seq<|.r<|.z (.ldx T.ag34 ok.m0)<|.z .eql<|.nil ?_;refine .ct<|.r<|.z .mvP<|.z .mvI<|.z .mvS<|.c' 32 .func (hput_any (p:=p) (r:=r) (L:=(getL (no:Int) L)) (no:=no) (a:=ag1) (c:=cg1) (l:=(P.getD (no-1) [])) (d:=false) hgot.2 (by omega) (by omega) (by omega) ((ok.n1.n4.n4.n5.n5).n4.frzB (l:=(P.getD (no-1) [])) rfl).lc4) ?_;rintro _ η4 ⟨rfl,rp1,Fdp1,Fcp1,wp1,q⟩;have ok:=(ok.n1.n4.n4.n5.n5).lf44 q;have hbp1:=hgot.2.put (no:=no) (b:=(P.getD (no-1) [])) (d:=false) (r':=rp1) (by omega) (by omega) hgl (fun _=>rfl) (fun h=>by cases h) wp1;refine .ur' (.stI T.sz34 ok.n5) ?_;rintro η5 ⟨ok,cg⟩;refine .nil ?_;refine .seq<|.seq<|.r<|.z (.ldx T.ag34 ok.m0)<|.z .neq<|.nil ?_;refine .cf<|.skip<|.seq<|.r<|.z .mvS<|.z .asS<|.ur' (.stI T.sz34 ok) ?_;rintro η6 ⟨ok,cg⟩;refine .nil ?_;refine .ret ⟨_,_,_,rfl,(hend_any (p:=p) (q:=pb1) (r:=rp1) (ok.m1) (ok.m0)),?_⟩;rintro _ _ ⟨rfl,rfl⟩;have hkp:=pt_kp (hgot.2.ptA (by omega)) wp1;rw [set_same (by omega)] at hbp1;refine ⟨.tuple #[.slice ag1 ((P.getD (no-1) []).length) cg1,.int .i64 0],Res.many (vs:=[.slice ag1 ((P.getD (no-1) []).length) cg1,.int .i64 0]) rfl ⟨rfl,⟨_,rfl,load_1 T.ag34 ok.m0⟩,trivial⟩ rfl,⟨_,_,rfl,rp1,Fdp1,Fcp1,_,hbp1,hkp,(by rw [hkp.c];exact (ok.n4.n4.n4.n4.n5).k5)⟩⟩
theorem hbcommit_any {h:Heap} {p:Nat} {r:RH} {D Fd Fc:Nat→Prop} {room:Int} {L:List AP} {P:List (List UInt8)} (k:HB r room L P) (hin:r.in_=true) (hP:1≤P.length) (hh:hok (P.getD (1-1) []) r.size) (hcg:r.D.chg<390000000) (ok:Hp h D [hboxI p r,kepI r.km r.kept,dgI r.d Fd r.D,cacL r.c Fc room L] [] h) :
  HC Tryz.prog 295 #[.pointer (some ⟨p,0,none⟩)] h (fun v h'=>v=.int .i64 0∧∃r' Fd' Fc' L',HB r' room L' P∧r'.in_=false∧r'.size=r.size∧r'.D.chg≤r.D.chg+30+(unlH r (getL (1:Int) L)).length∧Hp h D [hboxI p r',kepI r'.km r'.kept,dgI r'.d Fd' r'.D,cacL r'.c Fc' room L'] [] h'):=by
 have hzc:=k.zc;have hsz:=hzc.2;have hfw:=k.few;have hnow:r.now=P.length:=by have:=k.np;unfold presH at this;rw [if_pos hin] at this;exact this
 have hh1:=hh.1;have hh2:=hh.2;refine HC.goD Tryz.func295 73 ?_;refine .seq<|.lift<|.r<|.a' 2 (.alI T.zr34 ok) ?_;rintro _ η1 ⟨pb1,rfl,ok,xe⟩;refine .nil ?_;refine .end<|HSD.on<|.seq<|.seq<|.lift<|.r<|.z .mvP<|.k 10 .func (hst_any (r:=r) ok.m1)<|.z .asI<|.nil ?_;refine .end<|HSD.on<|.seq<|.lift<|.r<|.z .mvI<|.z .neq<|.nil ?_;refine .end<|HSD.on<|.lift<|.cf<|.skip<|.end<|HSD.on<|.seq<|.rd<|.z .mvP<|.df (args:=[.pointer (some ⟨p,0,none⟩),.pointer (some ⟨pb1,0,none⟩)]) rfl<|?_;refine .seq<|.seq<|.r<|.z .mvP<|.z .nil<|.z (.fa T.fd212_0)<|.z (.fa T.fd210_0)<|.z (.ldx T.ag4 ok.m1)<|.z .not<|.nil ?_;refine .cond (fun C1=>?_) (fun C1=>?_)
 ·
  rw [hin] at C1;simp at C1
 refine .skip<|.seq<|.seq<|.r<|.z .mvP<|.z .nil<|.z (.fa T.fd212_0)<|.z (.fa T.fd210_1)<|.z (.ldx T.ag3 ok.m1)<|.z .gtr<|.nil ?_;refine .cd (fun C2=>?_) (fun C2=>?_)
 ·
  refine .seq<|.r<|.z .mvP<|.c' 29 .func (hget_any (p:=p) (r:=r) (L:=L) (no:=1) k.k.hd hsz (by omega) (ok.n4.n4.n3).lc3) ?_;rintro _ η2 ⟨Fg1,ag1,cg1,rfl,q⟩;have ok:=(ok.n4.n4.n3).lf34 q;have hgot:=k.get (no:=1) (by omega) (by omega);rw [hgot.1] at ok⊢;have hgl:(P.getD (1-1) []).length=r.size:=k.page_len (by omega);refine .z .mvU<|.z .ex<|.z .ex<|.z .asS<|.z .asI<|.nil ?_;refine .seq<|.seq<|.r<|.z .mvI<|.z .neq<|.nil ?_;refine .cf<|.skip<|.seq<|.r<|.z .mvS<|.c' 37 .func (dec_any (a:=ag1) (c:=cg1) (l:=(P.getD (1-1) [])) (RdL.ofCapB (v:=(ag1,(P.getD (1-1) []).length,cg1)) (l:=(P.getD (1-1) [])) ok.m0)) ?_;rintro _ η3 ⟨rfl,hx⟩;rw [show (decN (P.getD (1-1) [])).1.val=.agg #[.int .i64 (decN (P.getD (1-1) [])).1.size,.int .i64 (decN (P.getD (1-1) [])).1.pages,.int .i64 (decN (P.getD (1-1) [])).1.free,.int .i64 (decN (P.getD (1-1) [])).1.many,.int .i64 (decN (P.getD (1-1) [])).1.cookie,.int .i64 (decN (P.getD (1-1) [])).1.version] from rfl];have ok:=ok.ext hx;refine .z .mvU<|.z .ex<|.z .ex<|.a' 6 (.alA T.zr38 ok) ?_;rintro _ η4 ⟨pb2,rfl,ok,xe⟩;refine .ur' (.stW (vs:=[.int .i64 ((decN (P.getD (1-1) [])).1.size),.int .i64 ((decN (P.getD (1-1) [])).1.pages),.int .i64 ((decN (P.getD (1-1) [])).1.free),.int .i64 ((decN (P.getD (1-1) [])).1.many),.int .i64 ((decN (P.getD (1-1) [])).1.cookie),.int .i64 ((decN (P.getD (1-1) [])).1.version)]) T.sz38 ok (oneL rfl)) ?_;rintro η5 ⟨ok,cg⟩;refine .z .asI<|.nil ?_;refine .seq<|.q (hm:=mixed)<|.z .mvI<|.z .neq<|.z .mvB<|.sd (fun G42=>?_) (fun G42=>?_)
  ·
   exact absurd (congrArg Int.ofNat hh1) G42
  refine .z (.fa T.fd38_0)<|.z (.ldx T.ag3 ok.m0)<|.z .mvP<|.z .nil<|.z (.fa T.fd212_2)<|.z (.ldx T.ag3 ok.m2)<|.z .neq<|.z .pkf<|.nil ?_;refine .cd (fun C4=>?_) (fun C4=>?_)
  ·
   exact absurd hh2 C4
  refine .skip<|.seq<|.seq<|.r<|.z .mvP<|.c' 52 .func (hlay_any (p:=p) (r:=r) (L:=(getL (1:Int) L)) hgot.2 hin (by omega) (by omega) (ok.n4.n4.n6.n5).lc4) ?_;rintro _ η6 ⟨rfl,rl1,Fdl1,lal1,q⟩;have ok:=(ok.n4.n4.n6.n5).lf44 q;rw [←lal1.c] at ok;refine .z .asI<|.nil ?_;refine .seq<|.r<|.z .mvI<|.z .neq<|.nil ?_;refine .cf<|.skip<|.seq<|.r<|.z .mvP<|.z .nil<|.z (.fa T.fd212_3)<|.z (.ldx T.ag194 ok.m0)<|.c' 60 .func (lclean_any (ok.n3).m0) ?_;rintro _ η7 ⟨rfl,q⟩;have ok:=(ok.n3).lift1 q;refine .nil ?_;refine .seq<|.r<|.z .mvP<|.z .mvP<|.z .nil<|.z (.fa T.fd212_0)<|.z (.fa T.fd210_1)<|.z (.ldx T.ag3 ok.m1)<|.z .nil<|.z (.fa T.fd212_4)<|.ur' (.stI T.sz3 ok.n1) ?_;rintro η8 ⟨ok,cg⟩;refine .nil ?_;refine .seq<|.r<|.z .mvP<|.z (.bd #[.bool false,.int .i64 0,.int .i64 0,.bool false,.int .u64 0,.map none,.int .i64 0] T.zr210 T.pl210 rfl)<|.z .nil<|.z (.fa T.fd212_0)<|.ur' (.stA (vs:=[.bool false,.int .i64 0,.int .i64 0,.bool false,.int .u64 0,.map none,.int .i64 0]) T.sz210 ok (oneL rfl)) ?_;rintro η9 ⟨ok,cg⟩;refine .nil ?_;refine .seq<|.r<|.ur' (.stI T.sz34 ok.n6) ?_;rintro η10 ⟨ok,cg⟩;refine .nil ?_;refine .ret ⟨_,_,_,rfl,(hend_any (p:=p) (q:=pb1) (r:=({ rl1 with in_:=false,now:=0,valid:=0,begun:=false,nonce:=0,km:=none,marked:=0,sure:=rl1.now } : RH)) (ok.m1) (ok.m0)),?_⟩;rintro _ _ ⟨rfl,rfl⟩;refine ⟨.int .i64 0,Res.many (vs:=[.int .i64 0]) rfl ⟨⟨_,rfl,load_1 T.ag34 ok.m0⟩,trivial⟩ rfl,⟨rfl,cmtH rl1,Fdl1,Fg1,_,hgot.2.commit hin lal1,rfl,lal1.size,lal1.chg,((((ok.n2.n4.n4.n4).k4.e0).n1.tM).kepNil (kept:=[])).n1⟩⟩
 omega
end Go.Proofs.YtndlpekckpdncaaGreat
namespace Go.Proofs
open Go.Shelf
def Tryz.keysD_ren:Go.Shelf.Ren:=⟨fun | 7=>145 | 10=>190 | n=>n,fun | 23=>118 | 26=>3 | 3=>44 | 28=>217 | 0=>0 | 27=>216 | 33=>49 | 4=>4 | n=>n,fun | n=>n⟩
theorem Tryz.keysD:Go.Proofs.SlLaysZI.n7 Tryz.prog Tryz.keysD_ren:={
 mixed:=by kernel_rfl
 f7:=⟨Tryz.f145.name,by decide,Tryz.func145.trans (congrArg some (by kernel_rfl))⟩
 f10:=⟨Tryz.f190.name,by decide,Tryz.func190.trans (congrArg some (by kernel_rfl))⟩
 t0:=Tryz.underlying0
 a0:=Tryz.isAgg0
 z0:=Tryz.sizeOf0
 v0:=Tryz.zeroValue0
 t4:=Tryz.underlying4
 a4:=Tryz.isAgg4
 z4:=Tryz.sizeOf4
 v4:=Tryz.zeroValue4
 t23:=Tryz.underlying118
 a23:=Tryz.isAgg118
 z23:=Tryz.sizeOf118
 v23:=Tryz.zeroValue118
 t26:=Tryz.underlying3
 a26:=Tryz.isAgg3
 z26:=Tryz.sizeOf3
 v26:=Tryz.zeroValue3
 t27:=Tryz.underlying216
 a27:=Tryz.isAgg216
 z27:=Tryz.sizeOf216
 v27:=Tryz.zeroValue216
 t28:=Tryz.underlying217
 a28:=Tryz.isAgg217
 z28:=Tryz.sizeOf217
 v28:=Tryz.zeroValue217
 t33:=Tryz.underlying49
 a33:=Tryz.isAgg49
 z33:=Tryz.sizeOf49
 v33:=Tryz.zeroValue49 }
end Go.Proofs
namespace Go.Proofs.YtndlpekckpdncaaGreat
open Go Go.HL Go.RowKit Go.Maps Go.Sort Go.Shelf Go.MapKept
theorem bskeys_any {h:Heap} {mb:Nat} : HC Tryz.prog 145 #[.map (some mb)] h (fun v h'=>v=.func (.func 190) #[] #[ptr h.size]∧h'=h.push (.cells #[.map (some mb)] 118 (0,0))):=
 HC.of_calls ⟨_,Tryz.func145,by decide,rfl⟩ fun w hw=>(callsIn_wide.1 (AnyZI.keys_in Tryz.keysD Fence.wide 5 trivial rfl (some mb) w)).mono fun e w' ⟨h1,h2⟩=>by
  subst h2 hw;exact ⟨_,h1,(RowKit.Below.refl _ w).alloc (Nat.le_refl _) _,rfl,rfl⟩
theorem bssorted_any {h:Heap} {mb:Nat} {ks:List Int} {f:Int→Value} (hm:MapT (Value.int .i64) h mb (ks.map fun k=>(k,f k))) (hr:∀k∈ks,-9223372036854775808≤k∧k≤9223372036854775807) (hl:ks.length≤1000000000000) :
  HC Tryz.prog 144 #[.func (.func 190) #[] #[ptr h.size]] (h.push (.cells #[.map (some mb)] 118 (0,0)))
   (fun v h'=>∃S:List Int,S.Perm ks∧S.Pairwise (·≤·)∧Own (h.push (.cells #[.map (some mb)] 118 (0,0))) h' 1 3 v (S.map iv)):=
 HC.of_calls ⟨_,Tryz.func144,by decide,rfl⟩ fun w hw=>by
  have hsz:w.heap.size=h.size+1:=by rw [hw];simp
  obtain ⟨nn,D,hown,hD,hK⟩:=owns_keys hm hr hl (w:=w) (by rw [hw,Array.getElem?_push,if_neg (by have:=hm.lt;omega)]);have hseq:SeqGives Fence.wide 2 Tryz.prog 190 #[.pointer (some ⟨h.size,0,none⟩)] encZ (fun ss=>ss.Perm (intKeys D)) (Maps.size D) w:=
   AnyZI.keys_gives (ρ:=Tryz.keysD_ren) { Tryz.keysD with } Fence.wide _ trivial rfl (by omega) h.size mb nn D w (by omega) (by rw [cell?_eq,hw];exact cell_of (push_same _ _) 0) hown
  have cS:=AnyZI.sorted_in Tryz.sortedA Fence.wide 5 trivial trivial trivial trivial rfl (by omega) (sorts_in _) (enters_of Tryz.func68 (by kernel_rfl) rfl) 190 #[.pointer (some ⟨h.size,0,none⟩)] trivial (enters_of Tryz.func190 (by kernel_rfl) rfl) _ (Maps.size D) (by show _≤9223372036854775807;omega) (by omega) w hseq;refine (callsIn_wide.1 cS).mono fun e w' ⟨v,ss,h1,h2,h3,h4,h5⟩=>⟨v,h1,by rw [←hw];exact h5,ss.mergeSort (fun x y=>decide (x≤y)),?_,?_,?_⟩
  ·exact (List.mergeSort_perm _ _).trans (h2.trans hK)
  ·have:=List.pairwise_mergeSort (le:=fun x y:Int=>decide (x≤y)) (fun a b c h1 h2=>by simp at h1 h2⊢;omega) (fun a b=>by simp;omega) ss;exact this.imp fun h=>by simpa using h
  ·have hx:Ext w.heap w'.heap:=Ext.of_below rfl h5;rw [←hw];have hml:(ss.mergeSort fun x y=>decide (x≤y)).length=ss.length:=List.length_mergeSort _;rcases h3.2 with ⟨rfl,hz⟩ | ⟨g,cap,cur,rfl,hg,hgb,hnc,hcm,hcs,hct⟩
   ·have hs0:ss=[]:=List.length_eq_zero_iff.1 hz;subst hs0;rw [List.mergeSort_nil];exact Own.nil hx _ _
   ·refine ⟨⟨_,_,_,rfl,hnc,hcm,by simp,.inr ⟨g,0,cur,(0,0),rfl,hgb,by simp;omega,fzOk_zero _,?_⟩⟩,hx,fun b hb=>?_⟩
    ·rw [List.drop_zero];exact hct
    ·obtain ⟨o,n,c,e⟩:=hb;injection e with e;injection e with e;injection e with e;subst e;exact hg
theorem mget_nd:∀ {l:List (Int × RB)} {p:Int × RB},(l.map (·.1)).Nodup→p∈l→mget l p.1=some p.2
 | [],_,_,h=>by cases h
 | a::l,p,hn,h=>by
  rw [List.map_cons,List.nodup_cons] at hn;rw [mget_cons];rcases List.mem_cons.1 h with rfl | h
  ·rw [if_pos rfl]
  ·rw [if_neg (fun e=>hn.1 (by rw [e];exact List.mem_map.2 ⟨p,h,rfl⟩))];exact mget_nd hn.2 h
theorem bsE_ks {l:List (Int × RB)} (hn:(l.map (·.1)).Nodup):bsE l=(l.map (·.1)).map fun k=>(k,bsV ((mget l k).getD ⟨none,0,[]⟩)):=by
 unfold bsE;rw [List.map_map];exact List.map_congr_left fun p hp=>by simp [mget_nd hn hp]
theorem ks_fit:∀(n:Nat) (l:List Int),l.Nodup→(∀x∈l,1≤x∧x≤(n:Int))→l.length≤n
 | 0,[],_,_=>Nat.le_refl _
 | 0,a::l,_,h=>by have:=h a List.mem_cons_self;omega
 | n+1,l,hn,h=>by
  have key:∀x∈l.erase ((n:Int)+1),1≤x∧x≤(n:Int):=fun x hx=>by
   have h1:=(List.Nodup.mem_erase_iff hn).1 hx;have h2:=h x h1.2;have h3:=h1.1;omega
  have h4:=ks_fit n _ (hn.erase _) key;have h5:l.length≤(l.erase ((n:Int)+1)).length+1:=by
   rw [List.length_erase];split<;>omega
  omega
end Go.Proofs.YtndlpekckpdncaaGreat
namespace Go.HL
open Go
theorem OpV.nilIf {P:Program} {s:Slots} {h:Heap} {d:Option Tmp} {ty t:TypeId} {pos:String} {af:Array Edge} {g:Option (Nat × Bool)} {x:Operand} {v:Value} (hx:ev s x=.iface t v:=by exact rfl):OpV P ⟨d,.nilCheck x,ty,pos,af,g⟩ s h (.iface t v):=fun w _=>by simp [execOp,hx]
end Go.HL
namespace Go.Proofs.YtndlpekckpdncaaGreat
open Go Go.HL
structure PgT where
 α:Type
 it:Nat→(Nat→Prop)→α→Itm
 sure:α→List (List UInt8)
structure PgrC where
 z:Nat
 lim:Nat→Nat→Prop
 limM:∀ {k n k' n':Nat},k≤k'→n≤n'→lim k' n'→lim k n
 G:Nat→Nat→Pgr
 T:Nat→Nat→PgT
 tid:∀(k n k' n':Nat),(G k n).tid=(G k' n').tid
 up:∀ {k n k' n':Nat} {h:Heap} {p:Nat} {F:Nat→Prop} {a:(G k n).α},k≤k'→n≤n'→((G k n).it p F a).p h→∃a':(G k' n').α,(G k' n').sure a'=(G k n).sure a∧((G k' n').it p F a').p h∧∀j,((G k' n').it p F a').F j→((G k n).it p F a).F j
 fBegin:FuncId
 fResize:FuncId
 fWrite:FuncId
 fCommit:FuncId
 mBegin : ∀ (k n p : Nat) (w : World), (method (Tryz.prog.types.size + Made.depth) (G k n).tid (pv p) "Begin").run Tryz.prog w = .ok (fBegin, pv p) w
 mResize : ∀ (k n p : Nat) (w : World), (method (Tryz.prog.types.size + Made.depth) (G k n).tid (pv p) "Resize").run Tryz.prog w = .ok (fResize, pv p) w
 mWrite : ∀ (k n p : Nat) (w : World), (method (Tryz.prog.types.size + Made.depth) (G k n).tid (pv p) "Write").run Tryz.prog w = .ok (fWrite, pv p) w
 mCommit : ∀ (k n p : Nat) (w : World), (method (Tryz.prog.types.size + Made.depth) (G k n).tid (pv p) "Commit").run Tryz.prog w = .ok (fCommit, pv p) w
 cBegin:∀ {k n:Nat} {h:Heap} {p:Nat} {F:Nat→Prop} {a:(G k n).α},lim (k+1) n→Hp h ((G k n).it p F a).F [(G k n).it p F a] [] h→
  HC Tryz.prog fBegin #[pv p] h (fun v h'=>v=.int .i64 0∧∃F' b,(T k n).sure b=(G k n).sure a∧Hp h ((G k n).it p F a).F [(T k n).it p F' b] [] h')
 cResize:∀ {k n:Nat} {h:Heap} {p:Nat} {F:Nat→Prop} {b:(T k n).α} {m:Nat},m*(z+16)+28≤16777216→Hp h ((T k n).it p F b).F [(T k n).it p F b] [] h→
  HC Tryz.prog fResize #[pv p,.int .i64 (m:Int)] h (fun v h'=>v=.int .i64 0∧∃F' b',(T k n).sure b'=rszP ((T k n).sure b) m z∧Hp h ((T k n).it p F b).F [(T k n).it p F' b'] [] h')
 cWrite:∀ {k n:Nat} {h:Heap} {p:Nat} {F F2 E2:Nat→Prop} {b:(T k n).α} {no:Nat} {a:Option Addr} {c:Nat} {l:List UInt8},lim (k+1) (n+1)→1≤no→no≤((T k n).sure b).length→l.length=z→Hp h ((T k n).it p F b).F [(T k n).it p F b] [rdI F2 E2 (a,l.length,c) l] h→
  HC Tryz.prog fWrite #[pv p,.int .i64 (no:Int),.slice a l.length c] h (fun v h'=>v=.int .i64 0∧∃F' b',(T k (n+1)).sure b'=((T k n).sure b).set (no-1) l∧Hp h ((T k n).it p F b).F [(T k (n+1)).it p F' b'] [] h')
 cCommit:∀ {k n:Nat} {h:Heap} {p:Nat} {F:Nat→Prop} {b:(T k n).α},lim (k+1) n→1≤((T k n).sure b).length→hok (((T k n).sure b).getD (1-1) []) z→Hp h ((T k n).it p F b).F [(T k n).it p F b] [] h→
  HC Tryz.prog fCommit #[pv p] h (fun v h'=>v=.int .i64 0∧∃F' a',(G (k+1) n).sure a'=(T k n).sure b∧Hp h ((T k n).it p F b).F [(G (k+1) n).it p F' a'] [] h')
theorem PgsK_few {z:Nat} {l:List (List UInt8)} (k:PgsK z l) (hz:z=256∨z=512∨z=1024∨z=2048∨z=4096):l.length≤65536:=by
 have h1:=k.many;have h3:l.length*256≤l.length*z:=Nat.mul_le_mul_left _ (by omega);omega
def ulK (now sure:List (List UInt8)) (k:Int):Bool:=decide (now[(k-1).toNat]?≠sure[(k-1).toNat]?)
theorem filt_tk {S:List Int} {P:Int→Bool} {i:Nat} (h:i<S.length):(S.take (i+1)).filter P=(S.take i).filter P++if P S[i]=true then [S[i]] else []:=by
 rw [List.take_succ_eq_append_getElem h,List.filter_append];congr 1;by_cases hp:P S[i]=true<;>simp [hp]
section
variable {ov:List (Int × RB)} {many:Nat} {S now:List (List UInt8)}
theorem VW.ks (v:VW RB.l ov many S now) (hn:(ov.map (·.1)).Nodup) {L:List Int} (hp:L.Perm (ov.map (·.1))):∀k∈L,∃i:Nat,k=(i:Int)+1∧i<now.length∧∃x,mget ov k=some x∧now[i]? = some x.l:=fun k hk=>by
 obtain ⟨y,hy,rfl⟩:=List.mem_map.1 (hp.mem_iff.1 hk);have h1:=v.key y hy;have hl:=v.len;refine ⟨(y.1-1).toNat,by omega,by omega,y.2,mget_nd hn hy,?_⟩;exact v.sm _ y.2 (by omega) (by rw [show (((y.1-1).toNat:Nat):Int)+1=y.1 by omega];exact mget_nd hn hy)
theorem VW.unl (v:VW RB.l ov many S now) {L:List Int} (hp:L.Perm (ov.map (·.1))) {i:Nat} (hi:i<now.length):(i:Int)+1∈L.filter (ulK now S)∨(i<S.length∧now[i]? = S[i]?):=by
 have hl:=v.len;cases hg:mget ov ((i:Int)+1) with
 | none=>exact .inr (v.nn i (by omega) hg)
 | some x=>
  by_cases hu:now[i]? = S[i]?
  ·refine .inr ⟨?_,hu⟩;have h2:i<now.length:=hi;rw [List.getElem?_eq_getElem h2] at hu;exact (List.getElem?_eq_some_iff.1 hu.symm).1
  ·refine .inl (List.mem_filter.2 ⟨hp.mem_iff.2 (List.mem_map.2 ⟨_,mget_mem hg,rfl⟩),?_⟩);unfold ulK;rw [show ((i:Int)+1-1).toNat=i by omega];exact decide_eq_true hu
def OnW (now P:List (List UInt8)) (l:List Int):Prop:=P.length=now.length∧∀i:Nat,i<now.length→(i:Int)+1∈l∨P[i]? = now[i]?
theorem OnW.start (v:VW RB.l ov many S now) {L:List Int} (hp:L.Perm (ov.map (·.1))) {z:Nat} : OnW now (rszP S many z) (L.filter (ulK now S)):=by
 have hl:=v.len;refine ⟨by rw [rszP_len,hl],fun i hi=>(v.unl hp hi).imp id fun ⟨h1,h2⟩=>?_⟩;have e:=rszP_get (P:=S) (z:=z) (n:=many) (i:=i) (by omega);rw [if_pos h1,List.getD_eq_getElem?_getD,List.getD_eq_getElem?_getD,List.getElem?_eq_getElem h1,List.getElem?_eq_getElem (show i<(rszP S many z).length by rw [rszP_len];omega)] at e;rw [h2,List.getElem?_eq_getElem h1,List.getElem?_eq_getElem (show i<(rszP S many z).length by rw [rszP_len];omega)];exact congrArg some e
theorem OnW.step {P:List (List UInt8)} {i:Nat} {l:List Int} {x:List UInt8} (o:OnW now P (((i:Int)+1)::l)) (hx:now[i]? = some x):OnW now (P.set i x) l:=by
 refine ⟨by rw [List.length_set];exact o.1,fun j hj=>?_⟩;rw [List.getElem?_set];by_cases e:i=j
 ·subst e;rw [if_pos rfl,if_pos (by have:=o.1;omega)];exact .inr hx.symm
 ·rw [if_neg e];rcases o.2 j hj with h | h
  ·rcases List.mem_cons.1 h with h | h
   ·exact absurd (show i=j by omega) e
   ·exact .inl h
  ·exact .inr h
theorem OnW.fin {P:List (List UInt8)} (o:OnW now P []):P=now:=by
 apply List.ext_getElem?;intro i;by_cases hi:i<now.length
 ·exact (o.2 i hi).elim (fun h=>by cases h) id
 ·rw [List.getElem?_eq_none (by have:=o.1;omega),List.getElem?_eq_none (by omega)]
theorem VW.same (v:VW RB.l ov many S now) {L:List Int} (hp:L.Perm (ov.map (·.1))) (h0:L.filter (ulK now S)=[]) (hm:many=S.length):now=S:=by
 have hl:=v.len;apply List.ext_getElem?;intro i;by_cases hi:i<now.length
 ·rcases v.unl hp hi with h | h
  ·rw [h0] at h;cases h
  ·exact h.2
 ·rw [List.getElem?_eq_none (by omega),List.getElem?_eq_none (by omega)]
end
theorem SVw.commit {G G':Pgr} {r:RS G.α} {w:St} (V:SVw G r w) (hi:w.in_=true) {a:G'.α} {pF:Nat→Prop} (ha:G'.sure a=w.now):SVw G' (⟨r.p,r.lg,r.z,false,0,none,[],none,0,[],pF,a⟩:RS G'.α) ⟨w.z,w.now,false,[],[]⟩:=
 ⟨V.z,rfl,ha,fun h=>(by cases h),fun _=>⟨rfl,rfl,rfl,rfl⟩,All2.nil,⟨V.ok.z,V.ok.now,.nil,by simp,by simp,fun _=>⟨rfl,rfl⟩⟩⟩
theorem St.commit_0 {w:St} (h:w.in_=true):w.commit=(⟨w.z,w.now,false,[],[]⟩,0):=by unfold St.commit;rw [if_neg (by rw [h];decide)]
open Go Go.HL
theorem hcnew_any {h:Heap} {room:Int} : HC Tryz.prog 133 #[.int .i64 room] h (fun v h'=>(¬(1≤room∧room≤1048576)∧v=.tuple #[.pointer none,.int .i64 1]∧Ext h h')∨
  ((1≤room∧room≤1048576)∧∃c F,v=.tuple #[.pointer (some ⟨c,0,none⟩),.int .i64 0]∧Ext h h'∧(cacL c F room []).p h'∧∀j,F j→Nw h h' j)):=
 (cnew_any (h:=h) (room:=room)).mono fun v h' q=>q.imp (fun ⟨h1,h2,h3⟩=>⟨h1,h2,by rw [h3];exact Ext.refl _⟩) fun ⟨h1,p,F,hv,hr,hx,hn⟩=>⟨h1,p,F,hv,hx,hr,fun j hj=>⟨hn j hj,hr.lt j hj⟩⟩
def newH (d c z:Nat):RH:=⟨false,0,0,false,0,none,[],0,d,newN,z,c,0,0⟩
theorem HB.new {d c z:Nat} {room:Int} (hz:okSz z=true) (hr:1≤room∧room≤1048576):HB (newH d c z) room [] []:=
 ⟨⟨hz,HD.new,rfl,by show 0≤16777216;omega,by show 0*(z+8)+28≤16777216;omega,fun h=>(by cases h),fun _=>⟨rfl,rfl⟩,.nil,fun x h=>(by cases h),by show (0:Nat)<_;decide,by show (0:Int)≤0;decide⟩,rfl,by simp,by simp,.nil,⟨hr.1,hr.2,by simp;omega⟩,by simp,by simp,by simp,fun _ x h=>(by cases h),fun h=>(by cases h),fun h=>(by cases h),fun _=>rfl,fun _=>by show 0=0*z;omega⟩
theorem hbopen_any {h:Heap} {d z:Nat} {room:Int} {F:Nat→Prop} (ok:Hp h F [dgI d F newN] [] h) (hz:okSz z=true) (hr:1≤room∧room≤1024) :
  HC Tryz.prog 88 #[.pointer (some ⟨d,0,none⟩),.int .i64 (z:Int),.int .i64 room] h (fun v h'=>∃p c Fd Fc,HB (newH d c z) room [] []∧v=.tuple #[.pointer (some ⟨p,0,none⟩),.int .i64 0]∧Hp h F [hboxI p (newH d c z),kepI none [],dgI d Fd newN,cacL c Fc room []] [] h'):=by
 have hzc:=okSz_c hz;have hpw:=(and_pow z (by omega) (by omega)).2 (by omega);refine HC.go Tryz.func88 62 ?_;refine .seq<|.r<|.z .asP<|.z .asI<|.nil ?_;refine .seq<|.block fun K0 hK0=>.seq<|.r<|.z .mvP<|.z (.pEqS T.pt63)<|.z .asB<|.nil ?_;refine .cf<|.seq<|.r<|.z .mvI<|.z .lss<|.z .mvB<|.sd (fun G18=>?_) (fun G18=>?_)
 ·
  omega
 refine .z .mvI<|.z .gtr<|.z .pkf<|.z .mvB<|.sd (fun G22=>?_) (fun G22=>?_)
 ·
  omega
 refine .z .mvI<|.z .mvI<|.z .sub<|.z (.bandI z (z-1))<|.z .neq<|.z .pkf<|.z .asB<|.nil ?_;refine .cd (fun C1=>?_) (fun C1=>?_)
 ·
  omega
 refine .skip<|.end<|hK0 _ _<|.seq<|.r<|.z .mvI<|.c' 31 .func (hcnew_any (room:=room)) ?_;rintro _ η1 (⟨hrm,rfl,hx⟩ | ⟨hrm,cc,cF,rfl,hx,hcac,hnw⟩)
 ·
  exact absurd hrm (by omega)
 have ok:=ok.newM hx (cacL cc cF room []) hcac hnw;refine .z .mvU<|.z .ex<|.z .ex<|.z .asP<|.z .asI<|.nil ?_;refine .seq<|.seq<|.r<|.z .mvI<|.z .neq<|.nil ?_;refine .cf<|.skip<|.seq<|.seq<|.r<|.z .mvP<|.k 38 .func (ndark_any (ok.n1).loc0)<|.nil ?_;refine .cf<|.skip<|.seq<|.seq<|.r<|.z .mvP<|.k 40 .func (nheal_any (ok.n1).loc0)<|.z .asI<|.nil ?_;refine .seq<|.r<|.z .mvI<|.z .neq<|.nil ?_;refine .cf<|.skip<|.seq<|.r<|.z .mvP<|.z .mvI<|.k 47 .func (nlook_any (z:=(z:Int)) (ok.n1).loc0)<|.z .mvU<|.z .ex<|.z .ex<|.z .asI<|.z .asI<|.nil ?_;refine .seq<|.seq<|.r<|.z .mvI<|.z .neq<|.nil ?_;refine .cf<|.skip<|.seq<|.r<|.z .mvP<|.z .mvI<|.z .mvP<|.z .mvI<|.z .mvI<|.z .quo<|.z .mvI<|.z (.bd #[.bool false,.int .i64 0,.int .i64 0,.bool false,.int .u64 0,.map none,.int .i64 0,.pointer (some ⟨d,0,none⟩),.int .i64 (z:Int),.pointer (some ⟨cc,0,none⟩),.int .i64 (0 / (z:Int)),.int .i64 0,.bool false] T.zr212 T.pl212 (by kernel_rfl))<|.a' 61 (.bxA (cs:=[.bool false,.int .i64 0,.int .i64 0,.bool false,.int .u64 0,.map none,.int .i64 0,.pointer (some ⟨d,0,none⟩),.int .i64 (z:Int),.pointer (some ⟨cc,0,none⟩),.int .i64 (0 / (z:Int)),.int .i64 0,.bool false]) ok) ?_;rintro _ η2 ⟨pb1,rfl,ok,xe⟩;refine .z .asP<|.z .asI<|.nil ?_;refine .ret ⟨.tuple #[.pointer (some ⟨pb1,0,none⟩),.int .i64 0],Res.two rfl rfl rfl,⟨pb1,_,_,_,HB.new hz (by omega),rfl,by have o:=(ok.n1.n2.n2).k3;rw [Int.zero_ediv] at o;exact (o.kepNil (kept:=[])).n1⟩⟩
structure HbA (z:Nat) (i:Bool) (k n:Nat) where
 r:RH
 Fd:Nat→Prop
 Fc:Nat→Prop
 room:Int
 L:List AP
 P:List (List UInt8)
 hb:HB r room L P
 in_:r.in_=i
 sz:r.size=z
 ch:r.D.chg≤66000*(k:Int)+20*(n:Int)
 hc:r.D.chg<400000000
@[reducible] def hbL {z k n:Nat} {i:Bool} (p:Nat) (a:HbA z i k n):List Itm:=[hboxI p a.r,kepI a.r.km a.r.kept,dgI a.r.d a.Fd a.r.D,cacL a.r.c a.Fc a.room a.L]
section
variable {z k n p no m:Nat} {h:Heap} {D:Nat→Prop} {i:Bool} {b:List UInt8}
theorem hb_opn {a:HbA z i k n} {R:List Itm} (ok:Hp h D [starI (hbL p a)] R h):Hp h D [hboxI p a.r,kepI a.r.km a.r.kept,dgI a.r.d a.Fd a.r.D,cacL a.r.c a.Fc a.room a.L] R h:=Hp.unstar (l:=hbL p a) (M:=[]) ok
theorem hb_np {a:HbA z i k n} : presH a.r=a.P.length:=a.hb.np
theorem hb_cPages {a:HbA z i k n} (hp:(starI (hbL p a)).p h):HC Tryz.prog 297 #[pv p] h (fun v h'=>v=.int .i64 (a.P.length:Int)∧h'=h):=by
 rw [←hb_np (a:=a)];exact hPages_any (hp.1 _ List.mem_cons_self)
theorem hb_cRead {a:HbA z false k n} {nI:Int} (ok:Hp h D [starI (hbL p a)] [] h) (h1:1≤nI) (hg:a.P[(nI-1).toNat]? = some b):HC Tryz.prog 298 #[pv p,.int .i64 nI] h (fun v h'=>∃(a':HbA z false k n) (x:Option Addr) (c:Nat),v=.tuple #[.slice x b.length c,.int .i64 0]∧a'.P=a.P∧Hp h D [capI 1 5 (x,b.length,c) (b.map bv),starI (hbL p a')] [] h'):=by
 obtain ⟨j,rfl⟩:∃j:Nat,nI=(j:Int):=⟨nI.toNat,by omega⟩;have hlt:=(List.getElem?_eq_some_iff.1 hg).1;have hb:a.P.getD (j-1) []=b:=by rw [List.getD_eq_getElem?_getD,show j-1=((j:Int)-1).toNat by omega,hg];rfl
 have hc:=a.hc;refine (hbread_any (no:=j) a.hb (by omega) (by omega) (by omega) (hb_opn ok)).mono fun v h' ⟨x,c,hv,r',Fd',Fc',L',k',kp,q⟩=>?_;rw [hb] at hv q;obtain rfl:=kp.ro a.in_;exact ⟨⟨a.r,Fd',Fc',a.room,L',a.P,k',a.in_,a.sz,a.ch,hc⟩,x,c,hv,rfl,(Hp.star (l:=[hboxI p a.r,kepI a.r.km a.r.kept,dgI a.r.d Fd' a.r.D,cacL a.r.c Fc' a.room L']) (M:=[capI 1 5 (x,b.length,c) (b.map bv)]) q.n4.n4.n4.n4).n1⟩
theorem hb_cBegin {a:HbA z false k n} (ok:Hp h D [starI (hbL p a)] [] h):HC Tryz.prog 294 #[pv p] h (fun v h'=>v=.int .i64 0∧∃(b:HbA z true k n),b.P=a.P∧Hp h D [starI (hbL p b)] [] h'):=by
 refine (hbegin_any a.hb a.in_ (hb_opn ok)).mono fun v h' ⟨hv,m,q⟩=>⟨hv,⟨begH a.r m,a.Fd,a.Fc,a.room,a.L,a.P,a.hb.begin a.in_ m,rfl,a.sz,a.ch,a.hc⟩,rfl,Hp.star (l:=[hboxI p (begH a.r m),kepI (some m) [],dgI a.r.d a.Fd a.r.D,cacL a.r.c a.Fc a.room a.L]) (M:=[]) q⟩
theorem hb_cResize {a:HbA z true k n} (hm:m*(z+16)+28≤16777216) (ok:Hp h D [starI (hbL p a)] [] h):HC Tryz.prog 299 #[pv p,.int .i64 (m:Int)] h (fun v h'=>v=.int .i64 0∧∃(b:HbA z true k n),b.P=rszP a.P m z∧Hp h D [starI (hbL p b)] [] h'):=by
 have hz:=a.sz;have hm2:m*(a.r.size+8)+28≤16777216:=by
  rw [hz];have:m*(z+8)≤m*(z+16):=Nat.mul_le_mul_left _ (by omega);omega
 refine (hresize_any a.hb a.in_ hm2 (hb_opn ok)).mono fun v h' ⟨hv,Fc',q⟩=>⟨hv,⟨rszH a.r m,a.Fd,Fc',a.room,_,_,a.hb.resize a.in_ hm2,a.in_,a.sz,a.ch,a.hc⟩,congrArg (rszP a.P m) hz,Hp.star (l:=[hboxI p (rszH a.r m),kepI a.r.km a.r.kept,dgI a.r.d a.Fd a.r.D,cacL a.r.c Fc' a.room (a.L.filter fun x=>decide (x.no≤(m:Int)))]) (M:=[]) q⟩
def hbLim (k n:Nat):Prop:=k≤4000∧n≤4000000
theorem hb_cWrite {a:HbA z true k n} {F2 E2:Nat→Prop} {x:Option Addr} {c:Nat} (hl:hbLim (k+1) (n+1)) (h1:1≤no) (h2:no≤a.P.length) (hb:b.length=z) (ok:Hp h D [starI (hbL p a)] [rdI F2 E2 (x,b.length,c) b] h):HC Tryz.prog 301 #[pv p,.int .i64 (no:Int),.slice x b.length c] h (fun v h'=>v=.int .i64 0∧∃(b':HbA z true k (n+1)),b'.P=a.P.set (no-1) b∧Hp h D [starI (hbL p b')] [] h'):=by
 have hc:=a.hc;have ch:=a.ch;have hl1:=hl.1;have hl2:=hl.2;refine (hbwrite_any a.hb a.in_ (by omega) h1 h2 (by rw [a.sz];exact hb) (hb_opn ok)).mono fun v h' ⟨hv,r',Fd',Fc',L',k',kp,q⟩=>?_;have hcg:=kp.chg;exact ⟨hv,⟨r',Fd',Fc',a.room,L',_,k',kp.in_.trans a.in_,kp.size.trans a.sz,by omega,by omega⟩,rfl,Hp.star (l:=[hboxI p r',kepI r'.km r'.kept,dgI r'.d Fd' r'.D,cacL r'.c Fc' a.room L']) (M:=[]) q⟩
theorem hb_cCommit {a:HbA z true k n} (hl:hbLim (k+1) n) (h1:1≤a.P.length) (hh:hok (a.P.getD (1-1) []) z) (ok:Hp h D [starI (hbL p a)] [] h):HC Tryz.prog 295 #[pv p] h (fun v h'=>v=.int .i64 0∧∃(b:HbA z false (k+1) n),b.P=a.P∧Hp h D [starI (hbL p b)] [] h'):=by
 have hc:=a.hc;have ch:=a.ch;have hl1:=hl.1;have hl2:=hl.2;have hun:(unlH a.r (getL (1:Int) a.L)).length≤65536:=by
  have hg:=(a.hb.get (no:=1) (by omega) h1).2;have hf:=hg.few;have h3:=inner_fit (n:=a.P.length) (un_nodup hg) (fun x hx=>by obtain ⟨f,hf,rfl⟩:=List.mem_map.1 hx;obtain ⟨y,hy,_,rfl⟩:=un_ok hg hf;exact hg.rg y hy);rw [List.length_map] at h3;have h4:=hf.2;have h6:(unlH a.r (getL ((1:Nat):Int) a.L)).length=(unlH a.r (getL (1:Int) a.L)).length:=rfl;omega
 refine (hbcommit_any a.hb a.in_ h1 (by rw [a.sz];exact hh) (by omega) (hb_opn ok)).mono fun v h' ⟨hv,r',Fd',Fc',L',k',hi,hs,hcg,q⟩=>?_;exact ⟨hv,⟨r',Fd',Fc',a.room,L',a.P,k',hi,hs.trans a.sz,by omega,by omega⟩,rfl,Hp.star (l:=[hboxI p r',kepI r'.km r'.kept,dgI r'.d Fd' r'.D,cacL r'.c Fc' a.room L']) (M:=[]) q⟩
end
def hbG (z k n:Nat):Pgr where
 α:=HbA z false k n
 it p _ a:=starI (hbL p a)
 sure a:=a.P
 tid:=140
 fPages:=297
 fRead:=298
 mPages p w:=by kernel_rfl
 mRead p w:=by kernel_rfl
 cPages hp:=hb_cPages hp
 cRead ok h1 hg:=(hb_cRead ok h1 hg).mono fun v h' ⟨a',x,c,q⟩=>⟨none_,a',x,c,q⟩
def hbT (z k n:Nat):PgT where
 α:=HbA z true k n
 it p _ a:=starI (hbL p a)
 sure a:=a.P
def hbC (z:Nat):PgrC where
 z:=z
 lim:=hbLim
 limM h1 h2 h:=⟨Nat.le_trans h1 h.1,Nat.le_trans h2 h.2⟩
 G:=hbG z
 T:=hbT z
 tid _ _ _ _:=rfl
 up {k n k' n' h p F a} h1 h2 hp:=⟨⟨a.r,a.Fd,a.Fc,a.room,a.L,a.P,a.hb,a.in_,a.sz,by have:=a.ch;omega,a.hc⟩,rfl,hp,fun _ f=>f⟩
 fBegin:=294
 fResize:=299
 fWrite:=301
 fCommit:=295
 mBegin k n p w:=by kernel_rfl
 mResize k n p w:=by kernel_rfl
 mWrite k n p w:=by kernel_rfl
 mCommit k n p w:=by kernel_rfl
 cBegin _ ok:=(hb_cBegin ok).mono fun v h' ⟨hv,b,hb,q⟩=>⟨hv,none_,b,hb,q⟩
 cResize hm ok:=(hb_cResize hm ok).mono fun v h' ⟨hv,b,hb,q⟩=>⟨hv,none_,b,hb,q⟩
 cWrite hl h1 h2 hb ok:=(hb_cWrite hl h1 h2 hb ok).mono fun v h' ⟨hv,b,hb,q⟩=>⟨hv,none_,b,hb,q⟩
 cCommit hl h1 hh ok:=(hb_cCommit hl h1 hh ok).mono fun v h' ⟨hv,b,hb,q⟩=>⟨hv,none_,b,hb,q⟩
open Go Go.HL
theorem Cap.lnI {h:Heap} {e:TypeId} {a:Option Addr} {n c:Nat} {l:List Int} (r:Cap h 1 e (.slice a n c) (l.map iv)):n=l.length:=by
 obtain ⟨a',n',c',hv,_,_,h3,_⟩:=r;injection hv with _ h2 _;rw [List.length_map,Nat.mul_one] at h3;omega
theorem sunlike_any {G:Pgr} {h:Heap} {so:Nat} {r:RS G.α} {w:St} {E:Nat→Prop} (V:SVw G r w) (hin:w.in_=true) (ok:Hp h (starI [G.it r.p r.pF r.a,sboxI G so r,nowI r.om r.ov]).F [G.it r.p r.pF r.a,sboxI G so r,nowI r.om r.ov] [pbsI E r.ov] h) :
  HC Tryz.prog 100 #[.pointer (some ⟨so,0,none⟩)] h (fun v h'=>∃(Sk:List Int) (F':Nat→Prop) (a':G.α) (x:Option Addr) (c:Nat),v=.tuple #[.slice x (Sk.filter (ulK w.now w.sure)).length c,.int .i64 0]∧G.sure a'=w.sure∧(r.ov.map (·.1)).Nodup∧Sk.Perm (r.ov.map (·.1))∧Hp h (starI [G.it r.p r.pF r.a,sboxI G so r,nowI r.om r.ov]).F [capI 1 3 (x,(Sk.filter (ulK w.now w.sure)).length,c) ((Sk.filter (ulK w.now w.sure)).map iv),G.it r.p F' a',sboxI G so r,nowI r.om r.ov] [] h'):=by
 generalize (starI [G.it r.p r.pF r.a,sboxI G so r,nowI r.om r.ov]).F=DF at ok⊢;have hzc:=V.zc;have hnf:=V.nowfew;have hsf:=PgsK_few V.ok.sure V.zc;have hv:=(V.now hin).2;have hmn:=V.many hin;have hsu:=V.sure;obtain ⟨p,lg,z,in_,many,om,ov,sa,sc,svl,pF,ga⟩:=r;dsimp only at ok hv hmn hsu⊢;refine HC.go Tryz.func100 55 ?_;refine .seq<|?_;obtain ⟨mb,rfl⟩:=(V.now hin).1;have ok:=Hp.nowSome (ok.n2);refine .r<|.z .asS<|.z .asI<|.nil ?_;refine .seq<|.r<|.z .asS<|?_;have ok:=ok.nilC (k:=1) (e:=3);refine .nil ?_;refine .seq<|.seq<|.r<|.z .mvP<|.z .nil<|.z (.fa T.fd123_4)<|.z (.fa T.fd120_1)<|.z (.ldx T.ag118 ok.m3)<|.c' 14 .func bskeys_any ?_;rintro _ _ ⟨rfl,rfl⟩;have hmt:=ok.m1;have hnd:(ov.map (·.1)).Nodup:=by have:=MapT.nodup hmt;rwa [show (bsE ov).map (·.1)=ov.map (·.1) by simp [bsE]] at this
 rw [bsE_ks hnd] at hmt;have hkr:∀k∈ov.map (·.1),1≤k∧k≤(many:Int):=fun k hk=>by obtain ⟨y,hy,rfl⟩:=List.mem_map.1 hk;exact hv.key y hy
 have hkl:=ks_fit many _ hnd hkr;have ok:=ok.ext (Ext.push _ (.cells #[.map (some mb)] 118 (0,0)));refine .c' 15 .func (bssorted_any hmt (fun k hk=>by have:=hkr k hk;omega) (by omega)) ?_;rintro _ η1 ⟨Sk,hSp,hSs,own⟩;obtain ⟨aS,nS,cS,rfl⟩:=own.form3;have ok:=(ok.own own).frzI rfl;obtain rfl:nS=Sk.length:=ok.r0.n;have hSm:=ok.r0.m;have hSc:=ok.r0.c;simp only at hSm hSc;have hSl:Sk.length=(ov.map (·.1)).length:=hSp.length_eq;have hfs:=hv.ks hnd hSp;refine .z (.len T.el24)<|.z .mvI<|.nil ?_;refine .block fun K0 hK0=>.loop (fun m s hh=>∃(i:Nat) (a4:Option Addr) (n4 c4:Nat) (pFi:Nat→Prop) (gi:G.α),Has s [(0,.pointer (some ⟨so,0,none⟩)),(4,.slice a4 n4 c4),(15,.slice aS Sk.length cS),(16,.int .i64 (Sk.length:Int)),(17,.int .i64 (i:Int))]∧Hp h DF [capI 1 3 (a4,n4,c4) (((Sk.take i).filter (ulK w.now w.sure)).map iv),G.it p pFi gi,boxI so 123 [.iface G.tid (.pointer (some ⟨p,0,none⟩)),.pointer lg,.int .i64 (z:Int),.bool in_,.int .i64 (many:Int),.map (some mb),.slice sa svl.length sc,.bool false],mapI (Value.int .i64) mb (bsE ov)] [rdI (blkC (sv (aS,Sk.length,cS))) none_ (aS,Sk.length,cS) Sk,pbsI E ov] hh∧i≤Sk.length∧G.sure gi=w.sure∧m=Sk.length-i) ?_ ?_
 ·exact ⟨_,0,none,0,0,pF,ga,⟨rfl,rfl,rfl,rfl,rfl,trivial⟩,ok.n1.n3.n3.n3.cx (by simp),Nat.zero_le _,hsu,rfl⟩
 rintro _ _ η2 ⟨i,a4,n4,c4,pFi,gi,hs,ok,hi,hgi,rfl⟩ J0 hJ0;refine .frame hs fun τ=>?_;refine .seq<|.r<|.z .lss<|.nil ?_;refine .seq<|.cdr (fun C0=>?_) (fun C0=>?_)
 ·
  refine .exit<|hK0 _ _<|.seq<|?_;have hfin:((Sk.take i).filter (ulK w.now w.sure))=(Sk.filter (ulK w.now w.sure)):=by rw [show i=Sk.length by omega,List.take_length]
  obtain rfl:n4=((Sk.take i).filter (ulK w.now w.sure)).length:=Cap.lnI ok.m0;refine .r<|.z .mvS<|.z .asS<|.z .asI<|.nil ?_;refine .ret ⟨.tuple #[.slice a4 (((Sk.take i).filter (ulK w.now w.sure)).length) c4,.int .i64 0],Res.two rfl rfl rfl,⟨Sk,pFi,gi,a4,c4,by rw [hfin],hgi,hnd,hSp,by have o:=(ok).e0;rw [hfin] at o;exact o⟩⟩
 refine .skip<|.seq<|.block fun K1 hK1=>.seq<|?_;have hgl:=congrArg List.length hgi;have hiS:i<Sk.length:=by omega
 obtain ⟨w1,hkw,hwn,x,hx,hnl⟩:=hfs Sk[i] (List.getElem_mem hiS);refine .r<|?_;obtain ⟨bb1,oo1,rfl,fb1⟩:=ok.r0.pos (by omega);refine .z (.ix1 i T.el24 T.sz3)<|.z (.ld T.ag3 (ok.r0.i64 (i:=i) (by omega)))<|.z .asI<|.nil ?_;refine .seq<|.seq<|.r<|.z .mvI<|.z .mvP<|.z .nil<|.z (.fa T.fd123_0)<|.z (.ldx T.ag116 ok.m2)<|.k 26 (.inv (G.mPages _)) (G.cPages (F:=pFi) (a:=gi) ok.m1)<|.z .leq<|.nil ?_;refine .cd (fun C1=>?_) (fun C1=>?_)
 ·
  have hws:w1<w.sure.length:=by omega
  have hsw:w.sure[w1]? = some (w.sure.getD w1 []):=by rw [List.getD_eq_getElem?_getD,List.getElem?_eq_getElem hws];rfl
  have hsg:(G.sure gi)[(Sk[i]-1).toNat]? = some (w.sure.getD w1 []):=by rw [hgi,show (Sk[i]-1).toNat=w1 by omega];exact hsw
  have hsl:(w.sure.getD w1 []).length=w.z:=V.ok.sure.len _ (List.mem_of_getElem? hsw);refine .seq<|.r<|.z .mvP<|.z .nil<|.z (.fa T.fd123_0)<|.z (.ldx T.ag116 ok.m2)<|.z .mvI<|.c' 34 (.inv (G.mRead _)) (G.cRead (p:=p) (F:=pFi) (a:=gi) (no:=Sk[i]) (b:=(w.sure.getD w1 [])) (ok.n1).loc0 (by omega) hsg) ?_;rintro _ η3 ⟨Fg1,ag1,xg1,cg1,rfl,hsg1,q⟩;have ok:=(ok.n1).lift2 q;refine .z .mvU<|.z .ex<|.z .ex<|.z .asS<|.z .asI<|.nil ?_;refine .seq<|.seq<|.r<|.z .mvI<|.z .neq<|.nil ?_;refine .cf<|.skip<|.seq<|?_;have ok:=ok.d1 (rdI E E (bsA ov Sk[i],bsN ov Sk[i],bsC ov Sk[i]) x.l) (Pbs.rd ok.r1 hx rfl) (fun _ h=>h.elim id id);obtain hbn:bsN ov Sk[i]=x.l.length:=ok.r0.n;rw [hbn] at ok;refine .r<|.z .mvS<|.z .mvP<|.z .nil<|.z (.fa T.fd123_4)<|.z (.fa T.fd120_1)<|.z (.ldx T.ag118 ok.m3)<|.z .mvI<|.z (.lk (KV.int .i64) (Sk[i]) (v:=.slice (bsA ov Sk[i]) x.l.length (bsC ov Sk[i])) T.mp118 (inB_iff T.in3) T.zr44 ok.m4 (by rw [←hbn];exact bs_get))<|.k 48 .func (equal_any (a:=xg1) (c:=cg1) (l:=(w.sure.getD w1 [])) (b:=(bsA ov Sk[i])) (d:=(bsC ov Sk[i])) (l2:=x.l) (RdL.ofCapB (v:=(xg1,(w.sure.getD w1 []).length,cg1)) (l:=(w.sure.getD w1 [])) ok.m0) ok.r0)<|.nil ?_;refine .cd (fun C3=>?_) (fun C3=>?_)
  ·
   have hun:ulK w.now w.sure Sk[i]=false:=by unfold ulK;rw [show (Sk[i]-1).toNat=w1 by omega,hnl,hsw,←C3];simp
   refine .exit<|hK1 _ _<|.r<|.z (.addI (b:=1))<|.z .mvI<|.nil ?_;refine .end<|hJ0 _ _ _ ⟨i+1,a4,n4,c4,Fg1,ag1,⟨rfl,rfl,rfl,rfl,rfl,trivial⟩,ok.n4.n4.n3.n4.k4.tR.cx (by rw [filt_tk (by omega)];simp [hun,iv]),by omega,hsg1.trans hgi,rfl⟩ (by omega)
  have hun:ulK w.now w.sure Sk[i]=true:=by unfold ulK;rw [show (Sk[i]-1).toNat=w1 by omega,hnl,hsw];exact decide_eq_true (fun e=>C3 (by injection e with e;exact e.symm))
  refine .skip<|.r<|.z .mvS<|.z .mvI<|.a' 51 (.lit [.tmp 50] (cs:=[.int .i64 (Sk[i])]) T.el24 T.sz3 T.zr3 ok ⟨rfl,trivial⟩) ?_;rintro _ η4 ⟨pb1,rfl,ok,xe⟩;refine .a' 52 (.app (news:=[.int .i64 (Sk[i])]) T.el24 T.sz3 T.by3 T.zr3 ok.n3 (ok.n3.m1).sl (oneL rfl) (by have:=List.length_filter_le (ulK w.now w.sure) (Sk.take i);simp only [List.length_map,List.length_take,List.length_cons,List.length_nil] at this⊢;omega)) ?_;rintro _ η5 ⟨ya1,yn1,yc1,rfl,ok,ap⟩;refine .z .asS<|.nil ?_;refine .end<|hK1 _ _<|.r<|.z (.addI (b:=1))<|.z .mvI<|.nil ?_;refine .end<|hJ0 _ _ _ ⟨i+1,ya1,yn1,yc1,Fg1,ag1,⟨rfl,rfl,rfl,rfl,rfl,trivial⟩,ok.n5.n5.n5.n3.k4.tR.cx (by rw [filt_tk (by omega)];simp [hun,iv]),by omega,hsg1.trans hgi,rfl⟩ (by omega)
 have hun:ulK w.now w.sure Sk[i]=true:=by unfold ulK;rw [show (Sk[i]-1).toNat=w1 by omega,hnl,List.getElem?_eq_none (by omega)];rfl
 refine .skip<|.r<|.z .mvS<|.z .mvI<|.a' 51 (.lit [.tmp 50] (cs:=[.int .i64 (Sk[i])]) T.el24 T.sz3 T.zr3 ok ⟨rfl,trivial⟩) ?_;rintro _ η6 ⟨pb2,rfl,ok,xe⟩;refine .a' 52 (.app (news:=[.int .i64 (Sk[i])]) T.el24 T.sz3 T.by3 T.zr3 ok.n1 (ok.n1.m1).sl (oneL rfl) (by have:=List.length_filter_le (ulK w.now w.sure) (Sk.take i);simp only [List.length_map,List.length_take,List.length_cons,List.length_nil] at this⊢;omega)) ?_;rintro _ η7 ⟨ya2,yn2,yc2,rfl,ok,ap⟩;refine .z .asS<|.nil ?_;refine .end<|hK1 _ _<|.r<|.z (.addI (b:=1))<|.z .mvI<|.nil ?_;refine .end<|hJ0 _ _ _ ⟨i+1,ya2,yn2,yc2,pFi,gi,⟨rfl,rfl,rfl,rfl,rfl,trivial⟩,ok.n4.n4.n4.n3.k4.cx (by rw [filt_tk (by omega)];simp [hun,iv]),by omega,hgi,rfl⟩ (by omega)
@[reducible] def keepO (C:PgrC) (k n:Nat) (so:Nat) (r:RS (C.G k n).α) (k' n':Nat) (F:Nat→Prop) (a:(C.G k' n').α):List Itm:=[(C.G k' n').it r.p F a,sboxI (C.G k n) so r,nowI r.om r.ov]
theorem skeep_any {C:PgrC} {k n:Nat} {h:Heap} {so:Nat} {r:RS (C.G k n).α} {w:St} {E F2 E2:Nat→Prop} {Sk:List Int} {xa:Option Addr} {xc:Nat} (V:SVw (C.G k n) r w) (hin:w.in_=true) (hz:C.z=w.z) (hne:w.now≠[]) (hfit:w.now.length*(C.z+16)+28≤16777216) (hlm3:C.lim (k+1) (n+w.now.length)) (hnd:(r.ov.map (·.1)).Nodup) (hSp:Sk.Perm (r.ov.map (·.1))) (ok:Hp h (starI [(C.G k n).it r.p r.pF r.a,sboxI (C.G k n) so r,nowI r.om r.ov]).F [(C.G k n).it r.p r.pF r.a,sboxI (C.G k n) so r,nowI r.om r.ov] [rdI F2 E2 (xa,(Sk.filter (ulK w.now w.sure)).length,xc) (Sk.filter (ulK w.now w.sure)),pbsI E r.ov] h) :
  HC Tryz.prog 102 #[.pointer (some ⟨so,0,none⟩),.slice xa (Sk.filter (ulK w.now w.sure)).length xc] h (fun v h'=>v=.int .i64 0∧∃n' F' a',n'≤n+w.now.length∧(C.G (k+1) n').sure a'=w.now∧Hp h (starI [(C.G k n).it r.p r.pF r.a,sboxI (C.G k n) so r,nowI r.om r.ov]).F (keepO C k n so r (k+1) n' F' a') [] h'):=by
 unfold keepO;generalize (starI [(C.G k n).it r.p r.pF r.a,sboxI (C.G k n) so r,nowI r.om r.ov]).F=DF at ok⊢;have hzc:=V.zc;have hnf:=V.nowfew;have hv:=(V.now hin).2;have hmn:=V.many hin;have hsu:=V.sure;have hfs:=hv.ks hnd hSp;have hcl:(Sk.filter (ulK w.now w.sure)).length≤w.now.length:=ks_fit _ _ ((hSp.nodup_iff.2 hnd).filter _) (fun x hx=>by obtain ⟨i,h1,h2,_⟩:=hfs x (List.mem_filter.1 hx).1;omega);have hlm:C.lim (k+1) n:=C.limM (Nat.le_refl _) (by omega) hlm3;have hcm:=ok.r0.m;have hcc:=ok.r0.c;simp only at hcm hcc;obtain ⟨p,lg,z,in_,many,om,ov,sa,sc,svl,pF,ga⟩:=r;dsimp only at ok hv hmn hsu hfs hSp hnd⊢;rw [←hmn] at hfit;refine HC.go Tryz.func102 63 ?_;refine .seq<|?_;obtain ⟨mb,rfl⟩:=(V.now hin).1;have ok:=Hp.nowSome (ok.n2);refine .r<|.z .asI<|.nil ?_;refine .seq<|.seq<|.r<|.z .mvP<|.z .nil<|.z (.fa T.fd123_0)<|.z (.ldx T.ag116 ok.m2)<|.c' 14 (.inv (C.mBegin _ _ _)) (C.cBegin hlm (ok.n1).loc0) ?_;rintro _ η1 ⟨rfl,Fg1,bg1,hsg1,q⟩;have ok:=(ok.n1).lift1 q;refine .z .asI<|.nil ?_;refine .seq<|.r<|.z .mvI<|.z .neq<|.nil ?_;refine .cf<|.skip<|.seq<|.seq<|.t 11 mixed ?_;simp only [List.take_succ_cons,List.take_zero,List.drop_succ_cons,List.drop_zero];refine .z .mvP<|.z .nil<|.z (.fa T.fd123_0)<|.z (.ldx T.ag116 ok.m2)<|.z .mvP<|.z .nil<|.z (.fa T.fd123_4)<|.z (.fa T.fd120_0)<|.z (.ldx T.ag3 ok.m2)<|.z .nilIf<|.z .mvIf<|.nil ?_;refine .c' 29 (.inv (C.mResize _ _ _)) (C.cResize (k:=k) (n:=n) (m:=many) hfit (ok).loc0) ?_;rintro _ η2 ⟨rfl,Fg2,bg2,hsg2,q⟩;have ok:=(ok).lift1 q;refine .z .asI<|.nil ?_;refine .seq<|.r<|.z .mvI<|.z .neq<|.nil ?_;refine .cf<|.skip<|.seq<|.seq<|?_;have hon:OnW w.now ((C.T k n).sure bg2) (Sk.filter (ulK w.now w.sure)):=by rw [hsg2,hsg1,hsu];exact OnW.start hv hSp
 refine .r<|.z .mvS<|.z (.len T.el24)<|.z .mvI<|.nil ?_;refine .block fun K0 hK0=>.loop (fun m s hh=>∃(i:Nat) (pFi:Nat→Prop) (bi:(C.T k (n+i)).α),Has s [(0,.pointer (some ⟨so,0,none⟩)),(33,.slice xa ((Sk.filter (ulK w.now w.sure)).length) xc),(34,.int .i64 (((Sk.filter (ulK w.now w.sure)).length:Nat):Int)),(35,.int .i64 (i:Int))]∧Hp h DF [(C.T k (n+i)).it p pFi bi,boxI so 123 [.iface ((C.G k n).tid) (.pointer (some ⟨p,0,none⟩)),.pointer lg,.int .i64 (z:Int),.bool in_,.int .i64 (many:Int),.map (some mb),.slice sa svl.length sc,.bool false],mapI (Value.int .i64) mb (bsE ov)] [rdI F2 E2 (xa,(Sk.filter (ulK w.now w.sure)).length,xc) (Sk.filter (ulK w.now w.sure)),pbsI E ov] hh∧i≤(Sk.filter (ulK w.now w.sure)).length∧OnW w.now ((C.T k (n+i)).sure bi) ((Sk.filter (ulK w.now w.sure)).drop i)∧m=(Sk.filter (ulK w.now w.sure)).length-i) ?_ ?_
 ·exact ⟨_,0,Fg2,bg2,⟨rfl,rfl,rfl,rfl,trivial⟩,ok.n1.n2.n2,Nat.zero_le _,hon,rfl⟩
 rintro _ _ η3 ⟨i,pFi,bi,hs,ok,hi,hoi,rfl⟩ J0 hJ0;refine .frame hs fun τ=>?_;refine .seq<|.r<|.z .lss<|.nil ?_;refine .seq<|.cdr (fun C2=>?_) (fun C2=>?_)
 ·
  refine .exit<|hK0 _ _<|.seq<|?_;have hfin:(C.T k (n+i)).sure bi=w.now:=OnW.fin (by have h:=hoi;rwa [List.drop_of_length_le (by omega)] at h);have hpos:=List.length_pos_iff.2 hne;have hfl:((C.T k (n+i)).sure bi).length=w.now.length:=by rw [hfin]
  have hh0:hok (((C.T k (n+i)).sure bi).getD (1-1) []) C.z:=by rw [hfin,hz,List.getD_eq_getElem?_getD,←headD_get];exact V.ok.now.hd hne
  refine .r<|.z .mvP<|.z .nil<|.z (.fa T.fd123_0)<|.z (.ldx T.ag116 ok.m1)<|.c' 62 (.inv (C.mCommit _ _ _)) (C.cCommit (k:=k) (n:=(n+i)) (C.limM (Nat.le_refl _) (by omega) hlm3) (by omega) hh0 (ok).loc0) ?_;rintro _ η4 ⟨rfl,Fg3,ag3,hsg3,q⟩;have ok:=(ok).lift1 q;refine .z .asI<|.nil ?_;refine .ret ⟨.int .i64 0,Res.one rfl rfl,⟨rfl,_,Fg3,ag3,by omega,by rw [hsg3];exact hfin,(ok).k3.e0⟩⟩
 refine .skip<|.seq<|.block fun K1 hK1=>.seq<|?_;have hiS:i<(Sk.filter (ulK w.now w.sure)).length:=by omega
 have hel:=List.mem_filter.1 (List.getElem_mem hiS);obtain ⟨w1,hkw,hwn,x,hx,hnl⟩:=hfs _ hel.1;have hst:=OnW.step (by rw [List.drop_eq_getElem_cons hiS,hkw] at hoi;exact hoi) hnl;have hxl:x.l.length=C.z:=by rw [hz];exact V.ok.now.len _ (List.mem_of_getElem? hnl)
 have hpl:=hoi.1;have hlm2:C.lim (k+1) (n+i+1):=C.limM (Nat.le_refl _) (by omega) hlm3;have hkw2:(Sk.filter (ulK w.now w.sure))[i]=((w1+1:Nat):Int):=by omega
 rw [hkw2] at hx;refine .r<|?_;obtain ⟨bb1,oo1,rfl,fb1⟩:=ok.r0.pos (by omega);refine .z (.ix1 i T.el24 T.sz3)<|.z (.ld T.ag3 (ok.r0.i64 (i:=i) (by omega)))<|.z .asI<|.nil ?_;refine .seq<|?_;rw [hkw2];have ok:=ok.d1 (rdI E E (bsA ov ((w1+1:Nat):Int),bsN ov ((w1+1:Nat):Int),bsC ov ((w1+1:Nat):Int)) x.l) (Pbs.rd ok.r1 hx rfl) (fun _ h=>h.elim id id);obtain hbn:bsN ov ((w1+1:Nat):Int)=x.l.length:=ok.r0.n;rw [hbn] at ok;refine .t 14 mixed ?_;simp only [List.take_succ_cons,List.take_zero,List.drop_succ_cons,List.drop_zero];refine .z .mvP<|.z .nil<|.z (.fa T.fd123_0)<|.z (.ldx T.ag116 ok.m1)<|.z .mvI<|.z .mvP<|.z .nil<|.z (.fa T.fd123_4)<|.z (.fa T.fd120_1)<|.z (.ldx T.ag118 ok.m1)<|.z .mvI<|.z (.lk (KV.int .i64) ((w1+1:Nat):Int) (v:=.slice (bsA ov ((w1+1:Nat):Int)) x.l.length (bsC ov ((w1+1:Nat):Int))) T.mp118 (inB_iff T.in3) T.zr44 ok.m2 (by rw [←hbn];exact bs_get))<|.z .nilIf<|.z .mvIf<|.nil ?_;refine .c' 53 (.inv (C.mWrite _ _ _)) (C.cWrite (k:=k) (n:=(n+i)) (no:=(w1+1)) (l:=x.l) hlm2 (by omega) (by omega) hxl (ok).loc1) ?_;rintro _ η5 ⟨rfl,Fg4,bg4,hsg4,q⟩;have ok:=(ok).lift1 q;refine .z .asI<|.nil ?_;refine .seq<|.r<|.z .mvI<|.z .neq<|.nil ?_;refine .cf<|.skip<|.end<|hK1 _ _<|.r<|.z (.addI (b:=1))<|.z .mvI<|.nil ?_;refine .end<|hJ0 _ _ _ ⟨i+1,Fg4,bg4,⟨rfl,rfl,rfl,rfl,trivial⟩,ok.n2.n2.n2.tR,by omega,(show OnW w.now ((C.T k (n+i+1)).sure bg4) _ from by rw [hsg4];exact hst),rfl⟩ (by omega)
theorem sbox_tid {G G':Pgr} (ht:G.tid=G'.tid) {so p z many sc:Nat} {lg sa:Option Addr} {i:Bool} {om:Option Nat} {ov:List (Int × RB)} {sv:List RSv} {pF pF':Nat→Prop} {a:G.α} {a':G'.α} {h:Heap} (hb:(sboxI G so (⟨p,lg,z,i,many,om,ov,sa,sc,sv,pF,a⟩:RS G.α)).p h):(sboxI G' so (⟨p,lg,z,i,many,om,ov,sa,sc,sv,pF',a'⟩:RS G'.α)).p h:=by
 have h2:(boxI so 123 [.iface G.tid (pv p),.pointer lg,.int .i64 (z:Int),.bool i,.int .i64 (many:Int),.map om,.slice sa sv.length sc,.bool false]).p h:=hb;rw [ht] at h2;exact h2
theorem sCommit_any {C:PgrC} {k n:Nat} {h:Heap} {so:Nat} {F:Nat→Prop} {w:St} (hin:w.in_=true) (hz:C.z=w.z) (hne:w.now=[]→w.sure=[]) (hfit:w.now.length*(C.z+16)+28≤16777216) (hlm:C.lim (k+1) (n+w.now.length)) (ok:Hp h F [dsI (C.G k n) so F w] [] h) :
  HC Tryz.prog 47 #[.pointer (some ⟨so,0,none⟩)] h (fun v h'=>v=.int .i64 0∧∃F',Hp h F [dsI (C.G (k+1) (n+w.now.length)) so F' w.commit.1] [] h'):=by
 obtain ⟨r,E,V,ok,hf,he⟩:=ds_open ok;have hzc:=V.zc;have hnf:=V.nowfew;have hsu:(C.G k n).sure r.a=w.sure:=V.sure;obtain ⟨p,lg,z,in_,many,om,ov,sa,sc,svl,pF,ga⟩:=r;dsimp only at ok hf hsu;generalize stF (C.G k n) so _=DF at ok hf;obtain rfl:z=w.z:=V.z;obtain rfl:in_=w.in_:=V.in_;have hmn:many=w.now.length:=V.many hin;have hv:=(V.now hin).2;dsimp only at hv;have ok:Hp h DF [boxI so 123 [.iface ((C.G k n).tid) (.pointer (some ⟨p,0,none⟩)),.pointer lg,.int .i64 (w.z:Int),.bool w.in_,.int .i64 (many:Int),.map om,.slice sa svl.length sc,.bool false],nowI om ov,capI 2 120 (sa,svl.length,sc) (svl.flatMap RSv.cells),(C.G k n).it p pF ga] [pbsI E ov,svsI E svl] h:=ok;refine HC.go Tryz.func47 61 ?_;refine .seq<|.r<|.z .asI<|.nil ?_;refine .seq<|.seq<|.r<|.z .mvP<|.k 8 .func (swithin_any (G:=C.G k n) (r:=(⟨p,lg,w.z,w.in_,many,om,ov,sa,sc,svl,pF,ga⟩:RS (C.G k n).α)) (i:=w.in_) ok.m0 rfl)<|.z .asI<|.nil ?_;refine .seq<|.r<|.z .mvI<|.z .neq<|.nil ?_;refine .cd (fun C0=>?_) (fun C0=>?_)
 ·
  rw [hin] at C0;exact absurd rfl C0
 refine .skip<|.seq<|.r<|.z .mvP<|.c' 14 .func (sunlike_any (r:=(⟨p,lg,w.z,w.in_,many,om,ov,sa,sc,svl,pF,ga⟩:RS (C.G k n).α)) (E:=E) V hin ((Hp.locL [(C.G k n).it p pF ga,boxI so 123 [.iface ((C.G k n).tid) (.pointer (some ⟨p,0,none⟩)),.pointer lg,.int .i64 (w.z:Int),.bool w.in_,.int .i64 (many:Int),.map om,.slice sa svl.length sc,.bool false],nowI om ov] (ok.n1.n1.n3)).e1)) ?_;rintro _ η1 ⟨Sk,Fu1,au1,xu1,cu1,rfl,hsu1,hnd,hSp,q⟩;have ok:=Hp.liftL [(C.G k n).it p pF ga,boxI so 123 [.iface ((C.G k n).tid) (.pointer (some ⟨p,0,none⟩)),.pointer lg,.int .i64 (w.z:Int),.bool w.in_,.int .i64 (many:Int),.map om,.slice sa svl.length sc,.bool false],nowI om ov] (ok.n1.n1.n3) q;have hsg:(C.G k n).sure au1=w.sure:=hsu1;have ok:=ok.frzI (l:=(Sk.filter (ulK w.now w.sure))) rfl;refine .z .mvU<|.z .ex<|.z .ex<|.z .asS<|.z .asI<|.nil ?_;refine .seq<|.seq<|.r<|.z .mvI<|.z .neq<|.nil ?_;refine .cf<|.skip<|.seq<|.seq<|.a 16 (fun fl hh=>Hp h DF [(C.G k n).it p Fu1 au1,boxI so 123 [.iface ((C.G k n).tid) (.pointer (some ⟨p,0,none⟩)),.pointer lg,.int .i64 (w.z:Int),.bool w.in_,.int .i64 (many:Int),.map om,.slice sa svl.length sc,.bool false],nowI om ov,capI 2 120 (sa,svl.length,sc) (svl.flatMap RSv.cells)] [rdI (blkC (sv (xu1,(Sk.filter (ulK w.now w.sure)).length,cu1))) none_ (xu1,(Sk.filter (ulK w.now w.sure)).length,cu1) (Sk.filter (ulK w.now w.sure)),pbsI E ov,svsI E svl] hh) mixed ?_;have hS:=ok;refine .g 0 false rfl 22 hS (fun _=>.mvS)<|.g 1 false rfl 23 hS (fun _=>.len T.el24)<|.g 2 false rfl 24 hS (fun _=>.gtr)<|.g 3 false rfl 25 hS (fun _=>.mvB)<|.sd (fun G25=>?_) (fun G25=>?_)
 ·
  have hnn:w.now≠[]:=fun e0=>by
   obtain ⟨x,hx⟩:=List.exists_mem_of_length_pos (show 0<(Sk.filter (ulK w.now w.sure)).length by omega);obtain ⟨i,_,h2,_⟩:=hv.ks hnd hSp x (List.mem_filter.1 hx).1;rw [e0] at h2;cases h2
  refine .x 4 false rfl 26 hS<|.x 5 false rfl 27 hS<|.x 6 false rfl 28 hS<|.x 7 false rfl 29 hS<|.x 8 false rfl 30 hS<|.x 9 false rfl 31 hS<|.x 10 false rfl 32 hS<|.x 11 false rfl 33 hS<|.x 12 false rfl 34 hS<|.x 13 false rfl 35 hS<|.x 14 false rfl 36 hS<|.g 15 false rfl 37 hS (fun _=>.pkt)<|.e ?_;refine .ct<|.seq<|.r<|.z .mvP<|.z .mvS<|.c' 40 .func (skeep_any (C:=C) (r:=(⟨p,lg,w.z,w.in_,many,om,ov,sa,sc,svl,Fu1,au1⟩:RS (C.G k n).α)) (E:=E) (V.pg (F:=Fu1) (a:=au1) (hsg.trans hsu.symm)) hin hz hnn hfit hlm hnd hSp (Hp.locL [(C.G k n).it p Fu1 au1,boxI so 123 [.iface ((C.G k n).tid) (.pointer (some ⟨p,0,none⟩)),.pointer lg,.int .i64 (w.z:Int),.bool w.in_,.int .i64 (many:Int),.map om,.slice sa svl.length sc,.bool false],nowI om ov] (ok.f1.f1)).e2) ?_;rintro _ η2 ⟨rfl,nk1,Fk1,ak1,hnk1,hsk1,q⟩;have ok:=Hp.liftL [(C.G k n).it p Fu1 au1,boxI so 123 [.iface ((C.G k n).tid) (.pointer (some ⟨p,0,none⟩)),.pointer lg,.int .i64 (w.z:Int),.bool w.in_,.int .i64 (many:Int),.map om,.slice sa svl.length sc,.bool false],nowI om ov] (ok) q;obtain ⟨a2,ha2,hp2,hF2⟩:=C.up (Nat.le_refl (k+1)) hnk1 ok.m0;have ok:=ok.re _ hp2 hF2;have hfa:=ha2.trans hsk1;refine .z .asI<|.nil ?_;refine .seq<|.r<|.z .mvI<|.z .neq<|.nil ?_;refine .cf<|.skip<|.seq<|.r<|.z .mvP<|.c' 60 .func (send_any (G:=C.G k n) (r:=(⟨p,lg,w.z,w.in_,many,om,ov,sa,sc,svl,pF,ga⟩:RS (C.G k n).α)) (ok.n1).loc0) ?_;rintro _ η3 ⟨rfl,q⟩;have ok:=(ok.n1).lift1 q;have ok:=(ok.nowNil (bs:=[])).nilC (k:=2) (e:=120);have ok:=Hp.pbsNil (ok.f1);have ok:=Hp.svsNil (ok.f2);refine .nil ?_;refine .seq<|.r<|.z .asI<|.nil ?_;have ok:=ok.n3.n1.n2.n3;have ok:=ok.re (sboxI (C.G (k+1) (n+w.now.length)) so (⟨p,lg,w.z,false,0,none,[],none,0,[],Fk1,a2⟩:RS (C.G (k+1) (n+w.now.length)).α)) (sbox_tid (C.tid k n (k+1) (n+w.now.length)) ok.m0) (fun _ h=>h);refine .ret ⟨.int .i64 0,Res.one rfl rfl,⟨rfl,_,by rw [St.commit_0 hin];exact ds_close (r':=(⟨p,lg,w.z,false,0,none,[],none,0,[],Fk1,a2⟩:RS (C.G (k+1) (n+w.now.length)).α)) (E':=E) (ok.k4.f1) hf (fun j hj=>.inl (he j hj)) (V.commit hin (pF:=Fk1) hfa)⟩⟩
 refine .g 4 false rfl 26 hS (fun _=>.mvP)<|.g 5 false rfl 27 hS (fun _=>.nil)<|.g 6 false rfl 28 hS (fun _=>.fa T.fd123_4)<|.g 7 false rfl 29 hS (fun _=>.fa T.fd120_0)<|.lw 8 false rfl 30 hS (fun _ _ hS=>.ldx T.ag3 hS.m1)<|.g 9 false rfl 31 hS (fun _=>.mvP)<|.g 10 false rfl 32 hS (fun _=>.nil)<|.g 11 false rfl 33 hS (fun _=>.fa T.fd123_0)<|.lw 12 false rfl 34 hS (fun _ _ hS=>.ldx T.ag116 hS.m1)<|.o1 13<|.k false rfl 35 (.inv ((C.G k n).mPages _)) ((C.G k n).cPages (F:=Fu1) (a:=au1) ok.m0) hS<|.g 14 false rfl 36 hS (fun _=>.neq)<|.g 15 false rfl 37 hS (fun _=>.pkf)<|.e ?_;refine .cd (fun C2=>?_) (fun C2=>?_)
 ·
  have hnn:w.now≠[]:=fun e0=>by
   have h2:=hne e0;rw [hsg,h2,hmn,e0] at C2;exact C2 rfl
  refine .seq<|.r<|.z .mvP<|.z .mvS<|.c' 40 .func (skeep_any (C:=C) (r:=(⟨p,lg,w.z,w.in_,many,om,ov,sa,sc,svl,Fu1,au1⟩:RS (C.G k n).α)) (E:=E) (V.pg (F:=Fu1) (a:=au1) (hsg.trans hsu.symm)) hin hz hnn hfit hlm hnd hSp (Hp.locL [(C.G k n).it p Fu1 au1,boxI so 123 [.iface ((C.G k n).tid) (.pointer (some ⟨p,0,none⟩)),.pointer lg,.int .i64 (w.z:Int),.bool w.in_,.int .i64 (many:Int),.map om,.slice sa svl.length sc,.bool false],nowI om ov] (ok.f1.f1)).e2) ?_;rintro _ η4 ⟨rfl,nk2,Fk2,ak2,hnk2,hsk2,q⟩;have ok:=Hp.liftL [(C.G k n).it p Fu1 au1,boxI so 123 [.iface ((C.G k n).tid) (.pointer (some ⟨p,0,none⟩)),.pointer lg,.int .i64 (w.z:Int),.bool w.in_,.int .i64 (many:Int),.map om,.slice sa svl.length sc,.bool false],nowI om ov] (ok) q;obtain ⟨a2,ha2,hp2,hF2⟩:=C.up (Nat.le_refl (k+1)) hnk2 ok.m0;have ok:=ok.re _ hp2 hF2;have hfa:=ha2.trans hsk2;refine .z .asI<|.nil ?_;refine .seq<|.r<|.z .mvI<|.z .neq<|.nil ?_;refine .cf<|.skip<|.seq<|.r<|.z .mvP<|.c' 60 .func (send_any (G:=C.G k n) (r:=(⟨p,lg,w.z,w.in_,many,om,ov,sa,sc,svl,pF,ga⟩:RS (C.G k n).α)) (ok.n1).loc0) ?_;rintro _ η5 ⟨rfl,q⟩;have ok:=(ok.n1).lift1 q;have ok:=(ok.nowNil (bs:=[])).nilC (k:=2) (e:=120);have ok:=Hp.pbsNil (ok.f1);have ok:=Hp.svsNil (ok.f2);refine .nil ?_;refine .seq<|.r<|.z .asI<|.nil ?_;have ok:=ok.n3.n1.n2.n3;have ok:=ok.re (sboxI (C.G (k+1) (n+w.now.length)) so (⟨p,lg,w.z,false,0,none,[],none,0,[],Fk2,a2⟩:RS (C.G (k+1) (n+w.now.length)).α)) (sbox_tid (C.tid k n (k+1) (n+w.now.length)) ok.m0) (fun _ h=>h);refine .ret ⟨.int .i64 0,Res.one rfl rfl,⟨rfl,_,by rw [St.commit_0 hin];exact ds_close (r':=(⟨p,lg,w.z,false,0,none,[],none,0,[],Fk2,a2⟩:RS (C.G (k+1) (n+w.now.length)).α)) (E':=E) (ok.k4.f1) hf (fun j hj=>.inl (he j hj)) (V.commit hin (pF:=Fk2) hfa)⟩⟩
 have hsame:w.now=w.sure:=hv.same hSp (List.eq_nil_of_length_eq_zero (by omega)) (by rw [←hsg];omega);refine .skip<|.seq<|.r<|.z .mvP<|.c' 60 .func (send_any (G:=C.G k n) (r:=(⟨p,lg,w.z,w.in_,many,om,ov,sa,sc,svl,pF,ga⟩:RS (C.G k n).α)) (ok.n1).loc0) ?_;rintro _ η6 ⟨rfl,q⟩;have ok:=(ok.n1).lift1 q;have ok:=(ok.nowNil (bs:=[])).nilC (k:=2) (e:=120);have ok:=Hp.pbsNil (ok.f1);have ok:=Hp.svsNil (ok.f2);refine .nil ?_;refine .seq<|.r<|.z .asI<|.nil ?_;have ok:=ok.n3;obtain ⟨a2,ha2,hp2,hF2⟩:=C.up (k':=k+1) (n':=n+w.now.length) (Nat.le_succ k) (Nat.le_add_right n w.now.length) ok.m0;have ok:=ok.re _ hp2 hF2;have hfa:=(ha2.trans hsg).trans hsame.symm;have ok:=ok.n1.n2.n3;have ok:=ok.re (sboxI (C.G (k+1) (n+w.now.length)) so (⟨p,lg,w.z,false,0,none,[],none,0,[],Fu1,a2⟩:RS (C.G (k+1) (n+w.now.length)).α)) (sbox_tid (C.tid k n (k+1) (n+w.now.length)) ok.m0) (fun _ h=>h);refine .ret ⟨.int .i64 0,Res.one rfl rfl,⟨rfl,_,by rw [St.commit_0 hin];exact ds_close (r':=(⟨p,lg,w.z,false,0,none,[],none,0,[],Fu1,a2⟩:RS (C.G (k+1) (n+w.now.length)).α)) (E':=E) (ok.k4.f1) hf (fun j hj=>.inl (he j hj)) (V.commit hin (pF:=Fu1) hfa)⟩⟩
theorem hbopenK_any {h:Heap} {d z:Nat} {room:Int} {F:Nat→Prop} (ok:Hp h F [dgI d F newN] [] h) (hz:okSz z=true) (hr:1≤room∧room≤1024) :
  HC Tryz.prog 88 #[.pointer (some ⟨d,0,none⟩),.int .i64 (z:Int),.int .i64 room] h (fun v h'=>∃p,v=.tuple #[.pointer (some ⟨p,0,none⟩),.int .i64 0]∧∃a,(hbG z 0 0).sure a=[]∧Hp h F [(hbG z 0 0).it p none_ a] [] h'):=
 (hbopen_any ok hz hr).mono fun v h' ⟨p,c,Fd,Fc,k,hv,q⟩=>⟨p,hv,⟨newH d c z,Fd,Fc,room,[],[],k,rfl,rfl,by show (0:Int)≤_;omega,by show (0:Int)<_;decide⟩,rfl,Hp.star (l:=[hboxI p (newH d c z),kepI none [],dgI d Fd newN,cacL c Fc room []]) (M:=[]) q⟩
theorem sopnK_any {h:Heap} {d z:Nat} {room:Int} {F:Nat→Prop} (ok:Hp h F [dgI d F newN] [] h) (hz:okSz z=true) (hr:1≤room∧room≤1024) :
  HC Tryz.prog 36 #[.pointer (some ⟨d,0,none⟩),.agg #[.int .i64 (z:Int),.bool false,.int .i64 room]] h (fun v h'=>∃s,v=.tuple #[.pointer (some ⟨s,0,none⟩),.int .i64 0]∧∃F',Hp h F [dsI ((hbC z).G 0 0) s F' (newS z)] [] h'):=by
 have hzc:=okSz_c hz;have hpw:=(and_pow z (by omega) (by omega)).2 (by omega);refine HC.go Tryz.func36 80 ?_;refine .seq<|.r<|.a' 3 (.bxA (cs:=[.int .i64 (z:Int),.bool false,.int .i64 room]) ok) ?_;rintro _ η1 ⟨pb1,rfl,ok,xe⟩;refine .z .asP<|.z .asI<|.nil ?_;refine .seq<|.block fun K0 hK0=>.seq<|.r<|.z .mvP<|.z (.pEqS T.pt63)<|.z .asB<|.nil ?_;refine .cf<|.seq<|.r<|.z (.fa T.fd23_0)<|.z (.ldx T.ag3 ok.m0)<|.z .lss<|.z .mvB<|.sd (fun G17=>?_) (fun G17=>?_)
 ·
  omega
 refine .z (.fa T.fd23_0)<|.z (.ldx T.ag3 ok.m0)<|.z .gtr<|.z .pkf<|.z .mvB<|.sd (fun G22=>?_) (fun G22=>?_)
 ·
  omega
 refine .z (.fa T.fd23_0)<|.z (.ldx T.ag3 ok.m0)<|.z (.fa T.fd23_0)<|.z (.ldx T.ag3 ok.m0)<|.z .sub<|.z (.bandI z (z-1))<|.z .neq<|.z .pkf<|.z .mvB<|.sd (fun G31=>?_) (fun G31=>?_)
 ·
  omega
 refine .z (.fa T.fd23_2)<|.z (.ldx T.ag3 ok.m0)<|.z .lss<|.z .pkf<|.z .mvB<|.sd (fun G36=>?_) (fun G36=>?_)
 ·
  omega
 refine .z (.fa T.fd23_2)<|.z (.ldx T.ag3 ok.m0)<|.z .gtr<|.z .pkf<|.z .asB<|.nil ?_;refine .cd (fun C1=>?_) (fun C1=>?_)
 ·
  omega
 refine .skip<|.end<|hK0 _ _<|.seq<|.seq<|.r<|.z (.fa T.fd23_1)<|.z (.ldx T.ag4 ok.m0)<|.nil ?_;refine .cf<|.skip<|.seq<|.r<|.z .mvP<|.z (.fa T.fd23_0)<|.z (.ldx T.ag3 ok.m0)<|.z (.fa T.fd23_2)<|.z (.ldx T.ag3 ok.m0)<|.c' 68 .func (hbopenK_any (ok.n1).loc0 hz hr) ?_;rintro _ η2 ⟨pp,rfl,aa,haa,q⟩;have ok:=(ok.n1).lift1 q;refine .z .mvU<|.z .ex<|.z .ex<|.z .asP<|.z .asI<|.nil ?_;refine .seq<|.seq<|.r<|.z .mvI<|.z .neq<|.nil ?_;refine .cf<|.skip<|.seq<|.r<|.z .mvP<|.z (.mkI (by kernel_rfl))<|.z (.fa T.fd23_0)<|.z (.ldx T.ag3 ok.m1)<|.z (.bd #[.iface (140) (.pointer (some ⟨pp,0,none⟩)),.pointer none,.int .i64 (z:Int),.bool false,.int .i64 0,.map none,.slice none 0 0,.bool false] T.zr123 T.pl123 rfl)<|.a' 79 (.bxA (cs:=[.iface (140) (.pointer (some ⟨pp,0,none⟩)),.pointer none,.int .i64 (z:Int),.bool false,.int .i64 0,.map none,.slice none 0 0,.bool false]) ok) ?_;rintro _ η3 ⟨pb2,rfl,ok,xe⟩;refine .z .asP<|.z .asI<|.nil ?_;refine .ret ⟨.tuple #[.pointer (some ⟨pb2,0,none⟩),.int .i64 0],Res.two rfl rfl rfl,⟨pb2,rfl,ds_new (G:=hbG z 0 0) (a:=aa) (pF:=none_) haa hz (ok).k2⟩⟩
def lv1 (s:Nat):List (List UInt8):=[pg1 256 (hd1 256),pageG 256 s]
def lvS (s:Nat) (sv:List (List (List UInt8))):St:=⟨256,[],true,lv1 s,sv⟩
def lvC:St:=⟨256,lv1 7,false,[],[]⟩
theorem lv_w {s:Nat} {l:List (List UInt8)} {sv:List (List (List UInt8))} (hl:l=[pg1 256 (hd1 256)]∨∃t,l=lv1 t):St.write ⟨256,[],true,l,sv⟩ 2 (pageG 256 s)=(lvS s sv,0):=by
 have hn:l≠[]∧1≤l.length:=by rcases hl with rfl | ⟨t,rfl⟩<;>exact ⟨by simp [lv1],by simp [lv1]⟩
 have e:=St.write_0 (w:=⟨256,[],true,l,sv⟩) (no:=2) (b:=pageG 256 s) rfl (by rintro (h | h | h | h);omega;(have:=hn.2;dsimp only at h;omega);exact hn.1 h;exact h pageG_len) (by dsimp only;rintro (h | h)<;>omega);refine e.trans ?_;rcases hl with rfl | ⟨t,rfl⟩<;>rfl
theorem live15_any {h:Heap} :
  HC Tryz.prog 37 #[] h (fun v h'=>v=.bool true∧Ext h h'):=by
 have ok:=Hp.nil h none_;refine HC.go Tryz.func37 75 ?_;refine .seq<|.r<|.z .asB<|.nil ?_;refine .seq<|.r<|.c' 5 .func dgnew_any ?_;rintro _ η1 ⟨dnd1,Fnd1,rfl,q⟩;have ok:=Hp.addM15 ok q;refine .z (.bd #[.int .i64 256,.bool false,.int .i64 4] T.zr23 T.pl23 rfl)<|.c' 7 .func (sopnK_any (z:=256) (room:=4) (ok).loc0 (by decide) (by decide)) ?_;rintro _ η2 ⟨so,rfl,Fo1,q⟩;have ok:=(ok).lift1 q;refine .z .mvU<|.z .ex<|.z .ex<|.z .asP<|.z .asI<|.nil ?_;refine .seq<|.seq<|.r<|.z .mvI<|.z .neq<|.z .mvB<|.z .mvP<|.c' 14 .func (ansE (ci:=0) (sBegin_any (G:=((hbC 256).G 0 0)) (w:=(newS 256)) (ok).loc0) op_begin rfl) ?_;rintro _ η3 ⟨Fb1,rfl,q⟩;have ok:=(ok).lift1 q;refine .z .neq<|.z .pkf<|.z .mvB<|.z .mvP<|.z (.bd #[.int .i64 256,.int .i64 1,.int .i64 0,.int .i64 0,.int .i64 0,.int .i64 0] T.zr38 T.pl38 rfl)<|.c' 20 .func (ansE (ci:=0) (sSetHead_any (G:=((hbC 256).G 0 0)) (w:=(opB 256)) (H:=(⟨256,1,0,0,0,0⟩:Hd)) (ok).loc0 (hd1_in (z:=256) (by decide))) (op_head (z:=256) (by decide)) rfl) ?_;rintro _ η4 ⟨Fs1,rfl,q⟩;have ok:=(ok).lift1 q;refine .z .neq<|.z .pkf<|.z .mvB<|.z .mvP<|.c' 25 .func (page15_any (z:=256) (seed:=7) (by omega) (by omega)) ?_;rintro _ η5 own;obtain ⟨ya1,yc1,rfl⟩:=own.formB;have ok:=ok.own own;refine .c' 26 .func (ansE (ci:=0) (sWriteC_any (G:=((hbC 256).G 0 0)) (w:=(opV 256 0)) (no:=2) (l:=(pageG 256 7)) (ok.n1) (by rw [pageG_len];omega)) (lv_w (.inl rfl)) rfl) ?_;rintro _ η6 ⟨Fk1,rfl,q⟩;have ok:=(ok.n1).lift1 q;refine .z .neq<|.z .pkf<|.z .mvB<|.z .mvP<|.c' 31 .func (ansE (ci:=0) (sSave_any (G:=((hbC 256).G 0 0)) (w:=(lvS 7 [])) (ok).loc0) rfl rfl) ?_;rintro _ η7 ⟨Fb2,rfl,q⟩;have ok:=(ok).lift1 q;refine .z .neq<|.z .pkf<|.z .mvB<|.z .mvP<|.c' 36 .func (page15_any (z:=256) (seed:=8) (by omega) (by omega)) ?_;rintro _ η8 own;obtain ⟨ya2,yc2,rfl⟩:=own.formB;have ok:=ok.own own;refine .c' 37 .func (ansE (ci:=0) (sWriteC_any (G:=((hbC 256).G 0 0)) (w:=(lvS 7 [lv1 7])) (no:=2) (l:=(pageG 256 8)) (ok.n1) (by rw [pageG_len];omega)) (lv_w (.inr ⟨7,rfl⟩)) rfl) ?_;rintro _ η9 ⟨Fk2,rfl,q⟩;have ok:=(ok.n1).lift1 q;refine .z .neq<|.z .pkf<|.z .mvB<|.z .mvP<|.c' 42 .func (ansE (ci:=0) (sBack_any (G:=((hbC 256).G 0 0)) (w:=(lvS 8 [lv1 7])) (n:=0) (ok).loc0) rfl rfl) ?_;rintro _ η10 ⟨Fb3,rfl,q⟩;have ok:=(ok).lift1 q;refine .z .neq<|.z .pkf<|.z .mvB<|.z .mvP<|.c' 47 .func (sCommit_any (C:=hbC 256) (k:=0) (n:=0) (w:=(lvS 7 [lv1 7])) rfl rfl (fun h=>by cases h) (by decide) (show hbLim _ _ from ⟨by decide,by decide⟩) (ok).loc0) ?_;rintro _ η11 ⟨rfl,Fc1,q⟩;have ok:=(ok).lift1 q;rw [show (lvS 7 [lv1 7]).commit.1=lvC from by rw [show St.commit (lvS 7 [lv1 7])=(lvC,0) from rfl]] at ok;refine .z .neq<|.z .pkf<|.nil ?_;refine .cf<|.skip<|.seq<|.r<|.z .mvP<|.c' 52 .func (sReadOk_any (G:=((hbC 256).G (0+1) (0+(lvS 7 [lv1 7]).now.length))) (w:=lvC) (no:=2) (b:=(pageG 256 7)) (ok).loc0 (by decide) (by decide) (by rfl)) ?_;rintro _ η12 ⟨Fr1,xr1,cr1,rfl,hlr1,q⟩;have ok:=(ok).lift2 q;refine .z .mvU<|.z .ex<|.z .ex<|.z .asS<|.z .asI<|.nil ?_;refine .seq<|?_;have ok:=(ok).frzB (l:=(pageG 256 7)) rfl;have hcr:=ok.r0.c;simp only at hcr;refine .a 21 (fun fl hh=>Hp h none_ [capI 1 5 (ya2,(pageG 256 8).length,yc2) ((pageG 256 8).map bv),capI 1 5 (ya1,(pageG 256 7).length,yc1) ((pageG 256 7).map bv)] [rdI (blkC (sv (xr1,(pageG 256 7).length,cr1))) none_ (xr1,(pageG 256 7).length,cr1) (pageG 256 7)] hh) mixed ?_;have hS:=ok.n2.n2.k2;refine .g 0 false rfl 55 hS (fun _=>.mvI)<|.g 1 false rfl 56 hS (fun _=>.eql)<|.g 2 false rfl 57 hS (fun _=>.mvB)<|.g 3 false rfl 58 hS (fun _=>.mvS)<|.lw 4 false rfl 59 hS (fun _ _ hS=>.bts T.el44 T.in5 T.st9 (hS.r0).by)<|.o1 5<|.c' false rfl 60 .func (page15_any (z:=256) (seed:=7) (by omega) (by omega)) ?_;rintro _ η13 own;obtain ⟨ya3,yc3,rfl⟩:=own.formB;have ok:=ok.own own;refine ⟨ok.n3.n3.k2,?_⟩;have hS:=ok.n3.n3.k2;refine .str (fun _ hh=>Hp h none_ [capI 1 5 (ya3,(pageG 256 7).length,yc3) ((pageG 256 7).map bv),capI 1 5 (ya2,(pageG 256 8).length,yc2) ((pageG 256 8).map bv),capI 1 5 (ya1,(pageG 256 7).length,yc1) ((pageG 256 7).map bv)] [rdI (blkC (sv (xr1,(pageG 256 7).length,cr1))) none_ (xr1,(pageG 256 7).length,cr1) (pageG 256 7)] hh) (fun _ _ h=>h.tM) ?_;have hS:=ok.n3.n3.n2.k3;refine .lw 6 false rfl 61 hS (fun _ _ hS=>.bts T.el44 T.in5 T.st9 (hS.m0).sl)<|.g 7 false rfl 62 hS (fun _=>.tEqB)<|.g 8 false rfl 63 hS (fun _=>.pkt)<|.g 9 false rfl 64 hS (fun _=>.mvB)<|.sd (fun G64=>?_) (fun G64=>?_)
 ·
  refine .g 10 false rfl 65 hS (fun _=>.mvP)<|.o1 11<|.c' false rfl 66 .func (sHead_any (G:=((hbC 256).G (0+1) (0+(lvS 7 [lv1 7]).now.length))) (w:=lvC) (ok.n1).loc0) ?_;rintro _ η14 ⟨Fh1,rfl,q⟩;have ok:=(ok.n1).lift1 q;rw [show lvC.head.val=.agg #[.int .i64 lvC.head.size,.int .i64 (lvC.pgs.length:Int),.int .i64 lvC.head.free,.int .i64 lvC.head.many,.int .i64 lvC.head.cookie,.int .i64 lvC.head.version] from (by rw [←St.head_pages];rfl)];refine ⟨ok.n3.n3.n3.k3,?_⟩;have hS:=ok.n3.n3.n3.k3;refine .g 12 false rfl 67 hS (fun _=>.fd T.fd38_1 T.ag3)<|.g 13 false rfl 68 hS (fun _=>.eql)<|.g 14 false rfl 69 hS (fun _=>.pkt)<|.g 15 false rfl 70 hS (fun _=>.mvB)<|.sd (fun G70=>?_) (fun G70=>?_)
  ·
   refine .g 16 false rfl 71 hS (fun _=>.mvP)<|.o1 17<|.k false rfl 72 .func (sIn_any (G:=((hbC 256).G (0+1) (0+(lvS 7 [lv1 7]).now.length))) (F:=Fh1) (w:=lvC) ok.m0) hS<|.g 18 false rfl 73 hS (fun _=>.not)<|.g 19 false rfl 74 hS (fun _=>.pkt)<|.g 20 false rfl 0 hS (fun _=>.asB)<|.e ?_;refine .ret ⟨.bool (!lvC.in_),Res.one rfl rfl,⟨rfl,ok.chg⟩⟩
  exact absurd (show ((St.pgs lvC).length:Int)=2 from rfl) G70
 exact absurd rfl G64
def ask15 (n:Int):Bool:=decide ((0≤n∧n≤8)∨n=10)
theorem do15Nil_any {h:Heap} {dn no y1 y2 y3 y4 y5 y6:Int} {seed:Nat} (hs:seed<256) :
  HC Tryz.prog 39 #[.pointer none,.agg #[.int .i64 dn,.int .i64 no,.int .u8 (seed:Int),.int .i64 y1,.int .i64 y2,.int .i64 y3,.int .i64 y4,.int .i64 y5,.int .i64 y6]] h (fun v h'=>v=.int .i64 (if ask15 dn=true then 2 else 0)∧Ext h h'):=by
 have ok:=Hp.nil h none_;refine HC.go Tryz.func39 67 ?_;refine .seq<|.r<|.a' 3 (.bxA (cs:=[.int .i64 dn,.int .i64 no,.int .u8 (seed:Int),.int .i64 y1,.int .i64 y2,.int .i64 y3,.int .i64 y4,.int .i64 y5,.int .i64 y6]) ok) ?_;rintro _ η1 ⟨pb1,rfl,ok,xe⟩;refine .z .asI<|.nil ?_;refine .seq<|.seq<|.r<|.z (.fa T.fd68_0)<|.z (.ldx T.ag3 ok.m0)<|.nil ?_;refine .block fun K0 hK0=>.seq<|.r<|.z .eql<|.z .asB<|.nil ?_;refine .cd (fun C0=>?_) (fun C0=>?_)
 ·
  refine .seq<|.a 10 (fun fl hh=>Hp h none_ [boxI pb1 68 [.int .i64 dn,.int .i64 no,.int .u8 (seed:Int),.int .i64 y1,.int .i64 y2,.int .i64 y3,.int .i64 y4,.int .i64 y5,.int .i64 y6]] [] hh) mixed ?_;have hS:=ok;refine .g 0 false rfl 9 hS (fun _=>.mvP)<|.g 1 false rfl 10 hS (fun _=>.fa T.fd68_1)<|.lw 2 false rfl 11 hS (fun _ _ hS=>.ldx T.ag3 hS.m0)<|.g 3 false rfl 12 hS (fun _=>.mvP)<|.g 5 false rfl 14 hS (fun _=>.fa T.fd68_2)<|.lw 6 false rfl 15 hS (fun _ _ hS=>.ldx T.ag5 hS.m0)<|.o1 4<|.k false rfl 13 .func sSizeNil_any hS<|.o1 7<|.c' false rfl 16 .func (page15_any (z:=0) (seed:=seed) (by omega) (by omega)) ?_;rintro _ η2 own;obtain ⟨ya1,yc1,rfl⟩:=own.formB;have ok:=ok.own own;refine ⟨ok.n1.k1,?_⟩;have hS:=ok.n1.k1;refine .o1 8<|.k false rfl 17 .func sWriteNil_any hS<|.g 9 false rfl 4 hS (fun _=>.asI)<|.e ?_;refine .ret ⟨.int .i64 2,Res.one rfl rfl,⟨by rw [show ask15 dn=true from decide_eq_true (by omega)];rfl,ok.chg⟩⟩
 refine .seq<|.r<|.z .eql<|.z .asB<|.nil ?_;refine .cd (fun C1=>?_) (fun C1=>?_)
 ·
  refine .seq<|.r<|.z .mvP<|.z (.fa T.fd68_3)<|.z (.ldc (vs:=[.int .i64 y1,.int .i64 y2,.int .i64 y3,.int .i64 y4,.int .i64 y5,.int .i64 y6]) T.ag38 (at_part (o:=3) (n:=6) ok.m0) T.sz38)<|.c' 23 .func (sSetHeadNil_any (H:=(⟨y1,y2,y3,y4,y5,y6⟩:Hd))) ?_;rintro _ η3 ⟨rfl,hx⟩;have ok:=ok.ext hx;refine .z .asI<|.nil ?_;refine .ret ⟨.int .i64 2,Res.one rfl rfl,⟨by rw [show ask15 dn=true from decide_eq_true (by omega)];rfl,ok.chg⟩⟩
 refine .seq<|.r<|.z .eql<|.z .asB<|.nil ?_;refine .cd (fun C2=>?_) (fun C2=>?_)
 ·
  refine .seq<|.r<|.z .mvP<|.k 27 .func sBeginNil_any<|.z .asI<|.nil ?_;refine .ret ⟨.int .i64 2,Res.one rfl rfl,⟨by rw [show ask15 dn=true from decide_eq_true (by omega)];rfl,ok.chg⟩⟩
 refine .seq<|.r<|.z .eql<|.z .asB<|.nil ?_;refine .cd (fun C3=>?_) (fun C3=>?_)
 ·
  refine .seq<|.r<|.z .mvP<|.k 31 .func sCommitNil_any<|.z .asI<|.nil ?_;refine .ret ⟨.int .i64 2,Res.one rfl rfl,⟨by rw [show ask15 dn=true from decide_eq_true (by omega)];rfl,ok.chg⟩⟩
 refine .seq<|.r<|.z .eql<|.z .asB<|.nil ?_;refine .cd (fun C4=>?_) (fun C4=>?_)
 ·
  refine .seq<|.r<|.z .mvP<|.k 35 .func sRollbackNil_any<|.z .asI<|.nil ?_;refine .ret ⟨.int .i64 2,Res.one rfl rfl,⟨by rw [show ask15 dn=true from decide_eq_true (by omega)];rfl,ok.chg⟩⟩
 refine .seq<|.r<|.z .eql<|.z .asB<|.nil ?_;refine .cd (fun C5=>?_) (fun C5=>?_)
 ·
  refine .seq<|.r<|.z .mvP<|.k 39 .func sSaveNil_any<|.z .asI<|.nil ?_;refine .ret ⟨.int .i64 2,Res.one rfl rfl,⟨by rw [show ask15 dn=true from decide_eq_true (by omega)];rfl,ok.chg⟩⟩
 refine .seq<|.r<|.z .eql<|.z .asB<|.nil ?_;refine .cd (fun C6=>?_) (fun C6=>?_)
 ·
  refine .seq<|.r<|.z .mvP<|.z (.fa T.fd68_1)<|.z (.ldx T.ag3 ok.m0)<|.k 45 .func (sBackNil_any (n:=no))<|.z .asI<|.nil ?_;refine .ret ⟨.int .i64 2,Res.one rfl rfl,⟨by rw [show ask15 dn=true from decide_eq_true (by omega)];rfl,ok.chg⟩⟩
 refine .seq<|.r<|.z .eql<|.z .asB<|.nil ?_;refine .cd (fun C7=>?_) (fun C7=>?_)
 ·
  refine .seq<|.r<|.z .mvP<|.z (.fa T.fd68_1)<|.z (.ldx T.ag3 ok.m0)<|.k 51 .func (sReleaseNil_any (n:=no))<|.z .asI<|.nil ?_;refine .ret ⟨.int .i64 2,Res.one rfl rfl,⟨by rw [show ask15 dn=true from decide_eq_true (by omega)];rfl,ok.chg⟩⟩
 refine .seq<|.r<|.z .eql<|.z .asB<|.nil ?_;refine .cd (fun C8=>?_) (fun C8=>?_)
 ·
  refine .seq<|.r<|.z .mvP<|.k 55 .func sCheckpointNil_any<|.z .asI<|.nil ?_;refine .ret ⟨.int .i64 2,Res.one rfl rfl,⟨by rw [show ask15 dn=true from decide_eq_true (by omega)];rfl,ok.chg⟩⟩
 refine .seq<|.r<|.z .eql<|.z .asB<|.nil ?_;refine .cd (fun C9=>?_) (fun C9=>?_)
 ·
  refine .seq<|.a 8 (fun fl hh=>cond fl True (Hp h none_ [boxI pb1 68 [.int .i64 dn,.int .i64 no,.int .u8 (seed:Int),.int .i64 y1,.int .i64 y2,.int .i64 y3,.int .i64 y4,.int .i64 y5,.int .i64 y6]] [] hh)) mixed ?_;have hS:=ok;refine .g 0 false rfl 58 hS (fun _=>.mvP)<|.g 1 false rfl 59 hS (fun _=>.fa T.fd68_1)<|.l 2 false rfl 60 hS (fun _ hS=>.ldx T.ag3 hS.m0)<|.g 3 false rfl 61 hS (fun _=>.mvP)<|.o1 4<|.k false rfl 62 .func sSizeNil_any hS<|.g 5 false rfl 63 hS (fun _=>.sub)<|.g 6 false rfl 64 hS (fun _=>.max2)<|.o1 7<|.a' false rfl 65 (.mks 0 0 T.el44 T.sz5 T.by5 T.zr5 ok) ?_;rintro _ η4 ⟨pb2,rfl,ok,xe⟩;have ok:=ok.cx (ys:=(List.replicate 0 (0:UInt8)).map bv) (zeros8 _);refine ⟨ok.n1.k1,?_⟩;have hS:=ok.n1.k1;refine .o1 8<|.k true rfl 66 .func sWriteNil_any trivial<|.g 9 true rfl 4 trivial (fun _=>.asI)<|.e ?_;refine .ret ⟨.int .i64 2,Res.one rfl rfl,⟨by rw [show ask15 dn=true from decide_eq_true (by omega)];rfl,ok.chg⟩⟩
 refine .skip<|.end<|hK0 _ _<|.seq<|.r<|.z .asI<|.nil ?_;refine .ret ⟨.int .i64 0,Res.one rfl rfl,⟨by rw [show ask15 dn=false from decide_eq_false (by omega)];rfl,ok.chg⟩⟩
theorem sopnNo_any {h:Heap} {z c:Int} {ah:Bool} :
  HC Tryz.prog 36 #[.pointer none,.agg #[.int .i64 z,.bool ah,.int .i64 c]] h (fun v h'=>v=.tuple #[.pointer none,.int .i64 2]∧Ext h h'):=by
 have ok:=Hp.nil h none_;refine HC.go Tryz.func36 80 ?_;refine .seq<|.r<|.a' 3 (.bxA (cs:=[.int .i64 z,.bool ah,.int .i64 c]) ok) ?_;rintro _ η1 ⟨pb1,rfl,ok,xe⟩;refine .z .asP<|.z .asI<|.nil ?_;refine .seq<|.block fun K0 hK0=>.seq<|.r<|.z .mvP<|.z (.pEqN T.pt63)<|.z .asB<|.nil ?_;refine .ct<|.seq<|.r<|.z .asP<|.z .asI<|.nil ?_;refine .ret ⟨.tuple #[.pointer none,.int .i64 2],Res.two rfl rfl rfl,⟨rfl,ok.chg⟩⟩
theorem storeNobody_walk {h:Heap} {dn no y1 y2 y3 y4 y5 y6:Int} {seed:Nat} {z c:Int} {ah:Bool} (hs:seed<256) :
    HC Tryz.prog 10 #[.agg #[.int .i64 z,.bool ah,.int .i64 c],.agg #[.int .i64 dn,.int .i64 no,.int .u8 (seed:Int),.int .i64 y1,.int .i64 y2,.int .i64 y3,.int .i64 y4,.int .i64 y5,.int .i64 y6]] h (fun v h'=>v=.bool true∧Ext h h'):=by
  have ok:=Hp.nil h none_;refine HC.go Tryz.func10 81 ?_;refine .seq<|.r<|.a' 2 (.bxA (cs:=[.int .i64 z,.bool ah,.int .i64 c]) ok) ?_;rintro _ η1 ⟨pb1,rfl,ok,xe⟩;refine .a' 3 (.bxA (cs:=[.int .i64 dn,.int .i64 no,.int .u8 (seed:Int),.int .i64 y1,.int .i64 y2,.int .i64 y3,.int .i64 y4,.int .i64 y5,.int .i64 y6]) ok) ?_;rintro _ η2 ⟨pb2,rfl,ok,xe⟩;refine .z .asB<|.nil ?_;refine .seq<|.r<|.z .asP<|.nil ?_;refine .seq<|.r<|.z (.ldb T.ag23 ok.m1 T.sz23)<|.c' 13 .func (sopnNo_any (z:=z) (c:=c) (ah:=ah)) ?_;rintro _ η3 ⟨rfl,hx⟩;have ok:=ok.ext hx;refine .z .mvU<|.z .ex<|.z .ex<|.z .asP<|.z .asI<|.nil ?_;refine .seq<|.r<|.z .mvP<|.z (.fa T.fd68_1)<|.z (.ldx T.ag3 ok.m0)<|.k 20 .func sReadNil_any<|.z .mvU<|.z .ex<|.z .ex<|.z .asS<|.z .asI<|.nil ?_;refine .seq<|.seq<|.r<|.z .mvP<|.z (.pNeN T.pt27)<|.z .mvB<|.z .mvI<|.z .neq<|.z .pkf<|.z .mvB<|.z .mvS<|.z (.len T.el44)<|.z .neq<|.z .pkf<|.z .mvB<|.z .mvI<|.z .neq<|.z .pkf<|.nil ?_;refine .cf<|.skip<|.seq<|.r<|.z (.fa T.fd68_0)<|.z (.ldx T.ag3 ok.m0)<|.z .geq<|.z .mvB<|.sd (fun G41=>?_) (fun G41=>?_)
  ·
    refine .z (.fa T.fd68_0)<|.z (.ldx T.ag3 ok.m0)<|.z .leq<|.z .pkt<|.z .mvB<|.sd (fun G46=>?_) (fun G46=>?_)
    ·
      refine .y<|.y<|.y<|.z .pkt<|.z .asB<|.nil ?_;refine .seq<|.r<|.z .mvP<|.z (.ldb T.ag68 ok.m0 T.sz68)<|.c' 53 .func (do15Nil_any (dn:=dn) (no:=no) (seed:=seed) hs) ?_;rintro _ η4 ⟨rfl,hx⟩;have ok:=ok.ext hx;refine .z .eql<|.z .mvB<|.z (.bEq T.bo4)<|.z .mvB<|.spl (fun G57=>?_) (fun G57=>?_)
      ·
        refine .z .mvP<|.c' 59 .func sHeadNil_any ?_;rintro _ η5 ⟨rfl,hx⟩;have ok:=ok.ext hx;refine .z (.bd #[.int .i64 0,.int .i64 0,.int .i64 0,.int .i64 0,.int .i64 0,.int .i64 0] T.zr38 T.pl38 rfl)<|.z (.stE (k:=.i64) [0,0,0,0,0,0] [0,0,0,0,0,0] T.ste38 T.in3 T.ag3 T.stg38 T.stp38)<|.z .pkt<|.z .mvB<|.sd (fun G63=>?_) (fun G63=>?_)
        ·
          refine .z .mvP<|.k 65 .func sInNil_any<|.z .not<|.z .pkt<|.z .mvB<|.z .mvP<|.k 70 .func sSavesNil_any<|.z .eql<|.z .pkt<|.z .mvB<|.z .mvP<|.k 75 .func sSizeNil_any<|.z .eql<|.z .pkt<|.z .mvB<|.c' 79 .func live15_any ?_;rintro _ η6 ⟨rfl,hx⟩;have ok:=ok.ext hx;refine .z .pkt<|.z .asB<|.nil ?_;refine .ret ⟨.bool true,Res.one rfl rfl,⟨rfl,ok.chg⟩⟩
        exact absurd rfl G63
      exfalso;first
      | (rw [show ask15 dn=true from decide_eq_true (by omega)] at G57;revert G57;decide)
      | (rw [show ask15 dn=false from decide_eq_false (by omega)] at G57;revert G57;decide)
      | (by_cases h10:dn=10
         · rw [show ask15 dn=true from decide_eq_true (by omega)] at G57;simp [h10] at G57
         · rw [show ask15 dn=false from decide_eq_false (by omega)] at G57;simp [h10] at G57)
    refine .z (.fa T.fd68_0)<|.z (.ldx T.ag3 ok.m0)<|.z .eql<|.z .pkf<|.z .asB<|.nil ?_;refine .seq<|.r<|.z .mvP<|.z (.ldb T.ag68 ok.m0 T.sz68)<|.c' 53 .func (do15Nil_any (dn:=dn) (no:=no) (seed:=seed) hs) ?_;rintro _ η7 ⟨rfl,hx⟩;have ok:=ok.ext hx;refine .z .eql<|.z .mvB<|.z (.bEq T.bo4)<|.z .mvB<|.spl (fun G57=>?_) (fun G57=>?_)
    ·
      refine .z .mvP<|.c' 59 .func sHeadNil_any ?_;rintro _ η8 ⟨rfl,hx⟩;have ok:=ok.ext hx;refine .z (.bd #[.int .i64 0,.int .i64 0,.int .i64 0,.int .i64 0,.int .i64 0,.int .i64 0] T.zr38 T.pl38 rfl)<|.z (.stE (k:=.i64) [0,0,0,0,0,0] [0,0,0,0,0,0] T.ste38 T.in3 T.ag3 T.stg38 T.stp38)<|.z .pkt<|.z .mvB<|.sd (fun G63=>?_) (fun G63=>?_)
      ·
        refine .z .mvP<|.k 65 .func sInNil_any<|.z .not<|.z .pkt<|.z .mvB<|.z .mvP<|.k 70 .func sSavesNil_any<|.z .eql<|.z .pkt<|.z .mvB<|.z .mvP<|.k 75 .func sSizeNil_any<|.z .eql<|.z .pkt<|.z .mvB<|.c' 79 .func live15_any ?_;rintro _ η9 ⟨rfl,hx⟩;have ok:=ok.ext hx;refine .z .pkt<|.z .asB<|.nil ?_;refine .ret ⟨.bool true,Res.one rfl rfl,⟨rfl,ok.chg⟩⟩
      exact absurd rfl G63
    exfalso;first
    | (rw [show ask15 dn=true from decide_eq_true (by omega)] at G57;revert G57;decide)
    | (rw [show ask15 dn=false from decide_eq_false (by omega)] at G57;revert G57;decide)
    | (by_cases h10:dn=10
       · rw [show ask15 dn=true from decide_eq_true (by omega)] at G57;simp [h10] at G57
       · rw [show ask15 dn=false from decide_eq_false (by omega)] at G57;simp [h10] at G57)
  refine .y<|.y<|.y<|.z .pkf<|.z .mvB<|.z (.fa T.fd68_0)<|.z (.ldx T.ag3 ok.m0)<|.z .eql<|.z .pkf<|.z .asB<|.nil ?_;refine .seq<|.r<|.z .mvP<|.z (.ldb T.ag68 ok.m0 T.sz68)<|.c' 53 .func (do15Nil_any (dn:=dn) (no:=no) (seed:=seed) hs) ?_;rintro _ η10 ⟨rfl,hx⟩;have ok:=ok.ext hx;refine .z .eql<|.z .mvB<|.z (.bEq T.bo4)<|.z .mvB<|.spl (fun G57=>?_) (fun G57=>?_)
  ·
    refine .z .mvP<|.c' 59 .func sHeadNil_any ?_;rintro _ η11 ⟨rfl,hx⟩;have ok:=ok.ext hx;refine .z (.bd #[.int .i64 0,.int .i64 0,.int .i64 0,.int .i64 0,.int .i64 0,.int .i64 0] T.zr38 T.pl38 rfl)<|.z (.stE (k:=.i64) [0,0,0,0,0,0] [0,0,0,0,0,0] T.ste38 T.in3 T.ag3 T.stg38 T.stp38)<|.z .pkt<|.z .mvB<|.sd (fun G63=>?_) (fun G63=>?_)
    ·
      refine .z .mvP<|.k 65 .func sInNil_any<|.z .not<|.z .pkt<|.z .mvB<|.z .mvP<|.k 70 .func sSavesNil_any<|.z .eql<|.z .pkt<|.z .mvB<|.z .mvP<|.k 75 .func sSizeNil_any<|.z .eql<|.z .pkt<|.z .mvB<|.c' 79 .func live15_any ?_;rintro _ η12 ⟨rfl,hx⟩;have ok:=ok.ext hx;refine .z .pkt<|.z .asB<|.nil ?_;refine .ret ⟨.bool true,Res.one rfl rfl,⟨rfl,ok.chg⟩⟩
    exact absurd rfl G63
  exfalso;first
  | (rw [show ask15 dn=true from decide_eq_true (by omega)] at G57;revert G57;decide)
  | (rw [show ask15 dn=false from decide_eq_false (by omega)] at G57;revert G57;decide)
  | (by_cases h10:dn=10
     · rw [show ask15 dn=true from decide_eq_true (by omega)] at G57;simp [h10] at G57
     · rw [show ask15 dn=false from decide_eq_false (by omega)] at G57;simp [h10] at G57)
end Go.Proofs.YtndlpekckpdncaaGreat
namespace Go.HL
open Go Go.RowKit Go.ChangeShapes Go.WideShapes Go.ChangeAt
theorem Below.of {w w':World} {h':Heap} (a:At (Env.of w) h' w') (x:Ext w.heap h'):Below w.heap.size w w':=
 ⟨a.os,a.tape,a.output,by rw [a.heap];exact x.size,fun k hk=>by rw [a.heap];exact x.same k hk fun f=>f⟩
theorem trodAll_below {H:Type} {enc:TypeId × Value→H} {P:Program} (hl:laidOutB P=true) {W W':World} (hb:Below W.heap.size W W'):∀ {ts:List TypeId} {vs:List Value} {ds:List (DataW H)} {ps:List MemPlace},
  (ts.all fun t=>P.readableRec t && decide (t<P.types.size))=true→(∀x∈ps,x.block<W.heap.size)→DataW.TrodAll enc P W 0 (fun _=>true) true ts vs ds ps→DataW.TrodAll enc P W' 0 (fun b=>decide (b<W.heap.size)) true ts vs ds ps
 | [],[],[],_,_,_,h=>h
 | t::ts,v::vs,d::ds,ps,ht,hp,h=>by
  obtain ⟨p,q,h1,h2,rfl⟩:=h;simp only [List.all_cons,Bool.and_eq_true,decide_eq_true_eq] at ht;exact ⟨p,q,RowKit.Below.trod hl ht.1.1 ht.1.2 h1 hb (fun x hx=>hp x (List.mem_append_left _ hx)),trodAll_below hl hb (by simpa using ht.2) (fun x hx=>hp x (List.mem_append_right _ hx)) h2,rfl⟩
 | [],[],_::_,_,_,_,h=>h.elim
 | [],_::_,_,_,_,_,h=>h.elim
 | _::_,[],_,_,_,_,h=>h.elim
 | _::_,_::_,[],_,_,_,h=>h.elim
theorem law_post {H:Type} {enc:TypeId × Value→H} {P:Program} {f:Func} {s:ChangeSpec} {fresh handsOn:Bool} {W W':World} {args:Array Value} {ds gs:List (DataW H)} {before:List MemPlace} {tb:TypeId}
  (hl:laidOutB P=true) (hW:DataW.Whole enc P f.params.toList s.vars false W args.toList ds gs before) (hv:s.vars=[]) (ht:(f.params.toList.all fun t=>P.readableRec t && decide (t<P.types.size))=true)
  (hr:f.resultTypes = #[tb]) (hb:P.underlying tb=some .bool) (hs:s.fn H ds = { results:=[.lit (.bool true)],args:=ds }) {h':Heap} (a:At (Env.of W) h' W') (x:Ext W.heap h') :
  s.post enc P f false fresh handsOn false W args (.bool true) W':=by
 have bel:=Below.of a x;have hlt:=hW.lt;obtain ⟨p,q,hA,hV,rfl,hfz,hnd⟩:=hW;rw [hv] at hV;cases gs with
 | cons g gs=>exact hV.elim
 | nil=>
  have hq:q=[]:=hV;subst hq;rw [List.append_nil] at *;refine ⟨ds,[],p,[],p,[],⟨p,[],hA,by rw [hv];rfl,by simp,hfz,hnd⟩,?_,?_,?_,bel.frame _,fun h=>by cases h⟩
  ·rw [List.append_nil,hs,hr];exact trodAll_mk1 (shut_bool hb _)
  ·rw [List.append_nil,hs];exact trodAll_below hl bel ht (fun x hx=>hlt x (by simpa using hx)) hA
  ·rw [List.append_nil,hs,hv];rfl
theorem byte_val {z:Int} (w:(Lit.int .u8 z).wf=true):∃x:UInt8,z=(x.toNat:Int):=by
 have hr:0≤z∧z≤255:=by simpa [Lit.wf,IntKind.min,IntKind.max,IntKind.signed,IntKind.bits] using w
 refine ⟨UInt8.ofNat z.toNat,?_⟩;simp;omega
structure Opn (P:Program) (t:TypeId) {α:Type} (R:Heap→List Value→α→Prop):Prop where
 run:∀ {H:Type} {enc:TypeId × Value→H} {w:World} {sp:Nat→Bool} {held:Bool} {fuel:Nat} {cs:List Value} {x:DataW H × List MemPlace},DataW.trod enc P w 0 sp held fuel t cs=some x→∃a,R w.heap cs a
section
variable {P:Program} {t e:TypeId}
theorem Opn.i64 (ht:P.underlying t=some (.int .i64)):Opn P t (fun _ cs (z:Int)=>cs=[.int .i64 z]∧-9223372036854775808≤z∧z≤9223372036854775807):=⟨fun hx=>by
 obtain ⟨n,rfl,_,hw⟩:=DataW.trod_int ht hx;exact ⟨n,rfl,by simpa [Lit.wf,IntKind.min,IntKind.max,IntKind.signed,IntKind.bits] using hw⟩⟩
theorem Opn.u8 (ht:P.underlying t=some (.int .u8)):Opn P t (fun _ cs (x:UInt8)=>cs=[bv x]):=⟨fun hx=>by
 obtain ⟨n,rfl,_,hw⟩:=DataW.trod_int ht hx;obtain ⟨x,rfl⟩:=byte_val hw;exact ⟨x,rfl⟩⟩
theorem Opn.bool (ht:P.underlying t=some .bool):Opn P t (fun _ cs (b:Bool)=>cs=[.bool b]):=⟨fun hx=>by
 obtain ⟨b,rfl,_⟩:=DataW.trod_bool ht hx;exact ⟨b,rfl⟩⟩
theorem opn_struct {fs:Array Field} (ht:P.underlying t=some (.struct fs)) {H:Type} {enc:TypeId × Value→H} {w:World} {sp:Nat→Bool} {held:Bool} {fuel:Nat} {cs:List Value} {x:DataW H × List MemPlace} (hx:DataW.trod enc P w 0 sp held fuel t cs=some x) :
  cs.length=P.cellsOf t∧∀(i:Nat) (f:Field),fs[i]? = some f→∃n y,DataW.trod enc P w 0 sp held n f.type ((cs.drop f.offset).take (P.cellsOf f.type))=some y:=by
 obtain ⟨xs,n,_,_,h1,h2,h3⟩:=DataW.trod_struct ht hx;refine ⟨h1,fun i f hf=>?_⟩;have hi:i<xs.length:=by have:=(Array.getElem?_eq_some_iff.1 hf).1;omega
 exact ⟨n,xs[i],by rw [h3 i f hf];simp⟩
theorem opn_field {i off ft k:Nat} (hf:fdB P t i=some (off,ft,k)) {H:Type} {enc:TypeId × Value→H} {w:World} {sp:Nat→Bool} {held:Bool} {fuel:Nat} {cs:List Value} {x:DataW H × List MemPlace} (hx:DataW.trod enc P w 0 sp held fuel t cs=some x)
  {α:Type} {R:Heap→List Value→α→Prop} (o:Opn P ft R):∃a,R w.heap ((cs.drop off).take k) a:=by
 obtain ⟨fs,fd,inf,ht,hfi,rfl,rfl,h3,h4⟩:=fdB_iff hf;obtain ⟨n,y,h2⟩:=(opn_struct ht hx).2 i fd hfi;have:P.cellsOf fd.type=k:=by simp [Program.cellsOf,h3,h4]
 rw [this] at h2;exact o.run h2
theorem Opn.arg {α:Type} {R:Heap→List Value→α→Prop} (o:Opn P t R) {H:Type} {enc:TypeId × Value→H} {w:World} {sp:Nat→Bool} {held:Bool} {v:Value} {d:DataW H} {ps:List MemPlace} (h:DataW.Trod enc P w 0 sp held t v d ps):∃a,R w.heap v.cells.toList a:=
 let ⟨_,hf⟩:=h;o.run hf
end
end Go.HL
namespace Go.Proofs.YtndlpekckpdncaaGreat
open Go Go.HL
theorem lenC3 {l:List Value} (h:l.length=3):∃a b c,l=[a,b,c]:=by
 match l,h with
 | [a,b,c],_=>exact ⟨a,b,c,rfl⟩
theorem lenC6 {l:List Value} (h:l.length=6):∃a b c d e f,l=[a,b,c,d,e,f]:=by
 match l,h with
 | [a,b,c,d,e,f],_=>exact ⟨a,b,c,d,e,f,rfl⟩
theorem lenC9 {l:List Value} (h:l.length=9):∃a b c d e f g i j,l=[a,b,c,d,e,f,g,i,j]:=by
 match l,h with
 | [a,b,c,d,e,f,g,i,j],_=>exact ⟨a,b,c,d,e,f,g,i,j,rfl⟩
theorem opn_mode:Opn Tryz.prog 23 (fun _ cs (m:Int × Bool × Int)=>cs=[.int .i64 m.1,.bool m.2.1,.int .i64 m.2.2]∧i64N m.1∧i64N m.2.2):=⟨fun hx=>by
 have hl:=(opn_struct Tryz.underlying23 hx).1;have f0:=opn_field T.fd23_0 hx (Opn.i64 Tryz.underlying3);have f1:=opn_field T.fd23_1 hx (Opn.bool Tryz.underlying4);have f2:=opn_field T.fd23_2 hx (Opn.i64 Tryz.underlying3);obtain ⟨c0,c1,c2,rfl⟩:=lenC3 (hl.trans (by kernel_rfl:_=3));obtain ⟨p,h0,hp⟩:=f0;obtain ⟨q,h1⟩:=f1;obtain ⟨b,h2,hb⟩:=f2;simp at h0 h1 h2;subst h0 h1 h2;exact ⟨(p,q,b),rfl,hp,hb⟩⟩
def Hd.cells (H:Hd):List Value:=[.int .i64 H.size,.int .i64 H.pages,.int .i64 H.free,.int .i64 H.many,.int .i64 H.cookie,.int .i64 H.version]
theorem opn_head:Opn Tryz.prog 38 (fun _ cs (H:Hd)=>cs=H.cells∧HdIn H):=⟨fun hx=>by
 have hl:=(opn_struct Tryz.underlying38 hx).1;have f0:=opn_field T.fd38_0 hx (Opn.i64 Tryz.underlying3);have f1:=opn_field T.fd38_1 hx (Opn.i64 Tryz.underlying3);have f2:=opn_field T.fd38_2 hx (Opn.i64 Tryz.underlying3);have f3:=opn_field T.fd38_3 hx (Opn.i64 Tryz.underlying3);have f4:=opn_field T.fd38_4 hx (Opn.i64 Tryz.underlying3);have f5:=opn_field T.fd38_5 hx (Opn.i64 Tryz.underlying3);obtain ⟨c0,c1,c2,c3,c4,c5,rfl⟩:=lenC6 (hl.trans (by kernel_rfl:_=6));obtain ⟨x0,h0,b0⟩:=f0;obtain ⟨x1,h1,b1⟩:=f1;obtain ⟨x2,h2,b2⟩:=f2;obtain ⟨x3,h3,b3⟩:=f3;obtain ⟨x4,h4,b4⟩:=f4;obtain ⟨x5,h5,b5⟩:=f5;simp at h0 h1 h2 h3 h4 h5;subst h0 h1 h2 h3 h4 h5;exact ⟨⟨x0,x1,x2,x3,x4,x5⟩,rfl,b0,b1,b2,b3,b4,b5⟩⟩
structure DeedR where
 dn:Int
 no:Int
 seed:UInt8
 H:Hd
def DeedR.cells (d:DeedR):List Value:=[.int .i64 d.dn,.int .i64 d.no,bv d.seed,.int .i64 d.H.size,.int .i64 d.H.pages,.int .i64 d.H.free,.int .i64 d.H.many,.int .i64 d.H.cookie,.int .i64 d.H.version]
theorem opn_deed:Opn Tryz.prog 68 (fun _ cs (d:DeedR)=>cs=d.cells∧i64N d.dn∧i64N d.no∧HdIn d.H):=⟨fun hx=>by
 have hl:=(opn_struct Tryz.underlying68 hx).1;have f0:=opn_field T.fd68_0 hx (Opn.i64 Tryz.underlying3);have f1:=opn_field T.fd68_1 hx (Opn.i64 Tryz.underlying3);have f2:=opn_field T.fd68_2 hx (Opn.u8 Tryz.underlying5);have f3:=opn_field T.fd68_3 hx opn_head;obtain ⟨c0,c1,c2,c3,c4,c5,c6,c7,c8,rfl⟩:=lenC9 (hl.trans (by kernel_rfl:_=9));obtain ⟨x0,h0,b0⟩:=f0;obtain ⟨x1,h1,b1⟩:=f1;obtain ⟨x2,h2⟩:=f2;obtain ⟨H,h3,b3⟩:=f3;simp [Hd.cells] at h0 h1 h2 h3;obtain ⟨rfl,rfl,rfl,rfl,rfl,rfl⟩:=h3;subst h0 h1 h2;exact ⟨⟨x0,x1,x2,H⟩,rfl,b0,b1,b3⟩⟩
theorem storeNobody_row {h:Heap} {m:Int × Bool × Int} {d:DeedR} : HC Tryz.prog 10 #[.agg #[.int .i64 m.1,.bool m.2.1,.int .i64 m.2.2],.agg #[.int .i64 d.dn,.int .i64 d.no,bv d.seed,.int .i64 d.H.size,.int .i64 d.H.pages,.int .i64 d.H.free,.int .i64 d.H.many,.int .i64 d.H.cookie,.int .i64 d.H.version]] h (fun v h'=>v=.bool true∧Ext h h'):=
 storeNobody_walk d.seed.toNat_lt
end Go.Proofs.YtndlpekckpdncaaGreat
