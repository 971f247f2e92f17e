/- A small logic of heaps and slots over the model: what a call leaves, told by a relation; the rules of code and of regions. Conditions: none. What each operation of the model yields, as rules of the logic. Conditions: those that each rule names. The operations that make or turn memory, as rules of the logic. Conditions: those that each rule names. The rules of the logic in few words: code as a list of what is still to run. Conditions: those that each rule names. Memory as a list of separate items that may turn, and a list of items that are read alone. Conditions: those that each fact names. Closed facts on the types of this translation, written by a program of this claim; each is decided by the kernel. Sums of bytes: sum.table, Sum, Next, foot, Seal, and the document's. Conditions: the slices are readable. Logs in plain terms: heads, frames, links, and how a log is scanned. Conditions: those that each fact names. A disk as one item that is told in plain terms alone; its calls so. Conditions: those that each fact names. The calls of the pager that keeps a journal, told in plain terms alone. Conditions: the pager with its disk is one item, and few changes were made. The document's pager: Resize, Unlike, Commit; Same of pages. Conditions: the state is readable, and small. The document's pager of layer 13: its calls; Same of pages. Conditions: the state is readable, and small. A call of the laws keeps the two pagers alike, in plain terms, or the power goes; little pagers stay little. Conditions: those that each fact names. All pages of a pager that keeps a journal. Conditions: it is in order, and there is power. The law BackRooms: with any room the same calls answer the same, and leave the same file. Conditions: the calls are readable. The law BackRooms at arguments as they come in. Conditions: they are readable. Arrays of bytes that come in as arguments. Conditions: those that each fact names. The law BackRooms returns true at every input and leaves its arguments as they were. Conditions: none. -/
import Derived.Test.YtpeaicddbnghfaaGreatPkB9
import Derived.WalkKit
import Derived.Deep.Quiet
import Derived.OrdersHeld
import Derived.StillTail
import Derived.Test.YtpeaicddbnghfaaGreatProg
import Derived.OpenShut
import Derived.Test.YtpeaicddbnghfaaGreatRows
set_option maxRecDepth 100000
set_option maxHeartbeats 2000000
set_option linter.all false
namespace Go.HL
open Go
section any
variable {P:Program} {n:Nat} {ops:Array Oper} {o:Oper} {bar:Nat} {S:Bool→Heap→Prop} {K:Slots→Heap→Prop} {fuel:Nat} {listed:Array Bool} {s:Slots} {h:Heap}
theorem HA.two (i j:Nat) (hr:Region.ready .any ops listed=[i,j]) (hi:Up P n ops bar S K fuel listed i s h) (hj:Up P n ops bar S K fuel listed j s h):HA P n ops bar S K (fuel+1) listed s h:=
 fun E a w r at'=>all_of hr (by simp) fun k hk=>by
  rcases List.mem_cons.1 hk with rfl | hk
  ·exact hi E a w r at'
  ·rw [List.mem_singleton] at hk;subst hk;exact hj E a w r at'
end any
open Go
def boB (P:Program) (t:TypeId):Bool:=match P.underlying t with | some .bool=>true | _=>false
theorem boB_iff {P:Program} {t:TypeId} (h:boB P t=true):P.underlying t=some .bool:=by
 unfold boB at h;split at h<;>simp_all
namespace V
variable {P:Program} {s:Slots} {h:Heap} {d:Option Tmp} {ty:TypeId} {pos:String} {af:Array Edge} {g:Option (Nat × Bool)} {x y c:Operand} {t u:TypeId}
theorem eqGB {op:BinOp} {a b:Bool} {w:World} : (eqGuard op t x y (.bool a) (.bool b)).run P w=.ok () w:=by
 unfold eqGuard;cases op<;>simp
theorem equal_bo {a b:Bool} (ht:boB P t=true) (w:World):(Op.equal t (.bool a) (.bool b)).run P w=.ok (a == b) w:=run_equal_bool w t a b (boB_iff ht)
theorem boNeq {a b r:Bool} (hx:ev s x=.bool a) (hy:ev s y=.bool b) (ht:boB P t=true) (hr:(a != b)=r):OpV P ⟨d,.binOp .neq t x y u,ty,pos,af,g⟩ s h (.bool r):=fun w _=>by
 subst hr;simp [execOp,hx,hy,eqGB,binOp,equal_bo ht,bne]
end V
open Go
section any
variable {P:Program} {n:Nat} {ops:Array Oper} {o:Oper} {bar:Nat} {S:Bool→Heap→Prop} {K:Slots→Heap→Prop} {fuel:Nat} {listed:Array Bool} {s:Slots} {h:Heap}
theorem HA.o2 (i j:Nat) (hi:Up P n ops bar S K fuel listed i s h) (hj:Up P n ops bar S K fuel listed j s h) (hr:Region.ready .any ops listed=[i,j]:=by kernel_rfl):HA P n ops bar S K (fuel+1) listed s h:=HA.two i j hr hi hj
variable {i:Nat}
end any
namespace OpV
variable {P:Program} {s:Slots} {h:Heap} {d:Option Tmp} {ty:TypeId} {pos:String} {af:Array Edge} {g:Option (Nat × Bool)} {x y c:Operand} {t u:TypeId}
theorem bNe {a b:Bool} (ht:boB P t=true) (hx:ev s x=.bool a:=by exact rfl) (hy:ev s y=.bool b:=by exact rfl):OpV P ⟨d,.binOp .neq t x y u,ty,pos,af,g⟩ s h (.bool (a != b)):=V.boNeq hx hy ht rfl
end OpV
open Go
section
variable {h0 h:Heap} {D:Nat→Prop} {M R:List Itm} {q0 q1 q2 q3 q4 q5 q6 q7 q8 q9:Itm}
theorem Hp.f4 (ok:Hp h0 D M (q0::q1::q2::q3::q4::R) h):Hp h0 D M (q4::q0::q1::q2::q3::R) h:=ok.sub (by simp;grind)
end
end Go.HL
namespace Go.Proofs.YtpeaicddbnghfaaGreat
open Go Go.HL
namespace T
theorem bo4:boB Go.Proofs.Tryz.prog 4=true:=by kernel_rfl
theorem ag7:agB Go.Proofs.Tryz.prog 7=some true:=by kernel_rfl
theorem ag8:agB Go.Proofs.Tryz.prog 8=some true:=by kernel_rfl
theorem ag9:agB Go.Proofs.Tryz.prog 9=some false:=by kernel_rfl
theorem ag10:agB Go.Proofs.Tryz.prog 10=some false:=by kernel_rfl
theorem ar61:arB Go.Proofs.Tryz.prog 61=some (3,5):=by kernel_rfl
end T
open Go Go.HL
def nextB (p:Nat) (x:UInt8):Nat:=(p ^^^ x.toNat)*1099511628211%18446744073709551616
def nextN (p:Nat) (l:List UInt8):Nat:=l.foldl nextB p
def okF (f:Fr):Bool:=decide (1≤f.page∧f.page≤1048576∧0≤f.commit∧f.commit≤1048576) && okSz f.b.length
def linkN (p:Nat) (f:Fr):Nat:=nextN p (fixedN f.page.toNat 4++fixedN f.commit.toNat 4++f.b)
structure Sc where
 pos:Nat
 prev:Nat
 all:List Fr
 l:List Fr
 sure:Nat
 fin:Nat
def rawF (b:List UInt8) (size pos:Nat):Fr:=⟨rdN b pos 4,rdN b (pos+4) 4,(b.drop (pos+16)).take size⟩
def fits (b:List UInt8) (size pos prev:Nat):Prop:=pos+16+size≤b.length∧okF (rawF b size pos)=true∧linkN prev (rawF b size pos)=rdN b (pos+8) 8
def stepF (size:Nat) (s:Sc) (f:Fr):Sc:=
 let p:=linkN s.prev f
 if f.commit≠0 then ⟨s.pos+16+size,p,s.all++[f],s.all++[f],p,s.pos+16+size⟩ else ⟨s.pos+16+size,p,s.all++[f],s.l,s.sure,s.fin⟩
inductive Reach (b:List UInt8) (size:Nat):Sc→Sc→Prop
 | refl (s):Reach b size s s
 | step {s s'} : Reach b size s s'→fits b size s'.pos s'.prev→Reach b size s (stepF size s' (rawF b size s'.pos))
section
variable {h h':Heap} {d p:Nat} {F G E E':Nat→Prop} {D:Dk} {r r':RD}
section
variable {n:List UInt8} {z y:Int} {a:Option Addr} {c:Nat} {l:List UInt8} {F2 E2:Nat→Prop}
theorem dgread_any (ok:Hp h F [dgI d F D] [] h) (hk:DkOk D) (hy : -9223372036854775808≤y∧y≤9223372036854775807) (hz : -9223372036854775808≤z∧z≤9223372036854775807) :
  HC Tryz.prog 23 #[.pointer (some ⟨d,0,none⟩),.string (BA n),.int .i64 y,.int .i64 z] h (fun v h'=>∃w,v=.tuple #[w,.int .i64 ((readN D n y z).2:Int)]∧Own h h' 1 5 w ((readN D n y z).1.map bv)):=by
 obtain ⟨r,E,rfl,o,hf,he⟩:=dg_open ok;exact read_anyD o.rdo hk hy hz
end
end
open Go Go.HL
section
variable {h h':Heap} {d p:Nat} {F:Nat→Prop} {A:Bk}
theorem gbPages_any (ok:(bgI p d F A).p h) :
  HC Tryz.prog 32 #[.pointer (some ⟨p,0,none⟩)] h (fun v h'=>v=.int .i64 ((if A.broken=true then 0 else presB A:Nat):Int)∧h'=h):=by
 obtain ⟨r,ha,hb⟩:=bg_box ok;have:=bPages_any hb;rw [show r.broken=A.broken from congrArg Bk.broken ha,show presK r=presB A from congrArg presB ha] at this;exact this
end
open Go Go.HL
theorem pgs_get {l:List RB} {i:Nat} : (pgs l)[i]? = l[i]?.map RB.l:=List.getElem?_map
theorem qsame_any {h:Heap} {E E':Nat→Prop} {xa ya:Option Addr} {xc yc:Nat} {xl yl:List RB} (hx:PgB h E (xa,xl.length,xc) xl) (hy:PgB h E' (ya,yl.length,yc) yl) :
  HC Tryz.prog 35 #[.slice xa xl.length xc,.slice ya yl.length yc] h (fun v h'=>v=.bool (decide (pgs xl=pgs yl))∧Ext h h'):=by
 have hxm:=hx.m;have hym:=hy.m;have ok:=((Hp.nil h none_).old (pgwI (fun j=>E' j∧j<h.size) (ya,yl.length,yc) yl) (hy.lt (by decide)) (fun j hj=>hj.2)).old (pgwI (fun j=>E j∧j<h.size) (xa,xl.length,xc) xl) (hx.lt (by decide)) (fun j hj=>hj.2);refine HC.go Tryz.func35 27 ?_;refine .seq<|.r<|.z .asB<|.nil ?_;refine .seq<|.seq<|.r<|.z .mvS<|.z (.len T.el26)<|.z .mvS<|.z (.len T.el26)<|.z .neq<|.nil ?_;refine .cd (fun C0=>?_) (fun C0=>?_)
 ·
  refine .seq<|.r<|.z .asB<|.nil ?_;refine .ret ⟨.bool false,Res.one rfl rfl,⟨by rw [decide_eq_false];intro e;have:=congrArg List.length e;rw [pgs_len,pgs_len] at this;omega,ok.chg⟩⟩
 refine .skip<|.seq<|.seq<|.r<|.z .asI<|.nil ?_;refine .block fun K0 hK0=>.loop (fun m s hh=>∃(i:Nat),Has s [(0,.slice xa xl.length xc),(1,.slice ya yl.length yc),(5,.int .i64 (i:Int))]∧Hp h none_ [] [pgwI (fun j=>E j∧j<h.size) (xa,xl.length,xc) xl,pgwI (fun j=>E' j∧j<h.size) (ya,yl.length,yc) yl] hh∧i≤xl.length∧(pgs xl).take i=(pgs yl).take i∧m=xl.length-i) ?_ ?_
 ·exact ⟨_,0,⟨rfl,rfl,rfl,trivial⟩,ok,Nat.zero_le _,rfl,rfl⟩
 rintro _ _ η1 ⟨i,hs,ok,hi,htk,rfl⟩ J0 hJ0;refine .frame hs fun τ=>?_;refine .seq<|.seq<|.r<|.z .mvI<|.z .mvS<|.z (.len T.el26)<|.z .lss<|.nil ?_;refine .cdr (fun C1=>?_) (fun C1=>?_)
 ·
  have hie:i=xl.length:=by omega
  have hie2:i=yl.length:=by omega
  refine .exit<|hK0 _ _<|.seq<|.r<|.z .asB<|.nil ?_;refine .ret ⟨.bool true,Res.one rfl rfl,⟨by rw [decide_eq_true];rw [←List.take_length (l:=pgs xl),←List.take_length (l:=pgs yl),pgs_len,pgs_len,←hie,←hie2];exact htk,ok.chg⟩⟩
 have hiX:i<xl.length:=by omega
 have hiY:i<yl.length:=by omega
 refine .skip<|.seq<|.block fun K1 hK1=>.seq<|.q (hm:=mixed)<|.z .mvS<|.z .mvI<|?_;obtain ⟨bb1,oo1,rfl,fb1⟩:=ok.r0.pos (by omega);refine .z (.ix1 i T.el26 T.sz22)<|?_;have ok:=ok.d0 (rdI (fun j=>E j∧j<h.size) (fun j=>E j∧j<h.size) (xl[i].a,xl[i].l.length,xl[i].c) xl[i].l) ((ok.r0).by' _ (List.getElem_mem hiX)) (fun _ h=>h.elim id id);refine .z (.ld T.ag22 (sl_at1 RB.cells_len (ok.r1).sl (i:=i) (by omega) rfl))<|.z .mvS<|.z .mvI<|?_;obtain ⟨bb2,oo2,rfl,fb2⟩:=ok.r2.pos (by omega);refine .z (.ix1 i T.el26 T.sz22)<|?_;have ok:=ok.d2 (rdI (fun j=>E' j∧j<h.size) (fun j=>E' j∧j<h.size) (yl[i].a,yl[i].l.length,yl[i].c) yl[i].l) ((ok.r2).by' _ (List.getElem_mem hiY)) (fun _ h=>h.elim id id);refine .z (.ld T.ag22 (sl_at1 RB.cells_len (ok.r3).sl (i:=i) (by omega) rfl))<|.k 25 .func (same_any (a:=xl[i].a) (c:=xl[i].c) (l:=xl[i].l) (b:=yl[i].a) (d:=yl[i].c) (l2:=yl[i].l) ok.r1 ok.r0)<|.z .notd<|.nil ?_;refine .cd (fun C2=>?_) (fun C2=>?_)
 ·
  refine .seq<|.r<|.z .asB<|.nil ?_;refine .ret ⟨.bool false,Res.one rfl rfl,⟨by rw [decide_eq_false];intro e;have h3:(pgs xl)[i]? = (pgs yl)[i]?:=(by rw [e]);rw [pgs_get,pgs_get,List.getElem?_eq_getElem hiX,List.getElem?_eq_getElem hiY] at h3;simp only [Option.map_some,Option.some.injEq] at h3;exact C2 h3,ok.chg⟩⟩
 refine .skip<|.end<|hK1 _ _<|.r<|.z .mvI<|.z (.addI (b:=1))<|.z .asI<|.nil ?_;refine .end<|hJ0 _ _ _ ⟨i+1,⟨rfl,rfl,rfl,trivial⟩,ok.tR.tR,by omega,by rw [List.take_succ_eq_append_getElem (by rw [pgs_len];omega),List.take_succ_eq_append_getElem (by rw [pgs_len];omega),htk,pgs_at hiX,pgs_at hiY,show xl[i].l=yl[i].l by simpa using C2],rfl⟩ (by omega)
section
variable {A:Bk} {w:WPg} {x:PO6} (R:RelB A w)
include R
theorem RelB.step0 (hl:A.dk.left<0):told13 A w x∧RelB (stepB A w.z x).1 (stepQ w x).1∧(stepB A w.z x).1.dk.left<0:=by
 rcases R.step (x:=x) with ⟨h1,h2,h3⟩ | ⟨_,h | h⟩
 ·exact ⟨h1,h2,h3 hl⟩
 ·have:=h.left;omega
 ·have:=h.2.2.left;omega
theorem RelB.read_in (hl:A.dk.left<0) {k:Nat} (hk:k<w.pages.length):(readB A ((k:Int)+1)).2=(w.pages.getD k [],0)∧RelB (readB A ((k:Int)+1)).1 w∧(readB A ((k:Int)+1)).1.dk.left<0:=by
 rcases R.read (no:=(k:Int)+1) with ⟨h1,h2,h3⟩ | ⟨_,h⟩
 ·refine ⟨?_,h2,h3 hl⟩;rw [h1,readP_2 (by rintro (h | h)<;>omega)];congr 2;omega
 ·have:=h.left;omega
end
end Go.Proofs.YtpeaicddbnghfaaGreat
namespace Go.HL
open Go Go.Proofs.YtpeaicddbnghfaaGreat
theorem Hp.owned {h0 h:Heap} {D:Nat→Prop} {M R:List Itm} {a:Itm} (ok:Hp h0 D (a::M) R h):∀j,a.F j→D j∨h0.size≤j:=fun j hj=>((ok.m a List.mem_cons_self).2 j hj).2
theorem Hp.pgFrz {h0 h:Heap} {D Eo:Nat→Prop} {M R:List Itm} {e:TypeId} {a:Option Addr} {c:Nat} {l:List RB} (ok:Hp h0 D (capI 1 e (a,l.length,c) (l.flatMap RB.cells)::M) (pbyI Eo l::R) h):Hp h0 D M (pgwI (fun j=>blkC (sv (a,l.length,c)) j∨Eo j) (a,l.length,c) l::R) h:=by
 have o:=ok.frz;have o2:=o.or (r:=capI 1 e (a,l.length,c) (l.flatMap RB.cells)) (r':=pbyI Eo l) (by simp) (by simp) (pgwI (fun j=>blkC (sv (a,l.length,c)) j∨Eo j) (a,l.length,c) l) (PgB.of o.r0 o.r1 (fun j h=>.inl h) (fun j h=>.inr h)) (fun j h=>h);exact o2.sub (by simp;intro a h;exact .inr (.inr (.inr h)))
theorem Hp.liftR {h0 h h':Heap} {D:Nat→Prop} {M R:List Itm} {a a' x:Itm} (ok:Hp h0 D (a::M) R h) (q:Hp h a.F [a'] [x] h') (hx:∀j,x.F j→a.F j∨h.size≤j):Hp h0 D (a'::M) (x::R) h':=by
 have o:=ok.upd q.chg (fun _ x=>x) a' q.m0 fun j hj=>by
  have h1:=(q.m _ List.mem_cons_self).2 j hj;exact h1.2.imp id fun h=>⟨h,h1.1⟩
 refine ⟨o.chg,o.m,fun i hi=>?_,o.mm,fun m hm z hz j hj hj2=>?_⟩
 ·rcases List.mem_cons.1 hi with rfl | hi
  ·exact q.r _ (by simp)
  ·exact o.r i hi
 ·rcases List.mem_cons.1 hz with rfl | hz
  ·rcases List.mem_cons.1 hm with rfl | hm
   ·exact q.mr _ (by simp) _ (by simp) j hj hj2
   ·rcases hx j hj2 with h1 | h1
    ·exact (List.pairwise_cons.1 ok.mm).1 m hm j h1 hj
    ·have:=((ok.m m (List.mem_cons_of_mem _ hm)).2 j hj).1;omega
  ·exact o.mr m hm z hz j hj hj2
end Go.HL
namespace Go.Proofs.YtpeaicddbnghfaaGreat
open Go Go.HL
theorem pg_all {α:Type} {l:List α} {k:Nat} (h1:k≤l.length) (h2:k≤64) (h:l.length≤k∨64≤k):l.take k=l.take 64:=by
 rcases h with h | h
 ·rw [List.take_of_length_le h,List.take_of_length_le (by omega)]
 ·rw [show k=64 by omega]
theorem pg_step {P:List (List UInt8)} {ol:List RB} {k:Nat} {x:RB} (h:pgs ol=P.take k) (hk:k<P.length) (hx:x.l=P.getD k []):pgs (ol++[x])=P.take (k+1):=by
 rw [pgs_snoc,h,List.take_succ_eq_append_getElem hk,hx];congr 2;simp [hk]
theorem pages13_any {h:Heap} {p d:Nat} {F:Nat→Prop} {A:Bk} {w:WPg} (ok:Hp h F [bgI p d F A] [] h) (hcg:A.dk.chg<290000000) (hR:RelB A w) (hlf:A.dk.left<0):HC Tryz.prog 36 #[.pointer (some ⟨p,0,none⟩)] h (fun v h'=>∃F' E A' a c l,v=.slice a l.length c∧pgs l=w.pages.take 64∧RelB A' w∧A'.dk.left<0∧A'.dk.chg≤A.dk.chg+1000∧Hp h F [bgI p d F' A'] [pgwI E (a,l.length,c) l] h'∧∀j,E j→F j∨h.size≤j):=by
 refine HC.go Tryz.func36 30 ?_;refine .seq<|.r<|.z .asS<|.nil ?_;refine .seq<|.r<|.z .asS<|.nil ?_;refine .seq<|.seq<|?_;have ok:=ok.nilC (k:=1) (e:=22);have ok:=ok.pbyNil;refine .r<|.z .asI<|.nil ?_;refine .block fun K0 hK0=>.loop (fun m s hh=>∃(k:Nat) (ol:List RB) (a3:Option Addr) (c3:Nat) (Eo Fp:Nat→Prop) (Ap:Bk),Has s [(0,.pointer (some ⟨p,0,none⟩)),(3,.slice a3 ol.length c3),(4,.int .i64 ((k:Int)+1))]∧Hp h F [capI 1 22 (a3,ol.length,c3) (ol.flatMap RB.cells),bgI p d Fp Ap] [pbyI Eo ol] hh∧k≤w.pages.length∧k≤64∧ol.length=k∧pgs ol=w.pages.take k∧(∀j,Eo j→F j∨h.size≤j)∧RelB Ap w∧Ap.dk.left<0∧Ap.dk.chg≤A.dk.chg+10*k∧m=w.pages.length-k) ?_ ?_
 ·exact ⟨_,0,[],none,0,none_,F,A,⟨rfl,rfl,rfl,trivial⟩,(ok).k2,by omega,by omega,rfl,rfl,(fun j f=>f.elim),hR,hlf,by omega,rfl⟩
 rintro _ _ η1 ⟨k,ol,a3,c3,Eo,Fp,Ap,hs,ok,hk1,hk2,hol,hpo,hEo,hR,hlf,hch,rfl⟩ J0 hJ0;refine .frame hs fun τ=>?_;refine .seq<|.seq<|?_;have hPg:=hR.pages;refine .r<|.z .mvI<|.z .mvP<|.k 9 .func (gbPages_any (p:=p) (d:=d) (F:=Fp) (A:=Ap) ok.m1)<|.z .leq<|.z .mvB<|.sd (fun G11=>?_) (fun G11=>?_)
 ·
  refine .z .mvI<|.z .leq<|.z .pkt<|.nil ?_;refine .cdr (fun C0=>?_) (fun C0=>?_)
  ·
   have hPg2:=hR.pages;refine .exit<|hK0 _ _<|.seq<|.r<|.z .mvS<|.z .asS<|.nil ?_;refine .ret ⟨.slice a3 ol.length c3,Res.one rfl rfl,⟨Fp,_,Ap,a3,c3,ol,rfl,(by rw [hpo];exact pg_all hk1 hk2 (by omega)),hR,hlf,by omega,Hp.pgFrz (ok),(fun j hj=>hj.elim (fun h1=>(ok).owned j h1) (fun h1=>hEo j h1))⟩⟩
  have hkl:k<w.pages.length:=by omega
  refine .skip<|.seq<|.block fun K1 hK1=>.seq<|.r<|.z .mvP<|.z .mvI<|.c' 20 .func (gbread_any (p:=p) (d:=d) (F:=Fp) (A:=Ap) (no:=((k:Int)+1)) (ok.n1).loc0 (by omega)) ?_;rintro _ η2 ⟨Fg1,ag1,cg1,rfl,q⟩;have Pg1:=bg_pl (ok.n1).m0;have ok:=(ok.n1).lift2 q;obtain ⟨Ag1,hAg1⟩:∃x:Bk,(readB Ap ((k:Int)+1)).1=x:=⟨_,rfl⟩;rw [hAg1] at ok;have hcg1:Ag1.dk.chg≤Ap.dk.chg+1200000:=by rw [←hAg1];exact (Int.le_trans Pg1.read.2 (by omega))
  refine .z .mvU<|.z .ex<|.z .ex<|.z .asS<|.z .asI<|.nil ?_;refine .seq<|.seq<|?_;have hrd:=hR.read_in hlf hkl;have hc10:=Pg1.read (no:=(k:Int)+1) |>.2
  rw [hAg1] at hc10 hrd;refine .r<|.z .mvI<|.z .neq<|.nil ?_;refine .cd (fun C1=>?_) (fun C1=>?_)
  ·
   exact absurd (by rw [hrd.1];rfl) C1
  refine .skip<|.r<|.z .mvS<|.z .mvS<|.a' 27 (.lit [.tmp 26] (cs:=[.slice ag1 ((readB Ap ((k:Int)+1)).2.1.length) cg1]) T.el26 T.sz22 T.zr22 ok ⟨rfl,trivial⟩) ?_;rintro _ η3 ⟨pb1,rfl,ok,xe⟩;refine .a' 28 (.app (news:=[.slice ag1 ((readB Ap ((k:Int)+1)).2.1.length) cg1]) T.el26 T.sz22 T.by22 T.zr22 ok.n3 (ok.n3.m1).sl (oneL rfl) (by rw [flat_len RB.cells_len];simp only [List.length_cons,List.length_nil];omega)) ?_;rintro _ η4 ⟨ya1,yn1,yc1,rfl,ok,ap⟩;have ok:=(ok).cx (ys:=(ol++[(⟨ag1,cg1,(readB Ap ((k:Int)+1)).2.1⟩:RB)]).flatMap RB.cells) (by simp [RB.cells]);obtain rfl:yn1=(ol++[(⟨ag1,cg1,(readB Ap ((k:Int)+1)).2.1⟩:RB)]).length:=(Sl.sz (Cap.sl ok.m0) RB.cells_len (by decide)).1.symm;have hfr:=(ok.n2).owned;have ok:=Hp.pbyPut (ok.n2);refine .z .asS<|.nil ?_;refine .end<|hK1 _ _<|.r<|.z .mvI<|.z .add<|.z .asI<|.nil ?_;refine .end<|hJ0 _ _ _ ⟨k+1,ol++[(⟨ag1,cg1,(readB Ap ((k:Int)+1)).2.1⟩:RB)],ya1,yc1,(fun j=>Eo j∨blkC (sv (ag1,((readB Ap ((k:Int)+1)).2.1).length,cg1)) j),Fg1,Ag1,⟨rfl,rfl,rfl,trivial⟩,(ok.n2.n1).k2,by omega,by omega,by simp [hol],pg_step hpo hkl (by rw [hrd.1]),(fun j h=>h.elim (hEo j) (hfr j)),hrd.2.1,hrd.2.2,by omega,rfl⟩ (by omega)
 refine .y<|.y<|.z .pkf<|.nil ?_;refine .cf<|.exit<|hK0 _ _<|.seq<|.r<|.z .mvS<|.z .asS<|.nil ?_;refine .ret ⟨.slice a3 ol.length c3,Res.one rfl rfl,⟨Fp,_,Ap,a3,c3,ol,rfl,(by rw [hpo];exact pg_all hk1 hk2 (by omega)),hR,hlf,by omega,Hp.pgFrz (ok),(fun j hj=>hj.elim (fun h1=>(ok).owned j h1) (fun h1=>hEo j h1))⟩⟩
theorem clean_read {s:List (List UInt8)} {D:Dk} (c:CleanB s D):∃k,readN D nT 0 1048576=(s.flatten.take 1048576,k):=by
 obtain ⟨T,S,hT⟩:=c;cases T with
 | none=>
  have st:FSt (D.fs nT) none [] none:=by rw [S.T];exact .syn none
  exact ⟨4,by rw [←hT];exact read_no (p:=0) (z:=1048576) S.hd nT_ok st⟩
 | some b=>
  have st:FSt (D.fs nT) (some b) [] (some b):=by rw [S.T];exact .syn _
  have h:=read_st (p:=0) (z:=1048576) S.hd nT_ok st;rw [List.drop_zero] at h;exact ⟨0,by rw [←hT];exact h⟩
theorem roll_clean {A:Bk} {w:WPg} (R:RelB A w) (hl:A.dk.left<0):CleanB w.sure (rollbackB A).1.dk:=by
 rcases R.rollback with ⟨_,h2,h3⟩ | ⟨_,h⟩
 ·by_cases hi:w.in_=false
  ·rw [rollbackP_1 hi] at h2;exact RL.clean ⟨h2,h3 hl⟩ hi
  ·rw [rollbackP_2 hi] at h2;exact RL.clean (w:=⟨w.z,w.sure,[],false,w.fr⟩) ⟨h2,h3 hl⟩ rfl
 ·have:=h.left;omega
theorem newWp_lim {z:Nat} : LimW (newWp z).abs:=⟨by simp [newWp,RWp.abs,pgs],by simp [newWp,RWp.abs,pgs]⟩
theorem brooms_walk {h:Heap} {EO:Nat→Prop} {a:Option Addr} {c:Nat} {l:List ROp6} (hl:RwB 6 ROp6.cells ROp6.sb h EO (a,l.length,c) l) (hop6:OpsOk6 l) {u v y:Nat} (hu:u<256) (hv:v<256) (hy:y<256):HC Tryz.prog 5 #[.agg #[.int .u8 (u:Int),.int .u8 (v:Int),.int .u8 (y:Int)],.slice a l.length c] h (fun v h'=>v=.bool true∧Ext h h'):=by
 have hc2:=hl.m;have ok:=(Hp.nil h none_).old (opw6I (fun j=>EO j∧j<h.size) (a,l.length,c) l) (hl.lt (by decide)) (fun j hj=>hj.2);have hzb:=sizeZ_b u;have hcn:newN.chg=0:=rfl;refine HC.go Tryz.func5 161 ?_;refine .seq<|.r<|.a' 2 (.bxA (cs:=[.int .u8 (u:Int),.int .u8 (v:Int),.int .u8 (y:Int)]) ok) ?_;rintro _ η1 ⟨pb1,rfl,ok,xe⟩;refine .z .asB<|.nil ?_;refine .seq<|.r<|.c' 23 .func dgnew_any ?_;rintro _ η2 ⟨dnd1,Fnd1,rfl,q⟩;have ok:=Hp.addM ok q;refine .c' 24 .func dgnew_any ?_;rintro _ η3 ⟨dnd2,Fnd2,rfl,q⟩;have ok:=Hp.addM ok q;refine .z .asP<|.z .asP<|.nil ?_;refine .seq<|.a 15 (fun fl hh=>Hp h none_ [boxI pb1 61 [.int .u8 (u:Int),.int .u8 (v:Int),.int .u8 (y:Int)]] [opw6I (fun j=>EO j∧j<h.size) (a,l.length,c) l] hh) mixed ?_;have hS:=ok.n2.k1;refine .g 0 false rfl 26 hS (fun _=>.mvP)<|.g 1 false rfl 27 hS (fun _=>.ixa 0 T.ar61 T.sz5)<|.lw 2 false rfl 28 hS (fun _ _ hS=>.ldx T.ag5 hS.m0)<|.g 4 false rfl 30 hS (fun _=>.ixa 1 T.ar61 T.sz5)<|.lw 5 false rfl 31 hS (fun _ _ hS=>.ldx T.ag5 hS.m0)<|.g 6 false rfl 32 hS (fun _=>.remn (b:=3))<|.g 7 false rfl 33 hS (fun _=>.cvi T.in3 T.in5)<|.g 8 false rfl 34 hS (fun _=>.addI (b:=1))<|.o1 3<|.k false rfl 29 .func (size13_any (n:=u) (by omega)) hS<|.o1 9<|.c' false rfl 35 .func (gbopen0_any (d:=dnd1) (F:=Fnd1) (D:=newN) (z:=((sizeZ u:Nat):Int)) (room:=(((v%3)+1:Nat):Int)) (Hp.loc0 (ok.n1)) newN_ok (by omega) (by omega) (by rw [(openB_new (z:=sizeZ u) (room:=(((v%3)+1:Nat):Int)) (sizeZ_ok u) ⟨by omega,by omega⟩).1]) (by rw [(openB_new (z:=sizeZ u) (room:=(((v%3)+1:Nat):Int)) (sizeZ_ok u) ⟨by omega,by omega⟩).1];exact ⟨newN_ok,[],(openB_new (z:=sizeZ u) (room:=(((v%3)+1:Nat):Int)) (sizeZ_ok u) ⟨by omega,by omega⟩).2⟩)) ?_;rintro _ η4 ⟨po1,Fo1,rfl,q⟩;have ok:=Hp.lift1 (ok.n1) q;obtain ⟨Ao1,hAo1⟩:∃x:Bk,(openedB (openB newN ((sizeZ u:Nat):Int) (((v%3)+1:Nat):Int)).1 (Int.toNat ((sizeZ u:Nat):Int)) (((v%3)+1:Nat):Int) (openB newN ((sizeZ u:Nat):Int) (((v%3)+1:Nat):Int)).2.1:Bk)=x:=⟨_,rfl⟩;rw [hAo1] at ok;have hAp:Ao1=openedB newN (sizeZ u) (((v%3)+1:Nat):Int) 0:=by rw [←hAo1,(openB_new (z:=sizeZ u) (room:=(((v%3)+1:Nat):Int)) (sizeZ_ok u) ⟨by omega,by omega⟩).1];rfl
 have hrlp:RelB Ao1 (newWp (sizeZ u)).abs:=by rw [hAp];exact relB_new (sizeZ_ok u) ⟨by omega,by omega⟩
 refine ⟨ok.n2.k1,?_⟩;have hS:=ok.n2.k1;refine .g 10 false rfl 25 hS (fun _=>.mvU)<|.g 11 false rfl 36 hS (fun _=>.ex)<|.g 12 false rfl 37 hS (fun _=>.ex)<|.g 13 false rfl 7 hS (fun _=>.asP)<|.g 14 false rfl 8 hS (fun _=>.asI)<|.e ?_;refine .seq<|.a 14 (fun fl hh=>Hp h none_ [boxI pb1 61 [.int .u8 (u:Int),.int .u8 (v:Int),.int .u8 (y:Int)]] [opw6I (fun j=>EO j∧j<h.size) (a,l.length,c) l] hh) mixed ?_;have hS:=ok.n2.k1;refine .g 0 false rfl 39 hS (fun _=>.mvP)<|.g 1 false rfl 40 hS (fun _=>.ixa 0 T.ar61 T.sz5)<|.lw 2 false rfl 41 hS (fun _ _ hS=>.ldx T.ag5 hS.m0)<|.g 4 false rfl 43 hS (fun _=>.ixa 2 T.ar61 T.sz5)<|.lw 5 false rfl 44 hS (fun _ _ hS=>.ldx T.ag5 hS.m0)<|.g 6 false rfl 45 hS (fun _=>.cvi T.in3 T.in5)<|.g 7 false rfl 46 hS (fun _=>.addI (b:=4))<|.o1 3<|.k false rfl 42 .func (size13_any (n:=u) (by omega)) hS<|.o1 8<|.c' false rfl 47 .func (gbopen0_any (d:=dnd2) (F:=Fnd2) (D:=newN) (z:=((sizeZ u:Nat):Int)) (room:=((y+4:Nat):Int)) (Hp.loc0 (ok.n1)) newN_ok (by omega) (by omega) (by rw [(openB_new (z:=sizeZ u) (room:=((y+4:Nat):Int)) (sizeZ_ok u) ⟨by omega,by omega⟩).1]) (by rw [(openB_new (z:=sizeZ u) (room:=((y+4:Nat):Int)) (sizeZ_ok u) ⟨by omega,by omega⟩).1];exact ⟨newN_ok,[],(openB_new (z:=sizeZ u) (room:=((y+4:Nat):Int)) (sizeZ_ok u) ⟨by omega,by omega⟩).2⟩)) ?_;rintro _ η5 ⟨po2,Fo2,rfl,q⟩;have ok:=Hp.lift1 (ok.n1) q;obtain ⟨Ao2,hAo2⟩:∃x:Bk,(openedB (openB newN ((sizeZ u:Nat):Int) ((y+4:Nat):Int)).1 (Int.toNat ((sizeZ u:Nat):Int)) ((y+4:Nat):Int) (openB newN ((sizeZ u:Nat):Int) ((y+4:Nat):Int)).2.1:Bk)=x:=⟨_,rfl⟩;rw [hAo2] at ok;have hAq:Ao2=openedB newN (sizeZ u) ((y+4:Nat):Int) 0:=by rw [←hAo2,(openB_new (z:=sizeZ u) (room:=((y+4:Nat):Int)) (sizeZ_ok u) ⟨by omega,by omega⟩).1];rfl
 have hrlq:RelB Ao2 (newWp (sizeZ u)).abs:=by rw [hAq];exact relB_new (sizeZ_ok u) ⟨by omega,by omega⟩
 refine ⟨ok.n2.k1,?_⟩;have hS:=ok.n2.k1;refine .g 9 false rfl 38 hS (fun _=>.mvU)<|.g 10 false rfl 48 hS (fun _=>.ex)<|.g 11 false rfl 49 hS (fun _=>.ex)<|.g 12 false rfl 9 hS (fun _=>.asP)<|.g 13 false rfl 10 hS (fun _=>.asI)<|.e ?_;refine .seq<|.seq<|.r<|.z .mvP<|.z (.pEqS T.pt47)<|.z .mvB<|.z .mvP<|.z (.pEqS T.pt47)<|.z .pkf<|.z .mvB<|.z .mvI<|.z .neq<|.z .pkf<|.z .mvB<|.z .mvI<|.z .neq<|.z .pkf<|.z .mvB<|.z .mvS<|.k 66 .func (small13_any (a:=a) (c:=c) (l:=l) ok.r0)<|.z .not<|.z .pkf<|.nil ?_;refine .cond (fun C0=>?_) (fun C0=>?_)
 ·
  refine .seq<|.r<|.c' 69 .func live13_any ?_;rintro _ η6 ⟨rfl,hx⟩;have ok:=ok.ext hx;refine .z .mvB<|.z .mvP<|.z (.pNeS T.pt47)<|.z .pkt<|.z .mvB<|.z .mvP<|.z (.pNeS T.pt47)<|.z .pkt<|.z .asB<|.nil ?_;refine .ret ⟨.bool true,Res.one rfl rfl,⟨rfl,ok.chg⟩⟩
 have hsm:=smallB6_iff.1 (by simpa using C0);refine .skip<|.seq<|.r<|.z (.ixa 0 T.ar61 T.sz5)<|.z (.ldx T.ag5 ok.m2)<|.k 80 .func (size13_any (n:=u) (by omega))<|.z (.bd #[.int .i64 ((sizeZ u:Nat):Int),.slice none 0 0,.slice none 0 0,.bool false] T.zr51 T.pl51 rfl)<|.a' 11 (.alA T.zr51 ok) ?_;rintro _ η7 ⟨pb2,rfl,ok,xe⟩;refine .ur' (.stW (vs:=[.int .i64 ((sizeZ u:Nat):Int),.slice none 0 0,.slice none 0 0,.bool false]) T.sz51 ok (oneL rfl)) ?_;rintro η8 ⟨ok,cg⟩;refine .nil ?_;refine .seq<|.seq<|?_;obtain ⟨w,hw0⟩:∃x:RWp,newWp (sizeZ u)=x:=⟨_,rfl⟩;have ok:=ok.dE (dcpI none_ w) (by rw [←hw0];exact newWp_doc) (fun _ f=>f);have hzz:w.z=sizeZ u:=by rw [←hw0];rfl
 have hnl9:w.nl.length≤40:=by rw [←hw0];simp [newWp]
 have hzw:okSz w.z=true:=by rw [hzz];exact sizeZ_ok _
 have hz256:=okSz_b hzw;rw [hw0] at hrlp hrlq;have hlim0:LimW w.abs:=by rw [←hw0];exact newWp_lim
 rw [show (boxI pb2 51 [.int .i64 ((sizeZ u:Nat):Int),.slice none 0 0,.slice none 0 0,.bool false])=boxI pb2 51 [.int .i64 (w.z:Int),.slice w.sa w.sl.length w.sc,.slice w.na w.nl.length w.nc,.bool w.i] from by rw [←hw0];rfl] at ok;refine .r<|.z .asI<|.nil ?_;refine .block fun K0 hK0=>.loop (fun m s hh=>∃(i:Nat) (F F2:Nat→Prop) (A B:Bk) (wv:WPg),Has s [(1,.slice a l.length c),(5,.pointer (some ⟨dnd1,0,none⟩)),(6,.pointer (some ⟨dnd2,0,none⟩)),(7,.pointer (some ⟨po1,0,none⟩)),(9,.pointer (some ⟨po2,0,none⟩)),(11,.pointer (some ⟨pb2,0,none⟩)),(12,.int .i64 (i:Int))]∧Hp h none_ [bgI po1 dnd1 F A,bgI po2 dnd2 F2 B,boxI pb2 51 [.int .i64 (w.z:Int),.slice w.sa w.sl.length w.sc,.slice w.na w.nl.length w.nc,.bool w.i]] [dcpI none_ w,opw6I (fun j=>EO j∧j<h.size) (a,l.length,c) l] hh∧i≤l.length∧A.dk.chg≤2000000*i∧B.dk.chg≤2000000*i∧RelB A wv∧RelB B wv∧A.dk.left<0∧B.dk.left<0∧LimW wv∧wv.z=w.z∧m=l.length-i) ?_ ?_
 ·exact ⟨_,0,Fo1,Fo2,Ao1,Ao2,w.abs,⟨rfl,rfl,rfl,rfl,rfl,rfl,rfl,trivial⟩,(ok.n1.n2).k3.f1.f1,Nat.zero_le _,(by rw [hAp];exact Int.le_refl 0),(by rw [hAq];exact Int.le_refl 0),hrlp,hrlq,(by rw [hAp];exact (by decide:(-1:Int)<0)),(by rw [hAq];exact (by decide:(-1:Int)<0)),hlim0,rfl,rfl⟩
 rintro _ _ η9 ⟨i,F,F2,A,B,wv,hs,ok,hi,hcA,hcB,hrA,hrB,hlA,hlB,hlim,hwz,rfl⟩ J0 hJ0;refine .frame hs fun τ=>?_;refine .seq<|.seq<|.r<|.z .mvI<|.z .mvS<|.z (.len T.el46)<|.z .lss<|.nil ?_;refine .cdr (fun C1=>?_) (fun C1=>?_)
 ·
  refine .exit<|hK0 _ _<|.seq<|.r<|.z .mvP<|.c' 142 .func (gbrollback_any (p:=po1) (d:=dnd1) (F:=F) (A:=A) (ok).loc0 (by omega)) ?_;rintro _ η10 ⟨Fg1,rfl,q⟩;have Pg1:=bg_pl (ok).m0;have ok:=(ok).lift1 q;obtain ⟨Ag1,hAg1⟩:∃x:Bk,(rollbackB A).1=x:=⟨_,rfl⟩;rw [hAg1] at ok;have hcg1:Ag1.dk.chg≤A.dk.chg+1200000:=by rw [←hAg1];exact (by have:=Pg1.rollback.2;omega)
  have hclA:=roll_clean hrA hlA;have PRA:=Pg1.rollback.1;rw [hAg1] at hclA PRA;refine .nil ?_;refine .seq<|.r<|.z .mvP<|.c' 144 .func (gbrollback_any (p:=po2) (d:=dnd2) (F:=F2) (A:=B) (ok.n1).loc0 (by omega)) ?_;rintro _ η11 ⟨Fg2,rfl,q⟩;have Pg2:=bg_pl (ok.n1).m0;have ok:=(ok.n1).lift1 q;obtain ⟨Ag2,hAg2⟩:∃x:Bk,(rollbackB B).1=x:=⟨_,rfl⟩;rw [hAg2] at ok;have hcg2:Ag2.dk.chg≤B.dk.chg+1200000:=by rw [←hAg2];exact (by have:=Pg2.rollback.2;omega)
  have hclB:=roll_clean hrB hlB;have PRB:=Pg2.rollback.1;rw [hAg2] at hclB PRB;refine .nil ?_;refine .seq<|.r<|.z .mvP<|.c' 147 .func (dgread_any (d:=dnd1) (F:=Fg1) (D:=Ag1.dk) (n:=([116,111,109,101]:List UInt8)) (y:=0) (z:=1048576) (Hp.loc0 (bg_dgo (ok.n1))) PRA.ok (by omega) (by omega)) ?_;rintro _ η12 ⟨xrd1,rfl,own⟩;obtain ⟨krd1,hkrd1⟩:=clean_read hclA;rw [show readN Ag1.dk ([116,111,109,101]:List UInt8) 0 1048576=(wv.sure.flatten.take 1048576,krd1) from hkrd1] at own⊢;replace own:Own _ _ 1 5 xrd1 ((wv.sure.flatten.take 1048576).map bv):=own;obtain ⟨ard1,crd1,rfl⟩:=own.formB;have ok:=ok.own own;refine .z .mvU<|.z .ex<|.z .ex<|.z .asS<|.z .asI<|.nil ?_;refine .seq<|.r<|.z .mvP<|.c' 152 .func (dgread_any (d:=dnd2) (F:=Fg2) (D:=Ag2.dk) (n:=([116,111,109,101]:List UInt8)) (y:=0) (z:=1048576) (Hp.loc0 (bg_dgo (ok.n1))) PRB.ok (by omega) (by omega)) ?_;rintro _ η13 ⟨xrd2,rfl,own⟩;obtain ⟨krd2,hkrd2⟩:=clean_read hclB;rw [show readN Ag2.dk ([116,111,109,101]:List UInt8) 0 1048576=(wv.sure.flatten.take 1048576,krd2) from hkrd2] at own⊢;replace own:Own _ _ 1 5 xrd2 ((wv.sure.flatten.take 1048576).map bv):=own;obtain ⟨ard2,crd2,rfl⟩:=own.formB;have ok:=ok.own own;refine .z .mvU<|.z .ex<|.z .ex<|.z .asS<|.z .asI<|.nil ?_;refine .seq<|.r<|.c' 155 .func live13_any ?_;rintro _ η14 ⟨rfl,hx⟩;have ok:=ok.ext hx;refine .z .mvB<|.z .mvS<|.z .mvS<|.k 159 .func (same_any (a:=ard1) (c:=crd1) (l:=(wv.sure.flatten.take 1048576)) (b:=ard2) (d:=crd2) (l2:=(wv.sure.flatten.take 1048576)) (RdL.ofCapB (v:=(ard1,(wv.sure.flatten.take 1048576).length,crd1)) (l:=(wv.sure.flatten.take 1048576)) ok.m1) (RdL.ofCapB (v:=(ard2,(wv.sure.flatten.take 1048576).length,crd2)) (l:=(wv.sure.flatten.take 1048576)) ok.m0))<|.z .pkt<|.z .asB<|.nil ?_;refine .ret ⟨.bool (decide ((wv.sure.flatten.take 1048576)=(wv.sure.flatten.take 1048576))),Res.one rfl rfl,⟨by simp,ok.chg⟩⟩
 have hil:i<l.length:=by omega
 have PA:=bg_pl (ok).m0;have PB:=bg_pl (ok.n1).m0;refine .skip<|.seq<|.block fun K1 hK1=>.seq<|.seq<|.r<|.z .mvS<|.z .mvI<|?_;obtain ⟨bb1,oo1,rfl,fb1⟩:=ok.r1.pos (by omega);refine .z (.ix i T.el46 T.sz54)<|.z (.fa T.fd54_0)<|.z (.ld T.ag5 (sl_at ROp6.cells_len (ok.r1).sl (i:=i) (j:=0) (by omega) rfl))<|.z .eql<|.nil ?_;refine .cd (fun C2=>?_) (fun C2=>?_)
 ·
  refine .exit<|hK1 _ _<|.r<|.z .mvI<|.z (.addI (b:=1))<|.z .asI<|.nil ?_;refine .end<|hJ0 _ _ _ ⟨i+1,F,F2,A,B,wv,⟨rfl,rfl,rfl,rfl,rfl,rfl,rfl,trivial⟩,(ok).k3.f1.f1,by omega,by omega,by omega,hrA,hrB,hlA,hlB,hlim,hwz,rfl⟩ (by omega)
 refine .skip<|.seq<|?_;have ok:=ok.d1 (rdI (fun j=>EO j∧j<h.size) (fun j=>EO j∧j<h.size) (l[i].ba,l[i].bl.length,l[i].bc) l[i].bl) ((ok.r1).by' _ (List.getElem_mem hil)) (fun _ h=>h.elim id id);refine .a 6 (fun fl hh=>cond fl True (Hp h none_ [boxI pb2 51 [.int .i64 (w.z:Int),.slice w.sa w.sl.length w.sc,.slice w.na w.nl.length w.nc,.bool w.i]] [rdI (fun j=>EO j∧j<h.size) (fun j=>EO j∧j<h.size) (l[i].ba,l[i].bl.length,l[i].bc) (l[i].bl),dcpI none_ w,opw6I (fun j=>EO j∧j<h.size) (some ⟨bb1,oo1,none⟩,l.length,c) l] hh)) mixed ?_;have hS:=ok.n2.k1;refine .g 0 false rfl 95 hS (fun _=>.mvP)<|.l 1 false rfl 96 hS (fun _ hS=>.ldb T.ag51 hS.m0 T.sz51)<|.g 2 false rfl 97 hS (fun _=>.mvS)<|.g 3 false rfl 98 hS (fun _=>.mvI)<|.g 4 false rfl 99 hS (fun _=>.ix i T.el46 T.sz54)<|.l 5 false rfl 100 (v:=.agg #[.int .u8 (l[i].k:Int),.int .i64 (l[i].no),.int .i64 (l[i].n),.int .u8 (l[i].fb.toNat:Int),.bool (l[i].hd),.slice (l[i].ba) (l[i].bl.length) (l[i].bc)]) hS (fun _ hS=>.ldc (vs:=ROp6.cells l[i]) T.ag54 (sl_ats ROp6.cells_len (hS.r2).sl (i:=i) (by omega)) T.sz54)<|.o2 6 11 ?_ ?_
 ·
  refine .c' true rfl 101 .func (call13_any (p:=po1) (d:=dnd1) (F:=F) (A:=A) (E:=none_) (z:=w.z) (sa:=w.sa) (sc:=w.sc) (sl:=w.sl) (na:=w.na) (nc:=w.nc) (nl:=w.nl) (ib:=w.i) (fr:=w.fr) (k:=l[i].k) (no:=l[i].no) (n:=l[i].n) (fb:=l[i].fb) (hd:=l[i].hd) (ba:=l[i].ba) (bc:=l[i].bc) (bl:=l[i].bl) (ok.f1).loc2 (by omega) hzw (by omega) (hop6 _ (List.getElem_mem hil)).1 (hop6 _ (List.getElem_mem hil)).2.1 (hop6 _ (List.getElem_mem hil)).2.2) ?_;rintro _ η15 ⟨Fk1,wk1,Ek1,bk1,rfl,hak1,hbk1,q,hEk1⟩;have Pk1:=bg_pl (ok.f1).m0;have hzk1:=ok.chg.size;have ok:=ok.f1;have ok:=(ok.d0 (dcpI none_ w) ok.r0 (fun _ h=>h)).turnR q hEk1;obtain ⟨Ak1,hAk1⟩:∃x:Bk,(stepB A w.z l[i].abs).1=x:=⟨_,rfl⟩;rw [show (stepB A w.z ⟨l[i].k,l[i].no,l[i].n,l[i].fb,l[i].hd,l[i].bl⟩).1=Ak1 from hAk1] at ok;have hck1:Ak1.dk.chg≤A.dk.chg+1200000:=by rw [←hAk1];exact (step_pl Pk1).2
  obtain ⟨wn,hwn⟩:∃x:WPg,(stepQ wv l[i].abs).1=x:=⟨_,rfl⟩;have hlimn:LimW wn:=by rw [←hwn];exact hlim.step (of_decide_eq_true (hsm.2 i hil))
  have hwzn:wn.z=w.z:=by rw [←hwn];exact step_z.trans hwz
  have hsA:=hrA.step0 hlA (x:=l[i].abs);rw [hwz,hwn] at hsA;have hdA:(stepB A w.z l[i].abs).2=(stepQ wv l[i].abs).2:=by have h:=hsA.1.2;rw [hwz] at h;exact h
  have hrelk1:RelB Ak1 wn:=by rw [←hAk1];exact hsA.2.1
  have hlfk1:Ak1.dk.left<0:=by rw [←hAk1];exact hsA.2.2
  refine ⟨trivial,?_⟩;refine .g 7 true rfl 94 trivial (fun _=>.mvU)<|.g 8 true rfl 102 trivial (fun _=>.ex)<|.g 9 true rfl 103 trivial (fun _=>.ex)<|.g 10 true rfl 104 trivial (fun _=>.ex)<|.o1 11<|.a' true rfl 13 (.alA T.zr51 ok) ?_;rintro _ η16 ⟨pb3,rfl,ok,xe⟩;refine ⟨trivial,?_⟩;refine .o1 12<|.ur' true rfl (.stW (vs:=[.int .i64 (wk1.z:Int),.slice wk1.sa wk1.sl.length wk1.sc,.slice wk1.na wk1.nl.length wk1.nc,.bool wk1.i]) T.sz51 ok (oneL rfl)) ?_;rintro η17 ⟨ok,cg⟩;refine ⟨trivial,?_⟩;refine .g 13 true rfl 14 trivial (fun _=>.asI)<|.g 14 true rfl 15 trivial (fun _=>.asB)<|.e ?_;refine .seq<|.a 6 (fun fl hh=>cond fl True (Hp h none_ [boxI pb3 51 [.int .i64 (wk1.z:Int),.slice wk1.sa wk1.sl.length wk1.sc,.slice wk1.na wk1.nl.length wk1.nc,.bool wk1.i],boxI pb2 51 [.int .i64 (w.z:Int),.slice w.sa w.sl.length w.sc,.slice w.na w.nl.length w.nc,.bool w.i]] [dcpI Ek1 wk1,dcpI none_ w,rdI (fun j=>EO j∧j<h.size) (fun j=>EO j∧j<h.size) (l[i].ba,l[i].bl.length,l[i].bc) (l[i].bl),opw6I (fun j=>EO j∧j<h.size) (some ⟨bb1,oo1,none⟩,l.length,c) l] hh)) mixed ?_;have hS:=ok.n3.n1.k2;refine .g 0 false rfl 106 hS (fun _=>.mvP)<|.l 1 false rfl 107 hS (fun _ hS=>.ldb T.ag51 hS.m1 T.sz51)<|.g 2 false rfl 108 hS (fun _=>.mvS)<|.g 3 false rfl 109 hS (fun _=>.mvI)<|.g 4 false rfl 110 hS (fun _=>.ix i T.el46 T.sz54)<|.l 5 false rfl 111 (v:=.agg #[.int .u8 (l[i].k:Int),.int .i64 (l[i].no),.int .i64 (l[i].n),.int .u8 (l[i].fb.toNat:Int),.bool (l[i].hd),.slice (l[i].ba) (l[i].bl.length) (l[i].bc)]) hS (fun _ hS=>.ldc (vs:=ROp6.cells l[i]) T.ag54 (sl_ats ROp6.cells_len (hS.r3).sl (i:=i) (by omega)) T.sz54)<|.o2 6 11 ?_ ?_
  ·
   refine .c' true rfl 112 .func (call13_any (p:=po2) (d:=dnd2) (F:=F2) (A:=B) (E:=none_) (z:=w.z) (sa:=w.sa) (sc:=w.sc) (sl:=w.sl) (na:=w.na) (nc:=w.nc) (nl:=w.nl) (ib:=w.i) (fr:=w.fr) (k:=l[i].k) (no:=l[i].no) (n:=l[i].n) (fb:=l[i].fb) (hd:=l[i].hd) (ba:=l[i].ba) (bc:=l[i].bc) (bl:=l[i].bl) (ok.n2.f2.f2).loc2 (by omega) hzw (by omega) (hop6 _ (List.getElem_mem hil)).1 (hop6 _ (List.getElem_mem hil)).2.1 (hop6 _ (List.getElem_mem hil)).2.2) ?_;rintro _ η18 ⟨Fk2,wk2,Ek2,bk2,rfl,hak2,hbk2,q,hEk2⟩;have Pk2:=bg_pl (ok.n2.f2.f2).m0;have hzk2:=ok.chg.size;have ok:=ok.n2.f2.f2;have ok:=(ok.d0 (dcpI none_ w) ok.r0 (fun _ h=>h)).turnR q hEk2;obtain ⟨Ak2,hAk2⟩:∃x:Bk,(stepB B w.z l[i].abs).1=x:=⟨_,rfl⟩;rw [show (stepB B w.z ⟨l[i].k,l[i].no,l[i].n,l[i].fb,l[i].hd,l[i].bl⟩).1=Ak2 from hAk2] at ok;have hck2:Ak2.dk.chg≤B.dk.chg+1200000:=by rw [←hAk2];exact (step_pl Pk2).2
   have hsB:=hrB.step0 hlB (x:=l[i].abs);rw [hwz,hwn] at hsB;have hdB:(stepB B w.z l[i].abs).2=(stepQ wv l[i].abs).2:=by have h:=hsB.1.2;rw [hwz] at h;exact h
   have hrelk2:RelB Ak2 wn:=by rw [←hAk2];exact hsB.2.1
   have hlfk2:Ak2.dk.left<0:=by rw [←hAk2];exact hsB.2.2
   refine ⟨trivial,?_⟩;refine .g 7 true rfl 105 trivial (fun _=>.mvU)<|.g 8 true rfl 113 trivial (fun _=>.ex)<|.g 9 true rfl 114 trivial (fun _=>.ex)<|.g 10 true rfl 115 trivial (fun _=>.ex)<|.o1 11<|.a' true rfl 16 (.alA T.zr51 ok) ?_;rintro _ η19 ⟨pb4,rfl,ok,xe⟩;refine ⟨trivial,?_⟩;refine .o1 12<|.ur' true rfl (.stW (vs:=[.int .i64 (wk2.z:Int),.slice wk2.sa wk2.sl.length wk2.sc,.slice wk2.na wk2.nl.length wk2.nc,.bool wk2.i]) T.sz51 ok (oneL rfl)) ?_;rintro η20 ⟨ok,cg⟩;refine ⟨trivial,?_⟩;refine .g 13 true rfl 17 trivial (fun _=>.asI)<|.g 14 true rfl 18 trivial (fun _=>.asB)<|.e ?_;refine .seq<|.r<|.z .mvI<|.z .mvI<|.z .neq<|.z .mvB<|.sd (fun G119=>?_) (fun G119=>?_)
   ·
    exact absurd (congrArg (fun n:Nat=>(n:Int)) (hdA.trans hdB.symm)) G119
   refine .z .mvP<|.k 121 .func ((gbPages_any (p:=po1) (d:=dnd1) (F:=Fk1) (A:=Ak1) ok.m3).mono fun _ _ q=>(by rw [hrelk1.pages] at q;exact q:_=(.int .i64 ((wn.pages.length:Nat):Int):Value)∧_))<|.z .mvP<|.k 123 .func ((gbPages_any (p:=po2) (d:=dnd2) (F:=Fk2) (A:=Ak2) ok.m1).mono fun _ _ q=>(by rw [hrelk2.pages] at q;exact q:_=(.int .i64 ((wn.pages.length:Nat):Int):Value)∧_))<|.z .neq<|.z .pkf<|.z .mvB<|.sd (fun G126=>?_) (fun G126=>?_)
   ·
    exact absurd rfl G126
   refine .z .mvP<|.k 128 .func ((gbin_any (p:=po1) (d:=dnd1) (F:=Fk1) (A:=Ak1) ok.m3).mono fun _ _ q=>(by rw [hrelk1.br,show Ak1.in_=wn.in_ from hrelk1.in_] at q;exact q:_=(.bool wn.in_:Value)∧_))<|.z .mvP<|.k 130 .func ((gbin_any (p:=po2) (d:=dnd2) (F:=Fk2) (A:=Ak2) ok.m1).mono fun _ _ q=>(by rw [hrelk2.br,show Ak2.in_=wn.in_ from hrelk2.in_] at q;exact q:_=(.bool wn.in_:Value)∧_))<|.z (.bNe T.bo4)<|.z .pkf<|.z .mvB<|.spl (fun G133=>?_) (fun G133=>?_)
   ·
    simp at G133
   refine .z .mvP<|.c' 135 .func (pages13_any (p:=po1) (d:=dnd1) (F:=Fk1) (A:=Ak1) (ok.n3).loc0 (by omega) hrelk1 hlfk1) ?_;rintro _ η21 ⟨Fg3,Eg3,Ag3,ag3,cg3,lg3,rfl,hpg3,hrelg3,hlfg3,hcpg3,q,hEg3⟩;have ok:=(ok.n3).liftR q hEg3;refine .z .mvP<|.c' 137 .func (pages13_any (p:=po2) (d:=dnd2) (F:=Fk2) (A:=Ak2) (ok.n2).loc0 (by omega) hrelk2 hlfk2) ?_;rintro _ η22 ⟨Fg4,Eg4,Ag4,ag4,cg4,lg4,rfl,hpg4,hrelg4,hlfg4,hcpg4,q,hEg4⟩;have ok:=(ok.n2).liftR q hEg4;refine .c' 138 .func (qsame_any (E:=Eg3) (E':=Eg4) (xa:=ag3) (ya:=ag4) (xc:=cg3) (yc:=cg4) (xl:=lg3) (yl:=lg4) ok.r1 ok.r0) ?_;rintro _ η23 ⟨rfl,hx⟩;have ok:=ok.ext hx;refine .z .notd<|.z .pkf<|.nil ?_;refine .cd (fun C3=>?_) (fun C3=>?_)
   ·
    exact absurd (hpg3.trans hpg4.symm) C3
   refine .skip<|.end<|hK1 _ _<|.r<|.z .mvI<|.z (.addI (b:=1))<|.z .asI<|.nil ?_;refine .end<|hJ0 _ _ _ ⟨i+1,Fg3,Fg4,Ag3,Ag4,wn,⟨rfl,rfl,rfl,rfl,rfl,rfl,rfl,trivial⟩,(ok.n4.n1.n2).k3.f6.f4.e2,by omega,by omega,by omega,hrelg3,hrelg4,hlfg3,hlfg4,hlimn,hwzn,rfl⟩ (by omega)
  ·
   refine .a' false rfl 16 (.alA T.zr51 ok) ?_;rintro _ η24 ⟨pb5,rfl,ok,xe⟩;refine ⟨ok.n4.n2.k2,?_⟩;have hS:=ok.n4.n2.k2;refine .o1 6<|.c' true rfl 112 .func (call13_any (p:=po2) (d:=dnd2) (F:=F2) (A:=B) (E:=none_) (z:=w.z) (sa:=w.sa) (sc:=w.sc) (sl:=w.sl) (na:=w.na) (nc:=w.nc) (nl:=w.nl) (ib:=w.i) (fr:=w.fr) (k:=l[i].k) (no:=l[i].no) (n:=l[i].n) (fb:=l[i].fb) (hd:=l[i].hd) (ba:=l[i].ba) (bc:=l[i].bc) (bl:=l[i].bl) (ok.n3.f2.f2).loc2 (by omega) hzw (by omega) (hop6 _ (List.getElem_mem hil)).1 (hop6 _ (List.getElem_mem hil)).2.1 (hop6 _ (List.getElem_mem hil)).2.2) ?_;rintro _ η25 ⟨Fk3,wk3,Ek3,bk3,rfl,hak3,hbk3,q,hEk3⟩;have Pk3:=bg_pl (ok.n3.f2.f2).m0;have hzk3:=ok.chg.size;have ok:=ok.n3.f2.f2;have ok:=(ok.d0 (dcpI none_ w) ok.r0 (fun _ h=>h)).turnR q hEk3;obtain ⟨Ak3,hAk3⟩:∃x:Bk,(stepB B w.z l[i].abs).1=x:=⟨_,rfl⟩;rw [show (stepB B w.z ⟨l[i].k,l[i].no,l[i].n,l[i].fb,l[i].hd,l[i].bl⟩).1=Ak3 from hAk3] at ok;have hck3:Ak3.dk.chg≤B.dk.chg+1200000:=by rw [←hAk3];exact (step_pl Pk3).2
   have hsB:=hrB.step0 hlB (x:=l[i].abs);rw [hwz,hwn] at hsB;have hdB:(stepB B w.z l[i].abs).2=(stepQ wv l[i].abs).2:=by have h:=hsB.1.2;rw [hwz] at h;exact h
   have hrelk3:RelB Ak3 wn:=by rw [←hAk3];exact hsB.2.1
   have hlfk3:Ak3.dk.left<0:=by rw [←hAk3];exact hsB.2.2
   refine ⟨trivial,?_⟩;refine .g 7 true rfl 105 trivial (fun _=>.mvU)<|.g 8 true rfl 113 trivial (fun _=>.ex)<|.g 9 true rfl 114 trivial (fun _=>.ex)<|.g 10 true rfl 115 trivial (fun _=>.ex)<|.o1 12<|.ur' true rfl (.stW (vs:=[.int .i64 (wk3.z:Int),.slice wk3.sa wk3.sl.length wk3.sc,.slice wk3.na wk3.nl.length wk3.nc,.bool wk3.i]) T.sz51 ok.n1 (oneL rfl)) ?_;rintro η26 ⟨ok,cg⟩;refine ⟨trivial,?_⟩;refine .g 13 true rfl 17 trivial (fun _=>.asI)<|.g 14 true rfl 18 trivial (fun _=>.asB)<|.e ?_;refine .seq<|.r<|.z .mvI<|.z .mvI<|.z .neq<|.z .mvB<|.sd (fun G119=>?_) (fun G119=>?_)
   ·
    exact absurd (congrArg (fun n:Nat=>(n:Int)) (hdA.trans hdB.symm)) G119
   refine .z .mvP<|.k 121 .func ((gbPages_any (p:=po1) (d:=dnd1) (F:=Fk1) (A:=Ak1) ok.m3).mono fun _ _ q=>(by rw [hrelk1.pages] at q;exact q:_=(.int .i64 ((wn.pages.length:Nat):Int):Value)∧_))<|.z .mvP<|.k 123 .func ((gbPages_any (p:=po2) (d:=dnd2) (F:=Fk3) (A:=Ak3) ok.m1).mono fun _ _ q=>(by rw [hrelk3.pages] at q;exact q:_=(.int .i64 ((wn.pages.length:Nat):Int):Value)∧_))<|.z .neq<|.z .pkf<|.z .mvB<|.sd (fun G126=>?_) (fun G126=>?_)
   ·
    exact absurd rfl G126
   refine .z .mvP<|.k 128 .func ((gbin_any (p:=po1) (d:=dnd1) (F:=Fk1) (A:=Ak1) ok.m3).mono fun _ _ q=>(by rw [hrelk1.br,show Ak1.in_=wn.in_ from hrelk1.in_] at q;exact q:_=(.bool wn.in_:Value)∧_))<|.z .mvP<|.k 130 .func ((gbin_any (p:=po2) (d:=dnd2) (F:=Fk3) (A:=Ak3) ok.m1).mono fun _ _ q=>(by rw [hrelk3.br,show Ak3.in_=wn.in_ from hrelk3.in_] at q;exact q:_=(.bool wn.in_:Value)∧_))<|.z (.bNe T.bo4)<|.z .pkf<|.z .mvB<|.spl (fun G133=>?_) (fun G133=>?_)
   ·
    simp at G133
   refine .z .mvP<|.c' 135 .func (pages13_any (p:=po1) (d:=dnd1) (F:=Fk1) (A:=Ak1) (ok.n3).loc0 (by omega) hrelk1 hlfk1) ?_;rintro _ η27 ⟨Fg5,Eg5,Ag5,ag5,cg5,lg5,rfl,hpg5,hrelg5,hlfg5,hcpg5,q,hEg5⟩;have ok:=(ok.n3).liftR q hEg5;refine .z .mvP<|.c' 137 .func (pages13_any (p:=po2) (d:=dnd2) (F:=Fk3) (A:=Ak3) (ok.n2).loc0 (by omega) hrelk3 hlfk3) ?_;rintro _ η28 ⟨Fg6,Eg6,Ag6,ag6,cg6,lg6,rfl,hpg6,hrelg6,hlfg6,hcpg6,q,hEg6⟩;have ok:=(ok.n2).liftR q hEg6;refine .c' 138 .func (qsame_any (E:=Eg5) (E':=Eg6) (xa:=ag5) (ya:=ag6) (xc:=cg5) (yc:=cg6) (xl:=lg5) (yl:=lg6) ok.r1 ok.r0) ?_;rintro _ η29 ⟨rfl,hx⟩;have ok:=ok.ext hx;refine .z .notd<|.z .pkf<|.nil ?_;refine .cd (fun C3=>?_) (fun C3=>?_)
   ·
    exact absurd (hpg5.trans hpg6.symm) C3
   refine .skip<|.end<|hK1 _ _<|.r<|.z .mvI<|.z (.addI (b:=1))<|.z .asI<|.nil ?_;refine .end<|hJ0 _ _ _ ⟨i+1,Fg5,Fg6,Ag5,Ag6,wn,⟨rfl,rfl,rfl,rfl,rfl,rfl,rfl,trivial⟩,(ok.n4.n1.n2).k3.f6.f4.e2,by omega,by omega,by omega,hrelg5,hrelg6,hlfg5,hlfg6,hlimn,hwzn,rfl⟩ (by omega)
 ·
  refine .a' false rfl 13 (.alA T.zr51 ok) ?_;rintro _ η30 ⟨pb6,rfl,ok,xe⟩;refine ⟨ok.n3.k1,?_⟩;have hS:=ok.n3.k1;refine .o1 6<|.c' true rfl 101 .func (call13_any (p:=po1) (d:=dnd1) (F:=F) (A:=A) (E:=none_) (z:=w.z) (sa:=w.sa) (sc:=w.sc) (sl:=w.sl) (na:=w.na) (nc:=w.nc) (nl:=w.nl) (ib:=w.i) (fr:=w.fr) (k:=l[i].k) (no:=l[i].no) (n:=l[i].n) (fb:=l[i].fb) (hd:=l[i].hd) (ba:=l[i].ba) (bc:=l[i].bc) (bl:=l[i].bl) (ok.n1.f1).loc2 (by omega) hzw (by omega) (hop6 _ (List.getElem_mem hil)).1 (hop6 _ (List.getElem_mem hil)).2.1 (hop6 _ (List.getElem_mem hil)).2.2) ?_;rintro _ η31 ⟨Fk4,wk4,Ek4,bk4,rfl,hak4,hbk4,q,hEk4⟩;have Pk4:=bg_pl (ok.n1.f1).m0;have hzk4:=ok.chg.size;have ok:=ok.n1.f1;have ok:=(ok.d0 (dcpI none_ w) ok.r0 (fun _ h=>h)).turnR q hEk4;obtain ⟨Ak4,hAk4⟩:∃x:Bk,(stepB A w.z l[i].abs).1=x:=⟨_,rfl⟩;rw [show (stepB A w.z ⟨l[i].k,l[i].no,l[i].n,l[i].fb,l[i].hd,l[i].bl⟩).1=Ak4 from hAk4] at ok;have hck4:Ak4.dk.chg≤A.dk.chg+1200000:=by rw [←hAk4];exact (step_pl Pk4).2
  obtain ⟨wn,hwn⟩:∃x:WPg,(stepQ wv l[i].abs).1=x:=⟨_,rfl⟩;have hlimn:LimW wn:=by rw [←hwn];exact hlim.step (of_decide_eq_true (hsm.2 i hil))
  have hwzn:wn.z=w.z:=by rw [←hwn];exact step_z.trans hwz
  have hsA:=hrA.step0 hlA (x:=l[i].abs);rw [hwz,hwn] at hsA;have hdA:(stepB A w.z l[i].abs).2=(stepQ wv l[i].abs).2:=by have h:=hsA.1.2;rw [hwz] at h;exact h
  have hrelk4:RelB Ak4 wn:=by rw [←hAk4];exact hsA.2.1
  have hlfk4:Ak4.dk.left<0:=by rw [←hAk4];exact hsA.2.2
  refine ⟨trivial,?_⟩;refine .g 7 true rfl 94 trivial (fun _=>.mvU)<|.g 8 true rfl 102 trivial (fun _=>.ex)<|.g 9 true rfl 103 trivial (fun _=>.ex)<|.g 10 true rfl 104 trivial (fun _=>.ex)<|.o1 12<|.ur' true rfl (.stW (vs:=[.int .i64 (wk4.z:Int),.slice wk4.sa wk4.sl.length wk4.sc,.slice wk4.na wk4.nl.length wk4.nc,.bool wk4.i]) T.sz51 ok.n1 (oneL rfl)) ?_;rintro η32 ⟨ok,cg⟩;refine ⟨trivial,?_⟩;refine .g 13 true rfl 14 trivial (fun _=>.asI)<|.g 14 true rfl 15 trivial (fun _=>.asB)<|.e ?_;refine .seq<|.a 6 (fun fl hh=>cond fl True (Hp h none_ [boxI pb6 51 [.int .i64 (wk4.z:Int),.slice wk4.sa wk4.sl.length wk4.sc,.slice wk4.na wk4.nl.length wk4.nc,.bool wk4.i],boxI pb2 51 [.int .i64 (w.z:Int),.slice w.sa w.sl.length w.sc,.slice w.na w.nl.length w.nc,.bool w.i]] [dcpI Ek4 wk4,dcpI none_ w,rdI (fun j=>EO j∧j<h.size) (fun j=>EO j∧j<h.size) (l[i].ba,l[i].bl.length,l[i].bc) (l[i].bl),opw6I (fun j=>EO j∧j<h.size) (some ⟨bb1,oo1,none⟩,l.length,c) l] hh)) mixed ?_;have hS:=ok.n3.n1.k2;refine .g 0 false rfl 106 hS (fun _=>.mvP)<|.l 1 false rfl 107 hS (fun _ hS=>.ldb T.ag51 hS.m1 T.sz51)<|.g 2 false rfl 108 hS (fun _=>.mvS)<|.g 3 false rfl 109 hS (fun _=>.mvI)<|.g 4 false rfl 110 hS (fun _=>.ix i T.el46 T.sz54)<|.l 5 false rfl 111 (v:=.agg #[.int .u8 (l[i].k:Int),.int .i64 (l[i].no),.int .i64 (l[i].n),.int .u8 (l[i].fb.toNat:Int),.bool (l[i].hd),.slice (l[i].ba) (l[i].bl.length) (l[i].bc)]) hS (fun _ hS=>.ldc (vs:=ROp6.cells l[i]) T.ag54 (sl_ats ROp6.cells_len (hS.r3).sl (i:=i) (by omega)) T.sz54)<|.o2 6 11 ?_ ?_
  ·
   refine .c' true rfl 112 .func (call13_any (p:=po2) (d:=dnd2) (F:=F2) (A:=B) (E:=none_) (z:=w.z) (sa:=w.sa) (sc:=w.sc) (sl:=w.sl) (na:=w.na) (nc:=w.nc) (nl:=w.nl) (ib:=w.i) (fr:=w.fr) (k:=l[i].k) (no:=l[i].no) (n:=l[i].n) (fb:=l[i].fb) (hd:=l[i].hd) (ba:=l[i].ba) (bc:=l[i].bc) (bl:=l[i].bl) (ok.n2.f2.f2).loc2 (by omega) hzw (by omega) (hop6 _ (List.getElem_mem hil)).1 (hop6 _ (List.getElem_mem hil)).2.1 (hop6 _ (List.getElem_mem hil)).2.2) ?_;rintro _ η33 ⟨Fk5,wk5,Ek5,bk5,rfl,hak5,hbk5,q,hEk5⟩;have Pk5:=bg_pl (ok.n2.f2.f2).m0;have hzk5:=ok.chg.size;have ok:=ok.n2.f2.f2;have ok:=(ok.d0 (dcpI none_ w) ok.r0 (fun _ h=>h)).turnR q hEk5;obtain ⟨Ak5,hAk5⟩:∃x:Bk,(stepB B w.z l[i].abs).1=x:=⟨_,rfl⟩;rw [show (stepB B w.z ⟨l[i].k,l[i].no,l[i].n,l[i].fb,l[i].hd,l[i].bl⟩).1=Ak5 from hAk5] at ok;have hck5:Ak5.dk.chg≤B.dk.chg+1200000:=by rw [←hAk5];exact (step_pl Pk5).2
   have hsB:=hrB.step0 hlB (x:=l[i].abs);rw [hwz,hwn] at hsB;have hdB:(stepB B w.z l[i].abs).2=(stepQ wv l[i].abs).2:=by have h:=hsB.1.2;rw [hwz] at h;exact h
   have hrelk5:RelB Ak5 wn:=by rw [←hAk5];exact hsB.2.1
   have hlfk5:Ak5.dk.left<0:=by rw [←hAk5];exact hsB.2.2
   refine ⟨trivial,?_⟩;refine .g 7 true rfl 105 trivial (fun _=>.mvU)<|.g 8 true rfl 113 trivial (fun _=>.ex)<|.g 9 true rfl 114 trivial (fun _=>.ex)<|.g 10 true rfl 115 trivial (fun _=>.ex)<|.o1 11<|.a' true rfl 16 (.alA T.zr51 ok) ?_;rintro _ η34 ⟨pb7,rfl,ok,xe⟩;refine ⟨trivial,?_⟩;refine .o1 12<|.ur' true rfl (.stW (vs:=[.int .i64 (wk5.z:Int),.slice wk5.sa wk5.sl.length wk5.sc,.slice wk5.na wk5.nl.length wk5.nc,.bool wk5.i]) T.sz51 ok (oneL rfl)) ?_;rintro η35 ⟨ok,cg⟩;refine ⟨trivial,?_⟩;refine .g 13 true rfl 17 trivial (fun _=>.asI)<|.g 14 true rfl 18 trivial (fun _=>.asB)<|.e ?_;refine .seq<|.r<|.z .mvI<|.z .mvI<|.z .neq<|.z .mvB<|.sd (fun G119=>?_) (fun G119=>?_)
   ·
    exact absurd (congrArg (fun n:Nat=>(n:Int)) (hdA.trans hdB.symm)) G119
   refine .z .mvP<|.k 121 .func ((gbPages_any (p:=po1) (d:=dnd1) (F:=Fk4) (A:=Ak4) ok.m3).mono fun _ _ q=>(by rw [hrelk4.pages] at q;exact q:_=(.int .i64 ((wn.pages.length:Nat):Int):Value)∧_))<|.z .mvP<|.k 123 .func ((gbPages_any (p:=po2) (d:=dnd2) (F:=Fk5) (A:=Ak5) ok.m1).mono fun _ _ q=>(by rw [hrelk5.pages] at q;exact q:_=(.int .i64 ((wn.pages.length:Nat):Int):Value)∧_))<|.z .neq<|.z .pkf<|.z .mvB<|.sd (fun G126=>?_) (fun G126=>?_)
   ·
    exact absurd rfl G126
   refine .z .mvP<|.k 128 .func ((gbin_any (p:=po1) (d:=dnd1) (F:=Fk4) (A:=Ak4) ok.m3).mono fun _ _ q=>(by rw [hrelk4.br,show Ak4.in_=wn.in_ from hrelk4.in_] at q;exact q:_=(.bool wn.in_:Value)∧_))<|.z .mvP<|.k 130 .func ((gbin_any (p:=po2) (d:=dnd2) (F:=Fk5) (A:=Ak5) ok.m1).mono fun _ _ q=>(by rw [hrelk5.br,show Ak5.in_=wn.in_ from hrelk5.in_] at q;exact q:_=(.bool wn.in_:Value)∧_))<|.z (.bNe T.bo4)<|.z .pkf<|.z .mvB<|.spl (fun G133=>?_) (fun G133=>?_)
   ·
    simp at G133
   refine .z .mvP<|.c' 135 .func (pages13_any (p:=po1) (d:=dnd1) (F:=Fk4) (A:=Ak4) (ok.n3).loc0 (by omega) hrelk4 hlfk4) ?_;rintro _ η36 ⟨Fg7,Eg7,Ag7,ag7,cg7,lg7,rfl,hpg7,hrelg7,hlfg7,hcpg7,q,hEg7⟩;have ok:=(ok.n3).liftR q hEg7;refine .z .mvP<|.c' 137 .func (pages13_any (p:=po2) (d:=dnd2) (F:=Fk5) (A:=Ak5) (ok.n2).loc0 (by omega) hrelk5 hlfk5) ?_;rintro _ η37 ⟨Fg8,Eg8,Ag8,ag8,cg8,lg8,rfl,hpg8,hrelg8,hlfg8,hcpg8,q,hEg8⟩;have ok:=(ok.n2).liftR q hEg8;refine .c' 138 .func (qsame_any (E:=Eg7) (E':=Eg8) (xa:=ag7) (ya:=ag8) (xc:=cg7) (yc:=cg8) (xl:=lg7) (yl:=lg8) ok.r1 ok.r0) ?_;rintro _ η38 ⟨rfl,hx⟩;have ok:=ok.ext hx;refine .z .notd<|.z .pkf<|.nil ?_;refine .cd (fun C3=>?_) (fun C3=>?_)
   ·
    exact absurd (hpg7.trans hpg8.symm) C3
   refine .skip<|.end<|hK1 _ _<|.r<|.z .mvI<|.z (.addI (b:=1))<|.z .asI<|.nil ?_;refine .end<|hJ0 _ _ _ ⟨i+1,Fg7,Fg8,Ag7,Ag8,wn,⟨rfl,rfl,rfl,rfl,rfl,rfl,rfl,trivial⟩,(ok.n4.n1.n2).k3.f6.f4.e2,by omega,by omega,by omega,hrelg7,hrelg8,hlfg7,hlfg8,hlimn,hwzn,rfl⟩ (by omega)
  ·
   refine .a' false rfl 16 (.alA T.zr51 ok) ?_;rintro _ η39 ⟨pb8,rfl,ok,xe⟩;refine ⟨ok.n4.n2.k2,?_⟩;have hS:=ok.n4.n2.k2;refine .o1 6<|.c' true rfl 112 .func (call13_any (p:=po2) (d:=dnd2) (F:=F2) (A:=B) (E:=none_) (z:=w.z) (sa:=w.sa) (sc:=w.sc) (sl:=w.sl) (na:=w.na) (nc:=w.nc) (nl:=w.nl) (ib:=w.i) (fr:=w.fr) (k:=l[i].k) (no:=l[i].no) (n:=l[i].n) (fb:=l[i].fb) (hd:=l[i].hd) (ba:=l[i].ba) (bc:=l[i].bc) (bl:=l[i].bl) (ok.n3.f2.f2).loc2 (by omega) hzw (by omega) (hop6 _ (List.getElem_mem hil)).1 (hop6 _ (List.getElem_mem hil)).2.1 (hop6 _ (List.getElem_mem hil)).2.2) ?_;rintro _ η40 ⟨Fk6,wk6,Ek6,bk6,rfl,hak6,hbk6,q,hEk6⟩;have Pk6:=bg_pl (ok.n3.f2.f2).m0;have hzk6:=ok.chg.size;have ok:=ok.n3.f2.f2;have ok:=(ok.d0 (dcpI none_ w) ok.r0 (fun _ h=>h)).turnR q hEk6;obtain ⟨Ak6,hAk6⟩:∃x:Bk,(stepB B w.z l[i].abs).1=x:=⟨_,rfl⟩;rw [show (stepB B w.z ⟨l[i].k,l[i].no,l[i].n,l[i].fb,l[i].hd,l[i].bl⟩).1=Ak6 from hAk6] at ok;have hck6:Ak6.dk.chg≤B.dk.chg+1200000:=by rw [←hAk6];exact (step_pl Pk6).2
   have hsB:=hrB.step0 hlB (x:=l[i].abs);rw [hwz,hwn] at hsB;have hdB:(stepB B w.z l[i].abs).2=(stepQ wv l[i].abs).2:=by have h:=hsB.1.2;rw [hwz] at h;exact h
   have hrelk6:RelB Ak6 wn:=by rw [←hAk6];exact hsB.2.1
   have hlfk6:Ak6.dk.left<0:=by rw [←hAk6];exact hsB.2.2
   refine ⟨trivial,?_⟩;refine .g 7 true rfl 105 trivial (fun _=>.mvU)<|.g 8 true rfl 113 trivial (fun _=>.ex)<|.g 9 true rfl 114 trivial (fun _=>.ex)<|.g 10 true rfl 115 trivial (fun _=>.ex)<|.o1 12<|.ur' true rfl (.stW (vs:=[.int .i64 (wk6.z:Int),.slice wk6.sa wk6.sl.length wk6.sc,.slice wk6.na wk6.nl.length wk6.nc,.bool wk6.i]) T.sz51 ok.n1 (oneL rfl)) ?_;rintro η41 ⟨ok,cg⟩;refine ⟨trivial,?_⟩;refine .g 13 true rfl 17 trivial (fun _=>.asI)<|.g 14 true rfl 18 trivial (fun _=>.asB)<|.e ?_;refine .seq<|.r<|.z .mvI<|.z .mvI<|.z .neq<|.z .mvB<|.sd (fun G119=>?_) (fun G119=>?_)
   ·
    exact absurd (congrArg (fun n:Nat=>(n:Int)) (hdA.trans hdB.symm)) G119
   refine .z .mvP<|.k 121 .func ((gbPages_any (p:=po1) (d:=dnd1) (F:=Fk4) (A:=Ak4) ok.m3).mono fun _ _ q=>(by rw [hrelk4.pages] at q;exact q:_=(.int .i64 ((wn.pages.length:Nat):Int):Value)∧_))<|.z .mvP<|.k 123 .func ((gbPages_any (p:=po2) (d:=dnd2) (F:=Fk6) (A:=Ak6) ok.m1).mono fun _ _ q=>(by rw [hrelk6.pages] at q;exact q:_=(.int .i64 ((wn.pages.length:Nat):Int):Value)∧_))<|.z .neq<|.z .pkf<|.z .mvB<|.sd (fun G126=>?_) (fun G126=>?_)
   ·
    exact absurd rfl G126
   refine .z .mvP<|.k 128 .func ((gbin_any (p:=po1) (d:=dnd1) (F:=Fk4) (A:=Ak4) ok.m3).mono fun _ _ q=>(by rw [hrelk4.br,show Ak4.in_=wn.in_ from hrelk4.in_] at q;exact q:_=(.bool wn.in_:Value)∧_))<|.z .mvP<|.k 130 .func ((gbin_any (p:=po2) (d:=dnd2) (F:=Fk6) (A:=Ak6) ok.m1).mono fun _ _ q=>(by rw [hrelk6.br,show Ak6.in_=wn.in_ from hrelk6.in_] at q;exact q:_=(.bool wn.in_:Value)∧_))<|.z (.bNe T.bo4)<|.z .pkf<|.z .mvB<|.spl (fun G133=>?_) (fun G133=>?_)
   ·
    simp at G133
   refine .z .mvP<|.c' 135 .func (pages13_any (p:=po1) (d:=dnd1) (F:=Fk4) (A:=Ak4) (ok.n3).loc0 (by omega) hrelk4 hlfk4) ?_;rintro _ η42 ⟨Fg9,Eg9,Ag9,ag9,cg9,lg9,rfl,hpg9,hrelg9,hlfg9,hcpg9,q,hEg9⟩;have ok:=(ok.n3).liftR q hEg9;refine .z .mvP<|.c' 137 .func (pages13_any (p:=po2) (d:=dnd2) (F:=Fk6) (A:=Ak6) (ok.n2).loc0 (by omega) hrelk6 hlfk6) ?_;rintro _ η43 ⟨Fg10,Eg10,Ag10,ag10,cg10,lg10,rfl,hpg10,hrelg10,hlfg10,hcpg10,q,hEg10⟩;have ok:=(ok.n2).liftR q hEg10;refine .c' 138 .func (qsame_any (E:=Eg9) (E':=Eg10) (xa:=ag9) (ya:=ag10) (xc:=cg9) (yc:=cg10) (xl:=lg9) (yl:=lg10) ok.r1 ok.r0) ?_;rintro _ η44 ⟨rfl,hx⟩;have ok:=ok.ext hx;refine .z .notd<|.z .pkf<|.nil ?_;refine .cd (fun C3=>?_) (fun C3=>?_)
   ·
    exact absurd (hpg9.trans hpg10.symm) C3
   refine .skip<|.end<|hK1 _ _<|.r<|.z .mvI<|.z (.addI (b:=1))<|.z .asI<|.nil ?_;refine .end<|hJ0 _ _ _ ⟨i+1,Fg9,Fg10,Ag9,Ag10,wn,⟨rfl,rfl,rfl,rfl,rfl,rfl,rfl,trivial⟩,(ok.n4.n1.n2).k3.f6.f4.e2,by omega,by omega,by omega,hrelg9,hrelg10,hlfg9,hlfg10,hlimn,hwzn,rfl⟩ (by omega)
theorem brooms_row {h:Heap} {a:Option Addr} {n c:Nat} {l:List ROp6} {x y z:UInt8} (hl:RwB 6 ROp6.cells ROp6.sb h any_ (a,n,c) l∧OpsOk6 l):HC Tryz.prog 5 #[.agg #[bv x,bv y,bv z],.slice a n c] h (fun v h'=>v=.bool true∧Ext h h'):=by
 obtain ⟨hl,hs⟩:=hl;obtain rfl:n=l.length:=hl.n;exact brooms_walk hl hs x.toNat_lt y.toNat_lt z.toNat_lt
end Go.Proofs.YtpeaicddbnghfaaGreat
namespace Go.HL
open Go Go.RowKit Go.ChangeShapes Go.WideShapes Go.ChangeAt
theorem okWide_array {P:Program} {w:World} {r:Reach} {base:Nat} {t e:TypeId} {n:Nat} {v:Value} (ht:P.underlying t=some (.array n e)) (h:Value.okWide P w r base t v):∃cs,v=.agg cs∧cs.size=P.cellsOf t:=by
 simp only [Value.okWide,ht] at h;obtain ⟨cs,h1,h2,_⟩:=h;exact ⟨cs,h1,h2⟩
theorem all_bv:∀ {cs:List Value},(∀i (h:i<cs.length),∃y:UInt8,cs[i]=bv y)→∃l:List UInt8,cs=l.map bv
 | [],_=>⟨[],rfl⟩
 | c::cs,h=>by
  obtain ⟨y,hy⟩:=h 0 (by simp);obtain ⟨l,hl⟩:=all_bv (cs:=cs) fun i hi=>by
   have:=h (i+1) (by simp;omega);simpa using this
  exact ⟨y::l,by rw [hl,List.map_cons,←hy];rfl⟩
theorem Opn.arrU8 {P:Program} {t e:TypeId} {n:Nat} (ht:P.underlying t=some (.array n e)) (he:P.underlying e=some (.int .u8)) (hc:P.cellsOf t=n) (hc1:P.cellsOf e=1):Opn P t (fun _ cs (l:List UInt8)=>cs=l.map bv∧l.length=n):=⟨fun {_ _ _ _ _ _ cs _} hx=>by
 obtain ⟨xs,m,_,_,hl,hn,hel⟩:=DataW.trod_array ht hx;rw [hc] at hl;obtain ⟨l,rfl⟩:=all_bv (cs:=cs) fun i hi=>by
  have h1:=hel i (by omega);rw [hc1,List.getElem?_eq_getElem (by omega)] at h1;obtain ⟨y,hy⟩:=(Opn.u8 he).run h1;refine ⟨y,?_⟩;have h2:((cs.drop (i*1)).take 1)[0]? = some (bv y):=by rw [hy];rfl
  rw [List.getElem?_take_of_lt (by omega),List.getElem?_drop,Nat.mul_one,Nat.add_zero,List.getElem?_eq_getElem hi] at h2;injection h2
 exact ⟨l,rfl,by simpa using hl⟩⟩
theorem len_3 {l:List UInt8} (h:l.length=3):∃a b c,l=[a,b,c]:=by
 match l,h with
 | [a,b,c],_=>exact ⟨a,b,c,rfl⟩
end Go.HL
namespace Go.Proofs.YtpeaicddbnghfaaGreat
open Go Go.HL Go.ChangeShapes Go.WideShapes Go.ChangeAt Go.RowKit
theorem backRooms_lifted (os:Os) (started:os.Started) (H:Type) (enc:TypeId × Value→H) :
  ReturnsInHanded {} Tryz.checked os 5 .any (Rows.backRoomsSpec.pre6 enc Tryz.prog Tryz.f5 Rows.backRoomsRow.domain false) (Rows.backRoomsSpec.post enc Tryz.prog Tryz.f5 false true false false):=by
 refine returnsInHanded_of_change (C:=Tryz.checked) own_knob started (by kernel_rfl) Tryz.func5
  (ChangeSpec.witness6 (enc:=enc) (C:=Tryz.checked) false ⟨#[],#[.agg #[.int .u8 0,.int .u8 0,.int .u8 0],.slice none 0 0],[]⟩ 8 (by kernel_rfl) (by kernel_rfl) (by kernel_rfl) (by kernel_rfl)) ?_
 intro W base args ds gs before hval0 hW hcnd _;have hval:∀(j:Nat) t v,Tryz.f5.params[j]? = some t→args[j]? = some v→Value.okWide Tryz.prog W .any base t v:=hval0;have hW':=hW;obtain ⟨p,q,hA0,hV,rfl,hfz,hnd⟩:=hW;have hA:DataW.TrodAll enc Tryz.prog W 0 (fun _=>true) true Tryz.f5.params.toList args.toList ds p:=hA0;rw [Tryz.params5] at hA hval;obtain ⟨v0,vs0,d0,ds0,p0,q0,hargs,rfl,rfl,h0,r0⟩:=trodAll_cons hA;obtain ⟨v1,vs1,d1,ds1,p1,q1,rfl,rfl,rfl,h1,r1⟩:=trodAll_cons r0;obtain ⟨rfl,rfl,rfl⟩:=trodAll_nil r1;obtain rfl:args = #[v0,v1]:=by cases args;simp_all
 obtain ⟨cs0,rfl,_⟩:=okWide_array Tryz.underlying61 (hval 0 61 v0 rfl rfl);obtain ⟨l0,hy0,hl0⟩:=(Opn.arrU8 Tryz.underlying61 Tryz.underlying5 (by kernel_rfl) (by kernel_rfl)).arg h0;obtain ⟨x0a,x0b,x0c,rfl⟩:=Go.HL.len_3 hl0;obtain ⟨ys0⟩:=cs0;obtain rfl:ys0=_:=hy0;obtain ⟨a1,n1,c1,rfl⟩:=okWide_slice Tryz.underlying46 (hval 1 46 v1 rfl rfl);obtain ⟨l1,y1,hy1,hl1⟩:=opn_ops13.arg h1;obtain rfl:=sv_cells hy1;refine ((brooms_row (x:=x0a) (y:=x0b) (z:=x0c) hl1).2 _ W (At.self W)).mono fun e W' ⟨v,h',he,at',hv,hx⟩=>?_;subst he;subst hv;exact ⟨_,rfl,law_post laid_out hW' rfl (by kernel_rfl) rfl Tryz.underlying4 rfl at' hx⟩
theorem backRooms_holds:Rows.BackRoomsSaid:=
 OpenClaim.holds_of_wide 5 Tryz.f5 rfl rfl rfl rfl rfl rfl rfl ⟨rfl,rfl,rfl,rfl,rfl⟩ rfl rfl rfl rfl rfl (by kernel_rfl) Tryz.func5 (by kernel_rfl)
  (of_decide_eq_true (by kernel_rfl)) (by unfold Func.isWrapper;first | (rw [if_pos (by decide +kernel)];kernel_rfl) | (rw [if_neg (by decide +kernel)];exact ⟨rfl,rfl⟩))
  (fun os started H enc _=>backRooms_lifted os started H enc)
end Go.Proofs.YtpeaicddbnghfaaGreat
