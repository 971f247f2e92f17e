/- What each operation of the model yields, as rules of the logic. Conditions: those that each rule names. The operations that make or turn memory, as rules of the logic. Conditions: those that each rule names. The rules of the logic in few words: code as a list of what is still to run. Conditions: those that each rule names. Memory as a list of separate items that may turn, and a list of items that are read alone. Conditions: those that each fact names. Closed facts on the types of this translation, written by a program of this claim; each is decided by the kernel. The calls of the pager that keeps a journal, told in plain terms alone. Conditions: the pager with its disk is one item, and few changes were made. The document's pager: Resize, Unlike, Commit; Same of pages. Conditions: the state is readable, and small. The document's pager of layer 13: its calls; Same of pages. Conditions: the state is readable, and small. The pager that keeps a journal and the document's, in plain terms: each call keeps them alike and tells the same, or the power goes; opening. Conditions: those that each fact names. A call of the laws keeps the two pagers alike, in plain terms, or the power goes; little pagers stay little. Conditions: those that each fact names. All pages of a pager that keeps a journal. Conditions: it is in order, and there is power. The law BackPlays: any calls, the file being opened anew in between. Conditions: the calls are readable. The law BackPlays at arguments as they come in. Conditions: they are readable. The law BackPlays returns true at every input and leaves its arguments as they were. Conditions: none. -/
import Derived.Test.YtpeaicddbnghfaaGreatPkB9
import Derived.Test.YtpeaicddbnghfaaGreatProg
import Derived.Test.YtpeaicddbnghfaaGreatRows
set_option maxRecDepth 100000
set_option maxHeartbeats 2000000
set_option linter.all false
namespace Go.HL
open Go
def boB (P:Program) (t:TypeId):Bool:=match P.underlying t with | some .bool=>true | _=>false
theorem boB_iff {P:Program} {t:TypeId} (h:boB P t=true):P.underlying t=some .bool:=by
 unfold boB at h;split at h<;>simp_all
namespace V
variable {P:Program} {s:Slots} {h:Heap} {d:Option Tmp} {ty:TypeId} {pos:String} {af:Array Edge} {g:Option (Nat × Bool)} {x y c:Operand} {t u:TypeId}
theorem eqGB {op:BinOp} {a b:Bool} {w:World} : (eqGuard op t x y (.bool a) (.bool b)).run P w=.ok () w:=by
 unfold eqGuard;cases op<;>simp
theorem equal_bo {a b:Bool} (ht:boB P t=true) (w:World):(Op.equal t (.bool a) (.bool b)).run P w=.ok (a == b) w:=run_equal_bool w t a b (boB_iff ht)
theorem boNeq {a b r:Bool} (hx:ev s x=.bool a) (hy:ev s y=.bool b) (ht:boB P t=true) (hr:(a != b)=r):OpV P ⟨d,.binOp .neq t x y u,ty,pos,af,g⟩ s h (.bool r):=fun w _=>by
 subst hr;simp [execOp,hx,hy,eqGB,binOp,equal_bo ht,bne]
end V
open Go
namespace OpV
variable {P:Program} {s:Slots} {h:Heap} {d:Option Tmp} {ty:TypeId} {pos:String} {af:Array Edge} {g:Option (Nat × Bool)} {x y c:Operand} {t u:TypeId}
theorem bNe {a b:Bool} (ht:boB P t=true) (hx:ev s x=.bool a:=by exact rfl) (hy:ev s y=.bool b:=by exact rfl):OpV P ⟨d,.binOp .neq t x y u,ty,pos,af,g⟩ s h (.bool (a != b)):=V.boNeq hx hy ht rfl
end OpV
open Go
section
variable {h0 h:Heap} {D:Nat→Prop} {M R:List Itm} {q0 q1 q2 q3 q4 q5 q6 q7 q8 q9:Itm}
theorem Hp.f4 (ok:Hp h0 D M (q0::q1::q2::q3::q4::R) h):Hp h0 D M (q4::q0::q1::q2::q3::R) h:=ok.sub (by simp;grind)
theorem Hp.f5 (ok:Hp h0 D M (q0::q1::q2::q3::q4::q5::R) h):Hp h0 D M (q5::q0::q1::q2::q3::q4::R) h:=ok.sub (by simp;grind)
end
end Go.HL
namespace Go.Proofs.YtpeaicddbnghfaaGreat
open Go Go.HL
namespace T
theorem ag2:agB Go.Proofs.Tryz.prog 2=some false:=by kernel_rfl
theorem bo4:boB Go.Proofs.Tryz.prog 4=true:=by kernel_rfl
end T
open Go Go.HL
section
variable {h h':Heap} {d p:Nat} {F:Nat→Prop} {A:Bk}
theorem gbsize_any (ok:(bgI p d F A).p h) :
  HC Tryz.prog 34 #[.pointer (some ⟨p,0,none⟩)] h (fun v h'=>v=.int .i64 ((if A.broken=true then 0 else A.size:Nat):Int)∧h'=h):=by
 obtain ⟨r,ha,hb⟩:=bg_box ok;have:=bsize_any hb;rw [show r.broken=A.broken from congrArg Bk.broken ha,show r.size=A.size from congrArg Bk.size ha] at this;exact this
theorem gbPages_any (ok:(bgI p d F A).p h) :
  HC Tryz.prog 32 #[.pointer (some ⟨p,0,none⟩)] h (fun v h'=>v=.int .i64 ((if A.broken=true then 0 else presB A:Nat):Int)∧h'=h):=by
 obtain ⟨r,ha,hb⟩:=bg_box ok;have:=bPages_any hb;rw [show r.broken=A.broken from congrArg Bk.broken ha,show presK r=presB A from congrArg presB ha] at this;exact this
end
open Go Go.HL
theorem pgs_get {l:List RB} {i:Nat} : (pgs l)[i]? = l[i]?.map RB.l:=List.getElem?_map
theorem qsame_any {h:Heap} {E E':Nat→Prop} {xa ya:Option Addr} {xc yc:Nat} {xl yl:List RB} (hx:PgB h E (xa,xl.length,xc) xl) (hy:PgB h E' (ya,yl.length,yc) yl) :
  HC Tryz.prog 35 #[.slice xa xl.length xc,.slice ya yl.length yc] h (fun v h'=>v=.bool (decide (pgs xl=pgs yl))∧Ext h h'):=by
 have hxm:=hx.m;have hym:=hy.m;have ok:=((Hp.nil h none_).old (pgwI (fun j=>E' j∧j<h.size) (ya,yl.length,yc) yl) (hy.lt (by decide)) (fun j hj=>hj.2)).old (pgwI (fun j=>E j∧j<h.size) (xa,xl.length,xc) xl) (hx.lt (by decide)) (fun j hj=>hj.2);refine HC.go Tryz.func35 27 ?_;refine .seq<|.r<|.z .asB<|.nil ?_;refine .seq<|.seq<|.r<|.z .mvS<|.z (.len T.el26)<|.z .mvS<|.z (.len T.el26)<|.z .neq<|.nil ?_;refine .cd (fun C0=>?_) (fun C0=>?_)
 ·
  refine .seq<|.r<|.z .asB<|.nil ?_;refine .ret ⟨.bool false,Res.one rfl rfl,⟨by rw [decide_eq_false];intro e;have:=congrArg List.length e;rw [pgs_len,pgs_len] at this;omega,ok.chg⟩⟩
 refine .skip<|.seq<|.seq<|.r<|.z .asI<|.nil ?_;refine .block fun K0 hK0=>.loop (fun m s hh=>∃(i:Nat),Has s [(0,.slice xa xl.length xc),(1,.slice ya yl.length yc),(5,.int .i64 (i:Int))]∧Hp h none_ [] [pgwI (fun j=>E j∧j<h.size) (xa,xl.length,xc) xl,pgwI (fun j=>E' j∧j<h.size) (ya,yl.length,yc) yl] hh∧i≤xl.length∧(pgs xl).take i=(pgs yl).take i∧m=xl.length-i) ?_ ?_
 ·exact ⟨_,0,⟨rfl,rfl,rfl,trivial⟩,ok,Nat.zero_le _,rfl,rfl⟩
 rintro _ _ η1 ⟨i,hs,ok,hi,htk,rfl⟩ J0 hJ0;refine .frame hs fun τ=>?_;refine .seq<|.seq<|.r<|.z .mvI<|.z .mvS<|.z (.len T.el26)<|.z .lss<|.nil ?_;refine .cdr (fun C1=>?_) (fun C1=>?_)
 ·
  have hie:i=xl.length:=by omega
  have hie2:i=yl.length:=by omega
  refine .exit<|hK0 _ _<|.seq<|.r<|.z .asB<|.nil ?_;refine .ret ⟨.bool true,Res.one rfl rfl,⟨by rw [decide_eq_true];rw [←List.take_length (l:=pgs xl),←List.take_length (l:=pgs yl),pgs_len,pgs_len,←hie,←hie2];exact htk,ok.chg⟩⟩
 have hiX:i<xl.length:=by omega
 have hiY:i<yl.length:=by omega
 refine .skip<|.seq<|.block fun K1 hK1=>.seq<|.q (hm:=mixed)<|.z .mvS<|.z .mvI<|?_;obtain ⟨bb1,oo1,rfl,fb1⟩:=ok.r0.pos (by omega);refine .z (.ix1 i T.el26 T.sz22)<|?_;have ok:=ok.d0 (rdI (fun j=>E j∧j<h.size) (fun j=>E j∧j<h.size) (xl[i].a,xl[i].l.length,xl[i].c) xl[i].l) ((ok.r0).by' _ (List.getElem_mem hiX)) (fun _ h=>h.elim id id);refine .z (.ld T.ag22 (sl_at1 RB.cells_len (ok.r1).sl (i:=i) (by omega) rfl))<|.z .mvS<|.z .mvI<|?_;obtain ⟨bb2,oo2,rfl,fb2⟩:=ok.r2.pos (by omega);refine .z (.ix1 i T.el26 T.sz22)<|?_;have ok:=ok.d2 (rdI (fun j=>E' j∧j<h.size) (fun j=>E' j∧j<h.size) (yl[i].a,yl[i].l.length,yl[i].c) yl[i].l) ((ok.r2).by' _ (List.getElem_mem hiY)) (fun _ h=>h.elim id id);refine .z (.ld T.ag22 (sl_at1 RB.cells_len (ok.r3).sl (i:=i) (by omega) rfl))<|.k 25 .func (same_any (a:=xl[i].a) (c:=xl[i].c) (l:=xl[i].l) (b:=yl[i].a) (d:=yl[i].c) (l2:=yl[i].l) ok.r1 ok.r0)<|.z .notd<|.nil ?_;refine .cd (fun C2=>?_) (fun C2=>?_)
 ·
  refine .seq<|.r<|.z .asB<|.nil ?_;refine .ret ⟨.bool false,Res.one rfl rfl,⟨by rw [decide_eq_false];intro e;have h3:(pgs xl)[i]? = (pgs yl)[i]?:=(by rw [e]);rw [pgs_get,pgs_get,List.getElem?_eq_getElem hiX,List.getElem?_eq_getElem hiY] at h3;simp only [Option.map_some,Option.some.injEq] at h3;exact C2 h3,ok.chg⟩⟩
 refine .skip<|.end<|hK1 _ _<|.r<|.z .mvI<|.z (.addI (b:=1))<|.z .asI<|.nil ?_;refine .end<|hJ0 _ _ _ ⟨i+1,⟨rfl,rfl,rfl,trivial⟩,ok.tR.tR,by omega,by rw [List.take_succ_eq_append_getElem (by rw [pgs_len];omega),List.take_succ_eq_append_getElem (by rw [pgs_len];omega),htk,pgs_at hiX,pgs_at hiY,show xl[i].l=yl[i].l by simpa using C2],rfl⟩ (by omega)
section
variable {A:Bk} {s P:List (List UInt8)}
theorem Rl.heal (R:Rl A s P):Res A.dk (healB A.dk) (CleanB s) (GdBD A.size s)∧(healB A.dk).1.chg≤A.dk.chg+70000:=by
 obtain ⟨cur,k,p⟩:=R.kp;cases hbe:A.begun with
 | false=>
  obtain ⟨T,S,hT⟩:=k.clean hbe;have hm:¬((sizeN A.dk nM).2=true∧0<(sizeN A.dk nM).1):=by
   have stM:FSt (A.dk.fs nM) none [] none:=by rw [S.M];exact .syn none
   rw [size_st S.hd stM];rintro ⟨h,_⟩;cases h
  refine ⟨heal_own S k.pg (.z0 rfl hT) (by simp),?_⟩;rw [heal_no hm,if_neg (by rw [S.hd];decide)];have:=over_chg (d:=A.dk);omega
 | true=>
  obtain ⟨fs,hj,hm,hk,e1,e2⟩:=k.bg hbe;obtain ⟨base,ops,st,hb,hk2,_⟩:=k.st;have hml:(List.replicate A.marked (0:UInt8)).length=fs.length+1:=by rw [List.length_replicate,hm]
  have hfew:=hj.few (by rw [←hk];exact k.kd);have hmf:=most_fit k.sz.1 (Nat.le_trans hfew k.hm);have hmr:=k.pg.many;have hfs':fs=fs.take ((List.replicate A.marked (0:UInt8)).length-1):=by rw [hml,Nat.add_sub_cancel,List.take_length]
  have hJl:(jheadN A.size s.length A.nonce++(jputsN A.nonce fs++[])).length≤16777216:=by rw [List.append_nil,List.length_append,jheadN_len,jputsN_len hj.1];omega
  have e1':A.dk.fs nJ=synF (some (jheadN A.size s.length A.nonce++(jputsN A.nonce fs++[]))):=by rw [List.append_nil];exact e1
  have hne:List.replicate A.marked (0:UInt8)≠[]:=by rw [hm];simp [List.replicate_succ]
  have hh:=heal_j (fs':=fs) k.hd k.pg k.no hj hne (by omega) hfs' hJl ⟨e1',e2,base,ops,cur,st,by rw [←hk];exact hb,by rw [←hk];exact hk2,by rw [←hk];exact k.ck,k.cn⟩;have hc:=heal_je (fs':=fs) k.hd k.pg k.no hj hne (by omega) hfs' hJl e1' e2;refine ⟨hh,?_⟩;rw [hc];have:=heal_jchg (d:=A.dk) (z:=A.size) (u:=s.length) (fs:=fs);omega
theorem Rl.opn {room:Int} (R:Rl A s P) (hr:1≤room∧room≤1048576) (hl:A.dk.left<0):(openB A.dk A.size room).2=(s.length*A.size,0)∧DkOk (openB A.dk A.size room).1∧Rl (openedB (openB A.dk A.size room).1 A.size room (s.length*A.size)) s s∧(openB A.dk A.size room).1.left<0∧(openB A.dk A.size room).1.chg≤A.dk.chg+70000:=by
 obtain ⟨hh,hc⟩:=R.heal;have k:DkOk (healB A.dk).1:=R.fo.dk.heal;rcases opn_of R.hd hh R.pg.1 R.pg.2 hr with ⟨e,e2,e3⟩ | ⟨_,_,e,_⟩
 ·rw [e];exact ⟨rfl,k,opened_rl e3 k R.pg.1 R.pg.2 hr,e2 hl,hc⟩
 ·omega
end
def openQ (w:WPg):WPg:=⟨w.z,w.sure,[],false,w.fr⟩
section
variable {A:Bk} {w:WPg} (R:RelB A w)
include R
theorem RelB.opn {room:Int} (hr:1≤room∧room≤1048576) (hl:A.dk.left<0):(openB A.dk w.z room).2=(w.sure.length*w.z,0)∧(DkOk (openB A.dk w.z room).1∧∃s,Rl (openedB (openB A.dk w.z room).1 w.z room (openB A.dk w.z room).2.1) s s)∧(openB A.dk w.z room).1.left<0∧RelB (openedB (openB A.dk w.z room).1 w.z room (openB A.dk w.z room).2.1) (openQ w)∧(openB A.dk w.z room).1.chg≤A.dk.chg+70000:=by
 obtain ⟨h1,h2,h3,h4,h5⟩:=R.R.opn hr hl;rw [R.z] at h1 h2 h3 h4 h5;have e:(openB A.dk w.z room).2.1=w.sure.length*w.z:=congrArg Prod.fst h1;rw [e];exact ⟨h1,⟨h2,_,h3⟩,h4,⟨rfl,rfl,rfl,fun _=>rfl,h3⟩,h5⟩
end
open Go Go.HL
theorem LimW.opn {w:WPg} (L:LimW w):LimW (openQ w):=⟨L.s,by simp [openQ]⟩
theorem LimW.pages {w:WPg} (L:LimW w):w.pages.length≤40:=by unfold WPg.pages;split;exact L.n;exact L.s
section
variable {A:Bk} {w:WPg} {x:PO6} (R:RelB A w)
include R
theorem RelB.step0 (hl:A.dk.left<0):told13 A w x∧RelB (stepB A w.z x).1 (stepQ w x).1∧(stepB A w.z x).1.dk.left<0:=by
 rcases R.step (x:=x) with ⟨h1,h2,h3⟩ | ⟨_,h | h⟩
 ·exact ⟨h1,h2,h3 hl⟩
 ·have:=h.left;omega
 ·have:=h.2.2.left;omega
theorem RelB.read_in (hl:A.dk.left<0) {k:Nat} (hk:k<w.pages.length):(readB A ((k:Int)+1)).2=(w.pages.getD k [],0)∧RelB (readB A ((k:Int)+1)).1 w∧(readB A ((k:Int)+1)).1.dk.left<0:=by
 rcases R.read (no:=(k:Int)+1) with ⟨h1,h2,h3⟩ | ⟨_,h⟩
 ·refine ⟨?_,h2,h3 hl⟩;rw [h1,readP_2 (by rintro (h | h)<;>omega)];congr 2;omega
 ·have:=h.left;omega
end
theorem tmod6 (x:Int) : -6<x.tmod 6∧x.tmod 6<6:=by
 rcases Int.le_total 0 x with h | h
 ·rw [Int.tmod_eq_emod_of_nonneg h];omega
 ·have:(-x).tmod 6 = -(x.tmod 6):=Int.neg_tmod x 6;rw [Int.tmod_eq_emod_of_nonneg (show 0≤-x by omega)] at this;omega
end Go.Proofs.YtpeaicddbnghfaaGreat
namespace Go.HL
open Go
theorem OpV.remT {P:Program} {s:Slots} {h:Heap} {d:Option Tmp} {t u ty:TypeId} {x y:Operand} {pos:String} {af:Array Edge} {g:Option (Nat × Bool)} {k:IntKind} {a b:Int} (hx:ev s x=.int k a:=by exact rfl) (hy:ev s y=.int k b:=by exact rfl) (hb:b≠0:=by decide):OpV P ⟨d,.binOp .rem t x y u,ty,pos,af,g⟩ s h (.int k (a.tmod b)):=fun w _=>by
 simp [execOp,hx,hy,V.eqG,binOp,Op.intDiv,hb]
open Go.Proofs.YtpeaicddbnghfaaGreat
theorem Hp.owned {h0 h:Heap} {D:Nat→Prop} {M R:List Itm} {a:Itm} (ok:Hp h0 D (a::M) R h):∀j,a.F j→D j∨h0.size≤j:=fun j hj=>((ok.m a List.mem_cons_self).2 j hj).2
theorem Hp.pgFrz {h0 h:Heap} {D Eo:Nat→Prop} {M R:List Itm} {e:TypeId} {a:Option Addr} {c:Nat} {l:List RB} (ok:Hp h0 D (capI 1 e (a,l.length,c) (l.flatMap RB.cells)::M) (pbyI Eo l::R) h):Hp h0 D M (pgwI (fun j=>blkC (sv (a,l.length,c)) j∨Eo j) (a,l.length,c) l::R) h:=by
 have o:=ok.frz;have o2:=o.or (r:=capI 1 e (a,l.length,c) (l.flatMap RB.cells)) (r':=pbyI Eo l) (by simp) (by simp) (pgwI (fun j=>blkC (sv (a,l.length,c)) j∨Eo j) (a,l.length,c) l) (PgB.of o.r0 o.r1 (fun j h=>.inl h) (fun j h=>.inr h)) (fun j h=>h);exact o2.sub (by simp;intro a h;exact .inr (.inr (.inr h)))
theorem Hp.liftR {h0 h h':Heap} {D:Nat→Prop} {M R:List Itm} {a a' x:Itm} (ok:Hp h0 D (a::M) R h) (q:Hp h a.F [a'] [x] h') (hx:∀j,x.F j→a.F j∨h.size≤j):Hp h0 D (a'::M) (x::R) h':=by
 have o:=ok.upd q.chg (fun _ x=>x) a' q.m0 fun j hj=>by
  have h1:=(q.m _ List.mem_cons_self).2 j hj;exact h1.2.imp id fun h=>⟨h,h1.1⟩
 refine ⟨o.chg,o.m,fun i hi=>?_,o.mm,fun m hm z hz j hj hj2=>?_⟩
 ·rcases List.mem_cons.1 hi with rfl | hi
  ·exact q.r _ (by simp)
  ·exact o.r i hi
 ·rcases List.mem_cons.1 hz with rfl | hz
  ·rcases List.mem_cons.1 hm with rfl | hm
   ·exact q.mr _ (by simp) _ (by simp) j hj hj2
   ·rcases hx j hj2 with h1 | h1
    ·exact (List.pairwise_cons.1 ok.mm).1 m hm j h1 hj
    ·have:=((ok.m m (List.mem_cons_of_mem _ hm)).2 j hj).1;omega
  ·exact o.mr m hm z hz j hj hj2
end Go.HL
namespace Go.Proofs.YtpeaicddbnghfaaGreat
open Go Go.HL
theorem pg_all {α:Type} {l:List α} {k:Nat} (h1:k≤l.length) (h2:k≤64) (h:l.length≤k∨64≤k):l.take k=l.take 64:=by
 rcases h with h | h
 ·rw [List.take_of_length_le h,List.take_of_length_le (by omega)]
 ·rw [show k=64 by omega]
theorem pg_step {P:List (List UInt8)} {ol:List RB} {k:Nat} {x:RB} (h:pgs ol=P.take k) (hk:k<P.length) (hx:x.l=P.getD k []):pgs (ol++[x])=P.take (k+1):=by
 rw [pgs_snoc,h,List.take_succ_eq_append_getElem hk,hx];congr 2;simp [hk]
theorem pages13_any {h:Heap} {p d:Nat} {F:Nat→Prop} {A:Bk} {w:WPg} (ok:Hp h F [bgI p d F A] [] h) (hcg:A.dk.chg<290000000) (hR:RelB A w) (hlf:A.dk.left<0):HC Tryz.prog 36 #[.pointer (some ⟨p,0,none⟩)] h (fun v h'=>∃F' E A' a c l,v=.slice a l.length c∧pgs l=w.pages.take 64∧RelB A' w∧A'.dk.left<0∧A'.dk.chg≤A.dk.chg+1000∧Hp h F [bgI p d F' A'] [pgwI E (a,l.length,c) l] h'∧∀j,E j→F j∨h.size≤j):=by
 refine HC.go Tryz.func36 30 ?_;refine .seq<|.r<|.z .asS<|.nil ?_;refine .seq<|.r<|.z .asS<|.nil ?_;refine .seq<|.seq<|?_;have ok:=ok.nilC (k:=1) (e:=22);have ok:=ok.pbyNil;refine .r<|.z .asI<|.nil ?_;refine .block fun K0 hK0=>.loop (fun m s hh=>∃(k:Nat) (ol:List RB) (a3:Option Addr) (c3:Nat) (Eo Fp:Nat→Prop) (Ap:Bk),Has s [(0,.pointer (some ⟨p,0,none⟩)),(3,.slice a3 ol.length c3),(4,.int .i64 ((k:Int)+1))]∧Hp h F [capI 1 22 (a3,ol.length,c3) (ol.flatMap RB.cells),bgI p d Fp Ap] [pbyI Eo ol] hh∧k≤w.pages.length∧k≤64∧ol.length=k∧pgs ol=w.pages.take k∧(∀j,Eo j→F j∨h.size≤j)∧RelB Ap w∧Ap.dk.left<0∧Ap.dk.chg≤A.dk.chg+10*k∧m=w.pages.length-k) ?_ ?_
 ·exact ⟨_,0,[],none,0,none_,F,A,⟨rfl,rfl,rfl,trivial⟩,(ok).k2,by omega,by omega,rfl,rfl,(fun j f=>f.elim),hR,hlf,by omega,rfl⟩
 rintro _ _ η1 ⟨k,ol,a3,c3,Eo,Fp,Ap,hs,ok,hk1,hk2,hol,hpo,hEo,hR,hlf,hch,rfl⟩ J0 hJ0;refine .frame hs fun τ=>?_;refine .seq<|.seq<|?_;have hPg:=hR.pages;refine .r<|.z .mvI<|.z .mvP<|.k 9 .func (gbPages_any (p:=p) (d:=d) (F:=Fp) (A:=Ap) ok.m1)<|.z .leq<|.z .mvB<|.sd (fun G11=>?_) (fun G11=>?_)
 ·
  refine .z .mvI<|.z .leq<|.z .pkt<|.nil ?_;refine .cdr (fun C0=>?_) (fun C0=>?_)
  ·
   have hPg2:=hR.pages;refine .exit<|hK0 _ _<|.seq<|.r<|.z .mvS<|.z .asS<|.nil ?_;refine .ret ⟨.slice a3 ol.length c3,Res.one rfl rfl,⟨Fp,_,Ap,a3,c3,ol,rfl,(by rw [hpo];exact pg_all hk1 hk2 (by omega)),hR,hlf,by omega,Hp.pgFrz (ok),(fun j hj=>hj.elim (fun h1=>(ok).owned j h1) (fun h1=>hEo j h1))⟩⟩
  have hkl:k<w.pages.length:=by omega
  refine .skip<|.seq<|.block fun K1 hK1=>.seq<|.r<|.z .mvP<|.z .mvI<|.c' 20 .func (gbread_any (p:=p) (d:=d) (F:=Fp) (A:=Ap) (no:=((k:Int)+1)) (ok.n1).loc0 (by omega)) ?_;rintro _ η2 ⟨Fg1,ag1,cg1,rfl,q⟩;have Pg1:=bg_pl (ok.n1).m0;have ok:=(ok.n1).lift2 q;obtain ⟨Ag1,hAg1⟩:∃x:Bk,(readB Ap ((k:Int)+1)).1=x:=⟨_,rfl⟩;rw [hAg1] at ok;have hcg1:Ag1.dk.chg≤Ap.dk.chg+1200000:=by rw [←hAg1];exact (Int.le_trans Pg1.read.2 (by omega))
  refine .z .mvU<|.z .ex<|.z .ex<|.z .asS<|.z .asI<|.nil ?_;refine .seq<|.seq<|?_;have hrd:=hR.read_in hlf hkl;have hc10:=Pg1.read (no:=(k:Int)+1) |>.2
  rw [hAg1] at hc10 hrd;refine .r<|.z .mvI<|.z .neq<|.nil ?_;refine .cd (fun C1=>?_) (fun C1=>?_)
  ·
   exact absurd (by rw [hrd.1];rfl) C1
  refine .skip<|.r<|.z .mvS<|.z .mvS<|.a' 27 (.lit [.tmp 26] (cs:=[.slice ag1 ((readB Ap ((k:Int)+1)).2.1.length) cg1]) T.el26 T.sz22 T.zr22 ok ⟨rfl,trivial⟩) ?_;rintro _ η3 ⟨pb1,rfl,ok,xe⟩;refine .a' 28 (.app (news:=[.slice ag1 ((readB Ap ((k:Int)+1)).2.1.length) cg1]) T.el26 T.sz22 T.by22 T.zr22 ok.n3 (ok.n3.m1).sl (oneL rfl) (by rw [flat_len RB.cells_len];simp only [List.length_cons,List.length_nil];omega)) ?_;rintro _ η4 ⟨ya1,yn1,yc1,rfl,ok,ap⟩;have ok:=(ok).cx (ys:=(ol++[(⟨ag1,cg1,(readB Ap ((k:Int)+1)).2.1⟩:RB)]).flatMap RB.cells) (by simp [RB.cells]);obtain rfl:yn1=(ol++[(⟨ag1,cg1,(readB Ap ((k:Int)+1)).2.1⟩:RB)]).length:=(Sl.sz (Cap.sl ok.m0) RB.cells_len (by decide)).1.symm;have hfr:=(ok.n2).owned;have ok:=Hp.pbyPut (ok.n2);refine .z .asS<|.nil ?_;refine .end<|hK1 _ _<|.r<|.z .mvI<|.z .add<|.z .asI<|.nil ?_;refine .end<|hJ0 _ _ _ ⟨k+1,ol++[(⟨ag1,cg1,(readB Ap ((k:Int)+1)).2.1⟩:RB)],ya1,yc1,(fun j=>Eo j∨blkC (sv (ag1,((readB Ap ((k:Int)+1)).2.1).length,cg1)) j),Fg1,Ag1,⟨rfl,rfl,rfl,trivial⟩,(ok.n2.n1).k2,by omega,by omega,by simp [hol],pg_step hpo hkl (by rw [hrd.1]),(fun j h=>h.elim (hEo j) (hfr j)),hrd.2.1,hrd.2.2,by omega,rfl⟩ (by omega)
 refine .y<|.y<|.z .pkf<|.nil ?_;refine .cf<|.exit<|hK0 _ _<|.seq<|.r<|.z .mvS<|.z .asS<|.nil ?_;refine .ret ⟨.slice a3 ol.length c3,Res.one rfl rfl,⟨Fp,_,Ap,a3,c3,ol,rfl,(by rw [hpo];exact pg_all hk1 hk2 (by omega)),hR,hlf,by omega,Hp.pgFrz (ok),(fun j hj=>hj.elim (fun h1=>(ok).owned j h1) (fun h1=>hEo j h1))⟩⟩
theorem newWp_lim {z:Nat} : LimW (newWp z).abs:=⟨by simp [newWp,RWp.abs,pgs],by simp [newWp,RWp.abs,pgs]⟩
theorem bplays_walk {h:Heap} {EO:Nat→Prop} {a:Option Addr} {c:Nat} {l:List ROp6} (hl:RwB 6 ROp6.cells ROp6.sb h EO (a,l.length,c) l) (hop6:OpsOk6 l) {u v:Nat} (hu:u<256) (hv:v<256):HC Tryz.prog 4 #[.int .u8 (u:Int),.int .u8 (v:Int),.slice a l.length c] h (fun v h'=>v=.bool true∧Ext h h'):=by
 have hc2:=hl.m;have ok:=(Hp.nil h none_).old (opw6I (fun j=>EO j∧j<h.size) (a,l.length,c) l) (hl.lt (by decide)) (fun j hj=>hj.2);have hzb:=sizeZ_b u;have hcn:newN.chg=0:=rfl;refine HC.go Tryz.func4 126 ?_;refine .seq<|.r<|.z .asB<|.nil ?_;refine .seq<|.r<|.c' 13 .func dgnew_any ?_;rintro _ η1 ⟨dnd1,Fnd1,rfl,q⟩;have ok:=Hp.addM ok q;refine .z .asP<|.nil ?_;refine .seq<|.r<|.z .mvP<|.z .mvI<|.k 17 .func (size13_any (n:=u) (by omega))<|.z .mvI<|.z (.remn (b:=6))<|.z (.cvi T.in3 T.in5)<|.z (.addI (b:=1))<|.c' 22 .func (gbopen0_any (d:=dnd1) (F:=Fnd1) (D:=newN) (z:=((sizeZ u:Nat):Int)) (room:=(((v%6)+1:Nat):Int)) (Hp.loc0 (ok)) newN_ok (by omega) (by omega) (by rw [(openB_new (z:=sizeZ u) (room:=(((v%6)+1:Nat):Int)) (sizeZ_ok u) ⟨by omega,by omega⟩).1]) (by rw [(openB_new (z:=sizeZ u) (room:=(((v%6)+1:Nat):Int)) (sizeZ_ok u) ⟨by omega,by omega⟩).1];exact ⟨newN_ok,[],(openB_new (z:=sizeZ u) (room:=(((v%6)+1:Nat):Int)) (sizeZ_ok u) ⟨by omega,by omega⟩).2⟩)) ?_;rintro _ η2 ⟨po1,Fo1,rfl,q⟩;have ok:=Hp.lift1 (ok) q;obtain ⟨Ao1,hAo1⟩:∃x:Bk,(openedB (openB newN ((sizeZ u:Nat):Int) (((v%6)+1:Nat):Int)).1 (Int.toNat ((sizeZ u:Nat):Int)) (((v%6)+1:Nat):Int) (openB newN ((sizeZ u:Nat):Int) (((v%6)+1:Nat):Int)).2.1:Bk)=x:=⟨_,rfl⟩;rw [hAo1] at ok;have hA0:Ao1=openedB newN (sizeZ u) (((v%6)+1:Nat):Int) 0:=by rw [←hAo1,(openB_new (z:=sizeZ u) (room:=(((v%6)+1:Nat):Int)) (sizeZ_ok u) ⟨by omega,by omega⟩).1];rfl
 have hrel0:RelB Ao1 (newWp (sizeZ u)).abs:=by rw [hA0];exact relB_new (sizeZ_ok u) ⟨by omega,by omega⟩
 refine .z .mvU<|.z .ex<|.z .ex<|.z .asP<|.z .asI<|.nil ?_;refine .seq<|.r<|.z .mvI<|.k 26 .func (size13_any (n:=u) (by omega))<|.z (.bd #[.int .i64 ((sizeZ u:Nat):Int),.slice none 0 0,.slice none 0 0,.bool false] T.zr51 T.pl51 rfl)<|.a' 10 (.alA T.zr51 ok) ?_;rintro _ η3 ⟨pb1,rfl,ok,xe⟩;refine .ur' (.stW (vs:=[.int .i64 ((sizeZ u:Nat):Int),.slice none 0 0,.slice none 0 0,.bool false]) T.sz51 ok (oneL rfl)) ?_;rintro η4 ⟨ok,cg⟩;refine .nil ?_;refine .seq<|.seq<|.r<|.z .mvP<|.z (.pEqS T.pt47)<|.z .mvB<|.z .mvI<|.z .neq<|.z .pkf<|.z .mvB<|.z .mvS<|.k 36 .func (small13_any (a:=a) (c:=c) (l:=l) ok.r0)<|.z .not<|.z .pkf<|.nil ?_;refine .cond (fun C0=>?_) (fun C0=>?_)
 ·
  refine .seq<|.r<|.c' 39 .func live13_any ?_;rintro _ η5 ⟨rfl,hx⟩;have ok:=ok.ext hx;refine .z .mvB<|.z .mvP<|.z (.pNeS T.pt47)<|.z .pkt<|.z .asB<|.nil ?_;refine .ret ⟨.bool true,Res.one rfl rfl,⟨rfl,ok.chg⟩⟩
 have hsm:=smallB6_iff.1 (by simpa using C0);refine .skip<|.seq<|.seq<|?_;have ok:=ok.dE (dcpI none_ (newWp (sizeZ u))) newWp_doc (fun _ f=>f);refine .r<|.z .asI<|.nil ?_;refine .block fun K0 hK0=>.loop (fun m s hh=>∃(i p:Nat) (F:Nat→Prop) (A:Bk) (E:Nat→Prop) (w:RWp),Has s [(0,.int .u8 (u:Int)),(2,.slice a l.length c),(7,.pointer (some ⟨dnd1,0,none⟩)),(8,.pointer (some ⟨p,0,none⟩)),(10,.pointer (some ⟨pb1,0,none⟩)),(11,.int .i64 (i:Int))]∧Hp h none_ [bgI p dnd1 F A,boxI pb1 51 [.int .i64 (w.z:Int),.slice w.sa w.sl.length w.sc,.slice w.na w.nl.length w.nc,.bool w.i]] [dcpI E w,opw6I (fun j=>EO j∧j<h.size) (a,l.length,c) l] hh∧i≤l.length∧A.dk.chg≤2000000*i∧RelB A w.abs∧A.dk.left<0∧LimW w.abs∧w.z=sizeZ u∧m=l.length-i) ?_ ?_
 ·exact ⟨_,0,po1,Fo1,Ao1,none_,newWp (sizeZ u),⟨rfl,rfl,rfl,rfl,rfl,rfl,trivial⟩,(ok.n1).k2.f1.f1,Nat.zero_le _,by rw [hA0];exact Int.le_refl 0,hrel0,by rw [hA0];exact (by decide:(-1:Int)<0),newWp_lim,rfl,rfl⟩
 rintro _ _ η6 ⟨i,p,F,A,E,w,hs,ok,hi,hcg,hrel,hlf,hlim,hwz,rfl⟩ J0 hJ0;refine .frame hs fun τ=>?_;refine .seq<|.seq<|.r<|.z .mvI<|.z .mvS<|.z (.len T.el46)<|.z .lss<|.nil ?_;refine .cdr (fun C1=>?_) (fun C1=>?_)
 ·
  refine .exit<|hK0 _ _<|.seq<|.r<|.c' 125 .func live13_any ?_;rintro _ η7 ⟨rfl,hx⟩;have ok:=ok.ext hx;refine .z .asB<|.nil ?_;refine .ret ⟨.bool true,Res.one rfl rfl,⟨rfl,ok.chg⟩⟩
 have hil:i<l.length:=by omega
 have hzw:okSz w.z=true:=by rw [hwz];exact sizeZ_ok _
 have hz256:=okSz_b hzw;have hnl9:w.nl.length≤40:=by have:=hlim.n;rwa [show w.abs.now=pgs w.nl from rfl,pgs_len] at this
 have hsl9:w.sl.length≤40:=by have:=hlim.s;rwa [show w.abs.sure=pgs w.sl from rfl,pgs_len] at this
 have P0:=bg_pl (ok).m0;refine .skip<|.seq<|.block fun K1 hK1=>.seq<|.r<|.z .asB<|.nil ?_;refine .seq<|.seq<|.r<|.z .mvS<|.z .mvI<|?_;obtain ⟨bb1,oo1,rfl,fb1⟩:=ok.r1.pos (by omega);refine .z (.ix i T.el46 T.sz54)<|.z (.fa T.fd54_0)<|.z (.ld T.ag5 (sl_at ROp6.cells_len (ok.r1).sl (i:=i) (j:=0) (by omega) rfl))<|.z .eql<|.nil ?_;refine .cd (fun C2=>?_) (fun C2=>?_)
 ·
  refine .seq<|?_;have hop:=fun room hr=>hrel.opn (room:=room) hr hlf;rw [show w.abs.z=sizeZ u from hwz] at hop;have htm:=tmod6 l[i].n;refine .a 17 (fun fl hh=>Hp h none_ [boxI pb1 51 [.int .i64 (w.z:Int),.slice w.sa w.sl.length w.sc,.slice w.na w.nl.length w.nc,.bool w.i]] [dcpI E w,opw6I (fun j=>EO j∧j<h.size) (some ⟨bb1,oo1,none⟩,l.length,c) l] hh) mixed ?_;have hS:=ok.n1.k1;refine .g 0 false rfl 57 hS (fun _=>.mvP)<|.g 1 false rfl 58 hS (fun _=>.mvI)<|.g 3 false rfl 60 hS (fun _=>.mvS)<|.g 4 false rfl 61 hS (fun _=>.mvI)<|.g 5 false rfl 62 hS (fun _=>.ix i T.el46 T.sz54)<|.g 6 false rfl 63 hS (fun _=>.fa T.fd54_2)<|.lw 7 false rfl 64 hS (fun _ _ hS=>.ld T.ag3 (sl_at ROp6.cells_len (hS.r1).sl (i:=i) (j:=2) (by omega) rfl))<|.g 8 false rfl 65 hS (fun _=>.remT)<|.g 9 false rfl 66 hS (fun _=>.max2)<|.g 10 false rfl 67 hS (fun _=>.add)<|.o1 2<|.k false rfl 59 .func (size13_any (n:=u) (by omega)) hS<|.o1 11<|.c' false rfl 68 .func (gbopen0_any (d:=dnd1) (F:=F) (D:=A.dk) (z:=((sizeZ u:Nat):Int)) (room:=((max 0 (l[i].n.tmod 6))+1)) (Hp.loc0 (bg_dgo (ok))) P0.ok (by omega) (by omega) (by rw [(hop ((max 0 (l[i].n.tmod 6))+1) ⟨by omega,by omega⟩).1]) (hop ((max 0 (l[i].n.tmod 6))+1) ⟨by omega,by omega⟩).2.1) ?_;rintro _ η8 ⟨po2,Fo2,rfl,q⟩;have ok:=Hp.lift1 (bg_dgo (ok)) q;obtain ⟨Ao2,hAo2⟩:∃x:Bk,(openedB (openB A.dk ((sizeZ u:Nat):Int) ((max 0 (l[i].n.tmod 6))+1)).1 (Int.toNat ((sizeZ u:Nat):Int)) ((max 0 (l[i].n.tmod 6))+1) (openB A.dk ((sizeZ u:Nat):Int) ((max 0 (l[i].n.tmod 6))+1)).2.1:Bk)=x:=⟨_,rfl⟩;rw [hAo2] at ok;have hopr:=hop ((max 0 (l[i].n.tmod 6))+1) ⟨by omega,by omega⟩;have hcq:Ao2.dk.chg≤A.dk.chg+70000:=by rw [←hAo2];exact hopr.2.2.2.2
  have hlfo2:Ao2.dk.left<0:=by rw [←hAo2];exact hopr.2.2.1
  refine ⟨ok.n1.k1,?_⟩;have hS:=ok.n1.k1;refine .g 12 false rfl 56 hS (fun _=>.mvU)<|.g 13 false rfl 69 hS (fun _=>.ex)<|.g 14 false rfl 70 hS (fun _=>.ex)<|.g 15 false rfl 8 hS (fun _=>.asP)<|.g 16 false rfl 9 hS (fun _=>.asI)<|.e ?_;refine .seq<|.seq<|.r<|.z .mvP<|.z (.pEqS T.pt47)<|.z .mvB<|.z .mvI<|.z .neq<|.z .pkf<|.nil ?_;refine .cf<|.skip<|.seq<|.r<|.z (.fa T.fd51_0)<|.z (.ldx T.ag3 ok.m1)<|.z (.fa T.fd51_1)<|.z (.ldx T.ag26 ok.m1)<|.z (.bd #[.int .i64 (w.z:Int),.slice w.sa w.sl.length w.sc,.slice none 0 0,.bool false] T.zr51 T.pl51 rfl)<|.ur' (.stW (vs:=[.int .i64 (w.z:Int),.slice w.sa w.sl.length w.sc,.slice none 0 0,.bool false]) T.sz51 ok.n1 (oneL rfl)) ?_;rintro η9 ⟨ok,cg⟩;refine .nil ?_;obtain ⟨wn,hwn⟩:∃x:RWp,(⟨w.z,w.sa,w.sc,w.sl,none,0,[],false,w.fr⟩:RWp)=x:=⟨_,rfl⟩;have ok:=ok.d0 (dcpI E wn) (by rw [←hwn];exact ⟨(show DocP _ _ _ from ok.r0).s,RwB.nil _ _ 0 (by decide)⟩) (fun _ h=>h);have hq1:wn.abs=openQ w.abs:=by rw [←hwn];rfl
  have hrelo:RelB Ao2 wn.abs:=by rw [hq1,←hAo2];exact hopr.2.2.2.1
  have hlimo:LimW wn.abs:=by rw [hq1];exact hlim.opn
  have hwzo:wn.z=sizeZ u:=by rw [←hwn];exact hwz
  have hlfo:=hlfo2;have hco:Ao2.dk.chg≤A.dk.chg+1200000:=by omega
  rw [show (boxI pb1 51 [.int .i64 (w.z:Int),.slice w.sa w.sl.length w.sc,.slice none 0 0,.bool false])=boxI pb1 51 [.int .i64 (wn.z:Int),.slice wn.sa wn.sl.length wn.sc,.slice wn.na wn.nl.length wn.nc,.bool wn.i] from by rw [←hwn];rfl] at ok;refine .r<|.z .asB<|.nil ?_;refine .seq<|.a 32 (fun fl hh=>Hp h none_ [boxI pb1 51 [.int .i64 (wn.z:Int),.slice wn.sa wn.sl.length wn.sc,.slice wn.na wn.nl.length wn.nc,.bool wn.i]] [dcpI E wn,dcpI E w,opw6I (fun j=>EO j∧j<h.size) (some ⟨bb1,oo1,none⟩,l.length,c) l] hh) mixed ?_;have hS:=ok.k1;refine .g 0 false rfl 93 hS (fun _=>.mvB)<|.g 1 false rfl 94 hS (fun _=>.not)<|.g 2 false rfl 95 hS (fun _=>.mvB)<|.g 3 false rfl 96 hS (fun _=>.mvP)<|.g 5 false rfl 98 hS (fun _=>.fa T.fd51_3)<|.lw 6 false rfl 99 hS (fun _ _ hS=>.ldx T.ag4 hS.m0)<|.o1 4<|.k false rfl 97 .func ((gbin_any (p:=po2) (d:=dnd1) (F:=Fo2) (A:=Ao2) ok.m1).mono fun _ _ q=>(by rw [hrelo.br,show Ao2.in_=wn.i from hrelo.in_] at q;exact q:_=(.bool wn.i:Value)∧_)) hS<|.g 7 false rfl 100 hS (fun _=>.bNe T.bo4)<|.g 8 false rfl 101 hS (fun _=>.pkf)<|.g 9 false rfl 102 hS (fun _=>.mvB)<|.spl (fun G102=>?_) (fun G102=>?_)
  ·
   simp at G102
  refine .g 10 false rfl 103 hS (fun _=>.mvP)<|.lw 12 false rfl 105 hS (fun _ _ hS=>.ldb T.ag51 hS.m0 T.sz51)<|.o1 11<|.k false rfl 104 .func ((gbPages_any (p:=po2) (d:=dnd1) (F:=Fo2) (A:=Ao2) ok.m1).mono fun _ _ q=>(by rw [hrelo.pages,show wn.abs.pages.length=(pgL' wn.i wn.nl wn.sl).length from pgL'_len] at q;exact q:_=(.int .i64 (((pgL' wn.i wn.nl wn.sl).length:Nat):Int):Value)∧_)) hS<|.o1 13<|.c' false rfl 106 .func (qpages_any (E:=E) (z:=wn.z) (sa:=wn.sa) (sc:=wn.sc) (sl:=wn.sl) (na:=wn.na) (nc:=wn.nc) (nl:=wn.nl) (ib:=wn.i) (fr:=wn.fr) (show DocP _ _ _ from ok.r0)) ?_;rintro _ η10 ⟨rfl,hx⟩;have ok:=ok.ext hx;have ok:=ok.d0 (pgwI E ((pgA wn.i wn.na wn.sa),(pgL' wn.i wn.nl wn.sl).length,(pgC wn.i wn.nc wn.sc)) (pgL' wn.i wn.nl wn.sl)) (DocP.pages (z:=wn.z) (fr:=wn.fr) (show DocP _ _ ⟨_,_,_,_,_,_,_,_,_⟩ from ok.r0)) (fun _ h=>h);refine ⟨ok.k1.tR,?_⟩;have hS:=ok.k1.tR;refine .g 14 false rfl 107 hS (fun _=>.len T.el26)<|.g 15 false rfl 108 hS (fun _=>.neq)<|.g 16 false rfl 109 hS (fun _=>.pkf)<|.g 17 false rfl 110 hS (fun _=>.mvB)<|.sd (fun G110=>?_) (fun G110=>?_)
  ·
   exact absurd rfl G110
  refine .g 18 false rfl 111 hS (fun _=>.mvP)<|.g 20 false rfl 113 hS (fun _=>.fa T.fd51_0)<|.lw 21 false rfl 114 hS (fun _ _ hS=>.ldx T.ag3 hS.m0)<|.o1 19<|.k false rfl 112 .func ((gbsize_any (p:=po2) (d:=dnd1) (F:=Fo2) (A:=Ao2) ok.m1).mono fun _ _ q=>(by rw [if_neg (by rw [hrelo.br];decide),show Ao2.size=wn.z from hrelo.z] at q;exact q:_=(.int .i64 ((wn.z:Nat):Int):Value)∧_)) hS<|.g 22 false rfl 115 hS (fun _=>.neq)<|.g 23 false rfl 116 hS (fun _=>.pkf)<|.g 24 false rfl 117 hS (fun _=>.mvB)<|.sd (fun G117=>?_) (fun G117=>?_)
  ·
   exact absurd rfl G117
  refine .g 25 false rfl 118 hS (fun _=>.mvP)<|.lw 27 false rfl 120 hS (fun _ _ hS=>.ldb T.ag51 hS.m0 T.sz51)<|.o1 26<|.c' false rfl 119 .func (pages13_any (p:=po2) (d:=dnd1) (F:=Fo2) (A:=Ao2) (ok.n1).loc0 (by omega) hrelo hlfo) ?_;rintro _ η11 ⟨Fg1,Eg1,Ag1,ag1,cg1,lg1,rfl,hpg1,hrelg1,hlfg1,hcpg1,q,hEg1⟩;have ok:=(ok.n1).liftR q hEg1;refine ⟨ok.n1.k1.tR.tR,?_⟩;have hS:=ok.n1.k1.tR.tR;refine .o1 28<|.c' false rfl 121 .func (qpages_any (E:=E) (z:=wn.z) (sa:=wn.sa) (sc:=wn.sc) (sl:=wn.sl) (na:=wn.na) (nc:=wn.nc) (nl:=wn.nl) (ib:=wn.i) (fr:=wn.fr) (show DocP _ _ _ from ok.r2)) ?_;rintro _ η12 ⟨rfl,hx⟩;have ok:=ok.ext hx;have ok:=ok.d2 (pgwI E ((pgA wn.i wn.na wn.sa),(pgL' wn.i wn.nl wn.sl).length,(pgC wn.i wn.nc wn.sc)) (pgL' wn.i wn.nl wn.sl)) (DocP.pages (z:=wn.z) (fr:=wn.fr) (show DocP _ _ ⟨_,_,_,_,_,_,_,_,_⟩ from ok.r2)) (fun _ h=>h);refine ⟨ok.n1.k1.tR.tR.tR,?_⟩;have hS:=ok.n1.k1.tR.tR.tR;refine .o1 29<|.c' false rfl 122 .func (qsame_any (E:=Eg1) (E':=E) (xa:=ag1) (ya:=(pgA wn.i wn.na wn.sa)) (xc:=cg1) (yc:=(pgC wn.i wn.nc wn.sc)) (xl:=lg1) (yl:=(pgL' wn.i wn.nl wn.sl)) ok.r1 ok.r0) ?_;rintro _ η13 ⟨rfl,hx⟩;have ok:=ok.ext hx;refine ⟨ok.n1.k1.tR.tR.tR,?_⟩;have hS:=ok.n1.k1.tR.tR.tR;refine .g 30 false rfl 123 hS (fun _=>.notd)<|.g 31 false rfl 124 hS (fun _=>.pkf)<|.e ?_;refine .cd (fun C4=>?_) (fun C4=>?_)
  ·
   exact absurd (hpg1.trans ((List.take_of_length_le (by have:=(hlimo).pages;omega)).trans (pgL'_abs (z:=wn.z) (fr:=wn.fr) (sa:=wn.sa) (sc:=wn.sc) (na:=wn.na) (nc:=wn.nc)).symm)) C4
  refine .skip<|.end<|hK1 _ _<|.r<|.z .mvI<|.z (.addI (b:=1))<|.z .asI<|.nil ?_;refine .end<|hJ0 _ _ _ ⟨i+1,po2,Fg1,Ag1,E,wn,⟨rfl,rfl,rfl,rfl,rfl,rfl,trivial⟩,(ok).k2.f5.f4.e2,by omega,by omega,hrelg1,hlfg1,hlimo,hwzo,rfl⟩ (by omega)
 have ok:=ok.d1 (rdI (fun j=>EO j∧j<h.size) (fun j=>EO j∧j<h.size) (l[i].ba,l[i].bl.length,l[i].bc) l[i].bl) ((ok.r1).by' _ (List.getElem_mem hil)) (fun _ h=>h.elim id id);refine .a 6 (fun fl hh=>cond fl True (Hp h none_ [boxI pb1 51 [.int .i64 (w.z:Int),.slice w.sa w.sl.length w.sc,.slice w.na w.nl.length w.nc,.bool w.i]] [rdI (fun j=>EO j∧j<h.size) (fun j=>EO j∧j<h.size) (l[i].ba,l[i].bl.length,l[i].bc) (l[i].bl),dcpI E w,opw6I (fun j=>EO j∧j<h.size) (some ⟨bb1,oo1,none⟩,l.length,c) l] hh)) mixed ?_;have hS:=ok.n1.k1;refine .g 0 false rfl 83 hS (fun _=>.mvP)<|.l 1 false rfl 84 hS (fun _ hS=>.ldb T.ag51 hS.m0 T.sz51)<|.g 2 false rfl 85 hS (fun _=>.mvS)<|.g 3 false rfl 86 hS (fun _=>.mvI)<|.g 4 false rfl 87 hS (fun _=>.ix i T.el46 T.sz54)<|.l 5 false rfl 88 (v:=.agg #[.int .u8 (l[i].k:Int),.int .i64 (l[i].no),.int .i64 (l[i].n),.int .u8 (l[i].fb.toNat:Int),.bool (l[i].hd),.slice (l[i].ba) (l[i].bl.length) (l[i].bc)]) hS (fun _ hS=>.ldc (vs:=ROp6.cells l[i]) T.ag54 (sl_ats ROp6.cells_len (hS.r2).sl (i:=i) (by omega)) T.sz54)<|.o1 6<|.c' true rfl 89 .func (call13_any (p:=p) (d:=dnd1) (F:=F) (A:=A) (E:=E) (z:=w.z) (sa:=w.sa) (sc:=w.sc) (sl:=w.sl) (na:=w.na) (nc:=w.nc) (nl:=w.nl) (ib:=w.i) (fr:=w.fr) (k:=l[i].k) (no:=l[i].no) (n:=l[i].n) (fb:=l[i].fb) (hd:=l[i].hd) (ba:=l[i].ba) (bc:=l[i].bc) (bl:=l[i].bl) (ok.f1).loc2 (by omega) hzw (by omega) (hop6 _ (List.getElem_mem hil)).1 (hop6 _ (List.getElem_mem hil)).2.1 (hop6 _ (List.getElem_mem hil)).2.2) ?_;rintro _ η14 ⟨Fk1,wk1,Ek1,bk1,rfl,hak1,hbk1,q,hEk1⟩;have Pk1:=bg_pl (ok.f1).m0;have hzk1:=ok.chg.size;have ok:=(ok.f1).turnR q hEk1;obtain ⟨Ak1,hAk1⟩:∃x:Bk,(stepB A w.z l[i].abs).1=x:=⟨_,rfl⟩;rw [show (stepB A w.z ⟨l[i].k,l[i].no,l[i].n,l[i].fb,l[i].hd,l[i].bl⟩).1=Ak1 from hAk1] at ok;have hck1:Ak1.dk.chg≤A.dk.chg+1200000:=by rw [←hAk1];exact (step_pl Pk1).2
 obtain ⟨htk1,hRk1,hlk1⟩:=hrel.step0 hlf (x:=l[i].abs);have hrelk1:RelB Ak1 wk1.abs:=by rw [hak1,←hAk1];exact hRk1
 have hlfk1:Ak1.dk.left<0:=by rw [←hAk1];exact hlk1
 have hlimk1:LimW wk1.abs:=by rw [hak1];exact hlim.step (of_decide_eq_true (hsm.2 i hil))
 have hwzk1:wk1.z=sizeZ u:=(congrArg WPg.z hak1).trans (step_z.trans hwz);refine ⟨trivial,?_⟩;refine .g 7 true rfl 82 trivial (fun _=>.mvU)<|.g 8 true rfl 90 trivial (fun _=>.ex)<|.g 9 true rfl 91 trivial (fun _=>.ex)<|.g 10 true rfl 92 trivial (fun _=>.ex)<|.o1 11<|.ur' true rfl (.stW (vs:=[.int .i64 (wk1.z:Int),.slice wk1.sa wk1.sl.length wk1.sc,.slice wk1.na wk1.nl.length wk1.nc,.bool wk1.i]) T.sz51 ok.n1 (oneL rfl)) ?_;rintro η15 ⟨ok,cg⟩;refine ⟨trivial,?_⟩;refine .g 12 true rfl 12 trivial (fun _=>.asB)<|.e ?_;refine .seq<|.a 32 (fun fl hh=>Hp h none_ [boxI pb1 51 [.int .i64 (wk1.z:Int),.slice wk1.sa wk1.sl.length wk1.sc,.slice wk1.na wk1.nl.length wk1.nc,.bool wk1.i]] [dcpI Ek1 wk1,rdI (fun j=>EO j∧j<h.size) (fun j=>EO j∧j<h.size) (l[i].ba,l[i].bl.length,l[i].bc) (l[i].bl),opw6I (fun j=>EO j∧j<h.size) (some ⟨bb1,oo1,none⟩,l.length,c) l] hh) mixed ?_;have hS:=ok.k1;refine .g 0 false rfl 93 hS (fun _=>.mvB)<|.g 1 false rfl 94 hS (fun _=>.not)<|.g 2 false rfl 95 hS (fun _=>.mvB)<|.spl (fun G95=>?_) (fun G95=>?_)
 ·
  have h8:=hbk1.2 htk1;rw [h8] at G95;cases G95
 refine .g 3 false rfl 96 hS (fun _=>.mvP)<|.g 5 false rfl 98 hS (fun _=>.fa T.fd51_3)<|.lw 6 false rfl 99 hS (fun _ _ hS=>.ldx T.ag4 hS.m0)<|.o1 4<|.k false rfl 97 .func ((gbin_any (p:=p) (d:=dnd1) (F:=Fk1) (A:=Ak1) ok.m1).mono fun _ _ q=>(by rw [hrelk1.br,show Ak1.in_=wk1.i from hrelk1.in_] at q;exact q:_=(.bool wk1.i:Value)∧_)) hS<|.g 7 false rfl 100 hS (fun _=>.bNe T.bo4)<|.g 8 false rfl 101 hS (fun _=>.pkf)<|.g 9 false rfl 102 hS (fun _=>.mvB)<|.spl (fun G102=>?_) (fun G102=>?_)
 ·
  simp at G102
 refine .g 10 false rfl 103 hS (fun _=>.mvP)<|.lw 12 false rfl 105 hS (fun _ _ hS=>.ldb T.ag51 hS.m0 T.sz51)<|.o1 11<|.k false rfl 104 .func ((gbPages_any (p:=p) (d:=dnd1) (F:=Fk1) (A:=Ak1) ok.m1).mono fun _ _ q=>(by rw [hrelk1.pages,show wk1.abs.pages.length=(pgL' wk1.i wk1.nl wk1.sl).length from pgL'_len] at q;exact q:_=(.int .i64 (((pgL' wk1.i wk1.nl wk1.sl).length:Nat):Int):Value)∧_)) hS<|.o1 13<|.c' false rfl 106 .func (qpages_any (E:=Ek1) (z:=wk1.z) (sa:=wk1.sa) (sc:=wk1.sc) (sl:=wk1.sl) (na:=wk1.na) (nc:=wk1.nc) (nl:=wk1.nl) (ib:=wk1.i) (fr:=wk1.fr) (show DocP _ _ _ from ok.r0)) ?_;rintro _ η16 ⟨rfl,hx⟩;have ok:=ok.ext hx;have ok:=ok.d0 (pgwI Ek1 ((pgA wk1.i wk1.na wk1.sa),(pgL' wk1.i wk1.nl wk1.sl).length,(pgC wk1.i wk1.nc wk1.sc)) (pgL' wk1.i wk1.nl wk1.sl)) (DocP.pages (z:=wk1.z) (fr:=wk1.fr) (show DocP _ _ ⟨_,_,_,_,_,_,_,_,_⟩ from ok.r0)) (fun _ h=>h);refine ⟨ok.k1.tR,?_⟩;have hS:=ok.k1.tR;refine .g 14 false rfl 107 hS (fun _=>.len T.el26)<|.g 15 false rfl 108 hS (fun _=>.neq)<|.g 16 false rfl 109 hS (fun _=>.pkf)<|.g 17 false rfl 110 hS (fun _=>.mvB)<|.sd (fun G110=>?_) (fun G110=>?_)
 ·
  exact absurd rfl G110
 refine .g 18 false rfl 111 hS (fun _=>.mvP)<|.g 20 false rfl 113 hS (fun _=>.fa T.fd51_0)<|.lw 21 false rfl 114 hS (fun _ _ hS=>.ldx T.ag3 hS.m0)<|.o1 19<|.k false rfl 112 .func ((gbsize_any (p:=p) (d:=dnd1) (F:=Fk1) (A:=Ak1) ok.m1).mono fun _ _ q=>(by rw [if_neg (by rw [hrelk1.br];decide),show Ak1.size=wk1.z from hrelk1.z] at q;exact q:_=(.int .i64 ((wk1.z:Nat):Int):Value)∧_)) hS<|.g 22 false rfl 115 hS (fun _=>.neq)<|.g 23 false rfl 116 hS (fun _=>.pkf)<|.g 24 false rfl 117 hS (fun _=>.mvB)<|.sd (fun G117=>?_) (fun G117=>?_)
 ·
  exact absurd rfl G117
 refine .g 25 false rfl 118 hS (fun _=>.mvP)<|.lw 27 false rfl 120 hS (fun _ _ hS=>.ldb T.ag51 hS.m0 T.sz51)<|.o1 26<|.c' false rfl 119 .func (pages13_any (p:=p) (d:=dnd1) (F:=Fk1) (A:=Ak1) (ok.n1).loc0 (by omega) hrelk1 hlfk1) ?_;rintro _ η17 ⟨Fg2,Eg2,Ag2,ag2,cg2,lg2,rfl,hpg2,hrelg2,hlfg2,hcpg2,q,hEg2⟩;have ok:=(ok.n1).liftR q hEg2;refine ⟨ok.n1.k1.tR.tR,?_⟩;have hS:=ok.n1.k1.tR.tR;refine .o1 28<|.c' false rfl 121 .func (qpages_any (E:=Ek1) (z:=wk1.z) (sa:=wk1.sa) (sc:=wk1.sc) (sl:=wk1.sl) (na:=wk1.na) (nc:=wk1.nc) (nl:=wk1.nl) (ib:=wk1.i) (fr:=wk1.fr) (show DocP _ _ _ from ok.r2)) ?_;rintro _ η18 ⟨rfl,hx⟩;have ok:=ok.ext hx;have ok:=ok.d2 (pgwI Ek1 ((pgA wk1.i wk1.na wk1.sa),(pgL' wk1.i wk1.nl wk1.sl).length,(pgC wk1.i wk1.nc wk1.sc)) (pgL' wk1.i wk1.nl wk1.sl)) (DocP.pages (z:=wk1.z) (fr:=wk1.fr) (show DocP _ _ ⟨_,_,_,_,_,_,_,_,_⟩ from ok.r2)) (fun _ h=>h);refine ⟨ok.n1.k1.tR.tR.tR,?_⟩;have hS:=ok.n1.k1.tR.tR.tR;refine .o1 29<|.c' false rfl 122 .func (qsame_any (E:=Eg2) (E':=Ek1) (xa:=ag2) (ya:=(pgA wk1.i wk1.na wk1.sa)) (xc:=cg2) (yc:=(pgC wk1.i wk1.nc wk1.sc)) (xl:=lg2) (yl:=(pgL' wk1.i wk1.nl wk1.sl)) ok.r1 ok.r0) ?_;rintro _ η19 ⟨rfl,hx⟩;have ok:=ok.ext hx;refine ⟨ok.n1.k1.tR.tR.tR,?_⟩;have hS:=ok.n1.k1.tR.tR.tR;refine .g 30 false rfl 123 hS (fun _=>.notd)<|.g 31 false rfl 124 hS (fun _=>.pkf)<|.e ?_;refine .cd (fun C4=>?_) (fun C4=>?_)
 ·
  exact absurd (hpg2.trans ((List.take_of_length_le (by have:=(hlimk1).pages;omega)).trans (pgL'_abs (z:=wk1.z) (fr:=wk1.fr) (sa:=wk1.sa) (sc:=wk1.sc) (na:=wk1.na) (nc:=wk1.nc)).symm)) C4
 refine .skip<|.end<|hK1 _ _<|.r<|.z .mvI<|.z (.addI (b:=1))<|.z .asI<|.nil ?_;refine .end<|hJ0 _ _ _ ⟨i+1,p,Fg2,Ag2,Ek1,wk1,⟨rfl,rfl,rfl,rfl,rfl,rfl,trivial⟩,(ok).k2.f5.f4.e2,by omega,by omega,hrelg2,hlfg2,hlimk1,hwzk1,rfl⟩ (by omega)
theorem bplays_row {h:Heap} {a:Option Addr} {n c:Nat} {l:List ROp6} {x y:UInt8} (hl:RwB 6 ROp6.cells ROp6.sb h any_ (a,n,c) l∧OpsOk6 l):HC Tryz.prog 4 #[.int .u8 (x.toNat:Int),.int .u8 (y.toNat:Int),.slice a n c] h (fun v h'=>v=.bool true∧Ext h h'):=by
 obtain ⟨hl,ho⟩:=hl;obtain rfl:n=l.length:=hl.n;exact bplays_walk hl ho x.toNat_lt y.toNat_lt
open Go.ChangeShapes Go.WideShapes Go.ChangeAt Go.RowKit
theorem backPlays_lifted (os:Os) (started:os.Started) (H:Type) (enc:TypeId × Value→H) :
  ReturnsInHanded {} Tryz.checked os 4 .any (Rows.backPlaysSpec.pre6 enc Tryz.prog Tryz.f4 Rows.backPlaysRow.domain false) (Rows.backPlaysSpec.post enc Tryz.prog Tryz.f4 false true false false):=by
 refine returnsInHanded_of_change (C:=Tryz.checked) own_knob started (by kernel_rfl) Tryz.func4
  (ChangeSpec.witness6 (enc:=enc) (C:=Tryz.checked) false ⟨#[],#[.int .u8 0,.int .u8 0,.slice none 0 0],[]⟩ 8 (by kernel_rfl) (by kernel_rfl) (by kernel_rfl) (by kernel_rfl)) ?_
 intro W base args ds gs before hval0 hW hcnd _;have hval:∀(j:Nat) t v,Tryz.f4.params[j]? = some t→args[j]? = some v→Value.okWide Tryz.prog W .any base t v:=hval0;have hW':=hW;obtain ⟨p,q,hA0,hV,rfl,hfz,hnd⟩:=hW;have hA:DataW.TrodAll enc Tryz.prog W 0 (fun _=>true) true Tryz.f4.params.toList args.toList ds p:=hA0;rw [Tryz.params4] at hA hval;obtain ⟨v0,vs0,d0,ds0,p0,q0,hargs,rfl,rfl,h0,r0⟩:=trodAll_cons hA;obtain ⟨v1,vs1,d1,ds1,p1,q1,rfl,rfl,rfl,h1,r1⟩:=trodAll_cons r0;obtain ⟨v2,vs2,d2,ds2,p2,q2,rfl,rfl,rfl,h2,r2⟩:=trodAll_cons r1;obtain ⟨rfl,rfl,rfl⟩:=trodAll_nil r2;obtain rfl:args = #[v0,v1,v2]:=by cases args;simp_all
 obtain ⟨z0,rfl,_,_,w0⟩:=open_int Tryz.underlying5 (hval 0 5 v0 rfl rfl) h0;obtain ⟨x0,rfl⟩:=byte_val w0;obtain ⟨z1,rfl,_,_,w1⟩:=open_int Tryz.underlying5 (hval 1 5 v1 rfl rfl) h1;obtain ⟨x1,rfl⟩:=byte_val w1;obtain ⟨a2,n2,c2,rfl⟩:=okWide_slice Tryz.underlying46 (hval 2 46 v2 rfl rfl);obtain ⟨l2,y2,hy2,hl2⟩:=opn_ops13.arg h2;obtain rfl:=sv_cells hy2;refine ((bplays_row (x:=x0) (y:=x1) hl2).2 _ W (At.self W)).mono fun e W' ⟨v,h',he,at',hv,hx⟩=>?_;subst he;subst hv;exact ⟨_,rfl,law_post laid_out hW' rfl (by kernel_rfl) rfl Tryz.underlying4 rfl at' hx⟩
theorem backPlays_holds:Rows.BackPlaysSaid:=
 OpenClaim.holds_of_wide 4 Tryz.f4 rfl rfl rfl rfl rfl rfl rfl ⟨rfl,rfl,rfl,rfl,rfl⟩ rfl rfl rfl rfl rfl (by kernel_rfl) Tryz.func4 (by kernel_rfl)
  (of_decide_eq_true (by kernel_rfl)) (by unfold Func.isWrapper;first | (rw [if_pos (by decide +kernel)];kernel_rfl) | (rw [if_neg (by decide +kernel)];exact ⟨rfl,rfl⟩))
  (fun os started H enc _=>backPlays_lifted os started H enc)
end Go.Proofs.YtpeaicddbnghfaaGreat
