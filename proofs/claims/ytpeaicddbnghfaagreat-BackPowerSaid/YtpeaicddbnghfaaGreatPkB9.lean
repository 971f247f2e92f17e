/- The document's pager of layer 13, in plain terms and in memory: as the one of layer 14, with no count of frames. Conditions: those that each fact names. The document's pager of layer 13: its calls; Same of pages. Conditions: the state is readable, and small. A call of the laws, done to a pager that keeps a journal and to the document's. Conditions: both are in order. The pager that keeps a journal and the document's, in plain terms: each call keeps them alike and tells the same, or the power goes; opening. Conditions: those that each fact names. A call of the laws keeps the two pagers alike, in plain terms, or the power goes; little pagers stay little. Conditions: those that each fact names. A disk's copy. Conditions: the disk is in order, its changes few, the bytes readable. A pager with its disk laid open; a disk's copy is opened; the calls told by the document's. Conditions: those that each fact names. Opening a new disk, and a disk that a pager leaves; a head that was encoded; the chapter's examples, in plain terms. Conditions: those that each fact names. The chapter's examples on the pager that keeps a journal. Conditions: none. How a law whose call returns true and turns nothing old closes its row. Conditions: those that each fact names. How arguments that come in read: types opened one by one. Conditions: those that each fact names. The calls that come in to the laws on the pager that keeps a journal, opened. Conditions: none. The law BackPlays returns true at every input and leaves its arguments as they were. Conditions: none. -/
import Derived.Test.YtpeaicddbnghfaaGreatPkB8
import Derived.ProofKit
import Derived.OpenShut
import Derived.Below
import Derived.Carry
import Derived.Deep.Slices
import Derived.ChangeArms
import Derived.ChangeMaps5
import Derived.Test.YtpeaicddbnghfaaGreatRows
set_option maxRecDepth 100000
set_option maxHeartbeats 2000000
set_option linter.all false
namespace Go.Proofs.YtpeaicddbnghfaaGreat
open Go Go.HL
def RWp.cells4 (w:RWp):Array Value:=#[.int .i64 (w.z:Int),.slice w.sa w.sl.length w.sc,.slice w.na w.nl.length w.nc,.bool w.i]
def resizeQ (w:WPg) (n:Int):WPg × Nat:=if w.in_=false then (w,10) else if n<0 then (w,1) else if 1048576<n∨((mostB w.z:Nat):Int)<n then (w,5) else ({ w with now:=growL w.now w.z n.toNat },0)
def commitQ (w:WPg):WPg × Nat:=if w.in_=false then (w,10) else if w.now≠[]∧hdOk (w.now.getD 0 []) w.z=false then (w,8) else (⟨w.z,w.now,[],false,w.fr⟩,0)
section
variable {w:WPg} {n:Int}
theorem resizeQ_1 (h:w.in_=false):resizeQ w n=(w,10):=if_pos h
theorem resizeQ_2 (h:¬w.in_=false) (h2:n<0):resizeQ w n=(w,1):=by unfold resizeQ;rw [if_neg h,if_pos h2]
theorem resizeQ_3 (h:¬w.in_=false) (h2:¬n<0) (h3:1048576<n∨((mostB w.z:Nat):Int)<n):resizeQ w n=(w,5):=by unfold resizeQ;rw [if_neg h,if_neg h2,if_pos h3]
theorem resizeQ_4 (h:¬w.in_=false) (h2:¬n<0) (h3:¬(1048576<n∨((mostB w.z:Nat):Int)<n)):resizeQ w n=({ w with now:=growL w.now w.z n.toNat },0):=by unfold resizeQ;rw [if_neg h,if_neg h2,if_neg h3]
theorem commitQ_1 (h:w.in_=false):commitQ w=(w,10):=if_pos h
theorem commitQ_2 (h:¬w.in_=false) (h2:w.now≠[]∧hdOk (w.now.getD 0 []) w.z=false):commitQ w=(w,8):=by unfold commitQ;rw [if_neg h,if_pos h2]
theorem commitQ_3 (h:¬w.in_=false) (h2:¬(w.now≠[]∧hdOk (w.now.getD 0 []) w.z=false)):commitQ w=(⟨w.z,w.now,[],false,w.fr⟩,0):=by unfold commitQ;rw [if_neg h,if_neg h2]
end
theorem RdL.one {h:Heap} {e:TypeId} {p:Nat} {FB EB:Nat→Prop} {a:Option Addr} {n c:Nat} {bl:List UInt8} (k:Cap h 1 e (.slice (some ⟨p,0,none⟩) 1 1) [.slice a n c]) (hb:RdL h FB EB (a,n,c) bl):RdL h (blkC (sv (some ⟨p,0,none⟩,1,1))) (fun j=>FB j∨EB j) (some ⟨p,0,none⟩,1,1) [bl]:=
 RdL.of_cap (α:=List UInt8) (css:=[[sv (a,n,c)]]) k (All2.cons ⟨(a,n,c),rfl,hb.mono (fun _ h=>.inl h) (fun _ h=>.inr h)⟩ All2.nil)
theorem mostB_div {z:Nat} : ((mostB z:Nat):Int)=16777188 / ((z+8:Nat):Int):=by unfold mostB;rw [Int.natCast_ediv];rfl
open Go Go.HL
theorem qpages_any {h:Heap} {E:Nat→Prop} {z fr sc nc:Nat} {sa na:Option Addr} {sl nl:List RB} {ib:Bool} (hw:DocP h E ⟨z,sa,sc,sl,na,nc,nl,ib,fr⟩) :
  HC Tryz.prog 33 #[.agg #[.int .i64 (z:Int),.slice sa sl.length sc,.slice na nl.length nc,.bool ib]] h (fun v h'=>v=.slice (pgA ib na sa) (pgL' ib nl sl).length (pgC ib nc sc)∧Ext h h'):=by
 have hsm:=hw.s.m;have hnm:=hw.n.m;have ok:=((Hp.nil h none_).old (pgwI (fun j=>E j∧j<h.size) (na,nl.length,nc) nl) (hw.n.lt (by decide)) (fun j hj=>hj.2)).old (pgwI (fun j=>E j∧j<h.size) (sa,sl.length,sc) sl) (hw.s.lt (by decide)) (fun j hj=>hj.2);refine HC.go Tryz.func33 9 ?_;refine .seq<|.r<|.a' 1 (.bxA (cs:=[.int .i64 (z:Int),.slice sa sl.length sc,.slice na nl.length nc,.bool ib]) ok) ?_;rintro _ η1 ⟨pb1,rfl,ok,xe⟩;refine .z .asS<|.nil ?_;refine .seq<|.seq<|.r<|.z (.fa T.fd51_3)<|.z (.ldx T.ag4 ok.m0)<|.nil ?_;refine .cond (fun C0=>?_) (fun C0=>?_)
 ·
  refine .seq<|.r<|.z (.fa T.fd51_2)<|.z (.ldx T.ag26 ok.m0)<|.z .asS<|.nil ?_;refine .ret ⟨.slice na nl.length nc,Res.one rfl rfl,⟨by rw [show ib=true from C0];rfl,ok.chg⟩⟩
 refine .skip<|.seq<|.r<|.z (.fa T.fd51_1)<|.z (.ldx T.ag26 ok.m0)<|.z .asS<|.nil ?_;refine .ret ⟨.slice sa sl.length sc,Res.one rfl rfl,⟨by rw [show ib=false from by simpa using C0];rfl,ok.chg⟩⟩
theorem qbegin_any {h:Heap} {E:Nat→Prop} {z fr sc nc:Nat} {sa na:Option Addr} {sl nl:List RB} {ib:Bool} (hw:DocP h E ⟨z,sa,sc,sl,na,nc,nl,ib,fr⟩) :
  HC Tryz.prog 87 #[.agg #[.int .i64 (z:Int),.slice sa sl.length sc,.slice na nl.length nc,.bool ib]] h (fun v h'=>∃w:RWp,v=.tuple #[.agg w.cells4,.int .i64 ((beginP (RWp.abs ⟨z,sa,sc,sl,na,nc,nl,ib,fr⟩)).2:Int)]∧w.abs=(beginP (RWp.abs ⟨z,sa,sc,sl,na,nc,nl,ib,fr⟩)).1∧PRet h E w h'):=by
 have hsm:=hw.s.m;have hnm:=hw.n.m;have ok:=((Hp.nil h none_).old (pgwI (fun j=>E j∧j<h.size) (na,nl.length,nc) nl) (hw.n.lt (by decide)) (fun j hj=>hj.2)).old (pgwI (fun j=>E j∧j<h.size) (sa,sl.length,sc) sl) (hw.s.lt (by decide)) (fun j hj=>hj.2);refine HC.go Tryz.func87 12 ?_;refine .seq<|.r<|.a' 1 (.bxA (cs:=[.int .i64 (z:Int),.slice sa sl.length sc,.slice na nl.length nc,.bool ib]) ok) ?_;rintro _ η1 ⟨pb1,rfl,ok,xe⟩;refine .a' 2 (.alA T.zr51 ok) ?_;rintro _ η2 ⟨pb2,rfl,ok,xe⟩;refine .z .asI<|.nil ?_;refine .seq<|.seq<|.r<|.z (.fa T.fd51_3)<|.z (.ldx T.ag4 ok.m1)<|.nil ?_;refine .cond (fun C0=>?_) (fun C0=>?_)
 ·
  refine .seq<|.r<|.z (.ldb T.ag51 ok.m1 T.sz51)<|.ur' (.stW (vs:=[.int .i64 (z:Int),.slice sa sl.length sc,.slice na nl.length nc,.bool ib]) T.sz51 ok (oneL rfl)) ?_;rintro η3 ⟨ok,cg⟩;refine .z .asI<|.nil ?_;refine .ret ⟨.tuple #[.agg #[.int .i64 (z:Int),.slice sa sl.length sc,.slice na nl.length nc,.bool ib],.int .i64 10],Res.many (vs:=[.agg #[.int .i64 (z:Int),.slice sa sl.length sc,.slice na nl.length nc,.bool ib],.int .i64 10]) rfl ⟨⟨_,rfl,load_ag T.ag51 ok.m0 T.sz51⟩,rfl,trivial⟩ rfl,⟨⟨z,sa,sc,sl,na,nc,nl,ib,fr⟩,by rw [beginP_1 (show ib=true from C0)]<;>rfl,by rw [beginP_1 (show ib=true from C0)]<;>rfl,ok.chg,⟨(ok.r0).mono (fun _ h=>.inl h.1),(ok.r1).mono (fun _ h=>.inl h.1)⟩⟩⟩
 refine .skip<|.seq<|.r<|.z (.fa T.fd51_3)<|.ur' (.stB T.sz4 ok.n1) ?_;rintro η4 ⟨ok,cg⟩;refine .nil ?_;refine .seq<|.r<|.z (.fa T.fd51_1)<|.z (.ldx T.ag26 ok.m0)<|.z (.fa T.fd51_2)<|.ur' (.stS T.sz26 ok) ?_;rintro η5 ⟨ok,cg⟩;refine .nil ?_;refine .seq<|.r<|.z (.ldb T.ag51 ok.m0 T.sz51)<|.ur' (.stW (vs:=[.int .i64 (z:Int),.slice sa sl.length sc,.slice sa sl.length sc,.bool true]) T.sz51 ok.n1 (oneL rfl)) ?_;rintro η6 ⟨ok,cg⟩;refine .z .asI<|.nil ?_;refine .ret ⟨.tuple #[.agg #[.int .i64 (z:Int),.slice sa sl.length sc,.slice sa sl.length sc,.bool true],.int .i64 0],Res.many (vs:=[.agg #[.int .i64 (z:Int),.slice sa sl.length sc,.slice sa sl.length sc,.bool true],.int .i64 0]) rfl ⟨⟨_,rfl,load_ag T.ag51 ok.m0 T.sz51⟩,rfl,trivial⟩ rfl,⟨⟨z,sa,sc,sl,sa,sc,sl,true,fr⟩,by rw [beginP_2 (show ¬ib=true from by simpa using C0)]<;>rfl,by rw [beginP_2 (show ¬ib=true from by simpa using C0)]<;>rfl,ok.chg,⟨(ok.r0).mono (fun _ h=>.inl h.1),(ok.r0).mono (fun _ h=>.inl h.1)⟩⟩⟩
theorem qrollback_any {h:Heap} {E:Nat→Prop} {z fr sc nc:Nat} {sa na:Option Addr} {sl nl:List RB} {ib:Bool} (hw:DocP h E ⟨z,sa,sc,sl,na,nc,nl,ib,fr⟩) :
  HC Tryz.prog 92 #[.agg #[.int .i64 (z:Int),.slice sa sl.length sc,.slice na nl.length nc,.bool ib]] h (fun v h'=>∃w:RWp,v=.tuple #[.agg w.cells4,.int .i64 ((rollbackP (RWp.abs ⟨z,sa,sc,sl,na,nc,nl,ib,fr⟩)).2:Int)]∧w.abs=(rollbackP (RWp.abs ⟨z,sa,sc,sl,na,nc,nl,ib,fr⟩)).1∧PRet h E w h'):=by
 have hsm:=hw.s.m;have hnm:=hw.n.m;have ok:=((Hp.nil h none_).old (pgwI (fun j=>E j∧j<h.size) (na,nl.length,nc) nl) (hw.n.lt (by decide)) (fun j hj=>hj.2)).old (pgwI (fun j=>E j∧j<h.size) (sa,sl.length,sc) sl) (hw.s.lt (by decide)) (fun j hj=>hj.2);refine HC.go Tryz.func92 13 ?_;refine .seq<|.r<|.a' 1 (.bxA (cs:=[.int .i64 (z:Int),.slice sa sl.length sc,.slice na nl.length nc,.bool ib]) ok) ?_;rintro _ η1 ⟨pb1,rfl,ok,xe⟩;refine .a' 2 (.alA T.zr51 ok) ?_;rintro _ η2 ⟨pb2,rfl,ok,xe⟩;refine .z .asI<|.nil ?_;refine .seq<|.seq<|.r<|.z (.fa T.fd51_3)<|.z (.ldx T.ag4 ok.m1)<|.z .not<|.nil ?_;refine .cond (fun C0=>?_) (fun C0=>?_)
 ·
  refine .seq<|.r<|.z (.ldb T.ag51 ok.m1 T.sz51)<|.ur' (.stW (vs:=[.int .i64 (z:Int),.slice sa sl.length sc,.slice na nl.length nc,.bool ib]) T.sz51 ok (oneL rfl)) ?_;rintro η3 ⟨ok,cg⟩;refine .z .asI<|.nil ?_;refine .ret ⟨.tuple #[.agg #[.int .i64 (z:Int),.slice sa sl.length sc,.slice na nl.length nc,.bool ib],.int .i64 10],Res.many (vs:=[.agg #[.int .i64 (z:Int),.slice sa sl.length sc,.slice na nl.length nc,.bool ib],.int .i64 10]) rfl ⟨⟨_,rfl,load_ag T.ag51 ok.m0 T.sz51⟩,rfl,trivial⟩ rfl,⟨⟨z,sa,sc,sl,na,nc,nl,ib,fr⟩,by rw [rollbackP_1 (show ib=false from by simpa using C0)]<;>rfl,by rw [rollbackP_1 (show ib=false from by simpa using C0)]<;>rfl,ok.chg,⟨(ok.r0).mono (fun _ h=>.inl h.1),(ok.r1).mono (fun _ h=>.inl h.1)⟩⟩⟩
 refine .skip<|.seq<|.r<|.z (.fa T.fd51_0)<|.z (.ldx T.ag3 ok.m1)<|.z (.fa T.fd51_1)<|.z (.ldx T.ag26 ok.m1)<|.z (.bd #[.int .i64 (z:Int),.slice sa sl.length sc,.slice none 0 0,.bool false] T.zr51 T.pl51 rfl)<|.ur' (.stW (vs:=[.int .i64 (z:Int),.slice sa sl.length sc,.slice none 0 0,.bool false]) T.sz51 ok (oneL rfl)) ?_;rintro η4 ⟨ok,cg⟩;refine .z .asI<|.nil ?_;refine .ret ⟨.tuple #[.agg #[.int .i64 (z:Int),.slice sa sl.length sc,.slice none 0 0,.bool false],.int .i64 0],Res.many (vs:=[.agg #[.int .i64 (z:Int),.slice sa sl.length sc,.slice none 0 0,.bool false],.int .i64 0]) rfl ⟨⟨_,rfl,load_ag T.ag51 ok.m0 T.sz51⟩,rfl,trivial⟩ rfl,⟨⟨z,sa,sc,sl,none,0,[],false,fr⟩,by rw [rollbackP_2 (show ¬ib=false from by simpa using C0)]<;>rfl,by rw [rollbackP_2 (show ¬ib=false from by simpa using C0)]<;>rfl,ok.chg,⟨(ok.r0).mono (fun _ h=>.inl h.1),RwB.nil _ _ 0 (by decide)⟩⟩⟩
theorem qread_any {h:Heap} {E:Nat→Prop} {z fr sc nc:Nat} {sa na:Option Addr} {sl nl:List RB} {ib:Bool} {no:Int} (hw:DocP h E ⟨z,sa,sc,sl,na,nc,nl,ib,fr⟩) (hno : -9223372036854775808≤no∧no≤9223372036854775807) :
  HC Tryz.prog 93 #[.agg #[.int .i64 (z:Int),.slice sa sl.length sc,.slice na nl.length nc,.bool ib],.int .i64 no] h (fun v h'=>∃a c,v=.tuple #[.slice a (readP (RWp.abs ⟨z,sa,sc,sl,na,nc,nl,ib,fr⟩) no).1.length c,.int .i64 ((readP (RWp.abs ⟨z,sa,sc,sl,na,nc,nl,ib,fr⟩) no).2:Int)]∧Ext h h'∧RdL h' E E (a,(readP (RWp.abs ⟨z,sa,sc,sl,na,nc,nl,ib,fr⟩) no).1.length,c) (readP (RWp.abs ⟨z,sa,sc,sl,na,nc,nl,ib,fr⟩) no).1):=by
 have hsm:=hw.s.m;have hnm:=hw.n.m;have ok:=((Hp.nil h none_).old (pgwI (fun j=>E j∧j<h.size) (na,nl.length,nc) nl) (hw.n.lt (by decide)) (fun j hj=>hj.2)).old (pgwI (fun j=>E j∧j<h.size) (sa,sl.length,sc) sl) (hw.s.lt (by decide)) (fun j hj=>hj.2);have hpm:=(DocP.pages hw).m;refine HC.go Tryz.func93 21 ?_;refine .seq<|.r<|.a' 2 (.bxA (cs:=[.int .i64 (z:Int),.slice sa sl.length sc,.slice na nl.length nc,.bool ib]) ok) ?_;rintro _ η1 ⟨pb1,rfl,ok,xe⟩;refine .z .asS<|.z .asI<|.nil ?_;refine .seq<|.seq<|.r<|.z .mvI<|.z .lss<|.z .mvB<|.sd (fun G8=>?_) (fun G8=>?_)
 ·
  refine .y<|.y<|.y<|.y<|.y<|.z .pkt<|.nil ?_;refine .ct<|.seq<|.r<|.z .asS<|.z .asI<|.nil ?_;refine .ret ⟨.tuple #[.slice none 0 0,.int .i64 1],Res.two rfl rfl rfl,⟨none,0,by rw [readP_1 (by rw [pgL'_len];first | exact .inl (by omega) | exact .inr (by omega))]<;>rfl,ok.chg,by rw [readP_1 (by rw [pgL'_len];first | exact .inl (by omega) | exact .inr (by omega))];exact RdL.nil _ _ _⟩⟩
 refine .z .mvI<|.z (.ldb T.ag51 ok.m0 T.sz51)<|.c' 11 .func (qpages_any (z:=z) (sl:=sl) (nl:=nl) (ib:=ib) (fr:=fr) ⟨ok.r0,ok.r1⟩) ?_;rintro _ η2 ⟨rfl,hx⟩;have ok:=ok.ext hx;refine .z (.len T.el26)<|.z .gtr<|.z .pkf<|.nil ?_;refine .cd (fun C0=>?_) (fun C0=>?_)
 ·
  refine .seq<|.r<|.z .asS<|.z .asI<|.nil ?_;refine .ret ⟨.tuple #[.slice none 0 0,.int .i64 1],Res.two rfl rfl rfl,⟨none,0,by rw [readP_1 (by rw [pgL'_len];first | exact .inl (by omega) | exact .inr (by omega))]<;>rfl,ok.chg,by rw [readP_1 (by rw [pgL'_len];first | exact .inl (by omega) | exact .inr (by omega))];exact RdL.nil _ _ _⟩⟩
 refine .skip<|.seq<|?_;have hpl:=pgL'_len (z:=z) (fr:=fr) (sa:=sa) (na:=na) (sc:=sc) (nc:=nc) (sl:=sl) (nl:=nl) (ib:=ib);obtain ⟨q,hq⟩:∃q:Nat,no=(q:Int)+1:=⟨(no-1).toNat,by omega⟩;have hql:q<(pgL' ib nl sl).length:=by omega
 refine .r<|.z (.ldb T.ag51 ok.m0 T.sz51)<|.c' 16 .func (qpages_any (z:=z) (sl:=sl) (nl:=nl) (ib:=ib) (fr:=fr) ⟨ok.r0,ok.r1⟩) ?_;rintro _ η3 ⟨rfl,hx⟩;have ok:=ok.ext hx;have ok:=ok.d0 (pgwI (fun j=>E j∧j<h.size) (pgA ib na sa,(pgL' ib nl sl).length,pgC ib nc sc) (pgL' ib nl sl)) (DocP.pages (z:=z) (fr:=fr) ⟨ok.r0,ok.r1⟩) (fun _ h=>h);generalize pgA ib na sa=pa at ok⊢;refine .z .mvI<|.z .sub<|?_;obtain ⟨bb1,oo1,rfl,fb1⟩:=ok.r0.pos (by omega);refine .z (.ix1 q T.el26 T.sz22 (hi:=by omega))<|?_;have ok:=ok.d0 (rdI (fun j=>E j∧j<h.size) (fun j=>E j∧j<h.size) ((pgL' ib nl sl)[q].a,(pgL' ib nl sl)[q].l.length,(pgL' ib nl sl)[q].c) (pgL' ib nl sl)[q].l) ((ok.r0).by' _ (List.getElem_mem hql)) (fun _ h=>h.elim id id);refine .z (.ld T.ag22 (sl_at1 RB.cells_len (ok.r1).sl (i:=q) (by omega) rfl))<|.z .asS<|.z .asI<|.nil ?_;refine .ret ⟨.tuple #[.slice ((pgL' ib nl sl)[q].a) ((pgL' ib nl sl)[q].l.length) ((pgL' ib nl sl)[q].c),.int .i64 0],Res.two rfl rfl rfl,⟨(pgL' ib nl sl)[q].a,(pgL' ib nl sl)[q].c,by rw [readP_2 (by rw [hpl];rintro (h | h)<;>omega),show (no-1).toNat=q by omega,pgL'_at hql]<;>rfl,ok.chg,by rw [readP_2 (by rw [hpl];rintro (h | h)<;>omega),show (no-1).toNat=q by omega,pgL'_at hql];exact (ok.r0).mono (fun _ h=>h.1) (fun _ h=>h.1)⟩⟩
theorem qwrite_any {h:Heap} {E:Nat→Prop} {z fr sc nc:Nat} {sa na:Option Addr} {sl nl:List RB} {ib:Bool} {no:Int} {ba:Option Addr} {bc:Nat} {bl:List UInt8} {FB EB:Nat→Prop} (hw:DocP h E ⟨z,sa,sc,sl,na,nc,nl,ib,fr⟩) (hbl:RdL h FB EB (ba,bl.length,bc) bl) (hno : -9223372036854775808≤no∧no≤9223372036854775807) (hnl:nl.length≤1000000) (hz:z≤4096) :
  HC Tryz.prog 89 #[.agg #[.int .i64 (z:Int),.slice sa sl.length sc,.slice na nl.length nc,.bool ib],.int .i64 no,.slice ba bl.length bc] h (fun v h'=>∃w:RWp,v=.tuple #[.agg w.cells4,.int .i64 ((writeP (RWp.abs ⟨z,sa,sc,sl,na,nc,nl,ib,fr⟩) no bl).2:Int)]∧w.abs=(writeP (RWp.abs ⟨z,sa,sc,sl,na,nc,nl,ib,fr⟩) no bl).1∧PRet h E w h'):=by
 have hsm:=hw.s.m;have hnm:=hw.n.m;have ok:=((Hp.nil h none_).old (pgwI (fun j=>E j∧j<h.size) (na,nl.length,nc) nl) (hw.n.lt (by decide)) (fun j hj=>hj.2)).old (pgwI (fun j=>E j∧j<h.size) (sa,sl.length,sc) sl) (hw.s.lt (by decide)) (fun j hj=>hj.2);have hb2:=hbl.m;have hb1:=hbl.c;simp only at hb1 hb2;have ok:=(ok.arg hbl).f2.f2;refine HC.go Tryz.func89 43 ?_;refine .seq<|.r<|.a' 3 (.bxA (cs:=[.int .i64 (z:Int),.slice sa sl.length sc,.slice na nl.length nc,.bool ib]) ok) ?_;rintro _ η1 ⟨pb1,rfl,ok,xe⟩;refine .a' 6 (.alA T.zr51 ok) ?_;rintro _ η2 ⟨pb2,rfl,ok,xe⟩;refine .z .asI<|.nil ?_;refine .seq<|.seq<|.r<|.z (.fa T.fd51_3)<|.z (.ldx T.ag4 ok.m1)<|.z .not<|.nil ?_;refine .cond (fun C0=>?_) (fun C0=>?_)
 ·
  refine .seq<|.r<|.z (.ldb T.ag51 ok.m1 T.sz51)<|.ur' (.stW (vs:=[.int .i64 (z:Int),.slice sa sl.length sc,.slice na nl.length nc,.bool ib]) T.sz51 ok (oneL rfl)) ?_;rintro η3 ⟨ok,cg⟩;refine .z .asI<|.nil ?_;refine .ret ⟨.tuple #[.agg #[.int .i64 (z:Int),.slice sa sl.length sc,.slice na nl.length nc,.bool ib],.int .i64 10],Res.many (vs:=[.agg #[.int .i64 (z:Int),.slice sa sl.length sc,.slice na nl.length nc,.bool ib],.int .i64 10]) rfl ⟨⟨_,rfl,load_ag T.ag51 ok.m0 T.sz51⟩,rfl,trivial⟩ rfl,⟨⟨z,sa,sc,sl,na,nc,nl,ib,fr⟩,by rw [writeP_1 (show ib=false from by simpa using C0)]<;>rfl,by rw [writeP_1 (show ib=false from by simpa using C0)]<;>rfl,ok.chg,⟨(ok.r0).mono (fun _ h=>.inl h.1),(ok.r1).mono (fun _ h=>.inl h.1)⟩⟩⟩
 refine .skip<|.seq<|.seq<|.r<|.z .mvI<|.z .lss<|.z .mvB<|.sd (fun G14=>?_) (fun G14=>?_)
 ·
  refine .y<|.y<|.y<|.y<|.y<|.z .pkt<|.z .mvB<|.y<|.y<|.y<|.y<|.y<|.z .pkt<|.nil ?_;refine .ct<|.seq<|.r<|.z (.ldb T.ag51 ok.m1 T.sz51)<|.ur' (.stW (vs:=[.int .i64 (z:Int),.slice sa sl.length sc,.slice na nl.length nc,.bool ib]) T.sz51 ok (oneL rfl)) ?_;rintro η4 ⟨ok,cg⟩;refine .z .asI<|.nil ?_;refine .ret ⟨.tuple #[.agg #[.int .i64 (z:Int),.slice sa sl.length sc,.slice na nl.length nc,.bool ib],.int .i64 1],Res.many (vs:=[.agg #[.int .i64 (z:Int),.slice sa sl.length sc,.slice na nl.length nc,.bool ib],.int .i64 1]) rfl ⟨⟨_,rfl,load_ag T.ag51 ok.m0 T.sz51⟩,rfl,trivial⟩ rfl,⟨⟨z,sa,sc,sl,na,nc,nl,ib,fr⟩,by rw [writeP_2 (show ¬ib=false from by simpa using C0) (by show _∨((pgs nl).length:Int)<no∨bl.length≠z;rw [pgs_len];first | exact .inl (by omega) | exact .inr (.inl (by omega)) | exact .inr (.inr (by omega)))]<;>rfl,by rw [writeP_2 (show ¬ib=false from by simpa using C0) (by show _∨((pgs nl).length:Int)<no∨bl.length≠z;rw [pgs_len];first | exact .inl (by omega) | exact .inr (.inl (by omega)) | exact .inr (.inr (by omega)))]<;>rfl,ok.chg,⟨(ok.r0).mono (fun _ h=>.inl h.1),(ok.r1).mono (fun _ h=>.inl h.1)⟩⟩⟩
 refine .z .mvI<|.z (.fa T.fd51_2)<|.z (.ldx T.ag26 ok.m1)<|.z (.len T.el26)<|.z .gtr<|.z .pkf<|.z .mvB<|.sd (fun G21=>?_) (fun G21=>?_)
 ·
  refine .y<|.y<|.y<|.y<|.y<|.z .pkt<|.nil ?_;refine .ct<|.seq<|.r<|.z (.ldb T.ag51 ok.m1 T.sz51)<|.ur' (.stW (vs:=[.int .i64 (z:Int),.slice sa sl.length sc,.slice na nl.length nc,.bool ib]) T.sz51 ok (oneL rfl)) ?_;rintro η5 ⟨ok,cg⟩;refine .z .asI<|.nil ?_;refine .ret ⟨.tuple #[.agg #[.int .i64 (z:Int),.slice sa sl.length sc,.slice na nl.length nc,.bool ib],.int .i64 1],Res.many (vs:=[.agg #[.int .i64 (z:Int),.slice sa sl.length sc,.slice na nl.length nc,.bool ib],.int .i64 1]) rfl ⟨⟨_,rfl,load_ag T.ag51 ok.m0 T.sz51⟩,rfl,trivial⟩ rfl,⟨⟨z,sa,sc,sl,na,nc,nl,ib,fr⟩,by rw [writeP_2 (show ¬ib=false from by simpa using C0) (by show _∨((pgs nl).length:Int)<no∨bl.length≠z;rw [pgs_len];first | exact .inl (by omega) | exact .inr (.inl (by omega)) | exact .inr (.inr (by omega)))]<;>rfl,by rw [writeP_2 (show ¬ib=false from by simpa using C0) (by show _∨((pgs nl).length:Int)<no∨bl.length≠z;rw [pgs_len];first | exact .inl (by omega) | exact .inr (.inl (by omega)) | exact .inr (.inr (by omega)))]<;>rfl,ok.chg,⟨(ok.r0).mono (fun _ h=>.inl h.1),(ok.r1).mono (fun _ h=>.inl h.1)⟩⟩⟩
 refine .z .mvS<|.z (.len T.el22)<|.z (.fa T.fd51_0)<|.z (.ldx T.ag3 ok.m1)<|.z .neq<|.z .pkf<|.nil ?_;refine .cd (fun C1=>?_) (fun C1=>?_)
 ·
  refine .seq<|.r<|.z (.ldb T.ag51 ok.m1 T.sz51)<|.ur' (.stW (vs:=[.int .i64 (z:Int),.slice sa sl.length sc,.slice na nl.length nc,.bool ib]) T.sz51 ok (oneL rfl)) ?_;rintro η6 ⟨ok,cg⟩;refine .z .asI<|.nil ?_;refine .ret ⟨.tuple #[.agg #[.int .i64 (z:Int),.slice sa sl.length sc,.slice na nl.length nc,.bool ib],.int .i64 1],Res.many (vs:=[.agg #[.int .i64 (z:Int),.slice sa sl.length sc,.slice na nl.length nc,.bool ib],.int .i64 1]) rfl ⟨⟨_,rfl,load_ag T.ag51 ok.m0 T.sz51⟩,rfl,trivial⟩ rfl,⟨⟨z,sa,sc,sl,na,nc,nl,ib,fr⟩,by rw [writeP_2 (show ¬ib=false from by simpa using C0) (by show _∨((pgs nl).length:Int)<no∨bl.length≠z;rw [pgs_len];first | exact .inl (by omega) | exact .inr (.inl (by omega)) | exact .inr (.inr (by omega)))]<;>rfl,by rw [writeP_2 (show ¬ib=false from by simpa using C0) (by show _∨((pgs nl).length:Int)<no∨bl.length≠z;rw [pgs_len];first | exact .inl (by omega) | exact .inr (.inl (by omega)) | exact .inr (.inr (by omega)))]<;>rfl,ok.chg,⟨(ok.r0).mono (fun _ h=>.inl h.1),(ok.r1).mono (fun _ h=>.inl h.1)⟩⟩⟩
 refine .skip<|.seq<|?_;obtain ⟨q,hq⟩:∃q:Nat,no=(q:Int)+1:=⟨(no-1).toNat,by omega⟩;refine .r<|.a' 29 (.lit [] (cs:=[]) T.el26 T.sz22 T.zr22 ok trivial) ?_;rintro _ η7 ⟨pb3,rfl,ok,xe⟩;refine .z (.fa T.fd51_2)<|.z (.ldx T.ag26 ok.m2)<|.a' 32 (.app (news:=nl.flatMap RB.cells) T.el26 T.sz22 T.by22 T.zr22 ok (ok.r1).sl (fun u hu=>by obtain ⟨x,_,hx⟩:=List.mem_flatMap.1 hu;simp [RB.cells] at hx;rw [hx];rfl) (by simp only [List.length_nil,flat_len RB.cells_len];omega)) ?_;rintro _ η8 ⟨ya1,yn1,yc1,rfl,ok,ap⟩;have ok:=ok.cx (ys:=nl.flatMap RB.cells) (by simp);obtain rfl:yn1=nl.length:=(Sl.sz (Cap.sl ok.m0) RB.cells_len (by decide)).1.symm;refine .z (.fa T.fd51_2)<|.ur' (.stS T.sz26 ok.n2) ?_;rintro η9 ⟨ok,cg⟩;refine .nil ?_;refine .seq<|?_;have ok:=ok.d1 (pbyI (fun j=>E j∧j<h.size) nl) (PgB.pby ok.r1) (fun _ h=>h);refine .a 8 (fun fl hh=>cond fl True (Hp h none_ [boxI pb1 51 [.int .i64 (z:Int),.slice sa sl.length sc,.slice ya1 nl.length yc1,.bool ib],capI 1 22 (ya1,nl.length,yc1) (nl.flatMap RB.cells),boxI pb2 51 [.int .i64 0,.slice none 0 0,.slice none 0 0,.bool false]] [pbyI (fun j=>E j∧j<h.size) nl,pgwI (fun j=>E j∧j<h.size) (sa,sl.length,sc) sl,pgwI (fun j=>E j∧j<h.size) (na,nl.length,nc) nl,rdI (fun j=>FB j∧j<h.size) (fun j=>EB j∧j<h.size) (ba,bl.length,bc) bl] hh)) mixed ?_;have hS:=ok;refine .g 0 false rfl 34 hS (fun _=>.fa T.fd51_2)<|.l 1 false rfl 35 hS (fun _ hS=>.ldx T.ag26 hS.m0)<|.g 2 false rfl 36 hS (fun _=>.mvI)<|.g 3 false rfl 37 hS (fun _=>.sub)<|.g 4 false rfl 38 hS (fun _=>.mvS)<|.o1 5<|.a' false rfl 39 (.lit [.tmp 38] (cs:=[.slice ba bl.length bc]) T.el26 T.sz22 T.zr22 ok ⟨rfl,trivial⟩) ?_;rintro _ η10 ⟨pb4,rfl,ok,xe⟩;refine ⟨ok.n3.n3.n3.k3,?_⟩;have hS:=ok.n3.n3.n3.k3;refine .o1 6<|.c' false rfl 40 .func (join_any (L:=[bl]) (x:=(some ⟨pb4,0,none⟩,1,1)) (RdL.one (a:=ba) (n:=bl.length) (c:=bc) ok.m0 (ok.r3)) (by simp;omega)) ?_;rintro _ η11 own;rw [show [bl].flatten=bl by simp] at own;obtain ⟨ya2,yc2,rfl⟩:=own.formB;have ok:=ok.own own;refine ⟨ok.n4.n4.n4.k3,?_⟩;have hS:=ok.n4.n4.n4.k3;obtain ⟨bb1,oo1,rfl,fb1⟩:=ok.m3.pos (n:=nl.length) (by omega);refine .g 7 false rfl 41 hS (fun _=>.ix1 q T.el26 T.sz22 (hi:=by omega))<|.o1 8<|.ur' true rfl (.sxS (q:=q) T.sz22 ok.n3) ?_;rintro η12 ⟨ok,cg⟩;refine ⟨trivial,?_⟩;refine .e ?_;refine .seq<|.r<|.z (.ldb T.ag51 ok.m3 T.sz51)<|.ur' (.stW (vs:=[.int .i64 (z:Int),.slice sa sl.length sc,.slice (some ⟨bb1,oo1,none⟩) nl.length yc1,.bool ib]) T.sz51 ok.n4 (oneL rfl)) ?_;rintro η13 ⟨ok,cg⟩;refine .z .asI<|.nil ?_;have hfr:=(ok.n2).fresh;have ok:=(ok.n2).pbySet (i:=q);have ok:=(ok.n1).cx (ys:=(nl.set q ⟨ya2,yc2,bl⟩).flatMap RB.cells) (flatMap_set (x:=⟨ya2,yc2,bl⟩) _ rfl);have hsl:(nl.set q ⟨ya2,yc2,bl⟩).length=nl.length:=List.length_set ..;refine .ret ⟨.tuple #[.agg #[.int .i64 (z:Int),.slice sa sl.length sc,.slice (some ⟨bb1,oo1,none⟩) nl.length yc1,.bool ib],.int .i64 0],Res.many (vs:=[.agg #[.int .i64 (z:Int),.slice sa sl.length sc,.slice (some ⟨bb1,oo1,none⟩) nl.length yc1,.bool ib],.int .i64 0]) rfl ⟨⟨_,rfl,load_ag T.ag51 ok.m1 T.sz51⟩,rfl,trivial⟩ rfl,⟨⟨z,sa,sc,sl,some ⟨bb1,oo1,none⟩,yc1,(nl.set q ⟨ya2,yc2,bl⟩),ib,fr⟩,by rw [writeP_3 (show ¬ib=false from by simpa using C0) (by show ¬(_∨((pgs nl).length:Int)<no∨bl.length≠z);rw [pgs_len];rintro (h | h | h)<;>omega)];show _=Value.tuple #[.agg #[_,_,.slice _ (nl.set q _).length _,_],_];rw [hsl];rfl,by rw [writeP_3 (show ¬ib=false from by simpa using C0) (by show ¬(_∨((pgs nl).length:Int)<no∨bl.length≠z);rw [pgs_len];rintro (h | h | h)<;>omega)];simp only [RWp.abs,pgs_set,show (no-1).toNat=q by omega],ok.chg,⟨(ok.r1).mono (fun _ h=>.inl h.1),by rw [hsl];exact (PgB.of ok.m0 ok.r0 (fun j hj=>.inr (ok.fresh j hj)) (fun j hj=>(((fun j h=>h.elim (fun h=>.inl h.1) (fun h=>.inr (hfr j h).1)):∀j,(fun j=>(fun j=>E j∧j<h.size) j∨blkC (sv (ya2,(bl).length,yc2)) j) j→E j∨h.size≤j) j hj).imp id fun h1=>⟨h1,ok.l0 j hj⟩))⟩⟩⟩
theorem qresize_any {h:Heap} {E:Nat→Prop} {z fr sc nc:Nat} {sa na:Option Addr} {sl nl:List RB} {ib:Bool} {n:Int} (hw:DocP h E ⟨z,sa,sc,sl,na,nc,nl,ib,fr⟩) (hn : -9223372036854775808≤n∧n≤9223372036854775807) (hz:1≤z∧z≤4096) :
  HC Tryz.prog 90 #[.agg #[.int .i64 (z:Int),.slice sa sl.length sc,.slice na nl.length nc,.bool ib],.int .i64 n] h (fun v h'=>∃w:RWp,v=.tuple #[.agg w.cells4,.int .i64 ((resizeQ (RWp.abs ⟨z,sa,sc,sl,na,nc,nl,ib,fr⟩) n).2:Int)]∧w.abs=(resizeQ (RWp.abs ⟨z,sa,sc,sl,na,nc,nl,ib,fr⟩) n).1∧PRet h E w h'):=by
 have hsm:=hw.s.m;have hnm:=hw.n.m;have ok:=((Hp.nil h none_).old (pgwI (fun j=>E j∧j<h.size) (na,nl.length,nc) nl) (hw.n.lt (by decide)) (fun j hj=>hj.2)).old (pgwI (fun j=>E j∧j<h.size) (sa,sl.length,sc) sl) (hw.s.lt (by decide)) (fun j hj=>hj.2);have hmb:((mostB z:Nat):Int)=16777188 / ((z+8:Nat):Int):=mostB_div;refine HC.go Tryz.func90 53 ?_;refine .seq<|.r<|.a' 2 (.bxA (cs:=[.int .i64 (z:Int),.slice sa sl.length sc,.slice na nl.length nc,.bool ib]) ok) ?_;rintro _ η1 ⟨pb1,rfl,ok,xe⟩;refine .a' 4 (.alA T.zr51 ok) ?_;rintro _ η2 ⟨pb2,rfl,ok,xe⟩;refine .z .asI<|.nil ?_;refine .seq<|.seq<|.r<|.z (.fa T.fd51_3)<|.z (.ldx T.ag4 ok.m1)<|.z .not<|.nil ?_;refine .cond (fun C0=>?_) (fun C0=>?_)
 ·
  refine .seq<|.r<|.z (.ldb T.ag51 ok.m1 T.sz51)<|.ur' (.stW (vs:=[.int .i64 (z:Int),.slice sa sl.length sc,.slice na nl.length nc,.bool ib]) T.sz51 ok (oneL rfl)) ?_;rintro η3 ⟨ok,cg⟩;refine .z .asI<|.nil ?_;refine .ret ⟨.tuple #[.agg #[.int .i64 (z:Int),.slice sa sl.length sc,.slice na nl.length nc,.bool ib],.int .i64 10],Res.many (vs:=[.agg #[.int .i64 (z:Int),.slice sa sl.length sc,.slice na nl.length nc,.bool ib],.int .i64 10]) rfl ⟨⟨_,rfl,load_ag T.ag51 ok.m0 T.sz51⟩,rfl,trivial⟩ rfl,⟨⟨z,sa,sc,sl,na,nc,nl,ib,fr⟩,by rw [resizeQ_1 (show ib=false from by simpa using C0)]<;>rfl,by rw [resizeQ_1 (show ib=false from by simpa using C0)]<;>rfl,ok.chg,⟨(ok.r0).mono (fun _ h=>.inl h.1),(ok.r1).mono (fun _ h=>.inl h.1)⟩⟩⟩
 refine .skip<|.seq<|.seq<|.r<|.z .mvI<|.z .lss<|.nil ?_;refine .cd (fun C1=>?_) (fun C1=>?_)
 ·
  refine .seq<|.r<|.z (.ldb T.ag51 ok.m1 T.sz51)<|.ur' (.stW (vs:=[.int .i64 (z:Int),.slice sa sl.length sc,.slice na nl.length nc,.bool ib]) T.sz51 ok (oneL rfl)) ?_;rintro η4 ⟨ok,cg⟩;refine .z .asI<|.nil ?_;refine .ret ⟨.tuple #[.agg #[.int .i64 (z:Int),.slice sa sl.length sc,.slice na nl.length nc,.bool ib],.int .i64 1],Res.many (vs:=[.agg #[.int .i64 (z:Int),.slice sa sl.length sc,.slice na nl.length nc,.bool ib],.int .i64 1]) rfl ⟨⟨_,rfl,load_ag T.ag51 ok.m0 T.sz51⟩,rfl,trivial⟩ rfl,⟨⟨z,sa,sc,sl,na,nc,nl,ib,fr⟩,by rw [resizeQ_2 (show ¬ib=false from by simpa using C0) (by omega)]<;>rfl,by rw [resizeQ_2 (show ¬ib=false from by simpa using C0) (by omega)]<;>rfl,ok.chg,⟨(ok.r0).mono (fun _ h=>.inl h.1),(ok.r1).mono (fun _ h=>.inl h.1)⟩⟩⟩
 refine .skip<|.seq<|.seq<|.r<|.z .mvI<|.z .gtr<|.z .mvB<|.sd (fun G17=>?_) (fun G17=>?_)
 ·
  refine .y<|.y<|.y<|.y<|.y<|.y<|.z .pkt<|.nil ?_;refine .ct<|.seq<|.r<|.z (.ldb T.ag51 ok.m1 T.sz51)<|.ur' (.stW (vs:=[.int .i64 (z:Int),.slice sa sl.length sc,.slice na nl.length nc,.bool ib]) T.sz51 ok (oneL rfl)) ?_;rintro η5 ⟨ok,cg⟩;refine .z .asI<|.nil ?_;refine .ret ⟨.tuple #[.agg #[.int .i64 (z:Int),.slice sa sl.length sc,.slice na nl.length nc,.bool ib],.int .i64 5],Res.many (vs:=[.agg #[.int .i64 (z:Int),.slice sa sl.length sc,.slice na nl.length nc,.bool ib],.int .i64 5]) rfl ⟨⟨_,rfl,load_ag T.ag51 ok.m0 T.sz51⟩,rfl,trivial⟩ rfl,⟨⟨z,sa,sc,sl,na,nc,nl,ib,fr⟩,by rw [resizeQ_3 (show ¬ib=false from by simpa using C0) (by omega) (by show _∨((mostB z:Nat):Int)<_;first | exact .inl (by omega) | exact .inr (by omega))]<;>rfl,by rw [resizeQ_3 (show ¬ib=false from by simpa using C0) (by omega) (by show _∨((mostB z:Nat):Int)<_;first | exact .inl (by omega) | exact .inr (by omega))]<;>rfl,ok.chg,⟨(ok.r0).mono (fun _ h=>.inl h.1),(ok.r1).mono (fun _ h=>.inl h.1)⟩⟩⟩
 refine .z .mvI<|.z (.fa T.fd51_0)<|.z (.ldx T.ag3 ok.m1)<|.z (.addI (b:=8))<|.z (.quo (hr:=(by omega)))<|.z .gtr<|.z .pkf<|.nil ?_;refine .cd (fun C2=>?_) (fun C2=>?_)
 ·
  refine .seq<|.r<|.z (.ldb T.ag51 ok.m1 T.sz51)<|.ur' (.stW (vs:=[.int .i64 (z:Int),.slice sa sl.length sc,.slice na nl.length nc,.bool ib]) T.sz51 ok (oneL rfl)) ?_;rintro η6 ⟨ok,cg⟩;refine .z .asI<|.nil ?_;refine .ret ⟨.tuple #[.agg #[.int .i64 (z:Int),.slice sa sl.length sc,.slice na nl.length nc,.bool ib],.int .i64 5],Res.many (vs:=[.agg #[.int .i64 (z:Int),.slice sa sl.length sc,.slice na nl.length nc,.bool ib],.int .i64 5]) rfl ⟨⟨_,rfl,load_ag T.ag51 ok.m0 T.sz51⟩,rfl,trivial⟩ rfl,⟨⟨z,sa,sc,sl,na,nc,nl,ib,fr⟩,by rw [resizeQ_3 (show ¬ib=false from by simpa using C0) (by omega) (by show _∨((mostB z:Nat):Int)<_;first | exact .inl (by omega) | exact .inr (by omega))]<;>rfl,by rw [resizeQ_3 (show ¬ib=false from by simpa using C0) (by omega) (by show _∨((mostB z:Nat):Int)<_;first | exact .inl (by omega) | exact .inr (by omega))]<;>rfl,ok.chg,⟨(ok.r0).mono (fun _ h=>.inl h.1),(ok.r1).mono (fun _ h=>.inl h.1)⟩⟩⟩
 refine .skip<|.seq<|.r<|.z .asS<|?_;have ok:=ok.nilC (k:=1) (e:=22);have ok:=ok.pbyNil;refine .nil ?_;refine .seq<|.seq<|?_;obtain ⟨nn,rfl⟩:∃nn:Nat,n=(nn:Int):=⟨n.toNat,by omega⟩;refine .r<|.z .asI<|.nil ?_;refine .block fun K0 hK0=>.loop (fun m s hh=>∃(i:Nat) (ol:List RB) (a6:Option Addr) (c6:Nat) (Eo:Nat→Prop),Has s [(1,.int .i64 (nn:Int)),(2,.pointer (some ⟨pb1,0,none⟩)),(4,.pointer (some ⟨pb2,0,none⟩)),(6,.slice a6 ol.length c6),(7,.int .i64 (i:Int))]∧Hp h none_ [capI 1 22 (a6,ol.length,c6) (ol.flatMap RB.cells),boxI pb2 51 [.int .i64 0,.slice none 0 0,.slice none 0 0,.bool false],boxI pb1 51 [.int .i64 (z:Int),.slice sa sl.length sc,.slice na nl.length nc,.bool ib]] [pbyI Eo ol,pgwI (fun j=>E j∧j<h.size) (sa,sl.length,sc) sl,pgwI (fun j=>E j∧j<h.size) (na,nl.length,nc) nl] hh∧i≤nn∧ol.length=i∧pgs ol=(growL (pgs nl) z nn).take i∧(∀j,Eo j→E j∨h.size≤j)∧m=nn-i) ?_ ?_
 ·exact ⟨_,0,[],none,0,none_,⟨rfl,rfl,rfl,rfl,rfl,trivial⟩,(ok).k3.f2.f2.f2,Nat.zero_le _,rfl,rfl,fun j f=>f.elim,rfl⟩
 rintro _ _ η7 ⟨i,ol,a6,c6,Eo,hs,ok,hi,hol,hpo,hEo,rfl⟩ J0 hJ0;refine .frame hs fun τ=>?_;refine .seq<|.seq<|.r<|.z .mvI<|.z .mvI<|.z .lss<|.nil ?_;refine .cdr (fun C3=>?_) (fun C3=>?_)
 ·
  obtain rfl:i=nn:=by omega
  refine .exit<|hK0 _ _<|.seq<|.r<|.z .mvS<|.z (.fa T.fd51_2)<|.ur' (.stS T.sz26 ok.n2) ?_;rintro η8 ⟨ok,cg⟩;refine .nil ?_;refine .seq<|.r<|.z (.ldb T.ag51 ok.m0 T.sz51)<|.ur' (.stW (vs:=[.int .i64 (z:Int),.slice sa sl.length sc,.slice a6 ol.length c6,.bool ib]) T.sz51 ok.n2 (oneL rfl)) ?_;rintro η9 ⟨ok,cg⟩;refine .z .asI<|.nil ?_;refine .ret ⟨.tuple #[.agg #[.int .i64 (z:Int),.slice sa sl.length sc,.slice a6 ol.length c6,.bool ib],.int .i64 0],Res.many (vs:=[.agg #[.int .i64 (z:Int),.slice sa sl.length sc,.slice a6 ol.length c6,.bool ib],.int .i64 0]) rfl ⟨⟨_,rfl,load_ag T.ag51 ok.m0 T.sz51⟩,rfl,trivial⟩ rfl,⟨⟨z,sa,sc,sl,a6,c6,ol,ib,fr⟩,by rw [resizeQ_4 (show ¬ib=false from by simpa using C0) (by omega) (by show ¬(_∨((mostB z:Nat):Int)<_);rintro (h | h)<;>omega)]<;>rfl,by rw [resizeQ_4 (show ¬ib=false from by simpa using C0) (by omega) (by show ¬(_∨((mostB z:Nat):Int)<_);rintro (h | h)<;>omega)];simp only [RWp.abs,Int.toNat_natCast,hpo,growL_all],ok.chg,⟨(ok.r1).mono (fun _ h=>.inl h.1),(PgB.of ok.m2 ok.r0 (fun j hj=>.inr (ok.n2.fresh j hj)) (fun j hj=>((hEo:∀j,Eo j→E j∨h.size≤j) j hj).imp id fun h1=>⟨h1,ok.l0 j hj⟩))⟩⟩⟩
 refine .skip<|.seq<|.block fun K1 hK1=>.seq<|.r<|.z .mvI<|.z (.fa T.fd51_2)<|.z (.ldx T.ag26 ok.m2)<|.z (.len T.el26)<|.z .lss<|.nil ?_;refine .cd (fun C4=>?_) (fun C4=>?_)
 ·
  refine .r<|.z .mvS<|.z (.fa T.fd51_2)<|.z (.ldx T.ag26 ok.m2)<|.z .mvI<|?_;obtain ⟨bb1,oo1,rfl,fb1⟩:=ok.r2.pos (by omega);refine .z (.ix1 i T.el26 T.sz22)<|?_;have hiN:i<nl.length:=by omega
  have ok:=ok.d2 (rdI (fun j=>E j∧j<h.size) (fun j=>E j∧j<h.size) (nl[i].a,nl[i].l.length,nl[i].c) nl[i].l) ((ok.r2).by' _ (List.getElem_mem hiN)) (fun _ h=>h.elim id id);refine .z (.ld T.ag22 (sl_at1 RB.cells_len (ok.r3).sl (i:=i) (by omega) rfl))<|.a' 42 (.lit [.tmp 41] (cs:=[.slice (nl[i].a) (nl[i].l.length) (nl[i].c)]) T.el26 T.sz22 T.zr22 ok ⟨rfl,trivial⟩) ?_;rintro _ η10 ⟨pb3,rfl,ok,xe⟩;refine .a' 43 (.app (news:=[.slice (nl[i].a) (nl[i].l.length) (nl[i].c)]) T.el26 T.sz22 T.by22 T.zr22 ok.n1 (ok.n1.m1).sl (oneL rfl) (by rw [flat_len RB.cells_len];simp only [List.length_cons,List.length_nil];omega)) ?_;rintro _ η11 ⟨ya1,yn1,yc1,rfl,ok,ap⟩;have ok:=ok.cx (ys:=(ol++[nl[i]]).flatMap RB.cells) (by simp [RB.cells]);obtain rfl:yn1=(ol++[nl[i]]).length:=(Sl.sz (Cap.sl ok.m0) RB.cells_len (by decide)).1.symm;have ok:=(ok.f1.f3).pbyShare (E:=(fun j=>E j∧j<h.size)) (y:=nl[i]) (ok.f1.f3).r2 (fun _ h=>h);refine .z .asS<|.nil ?_;refine .end<|hK1 _ _<|.r<|.z .mvI<|.z (.addI (b:=1))<|.z .asI<|.nil ?_;refine .end<|hJ0 _ _ _ ⟨i+1,ol++[nl[i]],ya1,yc1,(fun j=>Eo j∨(fun j=>E j∧j<h.size) j),⟨rfl,rfl,rfl,rfl,rfl,trivial⟩,(ok.n3.n3.n2).k3.f1.f3.f2.e3,by omega,by simp [hol],rs_step hpo (by omega) (by rw [dif_pos hiN]),(fun j h=>h.elim (hEo j) (fun h=>.inl h.1)),rfl⟩ (by omega)
 refine .r<|.z .mvS<|.z (.fa T.fd51_0)<|.z (.ldx T.ag3 ok.m2)<|.a' 47 (.mks z z T.el22 T.sz5 T.by5 T.zr5 ok) ?_;rintro _ η12 ⟨pb4,rfl,ok,xe⟩;have ok:=ok.cx (ys:=(List.replicate z (0:UInt8)).map bv) (zeros8 _);refine .a' 48 (.lit [.tmp 47] (cs:=[.slice (some ⟨pb4,0,none⟩) z z]) T.el26 T.sz22 T.zr22 ok ⟨rfl,trivial⟩) ?_;rintro _ η13 ⟨pb5,rfl,ok,xe⟩;refine .a' 49 (.app (news:=[.slice (some ⟨pb4,0,none⟩) z z]) T.el26 T.sz22 T.by22 T.zr22 ok.n2 (ok.n2.m1).sl (oneL rfl) (by rw [flat_len RB.cells_len];simp only [List.length_cons,List.length_nil];omega)) ?_;rintro _ η14 ⟨ya2,yn2,yc2,rfl,ok,ap⟩;have ok:=ok.cx (ys:=(ol++[(⟨some ⟨pb4,0,none⟩,z,List.replicate z (0:UInt8)⟩:RB)]).flatMap RB.cells) (by simp [RB.cells]);obtain rfl:yn2=(ol++[(⟨some ⟨pb4,0,none⟩,z,List.replicate z (0:UInt8)⟩:RB)]).length:=(Sl.sz (Cap.sl ok.m0) RB.cells_len (by decide)).1.symm;have hfr:=(ok.n2).fresh;have ok:=Hp.pbyPutN (l:=List.replicate z 0) (by simp) (ok.n2);refine .z .asS<|.nil ?_;refine .end<|hK1 _ _<|.r<|.z .mvI<|.z (.addI (b:=1))<|.z .asI<|.nil ?_;refine .end<|hJ0 _ _ _ ⟨i+1,ol++[(⟨some ⟨pb4,0,none⟩,z,List.replicate z (0:UInt8)⟩:RB)],ya2,yc2,(fun j=>Eo j∨blkC (sv (some ⟨pb4,0,none⟩,z,z)) j),⟨rfl,rfl,rfl,rfl,rfl,trivial⟩,(ok.n3.n3.n2).k3.f2.f2.f2,by omega,by simp [hol],rs_step hpo (by omega) (by rw [dif_neg (by omega)]),(fun j h=>h.elim (hEo j) (fun h=>.inr (hfr j h).1)),rfl⟩ (by omega)
theorem qheaded_any {h:Heap} {FB EB:Nat→Prop} {a:Option Addr} {c z:Nat} {l:List UInt8} (hbl:RdL h FB EB (a,l.length,c) l):HC Tryz.prog 145 #[.slice a l.length c,.int .i64 (z:Int)] h (fun v h'=>v=.bool (hdOk l z)∧Ext h h'):=by
 have ok:=(Hp.nil h none_).arg hbl;refine HC.go Tryz.func145 20 ?_;refine .seq<|.r<|.z .asB<|.nil ?_;refine .seq<|.r<|.z .mvS<|.c' 9 .func (rdec_any (a:=a) (c:=c) (l:=l) ok.r0) ?_;rintro _ η1 ⟨rfl,hx⟩;rw [show (decN l).1.val=.agg #[.int .i64 (decN l).1.size,.int .i64 (decN l).1.pages,.int .i64 (decN l).1.free,.int .i64 (decN l).1.many,.int .i64 (decN l).1.cookie,.int .i64 (decN l).1.version] from rfl];have ok:=ok.ext hx;refine .z .mvU<|.z .ex<|.z .ex<|.a' 5 (.alA T.zr148 ok) ?_;rintro _ η2 ⟨pb1,rfl,ok,xe⟩;refine .ur' (.stW (vs:=[.int .i64 ((decN l).1.size),.int .i64 ((decN l).1.pages),.int .i64 ((decN l).1.free),.int .i64 ((decN l).1.many),.int .i64 ((decN l).1.cookie),.int .i64 ((decN l).1.version)]) T.sz148 ok (oneL rfl)) ?_;rintro η3 ⟨ok,cg⟩;refine .z .asI<|.nil ?_;refine .seq<|.r<|.z .mvI<|.z .eql<|.z .mvB<|.sd (fun G14=>?_) (fun G14=>?_)
 ·
  refine .z (.fa T.fd148_0)<|.z (.ldx T.ag3 ok.m0)<|.z .mvI<|.z .eql<|.z .pkt<|.z .asB<|.nil ?_;refine .ret ⟨.bool (decide ((decN l).1.size=(z:Int))),Res.one rfl rfl,⟨congrArg Value.bool (decide_eq_decide.2 ⟨fun h=>⟨by omega,h⟩,fun h=>h.2⟩),ok.chg⟩⟩
 refine .y<|.y<|.y<|.y<|.z .pkf<|.z .asB<|.nil ?_;refine .ret ⟨.bool false,Res.one rfl rfl,⟨congrArg Value.bool (decide_eq_false (by rintro ⟨h1,h2⟩;omega)).symm,ok.chg⟩⟩
theorem qcommit_any {h:Heap} {E:Nat→Prop} {z fr sc nc:Nat} {sa na:Option Addr} {sl nl:List RB} {ib:Bool} (hw:DocP h E ⟨z,sa,sc,sl,na,nc,nl,ib,fr⟩) :
  HC Tryz.prog 91 #[.agg #[.int .i64 (z:Int),.slice sa sl.length sc,.slice na nl.length nc,.bool ib]] h (fun v h'=>∃w:RWp,v=.tuple #[.agg w.cells4,.int .i64 ((commitQ (RWp.abs ⟨z,sa,sc,sl,na,nc,nl,ib,fr⟩)).2:Int)]∧w.abs=(commitQ (RWp.abs ⟨z,sa,sc,sl,na,nc,nl,ib,fr⟩)).1∧PRet h E w h'):=by
 have hsm:=hw.s.m;have hnm:=hw.n.m;have ok:=((Hp.nil h none_).old (pgwI (fun j=>E j∧j<h.size) (na,nl.length,nc) nl) (hw.n.lt (by decide)) (fun j hj=>hj.2)).old (pgwI (fun j=>E j∧j<h.size) (sa,sl.length,sc) sl) (hw.s.lt (by decide)) (fun j hj=>hj.2);refine HC.go Tryz.func91 28 ?_;refine .seq<|.r<|.a' 1 (.bxA (cs:=[.int .i64 (z:Int),.slice sa sl.length sc,.slice na nl.length nc,.bool ib]) ok) ?_;rintro _ η1 ⟨pb1,rfl,ok,xe⟩;refine .a' 2 (.alA T.zr51 ok) ?_;rintro _ η2 ⟨pb2,rfl,ok,xe⟩;refine .z .asI<|.nil ?_;refine .seq<|.seq<|.r<|.z (.fa T.fd51_3)<|.z (.ldx T.ag4 ok.m1)<|.z .not<|.nil ?_;refine .cond (fun C0=>?_) (fun C0=>?_)
 ·
  refine .seq<|.r<|.z (.ldb T.ag51 ok.m1 T.sz51)<|.ur' (.stW (vs:=[.int .i64 (z:Int),.slice sa sl.length sc,.slice na nl.length nc,.bool ib]) T.sz51 ok (oneL rfl)) ?_;rintro η3 ⟨ok,cg⟩;refine .z .asI<|.nil ?_;refine .ret ⟨.tuple #[.agg #[.int .i64 (z:Int),.slice sa sl.length sc,.slice na nl.length nc,.bool ib],.int .i64 10],Res.many (vs:=[.agg #[.int .i64 (z:Int),.slice sa sl.length sc,.slice na nl.length nc,.bool ib],.int .i64 10]) rfl ⟨⟨_,rfl,load_ag T.ag51 ok.m0 T.sz51⟩,rfl,trivial⟩ rfl,⟨⟨z,sa,sc,sl,na,nc,nl,ib,fr⟩,by rw [commitQ_1 (show ib=false from by simpa using C0)]<;>rfl,by rw [commitQ_1 (show ib=false from by simpa using C0)]<;>rfl,ok.chg,⟨(ok.r0).mono (fun _ h=>.inl h.1),(ok.r1).mono (fun _ h=>.inl h.1)⟩⟩⟩
 refine .skip<|.seq<|.seq<|.t 11 mixed ?_;simp only [List.take_succ_cons,List.take_zero,List.drop_succ_cons,List.drop_zero];refine .z (.fa T.fd51_2)<|.z (.ldx T.ag26 ok.m1)<|.z (.len T.el26)<|.z .gtr<|.z .mvB<|.sd (fun G12=>?_) (fun G12=>?_)
 ·
  refine .z (.fa T.fd51_2)<|.z (.ldx T.ag26 ok.m1)<|?_;obtain ⟨bb1,oo1,rfl,fb1⟩:=ok.r1.pos (by omega);refine .z (.ix1 0 T.el26 T.sz22)<|?_;have h0N:0<nl.length:=by omega
  have ok:=ok.d1 (rdI (fun j=>E j∧j<h.size) (fun j=>E j∧j<h.size) (nl[0].a,nl[0].l.length,nl[0].c) nl[0].l) ((ok.r1).by' _ (List.getElem_mem h0N)) (fun _ h=>h.elim id id);refine .z (.ld T.ag22 (sl_at1 RB.cells_len (ok.r2).sl (i:=0) (by omega) rfl))<|.z (.fa T.fd51_0)<|.z (.ldx T.ag3 ok.m1)<|.nil ?_;refine .c' 19 .func (qheaded_any (z:=z) (a:=nl[0].a) (c:=nl[0].c) (l:=nl[0].l) ok.r0) ?_;rintro _ η4 ⟨rfl,hx⟩;have ok:=ok.ext hx;refine .z .not<|.z .pkt<|.nil ?_;refine .cond (fun C1=>?_) (fun C1=>?_)
  ·
   refine .seq<|.r<|.z (.ldb T.ag51 ok.m1 T.sz51)<|.ur' (.stW (vs:=[.int .i64 (z:Int),.slice sa sl.length sc,.slice (some ⟨bb1,oo1,none⟩) nl.length nc,.bool ib]) T.sz51 ok (oneL rfl)) ?_;rintro η5 ⟨ok,cg⟩;refine .z .asI<|.nil ?_;refine .ret ⟨.tuple #[.agg #[.int .i64 (z:Int),.slice sa sl.length sc,.slice (some ⟨bb1,oo1,none⟩) nl.length nc,.bool ib],.int .i64 8],Res.many (vs:=[.agg #[.int .i64 (z:Int),.slice sa sl.length sc,.slice (some ⟨bb1,oo1,none⟩) nl.length nc,.bool ib],.int .i64 8]) rfl ⟨⟨_,rfl,load_ag T.ag51 ok.m0 T.sz51⟩,rfl,trivial⟩ rfl,⟨⟨z,sa,sc,sl,some ⟨bb1,oo1,none⟩,nc,nl,ib,fr⟩,by rw [commitQ_2 (show ¬ib=false from by simpa using C0) (show pgs nl≠[]∧hdOk ((pgs nl).getD 0 []) z=false from ⟨fun h=>by have:=pgs_nil.1 h;omega,by rw [pgs_0 h0N];simp_all⟩)]<;>rfl,by rw [commitQ_2 (show ¬ib=false from by simpa using C0) (show pgs nl≠[]∧hdOk ((pgs nl).getD 0 []) z=false from ⟨fun h=>by have:=pgs_nil.1 h;omega,by rw [pgs_0 h0N];simp_all⟩)]<;>rfl,ok.chg,⟨(ok.r1).mono (fun _ h=>.inl h.1),(ok.r2).mono (fun _ h=>.inl h.1)⟩⟩⟩
  refine .skip<|.seq<|.r<|.z (.fa T.fd51_0)<|.z (.ldx T.ag3 ok.m1)<|.z (.fa T.fd51_2)<|.z (.ldx T.ag26 ok.m1)<|.z (.bd #[.int .i64 (z:Int),.slice (some ⟨bb1,oo1,none⟩) nl.length nc,.slice none 0 0,.bool false] T.zr51 T.pl51 rfl)<|.ur' (.stW (vs:=[.int .i64 (z:Int),.slice (some ⟨bb1,oo1,none⟩) nl.length nc,.slice none 0 0,.bool false]) T.sz51 ok (oneL rfl)) ?_;rintro η6 ⟨ok,cg⟩;refine .z .asI<|.nil ?_;refine .ret ⟨.tuple #[.agg #[.int .i64 (z:Int),.slice (some ⟨bb1,oo1,none⟩) nl.length nc,.slice none 0 0,.bool false],.int .i64 0],Res.many (vs:=[.agg #[.int .i64 (z:Int),.slice (some ⟨bb1,oo1,none⟩) nl.length nc,.slice none 0 0,.bool false],.int .i64 0]) rfl ⟨⟨_,rfl,load_ag T.ag51 ok.m0 T.sz51⟩,rfl,trivial⟩ rfl,⟨⟨z,some ⟨bb1,oo1,none⟩,nc,nl,none,0,[],false,fr⟩,by rw [commitQ_3 (show ¬ib=false from by simpa using C0) (show ¬(pgs nl≠[]∧hdOk ((pgs nl).getD 0 []) z=false) from fun h=>by rw [pgs_0 h0N] at h;simp_all)]<;>rfl,by rw [commitQ_3 (show ¬ib=false from by simpa using C0) (show ¬(pgs nl≠[]∧hdOk ((pgs nl).getD 0 []) z=false) from fun h=>by rw [pgs_0 h0N] at h;simp_all)]<;>rfl,ok.chg,⟨(ok.r2).mono (fun _ h=>.inl h.1),RwB.nil _ _ 0 (by decide)⟩⟩⟩
 refine .y<|.y<|.y<|.y<|.y<|.y<|.nil ?_;refine .y<|.y<|.z .pkf<|.nil ?_;refine .cf<|.skip<|.seq<|.r<|.z (.fa T.fd51_0)<|.z (.ldx T.ag3 ok.m1)<|.z (.fa T.fd51_2)<|.z (.ldx T.ag26 ok.m1)<|.z (.bd #[.int .i64 (z:Int),.slice na nl.length nc,.slice none 0 0,.bool false] T.zr51 T.pl51 rfl)<|.ur' (.stW (vs:=[.int .i64 (z:Int),.slice na nl.length nc,.slice none 0 0,.bool false]) T.sz51 ok (oneL rfl)) ?_;rintro η7 ⟨ok,cg⟩;refine .z .asI<|.nil ?_;refine .ret ⟨.tuple #[.agg #[.int .i64 (z:Int),.slice na nl.length nc,.slice none 0 0,.bool false],.int .i64 0],Res.many (vs:=[.agg #[.int .i64 (z:Int),.slice na nl.length nc,.slice none 0 0,.bool false],.int .i64 0]) rfl ⟨⟨_,rfl,load_ag T.ag51 ok.m0 T.sz51⟩,rfl,trivial⟩ rfl,⟨⟨z,na,nc,nl,none,0,[],false,fr⟩,by rw [commitQ_3 (show ¬ib=false from by simpa using C0) (show ¬(pgs nl≠[]∧hdOk ((pgs nl).getD 0 []) z=false) from fun h=>by exact h.1 (pgs_nil.2 (by omega)))]<;>rfl,by rw [commitQ_3 (show ¬ib=false from by simpa using C0) (show ¬(pgs nl≠[]∧hdOk ((pgs nl).getD 0 []) z=false) from fun h=>by exact h.1 (pgs_nil.2 (by omega)))]<;>rfl,ok.chg,⟨(ok.r1).mono (fun _ h=>.inl h.1),RwB.nil _ _ 0 (by decide)⟩⟩⟩
def writeL (z:Nat) (x:PO6):List UInt8:=if x.n<0 then (pageP z x).drop 1 else pageP z x
theorem writeL_len {z:Nat} {x:PO6} (hz:okSz z=true):(writeL z x).length≤z:=by
 have:=pageP_len (x:=x) hz;unfold writeL;split
 ·rw [List.length_drop];omega
 ·omega
theorem Hp.capDrop {h0 h:Heap} {D:Nat→Prop} {M R:List Itm} {e:TypeId} {a:Option Addr} {c:Nat} {l:List UInt8} (ok:Hp h0 D (capI 1 e (a,l.length,c) (l.map bv)::M) R h) (hl:1<l.length):Hp h0 D (capI 1 e (cutA a 1 c 1,(l.drop 1).length,c-1) ((l.drop 1).map bv)::M) R h:=by
 obtain ⟨a',n',c',hv,hn,hcm,hxl,hr⟩:=ok.m0;injection hv with h1 h2 h3;subst h1 h2 h3;simp only at hn hcm hxl hr;rcases hr with ⟨rfl,rfl⟩ | ⟨b,o,cs,fz,rfl,hb,hs,hf,hx⟩
 ·omega
 ·refine ok.re _ (show Cap h 1 e (.slice (cutA (some ⟨b,o,none⟩) 1 c 1) (l.drop 1).length (c-1)) ((l.drop 1).map bv) from ⟨_,_,_,rfl,by rw [List.length_drop];omega,by omega,by simp,.inr ⟨b,o+1*1,cs,fz,cutA_some (by omega),hb,by omega,hf,?_⟩⟩) ?_
  ·have h9:=congrArg (List.drop 1) hx;rw [List.drop_take,List.drop_drop] at h9;simp only [Nat.mul_one] at h9⊢;rw [List.length_drop,List.map_drop,←h9]
  ·rintro j ⟨o2,n,c2,e⟩;rw [show sv (cutA (some ⟨b,o,none⟩) 1 c 1,(l.drop 1).length,c-1)=.slice (some ⟨b,o+1*1,none⟩) (l.drop 1).length (c-1) from by rw [cutA_some (by omega)]] at e;injection e with e1 e2 e3;injection e1 with e1;injection e1 with e1;subst e1;exact ⟨_,_,_,rfl⟩
theorem bv_inc {xs:List UInt8} {i n:Nat} : (xs.map bv).set i (.int .u8 ((n%256:Nat):Int))=(xs.set i (UInt8.ofNat n)).map bv:=by
 rw [List.map_set];congr 1
end Go.Proofs.YtpeaicddbnghfaaGreat
namespace Go.HL
open Go Go.Proofs.YtpeaicddbnghfaaGreat
theorem Hp.locC {h0 h:Heap} {D:Nat→Prop} {M R:List Itm} {x:Itm} {e:TypeId} {a:Option Addr} {c:Nat} {l:List UInt8} (ok:Hp h0 D (x::capI 1 e (a,l.length,c) (l.map bv)::M) R h):Hp h x.F [x] [rdI (blkC (sv (a,l.length,c))) none_ (a,l.length,c) l] h:=
 (ok.k2.n1.frzB (l:=l) rfl).loc1
theorem Hp.pdoc {h0 h h':Heap} {D E:Nat→Prop} {M R:List Itm} {w w':RWp} (ok:Hp h0 D M (dcpI E w::R) h) (q:PRet h E w' h'):∃E',(∀j,E' j→E j∨h.size≤j)∧Hp h0 D M (dcpI E' w'::dcpI E w::R) h':=by
 refine ⟨fun j=>(E j∨Nw h h' j),fun j hj=>hj.imp id (·.1),?_⟩;have o:=ok.ext q.ext;refine ⟨o.chg,o.m,fun i hi=>?_,o.mm,fun a ha b hb j hj hb2=>?_⟩
 ·rcases List.mem_cons.1 hi with rfl | hi
  ·exact ⟨q.rd,fun j hj=>hj.elim (fun h1=>(o.r (dcpI E w) (by simp)).2 j h1) (·.2)⟩
  ·exact o.r i hi
 ·rcases List.mem_cons.1 hb with rfl | hb
  ·rcases hb2 with h1 | h1
   ·exact ok.mr a ha (dcpI E w) (by simp) j hj h1
   ·have:=((ok.m a ha).2 j hj).1;have:=h1.1;omega
  ·exact o.mr a ha b hb j hj hb2
end Go.HL
namespace Go.Proofs.YtpeaicddbnghfaaGreat
open Go Go.HL
noncomputable def stepB (A:Bk) (z:Nat) (x:PO6):Bk × Nat:=match x.k%6 with
 | 0=>beginB A
 | 1=>writeB A x.no (writeL z x)
 | 2=>resizeB A x.n
 | 3=>commitB A
 | 4=>rollbackB A
 | _=>((readB A x.no).1,(readB A x.no).2.2)
def stepQ (w:WPg) (x:PO6):WPg × Nat:=match x.k%6 with
 | 0=>beginP w
 | 1=>writeP w x.no (writeL w.z x)
 | 2=>resizeQ w x.n
 | 3=>commitQ w
 | 4=>rollbackP w
 | _=>(w,(readP w x.no).2)
def told13 (A:Bk) (w:WPg) (x:PO6):Prop:=(x.k%6=5→(readB A x.no).2.1=(readP w x.no).1)∧(stepB A w.z x).2=(stepQ w x).2
theorem call13_any {h:Heap} {p d:Nat} {F:Nat→Prop} {A:Bk} {E FB EB:Nat→Prop} {z fr sc nc:Nat} {sa na:Option Addr} {sl nl:List RB} {ib:Bool} {k:Nat} {no n:Int} {fb:UInt8} {hd:Bool} {ba:Option Addr} {bc:Nat} {bl:List UInt8} (ok:Hp h F [bgI p d F A] [dcpI E ⟨z,sa,sc,sl,na,nc,nl,ib,fr⟩,rdI FB EB (ba,bl.length,bc) bl] h) (hcg:A.dk.chg<290000000) (hz:okSz z=true) (hnl:nl.length≤1000000) (hk:k<256) (hno : -9223372036854775808≤no∧no≤9223372036854775807) (hn : -9223372036854775808≤n∧n≤9223372036854775807):HC Tryz.prog 30 #[.pointer (some ⟨p,0,none⟩),.agg #[.int .i64 (z:Int),.slice sa sl.length sc,.slice na nl.length nc,.bool ib],.agg #[.int .u8 (k:Int),.int .i64 no,.int .i64 n,.int .u8 (fb.toNat:Int),.bool hd,.slice ba bl.length bc]] h (fun v h'=>∃F' w E' b,v=.tuple #[.agg w.cells4,.int .i64 ((stepB A z ⟨k,no,n,fb,hd,bl⟩).2:Int),.bool b]∧w.abs=(stepQ (RWp.abs ⟨z,sa,sc,sl,na,nc,nl,ib,fr⟩) ⟨k,no,n,fb,hd,bl⟩).1∧(b=true↔told13 A (RWp.abs ⟨z,sa,sc,sl,na,nc,nl,ib,fr⟩) ⟨k,no,n,fb,hd,bl⟩)∧Hp h F [bgI p d F' (stepB A z ⟨k,no,n,fb,hd,bl⟩).1] [dcpI E' w] h'∧∀j,E' j→E j∨h.size≤j):=by
 have hzc:=okSz_cases hz;have hpl:(pageP z ⟨k,no,n,fb,hd,bl⟩).length=z:=pageP_len hz;have hb2:=(ok.r1).m;have hb1:=(ok.r1).c;simp only at hb1 hb2;refine HC.go Tryz.func30 135 ?_;refine .seq<|.r<|.a' 4 (.bxA (cs:=[.int .i64 (z:Int),.slice sa sl.length sc,.slice na nl.length nc,.bool ib]) ok) ?_;rintro _ η1 ⟨pb1,rfl,ok,xe⟩;refine .a' 5 (.bxA (cs:=[.int .u8 (k:Int),.int .i64 no,.int .i64 n,.int .u8 (fb.toNat:Int),.bool hd,.slice ba bl.length bc]) ok) ?_;rintro _ η2 ⟨pb2,rfl,ok,xe⟩;refine .a' 6 (.alA T.zr51 ok) ?_;rintro _ η3 ⟨pb3,rfl,ok,xe⟩;refine .z .asI<|.z .asB<|.nil ?_;refine .seq<|.r<|.z .asI<|.nil ?_;refine .seq<|.r<|.z .asI<|.z .asB<|.nil ?_;refine .seq<|.seq<|.r<|.z (.fa T.fd54_0)<|.z (.ldx T.ag5 ok.m1)<|.z (.remn (b:=6))<|.nil ?_;refine .block fun K0 hK0=>.seq<|.r<|.z .eql<|.z .asB<|.nil ?_;refine .cd (fun C0=>?_) (fun C0=>?_)
 ·
  have hk7:k%6=0:=by omega
  have hsA:stepB A z ⟨k,no,n,fb,hd,bl⟩=beginB A:=by simp only [stepB,hk7]
  have hsP:stepQ (RWp.abs ⟨z,sa,sc,sl,na,nc,nl,ib,fr⟩) ⟨k,no,n,fb,hd,bl⟩=beginP (RWp.abs ⟨z,sa,sc,sl,na,nc,nl,ib,fr⟩):=by simp only [stepQ,hk7];try rfl
  refine .seq<|.r<|.z .mvP<|.c' 23 .func (gbbegin_any (p:=p) (d:=d) (F:=F) (A:=A) (ok.n3).loc0 (by omega)) ?_;rintro _ η4 ⟨Fg1,rfl,q⟩;have Pg1:=bg_pl (ok.n3).m0;have ok:=(ok.n3).lift1 q;obtain ⟨Ag1,hAg1⟩:∃x:Bk,(beginB A).1=x:=⟨_,rfl⟩;rw [hAg1] at ok;have hcg1:Ag1.dk.chg≤A.dk.chg+1200000:=by rw [←hAg1];exact (by rw [Pg1.begin.2];omega)
  refine .z .asI<|.nil ?_;refine .r<|.z (.ldb T.ag51 ok.m3 T.sz51)<|.c' 26 .func (qbegin_any (E:=E) (z:=z) (sa:=sa) (sc:=sc) (sl:=sl) (na:=na) (nc:=nc) (nl:=nl) (ib:=ib) (fr:=fr) (show DocP _ _ _ from ok.r0)) ?_;rintro _ η5 ⟨wq1,rfl,haq1,hrq1⟩;have hzq1:=ok.chg.size;obtain ⟨Eq1,hEq1,ok⟩:=Hp.pdoc (ok) hrq1;have hnq1:=fun j hj=>(hEq1 j hj).elim ((fun _ h=>Or.inl h) j) fun h1=>Or.inr (Nat.le_trans hzq1 h1);refine .z .mvU<|.z .ex<|.z .ex<|.ur' (.stW (vs:=[.int .i64 (wq1.z:Int),.slice wq1.sa wq1.sl.length wq1.sc,.slice wq1.na wq1.nl.length wq1.nc,.bool wq1.i]) T.sz51 ok.n3 (oneL rfl)) ?_;rintro η6 ⟨ok,cg⟩;refine .z .asI<|.nil ?_;refine .end<|hK0 _ _<|.seq<|.r<|.z (.ldb T.ag51 ok.m0 T.sz51)<|.z .mvI<|.z .mvB<|.z .mvB<|.z .mvI<|.z .mvI<|.z .eql<|.z .pkt<|.ur' (.stW (vs:=[.int .i64 (wq1.z:Int),.slice wq1.sa wq1.sl.length wq1.sc,.slice wq1.na wq1.nl.length wq1.nc,.bool wq1.i]) T.sz51 ok.n2 (oneL rfl)) ?_;rintro η7 ⟨ok,cg⟩;refine .z .asI<|.z .asB<|.nil ?_;refine .ret ⟨.tuple #[.agg #[.int .i64 (wq1.z:Int),.slice wq1.sa wq1.sl.length wq1.sc,.slice wq1.na wq1.nl.length wq1.nc,.bool wq1.i],.int .i64 ((beginB A).2:Int),.bool (decide (((beginB A).2:Int)=((beginP (RWp.abs ⟨z,sa,sc,sl,na,nc,nl,ib,fr⟩)).2:Int)))],Res.many (vs:=[.agg #[.int .i64 (wq1.z:Int),.slice wq1.sa wq1.sl.length wq1.sc,.slice wq1.na wq1.nl.length wq1.nc,.bool wq1.i],.int .i64 ((beginB A).2:Int),.bool (decide (((beginB A).2:Int)=((beginP (RWp.abs ⟨z,sa,sc,sl,na,nc,nl,ib,fr⟩)).2:Int)))]) rfl ⟨⟨_,rfl,load_ag T.ag51 ok.m0 T.sz51⟩,rfl,rfl,trivial⟩ rfl,⟨Fg1,wq1,Eq1,decide (((beginB A).2:Int)=((beginP (RWp.abs ⟨z,sa,sc,sl,na,nc,nl,ib,fr⟩)).2:Int)),(by rw [hsA]<;>rfl),(by rw [hsP]<;>exact haq1),⟨fun h9=>⟨fun h5=>(by first | assumption | (simpa using G130) | (exfalso;replace h5:k%6=5:=h5;omega)),by rw [show (RWp.abs ⟨z,sa,sc,sl,na,nc,nl,ib,fr⟩).z=z from rfl,hsA,hsP];have:=of_decide_eq_true h9;omega⟩,fun h9=>decide_eq_true (by have h8:=h9.2;rw [show (RWp.abs ⟨z,sa,sc,sl,na,nc,nl,ib,fr⟩).z=z from rfl,hsA,hsP] at h8;omega)⟩,(by rw [hsA,hAg1];exact (ok.n2).k1.e1),hnq1⟩⟩
 refine .seq<|.r<|.z .eql<|.z .asB<|.nil ?_;refine .cd (fun C1=>?_) (fun C1=>?_)
 ·
  have hk7:k%6=1:=by omega
  have hsA:stepB A z ⟨k,no,n,fb,hd,bl⟩=writeB A no (writeL z ⟨k,no,n,fb,hd,bl⟩):=by simp only [stepB,hk7]
  have hsP:stepQ (RWp.abs ⟨z,sa,sc,sl,na,nc,nl,ib,fr⟩) ⟨k,no,n,fb,hd,bl⟩=writeP (RWp.abs ⟨z,sa,sc,sl,na,nc,nl,ib,fr⟩) no (writeL z ⟨k,no,n,fb,hd,bl⟩):=by simp only [stepQ,hk7];try rfl
  refine .seq<|.r<|.z (.fa T.fd51_0)<|.z (.ldx T.ag3 ok.m2)<|.z (.ldb T.ag54 ok.m1 T.sz54)<|.c' 34 .func (bytes13_any (z:=z) (k:=k) (no:=no) (n:=n) (fb:=fb) (hd:=hd) (ba:=ba) (bc:=bc) (bl:=bl) hz ok.r1) ?_;rintro _ η8 own;obtain ⟨ya1,yc1,rfl⟩:=own.formB;have ok:=ok.own own;refine .z .asS<|.nil ?_;refine .seq<|.seq<|.r<|.z (.fa T.fd54_2)<|.z (.ldx T.ag3 ok.m2)<|.z .lss<|.nil ?_;refine .join (fun s hh=>∃(b9:List UInt8) (a9:Option Addr) (c9:Nat),Has s [(0,.pointer (some ⟨p,0,none⟩)),(4,.pointer (some ⟨pb1,0,none⟩)),(5,.pointer (some ⟨pb2,0,none⟩)),(6,.pointer (some ⟨pb3,0,none⟩)),(11,.bool true),(12,.slice a9 b9.length c9)]∧Hp h F [boxI pb3 51 [.int .i64 0,.slice none 0 0,.slice none 0 0,.bool false],boxI pb2 54 [.int .u8 (k:Int),.int .i64 no,.int .i64 n,.int .u8 (fb.toNat:Int),.bool hd,.slice ba bl.length bc],boxI pb1 51 [.int .i64 (z:Int),.slice sa sl.length sc,.slice na nl.length nc,.bool ib],bgI p d F A,capI 1 5 (a9,b9.length,c9) (b9.map bv)] [dcpI E ⟨z,sa,sc,sl,na,nc,nl,ib,fr⟩,rdI FB EB (ba,bl.length,bc) bl] hh∧b9=(writeL z ⟨k,no,n,fb,hd,bl⟩)) ?_ ?_
  ·
   refine .cd (fun C2=>?_) (fun C2=>?_)
   ·
    refine .r<|.z .mvS<|.z (.sll 1 T.el22 T.sz5 (hb:=by rw [hpl];omega))<|?_;have ok:=Hp.capDrop (l:=pageP z ⟨k,no,n,fb,hd,bl⟩) (ok) (by rw [hpl];omega);rw [show ((pageP z ⟨k,no,n,fb,hd,bl⟩).length)-1=((pageP z ⟨k,no,n,fb,hd,bl⟩).drop 1).length from (List.length_drop ..).symm];generalize cutA ya1 1 yc1 1=ca at ok⊢;refine .z .asS<|.nil ?_;refine .end<|?_;refine ⟨((pageP z ⟨k,no,n,fb,hd,bl⟩).drop 1),ca,yc1-1,⟨rfl,rfl,rfl,rfl,rfl,rfl,trivial⟩,(ok.n4.n4.n4.n4),(if_pos (by simpa using C2)).symm⟩
   refine .skip<|.end<|?_;refine ⟨(pageP z ⟨k,no,n,fb,hd,bl⟩),ya1,yc1,⟨rfl,rfl,rfl,rfl,rfl,rfl,trivial⟩,(ok.n4.n4.n4.n4),(if_neg (by simpa using C2)).symm⟩
  rintro s η9 ⟨b9,a9,c9,hs,ok,hb9⟩;refine .frame hs fun τ=>?_;have hbl9:b9.length≤z:=by rw [hb9];exact writeL_len hz
  refine .seq<|.r<|.z .mvP<|.z (.fa T.fd54_1)<|.z (.ldx T.ag3 ok.m1)<|.z .mvS<|.c' 44 .func (gbwrite_any (p:=p) (d:=d) (F:=F) (A:=A) (no:=no) (a:=a9) (c:=c9) (l:=b9) (ok.n4.n4).locC (by omega)) ?_;rintro _ η10 ⟨Fg2,rfl,q⟩;have Pg2:=bg_pl (ok.n4.n4).m0;have ok:=(ok.n4.n4).lift1 q;obtain ⟨Ag2,hAg2⟩:∃x:Bk,(writeB A no b9).1=x:=⟨_,rfl⟩;rw [hAg2] at ok;have hcg2:Ag2.dk.chg≤A.dk.chg+1200000:=by rw [←hAg2];exact (Int.le_trans Pg2.write.2 (by omega))
  refine .z .asI<|.nil ?_;refine .seq<|.r<|.z (.ldb T.ag51 ok.m4 T.sz51)<|.z (.fa T.fd54_1)<|.z (.ldx T.ag3 ok.m3)<|.z .mvS<|.c' 50 .func (qwrite_any (E:=E) (z:=z) (sa:=sa) (sc:=sc) (sl:=sl) (na:=na) (nc:=nc) (nl:=nl) (ib:=ib) (fr:=fr) (no:=no) (ba:=a9) (bc:=c9) (bl:=b9) (show DocP _ _ _ from ok.r0) (RdL.ofCapB (v:=(a9,b9.length,c9)) (l:=b9) ok.m1) (by omega) hnl (by omega)) ?_;rintro _ η11 ⟨wq2,rfl,haq2,hrq2⟩;have hzq2:=ok.chg.size;obtain ⟨Eq2,hEq2,ok⟩:=Hp.pdoc (ok) hrq2;have hnq2:=fun j hj=>(hEq2 j hj).elim ((fun _ h=>Or.inl h) j) fun h1=>Or.inr (Nat.le_trans hzq2 h1);refine .z .mvU<|.z .ex<|.z .ex<|.ur' (.stW (vs:=[.int .i64 (wq2.z:Int),.slice wq2.sa wq2.sl.length wq2.sc,.slice wq2.na wq2.nl.length wq2.nc,.bool wq2.i]) T.sz51 ok.n4 (oneL rfl)) ?_;rintro η12 ⟨ok,cg⟩;refine .z .asI<|.nil ?_;refine .seq<|.r<|.z .asI<|.nil ?_;refine .block fun K1 hK1=>.loop (fun m s hh=>∃(i:Nat) (xs:List UInt8),Has s [(4,.pointer (some ⟨pb1,0,none⟩)),(6,.pointer (some ⟨pb3,0,none⟩)),(9,.int .i64 ((writeB A no b9).2:Int)),(10,.int .i64 ((writeP (RWp.abs ⟨z,sa,sc,sl,na,nc,nl,ib,fr⟩) no b9).2:Int)),(11,.bool true),(12,.slice a9 b9.length c9),(13,.int .i64 (i:Int))]∧Hp h F [capI 1 5 (a9,b9.length,c9) (xs.map bv),bgI p d Fg2 Ag2,boxI pb1 51 [.int .i64 (wq2.z:Int),.slice wq2.sa wq2.sl.length wq2.sc,.slice wq2.na wq2.nl.length wq2.nc,.bool wq2.i],boxI pb3 51 [.int .i64 0,.slice none 0 0,.slice none 0 0,.bool false]] [dcpI Eq2 wq2] hh∧i≤b9.length∧xs.length=b9.length∧m=b9.length-i) ?_ ?_
  ·exact ⟨_,0,b9,⟨rfl,rfl,rfl,rfl,rfl,rfl,rfl,trivial⟩,(ok.n3.n1.n2.n3).k4.e1,Nat.zero_le _,rfl,rfl⟩
  rintro _ _ η13 ⟨i,xs,hs,ok,hi,hxs,rfl⟩ J0 hJ0;refine .frame hs fun τ=>?_;refine .seq<|.seq<|.r<|.z .mvI<|.z .mvS<|.z (.len T.el22)<|.z .lss<|.nil ?_;refine .cdr (fun C3=>?_) (fun C3=>?_)
  ·
   refine .exit<|hK1 _ _<|.end<|hK0 _ _<|.seq<|.r<|.z (.ldb T.ag51 ok.m2 T.sz51)<|.z .mvI<|.z .mvB<|.z .mvB<|.z .mvI<|.z .mvI<|.z .eql<|.z .pkt<|.ur' (.stW (vs:=[.int .i64 (wq2.z:Int),.slice wq2.sa wq2.sl.length wq2.sc,.slice wq2.na wq2.nl.length wq2.nc,.bool wq2.i]) T.sz51 ok.n3 (oneL rfl)) ?_;rintro η14 ⟨ok,cg⟩;refine .z .asI<|.z .asB<|.nil ?_;refine .ret ⟨.tuple #[.agg #[.int .i64 (wq2.z:Int),.slice wq2.sa wq2.sl.length wq2.sc,.slice wq2.na wq2.nl.length wq2.nc,.bool wq2.i],.int .i64 ((writeB A no b9).2:Int),.bool (decide (((writeB A no b9).2:Int)=((writeP (RWp.abs ⟨z,sa,sc,sl,na,nc,nl,ib,fr⟩) no b9).2:Int)))],Res.many (vs:=[.agg #[.int .i64 (wq2.z:Int),.slice wq2.sa wq2.sl.length wq2.sc,.slice wq2.na wq2.nl.length wq2.nc,.bool wq2.i],.int .i64 ((writeB A no b9).2:Int),.bool (decide (((writeB A no b9).2:Int)=((writeP (RWp.abs ⟨z,sa,sc,sl,na,nc,nl,ib,fr⟩) no b9).2:Int)))]) rfl ⟨⟨_,rfl,load_ag T.ag51 ok.m0 T.sz51⟩,rfl,rfl,trivial⟩ rfl,⟨Fg2,wq2,Eq2,decide (((writeB A no b9).2:Int)=((writeP (RWp.abs ⟨z,sa,sc,sl,na,nc,nl,ib,fr⟩) no b9).2:Int)),(by rw [hsA,←hb9]<;>rfl),(by rw [hsP,←hb9]<;>exact haq2),⟨fun h9=>⟨fun h5=>(by first | assumption | (simpa using G130) | (exfalso;replace h5:k%6=5:=h5;omega)),by rw [show (RWp.abs ⟨z,sa,sc,sl,na,nc,nl,ib,fr⟩).z=z from rfl,hsA,hsP,←hb9];have:=of_decide_eq_true h9;omega⟩,fun h9=>decide_eq_true (by have h8:=h9.2;rw [show (RWp.abs ⟨z,sa,sc,sl,na,nc,nl,ib,fr⟩).z=z from rfl,hsA,hsP,←hb9] at h8;omega)⟩,(by rw [hsA,←hb9,hAg2];exact (ok.n2).k1),hnq2⟩⟩
  refine .skip<|.seq<|.block fun K2 hK2=>.r<|.z .mvS<|.z .mvI<|?_;obtain ⟨bb1,oo1,rfl,fb1⟩:=ok.m0.pos (n:=b9.length) (by omega);refine .z (.ix1 i T.el22 T.sz5)<|.z (.ld T.ag5 (Cap.u8 ok.m0 (i:=i) (by omega)))<|.z (.addn (M:=256) rfl rfl (b:=1))<|.z (.ix1 i T.el22 T.sz5)<|.ur' (.sxI (q:=i) T.sz5 ok) ?_;rintro η15 ⟨ok,cg⟩;refine .nil ?_;refine .end<|hK2 _ _<|.r<|.z .mvI<|.z (.addI (b:=1))<|.z .asI<|.nil ?_;refine .end<|hJ0 _ _ _ ⟨i+1,_,⟨rfl,rfl,rfl,rfl,rfl,rfl,rfl,trivial⟩,((ok).k4).cx bv_inc,by omega,by rw [List.length_set];exact hxs,rfl⟩ (by omega)
 refine .seq<|.r<|.z .eql<|.z .asB<|.nil ?_;refine .cd (fun C4=>?_) (fun C4=>?_)
 ·
  have hk7:k%6=2:=by omega
  have hsA:stepB A z ⟨k,no,n,fb,hd,bl⟩=resizeB A n:=by simp only [stepB,hk7]
  have hsP:stepQ (RWp.abs ⟨z,sa,sc,sl,na,nc,nl,ib,fr⟩) ⟨k,no,n,fb,hd,bl⟩=resizeQ (RWp.abs ⟨z,sa,sc,sl,na,nc,nl,ib,fr⟩) n:=by simp only [stepQ,hk7];try rfl
  refine .seq<|.r<|.z .mvP<|.z (.fa T.fd54_2)<|.z (.ldx T.ag3 ok.m1)<|.c' 70 .func (gbresize_any (p:=p) (d:=d) (F:=F) (A:=A) (n:=n) (ok.n3).loc0 (by omega) (by omega)) ?_;rintro _ η16 ⟨Fg3,rfl,q⟩;have Pg3:=bg_pl (ok.n3).m0;have ok:=(ok.n3).lift1 q;obtain ⟨Ag3,hAg3⟩:∃x:Bk,(resizeB A n).1=x:=⟨_,rfl⟩;rw [hAg3] at ok;have hcg3:Ag3.dk.chg≤A.dk.chg+1200000:=by rw [←hAg3];exact (by rw [Pg3.resize.2];omega)
  refine .z .asI<|.nil ?_;refine .r<|.z (.ldb T.ag51 ok.m3 T.sz51)<|.z (.fa T.fd54_2)<|.z (.ldx T.ag3 ok.m2)<|.c' 75 .func (qresize_any (E:=E) (z:=z) (sa:=sa) (sc:=sc) (sl:=sl) (na:=na) (nc:=nc) (nl:=nl) (ib:=ib) (fr:=fr) (n:=n) (show DocP _ _ _ from ok.r0) (by omega) ⟨by omega,by omega⟩) ?_;rintro _ η17 ⟨wq3,rfl,haq3,hrq3⟩;have hzq3:=ok.chg.size;obtain ⟨Eq3,hEq3,ok⟩:=Hp.pdoc (ok) hrq3;have hnq3:=fun j hj=>(hEq3 j hj).elim ((fun _ h=>Or.inl h) j) fun h1=>Or.inr (Nat.le_trans hzq3 h1);refine .z .mvU<|.z .ex<|.z .ex<|.ur' (.stW (vs:=[.int .i64 (wq3.z:Int),.slice wq3.sa wq3.sl.length wq3.sc,.slice wq3.na wq3.nl.length wq3.nc,.bool wq3.i]) T.sz51 ok.n3 (oneL rfl)) ?_;rintro η18 ⟨ok,cg⟩;refine .z .asI<|.nil ?_;refine .end<|hK0 _ _<|.seq<|.r<|.z (.ldb T.ag51 ok.m0 T.sz51)<|.z .mvI<|.z .mvB<|.z .mvB<|.z .mvI<|.z .mvI<|.z .eql<|.z .pkt<|.ur' (.stW (vs:=[.int .i64 (wq3.z:Int),.slice wq3.sa wq3.sl.length wq3.sc,.slice wq3.na wq3.nl.length wq3.nc,.bool wq3.i]) T.sz51 ok.n2 (oneL rfl)) ?_;rintro η19 ⟨ok,cg⟩;refine .z .asI<|.z .asB<|.nil ?_;refine .ret ⟨.tuple #[.agg #[.int .i64 (wq3.z:Int),.slice wq3.sa wq3.sl.length wq3.sc,.slice wq3.na wq3.nl.length wq3.nc,.bool wq3.i],.int .i64 ((resizeB A n).2:Int),.bool (decide (((resizeB A n).2:Int)=((resizeQ (RWp.abs ⟨z,sa,sc,sl,na,nc,nl,ib,fr⟩) n).2:Int)))],Res.many (vs:=[.agg #[.int .i64 (wq3.z:Int),.slice wq3.sa wq3.sl.length wq3.sc,.slice wq3.na wq3.nl.length wq3.nc,.bool wq3.i],.int .i64 ((resizeB A n).2:Int),.bool (decide (((resizeB A n).2:Int)=((resizeQ (RWp.abs ⟨z,sa,sc,sl,na,nc,nl,ib,fr⟩) n).2:Int)))]) rfl ⟨⟨_,rfl,load_ag T.ag51 ok.m0 T.sz51⟩,rfl,rfl,trivial⟩ rfl,⟨Fg3,wq3,Eq3,decide (((resizeB A n).2:Int)=((resizeQ (RWp.abs ⟨z,sa,sc,sl,na,nc,nl,ib,fr⟩) n).2:Int)),(by rw [hsA]<;>rfl),(by rw [hsP]<;>exact haq3),⟨fun h9=>⟨fun h5=>(by first | assumption | (simpa using G130) | (exfalso;replace h5:k%6=5:=h5;omega)),by rw [show (RWp.abs ⟨z,sa,sc,sl,na,nc,nl,ib,fr⟩).z=z from rfl,hsA,hsP];have:=of_decide_eq_true h9;omega⟩,fun h9=>decide_eq_true (by have h8:=h9.2;rw [show (RWp.abs ⟨z,sa,sc,sl,na,nc,nl,ib,fr⟩).z=z from rfl,hsA,hsP] at h8;omega)⟩,(by rw [hsA,hAg3];exact (ok.n2).k1.e1),hnq3⟩⟩
 refine .seq<|.r<|.z .eql<|.z .asB<|.nil ?_;refine .cd (fun C5=>?_) (fun C5=>?_)
 ·
  have hk7:k%6=3:=by omega
  have hsA:stepB A z ⟨k,no,n,fb,hd,bl⟩=commitB A:=by simp only [stepB,hk7]
  have hsP:stepQ (RWp.abs ⟨z,sa,sc,sl,na,nc,nl,ib,fr⟩) ⟨k,no,n,fb,hd,bl⟩=commitQ (RWp.abs ⟨z,sa,sc,sl,na,nc,nl,ib,fr⟩):=by simp only [stepQ,hk7];try rfl
  refine .seq<|.r<|.z .mvP<|.c' 81 .func (gbcommit_any (p:=p) (d:=d) (F:=F) (A:=A) (ok.n3).loc0 (by omega)) ?_;rintro _ η20 ⟨Fg4,rfl,q⟩;have Pg4:=bg_pl (ok.n3).m0;have ok:=(ok.n3).lift1 q;obtain ⟨Ag4,hAg4⟩:∃x:Bk,(commitB A).1=x:=⟨_,rfl⟩;rw [hAg4] at ok;have hcg4:Ag4.dk.chg≤A.dk.chg+1200000:=by rw [←hAg4];exact (by have:=Pg4.commit.2;omega)
  refine .z .asI<|.nil ?_;refine .r<|.z (.ldb T.ag51 ok.m3 T.sz51)<|.c' 84 .func (qcommit_any (E:=E) (z:=z) (sa:=sa) (sc:=sc) (sl:=sl) (na:=na) (nc:=nc) (nl:=nl) (ib:=ib) (fr:=fr) (show DocP _ _ _ from ok.r0)) ?_;rintro _ η21 ⟨wq4,rfl,haq4,hrq4⟩;have hzq4:=ok.chg.size;obtain ⟨Eq4,hEq4,ok⟩:=Hp.pdoc (ok) hrq4;have hnq4:=fun j hj=>(hEq4 j hj).elim ((fun _ h=>Or.inl h) j) fun h1=>Or.inr (Nat.le_trans hzq4 h1);refine .z .mvU<|.z .ex<|.z .ex<|.ur' (.stW (vs:=[.int .i64 (wq4.z:Int),.slice wq4.sa wq4.sl.length wq4.sc,.slice wq4.na wq4.nl.length wq4.nc,.bool wq4.i]) T.sz51 ok.n3 (oneL rfl)) ?_;rintro η22 ⟨ok,cg⟩;refine .z .asI<|.nil ?_;refine .end<|hK0 _ _<|.seq<|.r<|.z (.ldb T.ag51 ok.m0 T.sz51)<|.z .mvI<|.z .mvB<|.z .mvB<|.z .mvI<|.z .mvI<|.z .eql<|.z .pkt<|.ur' (.stW (vs:=[.int .i64 (wq4.z:Int),.slice wq4.sa wq4.sl.length wq4.sc,.slice wq4.na wq4.nl.length wq4.nc,.bool wq4.i]) T.sz51 ok.n2 (oneL rfl)) ?_;rintro η23 ⟨ok,cg⟩;refine .z .asI<|.z .asB<|.nil ?_;refine .ret ⟨.tuple #[.agg #[.int .i64 (wq4.z:Int),.slice wq4.sa wq4.sl.length wq4.sc,.slice wq4.na wq4.nl.length wq4.nc,.bool wq4.i],.int .i64 ((commitB A).2:Int),.bool (decide (((commitB A).2:Int)=((commitQ (RWp.abs ⟨z,sa,sc,sl,na,nc,nl,ib,fr⟩)).2:Int)))],Res.many (vs:=[.agg #[.int .i64 (wq4.z:Int),.slice wq4.sa wq4.sl.length wq4.sc,.slice wq4.na wq4.nl.length wq4.nc,.bool wq4.i],.int .i64 ((commitB A).2:Int),.bool (decide (((commitB A).2:Int)=((commitQ (RWp.abs ⟨z,sa,sc,sl,na,nc,nl,ib,fr⟩)).2:Int)))]) rfl ⟨⟨_,rfl,load_ag T.ag51 ok.m0 T.sz51⟩,rfl,rfl,trivial⟩ rfl,⟨Fg4,wq4,Eq4,decide (((commitB A).2:Int)=((commitQ (RWp.abs ⟨z,sa,sc,sl,na,nc,nl,ib,fr⟩)).2:Int)),(by rw [hsA]<;>rfl),(by rw [hsP]<;>exact haq4),⟨fun h9=>⟨fun h5=>(by first | assumption | (simpa using G130) | (exfalso;replace h5:k%6=5:=h5;omega)),by rw [show (RWp.abs ⟨z,sa,sc,sl,na,nc,nl,ib,fr⟩).z=z from rfl,hsA,hsP];have:=of_decide_eq_true h9;omega⟩,fun h9=>decide_eq_true (by have h8:=h9.2;rw [show (RWp.abs ⟨z,sa,sc,sl,na,nc,nl,ib,fr⟩).z=z from rfl,hsA,hsP] at h8;omega)⟩,(by rw [hsA,hAg4];exact (ok.n2).k1.e1),hnq4⟩⟩
 refine .seq<|.r<|.z .eql<|.z .asB<|.nil ?_;refine .cd (fun C6=>?_) (fun C6=>?_)
 ·
  have hk7:k%6=4:=by omega
  have hsA:stepB A z ⟨k,no,n,fb,hd,bl⟩=rollbackB A:=by simp only [stepB,hk7]
  have hsP:stepQ (RWp.abs ⟨z,sa,sc,sl,na,nc,nl,ib,fr⟩) ⟨k,no,n,fb,hd,bl⟩=rollbackP (RWp.abs ⟨z,sa,sc,sl,na,nc,nl,ib,fr⟩):=by simp only [stepQ,hk7];try rfl
  refine .seq<|.r<|.z .mvP<|.c' 90 .func (gbrollback_any (p:=p) (d:=d) (F:=F) (A:=A) (ok.n3).loc0 (by omega)) ?_;rintro _ η24 ⟨Fg5,rfl,q⟩;have Pg5:=bg_pl (ok.n3).m0;have ok:=(ok.n3).lift1 q;obtain ⟨Ag5,hAg5⟩:∃x:Bk,(rollbackB A).1=x:=⟨_,rfl⟩;rw [hAg5] at ok;have hcg5:Ag5.dk.chg≤A.dk.chg+1200000:=by rw [←hAg5];exact (by have:=Pg5.rollback.2;omega)
  refine .z .asI<|.nil ?_;refine .r<|.z (.ldb T.ag51 ok.m3 T.sz51)<|.c' 93 .func (qrollback_any (E:=E) (z:=z) (sa:=sa) (sc:=sc) (sl:=sl) (na:=na) (nc:=nc) (nl:=nl) (ib:=ib) (fr:=fr) (show DocP _ _ _ from ok.r0)) ?_;rintro _ η25 ⟨wq5,rfl,haq5,hrq5⟩;have hzq5:=ok.chg.size;obtain ⟨Eq5,hEq5,ok⟩:=Hp.pdoc (ok) hrq5;have hnq5:=fun j hj=>(hEq5 j hj).elim ((fun _ h=>Or.inl h) j) fun h1=>Or.inr (Nat.le_trans hzq5 h1);refine .z .mvU<|.z .ex<|.z .ex<|.ur' (.stW (vs:=[.int .i64 (wq5.z:Int),.slice wq5.sa wq5.sl.length wq5.sc,.slice wq5.na wq5.nl.length wq5.nc,.bool wq5.i]) T.sz51 ok.n3 (oneL rfl)) ?_;rintro η26 ⟨ok,cg⟩;refine .z .asI<|.nil ?_;refine .end<|hK0 _ _<|.seq<|.r<|.z (.ldb T.ag51 ok.m0 T.sz51)<|.z .mvI<|.z .mvB<|.z .mvB<|.z .mvI<|.z .mvI<|.z .eql<|.z .pkt<|.ur' (.stW (vs:=[.int .i64 (wq5.z:Int),.slice wq5.sa wq5.sl.length wq5.sc,.slice wq5.na wq5.nl.length wq5.nc,.bool wq5.i]) T.sz51 ok.n2 (oneL rfl)) ?_;rintro η27 ⟨ok,cg⟩;refine .z .asI<|.z .asB<|.nil ?_;refine .ret ⟨.tuple #[.agg #[.int .i64 (wq5.z:Int),.slice wq5.sa wq5.sl.length wq5.sc,.slice wq5.na wq5.nl.length wq5.nc,.bool wq5.i],.int .i64 ((rollbackB A).2:Int),.bool (decide (((rollbackB A).2:Int)=((rollbackP (RWp.abs ⟨z,sa,sc,sl,na,nc,nl,ib,fr⟩)).2:Int)))],Res.many (vs:=[.agg #[.int .i64 (wq5.z:Int),.slice wq5.sa wq5.sl.length wq5.sc,.slice wq5.na wq5.nl.length wq5.nc,.bool wq5.i],.int .i64 ((rollbackB A).2:Int),.bool (decide (((rollbackB A).2:Int)=((rollbackP (RWp.abs ⟨z,sa,sc,sl,na,nc,nl,ib,fr⟩)).2:Int)))]) rfl ⟨⟨_,rfl,load_ag T.ag51 ok.m0 T.sz51⟩,rfl,rfl,trivial⟩ rfl,⟨Fg5,wq5,Eq5,decide (((rollbackB A).2:Int)=((rollbackP (RWp.abs ⟨z,sa,sc,sl,na,nc,nl,ib,fr⟩)).2:Int)),(by rw [hsA]<;>rfl),(by rw [hsP]<;>exact haq5),⟨fun h9=>⟨fun h5=>(by first | assumption | (simpa using G130) | (exfalso;replace h5:k%6=5:=h5;omega)),by rw [show (RWp.abs ⟨z,sa,sc,sl,na,nc,nl,ib,fr⟩).z=z from rfl,hsA,hsP];have:=of_decide_eq_true h9;omega⟩,fun h9=>decide_eq_true (by have h8:=h9.2;rw [show (RWp.abs ⟨z,sa,sc,sl,na,nc,nl,ib,fr⟩).z=z from rfl,hsA,hsP] at h8;omega)⟩,(by rw [hsA,hAg5];exact (ok.n2).k1.e1),hnq5⟩⟩
 refine .seq<|.r<|.z .eql<|.z .asB<|.nil ?_;refine .cd (fun C7=>?_) (fun C7=>?_)
 ·
  have hk7:k%6=5:=by omega
  have hsA:stepB A z ⟨k,no,n,fb,hd,bl⟩=((readB A no).1,(readB A no).2.2):=by simp only [stepB,hk7]
  have hsP:stepQ (RWp.abs ⟨z,sa,sc,sl,na,nc,nl,ib,fr⟩) ⟨k,no,n,fb,hd,bl⟩=((RWp.abs ⟨z,sa,sc,sl,na,nc,nl,ib,fr⟩),(readP (RWp.abs ⟨z,sa,sc,sl,na,nc,nl,ib,fr⟩) no).2):=by simp only [stepQ,hk7];try rfl
  refine .seq<|.r<|.z .asS<|.z .asS<|.nil ?_;refine .seq<|.r<|.z .mvP<|.z (.fa T.fd54_1)<|.z (.ldx T.ag3 ok.m1)<|.c' 102 .func (gbread_any (p:=p) (d:=d) (F:=F) (A:=A) (no:=no) (ok.n3).loc0 (by omega)) ?_;rintro _ η28 ⟨Fg6,ag6,cg6,rfl,q⟩;have Pg6:=bg_pl (ok.n3).m0;have ok:=(ok.n3).lift2 q;obtain ⟨Ag6,hAg6⟩:∃x:Bk,(readB A no).1=x:=⟨_,rfl⟩;rw [hAg6] at ok;have hcg6:Ag6.dk.chg≤A.dk.chg+1200000:=by rw [←hAg6];exact (Int.le_trans Pg6.read.2 (by omega))
  refine .z .mvU<|.z .ex<|.z .ex<|.z .asS<|.z .asI<|.nil ?_;refine .seq<|.r<|.z (.ldb T.ag51 ok.m4 T.sz51)<|.z (.fa T.fd54_1)<|.z (.ldx T.ag3 ok.m3)<|.c' 109 .func (qread_any (E:=E) (z:=z) (sa:=sa) (sc:=sc) (sl:=sl) (na:=na) (nc:=nc) (nl:=nl) (ib:=ib) (fr:=fr) (no:=no) (show DocP _ _ _ from ok.r0) (by omega)) ?_;rintro _ η29 ⟨aq6,cq6,rfl,hx,hdq6⟩;have ok:=ok.ext hx;have ok:=ok.d0 (rdI E E (aq6,(readP (RWp.abs ⟨z,sa,sc,sl,na,nc,nl,ib,fr⟩) no).1.length,cq6) (readP (RWp.abs ⟨z,sa,sc,sl,na,nc,nl,ib,fr⟩) no).1) hdq6 (fun _ h=>h.elim id id);refine .z .mvU<|.z .ex<|.z .ex<|.z .asS<|.z .asI<|.nil ?_;refine .seq<|.r<|.z .mvS<|.z .mvS<|.k 114 .func (same_any (a:=ag6) (c:=cg6) (l:=(readB A no).2.1) (b:=aq6) (d:=cq6) (l2:=(readP (RWp.abs ⟨z,sa,sc,sl,na,nc,nl,ib,fr⟩) no).1) (RdL.ofCapB (v:=(ag6,(readB A no).2.1.length,cg6)) (l:=((readB A no).2.1)) ok.m0) ok.r0)<|.z .asB<|.nil ?_;refine .seq<|?_;have hlb:cg6≤9223372036854775807:=Cap.bd (ok).m0;have hlc:(readB A no).2.1.length≤cg6:=Cap.le (ok).m0;refine .r<|.z .asI<|.nil ?_;refine .block fun K3 hK3=>.loop (fun m s hh=>∃(i:Nat) (xs:List UInt8),Has s [(4,.pointer (some ⟨pb1,0,none⟩)),(6,.pointer (some ⟨pb3,0,none⟩)),(9,.int .i64 ((readB A no).2.2:Int)),(10,.int .i64 ((readP (RWp.abs ⟨z,sa,sc,sl,na,nc,nl,ib,fr⟩) no).2:Int)),(11,.bool (decide ((readB A no).2.1=(readP (RWp.abs ⟨z,sa,sc,sl,na,nc,nl,ib,fr⟩) no).1))),(14,.slice ag6 ((readB A no).2.1.length) cg6),(16,.int .i64 (i:Int))]∧Hp h F [capI 1 5 (ag6,(readB A no).2.1.length,cg6) (xs.map bv),bgI p d Fg6 Ag6,boxI pb1 51 [.int .i64 (z:Int),.slice sa sl.length sc,.slice na nl.length nc,.bool ib],boxI pb3 51 [.int .i64 0,.slice none 0 0,.slice none 0 0,.bool false]] [dcpI E ⟨z,sa,sc,sl,na,nc,nl,ib,fr⟩] hh∧i≤(readB A no).2.1.length∧xs.length=(readB A no).2.1.length∧m=(readB A no).2.1.length-i) ?_ ?_
  ·exact ⟨_,0,(readB A no).2.1,⟨rfl,rfl,rfl,rfl,rfl,rfl,rfl,trivial⟩,(ok.n2.n4.n3.n3).k4.f1.e1,Nat.zero_le _,rfl,rfl⟩
  rintro _ _ η30 ⟨i,xs,hs,ok,hi,hxs,rfl⟩ J1 hJ1;refine .frame hs fun τ=>?_;refine .seq<|.seq<|.r<|.z .mvI<|.z .mvS<|.z (.len T.el22)<|.z .lss<|.nil ?_;refine .cdr (fun C8=>?_) (fun C8=>?_)
  ·
   refine .exit<|hK3 _ _<|.end<|hK0 _ _<|.seq<|.r<|.z (.ldb T.ag51 ok.m2 T.sz51)<|.z .mvI<|.z .mvB<|.z .mvB<|.sd (fun G130=>?_) (fun G130=>?_)
   ·
    refine .z .mvI<|.z .mvI<|.z .eql<|.z .pkt<|.ur' (.stW (vs:=[.int .i64 (z:Int),.slice sa sl.length sc,.slice na nl.length nc,.bool ib]) T.sz51 ok.n3 (oneL rfl)) ?_;rintro η31 ⟨ok,cg⟩;refine .z .asI<|.z .asB<|.nil ?_;refine .ret ⟨.tuple #[.agg #[.int .i64 (z:Int),.slice sa sl.length sc,.slice na nl.length nc,.bool ib],.int .i64 ((readB A no).2.2:Int),.bool (decide (((readB A no).2.2:Int)=((readP (RWp.abs ⟨z,sa,sc,sl,na,nc,nl,ib,fr⟩) no).2:Int)))],Res.many (vs:=[.agg #[.int .i64 (z:Int),.slice sa sl.length sc,.slice na nl.length nc,.bool ib],.int .i64 ((readB A no).2.2:Int),.bool (decide (((readB A no).2.2:Int)=((readP (RWp.abs ⟨z,sa,sc,sl,na,nc,nl,ib,fr⟩) no).2:Int)))]) rfl ⟨⟨_,rfl,load_ag T.ag51 ok.m0 T.sz51⟩,rfl,rfl,trivial⟩ rfl,⟨Fg6,⟨z,sa,sc,sl,na,nc,nl,ib,fr⟩,E,decide (((readB A no).2.2:Int)=((readP (RWp.abs ⟨z,sa,sc,sl,na,nc,nl,ib,fr⟩) no).2:Int)),(by rw [hsA]<;>rfl),(by rw [hsP]<;>exact rfl),⟨fun h9=>⟨fun h5=>(by first | assumption | (simpa using G130) | (exfalso;replace h5:k%6=5:=h5;omega)),by rw [show (RWp.abs ⟨z,sa,sc,sl,na,nc,nl,ib,fr⟩).z=z from rfl,hsA,hsP];have:=of_decide_eq_true h9;omega⟩,fun h9=>decide_eq_true (by have h8:=h9.2;rw [show (RWp.abs ⟨z,sa,sc,sl,na,nc,nl,ib,fr⟩).z=z from rfl,hsA,hsP] at h8;omega)⟩,(by rw [hsA,hAg6];exact (ok.n2).k1),(fun _ h=>Or.inl h)⟩⟩
   refine .y<|.y<|.y<|.z .pkf<|.ur' (.stW (vs:=[.int .i64 (z:Int),.slice sa sl.length sc,.slice na nl.length nc,.bool ib]) T.sz51 ok.n3 (oneL rfl)) ?_;rintro η32 ⟨ok,cg⟩;refine .z .asI<|.z .asB<|.nil ?_;refine .ret ⟨.tuple #[.agg #[.int .i64 (z:Int),.slice sa sl.length sc,.slice na nl.length nc,.bool ib],.int .i64 ((readB A no).2.2:Int),.bool false],Res.many (vs:=[.agg #[.int .i64 (z:Int),.slice sa sl.length sc,.slice na nl.length nc,.bool ib],.int .i64 ((readB A no).2.2:Int),.bool false]) rfl ⟨⟨_,rfl,load_ag T.ag51 ok.m0 T.sz51⟩,rfl,rfl,trivial⟩ rfl,⟨Fg6,⟨z,sa,sc,sl,na,nc,nl,ib,fr⟩,E,false,(by rw [hsA]<;>rfl),(by rw [hsP]<;>exact rfl),⟨fun h9=>(by cases h9),fun h9=>absurd (h9.1 hk7) (by first | assumption | simpa using G130)⟩,(by rw [hsA,hAg6];exact (ok.n2).k1),(fun _ h=>Or.inl h)⟩⟩
  refine .skip<|.seq<|.block fun K4 hK4=>.r<|.z .mvS<|.z .mvI<|?_;obtain ⟨bb2,oo2,rfl,fb2⟩:=ok.m0.pos (n:=(readB A no).2.1.length) (by omega);refine .z (.ix1 i T.el22 T.sz5)<|.z (.ld T.ag5 (Cap.u8 ok.m0 (i:=i) (by omega)))<|.z (.addn (M:=256) rfl rfl (b:=1))<|.z (.ix1 i T.el22 T.sz5)<|.ur' (.sxI (q:=i) T.sz5 ok) ?_;rintro η33 ⟨ok,cg⟩;refine .nil ?_;refine .end<|hK4 _ _<|.r<|.z .mvI<|.z (.addI (b:=1))<|.z .asI<|.nil ?_;refine .end<|hJ1 _ _ _ ⟨i+1,_,⟨rfl,rfl,rfl,rfl,rfl,rfl,rfl,trivial⟩,((ok).k4).cx bv_inc,by omega,by rw [List.length_set];exact hxs,rfl⟩ (by omega)
 omega
structure Sn (A B:Bk):Prop where
 size:B.size=A.size
 in_:B.in_=A.in_
theorem Sn.refl (A:Bk):Sn A A:=⟨rfl,rfl⟩
theorem Sn.end {A:Bk} {a:Bk × Nat} (h:Sn A a.1):Sn A (endB a).1:=by unfold endB;split;exact ⟨h.1,h.2⟩;exact h
theorem put_sn {A:Bk} {no:Nat} {b:List UInt8} {d:Bool} : Sn A (putB A no b d).1:=let h:=flush_sm (A:={ A with L:=putL A.room no b d A.L }) (l:=putA A.room no b d A.L);⟨h.size,h.in_⟩
theorem read_sn {A:Bk} {no:Int} : Sn A (readB A no).1:=by
 unfold readB;split
 ·exact .refl A
 ·split
  ·exact .refl A
  ·refine Sn.end ?_;split
   ·exact ⟨rfl,rfl⟩
   ·have h:=put_sn (A:=(getB A no.toNat).1) (no:=no.toNat) (b:=(getB A no.toNat).2.1) (d:=false);exact ⟨h.1,h.2⟩
theorem write_sn {A:Bk} {no:Int} {b:List UInt8} : Sn A (writeB A no b).1:=by
 unfold writeB;split
 ·exact .refl A
 ·split
  ·exact .refl A
  ·split
   ·exact .refl A
   ·refine Sn.end ?_;split
    ·exact ⟨rfl,rfl⟩
    ·have h:=put_sn (A:=(getB A no.toNat).1) (no:=no.toNat) (b:=b) (d:=true);exact ⟨h.1,h.2⟩
theorem done_in {A:Bk} {a:Bk × Nat} (h:(endB (thenB a fun B=>(doneB B,0))).2=0) (hs:a.1.size=A.size):(endB (thenB a fun B=>(doneB B,0))).1.in_=false∧(endB (thenB a fun B=>(doneB B,0))).1.size=A.size:=by
 by_cases h0:a.2=0
 ·rw [thenB_0 h0];exact ⟨rfl,hs⟩
 ·rw [thenB_e h0] at h;unfold endB at h;split at h
  ·cases h
  ·exact absurd h h0
theorem commit_in {A:Bk} {s P:List (List UInt8)} (R:Rl A s P) (hi:A.in_=true) (h:(commitB A).2=0):(commitB A).1.in_=false∧(commitB A).1.size=A.size:=by
 revert h;unfold commitB;rw [if_neg (by rw [R.br];decide),if_neg (by rw [hi];decide)];by_cases hn:A.now=0
 ·rw [if_pos hn];exact fun h=>done_in h (lay_in R).size
 ·rw [if_neg hn];have hp:=R.pres;unfold presB at hp;rw [if_pos hi] at hp;have hg:=R.get (no:=1) (by omega) (by omega);simp only;intro h;split at h
  ·rename_i h1;exact absurd (by rw [hg.1]) h1
  ·rename_i h1;rw [if_neg h1];split at h
   ·cases h
   ·rename_i h2;rw [if_neg h2];exact done_in h ((lay_in hg.2).size.trans rfl)
theorem rollback_in {A:Bk} (hb:A.broken=false) (hi:A.in_=true) (h:(rollbackB A).2=0):(rollbackB A).1.in_=false∧(rollbackB A).1.size=A.size:=by
 revert h;unfold rollbackB;rw [if_neg (by rw [hb];decide),if_neg (by rw [hi];decide)];split
 ·rename_i h1;intro h;unfold endB at h;split at h
  ·cases h
  ·exact absurd h h1.2
 ·exact fun _=>⟨rfl,rfl⟩
section
variable {A:Bk} {s P:List (List UInt8)}
theorem opened_rl {d:Dk} {z:Nat} {room:Int} (c:CleanB s d) (k:DkOk d) (pg:PgOk z s) (hm:s.length≤mostB z) (hr:1≤room∧room≤1048576):Rl (openedB d z room (s.length*z)) s s:=
 rest_rl c k pg hm rfl rfl rfl rfl rfl rfl rfl (by show s.length*z / z=s.length;have:=(okSz_b pg.sz).1;exact Nat.mul_div_cancel _ (by omega)) rfl rfl List.nodup_nil ⟨hr.1,hr.2,by show (([]:List AP).length:Int)≤room;simp;omega⟩ (by show ∀x∈([]:List AP),_;simp)
theorem opn_of {d:Dk} {z:Nat} {room:Int} (hd:d.dark=false) (hh:Res d (healB d) (CleanB s) (GdBD z s)) (pg:PgOk z s) (hm:s.length≤mostB z) (hr:1≤room∧room≤1048576) :
  (openB d z room=((healB d).1,s.length*z,0)∧(d.left<0→(healB d).1.left<0)∧CleanB s (healB d).1)∨(openB d z room=((healB d).1,0,13)∧(healB d).1.dark=true∧0≤d.left∧GdBD z s (healB d).1):=by
 have h1:okZ (z:Int)=true:=by rw [okZ_nat];exact pg.sz
 unfold openB;rw [if_neg (by rw [h1];decide),if_neg (by omega),if_neg (by rw [hd];decide)];rcases hh with ⟨e,hd2,hl,c⟩ | ⟨e,hd2,hl,c⟩
 ·rw [if_neg (by omega),Int.toNat_natCast,blook_own pg hm c];exact .inl ⟨rfl,hl,c⟩
 ·rw [if_pos (by omega),e];exact .inr ⟨rfl,hd2,hl,c⟩
end
theorem newB_clean:CleanB [] newN:=⟨none,⟨rfl,rfl,rfl,rfl⟩,rfl⟩
theorem openB_new {z:Nat} {room:Int} (hz:okSz z=true) (hr:1≤room∧room≤1048576):openB newN (z:Int) room=(newN,0,0)∧Rl (openedB newN z room 0) [] []:=by
 have pg:PgOk z []:=⟨hz,by simp,by simp,by simp⟩;have hh:healB newN=(newN,0):=by
  have h1:¬((sizeN newN nM).2=true∧0<(sizeN newN nM).1):=by rw [show sizeN newN nM=(0,false) from rfl];simp
  have g:∀n,nOk n→goneN newN n=(newN,0):=fun n hn=>by
   have h:=remove_no (d:=newN) (n:=n) rfl hn rfl;unfold goneN;rw [h];rfl
  rw [heal_no h1,if_neg (by decide)];unfold overB;rw [g _ nM_ok,thenN_0 rfl];exact g _ nJ_ok
 have hl:lookB newN z=(0,0):=by unfold lookB;rw [if_pos (.inl rfl)]
 refine ⟨?_,?_⟩
 ·unfold openB;have h1:okZ (z:Int)=true:=by rw [okZ_nat];exact hz
  rw [if_neg (by rw [h1];decide),if_neg (by omega),if_neg (by decide),hh,if_neg (by simp),Int.toNat_natCast,hl]
 ·have:=opened_rl (s:=[]) (d:=newN) (room:=room) newB_clean newN_ok pg (by simp) hr;simpa using this
structure RelB (A:Bk) (w:WPg):Prop where
 br:A.broken=false
 in_:A.in_=w.in_
 z:A.size=w.z
 no:w.in_=false→w.now=[]
 R:Rl A w.sure w.pages
structure FailB (A A':Bk) (G:Dk→Prop):Prop where
 br:A'.broken=true
 dd:A'.dk.dark=true
 left:0≤A.dk.left
 gd:G A'.dk
theorem relB_new {z:Nat} {room:Int} {fr:Nat} (hz:okSz z=true) (hr:1≤room∧room≤1048576):RelB (openedB newN z room 0) ⟨z,[],[],false,fr⟩:=⟨rfl,rfl,rfl,fun _=>rfl,(openB_new hz hr).2⟩
section
variable {A:Bk} {w:WPg} (R:RelB A w)
include R
theorem RelB.pages:(if A.broken=true then 0 else presB A)=w.pages.length:=by rw [if_neg (by rw [R.br];decide)];exact R.R.pres
theorem RelB.begin':(beginB A).2=(beginP w).2∧RelB (beginB A).1 (beginP w).1:=by
 by_cases hi:w.in_=true
 ·have e:beginB A=(A,10):=by unfold beginB;rw [if_neg (by rw [R.br];decide),if_pos (R.in_.trans hi)]
  rw [e,beginP_1 hi];exact ⟨rfl,R⟩
 ·obtain ⟨e,R2⟩:=R.R.begin (R.in_.trans (by simpa using hi));rw [e,beginP_2 hi];exact ⟨rfl,R2.br,rfl,R.z,fun h=>(by cases h),R2⟩
theorem RelB.now (hi:w.in_=true):A.now=w.now.length∧w.pages=w.now:=by
 have hp:=R.R.pres;have e:w.pages=w.now:=if_pos hi;unfold presB at hp;rw [if_pos (R.in_.trans hi),e] at hp;exact ⟨hp,e⟩
theorem RelB.resize {n:Int} : (resizeB A n).2=(resizeQ w n).2∧RelB (resizeB A n).1 (resizeQ w n).1:=by
 by_cases hi:w.in_=false
 ·have e:resizeB A n=(A,10):=by unfold resizeB;rw [if_neg (by rw [R.br];decide),if_pos (R.in_.trans hi)]
  rw [e,resizeQ_1 hi];exact ⟨rfl,R⟩
 have hi':w.in_=true:=by simpa using hi
 have hA:¬A.in_=false:=by rw [R.in_];exact hi
 by_cases h0:n<0
 ·have e:resizeB A n=(A,1):=by unfold resizeB;rw [if_neg (by rw [R.br];decide),if_neg hA,if_pos h0]
  rw [e,resizeQ_2 hi h0];exact ⟨rfl,R⟩
 by_cases h1:1048576<n∨((mostB w.z:Nat):Int)<n
 ·have e:resizeB A n=(A,5):=by unfold resizeB;rw [if_neg (by rw [R.br];decide),if_neg hA,if_neg h0,if_pos (by rw [R.z];exact h1)]
  rw [e,resizeQ_3 hi h0 h1];exact ⟨rfl,R⟩
 ·obtain ⟨n,rfl⟩:∃m:Nat,n=(m:Int):=⟨n.toNat,by omega⟩;have R2:=R.R.resize (R.in_.trans hi') (n:=n) (by omega) (by rw [R.z];omega);have e:resizeB A (n:Int)=({ A with L:=A.L.filter fun x=>decide (x.no≤(n:Int)),now:=n,valid:=min A.valid n },0):=by
   unfold resizeB;rw [if_neg (by rw [R.br];decide),if_neg hA,if_neg h0,if_neg (by rw [R.z];exact h1)];rfl
  rw [e,resizeQ_4 hi h0 h1];rw [(R.now hi').2] at R2;refine ⟨rfl,R.br,R.in_,R.z,fun h=>absurd h hi,?_⟩;have e2:WPg.pages { w with now:=growL w.now w.z (n:Int).toNat } = rszP w.now n w.z:=if_pos hi';rw [e2];show Rl _ w.sure (rszP w.now n w.z);rw [←R.z];exact R2
theorem RelB.read {no:Int} : (((readB A no).2=readP w no)∧RelB (readB A no).1 w∧(A.dk.left<0→(readB A no).1.dk.left<0))∨((readB A no).2.2=13∧FailB A (readB A no).1 (GdBD w.z w.sure)):=by
 have hp:=R.R.pres;by_cases h1:no<1∨(w.pages.length:Int)<no
 ·have e:readB A no=(A,[],1):=by unfold readB;rw [if_neg (by rw [R.br];decide),if_pos (by rw [hp];exact h1)]
  rw [e,readP_1 h1];exact .inl ⟨rfl,R,id⟩
 ·obtain ⟨n,rfl⟩:∃m:Nat,no=(m:Int):=⟨no.toNat,by omega⟩;have hr:=R.R.read (no:=n) (by omega) (by omega);have hsn:=read_sn (A:=A) (no:=(n:Int));rw [R.z] at hr;rcases hr with ⟨e,hl,hR,hv⟩ | ⟨e,hb,hd,hl,hg⟩
  ·left;refine ⟨?_,⟨hR.br,hsn.in_.trans R.in_,hsn.size.trans R.z,R.no,hR⟩,hl⟩;rw [readP_2 h1];have e3:(readB A (n:Int)).2=((readB A (n:Int)).2.1,(readB A (n:Int)).2.2):=rfl;rw [e3,hv,show (readB A (n:Int)).2.2=0 from e];congr 2;omega
  ·exact .inr ⟨e,hb,hd,hl,hg⟩
theorem RelB.write {no:Int} {b:List UInt8} : ((writeB A no b).2=(writeP w no b).2∧RelB (writeB A no b).1 (writeP w no b).1∧(A.dk.left<0→(writeB A no b).1.dk.left<0))∨((writeB A no b).2=13∧FailB A (writeB A no b).1 (GdBD w.z w.sure)):=by
 by_cases hi:w.in_=false
 ·have e:writeB A no b=(A,10):=by unfold writeB;rw [if_neg (by rw [R.br];decide),if_pos (R.in_.trans hi)]
  rw [e,writeP_1 hi];exact .inl ⟨rfl,R,id⟩
 have hi':w.in_=true:=by simpa using hi
 obtain ⟨hn,hpg⟩:=R.now hi';have hA:¬A.in_=false:=by rw [R.in_];exact hi
 by_cases h1:no<1∨(w.now.length:Int)<no∨b.length≠w.z
 ·have e:writeB A no b=(A,1):=by unfold writeB;rw [if_neg (by rw [R.br];decide),if_neg hA,if_pos (by rw [hn,R.z];exact h1)]
  rw [e,writeP_2 hi h1];exact .inl ⟨rfl,R,id⟩
 ·obtain ⟨n,rfl⟩:∃m:Nat,no=(m:Int):=⟨no.toNat,by omega⟩;have hr:=R.R.write (R.in_.trans hi') (no:=n) (b:=b) (by omega) (by rw [hpg];omega) (by rw [R.z];omega);have hsn:=write_sn (A:=A) (no:=(n:Int)) (b:=b);rw [R.z] at hr;rw [writeP_3 hi h1];rcases hr with ⟨e,hl,hR⟩ | ⟨e,hb,hd,hl,hg⟩
  ·left;refine ⟨e,⟨hR.br,hsn.in_.trans R.in_,hsn.size.trans R.z,fun h=>absurd h hi,?_⟩,hl⟩;rw [hpg] at hR;have e2:WPg.pages { w with now:=w.now.set ((n:Int)-1).toNat b } = w.now.set (n-1) b:=by
    rw [show ((n:Int)-1).toNat=n-1 by omega];exact if_pos hi'
   rw [e2];exact hR
  ·exact .inr ⟨e,hb,hd,hl,hg⟩
theorem RelB.commit:((commitB A).2=(commitQ w).2∧RelB (commitB A).1 (commitQ w).1∧(A.dk.left<0→(commitB A).1.dk.left<0))∨((commitB A).2=13∧w.in_=true∧FailB A (commitB A).1 (GdBP w.z w.sure w.now)):=by
 by_cases hi:w.in_=false
 ·have e:commitB A=(A,10):=by unfold commitB;rw [if_neg (by rw [R.br];decide),if_pos (R.in_.trans hi)]
  rw [e,commitQ_1 hi];exact .inl ⟨rfl,R,id⟩
 have hi':w.in_=true:=by simpa using hi
 have hiA:=R.in_.trans hi';obtain ⟨hn,hpg⟩:=R.now hi';by_cases h8:w.now≠[]∧hdOk (w.now.getD 0 []) w.z=false
 ·obtain ⟨e,R2⟩:=R.R.commit8 hiA (by rw [hpg];exact h8.1) (by rw [hpg,R.z];exact h8.2);rw [e,commitQ_2 hi h8];exact .inl ⟨rfl,⟨R2.br,R.in_,R.z,R.no,R2⟩,id⟩
 ·rw [commitQ_3 hi h8];have hr:=R.R.commit hiA (by
   rw [hpg,R.z];intro h;cases h9:hdOk (w.now.getD 0 []) w.z
   ·exact absurd ⟨h,h9⟩ h8
   ·rfl)
  rw [R.z,hpg] at hr;rcases hr with ⟨e,hl,hR⟩ | ⟨e,hb,hd,hl,hg⟩
  ·obtain ⟨h1,h2⟩:=commit_in R.R hiA e;exact .inl ⟨e,⟨hR.br,h1,h2.trans R.z,fun _=>rfl,hR⟩,hl⟩
  ·exact .inr ⟨e,hi',hb,hd,hl,hg⟩
theorem RelB.rollback:((rollbackB A).2=(rollbackP w).2∧RelB (rollbackB A).1 (rollbackP w).1∧(A.dk.left<0→(rollbackB A).1.dk.left<0))∨((rollbackB A).2=13∧FailB A (rollbackB A).1 (GdBD w.z w.sure)):=by
 by_cases hi:w.in_=false
 ·have e:rollbackB A=(A,10):=by unfold rollbackB;rw [if_neg (by rw [R.br];decide),if_pos (R.in_.trans hi)]
  rw [e,rollbackP_1 hi];exact .inl ⟨rfl,R,id⟩
 have hiA:=R.in_.trans (show w.in_=true by simpa using hi);have hr:=(R.R.rollback hiA).1;rw [rollbackP_2 hi];rw [R.z] at hr;rcases hr with ⟨e,hl,hR⟩ | ⟨e,hb,hd,hl,hg⟩
 ·obtain ⟨h1,h2⟩:=rollback_in R.br hiA e;exact .inl ⟨e,⟨hR.br,h1,h2.trans R.z,fun _=>rfl,hR⟩,hl⟩
 ·exact .inr ⟨e,hb,hd,hl,hg⟩
end
open Go Go.HL
structure LimW (w:WPg):Prop where
 s:w.sure.length≤40
 n:w.now.length≤40
theorem growL_len {now:List (List UInt8)} {z n:Nat} : (growL now z n).length=n:=by unfold growL;simp;omega
theorem k6 (k:Nat):k%6=0∨k%6=1∨k%6=2∨k%6=3∨k%6=4∨k%6=5:=by omega
theorem LimW.step {w:WPg} {x:PO6} (L:LimW w) (h:¬(40<x.n∧x.n≤1048576)):LimW (stepQ w x).1:=by
 obtain ⟨h1,h2⟩:=L;rcases k6 x.k with e | e | e | e | e | e<;>simp only [stepQ,e]
 ·unfold beginP;split;exact ⟨h1,h2⟩;exact ⟨h1,h1⟩
 ·unfold writeP;repeat' split
  all_goals first | exact ⟨h1,h2⟩ | exact ⟨h1,by simp only [List.length_set];exact h2⟩
 ·unfold resizeQ
  repeat' split
  ·exact ⟨h1,h2⟩
  ·exact ⟨h1,h2⟩
  ·exact ⟨h1,h2⟩
  ·rename_i g1 g2 g3;exact ⟨h1,by show (growL _ _ _).length≤40;rw [growL_len];omega⟩
 ·unfold commitQ;repeat' split
  all_goals first | exact ⟨h1,h2⟩ | exact ⟨h2,by simp⟩
 ·unfold rollbackP;split;exact ⟨h1,h2⟩;exact ⟨h1,by simp⟩
 ·exact ⟨h1,h2⟩
theorem step_z {w:WPg} {x:PO6} : (stepQ w x).1.z=w.z:=by
 rcases k6 x.k with e | e | e | e | e | e<;>simp only [stepQ,e];all_goals first | rfl | (first | unfold beginP | unfold writeP | unfold resizeQ | unfold commitQ | unfold rollbackP)<;>(repeat' split)<;>rfl
theorem step_pl {A:Bk} {z:Nat} {x:PO6} (P:BPl A):BPl (stepB A z x).1∧(stepB A z x).1.dk.chg≤A.dk.chg+1200000:=by
 rcases k6 x.k with e | e | e | e | e | e<;>simp only [stepB,e]
 ·exact ⟨P.begin.1,by rw [P.begin.2];omega⟩
 ·exact ⟨P.write.1,Int.le_trans P.write.2 (by omega)⟩
 ·exact ⟨P.resize.1,by rw [P.resize.2];omega⟩
 ·exact ⟨P.commit.1,Int.le_trans P.commit.2 (by omega)⟩
 ·exact ⟨P.rollback.1,Int.le_trans P.rollback.2 (by omega)⟩
 ·exact ⟨P.read.1,Int.le_trans P.read.2 (by omega)⟩
section
variable {A:Bk} {w:WPg} {x:PO6} (R:RelB A w)
include R
theorem RelB.step:(told13 A w x∧RelB (stepB A w.z x).1 (stepQ w x).1∧(A.dk.left<0→(stepB A w.z x).1.dk.left<0))∨((stepB A w.z x).2=13∧(FailB A (stepB A w.z x).1 (GdBD w.z w.sure)∨x.k%6=3∧w.in_=true∧FailB A (stepB A w.z x).1 (GdBP w.z w.sure w.now))):=by
 unfold told13;rcases k6 x.k with e | e | e | e | e | e<;>simp only [stepB,stepQ,e]
 ·left;have h:=R.begin';exact ⟨⟨fun h=>by simp at h,h.1⟩,h.2,fun h=>by rw [(BPl.begin ⟨R.R.fo.dk,fun _=>⟨_,_,R.R⟩⟩).2];exact h⟩
 ·rcases R.write (no:=x.no) (b:=writeL w.z x) with ⟨h1,h2,h3⟩ | ⟨h1,h2⟩
  ·exact .inl ⟨⟨fun h=>by simp at h,h1⟩,h2,h3⟩
  ·exact .inr ⟨h1,.inl h2⟩
 ·left;have h:=R.resize (n:=x.n);exact ⟨⟨fun h=>by simp at h,h.1⟩,h.2,fun h=>by rw [(BPl.resize ⟨R.R.fo.dk,fun _=>⟨_,_,R.R⟩⟩).2];exact h⟩
 ·rcases R.commit with ⟨h1,h2,h3⟩ | ⟨h1,h2,h3⟩
  ·exact .inl ⟨⟨fun h=>by simp at h,h1⟩,h2,h3⟩
  ·exact .inr ⟨h1,.inr ⟨trivial,h2,h3⟩⟩
 ·rcases R.rollback with ⟨h1,h2,h3⟩ | ⟨h1,h2⟩
  ·exact .inl ⟨⟨fun h=>by simp at h,h1⟩,h2,h3⟩
  ·exact .inr ⟨h1,.inl h2⟩
 ·rcases R.read (no:=x.no) with ⟨h1,h2,h3⟩ | ⟨h1,h2⟩
  ·exact .inl ⟨⟨fun _=>by rw [h1],by rw [h1]⟩,h2,h3⟩
  ·exact .inr ⟨h1,.inl h2⟩
end
def newWp (z:Nat):RWp:=⟨z,none,0,[],none,0,[],false,0⟩
theorem newWp_doc {h:Heap} {z:Nat} : DocP h none_ (newWp z):=⟨RwB.nil _ _ 0 (by decide),RwB.nil _ _ 0 (by decide)⟩
end Go.Proofs.YtpeaicddbnghfaaGreat
namespace Go.HL
open Go
section
variable {h0 h:Heap} {D:Nat→Prop} {M R:List Itm} {a0 a1 a2 a3 a4 a5 a6 a7 a8 a9 a10 a11 a12 a13 a14 q0 q1 q2 q3 q4 q5 q6 q7 q8 q9 q10 q11 q12 q13 q14:Itm}
theorem Hp.m10 (ok:Hp h0 D (a0::a1::a2::a3::a4::a5::a6::a7::a8::a9::a10::M) R h):a10.p h:=(ok.m a10 (by simp)).1
theorem Hp.n10 (ok:Hp h0 D (a0::a1::a2::a3::a4::a5::a6::a7::a8::a9::a10::M) R h):Hp h0 D (a10::a0::a1::a2::a3::a4::a5::a6::a7::a8::a9::M) R h:=ok.perm (by simpa using (List.perm_middle (l₁:=[a0,a1,a2,a3,a4,a5,a6,a7,a8,a9]) (l₂:=M) (a:=a10)).symm)
theorem Hp.n11 (ok:Hp h0 D (a0::a1::a2::a3::a4::a5::a6::a7::a8::a9::a10::a11::M) R h):Hp h0 D (a11::a0::a1::a2::a3::a4::a5::a6::a7::a8::a9::a10::M) R h:=ok.perm (by simpa using (List.perm_middle (l₁:=[a0,a1,a2,a3,a4,a5,a6,a7,a8,a9,a10]) (l₂:=M) (a:=a11)).symm)
end
theorem Hp.anyR {h0 h:Heap} {D:Nat→Prop} {M R:List Itm} (ok:Hp h0 D M R h) (it:Itm) (hp:it.p h) (hF:∀j,it.F j→∃r∈R,r.F j):Hp h0 D M (it::R) h:=
 ⟨ok.chg,ok.m,fun i hi=>by
  rcases List.mem_cons.1 hi with rfl | hi
  ·exact ⟨hp,fun j hj=>by obtain ⟨r,hr,h1⟩:=hF j hj;exact (ok.r r hr).2 j h1⟩
  ·exact ok.r i hi,ok.mm,fun a ha b hb j hj hb2=>by
  rcases List.mem_cons.1 hb with rfl | hb
  ·obtain ⟨r,hr,h1⟩:=hF j hb2;exact ok.mr a ha r hr j hj h1
  ·exact ok.mr a ha b hb j hj hb2⟩
theorem Hp.copy {h0 h h':Heap} {D:Nat→Prop} {M R:List Itm} {x a A B:Itm} (ok:Hp h0 D (x::M) (A::R) h) (q:Hp h x.F [a,x] [B,A] h') (hB:∀j,B.F j→A.F j∨h.size≤j):Hp h0 D (a::x::M) (B::A::R) h':=by
 have o:=ok.upd q.chg (fun _ x=>x) x q.m1 fun j hj=>.inl hj;have hx:=ok.m x List.mem_cons_self;have hz:∀z∈M,∀j,z.F j→¬a.F j:=fun z hz j hj hj2=>by
  rcases ((q.m a List.mem_cons_self).2 j hj2).2 with h1 | h1
  ·exact (List.pairwise_cons.1 ok.mm).1 z hz j h1 hj
  ·have:=((ok.m z (List.mem_cons_of_mem _ hz)).2 j hj).1;omega
 refine ⟨o.chg,fun i hi=>?_,fun i hi=>?_,List.pairwise_cons.2 ⟨fun z hz2 j hj hj2=>?_,o.mm⟩,fun z hz2 y hy j hj hj2=>?_⟩
 ·rcases List.mem_cons.1 hi with rfl | hi
  ·refine ⟨q.m0,fun j hj=>?_⟩;have h1:=(q.m _ List.mem_cons_self).2 j hj;refine ⟨h1.1,?_⟩;rcases h1.2 with h2 | h2
   ·exact (hx.2 j h2).2
   ·exact .inr (Nat.le_trans ok.chg.size h2)
  ·exact o.m i hi
 ·rcases List.mem_cons.1 hi with rfl | hi
  ·exact q.r _ List.mem_cons_self
  ·exact o.r i hi
 ·rcases List.mem_cons.1 hz2 with rfl | hz2
  ·exact (List.pairwise_cons.1 q.mm).1 _ List.mem_cons_self j hj hj2
  ·exact hz z hz2 j hj2 hj
 ·rcases List.mem_cons.1 hy with rfl | hy
  ·rcases List.mem_cons.1 hz2 with rfl | hz2
   ·exact q.mr _ List.mem_cons_self _ List.mem_cons_self j hj hj2
   ·rcases List.mem_cons.1 hz2 with rfl | hz2
    ·exact q.mr _ (List.mem_cons_of_mem _ List.mem_cons_self) _ List.mem_cons_self j hj hj2
    ·rcases hB j hj2 with h1 | h1
     ·exact ok.mr z (List.mem_cons_of_mem _ hz2) A List.mem_cons_self j hj h1
     ·have:=((ok.m z (List.mem_cons_of_mem _ hz2)).2 j hj).1;omega
  ·rcases List.mem_cons.1 hz2 with rfl | hz2
   ·rcases ((q.m z List.mem_cons_self).2 j hj).2 with h1 | h1
    ·exact ok.mr x List.mem_cons_self y hy j h1 hj2
    ·have:=(ok.r y hy).2 j hj2;omega
   ·exact o.mr z hz2 y hy j hj hj2
end Go.HL
namespace Go.Proofs.YtpeaicddbnghfaaGreat
open Go Go.HL
theorem RC.one (l:List RC):∀u∈l.flatMap RC.cells,u.oneCell'=true:=fun u hu=>by
 obtain ⟨x,_,hx⟩:=List.mem_flatMap.1 hu;simp [RC.cells] at hx;rcases hx with rfl | rfl | rfl<;>rfl
theorem flatC_len:∀l:List RC,(l.flatMap RC.cells).length=l.length*3
 | []=>by simp
 | x::l=>by rw [List.flatMap_cons,List.length_append,RC.cells_len,flatC_len l,List.length_cons,Nat.add_mul];omega
theorem ents_some {td:Fs} {i:Nat} {p:List UInt8 × Value} (h:(ents td)[i]? = some p):∃n f,td[i]? = some (n,f)∧p=(n,ptrF f):=by
 unfold ents at h;rw [List.getElem?_map] at h;cases hq:td[i]? with
 | none=>rw [hq] at h;cases h
 | some q=>rw [hq] at h;exact ⟨q.1,q.2,rfl,(Option.some.inj h).symm⟩
theorem ents_erase {td:Fs} {i:Nat} : (ents td).eraseIdx i=ents (td.eraseIdx i):=(map_erase _ _ _).symm
theorem bput_same {fs:Fs} {n:List UInt8} {f:RF} (h:bget fs n=some f):bput fs n f=fs:=by
 induction fs with
 | nil=>simp [bget] at h
 | cons p l ih=>
  rw [bget_cons] at h;rw [bput_cons];by_cases hp:p.1=n
  ·rw [if_pos hp] at h⊢;injection h with h;rw [←hp,←h]
  ·rw [if_neg hp] at h⊢;rw [ih h]
structure Cp (fs td fs2:Fs):Prop where
 sub:∀p∈td,p∈fs
 nd:(td.map (·.1)).Nodup
 eq:∀n,(bget fs2 n).map RF.abs=if n∈td.map (·.1) then none else (bget fs n).map RF.abs
theorem Cp.step {fs td fs2:Fs} {i:Nat} {n:List UInt8} {f f2:RF} (v:Cp fs td fs2) (hn:(fs.map (·.1)).Nodup) (hq:td[i]? = some (n,f)) (ha:f2.abs=f.abs):Cp fs (td.eraseIdx i) (bput fs2 n f2):=by
 obtain ⟨hi,he⟩:=List.getElem?_eq_some_iff.1 hq;have hmem:(n,f)∈td:=by rw [←he];exact List.getElem_mem hi
 have hp:(td.map (·.1)).Perm (n::(td.eraseIdx i).map (·.1)):=by
  have h1:td.Perm (td[i]::td.eraseIdx i):=by
   rw [List.eraseIdx_eq_take_drop_succ];have h2:td=td.take i++td[i]::td.drop (i+1):=by rw [←List.drop_eq_getElem_cons hi,List.take_append_drop]
   exact (List.Perm.of_eq h2).trans List.perm_middle
  rw [he] at h1;exact h1.map _
 have hnd:=hp.nodup_iff.1 v.nd;refine ⟨fun p h=>v.sub p ((List.eraseIdx_sublist _ _).mem h),(List.nodup_cons.1 hnd).2,fun m=>?_⟩;rw [bget_put];by_cases hm:m=n
 ·subst hm;rw [if_pos rfl,if_neg (List.nodup_cons.1 hnd).1,bget_of hn (v.sub _ hmem)];simp [ha]
 ·rw [if_neg hm,v.eq m];have:m∈td.map (·.1)↔m∈(td.eraseIdx i).map (·.1):=by rw [hp.mem_iff];simp [hm]
  by_cases h:m∈td.map (·.1)
  ·rw [if_pos h,if_pos (this.1 h)]
  ·rw [if_neg h,if_neg (fun g=>h (this.2 g))]
theorem Cp.none {fs td fs2:Fs} {i:Nat} {n:List UInt8} {f:RF} (v:Cp fs td fs2) (hq:td[i]? = some (n,f)):bget fs2 n=none:=by
 have h1:=v.eq n;rw [if_pos (List.mem_map.2 ⟨(n,f),List.mem_of_getElem? hq,rfl⟩)] at h1;cases h:bget fs2 n with
 | none=>rfl
 | some g=>rw [h] at h1;cases h1
theorem chclone_any {h:Heap} {a:Option Addr} {n c:Nat} {xs:List Value} (hs:Sl h 3 (.slice a n c) xs) (hone:∀u∈xs,u.oneCell'=true) (hN:xs.length≤1000000000000) (hz:a.isNone=true→xs=[]) :
  HC Tryz.prog 144 #[.slice a n c] h (fun v h'=>Own h h' 3 175 v xs):=by
 have ok:=(Hp.nil h none_).old (rowI 3 (a,n,c) xs) hs (blk_lt (by omega) hs);refine HC.go Tryz.func144 8 ?_;refine .seq<|.r<|.z .asS<|.nil ?_;refine .seq<|.seq<|.r<|.z .mvS<|.z (.sEq T.el125)<|.nil ?_;refine .cond (fun C0=>?_) (fun C0=>?_)
 ·
  refine .seq<|.r<|.z .asS<|.nil ?_;refine .ret ⟨.slice none 0 0,Res.one rfl rfl,(by rw [hz C0];exact Own.nil ok.chg _ _)⟩
 refine .skip<|.seq<|.r<|.a' 5 (.lit [] (cs:=[]) T.el125 T.sz175 T.zr175 ok trivial) ?_;rintro _ η1 ⟨pb1,rfl,ok,xe⟩;refine .z .mvS<|.a' 7 (.app (news:=xs) T.el125 T.sz175 T.by175 T.zr175 ok (ok.r0) hone (by simp only [List.length_nil];omega)) ?_;rintro _ η2 ⟨ya,yn,yc,rfl,ok,ap⟩;have ok:=ok.cx (ys:=xs) (by simp);refine .z .asS<|.nil ?_;refine .ret ⟨.slice ya yn yc,Res.one rfl rfl,(ok).toOwn⟩
theorem bget_nil (n:List UInt8):bget [] n=none:=rfl
theorem cap_nil {h:Heap} {e:TypeId} {a:Option Addr} {n c:Nat} {xs:List Value} (r:Cap h 3 e (.slice a n c) xs) (ha:a.isNone=true):xs=[]:=by
 obtain ⟨a',n',c',hv,h1,h2,h3⟩:=r.sl;injection hv with e1 e2 e3;subst e1 e2 e3;rcases Nat.eq_zero_or_pos n with h0 | h0
 ·exact List.eq_nil_of_length_eq_zero (by rw [h3.1,h0])
 ·obtain ⟨b,o,e,_⟩:=h3.pos h0;subst e;cases ha
theorem _root_.Go.HL.Hp.fcls0 {h0 h:Heap} {D:Nat→Prop} {M R:List Itm} {fs:Fs} {n:List UInt8} {f:RF} (hn:(fs.map (·.1)).Nodup) (hg:bget fs n=none) (ok:Hp h0 D (fboxI f::fopnI f::flsI fs::M) R h):Hp h0 D (flsI (bput fs n f)::M) R h:=Hp.fcls hn (by rw [bdel_none hg];exact ok)
theorem Cp.start {fs:Fs} (hnd:(fs.map (·.1)).Nodup):Cp fs fs []:=⟨fun _ h=>h,hnd,fun n=>by
 rw [bget_nil];by_cases h:n∈fs.map (·.1)
 ·rw [if_pos h];rfl
 ·rw [if_neg h,bget_none_iff.2 (fun p hp e=>h (List.mem_map.2 ⟨p,hp,e⟩))]⟩
theorem copy_any {h:Heap} {d:Nat} {r:RD} {E:Nat→Prop} (ok:Hp h (dskI d r).F [dskI d r] [bysI E r.fs] h) (hk:DkOk r.abs) (hcg:r.chg<1000000000) :
  HC Tryz.prog 86 #[.pointer (some ⟨d,0,none⟩)] h (fun v h'=>∃(d2:Nat) (r2:RD) (E2:Nat→Prop),v=.pointer (some ⟨d2,0,none⟩)∧r2.abs=r.abs∧Hp h (dskI d r).F [dskI d2 r2,dskI d r] [bysI E2 r2.fs,bysI E r.fs] h'∧∀j,E2 j→E j∨h.size≤j):=by
 have hnd:(r.fs.map (·.1)).Nodup:=(dsk_parts ok.m0).2.2.1;have ok:=ok.dopn;refine HC.go Tryz.func86 48 ?_;refine .seq<|.r<|.z .asP<|.nil ?_;refine .seq<|.seq<|.r<|.z .mvP<|.z (.pEqS T.pt30)<|.nil ?_;refine .cf<|.skip<|.seq<|.r<|.z .mvP<|.z .nil<|.z (.ldb T.ag105 ok.m0 T.sz105)<|.a' 3 (.alA T.zr105 ok) ?_;rintro _ η1 ⟨pb1,rfl,ok,xe⟩;refine .ur' (.stW (vs:=[.map (some r.m),.bool r.dark,.int .i64 r.left,.int .i64 r.chg]) T.sz105 ok (oneL rfl)) ?_;rintro η2 ⟨ok,cg⟩;refine .nil ?_;refine .seq<|.r<|.a' 12 (.mkm kvB ok) ?_;rintro _ η3 ⟨mb1,rfl,ok⟩;refine .z (.fa T.fd105_0)<|.ur' (.stM T.sz103 ok.n1) ?_;rintro η4 ⟨ok,cg⟩;refine .nil ?_;refine .seq<|.seq<|.r<|.z .mvP<|.z .nil<|.z (.fa T.fd105_0)<|.z (.ldx T.ag103 ok.m2)<|.a' 18 (.rng T.mp103 ok.n3) ?_;rintro _ η5 ⟨ib1,rfl,ok⟩;refine .nil ?_;refine .block fun K0 hK0=>?_;have ok:=(ok).dE (bysI none_ []) (fun _ h=>by cases h) (fun _ f=>f);have ok:=flsNil ok;refine .loop (fun m s hh=>∃(td fs2:Fs) (E2:Nat→Prop),Has s [(3,.pointer (some ⟨pb1,0,none⟩)),(18,.pointer (some ⟨ib1,0,none⟩))]∧Hp h (dskI d r).F [boxI d 105 [.map (some r.m),.bool r.dark,.int .i64 r.left,.int .i64 r.chg],itI kvB ib1 r.m (ents r.fs) (ents td),flsI r.fs,boxI pb1 105 [.map (some mb1),.bool r.dark,.int .i64 r.left,.int .i64 r.chg],mapI kvB mb1 (ents fs2),flsI fs2] [bysI E2 fs2,bysI E r.fs] hh∧Cp r.fs td fs2∧(∀j,E2 j→E j∨h.size≤j)∧m=td.length) ?_ ?_
 ·exact ⟨_,r.fs,[],none_,⟨rfl,rfl,trivial⟩,(ok.n3.n3.n5.n4.n5).k6.f1.f1,Cp.start hnd,fun _ f=>f.elim,rfl⟩
 rintro _ _ η6 ⟨td,fs2,E2,hs,ok,hcp,hE2,rfl⟩ J0 hJ0;refine .frame hs fun τ=>?_;refine .seq<|.r<|.a' 19 (.nxt ok.n1) ?_;rintro _ η7 (⟨hnil,rfl,ok⟩ | ⟨ipq1,pq1,hpq1,rfl,ok⟩)
 ·
  have htd:td=[]:=by simpa [ents] using hnil
  have ok:=ok.itm;refine .z .ex<|.nil ?_;refine .seq<|.cf<|.exit<|hK0 _ _<|.seq<|.r<|.z .asP<|.nil ?_;refine .ret ⟨.pointer (some ⟨pb1,0,none⟩),Res.one rfl rfl,⟨pb1,⟨mb1,fs2,r.dark,r.left,r.chg⟩,E2,rfl,by unfold RD.abs;congr 1;funext n;simp only;rw [hcp.eq n,htd];simp,Hp.dcls (d:=pb1) (r:=⟨mb1,fs2,r.dark,r.left,r.chg⟩) (Hp.dcls (d:=d) (r:=r) ((ok.n5.n5.n5.n5.n4.n5).k6.f1.f1)).n3.n3.n3,hE2⟩⟩
 obtain ⟨nm,f,hq,rfl⟩:=ents_some hpq1;rw [ents_erase] at ok;refine .z .ex<|.nil ?_;refine .seq<|.ct<|.skip<|.block fun K1 hK1=>.seq<|.r<|.z (.ent (ok.m0).2)<|.z .ex<|.z .ex<|.z .asT<|.z .asP<|.nil ?_;refine .seq<|?_;have hgm:(nm,f)∈r.fs:=hcp.sub _ (List.mem_of_getElem? hq);have hg:bget r.fs nm=some f:=bget_of hnd hgm;have hfo:=hk.fs nm f.abs (by simp [RD.abs,hg]);have hfn:f.nl.length≤16777216:=hfo.1.now;have hfs:f.sl.length≤16777216:=hfo.1.safe;have hfl:(f.ol.length:Int)≤r.chg:=by have h9:=hfo.2;simpa [RF.abs] using (show _≤r.chg from h9)
 have ok:=Hp.fopn hnd hg (ok.n2);have hnil:f.oa.isNone=true→f.ol.flatMap RC.cells=[]:=fun h9=>cap_nil ok.m1 h9;have ok:=ok.d1 (rdI E E (f.na,f.nl.length,f.nc) f.nl) (Bys.get ok.r1 hg).now (fun _ h=>h.elim id id);have ok:=ok.d2 (rdI E E (f.sa,f.sl.length,f.sc) f.sl) (Bys.get ok.r2 hg).safe (fun _ h=>h.elim id id);have hfnc:=ok.r1.c;have hfsc:=ok.r0.c;simp only at hfnc hfsc;refine .r<|.z .mvP<|.z .nil<|.z (.ldb T.ag127 ok.m0 T.sz127)<|.a' 6 (.alA T.zr127 ok) ?_;rintro _ η8 ⟨pb2,rfl,ok,xe⟩;refine .ur' (.stW (vs:=[.slice f.na f.nl.length f.nc,.slice f.sa f.sl.length f.sc,.bool f.here,.bool f.was,.slice f.oa f.ol.length f.oc]) T.sz127 ok (oneL rfl)) ?_;rintro η9 ⟨ok,cg⟩;refine .nil ?_;refine .seq<|.a 16 (fun fl hh=>cond fl True (Hp h (dskI d r).F [boxI pb2 127 [.slice f.na f.nl.length f.nc,.slice f.sa f.sl.length f.sc,.bool f.here,.bool f.was,.slice f.oa f.ol.length f.oc],boxI f.blk 127 [.slice f.na f.nl.length f.nc,.slice f.sa f.sl.length f.sc,.bool f.here,.bool f.was,.slice f.oa f.ol.length f.oc],capI 3 175 (f.oa,f.ol.length,f.oc) (f.ol.flatMap RC.cells),flsI (bdel r.fs nm),itcI kvB ib1 r.m (ents r.fs) (ents (td.eraseIdx ipq1)) (nm,ptrF f),boxI d 105 [.map (some r.m),.bool r.dark,.int .i64 r.left,.int .i64 r.chg],boxI pb1 105 [.map (some mb1),.bool r.dark,.int .i64 r.left,.int .i64 r.chg],mapI kvB mb1 (ents fs2),flsI fs2] [rdI E E (f.sa,f.sl.length,f.sc) f.sl,rdI E E (f.na,f.nl.length,f.nc) f.nl,bysI E2 fs2,bysI E r.fs] hh)) mixed ?_;have hS:=ok;refine .g 0 false rfl 27 hS (fun _=>.mvP)<|.g 1 false rfl 28 hS (fun _=>.nil)<|.g 2 false rfl 29 hS (fun _=>.fa T.fd127_0)<|.l 3 false rfl 30 hS (fun _ hS=>.ldx T.ag22 hS.m1)<|.g 5 false rfl 32 hS (fun _=>.mvP)<|.g 6 false rfl 33 hS (fun _=>.nil)<|.g 7 false rfl 34 hS (fun _=>.fa T.fd127_1)<|.l 8 false rfl 35 hS (fun _ hS=>.ldx T.ag22 hS.m1)<|.g 10 false rfl 37 hS (fun _=>.mvP)<|.g 11 false rfl 38 hS (fun _=>.nil)<|.g 12 false rfl 39 hS (fun _=>.fa T.fd127_4)<|.l 13 false rfl 40 hS (fun _ hS=>.ldx T.ag125 hS.m1)<|.o1 4<|.c' false rfl 31 .func (bclone_any (a:=f.na) (c:=f.nc) (l:=f.nl) ok.r1 (by omega)) ?_;rintro _ η10 own;have hfr31:=fun j hj=>Nat.le_trans ok.chg.size (own.fresh j hj);obtain ⟨ya1,yc1,rfl⟩:=own.formB;have ok:=ok.own own;refine ⟨ok.n9.n9.n9.n9.n9.n9.n9.n9.n9.k9,?_⟩;have hS:=ok.n9.n9.n9.n9.n9.n9.n9.n9.n9.k9;refine .o1 9<|.c' false rfl 36 .func (bclone_any (a:=f.sa) (c:=f.sc) (l:=f.sl) ok.r0 (by omega)) ?_;rintro _ η11 own;have hfr36:=fun j hj=>Nat.le_trans ok.chg.size (own.fresh j hj);obtain ⟨ya2,yc2,rfl⟩:=own.formB;have ok:=ok.own own;refine ⟨ok.n10.n10.n10.n10.n10.n10.n10.n10.n10.k9,?_⟩;have hS:=ok.n10.n10.n10.n10.n10.n10.n10.n10.n10.k9;refine .o1 14<|.c' false rfl 41 .func (chclone_any (a:=f.oa) (n:=f.ol.length) (c:=f.oc) (ok.m4).sl (RC.one _) (by rw [flatC_len];omega) hnil) ?_;rintro _ η12 own;obtain ⟨ya3,yn3,yc3,rfl⟩:=own.form3;have ok:=ok.own own;obtain rfl:yn3=f.ol.length:=(Sl.sz (Cap.sl ok.m0) RC.cells_len (by decide)).1.symm;refine ⟨ok.n11.n11.n11.n11.n11.n11.n11.n11.n11.k9,?_⟩;have hS:=ok.n11.n11.n11.n11.n11.n11.n11.n11.n11.k9;refine .g 15 false rfl 42 hS (fun _=>.fa T.fd127_0)<|.o1 16<|.ur' true rfl (.stS T.sz22 ok.n3) ?_;rintro η13 ⟨ok,cg⟩;refine ⟨trivial,?_⟩;refine .g 17 true rfl 43 trivial (fun _=>.fa T.fd127_1)<|.o1 18<|.ur' true rfl (.stS T.sz22 ok) ?_;rintro η14 ⟨ok,cg⟩;refine ⟨trivial,?_⟩;refine .g 19 true rfl 44 trivial (fun _=>.fa T.fd127_4)<|.o1 20<|.ur' true rfl (.stS T.sz125 ok) ?_;rintro η15 ⟨ok,cg⟩;refine ⟨trivial,?_⟩;refine .e ?_;have hn2:(fs2.map (·.1)).Nodup:=by have h9:=(ok.m10).nodup;rwa [ents_keys] at h9
 refine .r<|.z (.fa T.fd105_0)<|.z (.ldx T.ag103 ok.m9)<|.z .mvT<|.ur' (.mpu KV.ba sbB nm (v:=ptrF (⟨pb2,ya1,yc1,f.nl,ya2,yc2,f.sl,f.here,f.was,ya3,yc3,f.ol⟩:RF)) T.mp103 (stB_iff T.st9) ok.n10) ?_;rintro η16 ok;have hg2:bget fs2 nm=none:=hcp.none hq;have ok:=ok.n11.n3.n3;have ok:=Hp.fcls0 (n:=nm) (f:=(⟨pb2,ya1,yc1,f.nl,ya2,yc2,f.sl,f.here,f.was,ya3,yc3,f.ol⟩:RF)) hn2 hg2 ok;have ok:=ok.n6.n6.n6;have ok:=Hp.fcls (n:=nm) (f:=f) hnd ok;rw [bput_same hg] at ok;have ok:=(ok.n4).frzB (l:=f.nl) rfl;have ok:=(ok.n3).frzB (l:=f.sl) rfl;have ok:=ok.anyR (bysI (fun j=>((E2 j∨E j)∨blkC (sv (ya1,(f.nl).length,yc1)) j)∨blkC (sv (ya2,(f.sl).length,yc2)) j) (bput fs2 nm (⟨pb2,ya1,yc1,f.nl,ya2,yc2,f.sl,f.here,f.was,ya3,yc3,f.ol⟩:RF))) (Bys.put (Bys.mono (fun _ h=>.inl (.inl (.inl h))) ok.r4) ⟨RdL.mono (fun _ h=>.inl (.inr h)) (fun _ f=>f.elim) ok.r1,RdL.mono (fun _ h=>.inr h) (fun _ f=>f.elim) ok.r0,fun x hx=>RdL.mono (fun _ h=>.inl (.inl (.inr h))) (fun _ h=>.inl (.inl (.inr h))) ((Bys.get ok.r5 hg).opn x hx)⟩) (fun j hj=>by rcases hj with ((h9 | h9) | h9) | h9;exact ⟨bysI E2 fs2,by simp,h9⟩;exact ⟨bysI E r.fs,by simp,h9⟩;exact ⟨rdI (blkC (sv (ya1,(f.nl).length,yc1))) none_ (ya1,(f.nl).length,yc1) f.nl,by simp,.inl h9⟩;exact ⟨rdI (blkC (sv (ya2,(f.sl).length,yc2))) none_ (ya2,(f.sl).length,yc2) f.sl,by simp,.inl h9⟩);have hE3:∀j,(fun j=>((E2 j∨E j)∨blkC (sv (ya1,(f.nl).length,yc1)) j)∨blkC (sv (ya2,(f.sl).length,yc2)) j) j→E j∨h.size≤j:=fun j hj=>by rcases hj with ((h9 | h9) | h9) | h9;exact hE2 j h9;exact .inl h9;exact .inr (hfr31 j h9);exact .inr (hfr36 j h9)
 rw [ents_put] at ok;have ok:=(ok.n3).itc;refine .nil ?_;refine .end<|hK1 _ _<|.end<|hJ0 _ _ _ ⟨td.eraseIdx ipq1,bput fs2 nm (⟨pb2,ya1,yc1,f.nl,ya2,yc2,f.sl,f.here,f.was,ya3,yc3,f.ol⟩:RF),(fun j=>((E2 j∨E j)∨blkC (sv (ya1,(f.nl).length,yc1)) j)∨blkC (sv (ya2,(f.sl).length,yc2)) j),⟨rfl,rfl,trivial⟩,(ok.n2.n3.n5.n4.n4.n5).k6.f6.f1.e2,hcp.step hnd hq rfl,hE3,rfl⟩ (by rw [List.length_eraseIdx_of_lt (List.getElem?_eq_some_iff.1 hq).1];have:=(List.getElem?_eq_some_iff.1 hq).1;omega)
end Go.Proofs.YtpeaicddbnghfaaGreat
namespace Go.HL
open Go Go.Proofs.YtpeaicddbnghfaaGreat
theorem Hp.sprout {h0 h h':Heap} {D G:Nat→Prop} {M M' R R':List Itm} {a:Itm} (ok:Hp h0 D (a::M) R h) (q:Hp h G M' R' h') (hGa:∀j,G j→a.F j) (hr:∀i∈R',∀j,i.F j→a.F j∨(∃x∈R,x.F j)∨h.size≤j):Hp h0 D (M'++M) (R'++R) h':=by
 have ha:=ok.m a (by simp);have hG:∀j,G j→D j∨h0.size≤j:=fun j g=>(ha.2 j (hGa j g)).2;have mm:=List.pairwise_cons.1 ok.mm;have hM:∀m∈M,∀j,m.F j→¬G j:=fun m hm j hj g=>mm.1 m hm j (hGa j g) hj;have hR:∀x∈R,∀j,x.F j→¬G j:=fun x hx j hj g=>ok.mr a (by simp) x hx j (hGa j g) hj;refine ⟨ok.chg.trans' q.chg (fun j hj g=>?_),fun i hi=>?_,fun i hi=>?_,List.pairwise_append.2 ⟨q.mm,mm.2,fun x hx y hy j hj hj2=>?_⟩,fun x hx y hy j hj hj2=>?_⟩
 ·rcases hG j g with h1 | h1
  ·exact h1
  ·omega
 ·rcases List.mem_append.1 hi with hi | hi
  ·have h1:=q.m i hi;refine ⟨h1.1,fun j hj=>⟨(h1.2 j hj).1,?_⟩⟩;rcases (h1.2 j hj).2 with g | g
   ·exact hG j g
   ·exact .inr (Nat.le_trans ok.chg.size g)
  ·have h1:=ok.m i (by simp [hi]);exact ⟨i.st _ _ _ q.chg (fun j hj=>hM i hi j hj) h1.1,fun j hj=>⟨Nat.lt_of_lt_of_le (h1.2 j hj).1 q.chg.size,(h1.2 j hj).2⟩⟩
 ·rcases List.mem_append.1 hi with hi | hi
  ·exact q.r i hi
  ·have h1:=ok.r i hi;exact ⟨i.st _ _ _ q.chg (fun j hj=>hR i hi j hj) h1.1,fun j hj=>Nat.lt_of_lt_of_le (h1.2 j hj) q.chg.size⟩
 ·have h1:=ok.m y (by simp [hy]);rcases ((q.m x hx).2 j hj).2 with g | g
  ·exact hM y hy j hj2 g
  ·have:=(h1.2 j hj2).1;omega
 ·rcases List.mem_append.1 hx with hx | hx
  ·rcases List.mem_append.1 hy with hy | hy
   ·exact q.mr x hx y hy j hj hj2
   ·rcases ((q.m x hx).2 j hj).2 with g | g
    ·exact hR y hy j hj2 g
    ·have:=(ok.r y hy).2 j hj2;omega
  ·rcases List.mem_append.1 hy with hy | hy
   ·have h1:=ok.m x (by simp [hx]);rcases hr y hy j hj2 with g | ⟨z,hz,g⟩ | g
    ·exact mm.1 x hx j g hj
    ·exact ok.mr x (by simp [hx]) z hz j hj g
    ·have:=(h1.2 j hj).1;omega
   ·exact ok.mr x (by simp [hx]) y hy j hj hj2
theorem Hp.bgraw {h0 h:Heap} {D F:Nat→Prop} {M R:List Itm} {p d:Nat} {A:Bk} (ok:Hp h0 D (bgI p d F A::M) R h):∃r E Fc,r.abs A.room A.L=A∧r.d=d∧Hp h0 D (bboxI p r::kepI r.km r.kept::dskI r.d r.rd::cacL r.c Fc A.room A.L::M) (bysI E r.rd.fs::R) h:=by
 obtain ⟨r,E,Fc,ha,_,hd,o,hf,he⟩:=bg_open ok.loc0;have o2:=ok.sprout o hf (fun i hi j hj=>by rw [List.mem_singleton.1 hi] at hj;exact .inl (he j hj));refine ⟨r,E,Fc,ha,hd,?_⟩;have o3:Hp h0 D (corI p r::cacL r.c Fc A.room A.L::M) (bysI E r.rd.fs::R) h:=o2;exact Hp.unstar (l:=[bboxI p r,kepI r.km r.kept,dskI r.d r.rd]) o3
end Go.HL
namespace Go.Proofs.YtpeaicddbnghfaaGreat
open Go Go.HL
section
variable {h h0:Heap} {d:Nat} {z room:Int} {r:RD} {E D:Nat→Prop} {M R:List Itm}
theorem openR_ok (ok:Hp h0 D (dskI d r::M) (bysI E r.fs::R) h) (hk:DkOk r.abs) (hcg:r.chg<300000000) (hz : -9223372036854775808≤z∧z≤9223372036854775807) (h1:(openB r.abs z room).2.2=0) :
  HC Tryz.prog 26 #[.pointer (some ⟨d,0,none⟩),.int .i64 z,.int .i64 room] h (fun v h'=>∃p rk E' Fc,v=.tuple #[.pointer (some ⟨p,0,none⟩),.int .i64 0]∧rk.abs room []=openedB (openB r.abs z room).1 z.toNat room (openB r.abs z room).2.1∧rk.in_=false∧Hp h0 D (corI p rk::cacL rk.c Fc room []::M) (bysI E' rk.rd.fs::bysI E r.fs::R) h'):=by
 refine (bopen_any ok.loc1 hk hcg hz).mono fun v h' q=>?_;rcases q with ⟨r',E',e1,_⟩ | ⟨p,rk,E',Fc,e1,hv,ha,hdi,hp,hn⟩
 ·exact absurd h1 e1
 ·refine ⟨p,rk,E',Fc,hv,ha,hdi.2,?_⟩;exact ok.sprout hp (fun _ h=>h) fun i hi j hj=>by
   rw [List.mem_singleton.1 hi] at hj;exact .inr ((hn j hj).imp (fun g=>⟨bysI E r.fs,by simp,g⟩) id)
theorem openR_no (ok:Hp h0 D (dskI d r::M) (bysI E r.fs::R) h) (hk:DkOk r.abs) (hcg:r.chg<300000000) (hz : -9223372036854775808≤z∧z≤9223372036854775807) {c:Nat} (h1:(openB r.abs z room).2.2=c) (h2:c≠0) :
  HC Tryz.prog 26 #[.pointer (some ⟨d,0,none⟩),.int .i64 z,.int .i64 room] h (fun v h'=>v=.tuple #[.pointer none,.int .i64 (c:Int)]∧Hp h0 D M R h'):=by
 refine (bopen_any ok.loc1 hk hcg hz).mono fun v h' q=>?_;rcases q with ⟨r',E',_,hv,_,up⟩ | ⟨p,rk,E',Fc,e1,_⟩
 ·rw [h1] at hv;refine ⟨hv,?_⟩;have o:=ok.sprout up.hp (fun _ h=>h) fun i hi j hj=>by
   rw [List.mem_singleton.1 hi] at hj;exact .inr ((up.new j hj).imp (fun g=>⟨bysI E r.fs,by simp,g⟩) id)
  have o2:Hp h0 D M (bysI E' r'.fs::bysI E r.fs::R) h':=⟨o.chg,fun i hi=>o.m i (List.mem_cons_of_mem _ hi),o.r,(List.pairwise_cons.1 o.mm).2,fun a ha b hb=>o.mr a (List.mem_cons_of_mem _ ha) b hb⟩;exact o2.tR.tR
 ·exact absurd (h1.symm.trans e1) h2
end
structure RL (A:Bk) (w:WPg):Prop where
 R:RelB A w
 l:A.dk.left<0
section
variable {A:Bk} {w w':WPg} {c:Nat} (R:RL A w)
include R
theorem RL.pl:BPl A:=⟨R.R.R.fo.dk,fun _=>⟨_,_,R.R.R⟩⟩
theorem RL.begin (e:beginP w=(w',c)):(beginB A).2=c∧RL (beginB A).1 w':=by have h:=R.R.begin';rw [e] at h;exact ⟨h.1,h.2,by rw [(BPl.begin R.pl).2];exact R.l⟩
theorem RL.resize {n:Int} (e:resizeQ w n=(w',c)):(resizeB A n).2=c∧RL (resizeB A n).1 w':=by have h:=R.R.resize (n:=n);rw [e] at h;exact ⟨h.1,h.2,by rw [(BPl.resize R.pl).2];exact R.l⟩
theorem RL.write {no:Int} {b:List UInt8} (e:writeP w no b=(w',c)):(writeB A no b).2=c∧RL (writeB A no b).1 w':=by
 rcases R.R.write (no:=no) (b:=b) with ⟨h1,h2,h3⟩ | ⟨_,h⟩
 ·rw [e] at h1 h2;exact ⟨h1,h2,h3 R.l⟩
 ·have:=h.left;have:=R.l;omega
theorem RL.commit (e:commitQ w=(w',c)):(commitB A).2=c∧RL (commitB A).1 w':=by
 rcases R.R.commit with ⟨h1,h2,h3⟩ | ⟨_,_,h⟩
 ·rw [e] at h1 h2;exact ⟨h1,h2,h3 R.l⟩
 ·have:=h.left;have:=R.l;omega
theorem RL.rollback (e:rollbackP w=(w',c)):(rollbackB A).2=c∧RL (rollbackB A).1 w':=by
 rcases R.R.rollback with ⟨h1,h2,h3⟩ | ⟨_,h⟩
 ·rw [e] at h1 h2;exact ⟨h1,h2,h3 R.l⟩
 ·have:=h.left;have:=R.l;omega
theorem RL.read {no:Int} {b:List UInt8} (e:readP w no=(b,c)):(readB A no).2=(b,c)∧RL (readB A no).1 w:=by
 rcases R.R.read (no:=no) with ⟨h1,h2,h3⟩ | ⟨_,h⟩
 ·rw [e] at h1;exact ⟨h1,h2,h3 R.l⟩
 ·have:=h.left;have:=R.l;omega
theorem RL.clean (h:w.in_=false):CleanB w.sure A.dk:=by
 obtain ⟨cur,k,_⟩:=R.R.R.kp;exact k.clean (R.R.R.out (R.R.in_.trans h)).2
end
theorem look_other {d:Dk} {z:Nat} {s:List (List UInt8)} (p:PgOk z s) (h0:s≠[]) (hm:s.length≤mostB z) (c:CleanB s d) {y:Nat} (hy:z≠y):lookB d y=(0,1):=by
 obtain ⟨T,S,hT⟩:=c;have stT:FSt (d.fs nT) T [] T:=by rw [S.T];exact .syn T
 have hsz:=size_st S.hd stT;have hfl:=flat_lenZ p.len;have hzb:=okSz_b p.sz;rw [hT] at hsz;unfold lookB;have hp:0<s.length:=List.length_pos_iff.2 h0;have hlz:z≤s.flatten.length:=by rw [hfl];exact Nat.le_mul_of_pos_left _ hp
 obtain ⟨b,hb⟩:∃b,T=some b:=by cases T;(rw [←hT] at hlz;simp at hlz;omega);exact ⟨_,rfl⟩
 subst hb;simp only [Option.getD_some] at hT;have hr:=read_st (p:=0) (z:=64) S.hd nT_ok stT;rw [List.drop_zero,hT,show ((0:Nat):Int)=0 from rfl,show ((64:Nat):Int)=64 from rfl] at hr;have e:s.getD 0 []=s[0]:=by simp [hp]
 have hpg:s.flatten.take 64=(s.getD 0 []).take 64:=by
  have h1:=flat_drop p.len (i:=0) hp;rw [Nat.zero_mul,List.drop_zero] at h1;rw [e,←h1,List.take_take];congr 1;omega
 have hdc:decN (s.flatten.take 64)=decN (s.getD 0 []):=by
  rw [hpg];refine decN_take ?_;rw [e,p.len _ (List.getElem_mem hp)];omega
 have hh:=p.hd h0;unfold hdOk at hh;simp only [decide_eq_true_eq] at hh;have e1:(sizeN d nT).1=s.length*z:=by rw [hsz];exact hfl
 rw [if_neg (by rw [hsz];simp only;rintro (h | h);exact absurd h (by simp);omega),if_neg (by rw [hr];simp),if_neg (by rw [hr];simp only;rw [hdc,hh.2,e1];rintro (h | h);exact h hh.1;exact h (by rw [Int.natCast_mul];exact Int.mul_emod_left _ _)),if_pos (by rw [hr];simp only;rw [hdc,hh.2];omega)]
theorem clean_heal {d:Dk} {z:Nat} {s:List (List UInt8)} (p:PgOk z s) (c:CleanB s d):Res d (healB d) (CleanB s) (GdBD z s):=by
 obtain ⟨T,S,hT⟩:=c;exact heal_own S p (.z0 rfl hT) (by simp)
theorem open_other {d:Dk} {z y:Nat} {room:Int} {s:List (List UInt8)} (p:PgOk z s) (h0:s≠[]) (hm:s.length≤mostB z) (c:CleanB s d) (hl:d.left<0) (hy:z≠y) (hk:okSz y=true) (hr:1≤room∧room≤1048576):(openB d y room).2.2=1:=by
 have h1:okZ (y:Int)=true:=by rw [okZ_nat];exact hk
 unfold openB;rw [if_neg (by rw [h1];decide),if_neg (by omega),if_neg (by rw [show d.dark=false from let ⟨_,S,_⟩:=c;S.hd];decide)];rcases clean_heal p c with ⟨e,hd2,_,c2⟩ | ⟨_,_,e,_⟩
 ·rw [if_neg (by omega),Int.toNat_natCast,look_other p h0 hm c2 hy]
 ·omega
theorem clean_opn {d:Dk} {z:Nat} {room:Int} {s:List (List UInt8)} {fr:Nat} (p:PgOk z s) (hm:s.length≤mostB z) (c:CleanB s d) (k:DkOk d) (hl:d.left<0) (hr:1≤room∧room≤1048576):(openB d z room).2.2=0∧RL (openedB (openB d z room).1 z room (openB d z room).2.1) ⟨z,s,[],false,fr⟩∧(openB d z room).1.chg≤d.chg+17000000:=by
 have hd:d.dark=false:=let ⟨_,S,_⟩:=c;S.hd;rcases opn_of hd (clean_heal p c) p hm hr with ⟨e,e2,e3⟩ | ⟨_,_,e,_⟩
 ·rw [e];exact ⟨rfl,⟨⟨rfl,rfl,rfl,fun _=>rfl,opened_rl e3 k.heal p hm hr⟩,e2 hl⟩,heal_chg k⟩
 ·omega
open Go Go.HL
theorem hdAt_hdB {N:List Nat} {x:List UInt8} {k:Nat} (hk:k<N.length) (hN:N.length=6) (hb:N[k]<4294967296):hdAt (hdB N++x) k=N[k]:=by
 have e:hdB N++x=(signL++hdF (N.take k))++(fixedN N[k] 4++(hdF (N.drop (k+1))++(List.replicate 20 0++fixedN (sumN (hdT N)) 4++x))):=by
  have h1:hdF N=hdF (N.take k)++(fixedN N[k] 4++hdF (N.drop (k+1))):=by
   have h2:N=N.take k++N[k]::N.drop (k+1):=by rw [←List.drop_eq_getElem_cons hk,List.take_append_drop]
   have h3:hdF N=hdF (N.take k++N[k]::N.drop (k+1)):=congrArg hdF h2;rw [h3];unfold hdF;rw [List.map_append,List.flatten_append,List.map_cons,List.flatten_cons]
  unfold hdB;rw [show hdT N=signL++hdF N++List.replicate 20 0 from rfl,h1];simp only [List.append_assoc]
 have hl:(signL++hdF (N.take k)).length=16+4*k:=by
  have h1:∀(M:List Nat),(hdF M).length=4*M.length:=fun M=>by
   unfold hdF;induction M with
   | nil=>rfl
   | cons a M ih=>rw [List.map_cons,List.flatten_cons,List.length_append,fixedN_len,ih,List.length_cons];omega
  rw [List.length_append,h1,List.length_take];simp;omega
 unfold hdAt;rw [e,←hl,rdN_app (fixedN_len _ _),beN_fixed (by simpa using hb)]
theorem dec_hdB {n0 n1 n2 n3 n4 n5:Nat} {x:List UInt8} (h0:n0<4294967296) (h1:n1<4294967296) (h2:n2<4294967296) (h3:n3<4294967296) (h4:n4<4294967296) (h5:n5<4294967296) (hc:ChkP ⟨(n0:Int),(n1:Int),(n2:Int),(n3:Int),(n4:Int),(n5:Int)⟩):decN (hdB [n0,n1,n2,n3,n4,n5]++x)=(⟨(n0:Int),(n1:Int),(n2:Int),(n3:Int),(n4:Int),(n5:Int)⟩,0):=by
 have a0:=hdAt_hdB (N:=[n0,n1,n2,n3,n4,n5]) (x:=x) (k:=0) (by simp) rfl h0;have a1:=hdAt_hdB (N:=[n0,n1,n2,n3,n4,n5]) (x:=x) (k:=1) (by simp) rfl h1;have a2:=hdAt_hdB (N:=[n0,n1,n2,n3,n4,n5]) (x:=x) (k:=2) (by simp) rfl h2;have a3:=hdAt_hdB (N:=[n0,n1,n2,n3,n4,n5]) (x:=x) (k:=3) (by simp) rfl h3;have a4:=hdAt_hdB (N:=[n0,n1,n2,n3,n4,n5]) (x:=x) (k:=4) (by simp) rfl h4;have a5:=hdAt_hdB (N:=[n0,n1,n2,n3,n4,n5]) (x:=x) (k:=5) (by simp) rfl h5;simp only [List.getElem_cons_zero,List.getElem_cons_succ] at a0 a1 a2 a3 a4 a5;have hl:(hdB [n0,n1,n2,n3,n4,n5]).length=64:=hdB_len6;have hd:decH (hdB [n0,n1,n2,n3,n4,n5]++x)=⟨(n0:Int),(n1:Int),(n2:Int),(n3:Int),(n4:Int),(n5:Int)⟩:=by unfold decH;rw [a0,a1,a2,a3,a4,a5]
 have hs:(hdB [n0,n1,n2,n3,n4,n5]++x).take 16=signL:=by
  unfold hdB hdT;simp only [List.append_assoc];exact List.take_left' rfl
 have hy:decY (hdB [n0,n1,n2,n3,n4,n5]++x):=by
  unfold decY;rw [hd,a0,a1,a2,a3,a4,a5];exact ⟨hc,(List.take_left' hl).symm⟩
 rw [dec0 (by rw [List.length_append];omega) hs hy,hd]
theorem hdOk_headP {z:Nat} {fb:UInt8} (hz:okSz z=true):hdOk (headP z fb) z=true:=by
 have h1:=okSz_cases hz;have h2:=fb.toNat_lt;unfold hdOk headP;rw [dec_hdB (by omega) (by omega) (by omega) (by omega) (by omega) (by omega) (chk_head hz h2)];simp
theorem hdOk_zeros {z n:Nat} : hdOk (List.replicate n 0) z=false:=by
 unfold hdOk;apply decide_eq_false;rintro ⟨h,_⟩;by_cases hn:(List.replicate n (0:UInt8)).length<64
 ·rw [dec6 hn] at h;cases h
 ·have h2:(List.replicate n (0:UInt8)).take 16≠signL:=by
   rw [List.length_replicate] at hn;rw [List.take_replicate,Nat.min_eq_left (by omega)];decide
  rw [dec8 hn h2] at h;cases h
end Go.Proofs.YtpeaicddbnghfaaGreat
namespace Go.HL
open Go Go.Proofs.YtpeaicddbnghfaaGreat
theorem Hp.addM {h0 h h':Heap} {D:Nat→Prop} {M R:List Itm} {a:Itm} (ok:Hp h0 D M R h) (q:Hp h none_ [a] [] h'):Hp h0 D (a::M) R h':=
 ok.newM q.chg a q.m0 fun j hj=>by
  have h1:=(q.m a List.mem_cons_self).2 j hj;exact ⟨h1.2.elim (fun f=>f.elim) id,h1.1⟩
end Go.HL
namespace Go.Proofs.YtpeaicddbnghfaaGreat
open Go Go.HL
def lvH:List UInt8:=headP 256 7
def lvG:List UInt8:=headP 256 5
def lvZ:List UInt8:=List.replicate 256 0
theorem lvH_len:lvH.length=256:=headP_len rfl
theorem lvG_len:lvG.length=256:=headP_len rfl
theorem lvG_ok:hdOk lvG 256=true:=hdOk_headP rfl
theorem lvZ_no:hdOk lvZ 256=false:=hdOk_zeros
abbrev lvw (s n:List (List UInt8)) (i:Bool):WPg:=⟨256,s,n,i,0⟩
theorem lw1:beginP (lvw [] [] false)=(lvw [] [] true,0):=rfl
theorem lw2:resizeQ (lvw [] [] true) 2=(lvw [] [lvZ,lvZ] true,0):=by
 refine (resizeQ_4 (by decide) (by decide) (by show ¬(1048576<(2:Int)∨((mostB 256:Nat):Int)<2);decide)).trans ?_;have e:growL [] 256 2=[lvZ,lvZ]:=by unfold growL lvZ;rfl
 exact congrArg (fun x=>((lvw [] x true:WPg),0)) e
attribute [irreducible] lvH lvG lvZ
theorem lw3:writeP (lvw [] [lvZ,lvZ] true) 2 lvH=(lvw [] [lvZ,lvH] true,0):=(writeP_3 (by decide) (by show ¬((2:Int)<1∨((2:Nat):Int)<2∨lvH.length≠256);rw [lvH_len];omega)).trans rfl
theorem lw4:commitQ (lvw [] [lvZ,lvH] true)=(lvw [] [lvZ,lvH] true,8):=commitQ_2 (by decide) ⟨List.cons_ne_nil _ _,lvZ_no⟩
theorem lw5:writeP (lvw [] [lvZ,lvH] true) 1 lvG=(lvw [] [lvG,lvH] true,0):=(writeP_3 (by decide) (by show ¬((1:Int)<1∨((2:Nat):Int)<1∨lvG.length≠256);rw [lvG_len];omega)).trans rfl
theorem lw6:commitQ (lvw [] [lvG,lvH] true)=(lvw [lvG,lvH] [] false,0):=(commitQ_3 (by decide) (fun h=>by have h2:hdOk lvG 256=false:=h.2;rw [lvG_ok] at h2;cases h2)).trans rfl
theorem lw7:readP (lvw [lvG,lvH] [] false) 2=(lvH,0):=(readP_2 (by show ¬((2:Int)<1∨((2:Nat):Int)<2);omega)).trans rfl
theorem lw8:rollbackP (lvw [lvG,lvH] [] false)=(lvw [lvG,lvH] [] false,10):=rollbackP_1 rfl
theorem lvPg {A:Bk} (R:RL A (lvw [lvG,lvH] [] false)):PgOk 256 [lvG,lvH]∧[lvG,lvH].length≤mostB 256:=by
 have h:=R.R.R.pg;rw [R.R.z] at h;exact h
theorem live13_any {h:Heap} : HC Tryz.prog 29 #[] h (fun v h'=>v=.bool true∧Ext h h'):=by
 have ok:=Hp.nil h none_;obtain ⟨hop,hop2⟩:=openB_new (z:=256) (room:=1) rfl ⟨by omega,by omega⟩;rw [show ((256:Nat):Int)=256 from rfl] at hop;have R00:RL (openedB newN 256 1 0) (lvw [] [] false):=⟨relB_new rfl ⟨by omega,by omega⟩,(by decide:(-1:Int)<0)⟩;have hcn:newN.chg=0:=rfl;refine HC.go Tryz.func29 141 ?_;refine .seq<|.r<|.z .asB<|.nil ?_;refine .seq<|.r<|.c' 19 .func dgnew_any ?_;rintro _ η1 ⟨dnd1,Fnd1,rfl,q⟩;have ok:=Hp.addM ok q;refine .z .asP<|.nil ?_;refine .seq<|.r<|.z .mvP<|.c' 22 .func (gbopen0_any (d:=dnd1) (F:=Fnd1) (D:=newN) (z:=256) (room:=1) (Hp.loc0 (ok)) newN_ok (by omega) (by omega) (by rw [hop]) (by rw [hop];exact ⟨newN_ok,[],R00.R.R⟩)) ?_;rintro _ η2 ⟨po1,Fo1,rfl,q⟩;have ok:=Hp.lift1 (ok) q;obtain ⟨Ao1,hAo1⟩:∃x:Bk,(openedB (openB newN 256 1).1 (Int.toNat 256) 1 (openB newN 256 1).2.1:Bk)=x:=⟨_,rfl⟩;rw [hAo1] at ok;have R0:RL Ao1 (lvw [] [] false):=by rw [←hAo1,hop];exact R00
 have hc0:Ao1.dk.chg≤0:=by rw [←hAo1,hop];exact Int.le_refl 0
 refine .z .mvU<|.z .ex<|.z .ex<|.z .asP<|.z .asI<|.nil ?_;refine .seq<|.seq<|.r<|.z .mvP<|.z (.pEqS T.pt47)<|.z .mvB<|.z .mvI<|.z .neq<|.z .pkf<|.nil ?_;refine .cf<|.skip<|.seq<|.r<|.z .mvP<|.c' 32 .func (gbbegin_any (p:=po1) (d:=dnd1) (F:=Fo1) (A:=Ao1) (ok).loc0 (by omega)) ?_;rintro _ η3 ⟨Fg1,rfl,q⟩;have Pg1:=bg_pl (ok).m0;have ok:=(ok).lift1 q;obtain ⟨Ag1,hAg1⟩:∃x:Bk,(beginB Ao1).1=x:=⟨_,rfl⟩;rw [hAg1] at ok;have hcg1:Ag1.dk.chg≤Ao1.dk.chg+1200000:=by rw [←hAg1];exact (by rw [Pg1.begin.2];omega)
 obtain ⟨hk1,R1⟩:=R0.begin lw1;rw [hAg1] at R1;refine .z .mvP<|.c' 34 .func (gbresize_any (p:=po1) (d:=dnd1) (F:=Fg1) (A:=Ag1) (n:=2) (ok).loc0 (by omega) (by omega)) ?_;rintro _ η4 ⟨Fg2,rfl,q⟩;have Pg2:=bg_pl (ok).m0;have ok:=(ok).lift1 q;obtain ⟨Ag2,hAg2⟩:∃x:Bk,(resizeB Ag1 2).1=x:=⟨_,rfl⟩;rw [hAg2] at ok;have hcg2:Ag2.dk.chg≤Ag1.dk.chg+1200000:=by rw [←hAg2];exact (by rw [Pg2.resize.2];omega)
 obtain ⟨hk2,R2⟩:=R1.resize lw2;rw [hAg2] at R2;refine .z .mvP<|.c' 36 .func (head13_any (z:=256) (fb:=7) rfl) ?_;rintro _ η5 own;obtain ⟨ya1,yc1,rfl⟩:=own.formB;have ok:=ok.own own;have hlvH:headP 256 7=lvH:=by unfold lvH;rfl
 rw [hlvH] at ok⊢;refine .c' 37 .func (gbwrite_any (p:=po1) (d:=dnd1) (F:=Fg2) (A:=Ag2) (no:=2) (a:=ya1) (c:=yc1) (l:=lvH) (ok.n1).locC (by omega)) ?_;rintro _ η6 ⟨Fg3,rfl,q⟩;have Pg3:=bg_pl (ok.n1).m0;have ok:=(ok.n1).lift1 q;obtain ⟨Ag3,hAg3⟩:∃x:Bk,(writeB Ag2 2 lvH).1=x:=⟨_,rfl⟩;rw [hAg3] at ok;have hcg3:Ag3.dk.chg≤Ag2.dk.chg+1200000:=by rw [←hAg3];exact (Int.le_trans Pg3.write.2 (by omega))
 obtain ⟨hk3,R3⟩:=R2.write lw3;rw [hAg3] at R3;refine .z .mvP<|.c' 39 .func (gbcommit_any (p:=po1) (d:=dnd1) (F:=Fg3) (A:=Ag3) (ok).loc0 (by omega)) ?_;rintro _ η7 ⟨Fg4,rfl,q⟩;have Pg4:=bg_pl (ok).m0;have ok:=(ok).lift1 q;obtain ⟨Ag4,hAg4⟩:∃x:Bk,(commitB Ag3).1=x:=⟨_,rfl⟩;rw [hAg4] at ok;have hcg4:Ag4.dk.chg≤Ag3.dk.chg+1200000:=by rw [←hAg4];exact (by have:=Pg4.commit.2;omega)
 obtain ⟨hk4,R4⟩:=R3.commit lw4;rw [hAg4] at R4;refine .z .asI<|.z .asI<|.z .asI<|.z .asI<|.nil ?_;refine .seq<|.r<|.z .mvP<|.c' 41 .func (head13_any (z:=256) (fb:=5) rfl) ?_;rintro _ η8 own;obtain ⟨ya2,yc2,rfl⟩:=own.formB;have ok:=ok.own own;have hlvG:headP 256 5=lvG:=by unfold lvG;rfl
 rw [hlvG] at ok⊢;refine .c' 42 .func (gbwrite_any (p:=po1) (d:=dnd1) (F:=Fg4) (A:=Ag4) (no:=1) (a:=ya2) (c:=yc2) (l:=lvG) (ok.n1).locC (by omega)) ?_;rintro _ η9 ⟨Fg5,rfl,q⟩;have Pg5:=bg_pl (ok.n1).m0;have ok:=(ok.n1).lift1 q;obtain ⟨Ag5,hAg5⟩:∃x:Bk,(writeB Ag4 1 lvG).1=x:=⟨_,rfl⟩;rw [hAg5] at ok;have hcg5:Ag5.dk.chg≤Ag4.dk.chg+1200000:=by rw [←hAg5];exact (Int.le_trans Pg5.write.2 (by omega))
 obtain ⟨hk5,R5⟩:=R4.write lw5;rw [hAg5] at R5;refine .z .asI<|.nil ?_;refine .seq<|.r<|.z .mvP<|.c' 44 .func (gbcommit_any (p:=po1) (d:=dnd1) (F:=Fg5) (A:=Ag5) (ok).loc0 (by omega)) ?_;rintro _ η10 ⟨Fg6,rfl,q⟩;have Pg6:=bg_pl (ok).m0;have ok:=(ok).lift1 q;obtain ⟨Ag6,hAg6⟩:∃x:Bk,(commitB Ag5).1=x:=⟨_,rfl⟩;rw [hAg6] at ok;have hcg6:Ag6.dk.chg≤Ag5.dk.chg+1200000:=by rw [←hAg6];exact (by have:=Pg6.commit.2;omega)
 obtain ⟨hk6,R6⟩:=R5.commit lw6;rw [hAg6] at R6;have P6:=R6.pl;have C6:=R6.clean rfl;obtain ⟨pg6,hm6⟩:=lvPg R6;obtain ⟨rp,Ep,Fcp,hap,hdp,ok⟩:=Hp.bgraw (ok);have hdk:rp.rd.abs=Ag6.dk:=congrArg Bk.dk hap;have hcd:rp.rd.chg=Ag6.dk.chg:=congrArg Dk.chg hdk;have hbr:rp.broken=false:=(congrArg Bk.broken hap).trans R6.R.br;have hrin:rp.in_=false:=(congrArg Bk.in_ hap).trans R6.R.in_;have hrsz:rp.size=256:=(congrArg Bk.size hap).trans R6.R.z;have hkD:DkOk rp.rd.abs:=by rw [hdk];exact P6.ok
 have hclD:CleanB [lvG,lvH] rp.rd.abs:=by rw [hdk];exact C6
 have hlfD:rp.rd.abs.left<0:=by rw [hdk];exact R6.l
 have hcgD:rp.rd.abs.chg=rp.rd.chg:=rfl;rw [hdp] at ok;refine .z .asI<|.nil ?_;refine .seq<|.r<|.z .mvP<|.c' 47 .func (copy_any (d:=dnd1) (r:=rp.rd) (E:=Ep) (ok.n2).loc1 hkD (by omega)) ?_;rintro _ η11 ⟨dcp1,rcp1,Ecp1,rfl,hacp1,q,hBcp1⟩;have ok:=(ok.n2).copy q hBcp1;have hkcp1:DkOk rcp1.abs:=by rw [hacp1];exact hkD
 have hclcp1:CleanB [lvG,lvH] rcp1.abs:=by rw [hacp1];exact hclD
 have hlfcp1:rcp1.abs.left<0:=by rw [hacp1];exact hlfD
 have hcgcp1:rcp1.chg=rp.rd.chg:=congrArg Dk.chg hacp1;refine .c' 48 .func (openR_ok (d:=dcp1) (r:=rcp1) (E:=Ecp1) (ok) hkcp1 (by omega) ⟨by omega,by omega⟩ (clean_opn (z:=256) (room:=3) (fr:=0) pg6 hm6 hclcp1 hkcp1 hlfcp1 ⟨by omega,by omega⟩).1) ?_;rintro _ η12 ⟨pq,rq,Eq,Fcq,rfl,haq,hinq,ok⟩;have RQ:=(clean_opn (z:=256) (room:=3) (fr:=0) pg6 hm6 hclcp1 hkcp1 hlfcp1 ⟨by omega,by omega⟩).2;have RQ1:RL (rq.abs 3 []) (lvw [lvG,lvH] [] false):=by rw [haq];exact RQ.1
 have RQ2:rq.rd.abs.chg≤rcp1.abs.chg+17000000:=by rw [show rq.rd.abs=(openB rcp1.abs 256 3).1 from congrArg Bk.dk haq];exact RQ.2
 have hcq1:rcp1.abs.chg=rcp1.chg:=rfl;have hcq2:rq.rd.abs.chg=rq.rd.chg:=rfl;refine .z .mvU<|.z .ex<|.z .ex<|.z .asP<|.z .asI<|.nil ?_;refine .seq<|.seq<|.r<|.z .mvP<|.z (.pEqS T.pt47)<|.nil ?_;refine .cf<|.skip<|.seq<|.r<|.z .mvP<|.c' 55 .func (bread_any (p:=pq) (r:=rq) (Fc:=Fcq) (room:=3) (L:=[]) (E:=Eq) (no:=2) (Hp.pair (ok).e1) RQ1.pl.ok (by omega) (fun h9=>by rw [hinq] at h9;cases h9) RQ1.pl.O) ?_;rintro _ η13 ⟨rr,Er,Fr,ax,cx,rfl,har,hkmr,⟨hdr,hcr⟩,q,hEr⟩;obtain ⟨hkr,RR⟩:=RQ1.read lw7;have ok:=Hp.unpair (ok) q (fun i hi j hj=>by rw [List.mem_singleton.1 hi] at hj;exact (hEr j hj).imp (fun g=>⟨_,List.mem_cons_self,g⟩) id);have ok:Hp h none_ (capI 1 5 (ax,(readB (rq.abs 3 []) 2).2.1.length,cx) ((readB (rq.abs 3 []) 2).2.1.map bv)::corI pq rr::cacL rq.c Fr 3 (readB (rq.abs 3 []) 2).1.L::_) (bysI Er rr.rd.fs::_) _:=ok;rw [←hcr] at ok;rw [hkr] at ok⊢;dsimp only at ok⊢;rw [←har] at RR;refine .z .mvU<|.z .ex<|.z .ex<|.z .asS<|.z .asI<|.nil ?_;refine .seq<|?_;have hcr2:rr.rd.chg≤rq.rd.chg+10:=by have h1:=(RQ1.pl.read (no:=2)).2;rw [←har] at h1;exact h1
 have hpr:(if rr.broken=true then 0 else presK rr)=2:=RR.R.pages;refine .r<|.z .mvP<|.c' 60 .func (copy_any (d:=dnd1) (r:=rp.rd) (E:=Ep) (ok.n3.f3).loc1 hkD (by omega)) ?_;rintro _ η14 ⟨dcp2,rcp2,Ecp2,rfl,hacp2,q,hBcp2⟩;have ok:=(ok.n3.f3).copy q hBcp2;have hkcp2:DkOk rcp2.abs:=by rw [hacp2];exact hkD
 have hclcp2:CleanB [lvG,lvH] rcp2.abs:=by rw [hacp2];exact hclD
 have hlfcp2:rcp2.abs.left<0:=by rw [hacp2];exact hlfD
 have hcgcp2:rcp2.chg=rp.rd.chg:=congrArg Dk.chg hacp2;refine .c' 61 .func (openR_no (d:=dcp2) (r:=rcp2) (E:=Ecp2) (c:=1) (ok) hkcp2 (by omega) ⟨by omega,by omega⟩ (open_other (z:=256) (y:=512) (room:=3) pg6 (by simp) hm6 hclcp2 hlfcp2 (by decide) rfl ⟨by omega,by omega⟩) (by decide)) ?_;rintro _ η15 ⟨rfl,ok⟩;refine .z .mvU<|.z .ex<|.z .ex<|.z .asP<|.z .asI<|.nil ?_;refine .seq<|.r<|.k 65 .func (bopenNil_any (z:=256) (room:=1))<|.z .mvU<|.z .ex<|.z .ex<|.z .asP<|.z .asI<|.nil ?_;refine .seq<|.r<|.z .asP<|.nil ?_;refine .seq<|.r<|.z .mvI<|.z .eql<|.z .mvB<|.sd (fun G70=>?_) (fun G70=>?_)
 ·
  refine .z .mvI<|.z .eql<|.z .pkt<|.z .mvB<|.sd (fun G74=>?_) (fun G74=>?_)
  ·
   refine .z .mvI<|.z .eql<|.z .pkt<|.z .mvB<|.sd (fun G78=>?_) (fun G78=>?_)
   ·
    refine .z .mvI<|.z .eql<|.z .pkt<|.z .mvB<|.sd (fun G82=>?_) (fun G82=>?_)
    ·
     refine .z .mvI<|.z .eql<|.z .pkt<|.z .mvB<|.sd (fun G86=>?_) (fun G86=>?_)
     ·
      refine .z .mvI<|.z .eql<|.z .pkt<|.z .mvB<|.sd (fun G90=>?_) (fun G90=>?_)
      ·
       refine .z .mvI<|.z .eql<|.z .pkt<|.z .mvB<|.z .mvP<|.k 96 .func (bPages_any (p:=pq) (r:=rr) (((ok.n2).m0).1 (bboxI pq rr) (by simp)))<|.z .eql<|.z .pkt<|.z .mvB<|.sd (fun G99=>?_) (fun G99=>?_)
       ·
        refine .z .mvS<|.c' 101 .func (head13_any (z:=256) (fb:=7) rfl) ?_;rintro _ η16 own;obtain ⟨ya3,yc3,rfl⟩:=own.formB;have ok:=ok.own own;have hlvH:headP 256 7=lvH:=by unfold lvH;rfl
        rw [hlvH] at ok⊢;refine .k 102 .func (same_any (a:=ax) (c:=cx) (l:=lvH) (b:=ya3) (d:=yc3) (l2:=lvH) (RdL.ofCapB (v:=(ax,lvH.length,cx)) (l:=lvH) ok.m2) (RdL.ofCapB (v:=(ya3,lvH.length,yc3)) (l:=lvH) ok.m0))<|.z .pkt<|.z .mvB<|.sd (fun G104=>?_) (fun G104=>?_)
        ·
         refine .z .mvI<|.z .eql<|.z .pkt<|.z .mvB<|.z .mvI<|.z .eql<|.z .pkt<|.z .mvB<|.z .mvI<|.z .eql<|.z .pkt<|.z .mvB<|.z .mvP<|.k 118 .func (bin_any (p:=po1) (r:=rp) (ok.n5).m0)<|.z .not<|.z .pkt<|.z .mvB<|.spl (fun G121=>?_) (fun G121=>?_)
         ·
          refine .z .mvP<|.k 123 .func (bsize_any (p:=po1) (r:=rp) (ok.n5).m0)<|.z .eql<|.z .pkt<|.z .mvB<|.sd (fun G126=>?_) (fun G126=>?_)
          ·
           refine .z .mvP<|.k 128 .func bbeginNil_any<|.z .eql<|.z .pkt<|.z .mvB<|.z .mvP<|.k 133 .func bPagesNil_any<|.z .eql<|.z .pkt<|.z .mvB<|.z .mvP<|.c' 138 .func (brollback_any (p:=pq) (r:=rr) (Fc:=Fr) (room:=3) (L:=(readB (rq.abs 3 []) 2).1.L) (E:=Er) (Hp.pair (ok.n4.n4.f1).e1) RR.pl.ok (by omega) hkmr RR.pl.O) ?_;rintro _ η17 ⟨rz,Ez,Fz,rfl,haz,hkmz,_,up⟩;have ok:=Hp.unpair (ok.n4.n4.f1) up.hp (fun i hi j hj=>by rw [List.mem_singleton.1 hi] at hj;exact (up.new j hj).imp (fun g=>⟨_,List.mem_cons_self,g⟩) id);rw [show (rollbackB (rr.abs 3 (readB (rq.abs 3 []) 2).1.L)).2=10 from (RR.rollback lw8).1];refine .z .eql<|.z .pkt<|.z .asB<|.nil ?_;refine .ret ⟨.bool true,Res.one rfl rfl,⟨rfl,ok.chg⟩⟩
          exact absurd (by rw [if_neg (by rw [hbr];decide),hrsz];rfl) G126
         rw [hbr,hrin] at G121;cases G121
        exact absurd rfl G104
       exact absurd (by rw [hpr];rfl) G99
      exact absurd (by rw [hk6];rfl) G90
     exact absurd (by rw [hk5];rfl) G86
    exact absurd (by rw [hk4];rfl) G82
   exact absurd (by rw [hk3];rfl) G78
  exact absurd (by rw [hk2];rfl) G74
 exact absurd (by rw [hk1];rfl) G70
end Go.Proofs.YtpeaicddbnghfaaGreat
namespace Go.HL
open Go Go.RowKit Go.ChangeShapes Go.WideShapes Go.ChangeAt
theorem Below.of {w w':World} {h':Heap} (a:At (Env.of w) h' w') (x:Ext w.heap h'):Below w.heap.size w w':=
 ⟨a.os,a.tape,a.output,by rw [a.heap];exact x.size,fun k hk=>by rw [a.heap];exact x.same k hk fun f=>f⟩
theorem trodAll_below {H:Type} {enc:TypeId × Value→H} {P:Program} (hl:laidOutB P=true) {W W':World} (hb:Below W.heap.size W W'):∀ {ts:List TypeId} {vs:List Value} {ds:List (DataW H)} {ps:List MemPlace},
  (ts.all fun t=>P.readableRec t && decide (t<P.types.size))=true→(∀x∈ps,x.block<W.heap.size)→DataW.TrodAll enc P W 0 (fun _=>true) true ts vs ds ps→DataW.TrodAll enc P W' 0 (fun b=>decide (b<W.heap.size)) true ts vs ds ps
 | [],[],[],_,_,_,h=>h
 | t::ts,v::vs,d::ds,ps,ht,hp,h=>by
  obtain ⟨p,q,h1,h2,rfl⟩:=h;simp only [List.all_cons,Bool.and_eq_true,decide_eq_true_eq] at ht;exact ⟨p,q,RowKit.Below.trod hl ht.1.1 ht.1.2 h1 hb (fun x hx=>hp x (List.mem_append_left _ hx)),trodAll_below hl hb (by simpa using ht.2) (fun x hx=>hp x (List.mem_append_right _ hx)) h2,rfl⟩
 | [],[],_::_,_,_,_,h=>h.elim
 | [],_::_,_,_,_,_,h=>h.elim
 | _::_,[],_,_,_,_,h=>h.elim
 | _::_,_::_,[],_,_,_,h=>h.elim
theorem law_post {H:Type} {enc:TypeId × Value→H} {P:Program} {f:Func} {s:ChangeSpec} {fresh handsOn:Bool} {W W':World} {args:Array Value} {ds gs:List (DataW H)} {before:List MemPlace} {tb:TypeId}
  (hl:laidOutB P=true) (hW:DataW.Whole enc P f.params.toList s.vars false W args.toList ds gs before) (hv:s.vars=[]) (ht:(f.params.toList.all fun t=>P.readableRec t && decide (t<P.types.size))=true)
  (hr:f.resultTypes = #[tb]) (hb:P.underlying tb=some .bool) (hs:s.fn H ds = { results:=[.lit (.bool true)],args:=ds }) {h':Heap} (a:At (Env.of W) h' W') (x:Ext W.heap h') :
  s.post enc P f false fresh handsOn false W args (.bool true) W':=by
 have bel:=Below.of a x;have hlt:=hW.lt;obtain ⟨p,q,hA,hV,rfl,hfz,hnd⟩:=hW;rw [hv] at hV;cases gs with
 | cons g gs=>exact hV.elim
 | nil=>
  have hq:q=[]:=hV;subst hq;rw [List.append_nil] at *;refine ⟨ds,[],p,[],p,[],⟨p,[],hA,by rw [hv];rfl,by simp,hfz,hnd⟩,?_,?_,?_,bel.frame _,fun h=>by cases h⟩
  ·rw [List.append_nil,hs,hr];exact trodAll_mk1 (shut_bool hb _)
  ·rw [List.append_nil,hs];exact trodAll_below hl bel ht (fun x hx=>hlt x (by simpa using hx)) hA
  ·rw [List.append_nil,hs,hv];rfl
theorem addr_add (b o j:Nat):(⟨b,o,none⟩:Addr).add j=⟨b,o+j,none⟩:=by unfold Addr.add;split<;>simp_all
theorem byte_val {z:Int} (w:(Lit.int .u8 z).wf=true):∃x:UInt8,z=(x.toNat:Int):=by
 have hr:0≤z∧z≤255:=by simpa [Lit.wf,IntKind.min,IntKind.max,IntKind.signed,IntKind.bits] using w
 refine ⟨UInt8.ofNat z.toNat,?_⟩;simp;omega
structure Opn (P:Program) (t:TypeId) {α:Type} (R:Heap→List Value→α→Prop):Prop where
 run:∀ {H:Type} {enc:TypeId × Value→H} {w:World} {sp:Nat→Bool} {held:Bool} {fuel:Nat} {cs:List Value} {x:DataW H × List MemPlace},DataW.trod enc P w 0 sp held fuel t cs=some x→∃a,R w.heap cs a
section
variable {P:Program} {t e:TypeId}
theorem Opn.mono {α β:Type} {R:Heap→List Value→α→Prop} {R':Heap→List Value→β→Prop} (o:Opn P t R) (h:∀hp cs a,R hp cs a→∃b,R' hp cs b):Opn P t R':=⟨fun hx=>let ⟨a,ha⟩:=o.run hx;h _ _ a ha⟩
theorem Opn.i64 (ht:P.underlying t=some (.int .i64)):Opn P t (fun _ cs (z:Int)=>cs=[.int .i64 z]∧-9223372036854775808≤z∧z≤9223372036854775807):=⟨fun hx=>by
 obtain ⟨n,rfl,_,hw⟩:=DataW.trod_int ht hx;exact ⟨n,rfl,by simpa [Lit.wf,IntKind.min,IntKind.max,IntKind.signed,IntKind.bits] using hw⟩⟩
theorem Opn.u8 (ht:P.underlying t=some (.int .u8)):Opn P t (fun _ cs (x:UInt8)=>cs=[bv x]):=⟨fun hx=>by
 obtain ⟨n,rfl,_,hw⟩:=DataW.trod_int ht hx;obtain ⟨x,rfl⟩:=byte_val hw;exact ⟨x,rfl⟩⟩
theorem Opn.bool (ht:P.underlying t=some .bool):Opn P t (fun _ cs (b:Bool)=>cs=[.bool b]):=⟨fun hx=>by
 obtain ⟨b,rfl,_⟩:=DataW.trod_bool ht hx;exact ⟨b,rfl⟩⟩
theorem cells_spot {w:World} {base k:Nat} {b o:Nat} {spot:_} {cs:List Value} (h:w.cells? base ((⟨b,o,spot⟩:Addr).add (0*k)) k=some cs) (hk:0<k):spot=none:=by
 obtain ⟨_,h1,h2⟩:=World.cells?_some h;obtain ⟨c,hc⟩:∃c,cs[0]? = some c:=⟨cs[0],by simp [h1,hk]⟩;have h3:=h2 0 hk;rw [hc] at h3;have h4:=World.cell?_spot h3;simpa [Addr.add] using h4
theorem cells_at {w:World} {base k:Nat} {b o i:Nat} {cs:List Value} (h:w.cells? base ((⟨b,o,none⟩:Addr).add (i*k)) k=some cs):cs.length=k∧∀j v,cs[j]? = some v→cell w.heap b (o+i*k+j)=some v:=by
 obtain ⟨_,h1,h2⟩:=World.cells?_some h;refine ⟨h1,fun j v hv=>?_⟩;have hj:j<k:=by have:=(List.getElem?_eq_some_iff.1 hv).1;omega
 have h3:=h2 j hj;rw [hv,addr_add,addr_add,cell?_eq] at h3;exact h3
theorem choose_lists {α β:Type} {R:Nat→β→α→Prop} : ∀(n:Nat),(∀i,i<n→∃y z,R i y z)→∃(os:List β) (l:List α),os.length=n∧l.length=n∧∀i (h1:i<os.length) (h2:i<l.length),R i os[i] l[i]
 | 0,_=>⟨[],[],rfl,rfl,fun i h=>absurd h (by simp)⟩
 | n+1,each=>by
  obtain ⟨os,l,g1,g2,g3⟩:=choose_lists n (fun i hi=>each i (by omega));obtain ⟨y,z,g4⟩:=each n (by omega);refine ⟨os++[y],l++[z],by simp [g1],by simp [g2],fun i h1 h2=>?_⟩;by_cases hi:i<n
  ·have e1:(os++[y])[i]=os[i]'(by omega):=List.getElem_append_left (by omega);have e2:(l++[z])[i]=l[i]'(by omega):=List.getElem_append_left (by omega);rw [e1,e2];exact g3 i _ _
  ·have hi':i=n:=by simp [g1] at h1;omega
   subst hi';have e1:(os++[y])[i]=y:=by simp [g1]
   have e2:(l++[z])[i]=z:=by simp [g2]
   rw [e1,e2];exact g4
theorem map_one {α β:Type} (f:α→β):∀l:List α,l.map f=l.flatMap fun x=>[f x]
 | []=>rfl
 | x::l=>by simp only [List.map_cons,List.flatMap_cons,←map_one f l];rfl
theorem Opn.slice {α β:Type} {f:β→List Value} {Q:Heap→β→α→Prop} {k:Nat} (ht:P.underlying t=some (.slice e)) (hk:P.cellsOf e=k) (hk0:0<k) (hf:∀o,(f o).length=k) (he:Opn P e (fun h cs a=>∃o,cs=f o∧Q h o a)) :
  Opn P t (fun h cs (l:List α)=>∃(x:SV) (os:List β),cs=[sv x]∧Sl h k (sv x) (os.flatMap f)∧All2 (Q h) os l):=by
 refine ⟨?_⟩;intro H enc w sp held fuel cs x hx;rcases DataW.trod_slice ht hx with ⟨rfl,_⟩ | ⟨a,len,cap,elems,rest,n,_,rfl,_,_,hl,hm,hlen,hel,_,_⟩
 ·exact ⟨[],(none,0,0),[],rfl,Sl.nil _ _,All2.nil⟩
 obtain ⟨b,o,spot⟩:=a;have get:∀i,i<len→∃cs,w.cells? 0 ((⟨b,o,spot⟩:Addr).add (i*k)) k=some cs∧∃z y,cs=f y∧Q w.heap y z:=fun i hi=>by
  have h1:=hel i hi;have h2:elems[i]? = some (elems[i]'(by omega)):=by simp
  rw [h2,hk,Option.bind_eq_some_iff] at h1;obtain ⟨cs,h3,h4⟩:=h1;obtain ⟨z,y,hq⟩:=he.run h4;exact ⟨cs,h3,z,y,hq⟩
 have hspot:0<len→spot=none:=fun hp=>let ⟨_,h,_⟩:=get 0 hp;cells_spot h hk0;obtain ⟨os,l,ho1,hl1,hall⟩:=choose_lists (R:=fun i y z=>Q w.heap y z∧∀j v,(f y)[j]? = some v→cell w.heap b (o+i*k+j)=some v) len (fun i hi=>by
  obtain ⟨cs,h3,z,y,rfl,hq⟩:=get i hi;have:=hspot (by omega);subst this;exact ⟨y,z,hq,(cells_at h3).2⟩)
 unfold maxLen at hm;refine ⟨l,(some ⟨b,o,spot⟩,len,cap),os,rfl,⟨_,_,_,rfl,hl,by omega,?_,fun hp=>?_⟩,by omega,fun i h1 h2=>(hall i h1 h2).1⟩
 ·rw [flat_len hf,ho1]
 ·have hs:=hspot hp;subst hs;refine ⟨b,o,rfl,fun i x hi=>?_⟩;have hlt:=(List.getElem?_eq_some_iff.1 hi).1;rw [flat_len hf,ho1] at hlt;have hdm:i=i / k*k+i%k:=by rw [Nat.mul_comm];exact (Nat.div_add_mod i k).symm
  have h1:i / k<len:=Nat.div_lt_of_lt_mul (by rw [Nat.mul_comm];exact hlt);have h2:i%k<k:=Nat.mod_lt _ hk0;rw [hdm,flat_at hf os (i / k) (i%k) (by omega) h2] at hi;rw [hdm,←Nat.add_assoc];exact (hall (i / k) (by omega) (by omega)).2 _ _ hi
theorem Opn.bytes (ht:P.underlying t=some (.slice e)) (he:P.underlying e=some (.int .u8)) (hc:P.cellsOf e=1):Opn P t (fun h cs (l:List UInt8)=>∃x:SV,cs=[sv x]∧Bytes h (sv x) l):=
 (Opn.slice (f:=fun x:UInt8=>[bv x]) (Q:=fun _ o a=>o=a) ht hc (by omega) (fun _=>rfl) ((Opn.u8 he).mono fun _ _ a h=>⟨a,a,h,rfl⟩)).mono fun h cs l ⟨x,os,h1,h2,h3⟩=>by
  have:os=l:=List.ext_getElem h3.1 fun i h4 h5=>h3.2 i h4 h5;subst this;refine ⟨os,x,h1,?_⟩;have e:=map_one bv os;unfold Bytes;rw [e];exact h2
theorem opn_struct {fs:Array Field} (ht:P.underlying t=some (.struct fs)) {H:Type} {enc:TypeId × Value→H} {w:World} {sp:Nat→Bool} {held:Bool} {fuel:Nat} {cs:List Value} {x:DataW H × List MemPlace} (hx:DataW.trod enc P w 0 sp held fuel t cs=some x) :
  cs.length=P.cellsOf t∧∀(i:Nat) (f:Field),fs[i]? = some f→∃n y,DataW.trod enc P w 0 sp held n f.type ((cs.drop f.offset).take (P.cellsOf f.type))=some y:=by
 obtain ⟨xs,n,_,_,h1,h2,h3⟩:=DataW.trod_struct ht hx;refine ⟨h1,fun i f hf=>?_⟩;have hi:i<xs.length:=by have:=(Array.getElem?_eq_some_iff.1 hf).1;omega
 exact ⟨n,xs[i],by rw [h3 i f hf];simp⟩
theorem opn_field {i off ft k:Nat} (hf:fdB P t i=some (off,ft,k)) {H:Type} {enc:TypeId × Value→H} {w:World} {sp:Nat→Bool} {held:Bool} {fuel:Nat} {cs:List Value} {x:DataW H × List MemPlace} (hx:DataW.trod enc P w 0 sp held fuel t cs=some x)
  {α:Type} {R:Heap→List Value→α→Prop} (o:Opn P ft R):∃a,R w.heap ((cs.drop off).take k) a:=by
 obtain ⟨fs,fd,inf,ht,hfi,rfl,rfl,h3,h4⟩:=fdB_iff hf;obtain ⟨n,y,h2⟩:=(opn_struct ht hx).2 i fd hfi;have:P.cellsOf fd.type=k:=by simp [Program.cellsOf,h3,h4]
 rw [this] at h2;exact o.run h2
theorem Opn.arg {α:Type} {R:Heap→List Value→α→Prop} (o:Opn P t R) {H:Type} {enc:TypeId × Value→H} {w:World} {sp:Nat→Bool} {held:Bool} {v:Value} {d:DataW H} {ps:List MemPlace} (h:DataW.Trod enc P w 0 sp held t v d ps):∃a,R w.heap v.cells.toList a:=
 let ⟨_,hf⟩:=h;o.run hf
end
open Go
theorem sv_cells {a:Option Addr} {n c:Nat} {x:SV} (h:(Value.slice a n c).cells.toList=[sv x]):x=(a,n,c):=by
 simp [Value.cells] at h;obtain ⟨h1,h2,h3⟩:=h;obtain ⟨x1,x2,x3⟩:=x;simp_all
end Go.HL
namespace Go.Proofs.YtpeaicddbnghfaaGreat
open Go Go.HL
theorem len6 {cs:List Value} (h:cs.length=6):∃a b c d e f,cs=[a,b,c,d,e,f]:=by
 match cs,h with
 | [a,b,c,d,e,f],_=>exact ⟨a,b,c,d,e,f,rfl⟩
theorem opn_op13:Opn Tryz.prog 54 (fun h cs (x:ROp6)=>cs=x.cells∧RdL h any_ any_ (x.ba,x.bl.length,x.bc) x.bl∧InO x):=⟨fun hx=>by
 have hl:=(opn_struct Tryz.underlying54 hx).1;have f0:=opn_field T.fd54_0 hx (Opn.u8 Tryz.underlying5);have f1:=opn_field T.fd54_1 hx (Opn.i64 Tryz.underlying3);have f2:=opn_field T.fd54_2 hx (Opn.i64 Tryz.underlying3);have f3:=opn_field T.fd54_3 hx (Opn.u8 Tryz.underlying5);have f4:=opn_field T.fd54_4 hx (Opn.bool Tryz.underlying4);have f5:=opn_field T.fd54_5 hx (Opn.bytes Tryz.underlying22 Tryz.underlying5 (by kernel_rfl));obtain ⟨c0,c1,c2,c3,c4,c5,rfl⟩:=len6 (hl.trans (by kernel_rfl:_=6));obtain ⟨k,h0⟩:=f0;obtain ⟨y,h1,hy⟩:=f1;obtain ⟨z,h2,hz⟩:=f2;obtain ⟨fb,h3⟩:=f3;obtain ⟨hd,h4⟩:=f4;obtain ⟨b,⟨a,n,c⟩,h5,hb⟩:=f5;simp at h0 h1 h2 h3 h4 h5;subst h0 h1 h2 h3 h4 h5;have r:=RdL.ofBytes (E:=any_) hb;obtain rfl:n=b.length:=r.n;exact ⟨⟨k.toNat,y,z,fb,hd,a,c,b⟩,rfl,r.mono (fun _ _=>trivial) (fun _ _=>trivial),k.toNat_lt,hy,hz⟩⟩
theorem opn_ops13:Opn Tryz.prog 46 (fun h cs (l:List ROp6)=>∃x:SV,cs=[sv x]∧RwB 6 ROp6.cells ROp6.sb h any_ x l∧OpsOk6 l):=
 (Opn.slice (f:=ROp6.cells) (Q:=fun h o (x:ROp6)=>o=x∧RdL h any_ any_ (x.ba,x.bl.length,x.bc) x.bl∧InO x) Tryz.underlying46 (by kernel_rfl:_=6) (by omega) ROp6.cells_len (opn_op13.mono fun h cs x ⟨e,h1,h2⟩=>⟨x,x,e,rfl,h1,h2⟩)).mono fun h cs l ⟨x,os,h1,h2,h3⟩=>by
  have:os=l:=List.ext_getElem h3.1 fun i h4 h5=>(h3.2 i h4 h5).1;subst this;have hall:∀y∈os,RdL h any_ any_ (y.ba,y.bl.length,y.bc) y.bl∧InO y:=fun y hy=>by
   obtain ⟨i,hi,rfl⟩:=List.mem_iff_getElem.1 hy;exact (h3.2 i hi hi).2
  obtain ⟨a,n,c⟩:=x;exact ⟨os,(a,n,c),h1,⟨h2,(Sl.sz h2 ROp6.cells_len (by decide)).1.symm,fun _ _=>trivial,fun y hy=>(hall y hy).1⟩,fun y hy=>(hall y hy).2⟩
open Go.ChangeShapes Go.WideShapes Go.ChangeAt Go.RowKit
theorem own_knob:ownKnob Tryz.prog.godebug=none:=by kernel_rfl
theorem laid_out:laidOutB Tryz.prog=true:=by kernel_rfl
end Go.Proofs.YtpeaicddbnghfaaGreat
