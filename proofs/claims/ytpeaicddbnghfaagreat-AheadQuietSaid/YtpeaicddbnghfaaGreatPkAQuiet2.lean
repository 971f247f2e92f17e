/- The calls that come in to the laws on the pager that logs ahead, opened. Conditions: none. Calls of a pager that logs ahead that do nothing to its disk, in plain terms. Conditions: those that each fact names. The law AheadQuiet: a transaction that changed nothing, and one that is rolled back, do nothing to the disk. Conditions: the calls are readable. The law AheadQuiet at arguments as they come in. Conditions: they are readable. Arrays of bytes that come in as arguments. Conditions: those that each fact names. The law AheadQuiet returns true at every input and leaves its arguments as they were. Conditions: none. -/
import Derived.Test.YtpeaicddbnghfaaGreatPkAQuiet1
import Derived.OpenShut
import Derived.Test.YtpeaicddbnghfaaGreatRows
set_option maxRecDepth 100000
set_option maxHeartbeats 2000000
set_option linter.all false
namespace Go.Proofs.YtpeaicddbnghfaaGreat
open Go Go.HL
theorem len6 {cs:List Value} (h:cs.length=6):∃a b c d e f,cs=[a,b,c,d,e,f]:=by
 match cs,h with
 | [a,b,c,d,e,f],_=>exact ⟨a,b,c,d,e,f,rfl⟩
theorem opn_op14:Opn Tryz.prog 73 (fun h cs (x:ROp6)=>cs=x.cells∧RdL h any_ any_ (x.ba,x.bl.length,x.bc) x.bl∧InO x):=⟨fun hx=>by
 have hl:=(opn_struct Tryz.underlying73 hx).1;have f0:=opn_field T.fd73_0 hx (Opn.u8 Tryz.underlying5);have f1:=opn_field T.fd73_1 hx (Opn.i64 Tryz.underlying3);have f2:=opn_field T.fd73_2 hx (Opn.i64 Tryz.underlying3);have f3:=opn_field T.fd73_3 hx (Opn.u8 Tryz.underlying5);have f4:=opn_field T.fd73_4 hx (Opn.bool Tryz.underlying4);have f5:=opn_field T.fd73_5 hx (Opn.bytes Tryz.underlying22 Tryz.underlying5 (by kernel_rfl));obtain ⟨c0,c1,c2,c3,c4,c5,rfl⟩:=len6 (hl.trans (by kernel_rfl:_=6));obtain ⟨k,h0⟩:=f0;obtain ⟨y,h1,hy⟩:=f1;obtain ⟨z,h2,hz⟩:=f2;obtain ⟨fb,h3⟩:=f3;obtain ⟨hd,h4⟩:=f4;obtain ⟨b,⟨a,n,c⟩,h5,hb⟩:=f5;simp at h0 h1 h2 h3 h4 h5;subst h0 h1 h2 h3 h4 h5;have r:=RdL.ofBytes (E:=any_) hb;obtain rfl:n=b.length:=r.n;exact ⟨⟨k.toNat,y,z,fb,hd,a,c,b⟩,rfl,r.mono (fun _ _=>trivial) (fun _ _=>trivial),k.toNat_lt,hy,hz⟩⟩
theorem opn_ops14:Opn Tryz.prog 69 (fun h cs (l:List ROp6)=>∃x:SV,cs=[sv x]∧RwB 6 ROp6.cells ROp6.sb h any_ x l∧OpsOk6 l):=
 (Opn.slice (f:=ROp6.cells) (Q:=fun h o (x:ROp6)=>o=x∧RdL h any_ any_ (x.ba,x.bl.length,x.bc) x.bl∧InO x) Tryz.underlying69 (by kernel_rfl:_=6) (by omega) ROp6.cells_len (opn_op14.mono fun h cs x ⟨e,h1,h2⟩=>⟨x,x,e,rfl,h1,h2⟩)).mono fun h cs l ⟨x,os,h1,h2,h3⟩=>by
  have:os=l:=List.ext_getElem h3.1 fun i h4 h5=>(h3.2 i h4 h5).1;subst this;have hall:∀y∈os,RdL h any_ any_ (y.ba,y.bl.length,y.bc) y.bl∧InO y:=fun y hy=>by
   obtain ⟨i,hi,rfl⟩:=List.mem_iff_getElem.1 hy;exact (h3.2 i hi hi).2
  obtain ⟨a,n,c⟩:=x;exact ⟨os,(a,n,c),h1,⟨h2,(Sl.sz h2 ROp6.cells_len (by decide)).1.symm,fun _ _=>trivial,fun y hy=>(hall y hy).1⟩,fun y hy=>(hall y hy).2⟩
theorem step_quiet {A:Ah} {z:Nat} {x:PO6} (h3:x.k%7≠3) (h6:x.k%7≠6):(stepA14 A z x).1.dk=A.dk:=by
 have hk:x.k%7=0∨x.k%7=1∨x.k%7=2∨x.k%7=4∨x.k%7=5:=by omega
 rcases hk with e | e | e | e | e<;>simp only [stepA14,e]
 ·exact begin_dk
 ·exact write_dk
 ·exact resize_dk
 ·exact rollback_dk
theorem step_in {w:WPg} {x:PO6} (hk:x.k%7=3∨x.k%7=6):(stepP14 w x).1.in_=true→w.in_=true:=by
 rcases hk with e | e<;>simp only [stepP14,e]
 ·unfold commitP
  repeat' split
  all_goals simp_all
 ·unfold checkP
  repeat' split
  all_goals simp_all
def qB (A:Ah):Ah:={ A with in_:=true,now:=A.sure }
def qR (A:Ah):Ah:={ A with in_:=true,now:=growL A.sure A.size 3 }
def qW (A:Ah) (b:List UInt8):Ah:={ A with in_:=true,now:=(growL A.sure A.size 3).set 2 b }
section
variable {A:Ah} (O:AhOk A) (hd:A.dark=false) (hi:A.in_=false) (hn:A.now=[])
include hd hi
theorem q_begin:beginA A=(qB A,0):=by
 unfold beginA;rw [if_neg (by rw [hd];decide),if_neg (by rw [hi];decide)];rfl
include hn O
omit hd in
theorem q_eta:({ A with in_:=false,now:=[] } : Ah)=A:=by cases A;simp only at hi hn;subst hi hn;rfl
theorem q_commit:commitA (qB A)=(A,0):=by
 have hm:mayA (qB A)=0:=by
  unfold mayA;show (if A.sure=[] then (if A.sure=[] then 0 else 8) else if hdOk (A.sure.getD 0 []) A.size=true then 0 else 8)=0;split
  ·rfl
  ·rename_i h;rw [if_pos (O.pg.hd h)]
 have hl:listN (qB A).now (qB A).sure=[]:=by
  show listN A.sure A.sure=[];have hu:unlN A.sure A.sure=[]:=by
   unfold unlN;rw [List.filter_eq_nil_iff];intro i hi;simp
  unfold listN;rw [if_neg (by simp),hu]
 rw [commitA_4 (show (qB A).dark=false from hd) rfl hm hl];exact congrArg (·,0) (q_eta O hi hn)
omit hi hn in
theorem q_resize:resizeA (qB A) 3=(qR A,0):=by
 have hz:=okSz_b O.pg.sz;exact resizeA_5 (show (qB A).dark=false from hd) rfl (by decide) (by show ¬(1048576<(3:Int)∨16777216<(3:Int)*(A.size:Int));omega)
omit hi hn in
theorem q_write {b:List UInt8} (hb:b.length=A.size):writeA (qR A) 3 b=(qW A b,0):=by
 refine writeA_4 (show (qR A).dark=false from hd) rfl ?_;show ¬((3:Int)<1∨((growL A.sure A.size 3).length:Int)<3∨b.length≠A.size);rw [growL_len];omega
theorem q_roll {b:List UInt8} : rollbackA (qW A b)=(A,0):=by
 unfold rollbackA;rw [if_neg (by show ¬A.dark=true;rw [hd];decide),if_neg (by show ¬true=false;decide)];exact congrArg (·,0) (q_eta O hi hn)
end
open Go Go.HL
theorem aquiet_walk {h:Heap} {EO:Nat→Prop} {a:Option Addr} {c:Nat} {l:List ROp6} (hl:RwB 6 ROp6.cells ROp6.sb h EO (a,l.length,c) l) (hop6:OpsOk6 l) {u v:Nat} (hu:u<256) (hv:v<256) {xk:Nat} {xno xn:Int} {xfb:UInt8} {xhd:Bool} {xa:Option Addr} {xc:Nat} {xl:List UInt8} {XF XE:Nat→Prop} (hxl:RdL h XF XE (xa,xl.length,xc) xl):HC Tryz.prog 9 #[.agg #[.int .u8 (u:Int),.int .u8 (v:Int)],.slice a l.length c,.agg #[.int .u8 (xk:Int),.int .i64 xno,.int .i64 xn,.int .u8 (xfb.toNat:Int),.bool xhd,.slice xa xl.length xc]] h (fun v h'=>v=.bool true∧Ext h h'):=by
 have hc2:=hl.m;have ok:=(Hp.nil h none_).old (opw6I (fun j=>EO j∧j<h.size) (a,l.length,c) l) (hl.lt (by decide)) (fun j hj=>hj.2);have hxc:=hxl.c;have hxm:=hxl.m;simp only at hxc hxm;have ok:=ok.old (rdI (fun j=>XF j∧j<h.size) (fun j=>XE j∧j<h.size) (xa,xl.length,xc) xl) hxl.lt (fun j hj=>hj.elim (·.2) (·.2));have hzb:=sizeZ_b u;have hcn:newN.chg=0:=rfl;refine HC.go Tryz.func9 152 ?_;refine .seq<|.r<|.a' 3 (.bxA (cs:=[.int .u8 (u:Int),.int .u8 (v:Int)]) ok) ?_;rintro _ η1 ⟨pb1,rfl,ok,xe⟩;refine .a' 5 (.bxA (cs:=[.int .u8 (xk:Int),.int .i64 xno,.int .i64 xn,.int .u8 (xfb.toNat:Int),.bool xhd,.slice xa xl.length xc]) ok) ?_;rintro _ η2 ⟨pb2,rfl,ok,xe⟩;refine .z .asB<|.nil ?_;refine .seq<|.r<|.c' 15 .func dgnew_any ?_;rintro _ η3 ⟨dnd1,Fnd1,rfl,q⟩;have ok:=Hp.addM ok q;refine .z .asP<|.nil ?_;refine .seq<|.a 15 (fun fl hh=>Hp h none_ [boxI pb2 73 [.int .u8 (xk:Int),.int .i64 xno,.int .i64 xn,.int .u8 (xfb.toNat:Int),.bool xhd,.slice xa xl.length xc],boxI pb1 64 [.int .u8 (u:Int),.int .u8 (v:Int)]] [rdI (fun j=>XF j∧j<h.size) (fun j=>XE j∧j<h.size) (xa,xl.length,xc) xl,opw6I (fun j=>EO j∧j<h.size) (a,l.length,c) l] hh) mixed ?_;have hS:=ok.n2.n2.k2;refine .g 0 false rfl 17 hS (fun _=>.mvP)<|.g 1 false rfl 18 hS (fun _=>.ixa 0 T.ar64 T.sz5)<|.lw 2 false rfl 19 hS (fun _ _ hS=>.ldx T.ag5 hS.m1)<|.g 4 false rfl 21 hS (fun _=>.ixa 1 T.ar64 T.sz5)<|.lw 5 false rfl 22 hS (fun _ _ hS=>.ldx T.ag5 hS.m1)<|.g 6 false rfl 23 hS (fun _=>.remn (b:=6))<|.g 7 false rfl 24 hS (fun _=>.cvi T.in3 T.in5)<|.g 8 false rfl 25 hS (fun _=>.addI (b:=1))<|.o1 3<|.k false rfl 20 .func (size14_any (n:=u) (by omega)) hS<|.o1 9<|.c' false rfl 26 .func (gopen0_any (d:=dnd1) (F:=Fnd1) (D:=newN) (z:=((sizeZ u:Nat):Int)) (room:=(((v%6)+1:Nat):Int)) (sure:=[]) (Hp.loc0 (ok)) newN_ok (by omega) (by omega) (by rw [open_new (z:=sizeZ u) (sizeZ_ok u) (by omega)]) (by rw [open_new (z:=sizeZ u) (sizeZ_ok u) (by omega)];exact ⟨new_ok (sizeZ_ok u),rfl⟩)) ?_;rintro _ η4 ⟨po1,Fo1,rfl,q⟩;have ok:=Hp.lift1 (ok) q;obtain ⟨Ao1,hAo1⟩:∃x:Ah,(⟨(openN newN ((sizeZ u:Nat):Int) (((v%6)+1:Nat):Int)).1,0,0,0,false,[],[],Int.toNat ((sizeZ u:Nat):Int),false⟩:Ah)=x:=⟨_,rfl⟩;rw [hAo1] at ok;have hA0:Ao1=⟨newN,0,0,0,false,[],[],sizeZ u,false⟩:=by rw [←hAo1,open_new (z:=sizeZ u) (sizeZ_ok u) (by omega)];rfl
 refine ⟨ok.n2.n2.k2,?_⟩;have hS:=ok.n2.n2.k2;refine .g 10 false rfl 16 hS (fun _=>.mvU)<|.g 11 false rfl 27 hS (fun _=>.ex)<|.g 12 false rfl 28 hS (fun _=>.ex)<|.g 13 false rfl 8 hS (fun _=>.asP)<|.g 14 false rfl 9 hS (fun _=>.asI)<|.e ?_;refine .seq<|.r<|.z (.ixa 0 T.ar64 T.sz5)<|.z (.ldx T.ag5 ok.m2)<|.k 31 .func (size14_any (n:=u) (by omega))<|.z (.bd #[.int .i64 ((sizeZ u:Nat):Int),.slice none 0 0,.slice none 0 0,.bool false,.int .i64 0] T.zr71 T.pl71 rfl)<|.a' 10 (.alA T.zr71 ok) ?_;rintro _ η5 ⟨pb3,rfl,ok,xe⟩;refine .ur' (.stW (vs:=[.int .i64 ((sizeZ u:Nat):Int),.slice none 0 0,.slice none 0 0,.bool false,.int .i64 0]) T.sz71 ok (oneL rfl)) ?_;rintro η6 ⟨ok,cg⟩;refine .nil ?_;refine .seq<|.seq<|.r<|.z .mvP<|.z (.pEqS T.pt33)<|.z .mvB<|.z .mvI<|.z .neq<|.z .pkf<|.z .mvB<|.z .mvS<|.k 41 .func (small14_any (a:=a) (c:=c) (l:=l) ok.r1)<|.z .not<|.z .pkf<|.nil ?_;refine .cond (fun C0=>?_) (fun C0=>?_)
 ·
  refine .seq<|.r<|.c' 44 .func live14_any ?_;rintro _ η7 ⟨rfl,hx⟩;have ok:=ok.ext hx;refine .z .mvB<|.z .mvP<|.z (.pNeS T.pt33)<|.z .pkt<|.z .asB<|.nil ?_;refine .ret ⟨.bool true,Res.one rfl rfl,⟨rfl,ok.chg⟩⟩
 have hsm:=smallB6_iff.1 (by simpa using C0);refine .skip<|.seq<|.seq<|?_;have ok:=ok.dE (dcpI none_ (newWp (sizeZ u))) newWp_doc (fun _ f=>f);refine .r<|.z .asI<|.nil ?_;refine .block fun K0 hK0=>.loop (fun m s hh=>∃(i:Nat) (F:Nat→Prop) (A:Ah) (E:Nat→Prop) (w:RWp),Has s [(1,.slice a l.length c),(5,.pointer (some ⟨pb2,0,none⟩)),(7,.pointer (some ⟨dnd1,0,none⟩)),(8,.pointer (some ⟨po1,0,none⟩)),(10,.pointer (some ⟨pb3,0,none⟩)),(11,.int .i64 (i:Int))]∧Hp h none_ [agI po1 dnd1 F A,boxI pb3 71 [.int .i64 (w.z:Int),.slice w.sa w.sl.length w.sc,.slice w.na w.nl.length w.nc,.bool w.i,.int .i64 (w.fr:Int)],boxI pb2 73 [.int .u8 (xk:Int),.int .i64 xno,.int .i64 xn,.int .u8 (xfb.toNat:Int),.bool xhd,.slice xa xl.length xc]] [dcpI E w,opw6I (fun j=>EO j∧j<h.size) (a,l.length,c) l,rdI (fun j=>XF j∧j<h.size) (fun j=>XE j∧j<h.size) (xa,xl.length,xc) xl] hh∧i≤l.length∧A.dk.chg≤2000000*i∧RelA A w.abs∧A.dk.left<0∧LimW w.abs∧w.z=sizeZ u∧m=l.length-i) ?_ ?_
 ·exact ⟨_,0,Fo1,Ao1,none_,newWp (sizeZ u),⟨rfl,rfl,rfl,rfl,rfl,rfl,trivial⟩,(ok.n2.n1.n2).k3.f1.f2.f2,Nat.zero_le _,by rw [hA0];exact Int.le_refl 0,by rw [hA0];exact new_rel,by rw [hA0];exact (by decide:(-1:Int)<0),⟨by simp [newWp,RWp.abs,pgs],by simp [newWp,RWp.abs,pgs]⟩,rfl,rfl⟩
 rintro _ _ η8 ⟨i,F,A,E,w,hs,ok,hi,hcg,hrel,hlf,hlim,hwz,rfl⟩ J0 hJ0;refine .frame hs fun τ=>?_;refine .seq<|.seq<|.r<|.z .mvI<|.z .mvS<|.z (.len T.el69)<|.z .lss<|.nil ?_;refine .cdr (fun C1=>?_) (fun C1=>?_)
 ·
  refine .exit<|hK0 _ _<|.seq<|.r<|.c' 151 .func live14_any ?_;rintro _ η9 ⟨rfl,hx⟩;have ok:=ok.ext hx;refine .z .asB<|.nil ?_;refine .ret ⟨.bool true,Res.one rfl rfl,⟨rfl,ok.chg⟩⟩
 have hil:i<l.length:=by omega
 have hzw:okSz w.z=true:=by rw [hwz];exact sizeZ_ok _
 have hz256:=okSz_b hzw;have hnl9:w.nl.length≤40:=by have:=hlim.n;rwa [show w.abs.now=pgs w.nl from rfl,pgs_len] at this
 have hsl9:w.sl.length≤40:=by have:=hlim.s;rwa [show w.abs.sure=pgs w.sl from rfl,pgs_len] at this
 have P0:=ag_pl (ok).m0;have hfr9:w.fr≤16777216:=by rw [←show A.fr=w.fr from hrel.fr];exact P0.frb
 refine .skip<|.seq<|.block fun K1 hK1=>.seq<|.seq<|.r<|.z .mvS<|.z .mvI<|?_;obtain ⟨bb1,oo1,rfl,fb1⟩:=ok.r1.pos (by omega);refine .z (.ix i T.el69 T.sz73)<|.z (.fa T.fd73_0)<|.z (.ld T.ag5 (sl_at ROp6.cells_len (ok.r1).sl (i:=i) (j:=0) (by omega) rfl))<|.z .eql<|.nil ?_;refine .cd (fun C2=>?_) (fun C2=>?_)
 ·
  refine .exit<|hK1 _ _<|.r<|.z .mvI<|.z (.addI (b:=1))<|.z .asI<|.nil ?_;refine .end<|hJ0 _ _ _ ⟨i+1,F,A,E,w,⟨rfl,rfl,rfl,rfl,rfl,rfl,trivial⟩,(ok).k3.f2.f2.f2,by omega,by omega,hrel,hlf,hlim,hwz,rfl⟩ (by omega)
 refine .skip<|.seq<|.r<|.z .mvP<|.k 62 .func (dgchanges_any (d:=dnd1) (F:=F) (D:=A.dk) (Hp.loc0 (ag_dgo (ok))))<|.z .asI<|.nil ?_;refine .seq<|.r<|.z (.fa T.fd71_3)<|.z (.ldx T.ag4 ok.m1)<|.z .asB<|.nil ?_;refine .seq<|?_;have ok:=ok.d1 (rdI (fun j=>EO j∧j<h.size) (fun j=>EO j∧j<h.size) (l[i].ba,l[i].bl.length,l[i].bc) l[i].bl) ((ok.r1).by' _ (List.getElem_mem hil)) (fun _ h=>h.elim id id);refine .a 6 (fun fl hh=>cond fl True (Hp h none_ [boxI pb3 71 [.int .i64 (w.z:Int),.slice w.sa w.sl.length w.sc,.slice w.na w.nl.length w.nc,.bool w.i,.int .i64 (w.fr:Int)],boxI pb2 73 [.int .u8 (xk:Int),.int .i64 xno,.int .i64 xn,.int .u8 (xfb.toNat:Int),.bool xhd,.slice xa xl.length xc]] [rdI (fun j=>EO j∧j<h.size) (fun j=>EO j∧j<h.size) (l[i].ba,l[i].bl.length,l[i].bc) (l[i].bl),dcpI E w,opw6I (fun j=>EO j∧j<h.size) (some ⟨bb1,oo1,none⟩,l.length,c) l,rdI (fun j=>XF j∧j<h.size) (fun j=>XE j∧j<h.size) (xa,xl.length,xc) xl] hh)) mixed ?_;have hS:=ok.n2.n2.k2;refine .g 0 false rfl 66 hS (fun _=>.mvP)<|.l 1 false rfl 67 hS (fun _ hS=>.ldb T.ag71 hS.m0 T.sz71)<|.g 2 false rfl 68 hS (fun _=>.mvS)<|.g 3 false rfl 69 hS (fun _=>.mvI)<|.g 4 false rfl 70 hS (fun _=>.ix i T.el69 T.sz73)<|.l 5 false rfl 71 (v:=.agg #[.int .u8 (l[i].k:Int),.int .i64 (l[i].no),.int .i64 (l[i].n),.int .u8 (l[i].fb.toNat:Int),.bool (l[i].hd),.slice (l[i].ba) (l[i].bl.length) (l[i].bc)]) hS (fun _ hS=>.ldc (vs:=ROp6.cells l[i]) T.ag73 (sl_ats ROp6.cells_len (hS.r2).sl (i:=i) (by omega)) T.sz73)<|.o1 6<|.c' true rfl 72 .func (call14_any (p:=po1) (d:=dnd1) (F:=F) (A:=A) (E:=E) (z:=w.z) (sa:=w.sa) (sc:=w.sc) (sl:=w.sl) (na:=w.na) (nc:=w.nc) (nl:=w.nl) (ib:=w.i) (fr:=w.fr) (k:=l[i].k) (no:=l[i].no) (n:=l[i].n) (fb:=l[i].fb) (hd:=l[i].hd) (ba:=l[i].ba) (bc:=l[i].bc) (bl:=l[i].bl) (ok.f1).loc2 (by omega) hzw (by omega) hfr9 (hop6 _ (List.getElem_mem hil)).1 (hop6 _ (List.getElem_mem hil)).2.1 (hop6 _ (List.getElem_mem hil)).2.2) ?_;rintro _ η10 ⟨Fk1,wk1,Ek1,bk1,rfl,hak1,hbk1,q,hEk1⟩;have Pk1:=ag_pl (ok.f1).m0;have hzk1:=ok.chg.size;have ok:=(ok.f1).turnR q hEk1;obtain ⟨Ak1,hAk1⟩:∃x:Ah,(stepA14 A w.z l[i].abs).1=x:=⟨_,rfl⟩;rw [show (stepA14 A w.z ⟨l[i].k,l[i].no,l[i].n,l[i].fb,l[i].hd,l[i].bl⟩).1=Ak1 from hAk1] at ok;have hck1:Ak1.dk.chg≤A.dk.chg+1200000:=by rw [←hAk1];exact step_chg Pk1
 obtain ⟨htk1,hRk1,hlk1⟩:=hrel.step0 Pk1 (by omega) (by show 0<w.z;omega) hlf (x:=l[i].abs);have hrelk1:RelA Ak1 wk1.abs:=by rw [hak1,←hAk1];exact hRk1
 have hlfk1:Ak1.dk.left<0:=by rw [←hAk1];exact hlk1
 have hlimk1:LimW wk1.abs:=by rw [hak1];exact hlim.step (of_decide_eq_true (hsm.2 i hil))
 have hwzk1:wk1.z=sizeZ u:=(congrArg WPg.z hak1).trans (step_z.trans hwz);have hq0:l[i].k%7≠3→l[i].k%7≠6→Ak1.dk=A.dk:=fun h3 h6=>by rw [←hAk1];exact step_quiet (x:=l[i].abs) h3 h6
 have hin0:l[i].k%7=3∨l[i].k%7=6→wk1.i=true→w.i=true:=fun h3 h6=>step_in (w:=w.abs) (x:=l[i].abs) h3 ((congrArg WPg.in_ hak1).symm.trans h6);refine ⟨trivial,?_⟩;refine .g 7 true rfl 65 trivial (fun _=>.mvU)<|.g 8 true rfl 73 trivial (fun _=>.ex)<|.g 9 true rfl 74 trivial (fun _=>.ex)<|.g 10 true rfl 75 trivial (fun _=>.ex)<|.o1 11<|.ur' true rfl (.stW (vs:=[.int .i64 (wk1.z:Int),.slice wk1.sa wk1.sl.length wk1.sc,.slice wk1.na wk1.nl.length wk1.nc,.bool wk1.i,.int .i64 (wk1.fr:Int)]) T.sz71 ok.n1 (oneL rfl)) ?_;rintro η11 ⟨ok,cg⟩;refine ⟨trivial,?_⟩;refine .e ?_;refine .seq<|.join (fun s hh=>∃(qt:Bool),Has s [(1,.slice (some ⟨bb1,oo1,none⟩) l.length c),(5,.pointer (some ⟨pb2,0,none⟩)),(7,.pointer (some ⟨dnd1,0,none⟩)),(8,.pointer (some ⟨po1,0,none⟩)),(10,.pointer (some ⟨pb3,0,none⟩)),(11,.int .i64 (i:Int)),(12,.int .i64 A.dk.chg),(14,.bool qt)]∧η11=hh∧(qt=true→Ak1.dk=A.dk)) ?_ ?_
 ·
  refine .r<|.z .mvS<|.z .mvI<|.z (.ix i T.el69 T.sz73)<|.z (.fa T.fd73_0)<|.z (.ld T.ag5 (sl_at ROp6.cells_len (ok.r2).sl (i:=i) (j:=0) (by omega) rfl))<|.z (.remn (b:=7))<|.z .neq<|.z .mvB<|.sd (fun G83=>?_) (fun G83=>?_)
  ·
   refine .z .mvS<|.z .mvI<|.z (.ix i T.el69 T.sz73)<|.z (.fa T.fd73_0)<|.z (.ld T.ag5 (sl_at ROp6.cells_len (ok.r2).sl (i:=i) (j:=0) (by omega) rfl))<|.z (.remn (b:=7))<|.z .neq<|.z .pkt<|.z .mvB<|.sd (fun G92=>?_) (fun G92=>?_)
   ·
    refine .y<|.y<|.y<|.y<|.y<|.y<|.y<|.y<|.z .pkt<|.z .asB<|.nil ?_;refine .end<|⟨true,⟨rfl,rfl,rfl,rfl,rfl,rfl,rfl,rfl,trivial⟩,rfl,fun _=>hq0 (by omega) (by omega)⟩
   refine .z .mvB<|.z (.fa T.fd71_3)<|.z (.ldx T.ag4 ok.m0)<|.z (.bNe T.bo4)<|.z .mvB<|.spl (fun G97=>?_) (fun G97=>?_)
   ·
    refine .z (.fa T.fd71_3)<|.z (.ldx T.ag4 ok.m0)<|.z .pkt<|.z .pkf<|.z .asB<|.nil ?_;refine .end<|⟨wk1.i,⟨rfl,rfl,rfl,rfl,rfl,rfl,rfl,rfl,trivial⟩,rfl,fun h=>(by rw [h,hin0 (by omega) h] at G97;cases G97)⟩
   refine .y<|.y<|.z .pkf<|.z .pkf<|.z .asB<|.nil ?_;refine .end<|⟨false,⟨rfl,rfl,rfl,rfl,rfl,rfl,rfl,rfl,trivial⟩,rfl,fun h=>(by cases h)⟩
  refine .y<|.y<|.y<|.y<|.y<|.y<|.y<|.z .pkf<|.z .mvB<|.z .mvB<|.z (.fa T.fd71_3)<|.z (.ldx T.ag4 ok.m0)<|.z (.bNe T.bo4)<|.z .mvB<|.spl (fun G97=>?_) (fun G97=>?_)
  ·
   refine .z (.fa T.fd71_3)<|.z (.ldx T.ag4 ok.m0)<|.z .pkt<|.z .pkf<|.z .asB<|.nil ?_;refine .end<|⟨wk1.i,⟨rfl,rfl,rfl,rfl,rfl,rfl,rfl,rfl,trivial⟩,rfl,fun h=>(by rw [h,hin0 (by omega) h] at G97;cases G97)⟩
  refine .y<|.y<|.z .pkf<|.z .pkf<|.z .asB<|.nil ?_;refine .end<|⟨false,⟨rfl,rfl,rfl,rfl,rfl,rfl,rfl,rfl,trivial⟩,rfl,fun h=>(by cases h)⟩
 rintro s _ ⟨qt,hs,rfl,hqt⟩;refine .frame hs fun τ=>?_;refine .seq<|.seq<|.join (fun s hh=>∃(t108:Bool),Has s [(1,.slice (some ⟨bb1,oo1,none⟩) l.length c),(5,.pointer (some ⟨pb2,0,none⟩)),(7,.pointer (some ⟨dnd1,0,none⟩)),(8,.pointer (some ⟨po1,0,none⟩)),(10,.pointer (some ⟨pb3,0,none⟩)),(11,.int .i64 (i:Int)),(108,.bool t108)]∧η11=hh∧t108=false) ?_ ?_
 ·
  refine .r<|.z .mvB<|.z .mvB<|.spl (fun G103=>?_) (fun G103=>?_)
  ·
   refine .z .mvP<|.k 105 .func (dgchanges_any (d:=dnd1) (F:=Fk1) (D:=Ak1.dk) (Hp.loc0 (ag_dgo (ok.n1))))<|.z .mvI<|.z .neq<|.z .pkt<|.nil ?_;refine .end<|⟨decide (Ak1.dk.chg≠A.dk.chg),⟨rfl,rfl,rfl,rfl,rfl,rfl,rfl,trivial⟩,rfl,decide_eq_false (by rw [hqt (by simpa using G103)];exact fun h=>h rfl)⟩
  refine .y<|.y<|.y<|.y<|.z .pkf<|.nil ?_;refine .end<|⟨false,⟨rfl,rfl,rfl,rfl,rfl,rfl,rfl,trivial⟩,rfl,rfl⟩
 rintro s _ ⟨t108,hs,rfl,h108⟩;refine .frame hs fun τ=>?_;subst h108;refine .cf<|.skip<|.seq<|.seq<|.r<|.z (.fa T.fd71_3)<|.z (.ldx T.ag4 ok.m0)<|.nil ?_;refine .cond (fun C4=>?_) (fun C4=>?_)
 ·
  refine .exit<|hK1 _ _<|.r<|.z .mvI<|.z (.addI (b:=1))<|.z .asI<|.nil ?_;refine .end<|hJ0 _ _ _ ⟨i+1,Fk1,Ak1,Ek1,wk1,⟨rfl,rfl,rfl,rfl,rfl,rfl,trivial⟩,(ok.n2.n1.n2).k3.f3.f3.f2.e3,by omega,by omega,hrelk1,hlfk1,hlimk1,hwzk1,rfl⟩ (by omega)
 refine .skip<|.seq<|?_;have Pq:=ag_pl (ok.n1).m0;have Oq:=Pq.O hrelk1.dark;have hiq:Ak1.in_=false:=hrelk1.in_.trans (show wk1.i=false by simpa using C4);have hnq:Ak1.now=[]:=hrelk1.now.trans (hrelk1.no (show wk1.i=false by simpa using C4));have hszq:Ak1.size=wk1.z:=hrelk1.size;refine .r<|.z .mvP<|.k 112 .func (dgchanges_any (d:=dnd1) (F:=Fk1) (D:=Ak1.dk) (Hp.loc0 (ag_dgo (ok.n1))))<|.z .asI<|.nil ?_;refine .seq<|.r<|.z .mvP<|.c' 114 .func (gbegin_any (p:=po1) (d:=dnd1) (F:=Fk1) (A:=Ak1) (ok.n1).loc0 (by omega)) ?_;rintro _ η12 ⟨Fg1,rfl,q⟩;have Pg1:=ag_pl (ok.n1).m0;have ok:=(ok.n1).lift1 q;obtain ⟨Ag1,hAg1⟩:∃x:Ah,(beginA Ak1).1=x:=⟨_,rfl⟩;rw [hAg1] at ok;have hcg1:Ag1.dk.chg≤Ak1.dk.chg:=by rw [←hAg1];exact (Int.le_of_eq (congrArg Dk.chg begin_dk))
 obtain rfl:qB Ak1=Ag1:=(congrArg Prod.fst (q_begin (A:=Ak1) hrelk1.dark hiq)).symm.trans hAg1;refine .z .neq<|.z .mvB<|.sd (fun G116=>?_) (fun G116=>?_)
 ·
  exact absurd (by rw [(q_begin (A:=Ak1) hrelk1.dark hiq)];rfl) G116
 refine .z .mvP<|.c' 118 .func (gcommit_any (p:=po1) (d:=dnd1) (F:=Fg1) (A:=(qB Ak1)) (ok).loc0 (by omega)) ?_;rintro _ η13 ⟨Fg2,rfl,q⟩;have Pg2:=ag_pl (ok).m0;have ok:=(ok).lift1 q;obtain ⟨Ag2,hAg2⟩:∃x:Ah,(commitA (qB Ak1)).1=x:=⟨_,rfl⟩;rw [hAg2] at ok;have hcg2:Ag2.dk.chg≤(qB Ak1).dk.chg+1200000:=by rw [←hAg2];exact commit_chg Pg2
 obtain rfl:Ak1=Ag2:=(congrArg Prod.fst (q_commit Oq hrelk1.dark hiq hnq)).symm.trans hAg2;refine .z .neq<|.z .pkf<|.z .mvB<|.sd (fun G121=>?_) (fun G121=>?_)
 ·
  exact absurd (by rw [(q_commit Oq hrelk1.dark hiq hnq)];rfl) G121
 refine .z .mvP<|.c' 123 .func (gbegin_any (p:=po1) (d:=dnd1) (F:=Fg2) (A:=Ak1) (ok).loc0 (by omega)) ?_;rintro _ η14 ⟨Fg3,rfl,q⟩;have Pg3:=ag_pl (ok).m0;have ok:=(ok).lift1 q;obtain ⟨Ag3,hAg3⟩:∃x:Ah,(beginA Ak1).1=x:=⟨_,rfl⟩;rw [hAg3] at ok;have hcg3:Ag3.dk.chg≤Ak1.dk.chg:=by rw [←hAg3];exact (Int.le_of_eq (congrArg Dk.chg begin_dk))
 obtain rfl:qB Ak1=Ag3:=(congrArg Prod.fst (q_begin (A:=Ak1) hrelk1.dark hiq)).symm.trans hAg3;refine .z .neq<|.z .pkf<|.z .mvB<|.sd (fun G126=>?_) (fun G126=>?_)
 ·
  exact absurd (by rw [(q_begin (A:=Ak1) hrelk1.dark hiq)];rfl) G126
 refine .z .mvP<|.c' 128 .func (gresize_any (p:=po1) (d:=dnd1) (F:=Fg3) (A:=(qB Ak1)) (n:=3) (ok).loc0 (by omega) (by omega)) ?_;rintro _ η15 ⟨Fg4,rfl,q⟩;have Pg4:=ag_pl (ok).m0;have ok:=(ok).lift1 q;obtain ⟨Ag4,hAg4⟩:∃x:Ah,(resizeA (qB Ak1) 3).1=x:=⟨_,rfl⟩;rw [hAg4] at ok;have hcg4:Ag4.dk.chg≤(qB Ak1).dk.chg:=by rw [←hAg4];exact (Int.le_of_eq (congrArg Dk.chg resize_dk))
 obtain rfl:qR Ak1=Ag4:=(congrArg Prod.fst (q_resize Oq hrelk1.dark)).symm.trans hAg4;refine .z .neq<|.z .pkf<|.z .mvB<|.sd (fun G131=>?_) (fun G131=>?_)
 ·
  exact absurd (by rw [(q_resize Oq hrelk1.dark)];rfl) G131
 refine .z .mvP<|.z (.fa T.fd71_0)<|.z (.ldx T.ag3 ok.m1)<|.z (.ldb T.ag73 ok.m2 T.sz73)<|.c' 136 .func (bytes14_any (z:=wk1.z) (k:=xk) (no:=xno) (n:=xn) (fb:=xfb) (hd:=xhd) (ba:=xa) (bc:=xc) (bl:=xl) (by rw [hwzk1];exact sizeZ_ok _) ok.r3) ?_;rintro _ η16 own;obtain ⟨ya1,yc1,rfl⟩:=own.formB;have ok:=ok.own own;refine .c' 137 .func (gwrite_any (p:=po1) (d:=dnd1) (F:=Fg4) (A:=(qR Ak1)) (no:=3) (a:=ya1) (c:=yc1) (l:=(pageP wk1.z ⟨xk,xno,xn,xfb,xhd,xl⟩)) (ok.n1).locC (by omega)) ?_;rintro _ η17 ⟨Fg5,rfl,q⟩;have Pg5:=ag_pl (ok.n1).m0;have ok:=(ok.n1).lift1 q;obtain ⟨Ag5,hAg5⟩:∃x:Ah,(writeA (qR Ak1) 3 (pageP wk1.z ⟨xk,xno,xn,xfb,xhd,xl⟩)).1=x:=⟨_,rfl⟩;rw [hAg5] at ok;have hcg5:Ag5.dk.chg≤(qR Ak1).dk.chg:=by rw [←hAg5];exact (Int.le_of_eq (congrArg Dk.chg write_dk))
 obtain rfl:(qW Ak1 (pageP wk1.z ⟨xk,xno,xn,xfb,xhd,xl⟩))=Ag5:=(congrArg Prod.fst (q_write Oq hrelk1.dark (b:=pageP wk1.z ⟨xk,xno,xn,xfb,xhd,xl⟩) (by rw [pageP_len (by rw [hwzk1];exact sizeZ_ok _)];exact hszq.symm))).symm.trans hAg5;refine .z .neq<|.z .pkf<|.z .mvB<|.sd (fun G140=>?_) (fun G140=>?_)
 ·
  exact absurd (by rw [(q_write Oq hrelk1.dark (b:=pageP wk1.z ⟨xk,xno,xn,xfb,xhd,xl⟩) (by rw [pageP_len (by rw [hwzk1];exact sizeZ_ok _)];exact hszq.symm))];rfl) G140
 refine .z .mvP<|.c' 142 .func (grollback_any (p:=po1) (d:=dnd1) (F:=Fg5) (A:=(qW Ak1 (pageP wk1.z ⟨xk,xno,xn,xfb,xhd,xl⟩))) (ok).loc0 (by omega)) ?_;rintro _ η18 ⟨Fg6,rfl,q⟩;have Pg6:=ag_pl (ok).m0;have ok:=(ok).lift1 q;obtain ⟨Ag6,hAg6⟩:∃x:Ah,(rollbackA (qW Ak1 (pageP wk1.z ⟨xk,xno,xn,xfb,xhd,xl⟩))).1=x:=⟨_,rfl⟩;rw [hAg6] at ok;have hcg6:Ag6.dk.chg≤(qW Ak1 (pageP wk1.z ⟨xk,xno,xn,xfb,xhd,xl⟩)).dk.chg:=by rw [←hAg6];exact (Int.le_of_eq (congrArg Dk.chg rollback_dk))
 obtain rfl:Ak1=Ag6:=(congrArg Prod.fst (q_roll Oq hrelk1.dark hiq hnq)).symm.trans hAg6;refine .z .neq<|.z .pkf<|.z .mvB<|.sd (fun G145=>?_) (fun G145=>?_)
 ·
  exact absurd (by rw [(q_roll Oq hrelk1.dark hiq hnq)];rfl) G145
 refine .z .mvP<|.k 147 .func (dgchanges_any (d:=dnd1) (F:=Fg6) (D:=Ak1.dk) (Hp.loc0 (ag_dgo (ok))))<|.z .mvI<|.z .neq<|.z .pkf<|.nil ?_;refine .cd (fun C5=>?_) (fun C5=>?_)
 ·
  exact absurd rfl C5
 refine .skip<|.end<|hK1 _ _<|.r<|.z .mvI<|.z (.addI (b:=1))<|.z .asI<|.nil ?_;refine .end<|hJ0 _ _ _ ⟨i+1,Fg6,Ak1,Ek1,wk1,⟨rfl,rfl,rfl,rfl,rfl,rfl,trivial⟩,(ok.n3.n3.n2).k3.f3.f3.f2.e3,by omega,by omega,hrelk1,hlfk1,hlimk1,hwzk1,rfl⟩ (by omega)
theorem aquiet_row {h:Heap} {a:Option Addr} {n c:Nat} {l:List ROp6} {x y:UInt8} {o:ROp6} (hl:RwB 6 ROp6.cells ROp6.sb h any_ (a,n,c) l∧OpsOk6 l) (ho:RdL h any_ any_ (o.ba,o.bl.length,o.bc) o.bl∧InO o):HC Tryz.prog 9 #[.agg #[bv x,bv y],.slice a n c,.agg o.cells.toArray] h (fun v h'=>v=.bool true∧Ext h h'):=by
 obtain ⟨hl,hs⟩:=hl;obtain rfl:n=l.length:=hl.n;exact aquiet_walk hl hs x.toNat_lt y.toNat_lt ho.1
end Go.Proofs.YtpeaicddbnghfaaGreat
namespace Go.HL
open Go Go.RowKit Go.ChangeShapes Go.WideShapes Go.ChangeAt
theorem okWide_array {P:Program} {w:World} {r:Reach} {base:Nat} {t e:TypeId} {n:Nat} {v:Value} (ht:P.underlying t=some (.array n e)) (h:Value.okWide P w r base t v):∃cs,v=.agg cs∧cs.size=P.cellsOf t:=by
 simp only [Value.okWide,ht] at h;obtain ⟨cs,h1,h2,_⟩:=h;exact ⟨cs,h1,h2⟩
theorem all_bv:∀ {cs:List Value},(∀i (h:i<cs.length),∃y:UInt8,cs[i]=bv y)→∃l:List UInt8,cs=l.map bv
 | [],_=>⟨[],rfl⟩
 | c::cs,h=>by
  obtain ⟨y,hy⟩:=h 0 (by simp);obtain ⟨l,hl⟩:=all_bv (cs:=cs) fun i hi=>by
   have:=h (i+1) (by simp;omega);simpa using this
  exact ⟨y::l,by rw [hl,List.map_cons,←hy];rfl⟩
theorem Opn.arrU8 {P:Program} {t e:TypeId} {n:Nat} (ht:P.underlying t=some (.array n e)) (he:P.underlying e=some (.int .u8)) (hc:P.cellsOf t=n) (hc1:P.cellsOf e=1):Opn P t (fun _ cs (l:List UInt8)=>cs=l.map bv∧l.length=n):=⟨fun {_ _ _ _ _ _ cs _} hx=>by
 obtain ⟨xs,m,_,_,hl,hn,hel⟩:=DataW.trod_array ht hx;rw [hc] at hl;obtain ⟨l,rfl⟩:=all_bv (cs:=cs) fun i hi=>by
  have h1:=hel i (by omega);rw [hc1,List.getElem?_eq_getElem (by omega)] at h1;obtain ⟨y,hy⟩:=(Opn.u8 he).run h1;refine ⟨y,?_⟩;have h2:((cs.drop (i*1)).take 1)[0]? = some (bv y):=by rw [hy];rfl
  rw [List.getElem?_take_of_lt (by omega),List.getElem?_drop,Nat.mul_one,Nat.add_zero,List.getElem?_eq_getElem hi] at h2;injection h2
 exact ⟨l,rfl,by simpa using hl⟩⟩
theorem len_2 {l:List UInt8} (h:l.length=2):∃a b,l=[a,b]:=by
 match l,h with
 | [a,b],_=>exact ⟨a,b,rfl⟩
end Go.HL
namespace Go.Proofs.YtpeaicddbnghfaaGreat
open Go Go.HL Go.ChangeShapes Go.WideShapes Go.ChangeAt Go.RowKit
theorem aheadQuiet_lifted (os:Os) (started:os.Started) (H:Type) (enc:TypeId × Value→H) :
  ReturnsInHanded {} Tryz.checked os 9 .any (Rows.aheadQuietSpec.pre6 enc Tryz.prog Tryz.f9 Rows.aheadQuietRow.domain false) (Rows.aheadQuietSpec.post enc Tryz.prog Tryz.f9 false true false false):=by
 refine returnsInHanded_of_change (C:=Tryz.checked) own_knob started (by kernel_rfl) Tryz.func9
  (ChangeSpec.witness6 (enc:=enc) (C:=Tryz.checked) false ⟨#[],#[.agg #[.int .u8 0,.int .u8 0],.slice none 0 0,.agg #[.int .u8 0,.int .i64 0,.int .i64 0,.int .u8 0,.bool false,.slice none 0 0]],[]⟩ 8 (by kernel_rfl) (by kernel_rfl) (by kernel_rfl) (by kernel_rfl)) ?_
 intro W base args ds gs before hval0 hW hcnd _;have hval:∀(j:Nat) t v,Tryz.f9.params[j]? = some t→args[j]? = some v→Value.okWide Tryz.prog W .any base t v:=hval0;have hW':=hW;obtain ⟨p,q,hA0,hV,rfl,hfz,hnd⟩:=hW;have hA:DataW.TrodAll enc Tryz.prog W 0 (fun _=>true) true Tryz.f9.params.toList args.toList ds p:=hA0;rw [Tryz.params9] at hA hval;obtain ⟨v0,vs0,d0,ds0,p0,q0,hargs,rfl,rfl,h0,r0⟩:=trodAll_cons hA;obtain ⟨v1,vs1,d1,ds1,p1,q1,rfl,rfl,rfl,h1,r1⟩:=trodAll_cons r0;obtain ⟨v2,vs2,d2,ds2,p2,q2,rfl,rfl,rfl,h2,r2⟩:=trodAll_cons r1;obtain ⟨rfl,rfl,rfl⟩:=trodAll_nil r2;obtain rfl:args = #[v0,v1,v2]:=by cases args;simp_all
 obtain ⟨cs0,rfl,_⟩:=okWide_array Tryz.underlying64 (hval 0 64 v0 rfl rfl);obtain ⟨l0,hy0,hl0⟩:=(Opn.arrU8 Tryz.underlying64 Tryz.underlying5 (by kernel_rfl) (by kernel_rfl)).arg h0;obtain ⟨x0a,x0b,rfl⟩:=len_2 hl0;obtain ⟨ys0⟩:=cs0;obtain rfl:ys0=_:=hy0;obtain ⟨a1,n1,c1,rfl⟩:=okWide_slice Tryz.underlying69 (hval 1 69 v1 rfl rfl);obtain ⟨l1,y1,hy1,hl1⟩:=opn_ops14.arg h1;obtain rfl:=sv_cells hy1;obtain ⟨cs2,rfl,_⟩:=okWide_struct Tryz.underlying73 (hval 2 73 v2 rfl rfl);obtain ⟨l2,hy2,hl2⟩:=opn_op14.arg h2;obtain ⟨ys2⟩:=cs2;obtain rfl:ys2=_:=hy2;refine ((aquiet_row (x:=x0a) (y:=x0b) (o:=l2) hl1 hl2).2 _ W (At.self W)).mono fun e W' ⟨v,h',he,at',hv,hx⟩=>?_;subst he;subst hv;exact ⟨_,rfl,law_post laid_out hW' rfl (by kernel_rfl) rfl Tryz.underlying4 rfl at' hx⟩
theorem aheadQuiet_holds:Rows.AheadQuietSaid:=
 OpenClaim.holds_of_wide 9 Tryz.f9 rfl rfl rfl rfl rfl rfl rfl ⟨rfl,rfl,rfl,rfl,rfl⟩ rfl rfl rfl rfl rfl (by kernel_rfl) Tryz.func9 (by kernel_rfl)
  (of_decide_eq_true (by kernel_rfl)) (by unfold Func.isWrapper;first | (rw [if_pos (by decide +kernel)];kernel_rfl) | (rw [if_neg (by decide +kernel)];exact ⟨rfl,rfl⟩))
  (fun os started H enc _=>aheadQuiet_lifted os started H enc)
end Go.Proofs.YtpeaicddbnghfaaGreat
