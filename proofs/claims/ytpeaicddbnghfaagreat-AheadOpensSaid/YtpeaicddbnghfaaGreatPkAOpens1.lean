/- What each operation of the model yields, as rules of the logic. Conditions: those that each rule names. Slices as lists of cells, and heaps that agree but for some blocks. Conditions: those that each fact names. The operations that make or turn memory, as rules of the logic. Conditions: those that each rule names. The rules of the logic in few words: code as a list of what is still to run. Conditions: those that each rule names. Memory as a list of separate items that may turn, and a list of items that are read alone. Conditions: those that each fact names. What values in memory read as: one relation for each type of plain data. Conditions: those that each fact names. A slice that grows by what its elements lead to, and a slice that is a part of it from its head on. Conditions: those that each fact names. Closed facts on the types of this translation, written by a program of this claim; each is decided by the kernel. Sums of bytes: sum.table, Sum, Next, foot, Seal, and the document's. Conditions: the slices are readable. Logs in plain terms: heads, frames, links, and how a log is scanned. Conditions: those that each fact names. Seals: sum.foot, Seal, and the document's Seal. Conditions: the slices are readable. Logs: Same, sizes, frames, heads, links and what is put, of the program and of the document. Conditions: the slices are readable, numbers in their ranges. Logs: links and what is put, of the program and of the document. Conditions: the slices are readable, numbers in their ranges. The document's Scan of a log. Conditions: the bytes are readable, at most 17000000. The document's Latest. Conditions: the row is readable. The pager that logs ahead: what is told of it; its pages are read. Conditions: the disk is in order; the pages stand where the pager has them. A disk, and a pager that logs ahead with its disk, each as one item that is told in plain terms alone; their calls so. Conditions: those that each fact names. The calls of a pager that logs ahead, told in plain terms alone. Conditions: the pager with its disk is one item, and few changes were made. All pages of a pager that logs ahead; does it tell what the document's tells. Conditions: both are in order. Opening a new disk, and a disk that a pager leaves; a head that was encoded; the chapter's examples, in plain terms. Conditions: those that each fact names. How arguments that come in read: types opened one by one. Conditions: those that each fact names. What a disk shows between a pager's calls: mark, log and file as they are read; frames laid over a file, one by one; in plain terms. Conditions: those that each fact names. copy of a slice that may be longer than what it is copied to. Conditions: the target is one's own. tomeref01.Join answers its rows of bytes, one behind the other. Conditions: the rows are readable, and few. What opening any files comes to, in plain terms: the document's answer and the program's. Conditions: those that each fact names. The document's answer to opening any files. Conditions: the bytes are readable, and few. The document's answer to opening any files. Conditions: the bytes are readable, and few. A file that is laid on a disk, in plain terms. Conditions: those that each fact names. make of a slice whose length is a number of any kind. Conditions: it is short. The law AheadOpens: what any files are when they are opened. Conditions: the bytes are readable. The law AheadOpens at arguments as they come in. Conditions: they are readable. The law AheadOpens returns true at every input and leaves its arguments as they were. Conditions: none. -/
import Derived.Test.YtpeaicddbnghfaaGreatPkA9
import Derived.Test.YtpeaicddbnghfaaGreatProg
import Derived.ChangeArms
import Derived.ChangeMaps5
import Derived.Test.YtpeaicddbnghfaaGreatRows
set_option maxRecDepth 100000
set_option maxHeartbeats 2000000
set_option linter.all false
namespace Go.HL
open Go
def boB (P:Program) (t:TypeId):Bool:=match P.underlying t with | some .bool=>true | _=>false
theorem boB_iff {P:Program} {t:TypeId} (h:boB P t=true):P.underlying t=some .bool:=by
 unfold boB at h;split at h<;>simp_all
theorem flatten_take {l:List (List UInt8)} {k:Nat} (h:k<l.length):(l.take (k+1)).flatten=(l.take k).flatten++l[k]:=by
 rw [List.take_succ_eq_append_getElem h,List.flatten_append];simp
namespace V
variable {P:Program} {s:Slots} {h:Heap} {d:Option Tmp} {ty:TypeId} {pos:String} {af:Array Edge} {g:Option (Nat × Bool)} {x y c:Operand} {t u:TypeId}
theorem eqGB {op:BinOp} {a b:Bool} {w:World} : (eqGuard op t x y (.bool a) (.bool b)).run P w=.ok () w:=by
 unfold eqGuard;cases op<;>simp
theorem equal_bo {a b:Bool} (ht:boB P t=true) (w:World):(Op.equal t (.bool a) (.bool b)).run P w=.ok (a == b) w:=run_equal_bool w t a b (boB_iff ht)
theorem boNeq {a b r:Bool} (hx:ev s x=.bool a) (hy:ev s y=.bool b) (ht:boB P t=true) (hr:(a != b)=r):OpV P ⟨d,.binOp .neq t x y u,ty,pos,af,g⟩ s h (.bool r):=fun w _=>by
 subst hr;simp [execOp,hx,hy,eqGB,binOp,equal_bo ht,bne]
end V
open Go
namespace OpV
variable {P:Program} {s:Slots} {h:Heap} {d:Option Tmp} {ty:TypeId} {pos:String} {af:Array Edge} {g:Option (Nat × Bool)} {x y c:Operand} {t u:TypeId}
theorem bNe {a b:Bool} (ht:boB P t=true) (hx:ev s x=.bool a:=by exact rfl) (hy:ev s y=.bool b:=by exact rfl):OpV P ⟨d,.binOp .neq t x y u,ty,pos,af,g⟩ s h (.bool (a != b)):=V.boNeq hx hy ht rfl
end OpV
open Go
section
variable {h0 h:Heap} {D:Nat→Prop} {M R:List Itm} {q0 q1 q2 q3 q4 q5 q6 q7 q8 q9:Itm}
theorem Hp.r4 (ok:Hp h0 D M (q0::q1::q2::q3::q4::R) h):q4.p h:=(ok.r q4 (by simp)).1
theorem Hp.r6 (ok:Hp h0 D M (q0::q1::q2::q3::q4::q5::q6::R) h):q6.p h:=(ok.r q6 (by simp)).1
end
open Go
section
variable {h0 h h':Heap} {D:Nat→Prop} {M R:List Itm} {x:SV} {k:Nat} {e:TypeId} {xs ys:List Value}
theorem snocB {l:List UInt8} {x:UInt8} : l.map bv++[.int .u8 x.toNat]=(l++[x]).map bv:=by simp [bv]
theorem snocF {α:Type} {f:α→List Value} {l:List α} {x:α} : l.flatMap f++f x=(l++[x]).flatMap f:=by simp
end
open Go
section
variable {α:Type} [Rep α] {h h' h0:Heap} {e:TypeId} {x8 x3:SV} {E D G:Nat→Prop} {all l:List α} {M R:List Itm} {b:Itm}
theorem Hp.accEq (ok:Hp h0 D (accI e x8 x3 E all l::M) R h):Hp h0 D (accI e x8 x8 E all all::M) R h:=by
 have c0:Acc h e x8 x3 E all l:=ok.m0;exact ok.re _ ⟨c0.cap,c0.rd,fun b o n1 c1 o' n' c' e1 e2 _=>by rw [e1] at e2;cases e2;exact Nat.le_refl _,c0.apart⟩ (fun j hj=>hj.elim .inl (·.elim .inl fun h=>.inr (.inr h)))
end
theorem All2.len_flat {α:Type} [Rep α] {h:Heap} {E:Nat→Prop} {css:List (List Value)} {l:List α} (r:All2 (Rep.rd h E) css l):css.flatten.length=l.length*Rep.k α:=by
 rw [flatten_len (k:=Rep.k α) (fun c hc=>by
  obtain ⟨i,hi,rfl⟩:=List.mem_iff_getElem.1 hc;exact Rep.len (r.2 i hi (by have:=r.1;omega))),r.1]
theorem OpA.appL {α:Type} [Rep α] {P:Program} {s:Slots} {h0 h:Heap} {D:Nat→Prop} {M R:List Itm} {d:Option Tmp} {ty:TypeId} {pos:String} {af:Array Edge} {g:Option (Nat × Bool)} {x y:Operand} {t e:TypeId} {k bytes:Nat} {z:Value} {a:Option Addr} {n c:Nat} {x8:SV} {a3:Option Addr} {n3 c3:Nat} {E:Nat→Prop} {all l:List α}
  (ht:elB P t=some e) (hk:szB P e=some (k+1)) (hby:byB P e=some (bytes+1)) (hz:zrB P e=some z) (ok:Hp h0 D (capI (k+1) e (a,n,c) []::accI e x8 (a3,n3,c3) E all l::M) R h)
  (hfit:l.length*(k+1)*(bytes+1)≤140737488355328) (hx:ev s x=.slice a n c:=by exact rfl) (hy:ev s y=.slice a3 n3 c3:=by exact rfl) (hzk:z.cells.size=k+1:=by exact rfl) (hka:Rep.k α=k+1:=by exact rfl) :
  OpA P ⟨d,.call ⟨.builtin .append,#[x,y],#[t,t]⟩,ty,pos,af,g⟩ s h (fun v' h'=>∃a' n' m',v'=.slice a' n' m'∧Hp h0 D (accI e (a',n',m') (none,0,0) E l []::M) R h'):=by
 have c0:Acc h e x8 (a3,n3,c3) E all l:=ok.m1;obtain ⟨css,h1,h2⟩:=c0.l3.cells;have hmm:=(List.pairwise_cons.1 ok.mm).1 _ List.mem_cons_self;have hl2:=h2.len_flat;rw [hka] at h1 hl2;refine OpA.mk (V.append hx hy ht hk hby hz hzk ok.m0 h1 h2.one (by simp only [List.length_nil,Nat.zero_add];rw [hl2];exact hfit)) fun v' h' q=>?_;obtain ⟨x',rfl⟩:=q.cap.form;refine ⟨x'.1,x'.2.1,x'.2.2,rfl,?_⟩;have hap:∀j,E j→¬blkC (.slice a n c) j:=fun j hj hb=>hmm j hb (.inr (.inr hj));have ok2:=ok.fuse ⟨fun _=>True,fun j=>blkC (sv (a,n,c)) j∨(blkC (sv x8) j∨blkC (sv (a3,n3,c3)) j∨E j),fun _ _ _ _ _ _=>trivial⟩ trivial (fun j hj=>hj);refine ok2.upd q.chg (fun j hj=>.inl hj) _ ⟨⟨css,?_,h2.mono fun _ _ r=>Rep.st q.chg hap r⟩,RdL.nil _ _ _,fun _ _ _ _ _ _ _ e=>(by cases e),fun j hj hb=>?_⟩ (fun j hj=>?_)
 ·have:=q.cap;rw [←hka] at this;simpa using this
 ·rcases q.place j hb with h4 | h4
  ·exact hap j hj h4
  ·have:=((ok.m _ (List.mem_cons_of_mem _ List.mem_cons_self)).2 j (.inr (.inr hj))).1;omega
 ·rcases hj with h3 | ⟨o,n',c',e⟩ | h3
  ·rcases q.place j h3 with h4 | h4
   ·exact .inl (.inl h4)
   ·exact .inr ⟨h4,q.cap.lt h3⟩
  ·cases e
  ·exact .inl (.inr (.inr (.inr h3)))
end Go.HL
namespace Go.Proofs.YtpeaicddbnghfaaGreat
open Go Go.HL
namespace T
theorem bo4:boB Go.Proofs.Tryz.prog 4=true:=by kernel_rfl
theorem fd24_0:fdB Go.Proofs.Tryz.prog 24 0=some (0,22,0+1):=by kernel_rfl
theorem fd24_1:fdB Go.Proofs.Tryz.prog 24 1=some (1,22,0+1):=by kernel_rfl
theorem fd24_2:fdB Go.Proofs.Tryz.prog 24 2=some (2,5,0+1):=by kernel_rfl
end T
open Go Go.HL
theorem rnext_any {h:Heap} {F E:Nat→Prop} {a:Option Addr} {c p:Nat} {l:List UInt8} (hp:p<18446744073709551616) (hl:RdL h F E (a,l.length,c) l) :
  HC Tryz.prog 167 #[.int .u64 (p:Int),.slice a l.length c] h (fun v h'=>v=.int .u64 ((nextN p l:Nat):Int)∧h'=h):=by
 have hc2:=hl.m;have hc1:l.length≤c:=hl.c;simp only at hc2;refine HC.go Tryz.func167 23 ?_;refine .seq<|.r<|.z .asI<|.nil ?_;refine .seq<|.r<|.z .mvI<|.z .asI<|.nil ?_;refine .seq<|.seq<|.r<|.z .asI<|.nil ?_;refine .block fun K0 hK0=>.loop (fun m s hh=>∃(i q:Nat),Has s [(1,.slice a l.length c),(5,.int .u64 (q:Int)),(6,.int .i64 (i:Int))]∧h=hh∧i≤l.length∧q=nextN p (l.take i)∧m=l.length-i) ?_ ?_
 ·exact ⟨_,0,p,⟨rfl,rfl,rfl,trivial⟩,rfl,Nat.zero_le _,rfl,rfl⟩
 rintro _ _ _ ⟨i,q,hs,rfl,hi,hq,rfl⟩ J0 hJ0;refine .frame hs fun τ=>?_;refine .seq<|.seq<|.r<|.z .mvI<|.z .mvS<|.z (.len T.el22)<|.z .lss<|.nil ?_;refine .cdr (fun C0=>?_) (fun C0=>?_)
 ·
  have hil:i=l.length:=by omega
  rw [hil,List.take_length] at hq;refine .exit<|hK0 _ _<|.seq<|.r<|.z .mvI<|.z .asI<|.nil ?_;refine .ret ⟨.int .u64 (q:Int),Res.one rfl rfl,⟨by rw [hq],rfl⟩⟩
 have hil:i<l.length:=by omega
 have hql:q<18446744073709551616:=by rw [hq];exact nextN_lt hp _
 have hxl:=byte_lt l[i];have hsn:nextN p (l.take (i+1))=nextB q l[i]:=by rw [take_next hil,nextN_snoc,hq]
 refine .skip<|.seq<|.block fun K1 hK1=>.r<|.z .mvI<|.z .mvS<|.z .mvI<|?_;obtain ⟨bb1,oo1,rfl,fb1⟩:=hl.pos (by omega);refine .z (.ix1 i T.el22 T.sz5)<|.z (.ld T.ag5 (hl.u8 (i:=i) (by omega)))<|.z (.cvs T.in77 T.in5 (M:=18446744073709551616) rfl rfl)<|.z (.bxor (M:=18446744073709551616) rfl rfl)<|.z (.muln (M:=18446744073709551616) rfl rfl (b:=1099511628211))<|.z .asI<|.nil ?_;refine .end<|hK1 _ _<|.r<|.z .mvI<|.z .add<|.z .asI<|.nil ?_;refine .end<|hJ0 _ _ _ ⟨i+1,_,⟨rfl,rfl,rfl,trivial⟩,rfl,by omega,hsn.symm,rfl⟩ (by omega)
theorem stepF_all (size:Nat) (s:Sc) (f:Fr):(stepF size s f).all=s.all++[f]:=by simp only [stepF];split<;>simp_all
theorem rseal_any {h:Heap} {F E:Nat→Prop} {a:Option Addr} {c:Nat} {l:List UInt8} (hl:RdL h F E (a,l.length,c) l) (hN:l.length≤1000000000) :
  HC Tryz.prog 166 #[.slice a l.length c] h (fun v h'=>Own h h' 1 5 v ((sealN l).map bv)):=by
 have hc2:=hl.m;have hc1:l.length≤c:=hl.c;simp only at hc2;have ok:=(Hp.nil h none_).arg hl;refine HC.go Tryz.func166 24 ?_;refine .seq<|.r<|.z .asS<|.nil ?_;refine .seq<|.r<|.z .mvS<|.k 7 .func (rsum_any (a:=a) (c:=c) (l:=l) ok.r0)<|.z .asI<|.nil ?_;refine .seq<|.r<|.a' 8 (.lit [] (cs:=[]) T.el22 T.sz5 T.zr5 ok trivial) ?_;rintro _ η1 ⟨pb1,rfl,ok,xe⟩;refine .z .mvS<|.a' 10 (.app (news:=l.map bv) T.el22 T.sz5 T.by5 T.zr5 ok (ok.r0).by bv_all (by simp only [List.length_map,List.length_append,List.length_take,List.length_cons,List.length_nil,List.length_replicate,List.length_range];omega)) ?_;rintro _ η2 ⟨ya1,yn1,yc1,rfl,ok,ap⟩;have ok:=ok.cx (ys:=(l).map bv) (by simp [bv]);obtain rfl:yn1=(l).length:=ok.lenB;refine .z .asS<|.nil ?_;refine .seq<|.seq<|.r<|.z .asI<|.nil ?_;refine .block fun K0 hK0=>.loop (fun m s hh=>∃(k ss:Nat) (a1:Option Addr) (n1 c1:Nat),Has s [(3,.int .u32 (ss:Int)),(4,.slice a1 n1 c1),(5,.int .i64 (k:Int))]∧Hp h none_ [capI 1 5 (a1,n1,c1) ((l++(List.range k).map fun j=>UInt8.ofNat (sumN l / 256 ^ j)).map bv)] [rdI (fun j=>F j∧j<h.size) (fun j=>E j∧j<h.size) (a,l.length,c) l] hh∧k≤4∧ss=sumN l / 256 ^ k∧m=4-k) ?_ ?_
 ·exact ⟨_,0,_,_,_,_,⟨rfl,rfl,rfl,trivial⟩,ok.cx (by simp),Nat.zero_le _,by simp,rfl⟩
 rintro _ _ η3 ⟨k,ss,a1,n1,c1,hs,ok,hk,hss,rfl⟩ J0 hJ0;refine .frame hs fun τ=>?_;refine .seq<|.seq<|.r<|.z .mvI<|.z .lss<|.nil ?_;refine .cdr (fun C0=>?_) (fun C0=>?_)
 ·
  have hk4:k=4:=by omega
  refine .exit<|hK0 _ _<|.seq<|.r<|.z .mvS<|.z .asS<|.nil ?_;refine .ret ⟨.slice a1 n1 c1,Res.one rfl rfl,by have:=ok.toOwn;rw [hk4] at this;simpa [sealN,List.range_succ] using this⟩
 have hsl:ss<4294967296:=Nat.lt_of_le_of_lt (by rw [hss];exact Nat.div_le_self _ _) (sumN_lt l);refine .skip<|.seq<|.block fun K1 hK1=>.seq<|.r<|.z .mvS<|.z .mvI<|.z (.remn (b:=256))<|.z (.cvm T.in5 T.in243 (M:=256) rfl rfl)<|.a' 19 (.lit [.tmp 18] (cs:=[.int .u8 ((((ss%256)%256):Nat):Int)]) T.el22 T.sz5 T.zr5 ok ⟨rfl,trivial⟩) ?_;rintro _ η4 ⟨pb2,rfl,ok,xe⟩;refine .a' 20 (.app (news:=[.int .u8 ((((ss%256)%256):Nat):Int)]) T.el22 T.sz5 T.by5 T.zr5 ok.n1 (ok.n1.m1).sl (oneL rfl) (by simp only [List.length_map,List.length_append,List.length_take,List.length_cons,List.length_nil,List.length_replicate,List.length_range];omega)) ?_;rintro _ η5 ⟨ya2,yn2,yc2,rfl,ok,ap⟩;refine .z .asS<|.nil ?_;refine .r<|.z .mvI<|.z (.quon (M:=4294967296) rfl rfl (b:=256))<|.z .asI<|.nil ?_;refine .end<|hK1 _ _<|.r<|.z .mvI<|.z .add<|.z .asI<|.nil ?_;refine .end<|hJ0 _ _ _ ⟨k+1,_,_,_,_,⟨rfl,rfl,rfl,trivial⟩,ok.k1.cx (by simp [List.range_succ,bv_ofNat,hss]),by omega,by rw [hss,Nat.div_div_eq_div_mul,←Nat.pow_succ],rfl⟩ (by omega)
theorem rsize_any {h:Heap} {z:Int} (hz : -9223372036854775808≤z∧z≤9223372036854775807) :
  HC Tryz.prog 164 #[.int .i64 z] h (fun v h'=>v=.bool (okZ z)∧h'=h):=by
 refine HC.go Tryz.func164 11 ?_;refine .seq<|.r<|.z .asB<|.nil ?_;refine .seq<|.seq<|.r<|.z .asI<|.nil ?_;refine .block fun K0 hK0=>.loop (fun m s hh=>∃(k:Nat),Has s [(0,.int .i64 z),(3,.int .i64 (k:Int))]∧h=hh∧(k=256∨k=512∨k=1024∨k=2048∨k=4096∨k=8192)∧(z=256∨z=512∨z=1024∨z=2048∨z=4096→(k:Int)≤z)∧m=8192-k) ?_ ?_
 ·exact ⟨_,256,⟨rfl,rfl,trivial⟩,rfl,.inl rfl,by omega,rfl⟩
 rintro _ _ _ ⟨k,hs,rfl,hk,hzk,rfl⟩ J0 hJ0;refine .frame hs fun τ=>?_;refine .seq<|.seq<|.r<|.z .mvI<|.z .leq<|.nil ?_;refine .cdr (fun C0=>?_) (fun C0=>?_)
 ·
  refine .exit<|hK0 _ _<|.seq<|.r<|.z .asB<|.nil ?_;refine .ret ⟨.bool false,Res.one rfl rfl,⟨by first | exact congrArg _ (by unfold okZ;rw [decide_eq_decide];omega) | exact congrArg _ (by unfold okZ;exact (decide_eq_false (by omega)).symm) | exact congrArg _ (by unfold okZ;exact (decide_eq_true (by omega)).symm),rfl⟩⟩
 refine .skip<|.seq<|.block fun K1 hK1=>.seq<|.r<|.z .mvI<|.z .mvI<|.z .eql<|.nil ?_;refine .cd (fun C1=>?_) (fun C1=>?_)
 ·
  refine .seq<|.r<|.z .asB<|.nil ?_;refine .ret ⟨.bool true,Res.one rfl rfl,⟨by first | exact congrArg _ (by unfold okZ;rw [decide_eq_decide];omega) | exact congrArg _ (by unfold okZ;exact (decide_eq_false (by omega)).symm) | exact congrArg _ (by unfold okZ;exact (decide_eq_true (by omega)).symm),rfl⟩⟩
 refine .skip<|.end<|hK1 _ _<|.r<|.z .mvI<|.z .mul<|.z .asI<|.nil ?_;refine .end<|hJ0 _ _ _ ⟨k*2,⟨rfl,rfl,trivial⟩,rfl,by omega,by omega,rfl⟩ (by omega)
theorem may_any {h:Heap} {F E:Nat→Prop} {z1 z2:Int} {a:Option Addr} {c:Nat} {l:List UInt8} (hl:RdL h F E (a,l.length,c) l) :
  HC Tryz.prog 114 #[.agg #[.int .i64 z1,.int .i64 z2,.slice a l.length c]] h (fun v h'=>v=.bool (okF ⟨z1,z2,l⟩)∧Ext h h'):=by
 have hc2:=hl.m;have hc1:l.length≤c:=hl.c;simp only at hc2;have ok:=(Hp.nil h none_).arg hl;refine HC.go Tryz.func114 27 ?_;refine .seq<|.r<|.a' 1 (.bxA (cs:=[.int .i64 z1,.int .i64 z2,.slice a l.length c]) ok) ?_;rintro _ η1 ⟨pb1,rfl,ok,xe⟩;refine .z .asB<|.nil ?_;refine .seq<|.r<|.z (.fa T.fd102_0)<|.z (.ldx T.ag3 ok.m0)<|.z .geq<|.z .mvB<|.sd (fun G6=>?_) (fun G6=>?_)
 ·
  refine .z (.fa T.fd102_0)<|.z (.ldx T.ag3 ok.m0)<|.z .leq<|.z .pkt<|.z .mvB<|.sd (fun G11=>?_) (fun G11=>?_)
  ·
   refine .z (.fa T.fd102_1)<|.z (.ldx T.ag3 ok.m0)<|.z .geq<|.z .pkt<|.z .mvB<|.sd (fun G16=>?_) (fun G16=>?_)
   ·
    refine .z (.fa T.fd102_1)<|.z (.ldx T.ag3 ok.m0)<|.z .leq<|.z .pkt<|.z .mvB<|.sd (fun G21=>?_) (fun G21=>?_)
    ·
     refine .z (.fa T.fd102_2)<|.z (.ldx T.ag22 ok.m0)<|.z (.len T.el22)<|.k 25 .func (rsize_any (z:=(l.length:Int)) (by omega))<|.z .pkt<|.z .asB<|.nil ?_;refine .ret ⟨.bool (okZ (l.length:Int)),Res.one rfl rfl,⟨by first | exact congrArg _ (by rw [okZ_nat,okF_t (by omega)]) | exact congrArg _ (okF_f (by omega)).symm,ok.chg⟩⟩
    refine .y<|.y<|.y<|.y<|.z .pkf<|.z .asB<|.nil ?_;refine .ret ⟨.bool false,Res.one rfl rfl,⟨by first | exact congrArg _ (by rw [okZ_nat,okF_t (by omega)]) | exact congrArg _ (okF_f (by omega)).symm,ok.chg⟩⟩
   refine .y<|.y<|.y<|.z .pkf<|.z .mvB<|.y<|.y<|.y<|.y<|.z .pkf<|.z .asB<|.nil ?_;refine .ret ⟨.bool false,Res.one rfl rfl,⟨by first | exact congrArg _ (by rw [okZ_nat,okF_t (by omega)]) | exact congrArg _ (okF_f (by omega)).symm,ok.chg⟩⟩
  refine .y<|.y<|.y<|.z .pkf<|.z .mvB<|.y<|.y<|.y<|.z .pkf<|.z .mvB<|.y<|.y<|.y<|.y<|.z .pkf<|.z .asB<|.nil ?_;refine .ret ⟨.bool false,Res.one rfl rfl,⟨by first | exact congrArg _ (by rw [okZ_nat,okF_t (by omega)]) | exact congrArg _ (okF_f (by omega)).symm,ok.chg⟩⟩
 refine .y<|.y<|.y<|.z .pkf<|.z .mvB<|.y<|.y<|.y<|.z .pkf<|.z .mvB<|.y<|.y<|.y<|.z .pkf<|.z .mvB<|.y<|.y<|.y<|.y<|.z .pkf<|.z .asB<|.nil ?_;refine .ret ⟨.bool false,Res.one rfl rfl,⟨by first | exact congrArg _ (by rw [okZ_nat,okF_t (by omega)]) | exact congrArg _ (okF_f (by omega)).symm,ok.chg⟩⟩
theorem rstart_bad {h:Heap} {z:Int} {salt:Nat} (hz : -9223372036854775808≤z∧z≤9223372036854775807) (hk:okZ z=false) :
  HC Tryz.prog 112 #[.int .i64 z,.int .u64 (salt:Int)] h (fun v h'=>v=.tuple #[.slice none 0 0,.int .i64 1]∧h'=h):=by
 refine HC.go Tryz.func112 20 ?_;refine .seq<|.r<|.z .asS<|.z .asI<|.nil ?_;refine .seq<|.seq<|.r<|.z .mvI<|.k 8 .func (rsize_any (z:=z) (by omega))<|.z .not<|.nil ?_;refine .cond (fun C0=>?_) (fun C0=>?_)
 ·
  refine .seq<|.r<|.z .asS<|.z .asI<|.nil ?_;refine .ret ⟨.tuple #[.slice none 0 0,.int .i64 1],Res.two rfl rfl rfl,⟨rfl,rfl⟩⟩
 exact absurd hk (by simpa using C0)
theorem rstart_ok {h:Heap} {n salt:Nat} (hn:n<9223372036854775808) (hs:salt<18446744073709551616) (hk:okZ (n:Int)=true) :
  HC Tryz.prog 112 #[.int .i64 (n:Int),.int .u64 (salt:Int)] h (fun v h'=>∃w,v=.tuple #[w,.int .i64 0]∧Own h h' 1 5 w ((headN n salt).map bv)):=by
 have ok:=Hp.nil h none_;refine HC.go Tryz.func112 20 ?_;refine .seq<|.r<|.z .asS<|.z .asI<|.nil ?_;refine .seq<|.seq<|.r<|.z .mvI<|.k 8 .func (rsize_any (z:=(n:Int)) (by omega))<|.z .not<|.nil ?_;refine .cond (fun C0=>?_) (fun C0=>?_)
 ·
  rw [hk] at C0;exact absurd C0 (by decide)
 refine .skip<|.seq<|.r<|.a' 10 (.lit [.const (.int .u8 116),.const (.int .u8 111),.const (.int .u8 109),.const (.int .u8 101)] (cs:=[.int .u8 116,.int .u8 111,.int .u8 109,.int .u8 101]) T.el22 T.sz5 T.zr5 ok ⟨rfl,rfl,rfl,rfl,trivial⟩) ?_;rintro _ η1 ⟨pb1,rfl,ok,xe⟩;have ok:=ok.cx (ys:=([116,111,109,101]:List UInt8).map bv) rfl;refine .z .mvI<|.z (.cvs T.in77 T.in3 (M:=18446744073709551616) rfl rfl)<|.c' 13 .func (rfixed_any (n:=n) (size:=4) (by omega) (by omega) (by omega)) ?_;rintro _ η2 own;obtain ⟨ya1,yc1,rfl⟩:=own.formB;have ok:=ok.own own;refine .a' 14 (.app (news:=(fixedN n 4).map bv) T.el22 T.sz5 T.by5 T.zr5 ok.n1 (ok.n1.m1).sl (oneL rfl) (by simp only [List.length_map,List.length_append,List.length_take,List.length_cons,List.length_nil,List.length_replicate,List.length_range,fixedN_len,sealN_len];omega)) ?_;rintro _ η3 ⟨ya2,yn2,yc2,rfl,ok,ap⟩;have ok:=ok.cx (ys:=([116,111,109,101]++(fixedN n 4)).map bv) (by simp [bv]);obtain rfl:yn2=([116,111,109,101]++(fixedN n 4)).length:=ok.lenB;refine .z .asS<|.nil ?_;refine .seq<|.r<|.z .mvS<|.z .mvI<|.c' 17 .func (rfixed_any (n:=salt) (size:=8) (by omega) (by omega) (by omega)) ?_;rintro _ η4 own;obtain ⟨ya3,yc3,rfl⟩:=own.formB;have ok:=ok.own own;refine .a' 18 (.app (news:=(fixedN salt 8).map bv) T.el22 T.sz5 T.by5 T.zr5 ok.n1 (ok.n1.m1).sl (oneL rfl) (by simp only [List.length_map,List.length_append,List.length_take,List.length_cons,List.length_nil,List.length_replicate,List.length_range,fixedN_len,sealN_len];omega)) ?_;rintro _ η5 ⟨ya4,yn4,yc4,rfl,ok,ap⟩;have ok:=ok.cx (ys:=([116,111,109,101]++(fixedN n 4)++(fixedN salt 8)).map bv) (by simp [bv]);obtain rfl:yn4=([116,111,109,101]++(fixedN n 4)++(fixedN salt 8)).length:=ok.lenB;refine .c' 19 .func (rseal_any (a:=ya4) (c:=yc4) (l:=[116,111,109,101]++(fixedN n 4)++(fixedN salt 8)) (RdL.ofCapB (v:=(ya4,([116,111,109,101]++(fixedN n 4)++(fixedN salt 8)).length,yc4)) (l:=([116,111,109,101]++(fixedN n 4)++(fixedN salt 8))) ok.m0) (by simp [fixedN_len]<;>omega)) ?_;rintro _ η6 own;obtain ⟨ya5,yc5,rfl⟩:=own.formB;have ok:=ok.own own;refine .z .asS<|.z .asI<|.nil ?_;refine .ret ⟨.tuple #[.slice ya5 ((sealN ([116,111,109,101]++(fixedN n 4)++(fixedN salt 8))).length) yc5,.int .i64 0],Res.two rfl rfl rfl,_,rfl,by have:=ok.toOwn;simpa [headN] using this⟩
theorem rlink_any {h:Heap} {F E:Nat→Prop} {p q r:Nat} {a:Option Addr} {c:Nat} {l:List UInt8} (hp:p<9223372036854775808) (hq:q<9223372036854775808) (hr:r<18446744073709551616) (hN:l.length≤100000000) (hl:RdL h F E (a,l.length,c) l) :
  HC Tryz.prog 115 #[.int .u64 (r:Int),.agg #[.int .i64 (p:Int),.int .i64 (q:Int),.slice a l.length c]] h (fun v h'=>v=.int .u64 ((linkN r ⟨(p:Int),(q:Int),l⟩:Nat):Int)∧Ext h h'):=by
 have hc2:=hl.m;have hc1:l.length≤c:=hl.c;simp only at hc2;have ok:=(Hp.nil h none_).arg hl;refine HC.go Tryz.func115 21 ?_;refine .seq<|.r<|.a' 3 (.bxA (cs:=[.int .i64 (p:Int),.int .i64 (q:Int),.slice a l.length c]) ok) ?_;rintro _ η1 ⟨pb1,rfl,ok,xe⟩;refine .z .asI<|.nil ?_;refine .seq<|.a 10 (fun fl hh=>Hp h none_ [boxI pb1 102 [.int .i64 (p:Int),.int .i64 (q:Int),.slice a l.length c]] [rdI (fun j=>F j∧j<h.size) (fun j=>E j∧j<h.size) (a,l.length,c) l] hh) mixed ?_;have hS:=ok;refine .g 0 false rfl 6 hS (fun _=>.fa T.fd102_0)<|.lw 1 false rfl 7 hS (fun _ _ hS=>.ldx T.ag3 hS.m0)<|.g 2 false rfl 8 hS (fun _=>.cvs T.in77 T.in3 (M:=18446744073709551616) rfl rfl)<|.g 4 false rfl 10 hS (fun _=>.fa T.fd102_1)<|.lw 5 false rfl 11 hS (fun _ _ hS=>.ldx T.ag3 hS.m0)<|.g 6 false rfl 12 hS (fun _=>.cvs T.in77 T.in3 (M:=18446744073709551616) rfl rfl)<|.o1 3<|.c' false rfl 9 .func (rfixed_any (n:=p) (size:=4) (by omega) (by omega) (by omega)) ?_;rintro _ η2 own;obtain ⟨ya1,yc1,rfl⟩:=own.formB;have ok:=ok.own own;refine ⟨ok.n1.k1,?_⟩;have hS:=ok.n1.k1;refine .o1 7<|.c' false rfl 13 .func (rfixed_any (n:=q) (size:=4) (by omega) (by omega) (by omega)) ?_;rintro _ η3 own;obtain ⟨ya2,yc2,rfl⟩:=own.formB;have ok:=ok.own own;refine ⟨ok.n2.k1,?_⟩;have hS:=ok.n2.k1;refine .o1 8<|.a' false rfl 14 (.app (news:=(fixedN q 4).map bv) T.el22 T.sz5 T.by5 T.zr5 ok.n1 (ok.n1.m1).sl (oneL rfl) (by simp only [List.length_map,List.length_append,List.length_take,List.length_cons,List.length_nil,List.length_replicate,List.length_range,fixedN_len,sealN_len];omega)) ?_;rintro _ η4 ⟨ya3,yn3,yc3,rfl,ok,ap⟩;have ok:=ok.cx (ys:=((fixedN p 4)++(fixedN q 4)).map bv) (by simp [bv]);obtain rfl:yn3=((fixedN p 4)++(fixedN q 4)).length:=ok.lenB;refine ⟨ok.n2.k1,?_⟩;have hS:=ok.n2.k1;refine .g 9 false rfl 5 hS (fun _=>.asS)<|.e ?_;refine .seq<|.r<|.z .mvI<|.z .mvS<|.z (.fa T.fd102_2)<|.z (.ldx T.ag22 ok.m2)<|.a' 19 (.app (news:=l.map bv) T.el22 T.sz5 T.by5 T.zr5 ok (ok.r0).by bv_all (by simp only [List.length_map,List.length_append,List.length_take,List.length_cons,List.length_nil,List.length_replicate,List.length_range,fixedN_len,sealN_len];omega)) ?_;rintro _ η5 ⟨ya4,yn4,yc4,rfl,ok,ap⟩;have ok:=ok.cx (ys:=((fixedN p 4)++(fixedN q 4)++l).map bv) (by simp [bv]);obtain rfl:yn4=((fixedN p 4)++(fixedN q 4)++l).length:=ok.lenB;refine .k 20 .func (rnext_any (by omega) (a:=ya4) (c:=yc4) (l:=(fixedN p 4)++(fixedN q 4)++l) (RdL.ofCapB (v:=(ya4,((fixedN p 4)++(fixedN q 4)++l).length,yc4)) (l:=((fixedN p 4)++(fixedN q 4)++l)) ok.m0))<|.z .asI<|.nil ?_;refine .ret ⟨.int .u64 ((nextN r ((fixedN p 4)++(fixedN q 4)++l):Nat):Int),Res.one rfl rfl,⟨by rw [linkN_eq],ok.chg⟩⟩
theorem first_any {h:Heap} {F E:Nat→Prop} {a:Option Addr} {c:Nat} {l:List UInt8} (h20:20≤l.length) (hl:RdL h F E (a,l.length,c) l) :
  HC Tryz.prog 113 #[.slice a l.length c] h (fun v h'=>v=.int .u64 ((firstN l:Nat):Int)∧h'=h):=by
 have hc2:=hl.m;have hc1:l.length≤c:=hl.c;simp only at hc2;have h8:=rdN_lt8 l 8;refine HC.go Tryz.func113 14 ?_;refine .seq<|.r<|.z .asI<|.nil ?_;refine .seq<|.r<|.z .mvS<|.k 7 .func (rread_any (p:=8) (size:=8) (a:=a) (c:=c) (l:=l) hl (by omega) (by omega) (by omega))<|.z .mvU<|.z .ex<|.z .ex<|.z .asI<|.z .asI<|.nil ?_;refine .seq<|.r<|.z .mvI<|.z .mvS<|.z (.sl_h ((l.take 20).length) T.el22 T.sz5 (hb:=by (simp;omega)))<|?_;have hk1:RdL h F E (a,(l.take 20).length,c) (l.take 20):=(hl).pre (l2:=l.take 20) (List.take_prefix _ _);refine .k 13 .func (rnext_any (by omega) (a:=a) (c:=c) (l:=l.take 20) hk1)<|.z .asI<|.nil ?_;refine .ret ⟨.int .u64 ((nextN (rdN l 8 8) (l.take 20):Nat):Int),Res.one rfl rfl,⟨by rw [firstN],rfl⟩⟩
theorem rstart_any {h:Heap} {n salt:Nat} (hn:n<9223372036854775808) (hs:salt<18446744073709551616) :
  HC Tryz.prog 112 #[.int .i64 (n:Int),.int .u64 (salt:Int)] h (fun v h'=>(okSz n=false∧v=.tuple #[.slice none 0 0,.int .i64 1]∧Ext h h')∨(okSz n=true∧∃w,v=.tuple #[w,.int .i64 0]∧Own h h' 1 5 w ((headN n salt).map bv))):=by
 cases h2:okSz n with
 | false=>exact (rstart_bad (by omega) (by rw [okZ_nat];exact h2)).mono fun v h' q=>.inl ⟨rfl,q.1,by rw [q.2];exact Ext.refl _⟩
 | true=>exact (rstart_ok hn hs (by rw [okZ_nat];exact h2)).mono fun v h' q=>.inr ⟨rfl,q⟩
theorem rscan_any {h:Heap} {F E:Nat→Prop} {a:Option Addr} {c:Nat} {l:List UInt8} (hl:RdL h F E (a,l.length,c) l) (hN:l.length≤17000000) :
  HC Tryz.prog 46 #[.slice a l.length c] h (fun v h'=>(l.length<20∧v=.tuple #[.int .i64 0,.slice none 0 0,.int .u64 0,.int .i64 0,.int .i64 6]∧Ext h h')∨(20≤l.length∧headOk l=false∧v=.tuple #[.int .i64 0,.slice none 0 0,.int .u64 0,.int .i64 0,.int .i64 8]∧Ext h h')∨
   (20≤l.length∧headOk l=true∧∃s x,ScanE l s∧v=.tuple #[.int .i64 ((rdN l 4 4:Nat):Int),sv x,.int .u64 ((s.sure:Nat):Int),.int .i64 ((s.fin:Nat):Int),.int .i64 0]∧Ext h h'∧RdL h' (Nw h h') (Nw h h') x s.l)):=by
 have hc2:=hl.m;have hc1:l.length≤c:=hl.c;simp only at hc2;have ok:=(Hp.nil h none_).arg hl;have h41:=rdN_lt4 l 4;have h81:=rdN_lt8 l 8;have hfl:=firstN_lt l;refine HC.go Tryz.func46 135 ?_;refine .seq<|.r<|.z .asI<|.z .asS<|.z .asI<|.z .asI<|.z .asI<|.nil ?_;refine .seq<|.seq<|.r<|.z .mvS<|.z (.len T.el22)<|.z .lss<|.nil ?_;refine .cd (fun C0=>?_) (fun C0=>?_)
 ·
  refine .seq<|.r<|.z .asI<|.z .asS<|.z .asI<|.z .asI<|.z .asI<|.nil ?_;refine .ret ⟨.tuple #[.int .i64 0,.slice none 0 0,.int .u64 0,.int .i64 0,.int .i64 6],Res.many (vs:=[.int .i64 0,.slice none 0 0,.int .u64 0,.int .i64 0,.int .i64 6]) rfl ⟨rfl,rfl,rfl,rfl,rfl,trivial⟩ rfl,.inl ⟨by omega,rfl,ok.chg⟩⟩
 refine .skip<|.seq<|.r<|.z .mvS<|.k 31 .func (rread_any (p:=4) (size:=4) (a:=a) (c:=c) (l:=l) ok.r0 (by omega) (by omega) (by omega))<|.z .mvU<|.z .ex<|.z .ex<|.z .asI<|.z .asI<|.nil ?_;refine .seq<|.r<|.z .mvS<|.k 36 .func (rread_any (p:=8) (size:=8) (a:=a) (c:=c) (l:=l) ok.r0 (by omega) (by omega) (by omega))<|.z .mvU<|.z .ex<|.z .ex<|.z .asI<|.z .asI<|.nil ?_;refine .seq<|.r<|.z .mvI<|.z (.cvi T.in3 T.in77)<|.z .mvI<|.c' 43 .func (rstart_any (n:=(rdN l 4 4)) (salt:=(rdN l 8 8)) (by omega) (by omega)) ?_;rintro _ η1 (⟨hsz,rfl,hx⟩ | ⟨hsz,w,rfl,own⟩)
 ·
  have ok:=ok.ext hx;refine .z .mvU<|.z .ex<|.z .ex<|.z .asS<|.z .asI<|.nil ?_;refine .seq<|.seq<|.r<|.z .mvI<|.z .neq<|.z .mvB<|.y<|.y<|.y<|.y<|.y<|.z .pkt<|.nil ?_;refine .ct<|.seq<|.r<|.z .asI<|.z .asS<|.z .asI<|.z .asI<|.z .asI<|.nil ?_;refine .ret ⟨.tuple #[.int .i64 0,.slice none 0 0,.int .u64 0,.int .i64 0,.int .i64 8],Res.many (vs:=[.int .i64 0,.slice none 0 0,.int .u64 0,.int .i64 0,.int .i64 8]) rfl ⟨rfl,rfl,rfl,rfl,rfl,trivial⟩ rfl,.inr (.inl ⟨by omega,by simp only [headOk,hsz,Bool.false_and],rfl,ok.chg⟩)⟩
 obtain ⟨ya1,yc1,rfl⟩:=own.formB;have ok:=ok.own own;refine .z .mvU<|.z .ex<|.z .ex<|.z .asS<|.z .asI<|.nil ?_;refine .seq<|.seq<|.r<|.z .mvI<|.z .neq<|.z .mvB<|.z .mvS<|.z .mvS<|.z (.sl_h ((l.take 20).length) T.el22 T.sz5 (hb:=by (simp;omega)))<|?_;have ok:=ok.d0 (rdI (fun j=>F j∧j<h.size) (fun j=>E j∧j<h.size) (a,(l.take 20).length,c) (l.take 20)) ((ok.r0).pre (l2:=l.take 20) (List.take_prefix _ _)) (fun _ h=>h);refine .k 52 .func (same_any (a:=ya1) (c:=yc1) (l:=(headN (rdN l 4 4) (rdN l 8 8))) (b:=a) (d:=c) (l2:=l.take 20) (RdL.ofCapB (v:=(ya1,(headN (rdN l 4 4) (rdN l 8 8)).length,yc1)) (l:=(headN (rdN l 4 4) (rdN l 8 8))) ok.m0) ok.r0)<|.z .notd<|.z .pkf<|.nil ?_;refine .cd (fun C1=>?_) (fun C1=>?_)
 ·
  refine .seq<|.r<|.z .asI<|.z .asS<|.z .asI<|.z .asI<|.z .asI<|.nil ?_;refine .ret ⟨.tuple #[.int .i64 0,.slice none 0 0,.int .u64 0,.int .i64 0,.int .i64 8],Res.many (vs:=[.int .i64 0,.slice none 0 0,.int .u64 0,.int .i64 0,.int .i64 8]) rfl ⟨rfl,rfl,rfl,rfl,rfl,trivial⟩ rfl,.inr (.inl ⟨by omega,by simp only [headOk,hsz,Bool.false_and,Bool.true_and,decide_eq_false C1],rfl,ok.chg⟩)⟩
 have hhd:=Decidable.not_not.1 C1;have h20:20≤l.length:=by omega
 refine .skip<|.seq<|.r<|.z .mvS<|.k 56 .func (first_any (by omega) (a:=a) (c:=c) (l:=l) ok.r1)<|.z .asI<|.nil ?_;refine .seq<|.r<|.z .mvI<|.z .asI<|.nil ?_;refine .seq<|.r<|.z .asI<|.nil ?_;refine .seq<|.r<|.z .asI<|.nil ?_;refine .seq<|.r<|.z .asS<|.z .asS<|?_;have ok:=ok.accNil 102 Fr;refine .nil ?_;refine .seq<|.block fun K0 hK0=>.loop (fun m s hh=>∃(sc:Sc) (a8:Option Addr) (n8 c8:Nat) (a3:Option Addr) (n3 c3:Nat) (E2:Nat→Prop),Has s [(0,.slice a l.length c),(7,.int .u64 (((rdN l 4 4):Nat):Int)),(13,.int .u64 (sc.prev:Int)),(14,.int .u64 (sc.sure:Int)),(15,.int .i64 (sc.pos:Int)),(16,.int .i64 (sc.fin:Int)),(17,.slice a3 n3 c3),(18,.slice a8 n8 c8)]∧Hp h none_ [accI 102 (a8,n8,c8) (a3,n3,c3) E2 sc.all sc.l] [rdI (fun j=>F j∧j<h.size) (fun j=>E j∧j<h.size) (a,(l.take 20).length,c) (l.take 20),rdI (fun j=>F j∧j<h.size) (fun j=>E j∧j<h.size) (a,l.length,c) l] hh∧Reach l (rdN l 4 4) (scan0 l) sc∧sc.all.length≤sc.pos∧sc.pos≤l.length∧sc.prev<18446744073709551616∧sc.l.length≤sc.all.length∧m=l.length-sc.pos) ?_ ?_
 ·exact ⟨_,scan0 l,none,0,0,none,0,0,none_,⟨rfl,rfl,rfl,rfl,rfl,rfl,rfl,rfl,trivial⟩,ok.k1,.refl _,Nat.zero_le _,h20,firstN_lt l,Nat.le_refl _,rfl⟩
 rintro _ _ η2 ⟨sc,a8,n8,c8,a3,n3,c3,E2,hs,ok,hR,hal,hps,hpr,hll,rfl⟩ J0 hJ0;refine .frame hs fun τ=>?_;refine .seq<|.seq<|.r<|.z .mvI<|.z (.addI (b:=16))<|.z .mvI<|.z (.cvi T.in3 T.in77)<|.z .addI<|.z .mvS<|.z (.len T.el22)<|.z .leq<|.nil ?_;refine .cdr (fun C2=>?_) (fun C2=>?_)
 ·
  have hnf:¬fits l (rdN l 4 4) sc.pos sc.prev:=fun h=>by have:=h.1;omega
  refine .exit<|hK0 _ _<|.seq<|.r<|.z .mvI<|.z (.cvi T.in3 T.in77)<|.a' 130 (.lit [] (cs:=[]) T.el76 T.sz102 T.zr102 ok trivial) ?_;rintro _ η3 ⟨pb1,rfl,ok,xe⟩;refine .z .mvS<|.a' 132 (.appL (l:=sc.l) T.el76 T.sz102 T.by102 T.zr102 (ok.n1.n1) (by omega)) ?_;rintro _ η4 ⟨az1,nz1,cz1,rfl,ok⟩;refine .z .mvI<|.z .mvI<|.z .asI<|.z .asS<|.z .asI<|.z .asI<|.z .asI<|.nil ?_;refine .ret ⟨.tuple #[.int .i64 (((rdN l 4 4):Nat):Int),.slice az1 nz1 cz1,.int .u64 (sc.sure:Int),.int .i64 (sc.fin:Int),.int .i64 0],Res.many (vs:=[.int .i64 (((rdN l 4 4):Nat):Int),.slice az1 nz1 cz1,.int .u64 (sc.sure:Int),.int .i64 (sc.fin:Int),.int .i64 0]) rfl ⟨rfl,rfl,rfl,rfl,rfl,trivial⟩ rfl,.inr (.inr ⟨by omega,by simp only [headOk,hsz,Bool.true_and,decide_eq_true hhd],sc,(az1,nz1,cz1),⟨hR,hnf⟩,rfl,ok.chg,ok.m0.rd.mono (fun j hj=>ok.fresh j (.inl hj)) (fun j hj=>ok.fresh j (.inr (.inr hj)))⟩)⟩
 refine .skip<|.block fun K1 hK1=>.seq<|?_;have h1:=rdN_lt4 l sc.pos;have h2:=rdN_lt4 l (sc.pos+4);have h3:=rdN_lt8 l (sc.pos+8);refine .r<|.z .mvS<|.z .mvI<|.k 69 .func (rread_any (p:=sc.pos) (size:=4) (a:=a) (c:=c) (l:=l) ok.r1 (by omega) (by omega) (by omega))<|.z .mvU<|.z .ex<|.z .ex<|.z .asI<|.z .asI<|.nil ?_;refine .seq<|.r<|.z .mvS<|.z .mvI<|.z (.addI (b:=4))<|.k 76 .func (rread_any (p:=(sc.pos+4)) (size:=4) (a:=a) (c:=c) (l:=l) ok.r1 (by omega) (by omega) (by omega))<|.z .mvU<|.z .ex<|.z .ex<|.z .asI<|.z .asI<|.nil ?_;refine .seq<|.r<|.z .mvS<|.z .mvI<|.z (.addI (b:=8))<|.k 83 .func (rread_any (p:=(sc.pos+8)) (size:=8) (a:=a) (c:=c) (l:=l) ok.r1 (by omega) (by omega) (by omega))<|.z .mvU<|.z .ex<|.z .ex<|.z .asI<|.z .asI<|.nil ?_;refine .seq<|.r<|.z .mvI<|.z (.cvi T.in3 T.in77)<|.z .mvI<|.z (.cvi T.in3 T.in77)<|.a' 90 (.lit [] (cs:=[]) T.el22 T.sz5 T.zr5 ok trivial) ?_;rintro _ η5 ⟨pb2,rfl,ok,xe⟩;have ok:=ok.cx (ys:=([]:List UInt8).map bv) rfl;refine .z .mvS<|.z .mvI<|.z (.addI (b:=16))<|.z .mvI<|.z (.addI (b:=16))<|.z .mvI<|.z (.cvi T.in3 T.in77)<|.z .addI<|.z (.slh (sc.pos+16) (sc.pos+16+(rdN l 4 4)) T.el22 T.sz5)<|?_;generalize hc1:cutA a (sc.pos+16) c 1=ca1;generalize hn1:(sc.pos+16+(rdN l 4 4))-(sc.pos+16)=cn1;obtain rfl:cn1=((l.drop (sc.pos+16)).take (rdN l 4 4)).length:=by rw [←hn1];simp;omega
 have ok:=ok.d1 (rdI (fun j=>F j∧j<h.size) (fun j=>E j∧j<h.size) (ca1,((l.drop (sc.pos+16)).take (rdN l 4 4)).length,c-(sc.pos+16)) ((l.drop (sc.pos+16)).take (rdN l 4 4))) (by have h1:=ok.r1.cut (i:=(sc.pos+16)) (j:=(sc.pos+16+(rdN l 4 4))) (by omega) (by omega);rw [show ((l).drop (sc.pos+16)).take ((sc.pos+16+(rdN l 4 4))-(sc.pos+16))=(l.drop (sc.pos+16)).take (rdN l 4 4) from by congr 1;omega] at h1;rw [←hc1,←hn1];exact h1) (fun _ h=>h);refine .a' 100 (.app (news:=((l.drop (sc.pos+16)).take (rdN l 4 4)).map bv) T.el22 T.sz5 T.by5 T.zr5 ok (ok.r0).by bv_all (by simp only [List.length_map,List.length_append,List.length_take,List.length_cons,List.length_nil,List.length_replicate,List.length_range,fixedN_len,sealN_len];omega)) ?_;rintro _ η6 ⟨ya2,yn1,yc2,rfl,ok,ap⟩;have ok:=ok.cx (ys:=(((l.drop (sc.pos+16)).take (rdN l 4 4))).map bv) (by simp [bv]);obtain rfl:yn1=(((l.drop (sc.pos+16)).take (rdN l 4 4))).length:=ok.lenB;refine .z (.bd #[.int .i64 (((rdN l sc.pos 4):Nat):Int),.int .i64 (((rdN l (sc.pos+4) 4):Nat):Int),.slice ya2 ((((l.drop (sc.pos+16)).take (rdN l 4 4))).length) yc2] T.zr102 T.pl102 rfl)<|.a' 25 (.alA T.zr102 ok) ?_;rintro _ η7 ⟨pb3,rfl,ok,xe⟩;refine .ur' (.stW (vs:=[.int .i64 (((rdN l sc.pos 4):Nat):Int),.int .i64 (((rdN l (sc.pos+4) 4):Nat):Int),.slice ya2 ((((l.drop (sc.pos+16)).take (rdN l 4 4))).length) yc2]) T.sz102 ok (oneL rfl)) ?_;rintro η8 ⟨ok,cg⟩;refine .nil ?_;refine .seq<|.seq<|.r<|.z (.ldb T.ag102 ok.m0 T.sz102)<|.c' 103 .func (may_any (z1:=(((rdN l sc.pos 4):Nat):Int)) (z2:=(((rdN l (sc.pos+4) 4):Nat):Int)) (a:=ya2) (c:=yc2) (l:=((l.drop (sc.pos+16)).take (rdN l 4 4))) (RdL.ofCapB (v:=(ya2,(((l.drop (sc.pos+16)).take (rdN l 4 4))).length,yc2)) (l:=((l.drop (sc.pos+16)).take (rdN l 4 4))) ok.m1)) ?_;rintro _ η9 ⟨rfl,hx⟩;have ok:=ok.ext hx;refine .z .not<|.z .mvB<|.spl (fun G105=>?_) (fun G105=>?_)
 ·
  have hnf:¬fits l (rdN l 4 4) sc.pos sc.prev:=fun h=>by have h9:=h.2.1;simp only [rawF] at h9;rw [h9] at G105;cases G105
  refine .y<|.y<|.y<|.y<|.y<|.z .pkt<|.nil ?_;refine .ct<|.exit<|hK0 _ _<|.seq<|.r<|.z .mvI<|.z (.cvi T.in3 T.in77)<|.a' 130 (.lit [] (cs:=[]) T.el76 T.sz102 T.zr102 ok trivial) ?_;rintro _ η10 ⟨pb4,rfl,ok,xe⟩;refine .z .mvS<|.a' 132 (.appL (l:=sc.l) T.el76 T.sz102 T.by102 T.zr102 (ok.n3.n1) (by omega)) ?_;rintro _ η11 ⟨az2,nz2,cz2,rfl,ok⟩;refine .z .mvI<|.z .mvI<|.z .asI<|.z .asS<|.z .asI<|.z .asI<|.z .asI<|.nil ?_;refine .ret ⟨.tuple #[.int .i64 (((rdN l 4 4):Nat):Int),.slice az2 nz2 cz2,.int .u64 (sc.sure:Int),.int .i64 (sc.fin:Int),.int .i64 0],Res.many (vs:=[.int .i64 (((rdN l 4 4):Nat):Int),.slice az2 nz2 cz2,.int .u64 (sc.sure:Int),.int .i64 (sc.fin:Int),.int .i64 0]) rfl ⟨rfl,rfl,rfl,rfl,rfl,trivial⟩ rfl,.inr (.inr ⟨by omega,by simp only [headOk,hsz,Bool.true_and,decide_eq_true hhd],sc,(az2,nz2,cz2),⟨hR,hnf⟩,rfl,ok.chg,ok.m0.rd.mono (fun j hj=>ok.fresh j (.inl hj)) (fun j hj=>ok.fresh j (.inr (.inr hj)))⟩)⟩
 refine .z .mvI<|.z (.ldb T.ag102 ok.m0 T.sz102)<|.c' 108 .func (rlink_any (p:=(rdN l sc.pos 4)) (q:=(rdN l (sc.pos+4) 4)) (r:=sc.prev) (by omega) (by omega) (by omega) (by simp<;>omega) (a:=ya2) (c:=yc2) (l:=((l.drop (sc.pos+16)).take (rdN l 4 4))) (RdL.ofCapB (v:=(ya2,(((l.drop (sc.pos+16)).take (rdN l 4 4))).length,yc2)) (l:=((l.drop (sc.pos+16)).take (rdN l 4 4))) ok.m1)) ?_;rintro _ η12 ⟨rfl,hx⟩;have ok:=ok.ext hx;refine .z .mvI<|.z .neq<|.z .pkf<|.nil ?_;refine .cd (fun C3=>?_) (fun C3=>?_)
 ·
  have hnf:¬fits l (rdN l 4 4) sc.pos sc.prev:=fun h=>C3 (by have h9:=h.2.2;simp only [rawF] at h9;rw [h9]);refine .exit<|hK0 _ _<|.seq<|.r<|.z .mvI<|.z (.cvi T.in3 T.in77)<|.a' 130 (.lit [] (cs:=[]) T.el76 T.sz102 T.zr102 ok trivial) ?_;rintro _ η13 ⟨pb5,rfl,ok,xe⟩;refine .z .mvS<|.a' 132 (.appL (l:=sc.l) T.el76 T.sz102 T.by102 T.zr102 (ok.n3.n1) (by omega)) ?_;rintro _ η14 ⟨az3,nz3,cz3,rfl,ok⟩;refine .z .mvI<|.z .mvI<|.z .asI<|.z .asS<|.z .asI<|.z .asI<|.z .asI<|.nil ?_;refine .ret ⟨.tuple #[.int .i64 (((rdN l 4 4):Nat):Int),.slice az3 nz3 cz3,.int .u64 (sc.sure:Int),.int .i64 (sc.fin:Int),.int .i64 0],Res.many (vs:=[.int .i64 (((rdN l 4 4):Nat):Int),.slice az3 nz3 cz3,.int .u64 (sc.sure:Int),.int .i64 (sc.fin:Int),.int .i64 0]) rfl ⟨rfl,rfl,rfl,rfl,rfl,trivial⟩ rfl,.inr (.inr ⟨by omega,by simp only [headOk,hsz,Bool.true_and,decide_eq_true hhd],sc,(az3,nz3,cz3),⟨hR,hnf⟩,rfl,ok.chg,ok.m0.rd.mono (fun j hj=>ok.fresh j (.inl hj)) (fun j hj=>ok.fresh j (.inr (.inr hj)))⟩)⟩
 have hfit:fits l (rdN l 4 4) sc.pos sc.prev:=⟨by omega,by simpa [rawF] using G105,by simp only [rawF];omega⟩;have hfit1:=hfit.1;refine .skip<|.seq<|.r<|.z .mvI<|.z .asI<|.nil ?_;refine .seq<|.r<|.z .mvI<|.z (.addI (b:=16))<|.z .mvI<|.z (.cvi T.in3 T.in77)<|.z .addI<|.z .asI<|.nil ?_;refine .seq<|.r<|.z .mvS<|.z (.ldb T.ag102 ok.m0 T.sz102)<|.a' 120 (.lit [.tmp 119] (cs:=[.int .i64 (((rdN l sc.pos 4):Nat):Int),.int .i64 (((rdN l (sc.pos+4) 4):Nat):Int),.slice ya2 ((((l.drop (sc.pos+16)).take (rdN l 4 4))).length) yc2]) T.el76 T.sz102 T.zr102 ok ⟨rfl,trivial⟩) ?_;rintro _ η15 ⟨pb6,rfl,ok,xe⟩;refine .a' 121 (.appA (rawF l (rdN l 4 4) sc.pos) T.el76 T.sz102 T.by102 T.zr102 (ok.n2.n3) ((ok.n2.n3.m2).sl) (Fr.rd_cap (ok.n2.n3).m1) (by omega)) ?_;rintro _ η16 ⟨az4,nz4,cz4,rfl,ok⟩;refine .z .asS<|.nil ?_;refine .seq<|.r<|.z (.fa T.fd102_1)<|.z (.ldx T.ag3 ok.m2)<|.z .gtr<|.nil ?_;refine .cd (fun C4=>?_) (fun C4=>?_)
 ·
  have hst:stepF (rdN l 4 4) sc (rawF l (rdN l 4 4) sc.pos)=⟨sc.pos+16+(rdN l 4 4),rdN l (sc.pos+8) 8,sc.all++[(rawF l (rdN l 4 4) sc.pos)],sc.all++[(rawF l (rdN l 4 4) sc.pos)],rdN l (sc.pos+8) 8,sc.pos+16+(rdN l 4 4)⟩:=by simp only [stepF,hfit.2.2];rw [if_pos (by simp only [rawF];omega)]
  refine .seq<|.r<|.z .mvS<|.z .asS<|?_;have ok:=(ok).accEq;refine .nil ?_;refine .seq<|.r<|.z .mvI<|.z .asI<|.nil ?_;refine .r<|.z .mvI<|.z .asI<|.nil ?_;refine .end<|hK1 _ _<|.end<|hJ0 _ _ _ ⟨⟨sc.pos+16+(rdN l 4 4),rdN l (sc.pos+8) 8,sc.all++[(rawF l (rdN l 4 4) sc.pos)],sc.all++[(rawF l (rdN l 4 4) sc.pos)],rdN l (sc.pos+8) 8,sc.pos+16+(rdN l 4 4)⟩,az4,nz4,cz4,az4,nz4,cz4,_,⟨rfl,rfl,rfl,rfl,rfl,rfl,rfl,rfl,trivial⟩,ok.k1.tR,hst▸hR.step hfit,(by simp only [List.length_append,List.length_singleton];omega),(by simp only;omega),rdN_lt8 _ _,(by simp only [List.length_append,List.length_singleton];omega),rfl⟩ (by simp only;omega)
 have hst:stepF (rdN l 4 4) sc (rawF l (rdN l 4 4) sc.pos)=⟨sc.pos+16+(rdN l 4 4),rdN l (sc.pos+8) 8,sc.all++[(rawF l (rdN l 4 4) sc.pos)],sc.l,sc.sure,sc.fin⟩:=by simp only [stepF,hfit.2.2];rw [if_neg (by simp only [rawF];omega)]
 refine .skip<|.end<|hK1 _ _<|.end<|hJ0 _ _ _ ⟨⟨sc.pos+16+(rdN l 4 4),rdN l (sc.pos+8) 8,sc.all++[(rawF l (rdN l 4 4) sc.pos)],sc.l,sc.sure,sc.fin⟩,az4,nz4,cz4,a3,n3,c3,_,⟨rfl,rfl,rfl,rfl,rfl,rfl,rfl,rfl,trivial⟩,ok.k1.tR,hst▸hR.step hfit,(by simp only [List.length_append,List.length_singleton];omega),(by simp only;omega),rdN_lt8 _ _,(by simp only [List.length_append,List.length_singleton];omega),rfl⟩ (by simp only;omega)
theorem vfs_rd {h h':Heap} {F E:Nat→Prop} {x:SV} {l:List Fr} {xa:Nat→Option Addr} {xc:Nat→Nat} (hf:Frs h F E x l xa xc) (hx:Ext h h') {O:List Nat} (hO:∀i∈O,i<l.length) {y:SV} (o:Own h h' 3 102 (sv y) (O.flatMap (vfN l xa xc))):RdL h' (Nw h h') E y (O.map (frN l)):=by
 refine (RdL.of_cap (α:=Fr) (E:=E) (css:=O.map (vfN l xa xc)) (by rw [←List.flatMap_def];exact o.cap) ⟨by simp,fun i h1 h2=>?_⟩).mono (fun j hj=>⟨o.fresh j hj,o.cap.lt hj⟩) (fun _ h=>h);simp only [List.length_map] at h1;simp only [List.getElem_map];exact ⟨(xa O[i],_,xc O[i]),rfl,(hf.b _ (hO _ (List.getElem_mem h1))).ext hx⟩
theorem rlatest_any {h:Heap} {F E:Nat→Prop} {a:Option Addr} {c:Nat} {l:List Fr} (hl:RdL h F E (a,l.length,c) l) (hN:l.length≤100000) :
  HC Tryz.prog 65 #[.slice a l.length c] h (fun v h'=>∃x,v=.tuple #[sv x,.int .i64 (latC l l.length)]∧Ext h h'∧RdL h' (Nw h h') (fun j=>E j∧j<h.size) x (latF l)):=by
 have hc2:=hl.m;have hc1:l.length≤c:=hl.c;simp only at hc2;obtain ⟨xa,xc,hf⟩:=RdL.frs hl.lt;have hfv:=vfN_len l xa xc;have ok:=(Hp.nil h none_).old (frsI (fun j=>F j∧j<h.size) (fun j=>E j∧j<h.size) (a,l.length,c) l xa xc) hf (fun _ hj=>hj.elim (·.2) (·.2));refine HC.go Tryz.func65 108 ?_;refine .seq<|.r<|.z .asS<|.z .asI<|.nil ?_;refine .seq<|.r<|.z .asS<|?_;have ok:=ok.nilC (k:=3) (e:=102);refine .nil ?_;refine .seq<|.r<|.z .asI<|.nil ?_;refine .seq<|.seq<|.r<|.z .asI<|.nil ?_;refine .block fun K0 hK0=>.loop (fun m s hh=>∃(i:Nat) (O:List Nat) (cc:Int) (a4:Option Addr) (c4:Nat),Has s [(0,.slice a l.length c),(4,.slice a4 O.length c4),(5,.int .i64 cc),(6,.int .i64 (i:Int))]∧Hp h none_ [capI 3 102 (a4,O.length,c4) (O.flatMap (vfN l xa xc))] [frsI (fun j=>F j∧j<h.size) (fun j=>E j∧j<h.size) (a,l.length,c) l xa xc] hh∧i≤l.length∧O=latO l i∧cc=latC l i∧m=l.length-i) ?_ ?_
 ·exact ⟨_,0,[],0,none,0,⟨rfl,rfl,rfl,rfl,trivial⟩,ok.cx (by simp),Nat.zero_le _,rfl,rfl,rfl⟩
 rintro _ _ η1 ⟨i,O,cc,a4,c4,hs,ok,hi,hO,hcc,rfl⟩ J0 hJ0;refine .frame hs fun τ=>?_;refine .seq<|.seq<|.r<|.z .mvI<|.z .mvS<|.z (.len T.el76)<|.z .lss<|.nil ?_;refine .cdr (fun C0=>?_) (fun C0=>?_)
 ·
  obtain rfl:i=l.length:=by omega
  refine .exit<|hK0 _ _<|.seq<|.r<|.z .mvS<|.z .mvI<|.z .asS<|.z .asI<|.nil ?_;refine .ret ⟨.tuple #[.slice a4 O.length c4,.int .i64 cc],Res.two rfl rfl rfl,(a4,O.length,c4),by rw [hcc],ok.chg,by have h9:=vfs_rd hf ok.chg (fun i hi=>latO_lt l _ i (hO▸hi)) ok.toOwn;unfold latF;rw [←hO];exact h9⟩
 have hil:i<l.length:=by omega
 have hOl:=latO_len l i;rw [←hO] at hOl;refine .skip<|.seq<|.block fun K1 hK1=>.seq<|.r<|.z .asS<|?_;have ok:=ok.nilC (k:=3) (e:=102);refine .nil ?_;refine .seq<|.r<|.z .asB<|.nil ?_;refine .seq<|.seq<|.r<|.z .asI<|.nil ?_;refine .block fun K2 hK2=>.loop (fun m s hh=>∃(k:Nat) (N:List Nat) (put:Bool) (a7:Option Addr) (c7:Nat),Has s [(0,.slice a l.length c),(4,.slice a4 O.length c4),(5,.int .i64 cc),(6,.int .i64 (i:Int)),(7,.slice a7 N.length c7),(8,.bool put),(9,.int .i64 (k:Int))]∧Hp h none_ [capI 3 102 (a7,N.length,c7) (N.flatMap (vfN l xa xc)),capI 3 102 (a4,O.length,c4) (O.flatMap (vfN l xa xc))] [frsI (fun j=>F j∧j<h.size) (fun j=>E j∧j<h.size) (a,l.length,c) l xa xc] hh∧k≤O.length∧(N,put)=(O.take k).foldl (stepI l i) ([],false)∧N.length≤2*k∧m=O.length-k) ?_ ?_
 ·exact ⟨_,0,[],false,none,0,⟨rfl,rfl,rfl,rfl,rfl,rfl,rfl,trivial⟩,(ok.n1.n1).k2,Nat.zero_le _,rfl,Nat.zero_le _,rfl⟩
 rintro _ _ η2 ⟨k,N,put,a7,c7,hs,ok,hk,hfo,hNl,rfl⟩ J1 hJ1;refine .frame hs fun τ=>?_;refine .seq<|.seq<|?_;have hszO:=Sl.sz (Cap.sl ok.m1) hfv (by decide);refine .r<|.z .mvI<|.z .mvS<|.z (.len T.el76)<|.z .lss<|.nil ?_;refine .cdr (fun C1=>?_) (fun C1=>?_)
 ·
  have hkE:k=O.length:=by omega
  rw [hkE,List.take_length] at hfo;refine .exit<|hK2 _ _<|.seq<|.seq<|.r<|.z .mvB<|.z .not<|.nil ?_;refine .join (fun s hh=>∃(N2:List Nat) (a7c:Option Addr) (c7c:Nat),Has s [(0,.slice a l.length c),(5,.int .i64 cc),(6,.int .i64 (i:Int)),(7,.slice a7c N2.length c7c)]∧Hp h none_ [capI 3 102 (a7c,N2.length,c7c) (N2.flatMap (vfN l xa xc))] [frsI (fun j=>F j∧j<h.size) (fun j=>E j∧j<h.size) (a,l.length,c) l xa xc] hh∧N2=insI l O i∧N2.length≤2*O.length+1) ?_ ?_
  ·
   refine .cond (fun C4=>?_) (fun C4=>?_)
   ·
    refine .r<|.z .mvS<|.z .mvS<|.z .mvI<|?_;obtain ⟨bb1,oo1,rfl,fb1⟩:=ok.r0.pos (n:=l.length) (by omega);refine .z (.ix i T.el76 T.sz102)<|?_;have ok:=ok.d0 (rdI (fun j=>E j∧j<h.size) (fun j=>E j∧j<h.size) ((xa i),(frN l i).b.length,(xc i)) ((frN l i).b)) ((ok.r0).b i (by omega)) (fun _ h=>.inr (h.elim id id));refine .z (.ldc (vs:=vfN l xa xc i) T.ag102 (frs_ats (ok.r1).sl (i:=i) (by omega)) T.sz102)<|.a' 71 (.lit [.tmp 70] (cs:=[.int .i64 ((frN l i).page),.int .i64 ((frN l i).commit),.slice (xa i) ((frN l i).b.length) (xc i)]) T.el76 T.sz102 T.zr102 ok ⟨rfl,trivial⟩) ?_;rintro _ η3 ⟨pb1,rfl,ok,xe⟩;refine .a' 72 (.app (news:=[.int .i64 ((frN l i).page),.int .i64 ((frN l i).commit),.slice (xa i) ((frN l i).b.length) (xc i)]) T.el76 T.sz102 T.by102 T.zr102 ok.n1 (ok.n1.m1).sl (oneL rfl) (by rw [flat_len hfv];simp only [List.length_cons,List.length_nil];omega)) ?_;rintro _ η4 ⟨ya1,yn1,yc1,rfl,ok,ap⟩;have ok:=ok.cx (snocF (f:=(vfN l xa xc)) (l:=N) (x:=i));obtain rfl:yn1=(N++[i]).length:=(Sl.sz (Cap.sl ok.m0) hfv (by decide)).1.symm;refine .z .asS<|.nil ?_;refine .end<|⟨(N++[i]),ya1,yc1,⟨rfl,rfl,rfl,rfl,trivial⟩,(ok).k1.tR,by unfold insI;rw [←hfo];simp only;rw [if_neg (by rw [show put=false by simpa using C4];decide)],by first | omega | (simp only [List.length_append,List.length_singleton];omega)⟩
   refine .skip<|.end<|⟨(N),a7,c7,⟨rfl,rfl,rfl,rfl,trivial⟩,(ok).k1,by unfold insI;rw [←hfo];simp only;rw [if_pos (by simpa using C4)],by omega⟩
  rintro s η5 ⟨N2,a7c,c7c,hs,ok,hN2,hN2l⟩;refine .frame hs fun τ=>?_;refine .seq<|.r<|.z .mvS<|.z .asS<|.nil ?_;refine .seq<|.r<|.z .mvS<|.z .mvI<|?_;obtain ⟨bb2,oo2,rfl,fb2⟩:=ok.r0.pos (n:=l.length) (by omega);refine .z (.ix i T.el76 T.sz102)<|.z (.fa T.fd102_1)<|.z (.ld T.ag3 (frs_at (ok.r0).sl (i:=i) (j:=1) (by omega) rfl))<|.z .neq<|.nil ?_;refine .cd (fun C5=>?_) (fun C5=>?_)
  ·
   refine .seq<|.r<|.z .mvS<|.z .mvI<|.z (.ix i T.el76 T.sz102)<|.z (.fa T.fd102_1)<|.z (.ld T.ag3 (frs_at (ok.r0).sl (i:=i) (j:=1) (by omega) rfl))<|.z .asI<|.nil ?_;refine .seq<|.r<|.z .asS<|?_;have ok:=ok.nilC (k:=3) (e:=102);refine .nil ?_;refine .seq<|.seq<|.r<|.z .asI<|.nil ?_;refine .block fun K4 hK4=>.loop (fun m s hh=>∃(k:Nat) (Y:List Nat) (a10:Option Addr) (c10:Nat),Has s [(0,.slice (some ⟨bb2,oo2,none⟩) l.length c),(4,.slice a7c N2.length c7c),(5,.int .i64 ((frN l i).commit)),(6,.int .i64 (i:Int)),(10,.slice a10 Y.length c10),(11,.int .i64 (k:Int))]∧Hp h none_ [capI 3 102 (a10,Y.length,c10) (Y.flatMap (vfN l xa xc)),capI 3 102 (a7c,N2.length,c7c) (N2.flatMap (vfN l xa xc))] [frsI (fun j=>F j∧j<h.size) (fun j=>E j∧j<h.size) (some ⟨bb2,oo2,none⟩,l.length,c) l xa xc] hh∧k≤N2.length∧Y=(N2.take k).filter (fun q=>decide ((frN l q).page≤(frN l i).commit))∧Y.length≤k∧m=N2.length-k) ?_ ?_
   ·exact ⟨_,0,[],none,0,⟨rfl,rfl,rfl,rfl,rfl,rfl,trivial⟩,(ok.n1.n1).k2,Nat.zero_le _,rfl,Nat.le_refl _,rfl⟩
   rintro _ _ η6 ⟨k,Y,a10,c10,hs,ok,hk2,hT,hTl,rfl⟩ J2 hJ2;refine .frame hs fun τ=>?_;refine .seq<|.seq<|?_;have hszN:=Sl.sz (Cap.sl ok.m1) hfv (by decide);refine .r<|.z .mvI<|.z .mvS<|.z (.len T.el76)<|.z .lss<|.nil ?_;refine .cdr (fun C6=>?_) (fun C6=>?_)
   ·
    have hkE2:k=N2.length:=by omega
    rw [hkE2,List.take_length] at hT;refine .exit<|hK4 _ _<|.r<|.z .mvS<|.z .asS<|.nil ?_;refine .end<|hK1 _ _<|.r<|.z .mvI<|.z (.addI (b:=1))<|.z .asI<|.nil ?_;refine .end<|hJ0 _ _ _ ⟨i+1,Y,(frN l i).commit,a10,c10,⟨rfl,rfl,rfl,rfl,trivial⟩,(ok).k1,by omega,by rw [latO_succ,←hO];unfold stepO;rw [if_neg C5,←hN2];exact hT,by rw [latC_succ,←hcc];exact (if_neg C5).symm,rfl⟩ (by omega)
   have hkN:k<N2.length:=by omega
   have hzl:∀z∈N2,z<l.length:=fun z hz=>by
    rw [hN2,insI_eq l (by rw [hO];exact (lat l i).srt),mem_ins l (by rw [hO];exact (lat l i).srt)] at hz;rcases hz with hz | hz
    ·omega
    ·have:=latO_lt l i _ (hO▸hz.1);omega
   have hN1x:N2[k]<l.length:=hzl _ (List.getElem_mem hkN);refine .skip<|.seq<|.block fun K5 hK5=>.seq<|.r<|.z .mvS<|.z .mvI<|?_;obtain ⟨bb3,oo3,rfl,fb3⟩:=ok.m1.pos (n:=N2.length) (by omega);refine .z (.ix k T.el76 T.sz102)<|.z (.fa T.fd102_0)<|.z (.ld T.ag3 (sl_at hfv (ok.m1).sl (i:=k) (j:=0) (by omega) rfl))<|.z .mvI<|.z .leq<|.nil ?_;refine .cd (fun C7=>?_) (fun C7=>?_)
   ·
    refine .r<|.z .mvS<|.z .mvS<|.z .mvI<|.z (.ix k T.el76 T.sz102)<|.z (.ldc (vs:=(vfN l xa xc) N2[k]) T.ag102 (sl_ats hfv (ok.m1).sl (i:=k) (by omega)) T.sz102)<|.a' 103 (.lit [.tmp 102] (cs:=[.int .i64 ((frN l N2[k]).page),.int .i64 ((frN l N2[k]).commit),.slice (xa N2[k]) ((frN l N2[k]).b.length) (xc N2[k])]) T.el76 T.sz102 T.zr102 ok ⟨rfl,trivial⟩) ?_;rintro _ η7 ⟨pb2,rfl,ok,xe⟩;refine .a' 104 (.app (news:=[.int .i64 ((frN l N2[k]).page),.int .i64 ((frN l N2[k]).commit),.slice (xa N2[k]) ((frN l N2[k]).b.length) (xc N2[k])]) T.el76 T.sz102 T.by102 T.zr102 ok.n1 (ok.n1.m1).sl (oneL rfl) (by rw [flat_len hfv];simp only [List.length_cons,List.length_nil];omega)) ?_;rintro _ η8 ⟨ya2,yn2,yc2,rfl,ok,ap⟩;have ok:=ok.cx (snocF (f:=(vfN l xa xc)) (l:=Y) (x:=N2[k]));obtain rfl:yn2=(Y++[N2[k]]).length:=(Sl.sz (Cap.sl ok.m0) hfv (by decide)).1.symm;refine .z .asS<|.nil ?_;refine .end<|hK5 _ _<|.r<|.z .mvI<|.z (.addI (b:=1))<|.z .asI<|.nil ?_;refine .end<|hJ2 _ _ _ ⟨k+1,Y++[N2[k]],ya2,yc2,⟨rfl,rfl,rfl,rfl,rfl,rfl,trivial⟩,(ok.n2.n1).k2,by omega,by rw [take_next hkN,List.filter_append,←hT];simp [C7],by first | omega | (simp only [List.length_append,List.length_singleton];omega),rfl⟩ (by omega)
   refine .skip<|.end<|hK5 _ _<|.r<|.z .mvI<|.z (.addI (b:=1))<|.z .asI<|.nil ?_;refine .end<|hJ2 _ _ _ ⟨k+1,Y,a10,c10,⟨rfl,rfl,rfl,rfl,rfl,rfl,trivial⟩,(ok.n1.n1).k2,by omega,by rw [take_next hkN,List.filter_append,←hT];simp [C7],by omega,rfl⟩ (by omega)
  refine .skip<|.end<|hK1 _ _<|.r<|.z .mvI<|.z (.addI (b:=1))<|.z .asI<|.nil ?_;refine .end<|hJ0 _ _ _ ⟨i+1,N2,cc,a7c,c7c,⟨rfl,rfl,rfl,rfl,trivial⟩,(ok).k1,by omega,by rw [latO_succ,←hO];unfold stepO;rw [if_pos (by omega),←hN2],by rw [latC_succ,←hcc];exact (if_pos (by omega)).symm,rfl⟩ (by omega)
 have hkO:k<O.length:=by omega
 have hO1:O[k]<l.length:=by have:=latO_lt l i O[k] (by rw [←hO];exact List.getElem_mem hkO);omega
 refine .skip<|.seq<|.block fun K3 hK3=>.seq<|.seq<|.q (hm:=mixed)<|.z .mvB<|.z .not<|.z .mvB<|.spl (fun G26=>?_) (fun G26=>?_)
 ·
  refine .z .mvS<|.z .mvI<|?_;obtain ⟨bb4,oo4,rfl,fb4⟩:=ok.m1.pos (n:=O.length) (by omega);refine .z (.ix k T.el76 T.sz102)<|.z (.fa T.fd102_0)<|.z (.ld T.ag3 (sl_at hfv (ok.m1).sl (i:=k) (j:=0) (by omega) rfl))<|.z .mvS<|.z .mvI<|?_;obtain ⟨bb5,oo5,rfl,fb5⟩:=ok.r0.pos (n:=l.length) (by omega);refine .z (.ix i T.el76 T.sz102)<|.z (.fa T.fd102_0)<|.z (.ld T.ag3 (frs_at (ok.r0).sl (i:=i) (j:=0) (by omega) rfl))<|.z .geq<|.z .pkt<|.nil ?_;refine .join (fun s hh=>∃(N1:List Nat) (p1:Bool) (a7b:Option Addr) (c7b:Nat),Has s [(0,.slice (some ⟨bb5,oo5,none⟩) l.length c),(4,.slice (some ⟨bb4,oo4,none⟩) O.length c4),(5,.int .i64 cc),(6,.int .i64 (i:Int)),(7,.slice a7b N1.length c7b),(8,.bool p1),(9,.int .i64 (k:Int))]∧Hp h none_ [capI 3 102 (a7b,N1.length,c7b) (N1.flatMap (vfN l xa xc)),capI 3 102 (some ⟨bb4,oo4,none⟩,O.length,c4) (O.flatMap (vfN l xa xc))] [frsI (fun j=>F j∧j<h.size) (fun j=>E j∧j<h.size) (some ⟨bb5,oo5,none⟩,l.length,c) l xa xc] hh∧(N1,p1)=(if put=false∧(frN l i).page≤(frN l O[k]).page then (N++[i],true) else (N,put))∧N1.length≤2*k+1) ?_ ?_
  ·
   refine .cd (fun C2=>?_) (fun C2=>?_)
   ·
    refine .seq<|.r<|.z .mvS<|.z .mvS<|.z .mvI<|.z (.ix i T.el76 T.sz102)<|?_;have ok:=ok.d0 (rdI (fun j=>E j∧j<h.size) (fun j=>E j∧j<h.size) ((xa i),(frN l i).b.length,(xc i)) ((frN l i).b)) ((ok.r0).b i (by omega)) (fun _ h=>.inr (h.elim id id));refine .z (.ldc (vs:=vfN l xa xc i) T.ag102 (frs_ats (ok.r1).sl (i:=i) (by omega)) T.sz102)<|.a' 44 (.lit [.tmp 43] (cs:=[.int .i64 ((frN l i).page),.int .i64 ((frN l i).commit),.slice (xa i) ((frN l i).b.length) (xc i)]) T.el76 T.sz102 T.zr102 ok ⟨rfl,trivial⟩) ?_;rintro _ η9 ⟨pb3,rfl,ok,xe⟩;refine .a' 45 (.app (news:=[.int .i64 ((frN l i).page),.int .i64 ((frN l i).commit),.slice (xa i) ((frN l i).b.length) (xc i)]) T.el76 T.sz102 T.by102 T.zr102 ok.n1 (ok.n1.m1).sl (oneL rfl) (by rw [flat_len hfv];simp only [List.length_cons,List.length_nil];omega)) ?_;rintro _ η10 ⟨ya3,yn3,yc3,rfl,ok,ap⟩;have ok:=ok.cx (snocF (f:=(vfN l xa xc)) (l:=N) (x:=i));obtain rfl:yn3=(N++[i]).length:=(Sl.sz (Cap.sl ok.m0) hfv (by decide)).1.symm;refine .z .asS<|.nil ?_;refine .r<|.z .asB<|.nil ?_;refine .end<|⟨(N++[i]),true,ya3,yc3,⟨rfl,rfl,rfl,rfl,rfl,rfl,rfl,trivial⟩,(ok.n2.n1).k2.tR,(if_pos ⟨by simpa using G26,C2⟩).symm,by first | omega | (simp only [List.length_append,List.length_singleton];omega)⟩
   refine .skip<|.end<|⟨(N),put,a7,c7,⟨rfl,rfl,rfl,rfl,rfl,rfl,rfl,trivial⟩,(ok.n1.n1).k2,(if_neg (fun h=>by first | (exact C2 h.2) | (rw [h.1] at G26;cases G26))).symm,by omega⟩
  rintro s η11 ⟨N1,p1,a7b,c7b,hs,ok,hN1,hN1l⟩;refine .frame hs fun τ=>?_;refine .seq<|?_;have hst:stepI l i (N,put) O[k]=if (frN l O[k]).page≠(frN l i).page then (N1++[O[k]],p1) else (N1,p1):=by simp only [stepI];rw [←hN1]
  refine .q (hm:=mixed)<|.z .mvS<|.z .mvI<|.z (.ix k T.el76 T.sz102)<|.z (.fa T.fd102_0)<|.z (.ld T.ag3 (sl_at hfv (ok.m1).sl (i:=k) (j:=0) (by omega) rfl))<|.z .mvS<|.z .mvI<|.z (.ix i T.el76 T.sz102)<|.z (.fa T.fd102_0)<|.z (.ld T.ag3 (frs_at (ok.r0).sl (i:=i) (j:=0) (by omega) rfl))<|.z .neq<|.nil ?_;refine .cd (fun C3=>?_) (fun C3=>?_)
  ·
   refine .r<|.z .mvS<|.z .mvS<|.z .mvI<|.z (.ix k T.el76 T.sz102)<|.z (.ldc (vs:=(vfN l xa xc) O[k]) T.ag102 (sl_ats hfv (ok.m1).sl (i:=k) (by omega)) T.sz102)<|.a' 62 (.lit [.tmp 61] (cs:=[.int .i64 ((frN l O[k]).page),.int .i64 ((frN l O[k]).commit),.slice (xa O[k]) ((frN l O[k]).b.length) (xc O[k])]) T.el76 T.sz102 T.zr102 ok ⟨rfl,trivial⟩) ?_;rintro _ η12 ⟨pb4,rfl,ok,xe⟩;refine .a' 63 (.app (news:=[.int .i64 ((frN l O[k]).page),.int .i64 ((frN l O[k]).commit),.slice (xa O[k]) ((frN l O[k]).b.length) (xc O[k])]) T.el76 T.sz102 T.by102 T.zr102 ok.n1 (ok.n1.m1).sl (oneL rfl) (by rw [flat_len hfv];simp only [List.length_cons,List.length_nil];omega)) ?_;rintro _ η13 ⟨ya4,yn4,yc4,rfl,ok,ap⟩;have ok:=ok.cx (snocF (f:=(vfN l xa xc)) (l:=N1) (x:=O[k]));obtain rfl:yn4=(N1++[O[k]]).length:=(Sl.sz (Cap.sl ok.m0) hfv (by decide)).1.symm;refine .z .asS<|.nil ?_;refine .end<|hK3 _ _<|.r<|.z .mvI<|.z (.addI (b:=1))<|.z .asI<|.nil ?_;refine .end<|hJ1 _ _ _ ⟨k+1,N1++[O[k]],p1,ya4,yc4,⟨rfl,rfl,rfl,rfl,rfl,rfl,rfl,trivial⟩,(ok.n2.n1).k2,by omega,by rw [take_next hkO,List.foldl_append,←hfo];exact (hst.trans (if_pos C3)).symm,by first | omega | (simp only [List.length_append,List.length_singleton];omega),rfl⟩ (by omega)
  refine .skip<|.end<|hK3 _ _<|.r<|.z .mvI<|.z (.addI (b:=1))<|.z .asI<|.nil ?_;refine .end<|hJ1 _ _ _ ⟨k+1,N1,p1,a7b,c7b,⟨rfl,rfl,rfl,rfl,rfl,rfl,rfl,trivial⟩,(ok.n1.n1).k2,by omega,by rw [take_next hkO,List.foldl_append,←hfo];exact (hst.trans (if_neg C3)).symm,by first | omega | (simp only [List.length_append,List.length_singleton];omega),rfl⟩ (by omega)
 refine .y<|.y<|.y<|.y<|.y<|.y<|.y<|.y<|.y<|.y<|.y<|.z .pkf<|.nil ?_;refine .join (fun s hh=>∃(N1:List Nat) (p1:Bool) (a7b:Option Addr) (c7b:Nat),Has s [(0,.slice a l.length c),(4,.slice a4 O.length c4),(5,.int .i64 cc),(6,.int .i64 (i:Int)),(7,.slice a7b N1.length c7b),(8,.bool p1),(9,.int .i64 (k:Int))]∧Hp h none_ [capI 3 102 (a7b,N1.length,c7b) (N1.flatMap (vfN l xa xc)),capI 3 102 (a4,O.length,c4) (O.flatMap (vfN l xa xc))] [frsI (fun j=>F j∧j<h.size) (fun j=>E j∧j<h.size) (a,l.length,c) l xa xc] hh∧(N1,p1)=(if put=false∧(frN l i).page≤(frN l O[k]).page then (N++[i],true) else (N,put))∧N1.length≤2*k+1) ?_ ?_
 ·
  refine .cf<|.skip<|.end<|⟨(N),put,a7,c7,⟨rfl,rfl,rfl,rfl,rfl,rfl,rfl,trivial⟩,(ok.n1.n1).k2,(if_neg (fun h=>by first | (exact C2 h.2) | (rw [h.1] at G26;cases G26))).symm,by omega⟩
 rintro s η14 ⟨N1,p1,a7b,c7b,hs,ok,hN1,hN1l⟩;refine .frame hs fun τ=>?_;refine .seq<|?_;have hst:stepI l i (N,put) O[k]=if (frN l O[k]).page≠(frN l i).page then (N1++[O[k]],p1) else (N1,p1):=by simp only [stepI];rw [←hN1]
 refine .q (hm:=mixed)<|.z .mvS<|.z .mvI<|?_;obtain ⟨bb6,oo6,rfl,fb6⟩:=ok.m1.pos (n:=O.length) (by omega);refine .z (.ix k T.el76 T.sz102)<|.z (.fa T.fd102_0)<|.z (.ld T.ag3 (sl_at hfv (ok.m1).sl (i:=k) (j:=0) (by omega) rfl))<|.z .mvS<|.z .mvI<|?_;obtain ⟨bb7,oo7,rfl,fb7⟩:=ok.r0.pos (n:=l.length) (by omega);refine .z (.ix i T.el76 T.sz102)<|.z (.fa T.fd102_0)<|.z (.ld T.ag3 (frs_at (ok.r0).sl (i:=i) (j:=0) (by omega) rfl))<|.z .neq<|.nil ?_;refine .cd (fun C3=>?_) (fun C3=>?_)
 ·
  refine .r<|.z .mvS<|.z .mvS<|.z .mvI<|.z (.ix k T.el76 T.sz102)<|.z (.ldc (vs:=(vfN l xa xc) O[k]) T.ag102 (sl_ats hfv (ok.m1).sl (i:=k) (by omega)) T.sz102)<|.a' 62 (.lit [.tmp 61] (cs:=[.int .i64 ((frN l O[k]).page),.int .i64 ((frN l O[k]).commit),.slice (xa O[k]) ((frN l O[k]).b.length) (xc O[k])]) T.el76 T.sz102 T.zr102 ok ⟨rfl,trivial⟩) ?_;rintro _ η15 ⟨pb5,rfl,ok,xe⟩;refine .a' 63 (.app (news:=[.int .i64 ((frN l O[k]).page),.int .i64 ((frN l O[k]).commit),.slice (xa O[k]) ((frN l O[k]).b.length) (xc O[k])]) T.el76 T.sz102 T.by102 T.zr102 ok.n1 (ok.n1.m1).sl (oneL rfl) (by rw [flat_len hfv];simp only [List.length_cons,List.length_nil];omega)) ?_;rintro _ η16 ⟨ya5,yn5,yc5,rfl,ok,ap⟩;have ok:=ok.cx (snocF (f:=(vfN l xa xc)) (l:=N1) (x:=O[k]));obtain rfl:yn5=(N1++[O[k]]).length:=(Sl.sz (Cap.sl ok.m0) hfv (by decide)).1.symm;refine .z .asS<|.nil ?_;refine .end<|hK3 _ _<|.r<|.z .mvI<|.z (.addI (b:=1))<|.z .asI<|.nil ?_;refine .end<|hJ1 _ _ _ ⟨k+1,N1++[O[k]],p1,ya5,yc5,⟨rfl,rfl,rfl,rfl,rfl,rfl,rfl,trivial⟩,(ok.n2.n1).k2,by omega,by rw [take_next hkO,List.foldl_append,←hfo];exact (hst.trans (if_pos C3)).symm,by first | omega | (simp only [List.length_append,List.length_singleton];omega),rfl⟩ (by omega)
 refine .skip<|.end<|hK3 _ _<|.r<|.z .mvI<|.z (.addI (b:=1))<|.z .asI<|.nil ?_;refine .end<|hJ1 _ _ _ ⟨k+1,N1,p1,a7b,c7b,⟨rfl,rfl,rfl,rfl,rfl,rfl,rfl,trivial⟩,(ok.n1.n1).k2,by omega,by rw [take_next hkO,List.foldl_append,←hfo];exact (hst.trans (if_neg C3)).symm,by first | omega | (simp only [List.length_append,List.length_singleton];omega),rfl⟩ (by omega)
theorem aPages_any {h:Heap} {p:Nat} {r:RA} (hb:(aboxI p r).p h) :
  HC Tryz.prog 19 #[.pointer (some ⟨p,0,none⟩)] h (fun v h'=>v=.int .i64 ((if r.dark=true then 0 else pgsR r:Nat):Int)∧h'=h):=by
 refine HC.go Tryz.func19 8 ?_;refine .seq<|.r<|.z .asI<|.nil ?_;refine .seq<|.seq<|.r<|.z .mvP<|.k 4 .func (look_any (r:=r) hb)<|.z .neq<|.nil ?_;refine .cd (fun C0=>?_) (fun C0=>?_)
 ·
  have hdk:r.dark=true:=lookE_t C0;refine .seq<|.r<|.z .asI<|.nil ?_;refine .ret ⟨.int .i64 0,Res.one rfl rfl,⟨by rw [if_pos hdk];rfl,rfl⟩⟩
 have hdk:r.dark=false:=lookE_f C0;refine .skip<|.seq<|.r<|.z .mvP<|.k 7 .func (apages_any (r:=r) hb)<|.z .asI<|.nil ?_;refine .ret ⟨.int .i64 ((pgsR r:Nat):Int),Res.one rfl rfl,⟨by rw [if_neg (by rw [hdk];decide)],rfl⟩⟩
section
variable {h h':Heap} {d p:Nat} {F G E E':Nat→Prop} {D:Dk} {r r':RD}
section
variable {n:List UInt8} {z y:Int} {a:Option Addr} {c:Nat} {l:List UInt8} {F2 E2:Nat→Prop}
theorem dgwrite_any (ok:Hp h F [dgI d F D] [rdI F2 E2 (a,l.length,c) l] h) (hk:DkOk D) (hcg:D.chg<1000000000) (hz : -9223372036854775808≤z∧z≤9223372036854775807) :
  HC Tryz.prog 66 #[.pointer (some ⟨d,0,none⟩),.string (BA n),.int .i64 z,.slice a l.length c] h (fun v h'=>∃F',v=.int .i64 ((writeN D n z l).2:Int)∧Hp h F [dgI d F' (writeN D n z l).1] [] h'):=by
 obtain ⟨r,E,rfl,o,hf,he⟩:=dg_open ok;have o2:Hp h (dskI d r).F [dskI d r] [bysI E r.fs,rdI F2 E2 (a,l.length,c) l] h:=⟨o.chg,o.m,fun i hi=>by
  rcases List.mem_cons.1 hi with rfl | hi
  ·exact o.r _ (by simp)
  ·exact ok.r i hi,o.mm,fun x hx b hb=>by
  rcases List.mem_cons.1 hb with rfl | hb
  ·exact o.mr x hx _ (by simp)
  ·rw [List.mem_singleton.1 hx,List.mem_singleton.1 hb];exact fun j hj=>ok.mr (dgI d F r.abs) (by simp) (rdI F2 E2 (a,l.length,c) l) (by simp) j (hf j hj)⟩
 refine (write_any o2 hk hcg hz).mono fun v h' ⟨r',E',hv,ha,up⟩=>?_;obtain ⟨F',hp⟩:=dg_up up hf he;rw [ha] at hp;exact ⟨F',hv,hp⟩
theorem dgsync_any (ok:Hp h F [dgI d F D] [] h) (hk:DkOk D) (hcg:D.chg<1000000000) :
  HC Tryz.prog 67 #[.pointer (some ⟨d,0,none⟩),.string (BA n)] h (fun v h'=>∃F',v=.int .i64 ((syncN D n).2:Int)∧Hp h F [dgI d F' (syncN D n).1] [] h'):=by
 obtain ⟨r,E,rfl,o,hf,he⟩:=dg_open ok;refine (sync_any o hk hcg).mono fun v h' ⟨r',E',hv,ha,up⟩=>?_;obtain ⟨F',hp⟩:=dg_up up hf he;rw [ha] at hp;exact ⟨F',hv,hp⟩
theorem dgread_any (ok:Hp h F [dgI d F D] [] h) (hk:DkOk D) (hy : -9223372036854775808≤y∧y≤9223372036854775807) (hz : -9223372036854775808≤z∧z≤9223372036854775807) :
  HC Tryz.prog 23 #[.pointer (some ⟨d,0,none⟩),.string (BA n),.int .i64 y,.int .i64 z] h (fun v h'=>∃w,v=.tuple #[w,.int .i64 ((readN D n y z).2:Int)]∧Own h h' 1 5 w ((readN D n y z).1.map bv)):=by
 obtain ⟨r,E,rfl,o,hf,he⟩:=dg_open ok;exact read_anyD o.rdo hk hy hz
end
end
open Go Go.HL
section
variable {h h':Heap} {d p:Nat} {F:Nat→Prop} {A:Ah}
theorem gPages_any (ok:(agI p d F A).p h) :
  HC Tryz.prog 19 #[.pointer (some ⟨p,0,none⟩)] h (fun v h'=>v=.int .i64 ((if A.dark=true then 0 else (pagesA A).length:Nat):Int)∧h'=h):=by
 obtain ⟨r,I,hb⟩:=ag_box ok;have:=aPages_any hb;rw [I.dark,I.pgs] at this;exact this
end
open Go Go.HL
theorem read_in {A:Ah} {k:Nat} (hd:A.dark=false) (hk:k<(pagesA A).length):readA A ((k:Int)+1)=((pagesA A).getD k [],0):=by
 rw [readA_3 hd (by omega)];congr 2;omega
theorem opn_chg {D:Dk} {z room:Int} (k:DkOk D):(openN D z room).1.chg≤D.chg+1048582:=by
 have h1:(startN D z.toNat).1.chg≤D.chg+1048582:=by
  have h2:=clear_chg (d:=D);unfold startN;split
  ·exact rec_chg k
  ·omega
 unfold openN
 repeat' split
 all_goals first | exact h1 | (simp only;omega)
end Go.Proofs.YtpeaicddbnghfaaGreat
namespace Go.HL
open Go Go.RowKit Go.ChangeShapes Go.WideShapes Go.ChangeAt
theorem len3 {cs:List Value} (h:cs.length=3):∃a b c,cs=[a,b,c]:=by
 match cs,h with
 | [a,b,c],_=>exact ⟨a,b,c,rfl⟩
end Go.HL
namespace Go.Proofs.YtpeaicddbnghfaaGreat
open Go Go.HL
theorem read_take {d:Dk} {T:Option (List UInt8)} {n:List UInt8} {z:Nat} (hd:d.dark=false) (hn:nOk n) (h:d.fs n=synF T):(readN d n 0 (z:Int)).1=(T.getD []).take z:=by
 have st:FSt (d.fs n) T [] T:=by rw [h];exact .syn T
 cases T with
 | none=>rw [show (0:Int)=((0:Nat):Int) from rfl,read_no hd hn st];simp
 | some b=>rw [show (0:Int)=((0:Nat):Int) from rfl,read_st hd hn st];simp
def LayS (fs:List Fr) (z:Nat) (T:List UInt8) (k:Nat) (xs:List UInt8):Prop:=xs.length=manyN fs*z∧∀i,i<manyN fs*z→gd xs i=wrG ((latF fs).take k) z T i
theorem lay_0 {fs:List Fr} {z:Nat} {T:List UInt8} : LayS fs z T 0 (T.take (manyN fs*z)++(List.replicate (manyN fs*z) (0:UInt8)).drop (T.take (manyN fs*z)).length):=by
 refine ⟨by simp;omega,fun i hi=>?_⟩;rw [List.drop_replicate,gd_app,gd_take,gd_zeros,List.length_take];show _=gd T i;by_cases h1:i<T.length
 ·rw [if_pos (by omega),if_pos hi]
 ·rw [if_neg (by omega),gd_ge (b:=T) (by omega)]
section
variable {fs:List Fr} {z:Nat} {T xs:List UInt8} (hz:0<z) (hok:okL z fs) (he:EndsC fs)
include hok he
theorem lay_in {k:Nat} (hk:k<(latF fs).length):∃p:Nat,(latF fs)[k].page=(p:Int)+1∧(latF fs)[k].b.length=z∧p*z+z≤manyN fs*z:=by
 have hf:=List.getElem_mem hk;have h1:=hok _ (latF_in hf);have h2:=(okF_iff.1 h1.1).1;have h3:=he.page hf;have h4:=he.many fun f hf=>(hok f hf).1;refine ⟨((latF fs)[k].page-1).toNat,by omega,h1.2,?_⟩;rw [←Nat.succ_mul];exact Nat.mul_le_mul_right _ (by omega)
include hz
theorem lay_s {k p:Nat} (hk:k<(latF fs).length) (hp:(latF fs)[k].page=(p:Int)+1) (hb:p*z+z≤manyN fs*z) (h:LayS fs z T k xs):LayS fs z T (k+1) (xs.take (p*z)++(latF fs)[k].b++xs.drop (p*z+(latF fs)[k].b.length)):=by
 have hl:=(hok _ (latF_in (List.getElem_mem hk))).2;have hx:=h.1;have e:xs.take (p*z)++(latF fs)[k].b++xs.drop (p*z+(latF fs)[k].b.length)=wrB xs (p*z) (latF fs)[k].b:=by
  refine ext_gd (by rw [wrB_len];simp;omega) fun i hi=>?_;simp only [List.length_append,List.length_take,List.length_drop] at hi;rw [gd_wrB,List.append_assoc,gd_app,gd_app,gd_take,List.length_take,gd_drop];by_cases h1:i<p*z
  ·rw [if_pos (by omega),if_pos h1,if_neg (by omega)]
  ·rw [if_neg (by omega)];by_cases h2:i<p*z+(latF fs)[k].b.length
   ·rw [if_pos (by omega),if_pos (by omega)];congr 1;omega
   ·rw [if_neg (by omega),if_neg (by omega)];congr 1;omega
 rw [e];refine ⟨by rw [wrB_len,hx];omega,fun i hi=>?_⟩;have hd:(latF fs).take (k+1)=(latF fs).take k++[(latF fs)[k]]:=List.take_succ_eq_append_getElem hk;rw [hd];have hn:∀g∈(latF fs).take k,g.page≠(latF fs)[k].page:=fun g hg=>by
  have h1:=latF_srt fs;rw [←List.take_append_drop k (latF fs)] at h1;have:=(List.pairwise_append.1 h1).2.2 g hg (latF fs)[k] (by rw [List.drop_eq_getElem_cons hk];exact List.mem_cons_self);omega
 rw [gd_wrB,hl];unfold wrG;rw [List.find?_append];by_cases h1:i / z=p
 ·rw [if_pos ((in_page hz).2 h1),mod_page h1];have h2:((latF fs).take k).find? (fun f=>decide (f.page=((i / z:Nat):Int)+1))=none:=by
   rw [List.find?_eq_none];intro g hg;simp only [decide_eq_true_eq];rw [h1,←hp];exact hn g hg
  rw [h2,List.find?_cons_of_pos (by simp only [decide_eq_true_eq];omega)];rfl
 ·rw [if_neg (fun h2=>h1 ((in_page hz).1 h2)),h.2 i hi];have h2:[(latF fs)[k]].find? (fun f=>decide (f.page=((i / z:Nat):Int)+1))=none:=by
   rw [List.find?_cons_of_neg (by simp only [decide_eq_true_eq];omega)];rfl
  rw [h2,Option.or_none];rfl
end
theorem lay_end {fs:List Fr} {z k:Nat} {T xs:List UInt8} (hz:0<z) (hz2:z≤4096) (hok:okL z fs) (he:EndsC fs) (hm:manyN fs*z≤16777216) (hk:(latF fs).length≤k) (h:LayS fs z T k xs):xs=ovB fs z T:=by
 refine ext_gd (by rw [h.1,ovB_len]) fun i hi=>?_;rw [h.1] at hi;rw [h.2 i hi,List.take_of_length_le hk,wrG_ov hz hz2 hok he hm hi]
end Go.Proofs.YtpeaicddbnghfaaGreat
namespace Go.HL
open Go
theorem OpA.cpT {P:Program} {s:Slots} {h0 h:Heap} {D:Nat→Prop} {M R:List Itm} {d:Option Tmp} {ty:TypeId} {pos:String} {af:Array Edge} {g:Option (Nat × Bool)} {x y:Operand} {t t' e:TypeId} {b o n c k:Nat} {a':Option Addr} {m m0 c':Nat} {xs ys:List Value}
  (ht:elB P t=some e) (hk:szB P e=some k) (ok:Hp h0 D (capI k e (some ⟨b,o,none⟩,n,c) xs::M) R h) (hn:Sl h k (.slice a' m0 c') ys) (h1:∀u∈ys,u.oneCell'=true)
  (hx:ev s x=.slice (some ⟨b,o,none⟩) n c:=by exact rfl) (hy:ev s y=.slice a' m0 c':=by exact rfl) (hm:min m0 n=m:=by omega) :
  OpA P ⟨d,.call ⟨.builtin .copy,#[x,y],#[t,t']⟩,ty,pos,af,g⟩ s h (fun v h'=>v=.int .i64 (m:Int)∧Hp h0 D (capI k e (some ⟨b,o,none⟩,n,c) (ys.take (m*k)++xs.drop (ys.take (m*k)).length)::M) R h'∧Chg (fun j=>j=b) h h'):=fun E w at'=>by
 have hr0:Row h k a' m (ys.take (m*k)):=hn.cells.tk (by omega);obtain ⟨zs,hzs⟩:∃zs,zs=ys.take (m*k):=⟨_,rfl⟩;rw [←hzs] at hr0⊢;have h1':∀u∈zs,u.oneCell'=true:=fun u hu=>h1 u (List.mem_of_mem_take (hzs▸hu));have hlim:0+zs.length≤n*k:=by rw [hr0.1,Nat.zero_add];exact Nat.mul_le_mul_right _ (by omega)
 obtain ⟨h',w',hcap,hchg,at2,hr⟩:=run_storeAt (P:=P) (i:=0) ok.m0 hlim h1' at';rw [show spl xs 0 zs=zs++xs.drop zs.length from by simp [spl]] at hcap;refine ⟨_,h',w',⟨rfl,ok.upd hchg (fun j e=>by subst e;exact ⟨o,n,c,rfl⟩) _ hcap (fun _ x=>.inl x),hchg⟩,at2,?_⟩;have hmin:Nat.min m0 n=m:=hm;have hf:(Builtin.firstCells k m (.slice a' m0 c')).run P w=.ok zs.toArray w:=by
  by_cases hm0:m=0
  ·subst hm0;have:zs=[]:=List.eq_nil_of_length_eq_zero (by simpa using hr0.1);subst this;cases a'<;>simp [Builtin.firstCells,loadCells,loadCellsFrom]
  ·obtain ⟨b',o',rfl,hcell⟩:=hr0.2 (by omega);exact run_firstCells_some w k m ⟨b',o',none⟩ m0 c' zs hr0.1 (fun j v hj=>by rw [Addr.add_lit,cell?_eq,at'.heap];exact hcell j v hj)
 rw [Nat.add_zero] at hr;simp [execOp,resolve,invoke,builtin,hx,hy,Builtin.copy_,run_und (elB_iff ht),Builtin.lenOf,hmin,run_szB hk,hf,hr,goInt]
theorem cpT_b {ys xs:List UInt8} {n m:Nat} (h:m=min ys.length n):(ys.map bv).take (m*1)++(xs.map bv).drop ((ys.map bv).take (m*1)).length=(ys.take n++xs.drop (ys.take n).length).map bv:=by
 subst h;rw [Nat.mul_one,←List.map_take,List.length_map,←List.map_drop,←List.map_append];congr 2<;>rw [Nat.min_comm,←List.take_eq_take_min]
theorem spl_b {xs ys:List UInt8} {o:Nat} : spl (xs.map bv) (o*1) (ys.map bv)=(xs.take o++ys++xs.drop (o+ys.length)).map bv:=by simp [spl]
end Go.HL
namespace Go.Proofs.YtpeaicddbnghfaaGreat
open Go Go.HL
theorem join_any {h:Heap} {F E:Nat→Prop} {x:SV} {L:List (List UInt8)} (hl:RdL h F E x L) (hN:L.flatten.length≤1000000000) :
  HC Tryz.prog 25 #[sv x] h (fun v h'=>Own h h' 1 5 v (L.flatten.map bv)):=by
 obtain ⟨a,c,rfl,hc1,hc2⟩:=hl.form;have ok:=(Hp.nil h none_).arg hl;refine HC.go Tryz.func25 32 ?_;refine .seq<|.r<|.z .asS<|.nil ?_;refine .seq<|.r<|.z .asS<|.nil ?_;refine .seq<|.seq<|?_;have ok:=ok.nilC (k:=1) (e:=5);refine .r<|.z .asI<|.nil ?_;refine .block fun K0 hK0=>.loop (fun m s hh=>∃(i:Nat) (a1:Option Addr) (n1 c1:Nat),Has s [(0,.slice a L.length c),(3,.slice a1 n1 c1),(4,.int .i64 (i:Int))]∧Hp h none_ [capI 1 5 (a1,n1,c1) ((L.take i).flatten.map bv)] [rdI (fun j=>F j∧j<h.size) (fun j=>E j∧j<h.size) (a,L.length,c) L] hh∧i≤L.length∧m=L.length-i) ?_ ?_
 ·exact ⟨_,0,_,_,_,⟨rfl,rfl,rfl,trivial⟩,ok.cx (by simp),Nat.zero_le _,rfl⟩
 rintro _ _ η1 ⟨i,a1,n1,c1,hs,ok,hi,rfl⟩ J0 hJ0;refine .frame hs fun τ=>?_;refine .seq<|.seq<|.r<|.z .mvI<|.z .mvS<|.z (.len T.el26)<|.z .lss<|.nil ?_;refine .cdr (fun C0=>?_) (fun C0=>?_)
 ·
  have hil:i=L.length:=by omega
  refine .exit<|hK0 _ _<|.seq<|.r<|.z .mvS<|.z .asS<|.nil ?_;refine .ret ⟨.slice a1 n1 c1,Res.one rfl rfl,by have:=ok.toOwn;rwa [hil,List.take_length] at this⟩
 have hil:i<L.length:=by omega
 have hfl:=flatten_take hil;have hlen:(L.take (i+1)).flatten.length≤L.flatten.length:=by rw [←List.take_append_drop (i+1) L,List.flatten_append];simp
 refine .skip<|.seq<|.block fun K1 hK1=>.seq<|.r<|.z .asI<|.nil ?_;refine .block fun K2 hK2=>.loop (fun m s hh=>∃(j:Nat) (a1:Option Addr) (n1 c1:Nat),Has s [(0,.slice a L.length c),(3,.slice a1 n1 c1),(4,.int .i64 (i:Int)),(5,.int .i64 (j:Int))]∧Hp h none_ [capI 1 5 (a1,n1,c1) (((L.take i).flatten++L[i].take j).map bv)] [rdI (fun j=>F j∧j<h.size) (fun j=>E j∧j<h.size) (a,L.length,c) L] hh∧j≤L[i].length∧m=L[i].length-j) ?_ ?_
 ·exact ⟨_,0,_,_,_,⟨rfl,rfl,rfl,rfl,trivial⟩,ok.cx (by simp),Nat.zero_le _,rfl⟩
 rintro _ _ η2 ⟨j,a1,n1,c1,hs,ok,hj,rfl⟩ J1 hJ1;refine .frame hs fun τ=>?_;refine .seq<|.seq<|.r<|.z .mvI<|.z .mvS<|.z .mvI<|?_;obtain ⟨bb1,oo1,rfl,fb1⟩:=ok.r0.pos (by omega);refine .z (.ix1 i T.el26 T.sz22)<|?_;obtain ⟨ya1,yc1,he1,hr1⟩:=ok.r0.row (i:=i) (by omega);have ok:=ok.d0 (rdI (fun j=>E j∧j<h.size) (fun j=>E j∧j<h.size) (ya1,L[i].length,yc1) (L[i])) hr1 (fun _ h=>.inr (h.elim id id));refine .z (.ld T.ag22 he1)<|.z (.len T.el22)<|.z .lss<|.nil ?_;refine .cdr (fun C1=>?_) (fun C1=>?_)
 ·
  have hjl:j=L[i].length:=by omega
  have ok:=ok.cx (ys:=(L.take (i+1)).flatten.map bv) (by rw [hfl,hjl,List.take_length]);refine .exit<|hK2 _ _<|.end<|hK1 _ _<|.r<|.z .mvI<|.z .add<|.z .asI<|.nil ?_;refine .end<|hJ0 _ _ _ ⟨i+1,_,_,_,⟨rfl,rfl,rfl,trivial⟩,ok.tR.cx (by simp),by omega,rfl⟩ (by omega)
 have hjl:j<L[i].length:=by omega
 have hbd:(L.take i).flatten.length+j+1≤1000000000:=by rw [hfl,List.length_append] at hlen;omega
 have htk:=take_next hjl;refine .skip<|.seq<|.block fun K3 hK3=>.r<|.z .mvS<|.z .mvS<|.z .mvI<|.z (.ix1 i T.el26 T.sz22)<|?_;obtain ⟨ya2,yc2,he2,hr2⟩:=ok.r1.row (i:=i) (by omega);have ok:=ok.d1 (rdI (fun j=>E j∧j<h.size) (fun j=>E j∧j<h.size) (ya2,L[i].length,yc2) (L[i])) hr2 (fun _ h=>.inr (h.elim id id));refine .z (.ld T.ag22 he2)<|.z .mvI<|?_;obtain ⟨bb2,oo2,rfl,fb2⟩:=ok.r0.pos (by omega);refine .z (.ix1 j T.el22 T.sz5)<|.z (.ld T.ag5 (ok.r0.u8 (i:=j) (by omega)))<|.a' 29 (.lit [.tmp 28] (cs:=[.int .u8 ((L[i])[j].toNat:Int)]) T.el22 T.sz5 T.zr5 ok ⟨rfl,trivial⟩) ?_;rintro _ η3 ⟨pb1,rfl,ok,xe⟩;refine .a' 30 (.app (news:=[.int .u8 ((L[i])[j].toNat:Int)]) T.el22 T.sz5 T.by5 T.zr5 ok.n1 (ok.n1.m1).sl (oneL rfl) (by simp only [List.length_map,List.length_append,List.length_take,List.length_cons,List.length_nil];omega)) ?_;rintro _ η4 ⟨ya3,yn1,yc3,rfl,ok,ap⟩;refine .z .asS<|.nil ?_;refine .end<|hK3 _ _<|.r<|.z .mvI<|.z .add<|.z .asI<|.nil ?_;refine .end<|hJ1 _ _ _ ⟨j+1,_,_,_,⟨rfl,rfl,rfl,rfl,trivial⟩,ok.k1.tR.tR.cx (by rw [htk,←List.append_assoc];exact snocB),by omega,rfl⟩ (by omega)
def pgsN (z:Nat) (f:List UInt8):List (List UInt8):=(List.range (f.length / z)).map fun i=>(f.drop (i*z)).take z
theorem pgsN_len {z:Nat} {f:List UInt8} : (pgsN z f).length=f.length / z:=by simp [pgsN]
theorem pgsN_at {z:Nat} {f:List UInt8} {i:Nat} (h:i<(pgsN z f).length):(pgsN z f)[i]=(f.drop (i*z)).take z:=by simp [pgsN]
section
variable {z:Nat} {f:List UInt8} (hz:0<z) (hd:f.length%z=0)
include hz hd
theorem pgsN_mul:f.length / z*z=f.length:=by have:=Nat.div_add_mod f.length z;rw [hd,Nat.mul_comm] at this;omega
theorem pgsN_one:∀l∈pgsN z f,l.length=z:=fun l hl=>by
 obtain ⟨i,hi,rfl⟩:=List.mem_iff_getElem.1 hl;rw [pgsN_at hi,List.length_take,List.length_drop];rw [pgsN_len] at hi;have h1:(i+1)*z≤f.length / z*z:=Nat.mul_le_mul_right _ hi;rw [pgsN_mul hz hd,Nat.succ_mul] at h1;omega
theorem pgsN_flat:(pgsN z f).flatten=f:=by
 have h1:=pgsN_one hz hd;have hl:=flat_lenZ h1;rw [pgsN_len,pgsN_mul hz hd] at hl;refine ext_gd hl fun i hi=>?_;rw [hl] at hi;have hk:i / z<(pgsN z f).length:=by rw [pgsN_len];exact (Nat.div_lt_iff_lt_mul hz).2 (by rw [pgsN_mul hz hd];exact hi)
 have h2:=flat_drop h1 hk;have hm:=Nat.mod_lt i hz;have hdm:i / z*z+i%z=i:=by rw [Nat.mul_comm];exact Nat.div_add_mod i z
 have h3:gd ((((pgsN z f).flatten).drop (i / z*z)).take z) (i%z)=gd ((pgsN z f)[i / z]) (i%z):=by rw [h2]
 rw [gd_take,if_pos hm,gd_drop,hdm,pgsN_at hk,gd_take,if_pos hm,gd_drop,hdm] at h3;exact h3
end
def wholeN (f:List UInt8) (z:Nat):List (List UInt8) × Int:=
 if f=[] then ([],0) else if f.length<64 then ([],14) else
 if (decN (f.take 64)).2≠0∨(f.length:Int)%(decN (f.take 64)).1.size≠0 then ([],14) else
 if (decN (f.take 64)).1.size≠z then ([],1) else (pgsN z f,0)
section
variable {f:List UInt8} {z:Nat}
theorem wh0 (h:f=[]):wholeN f z=([],0):=if_pos h
theorem ne_nil {f:List UInt8} {n:Nat} (h:¬f.length<n+1):f≠[]:=fun e=>h (by rw [e];simp)
theorem wh1 (h0:f≠[]) (h:f.length<64):wholeN f z=([],14):=by unfold wholeN;rw [if_neg h0,if_pos h]
variable (h:¬f.length<64)
include h
theorem wh2 (h2:(decN (f.take 64)).2≠0∨(f.length:Int)%(decN (f.take 64)).1.size≠0):wholeN f z=([],14):=by unfold wholeN;rw [if_neg (ne_nil h),if_neg h,if_pos h2]
variable (h2:¬((decN (f.take 64)).2≠0∨(f.length:Int)%(decN (f.take 64)).1.size≠0))
include h2
theorem wh3 (h3:(decN (f.take 64)).1.size≠z):wholeN f z=([],1):=by unfold wholeN;rw [if_neg (ne_nil h),if_neg h,if_neg h2,if_pos h3]
theorem wh4 (h3:(decN (f.take 64)).1.size=z):wholeN f z=(pgsN z f,0):=by unfold wholeN;rw [if_neg (ne_nil h),if_neg h,if_neg h2,if_neg (not_not_intro h3)]
theorem wh_mod (h3:(decN (f.take 64)).1.size=z):f.length%z=0:=by
 have:(f.length:Int)%(z:Int)=0:=by rw [←h3];exact Classical.byContradiction fun h=>h2 (.inr h)
 omega
end
noncomputable def opensN (z:Nat) (f g:List UInt8) (mk:Nat):List (List UInt8) × Int:=
 if mk=0 then wholeN f z else if g.length<20 then ([],14) else
 if headOk (g.take 20)=false∨g.length<20+(mk-1)*(16+rdN (g.take 20) 4 4) then ([],14) else
 if rdN (g.take 20) 4 4≠z then ([],1) else
 if scanF (g.take (20+(mk-1)*(16+rdN (g.take 20) 4 4)))=[] then wholeN f z else
 if 65536<manyN (scanF (g.take (20+(mk-1)*(16+rdN (g.take 20) 4 4))))*z then ([],-1) else
 wholeN (ovB (scanF (g.take (20+(mk-1)*(16+rdN (g.take 20) 4 4)))) z f) z
def Fnd (z:Nat) (f:List UInt8) (w:List (List UInt8) × Int) (D:Dk) (r:Nat × Nat):Prop:=
 r=((if w.2=0 then w.1.length else 0),w.2.toNat)∧0≤w.2∧(w.2=0→PgOk z w.1∧Clean w.1 D∧w.1.flatten=f)
theorem look_whole {D:Dk} {t:Option (List UInt8)} {z:Nat} (S:Syn3 D t none none) (hz:okSz z=true) (hl:(t.getD []).length≤16777216):Fnd z (t.getD []) (wholeN (t.getD []) z) D (lookN D z):=by
 have hzb:=okSz_b hz;have st:FSt (D.fs nT) t [] t:=by rw [S.T];exact .syn t
 have hsz:=size_st S.hd st;by_cases h0:t.getD []=[]
 ·have e:wholeN (t.getD []) z=([],0):=by unfold wholeN;rw [if_pos h0]
  rw [e,look_00 (by rw [hsz,h0];exact .inr rfl) S.hd,h0];exact ⟨rfl,Int.le_refl _,fun _=>⟨⟨hz,by simp,by simp,by simp⟩,⟨t,S,h0⟩,rfl⟩⟩
 ·obtain ⟨b,rfl⟩:∃b,t=some b:=by cases t;exact absurd rfl h0;exact ⟨_,rfl⟩
  simp only [Option.getD_some] at h0 hl hsz⊢;have hr:=read_st (p:=0) (z:=64) S.hd nT_ok st;rw [List.drop_zero,show ((0:Nat):Int)=0 from rfl,show ((64:Nat):Int)=64 from rfl] at hr;have hp:0<b.length:=List.length_pos_iff.2 h0;have g1:¬((sizeN D nT).2=false∨(sizeN D nT).1=0):=by rw [hsz];rintro (h | h);cases h;exact absurd h (by show b.length≠0;omega)
  have g3:(readN D nT 0 64).2=0:=by rw [hr]
  have eS:(sizeN D nT).1=b.length:=by rw [hsz]
  have eR:(readN D nT 0 64).1=b.take 64:=by rw [hr]
  by_cases h64:b.length<64
  ·have e:wholeN b z=([],14):=by unfold wholeN;rw [if_neg h0,if_pos h64]
   have hd6:(decN (b.take 64)).2=6:=by rw [dec6 (by rw [List.length_take];omega)]
   have e2:lookN D z=(0,14):=by unfold lookN;rw [if_neg g1,if_neg (by omega),if_pos (by rw [eR,hd6];left;decide)]
   rw [e,e2];exact ⟨rfl,by decide,fun h=>by cases h⟩
  by_cases h14:(decN (b.take 64)).2≠0∨(b.length:Int)%(decN (b.take 64)).1.size≠0
  ·have e:wholeN b z=([],14):=by unfold wholeN;rw [if_neg h0,if_neg h64,if_pos h14]
   have e2:lookN D z=(0,14):=by unfold lookN;rw [if_neg g1,if_neg (by omega),eR,eS,if_pos h14]
   rw [e,e2];exact ⟨rfl,by decide,fun h=>by cases h⟩
  by_cases h1:(decN (b.take 64)).1.size≠z
  ·have e:wholeN b z=([],1):=by unfold wholeN;rw [if_neg h0,if_neg h64,if_neg h14,if_pos h1]
   have e2:lookN D z=(0,1):=by unfold lookN;rw [if_neg g1,if_neg (by omega),eR,eS,if_neg h14,if_pos h1]
   rw [e,e2];exact ⟨rfl,by decide,fun h=>by cases h⟩
  ·have e:wholeN b z=(pgsN z b,0):=by unfold wholeN;rw [if_neg h0,if_neg h64,if_neg h14,if_neg h1]
   have e2:lookN D z=(b.length / z,0):=by unfold lookN;rw [if_neg g1,if_neg (by omega),eR,eS,if_neg h14,if_neg h1]
   have hz0:0<z:=by omega
   have hd1:(decN (b.take 64)).2=0:=Classical.byContradiction fun h=>h14 (.inl h);have hs1:(decN (b.take 64)).1.size=z:=Classical.byContradiction fun h=>h1 h;have hmod:b.length%z=0:=by
    have:(b.length:Int)%(z:Int)=0:=by rw [←hs1];exact Classical.byContradiction fun h=>h14 (.inr h)
    omega
   have hfl:=pgsN_flat hz0 hmod;have hone:=pgsN_one hz0 hmod;have hmul:=pgsN_mul hz0 hmod;rw [e,e2];refine ⟨by rw [if_pos rfl,pgsN_len];rfl,Int.le_refl _,fun _=>⟨⟨hz,hone,by rw [pgsN_len,hmul];exact hl,fun hne=>?_⟩,⟨some b,S,hfl.symm⟩,hfl⟩⟩;have hlp:0<(pgsN z b).length:=List.length_pos_iff.2 hne;have e3:(pgsN z b).getD 0 []=b.take z:=by
    have:(pgsN z b).getD 0 []=(pgsN z b)[0]:=by simp [hlp]
    rw [this,pgsN_at hlp,Nat.zero_mul,List.drop_zero]
   have hle:z≤b.length:=by rw [pgsN_len] at hlp;exact Nat.le_of_not_lt fun h=>by rw [Nat.div_eq_of_lt h] at hlp;omega
   unfold hdOk;rw [e3,←decN_take (by rw [List.length_take];omega),List.take_take,Nat.min_eq_left (by omega)];exact decide_eq_true ⟨hd1,hs1⟩
theorem reach_fold {b:List UInt8} {size:Nat} {s:Sc} (r:Reach b size (scan0 b) s):s=foldS size (scan0 b) s.all:=by
 induction r with
 | refl=>rfl
 | step r hf ih=>
  rename_i t;rw [stepF_all];unfold foldS at ih⊢;rw [List.foldl_append,←ih];rfl
theorem scan_ex (b:List UInt8):∃s,ScanE b s:=by
 have key:∀(n:Nat) (s:Sc),Reach b (rdN b 4 4) (scan0 b) s→b.length-s.pos≤n→∃s,ScanE b s:=by
  intro n;induction n with
  | zero=>
   intro s r hn;exact ⟨s,r,fun hf=>by have:=hf.1;omega⟩
  | succ n ih=>
   intro s r hn;by_cases hf:fits b (rdN b 4 4) s.pos s.prev
   ·exact ih _ (.step r hf) (by rw [stepF_pos];have:=hf.1;omega)
   ·exact ⟨s,r,hf⟩
 exact key _ (scan0 b) (.refl _) (Nat.le_refl _)
theorem scan_ends {b:List UInt8} {s:Sc} (h:ScanE b s):s.l=[]∨EndsC s.l:=by
 have a:=h.1.frames (s:=scan0 b) (by simp [scan0]) (by simp [scan0]) (by simp [scan0]) (by simp [scan0]) (by simp [scan0]);have hc:∀f∈s.all,0≤f.commit:=fun f hf=>(okF_iff.1 (a.1 f hf).1).1.2.2.1;have e:=reach_fold h.1;have e2:=foldS_eq (rdN b 4 4) b s.all hc;rw [←e] at e2;have e3:s.l=s.all.take (sureN s.all):=by rw [e2]
 by_cases hn:s.l=[]
 ·exact .inl hn
 ·rw [e3] at hn⊢;exact .inr (sure_ends hc hn)
theorem res_ok {d:Dk} {r:Dk × Nat} {G B:Dk→Prop} (h:Res d r G B) (hl:d.left<0):r.2=0∧r.1.dark=false∧r.1.left<0∧G r.1:=by
 rcases h with ⟨h1,h2,h3,h4⟩ | ⟨_,_,h3,_⟩
 ·exact ⟨h1,h2,h3 hl,h4⟩
 ·omega
theorem opens_own {D:Dk} {t g m:Option (List UInt8)} {z:Nat} {room:Int} (S:Syn3 D t g m) (hz:okSz z=true) (hl:D.left<0) (ht:(t.getD []).length≤65536) (hg:(g.getD []).length≤16777216) (hr:1≤room∧room≤1048576) (hb:0≤(opensN z (t.getD []) (g.getD []) (mlen m)).2) :
  (openN D z room).2=((if (opensN z (t.getD []) (g.getD []) (mlen m)).2=0 then (opensN z (t.getD []) (g.getD []) (mlen m)).1.length else 0),(opensN z (t.getD []) (g.getD []) (mlen m)).2.toNat)∧((opensN z (t.getD []) (g.getD []) (mlen m)).2=0→PgOk z (opensN z (t.getD []) (g.getD []) (mlen m)).1∧Clean (opensN z (t.getD []) (g.getD []) (mlen m)).1 (openN D z room).1∧(opensN z (t.getD []) (g.getD []) (mlen m)).1.flatten.length≤65536):=by
 have hzb:=okSz_b hz;have stM:FSt (D.fs nM) m [] m:=by rw [S.M];exact .syn m
 have hsz:=size_st S.hd stM;have fin:∀ {f:List UInt8} {w:List (List UInt8) × Int},(startN D z).2=0→Fnd z f w (startN D z).1 (lookN (startN D z).1 z)→f.length≤65536→(openN D z room).2=((if w.2=0 then w.1.length else 0),w.2.toNat)∧(w.2=0→PgOk z w.1∧Clean w.1 (openN D z room).1∧w.1.flatten.length≤65536):=fun h0 h hf=>by
  rw [open_ok (okZ_of hz) hr S.hd (by simpa using h0)];refine ⟨h.1,fun h1=>?_⟩;obtain ⟨a,b,c⟩:=h.2.2 h1;exact ⟨a,b,by rw [c];exact hf⟩
 have err:∀ {c:Nat},(startN D z).2=c→c≠0→(openN D z room).2=(0,c):=fun {c} h hc=>by
  rw [open_e (okZ_of hz) hr S.hd (by show (startN D z).2≠0;omega)];show (0,(startN D z).2)=_;rw [h]
 by_cases h0:mlen m=0
 ·have e:opensN z (t.getD []) (g.getD []) (mlen m)=wholeN (t.getD []) z:=by unfold opensN;rw [if_pos h0]
  rw [e];have hs:startN D z=clearN D:=start_c (by rw [hsz];rintro ⟨_,h2⟩;unfold mlen at h0;simp only at h2;omega);obtain ⟨c1,c2,c3,c4⟩:=res_ok (clear_res S.hd S.T S.L S.M) hl;rw [←hs] at c1 c2 c4;exact fin c1 (look_whole ⟨c2,c4.1,c4.2.1,c4.2.2⟩ hz (by omega)) ht
 ·obtain ⟨mb,rfl,hmb⟩:=mlen_pos h0;have hal:=allN_syn S.hd S.L hg;have hn:(sizeN D nM).1=mlen (some mb):=by rw [hsz];rfl
  have hs:startN D z=recN D z (mlen (some mb)):=by rw [start_r (by rw [hsz];rfl) (by rw [hn];omega),hn]
  generalize hG:g.getD []=G at hal hg hb⊢;by_cases h20:G.length<20
  ·have e:opensN z (t.getD []) G (mlen (some mb))=([],14):=by unfold opensN;rw [if_neg h0,if_pos h20]
   rw [e];exact ⟨err (by rw [hs,rec_bad hal.1 hal.2 (.inl h20)];rfl) (by decide),fun h=>by cases h⟩
  by_cases hh:headOk (G.take 20)=false
  ·have e:opensN z (t.getD []) G (mlen (some mb))=([],14):=by unfold opensN;rw [if_neg h0,if_neg h20,if_pos (.inl hh)]
   rw [e];exact ⟨err (by rw [hs,rec_bad hal.1 hal.2 (.inr hh)];rfl) (by decide),fun h=>by cases h⟩
  by_cases hc:G.length<20+(mlen (some mb)-1)*(16+rdN (G.take 20) 4 4)
  ·have e:opensN z (t.getD []) G (mlen (some mb))=([],14):=by unfold opensN;rw [if_neg h0,if_neg h20,if_pos (.inr hc)]
   rw [e];exact ⟨err (by rw [hs,rec_cut hal.1 hal.2 (by omega) (by simpa using hh) hc];rfl) (by decide),fun h=>by cases h⟩
  by_cases hq:rdN (G.take 20) 4 4≠z
  ·have e:opensN z (t.getD []) G (mlen (some mb))=([],1):=by unfold opensN;rw [if_neg h0,if_neg h20,if_neg (by simp [hh,hc]),if_pos hq]
   rw [e];exact ⟨err (by rw [hs,rec_size hal.1 hal.2 (by omega) (by simpa using hh) hc hq];rfl) (by decide),fun h=>by cases h⟩
  have hq':rdN (G.take 20) 4 4=z:=Classical.byContradiction hq;obtain ⟨s,hsc⟩:=scan_ex (G.take (20+(mlen (some mb)-1)*(16+rdN (G.take 20) 4 4)));have hrec:startN D z=carryN D z s.l:=by rw [hs,rec_go hal.1 hal.2 (by omega) (by simpa using hh) hc hq' hsc]
  have hsf:=scanF_of hsc;have hfr:=hsc.frames.1;rw [rdN_take (by omega),←rdN_take (n:=20) (by omega),hq'] at hfr;have e1:opensN z (t.getD []) G (mlen (some mb))=if s.l=[] then wholeN (t.getD []) z else if 65536<manyN s.l*z then ([],-1) else wholeN (ovB s.l z (t.getD [])) z:=by
   unfold opensN;rw [if_neg h0,if_neg h20,if_neg (by simp [hh,hc]),if_neg hq,hsf]
  rw [e1] at hb⊢;have hm:manyN s.l*z≤65536:=by
   by_cases hnil:s.l=[]
   ·rw [hnil];simp [manyN,latC]
   ·rw [if_neg hnil] at hb;exact Nat.le_of_not_lt fun h=>by rw [if_pos h] at hb;exact absurd hb (by decide)
  obtain ⟨c1,c2,c3,c4⟩:=res_ok (carry_res (fs:=s.l) S.hd S.T S.L S.M (by omega) hzb.2 hfr (scan_ends hsc) (by omega)) hl;rw [←hrec] at c1 c2 c4;have hS:Syn3 (startN D z).1 (tO s.l z t) none none:=⟨c2,c4.1,c4.2.1,c4.2.2⟩;have e2:(if s.l=[] then wholeN (t.getD []) z else if 65536<manyN s.l*z then ([],-1) else wholeN (ovB s.l z (t.getD [])) z)=wholeN ((tO s.l z t).getD []) z:=by
   rw [tO_get,if_neg (show ¬65536<manyN s.l*z by omega)];unfold tgt;split<;>rfl
  rw [e2];have hlen:((tO s.l z t).getD []).length≤65536:=by
   rw [tO_get];unfold tgt;split
   ·exact ht
   ·rw [ovB_len];exact hm
  exact fin c1 (look_whole hS hz (by omega)) hlen
open Go Go.HL
theorem whole_any {h:Heap} {FF FE:Nat→Prop} {fa:Option Addr} {fc z:Nat} {f:List UInt8} (hf:RdL h FF FE (fa,f.length,fc) f) (hz:okSz z=true) (hN:f.length≤100000000):HC Tryz.prog 64 #[.slice fa f.length fc,.int .i64 (z:Int)] h (fun v h'=>∃E' a c l,v=.tuple #[.slice a l.length c,.int .i64 (wholeN f z).2]∧pgs l=(wholeN f z).1∧Ext h h'∧PgB h' E' (a,l.length,c) l∧∀j,E' j→(FF j∨FE j)∨Nw h h' j):=by
 have hzb:=okSz_b hz;have hz0:0<z:=by omega
 have hfc:=hf.c;have hfm:=hf.m;simp only at hfc hfm;have ok:=(Hp.nil h none_).arg hf;refine HC.go Tryz.func64 53 ?_;refine .seq<|.r<|.z .asS<|.z .asI<|.nil ?_;refine .seq<|.seq<|.r<|.z .mvS<|.z (.len T.el22)<|.z .eql<|.nil ?_;refine .cd (fun C0=>?_) (fun C0=>?_)
 ·
  refine .seq<|.r<|.z .asS<|.z .asI<|.nil ?_;refine .ret ⟨.tuple #[.slice none 0 0,.int .i64 0],Res.two rfl rfl rfl,⟨none_,none,0,[],by rw [wh0 (List.eq_nil_of_length_eq_zero (by omega))];rfl,by rw [wh0 (List.eq_nil_of_length_eq_zero (by omega))];rfl,ok.chg,RwB.nil _ _ 0 (by decide),fun j f=>f.elim⟩⟩
 refine .skip<|.seq<|.seq<|.r<|.z .mvS<|.z (.len T.el22)<|.z .lss<|.nil ?_;refine .cd (fun C1=>?_) (fun C1=>?_)
 ·
  refine .seq<|.r<|.z .asS<|.z .asI<|.nil ?_;refine .ret ⟨.tuple #[.slice none 0 0,.int .i64 14],Res.two rfl rfl rfl,⟨none_,none,0,[],by rw [wh1 (fun h9=>by rw [h9] at C0;exact C0 rfl) (by omega)];rfl,by rw [wh1 (fun h9=>by rw [h9] at C0;exact C0 rfl) (by omega)];rfl,ok.chg,RwB.nil _ _ 0 (by decide),fun j f=>f.elim⟩⟩
 refine .skip<|.seq<|.r<|.z .mvS<|.z (.sl_h ((f.take 64).length) T.el22 T.sz5 (hb:=by (simp;omega)))<|?_;have ok:=ok.d0 (rdI (fun j=>FF j∧j<h.size) (fun j=>FE j∧j<h.size) (fa,(f.take 64).length,fc) (f.take 64)) ((ok.r0).pre (l2:=f.take 64) (List.take_prefix _ _)) (fun _ h=>h);refine .c' 19 .func (rdec_any (a:=fa) (c:=fc) (l:=f.take 64) ok.r0) ?_;rintro _ η1 ⟨rfl,hx⟩;rw [show (decN (f.take 64)).1.val=.agg #[.int .i64 (decN (f.take 64)).1.size,.int .i64 (decN (f.take 64)).1.pages,.int .i64 (decN (f.take 64)).1.free,.int .i64 (decN (f.take 64)).1.many,.int .i64 (decN (f.take 64)).1.cookie,.int .i64 (decN (f.take 64)).1.version] from rfl];have ok:=ok.ext hx;refine .z .mvU<|.z .ex<|.z .ex<|.a' 6 (.alA T.zr148 ok) ?_;rintro _ η2 ⟨pb1,rfl,ok,xe⟩;refine .ur' (.stW (vs:=[.int .i64 ((decN (f.take 64)).1.size),.int .i64 ((decN (f.take 64)).1.pages),.int .i64 ((decN (f.take 64)).1.free),.int .i64 ((decN (f.take 64)).1.many),.int .i64 ((decN (f.take 64)).1.cookie),.int .i64 ((decN (f.take 64)).1.version)]) T.sz148 ok (oneL rfl)) ?_;rintro η3 ⟨ok,cg⟩;refine .z .asI<|.nil ?_;refine .seq<|.seq<|.r<|.z .mvI<|.z .neq<|.z .mvB<|.sd (fun G24=>?_) (fun G24=>?_)
 ·
  refine .y<|.y<|.y<|.y<|.y<|.y<|.z .pkt<|.nil ?_;refine .ct<|.seq<|.r<|.z .asS<|.z .asI<|.nil ?_;refine .ret ⟨.tuple #[.slice none 0 0,.int .i64 14],Res.two rfl rfl rfl,⟨none_,none,0,[],by rw [wh2 (show ¬f.length<64 by omega) (by first | exact .inl (by omega) | exact .inr (by omega))];rfl,by rw [wh2 (show ¬f.length<64 by omega) (by first | exact .inl (by omega) | exact .inr (by omega))];rfl,ok.chg,RwB.nil _ _ 0 (by decide),fun j f=>f.elim⟩⟩
 have hdz:=okZ_cases (dec_sz (show (decN (f.take 64)).2=0 by omega));refine .z .mvS<|.z (.len T.el22)<|.z (.fa T.fd148_0)<|.z (.ldx T.ag3 ok.m0)<|.z .rem<|.z .neq<|.z .pkf<|.nil ?_;refine .cd (fun C2=>?_) (fun C2=>?_)
 ·
  refine .seq<|.r<|.z .asS<|.z .asI<|.nil ?_;refine .ret ⟨.tuple #[.slice none 0 0,.int .i64 14],Res.two rfl rfl rfl,⟨none_,none,0,[],by rw [wh2 (show ¬f.length<64 by omega) (by first | exact .inl (by omega) | exact .inr (by omega))];rfl,by rw [wh2 (show ¬f.length<64 by omega) (by first | exact .inl (by omega) | exact .inr (by omega))];rfl,ok.chg,RwB.nil _ _ 0 (by decide),fun j f=>f.elim⟩⟩
 refine .skip<|.seq<|.seq<|.r<|.z (.fa T.fd148_0)<|.z (.ldx T.ag3 ok.m0)<|.z .mvI<|.z .neq<|.nil ?_;refine .cd (fun C3=>?_) (fun C3=>?_)
 ·
  refine .seq<|.r<|.z .asS<|.z .asI<|.nil ?_;refine .ret ⟨.tuple #[.slice none 0 0,.int .i64 1],Res.two rfl rfl rfl,⟨none_,none,0,[],by rw [wh3 (show ¬f.length<64 by omega) (by rintro (h9 | h9)<;>omega) (by omega)];rfl,by rw [wh3 (show ¬f.length<64 by omega) (by rintro (h9 | h9)<;>omega) (by omega)];rfl,ok.chg,RwB.nil _ _ 0 (by decide),fun j f=>f.elim⟩⟩
 have hs3:(decN (f.take 64)).1.size=z:=by omega
 have h2n:¬((decN (f.take 64)).2≠0∨(f.length:Int)%(decN (f.take 64)).1.size≠0):=by rintro (h9 | h9)<;>omega
 have hmod:=wh_mod (show ¬f.length<64 by omega) h2n hs3;have hmul:=pgsN_mul hz0 hmod;refine .skip<|.seq<|.r<|.z .asS<|.nil ?_;refine .seq<|.seq<|?_;have ok:=ok.nilC (k:=1) (e:=22);have ok:=ok.d1 (pbyI (fun j=>(FF j∧j<h.size)∨FE j∧j<h.size) []) Pby.nil (fun _ h=>h);refine .r<|.z .asI<|.nil ?_;refine .block fun K0 hK0=>.loop (fun m s hh=>∃(k:Nat) (ol:List RB) (a8:Option Addr) (c8:Nat),Has s [(0,.slice fa f.length fc),(1,.int .i64 (z:Int)),(8,.slice a8 ol.length c8),(9,.int .i64 ((z*k:Nat):Int))]∧Hp h none_ [capI 1 22 (a8,ol.length,c8) (ol.flatMap RB.cells)] [rdI (fun j=>FF j∧j<h.size) (fun j=>FE j∧j<h.size) (fa,f.length,fc) f,pbyI (fun j=>(FF j∧j<h.size)∨FE j∧j<h.size) ol] hh∧k≤f.length / z∧ol.length=k∧pgs ol=(pgsN z f).take k∧m=f.length / z-k) ?_ ?_
 ·exact ⟨_,0,[],none,0,⟨rfl,rfl,rfl,rfl,trivial⟩,(ok).k1.f2.e2,Nat.zero_le _,rfl,rfl,rfl⟩
 rintro _ _ η4 ⟨k,ol,a8,c8,hs,ok,hk,hol,hpo,rfl⟩ J0 hJ0;refine .frame hs fun τ=>?_;refine .seq<|.seq<|.r<|.z .mvI<|.z .mvS<|.z (.len T.el22)<|.z .lss<|.nil ?_;refine .cdr (fun C4=>?_) (fun C4=>?_)
 ·
  have hkl:k=f.length / z:=by
   refine Nat.le_antisymm hk (Nat.le_of_not_lt fun h9=>?_);have h8:(k+1)*z≤f.length / z*z:=Nat.mul_le_mul_right _ h9;rw [Nat.succ_mul,hmul,Nat.mul_comm k z] at h8;omega
  refine .exit<|hK0 _ _<|.seq<|.r<|.z .mvS<|.z .asS<|.z .asI<|.nil ?_;refine .ret ⟨.tuple #[.slice a8 ol.length c8,.int .i64 0],Res.two rfl rfl rfl,⟨_,a8,c8,ol,by rw [wh4 (show ¬f.length<64 by omega) h2n hs3],by rw [wh4 (show ¬f.length<64 by omega) h2n hs3,hpo,List.take_of_length_le (by rw [pgsN_len];omega)],ok.chg,(PgB.of ok.m0 ok.r1 (fun j hj=>.inl hj) (fun j hj=>.inr hj):PgB _ (fun j=>blkC (sv (a8,ol.length,c8)) j∨(fun j=>(FF j∧j<h.size)∨FE j∧j<h.size) j) _ _),fun j hj=>hj.elim (fun h1=>let q:=((ok).m _ List.mem_cons_self).2 j h1;.inr ⟨q.2.elim (fun f=>f.elim) id,q.1⟩) (fun h1=>.inl (h1.imp (·.1) (·.1)))⟩⟩
 have hkl:k<f.length / z:=Nat.lt_of_mul_lt_mul_right (show k*z<f.length / z*z by rw [hmul,Nat.mul_comm];omega);have hkz:z*k+z≤f.length:=by have h9:(k+1)*z≤f.length / z*z:=Nat.mul_le_mul_right _ hkl;rw [Nat.succ_mul,hmul,Nat.mul_comm k z] at h9;exact h9
 refine .skip<|.seq<|.block fun K1 hK1=>.r<|.z .mvS<|.z .mvS<|.z .mvI<|.z .mvI<|.z .mvI<|.z .addI<|.z (.slh (z*k) ((z*k)+z) T.el22 T.sz5)<|?_;generalize hc1:cutA fa (z*k) fc 1=ca1;generalize hn1:((z*k)+z)-(z*k)=cn1;obtain rfl:cn1=((f.drop (z*k)).take z).length:=by rw [←hn1];simp;omega
 have ok:=ok.d0 (rdI (fun j=>FF j∧j<h.size) (fun j=>FE j∧j<h.size) (ca1,((f.drop (z*k)).take z).length,fc-(z*k)) ((f.drop (z*k)).take z)) (by have h1:=ok.r0.cut (i:=(z*k)) (j:=((z*k)+z)) (by omega) (by omega);rw [show ((f).drop (z*k)).take (((z*k)+z)-(z*k))=(f.drop (z*k)).take z from by congr 1;omega] at h1;rw [←hc1,←hn1];exact h1) (fun _ h=>h);refine .a' 50 (.lit [.tmp 49] (cs:=[.slice ca1 (((f.drop (z*k)).take z).length) (fc-(z*k))]) T.el26 T.sz22 T.zr22 ok ⟨rfl,trivial⟩) ?_;rintro _ η5 ⟨pb2,rfl,ok,xe⟩;refine .a' 51 (.app (news:=[.slice ca1 (((f.drop (z*k)).take z).length) (fc-(z*k))]) T.el26 T.sz22 T.by22 T.zr22 ok.n1 (ok.n1.m1).sl (oneL rfl) (by rw [flat_len RB.cells_len];simp only [List.length_cons,List.length_nil];have:=Nat.div_le_self f.length z;omega)) ?_;rintro _ η6 ⟨ya1,yn1,yc1,rfl,ok,ap⟩;have ok:=(ok).cx (ys:=(ol++[(⟨ca1,fc-(z*k),(f.drop (z*k)).take z⟩:RB)]).flatMap RB.cells) (by simp [RB.cells]);obtain rfl:yn1=(ol++[(⟨ca1,fc-(z*k),(f.drop (z*k)).take z⟩:RB)]).length:=(Sl.sz (Cap.sl ok.m0) RB.cells_len (by decide)).1.symm;have ok:=ok.d1 (pbyI (fun j=>(FF j∧j<h.size)∨FE j∧j<h.size) (ol++[(⟨ca1,fc-(z*k),(f.drop (z*k)).take z⟩:RB)])) (fun y hy=>(List.mem_append.1 hy).elim (fun h1=>ok.r2 y h1) (fun h1=>by rw [List.mem_singleton.1 h1];exact (ok.r0).mono (fun _ h=>.inl h) (fun _ h=>.inr h))) (fun _ h=>h);refine .z .asS<|.nil ?_;refine .end<|hK1 _ _<|.r<|.z .mvI<|.z .mvI<|.z .addI<|.z .asI<|.nil ?_;refine .end<|hJ0 _ _ _ ⟨k+1,ol++[(⟨ca1,fc-(z*k),(f.drop (z*k)).take z⟩:RB)],ya1,yc1,⟨rfl,rfl,rfl,rfl,trivial⟩,(ok).k1.f2.e2,by omega,by simp [hol],by rw [pgs_snoc,hpo,List.take_succ_eq_append_getElem (by rw [pgsN_len];exact hkl),pgsN_at,Nat.mul_comm k z],rfl⟩ (by omega)
section
variable {z mk:Nat} {f g:List UInt8}
theorem op0 (h:mk=0):opensN z f g mk=wholeN f z:=if_pos h
variable (h0:¬mk=0)
include h0
theorem op1 (h:g.length<20):opensN z f g mk=([],14):=by unfold opensN;rw [if_neg h0,if_pos h]
variable (h1:¬g.length<20)
include h1
theorem op2 (h:headOk (g.take 20)=false∨g.length<20+(mk-1)*(16+rdN (g.take 20) 4 4)):opensN z f g mk=([],14):=by unfold opensN;rw [if_neg h0,if_neg h1,if_pos h]
variable (h2:headOk (g.take 20)=true) (h3:¬g.length<20+(mk-1)*(16+rdN (g.take 20) 4 4))
include h2 h3
theorem op3 (h:rdN (g.take 20) 4 4≠z):opensN z f g mk=([],1):=by unfold opensN;rw [if_neg h0,if_neg h1,if_neg (by simp [h2,h3]),if_pos h]
variable (h4:rdN (g.take 20) 4 4=z) {s:Sc} (hs:ScanE (g.take (20+(mk-1)*(16+rdN (g.take 20) 4 4))) s)
include h4 hs
theorem op4 (h:s.l=[]):opensN z f g mk=wholeN f z:=by unfold opensN;rw [if_neg h0,if_neg h1,if_neg (by simp [h2,h3]),if_neg (not_not_intro h4),scanF_of hs,if_pos h]
variable (h5:s.l≠[])
include h5
theorem op5 (h:65536<manyN s.l*z):opensN z f g mk=([],-1):=by unfold opensN;rw [if_neg h0,if_neg h1,if_neg (by simp [h2,h3]),if_neg (not_not_intro h4),scanF_of hs,if_neg h5,if_pos h]
theorem op6 (h:¬65536<manyN s.l*z):opensN z f g mk=wholeN (ovB s.l z f) z:=by unfold opensN;rw [if_neg h0,if_neg h1,if_neg (by simp [h2,h3]),if_neg (not_not_intro h4),scanF_of hs,if_neg h5,if_neg h]
end
theorem opens_any {h:Heap} {FF FE GF GE:Nat→Prop} {fa ga:Option Addr} {fc gc z mk:Nat} {f g:List UInt8} (hf:RdL h FF FE (fa,f.length,fc) f) (hg:RdL h GF GE (ga,g.length,gc) g) (hz:okSz z=true) (hN:f.length≤5000) (hN2:g.length≤5000) (hmk:mk<256):HC Tryz.prog 14 #[.int .i64 (z:Int),.slice fa f.length fc,.slice ga g.length gc,.int .i64 (mk:Int)] h (fun v h'=>∃E' a c l,v=.tuple #[.slice a l.length c,.int .i64 (opensN z f g mk).2]∧pgs l=(opensN z f g mk).1∧Ext h h'∧PgB h' E' (a,l.length,c) l∧∀j,E' j→(FF j∨FE j)∨Nw h h' j):=by
 have hzb:=okSz_b hz;have hz0:0<z:=by omega
 have hfc:=hf.c;have hfm:=hf.m;have hgc:=hg.c;have hgm:=hg.m;simp only at hfc hfm hgc hgm;have ok:=((Hp.nil h none_).arg hg).arg hf;refine HC.go Tryz.func14 125 ?_;refine .seq<|.r<|.z .asS<|.z .asI<|.nil ?_;refine .seq<|.seq<|.r<|.z .mvI<|.z .eql<|.nil ?_;refine .cd (fun C0=>?_) (fun C0=>?_)
 ·
  refine .seq<|.r<|.z .mvS<|.z .mvI<|.c' 28 .func (whole_any (fa:=fa) (fc:=fc) (f:=f) (z:=z) ok.r0 hz (by omega)) ?_;rintro _ η1 ⟨Ew1,aw1,cw1,lw1,rfl,hpw1,hx,hrw1,hEw1⟩;have hgrw1:=ok.chg.size;have ok:=ok.grow hx (r:=rdI (fun j=>FF j∧j<h.size) (fun j=>FE j∧j<h.size) (fa,f.length,fc) f) (by simp) (pgwI Ew1 (aw1,lw1.length,cw1) lw1) hrw1 hEw1;have hmw1:=ok.r0.m;refine .z .ex<|.z .ex<|.z .asS<|.z .asI<|.nil ?_;refine .ret ⟨.tuple #[.slice aw1 lw1.length cw1,.int .i64 ((wholeN f z).2)],Res.two rfl rfl rfl,⟨Ew1,aw1,cw1,lw1,by rw [op0 (by omega)],by rw [op0 (by omega)];exact hpw1,ok.chg,ok.r0,fun j hj=>(hEw1 j hj).elim (fun h1=>.inl (h1.imp (·.1) (·.1))) (fun h1=>.inr ⟨Nat.le_trans hgrw1 h1.1,h1.2⟩)⟩⟩
 have h0:¬mk=0:=by omega
 refine .skip<|.seq<|.seq<|.r<|.z .mvS<|.z (.len T.el22)<|.z .lss<|.nil ?_;refine .cd (fun C1=>?_) (fun C1=>?_)
 ·
  refine .seq<|.r<|.z .asS<|.z .asI<|.nil ?_;refine .ret ⟨.tuple #[.slice none 0 0,.int .i64 14],Res.two rfl rfl rfl,⟨none_,none,0,[],by rw [op1 h0 (by omega)];rfl,by rw [op1 h0 (by omega)];rfl,ok.chg,RwB.nil _ _ 0 (by decide),fun j f=>f.elim⟩⟩
 refine .skip<|.seq<|.r<|.z .mvS<|.z (.sl_h ((g.take 20).length) T.el22 T.sz5 (hb:=by (simp;omega)))<|?_;have ok:=ok.d1 (rdI (fun j=>GF j∧j<h.size) (fun j=>GE j∧j<h.size) (ga,(g.take 20).length,gc) (g.take 20)) ((ok.r1).pre (l2:=g.take 20) (List.take_prefix _ _)) (fun _ h=>h);refine .c' 37 .func (rscan_any (a:=ga) (c:=gc) (l:=g.take 20) ok.r0 (by simp<;>omega)) ?_;rintro _ η2 (⟨hlt,rfl,hx⟩ | ⟨hge,hhd,rfl,hx⟩ | ⟨hge,hhd,sc1,sx1,hscsc1,rfl,hx,hr⟩)
 ·
  have ok:=ok.ext hx;refine .z .mvU<|.z .ex<|.z .ex<|.z .ex<|.z .ex<|.z .ex<|.z .asI<|.z .asS<|.z .asI<|.z .asI<|.z .asI<|.nil ?_;refine .seq<|.seq<|?_;have h41:=rdN_lt4 (g.take 20) 4;have hmul:(mk-1)*(16+rdN (g.take 20) 4 4)≤255*4294967312:=Nat.mul_le_mul (by omega) (by omega);refine .r<|.z .mvI<|.z .neq<|.z .mvB<|.y<|.y<|.y<|.y<|.y<|.y<|.y<|.y<|.y<|.z .pkt<|.nil ?_;refine .ct<|.seq<|.r<|.z .asS<|.z .asI<|.nil ?_;refine .ret ⟨.tuple #[.slice none 0 0,.int .i64 14],Res.two rfl rfl rfl,⟨none_,none,0,[],by rw [op2 h0 (show ¬g.length<20 by omega) (by first | exact .inr (by omega) | exact .inl hhd | (exfalso;simp at hlt;omega))];rfl,by rw [op2 h0 (show ¬g.length<20 by omega) (by first | exact .inr (by omega) | exact .inl hhd | (exfalso;simp at hlt;omega))];rfl,ok.chg,RwB.nil _ _ 0 (by decide),fun j f=>f.elim⟩⟩
 ·
  have ok:=ok.ext hx;refine .z .mvU<|.z .ex<|.z .ex<|.z .ex<|.z .ex<|.z .ex<|.z .asI<|.z .asS<|.z .asI<|.z .asI<|.z .asI<|.nil ?_;refine .seq<|.seq<|?_;have h41:=rdN_lt4 (g.take 20) 4;have hmul:(mk-1)*(16+rdN (g.take 20) 4 4)≤255*4294967312:=Nat.mul_le_mul (by omega) (by omega);refine .r<|.z .mvI<|.z .neq<|.z .mvB<|.y<|.y<|.y<|.y<|.y<|.y<|.y<|.y<|.y<|.z .pkt<|.nil ?_;refine .ct<|.seq<|.r<|.z .asS<|.z .asI<|.nil ?_;refine .ret ⟨.tuple #[.slice none 0 0,.int .i64 14],Res.two rfl rfl rfl,⟨none_,none,0,[],by rw [op2 h0 (show ¬g.length<20 by omega) (by first | exact .inr (by omega) | exact .inl hhd | (exfalso;simp at hlt;omega))];rfl,by rw [op2 h0 (show ¬g.length<20 by omega) (by first | exact .inr (by omega) | exact .inl hhd | (exfalso;simp at hlt;omega))];rfl,ok.chg,RwB.nil _ _ 0 (by decide),fun j f=>f.elim⟩⟩
 obtain ⟨asx1,nsx1,csx1⟩:=sx1;have hnsx1:=hr.n;have hccsx1:=hr.c;have hmsx1:=hr.m;simp only at hnsx1 hccsx1 hmsx1;subst hnsx1;rw [show sv (asx1,sc1.l.length,csx1)=.slice asx1 sc1.l.length csx1 from rfl];have ok:=ok.ret hx hr;refine .z .mvU<|.z .ex<|.z .ex<|.z .ex<|.z .ex<|.z .ex<|.z .asI<|.z .asS<|.z .asI<|.z .asI<|.z .asI<|.nil ?_;refine .seq<|.seq<|?_;have h41:=rdN_lt4 (g.take 20) 4;have hmul:(mk-1)*(16+rdN (g.take 20) 4 4)≤255*4294967312:=Nat.mul_le_mul (by omega) (by omega);refine .r<|.z .mvI<|.z .neq<|.z .mvB<|.z .mvS<|.z (.len T.el22)<|.z .mvI<|.z .sub<|?_;rw [show ((mk:Int)-1:Int)=((mk-1:Nat):Int) from by omega];refine .z .mvI<|.z (.addI (a:=16))<|.z .mulI<|.z (.addI (a:=20))<|.z .lss<|.z .pkf<|.nil ?_;refine .cd (fun C2=>?_) (fun C2=>?_)
 ·
  refine .seq<|.r<|.z .asS<|.z .asI<|.nil ?_;refine .ret ⟨.tuple #[.slice none 0 0,.int .i64 14],Res.two rfl rfl rfl,⟨none_,none,0,[],by rw [op2 h0 (show ¬g.length<20 by omega) (by first | exact .inr (by omega) | exact .inl hhd | (exfalso;simp at hlt;omega))];rfl,by rw [op2 h0 (show ¬g.length<20 by omega) (by first | exact .inr (by omega) | exact .inl hhd | (exfalso;simp at hlt;omega))];rfl,ok.chg,RwB.nil _ _ 0 (by decide),fun j f=>f.elim⟩⟩
 refine .skip<|.seq<|.seq<|.r<|.z .mvI<|.z .mvI<|.z .neq<|.nil ?_;refine .cd (fun C3=>?_) (fun C3=>?_)
 ·
  refine .seq<|.r<|.z .asS<|.z .asI<|.nil ?_;refine .ret ⟨.tuple #[.slice none 0 0,.int .i64 1],Res.two rfl rfl rfl,⟨none_,none,0,[],by rw [op3 h0 (by omega) hhd (by omega) (by omega)];rfl,by rw [op3 h0 (by omega) hhd (by omega) (by omega)];rfl,ok.chg,RwB.nil _ _ 0 (by decide),fun j f=>f.elim⟩⟩
 refine .skip<|.seq<|.r<|.z .mvS<|.z .mvI<|.z .sub<|?_;rw [show ((mk:Int)-1:Int)=((mk-1:Nat):Int) from by omega];refine .z .mvI<|.z (.addI (a:=16))<|.z .mulI<|.z (.addI (a:=20))<|.z (.sl_h ((g.take (20+((mk-1)*(16+(rdN (g.take 20) 4 4))))).length) T.el22 T.sz5 (hb:=by (rw [List.length_take];omega)))<|?_;have ok:=ok.d3 (rdI (fun j=>GF j∧j<h.size) (fun j=>GE j∧j<h.size) (ga,(g.take (20+((mk-1)*(16+(rdN (g.take 20) 4 4))))).length,gc) (g.take (20+((mk-1)*(16+(rdN (g.take 20) 4 4)))))) ((ok.r3).pre (l2:=g.take (20+((mk-1)*(16+(rdN (g.take 20) 4 4))))) (List.take_prefix _ _)) (fun _ h=>h);refine .c' 68 .func (rscan_any (a:=ga) (c:=gc) (l:=g.take (20+((mk-1)*(16+(rdN (g.take 20) 4 4))))) ok.r0 (by simp<;>omega)) ?_;rintro _ η3 (⟨hlt2,rfl,hx⟩ | ⟨hge2,hhd2,rfl,hx⟩ | ⟨hge2,hhd2,sc2,sx2,hscsc2,rfl,hx,hr⟩)
 ·
  first | (exfalso;rw [List.length_take] at hlt2;omega) | (exfalso;rw [headOk_take (by omega),hhd] at hhd2;cases hhd2)
 ·
  first | (exfalso;rw [List.length_take] at hlt2;omega) | (exfalso;rw [headOk_take (by omega),hhd] at hhd2;cases hhd2)
 obtain ⟨asx2,nsx2,csx2⟩:=sx2;have hnsx2:=hr.n;have hccsx2:=hr.c;have hmsx2:=hr.m;simp only at hnsx2 hccsx2 hmsx2;subst hnsx2;rw [show sv (asx2,sc2.l.length,csx2)=.slice asx2 sc2.l.length csx2 from rfl];have ok:=ok.ret hx hr;refine .z .mvU<|.z .ex<|.z .ex<|.z .ex<|.z .ex<|.z .ex<|.z .asI<|.z .asS<|.z .asI<|.z .asI<|.z .asI<|.nil ?_;refine .seq<|.seq<|.r<|.z .mvS<|.z (.len T.el76)<|.z .eql<|.nil ?_;refine .cd (fun C4=>?_) (fun C4=>?_)
 ·
  refine .seq<|.r<|.z .mvS<|.z .mvI<|.c' 79 .func (whole_any (fa:=fa) (fc:=fc) (f:=f) (z:=z) ok.r4 hz (by omega)) ?_;rintro _ η4 ⟨Ew2,aw2,cw2,lw2,rfl,hpw2,hx,hrw2,hEw2⟩;have hgrw2:=ok.chg.size;have ok:=ok.grow hx (r:=rdI (fun j=>FF j∧j<h.size) (fun j=>FE j∧j<h.size) (fa,f.length,fc) f) (by simp) (pgwI Ew2 (aw2,lw2.length,cw2) lw2) hrw2 hEw2;have hmw2:=ok.r0.m;refine .z .ex<|.z .ex<|.z .asS<|.z .asI<|.nil ?_;refine .ret ⟨.tuple #[.slice aw2 lw2.length cw2,.int .i64 ((wholeN f z).2)],Res.two rfl rfl rfl,⟨Ew2,aw2,cw2,lw2,by rw [op4 h0 (by omega) hhd (by omega) (by omega) hscsc2 (List.eq_nil_of_length_eq_zero (by omega))],by rw [op4 h0 (by omega) hhd (by omega) (by omega) hscsc2 (List.eq_nil_of_length_eq_zero (by omega))];exact hpw2,ok.chg,ok.r0,fun j hj=>(hEw2 j hj).elim (fun h1=>.inl (h1.imp (·.1) (·.1))) (fun h1=>.inr ⟨Nat.le_trans hgrw2 h1.1,h1.2⟩)⟩⟩
 refine .skip<|.seq<|?_;have hne9:sc2.l≠[]:=fun h9=>C4 (by rw [h9];rfl);have hq9:rdN (g.take 20) 4 4=z:=by omega
 have hok:okL z sc2.l:=by have h9:=hscsc2.frames.1;rw [rdN_take (by omega),←rdN_take (n:=20) (by omega),hq9] at h9;exact h9
 have he:=(scan_ends hscsc2).resolve_left hne9;have hfew:=hscsc2.frames.2;rw [rdN_take (by omega),←rdN_take (n:=20) (by omega),hq9,List.length_take] at hfew;have hfn:sc2.l.length≤100000:=by have h9:=Nat.mul_le_mul_left sc2.l.length (show 1≤16+z by omega);omega
 have hmy3:=he.many fun f hf=>(hok f hf).1;have hmy:=hmy3.2.1;have hmz9:manyN sc2.l*z≤1048576*4096:=Nat.mul_le_mul hmy3.2.2 (by omega);refine .r<|.z .mvS<|.c' 84 .func (rlatest_any ok.r0 (by omega)) ?_;rintro _ η5 ⟨xb,rfl,hx,hr⟩;obtain ⟨ab,nb,cb⟩:=xb;obtain rfl:nb=(latF sc2.l).length:=hr.n;have hcb:=hr.c;have hmb:=hr.m;simp only at hcb hmb;rw [←hmy];have ok:=(ok).grow hx List.mem_cons_self (rdI (Nw η3 η5) (fun j=>(Nw η2 η3) j∧j<η3.size) (ab,(latF sc2.l).length,cb) (latF sc2.l)) hr (fun j hj=>hj.elim .inr (fun h1=>.inl (.inr h1.1)));obtain ⟨xa,xc,hfr⟩:=RdL.frs ok.r0;have ok:=ok.d0 (frsI (Nw η3 η5) (fun j=>(Nw η2 η3) j∧j<η3.size) (ab,(latF sc2.l).length,cb) (latF sc2.l) xa xc) hfr (fun _ h=>h);refine .z .mvU<|.z .ex<|.z .ex<|.z .asS<|.z .asI<|.nil ?_;refine .seq<|.seq<|.r<|.z .mvI<|.z .mvI<|.z .mulI<|.z .gtr<|.nil ?_;refine .cd (fun C5=>?_) (fun C5=>?_)
 ·
  refine .seq<|.r<|.z .asS<|.z .asI<|.nil ?_;refine .ret ⟨.tuple #[.slice none 0 0,.int .i64 (-1)],Res.two rfl rfl rfl,⟨none_,none,0,[],by rw [op5 h0 (by omega) hhd (by omega) hq9 hscsc2 hne9 (by omega)];rfl,by rw [op5 h0 (by omega) hhd (by omega) hq9 hscsc2 hne9 (by omega)];rfl,ok.chg,RwB.nil _ _ 0 (by decide),fun j f=>f.elim⟩⟩
 refine .skip<|.seq<|.r<|.z .mvI<|.z .mvI<|.z .mulI<|.a' 94 (.mks (manyN sc2.l*z) (manyN sc2.l*z) T.el22 T.sz5 T.by5 T.zr5 ok) ?_;rintro _ η6 ⟨pb1,rfl,ok,xe⟩;have ok:=ok.cx (ys:=(List.replicate (manyN sc2.l*z) (0:UInt8)).map bv) (zeros8 _);refine .z .asS<|.nil ?_;refine .seq<|.r<|.z .mvS<|.z .mvS<|.a' 97 (.cpT (ys:=f.map bv) (m:=min f.length (manyN sc2.l*z)) T.el22 T.sz5 ok ok.r6.by bv_all (hm:=rfl)) ?_;rintro _ η7 ⟨rfl,ok,cg⟩;have ok:=ok.cx (cpT_b (ys:=f) (xs:=List.replicate (manyN sc2.l*z) (0:UInt8)) (n:=manyN sc2.l*z) rfl);refine .nil ?_;refine .seq<|.seq<|.r<|.z .asI<|.nil ?_;refine .block fun K0 hK0=>.loop (fun m s hh=>∃(k:Nat) (xs:List UInt8),Has s [(0,.int .i64 (z:Int)),(20,.slice ab ((latF sc2.l).length) cb),(22,.slice (some ⟨pb1,0,none⟩) (manyN sc2.l*z) (manyN sc2.l*z)),(23,.int .i64 (k:Int))]∧Hp h none_ [capI 1 5 (some ⟨pb1,0,none⟩,(manyN sc2.l*z),(manyN sc2.l*z)) (xs.map bv)] [frsI (Nw η3 η5) (fun j=>(Nw η2 η3) j∧j<η3.size) (ab,(latF sc2.l).length,cb) (latF sc2.l) xa xc] hh∧k≤(latF sc2.l).length∧LayS sc2.l z f k xs∧m=(latF sc2.l).length-k) ?_ ?_
 ·exact ⟨_,0,(f.take (manyN sc2.l*z)++(List.replicate (manyN sc2.l*z) (0:UInt8)).drop (f.take (manyN sc2.l*z)).length),⟨rfl,rfl,rfl,rfl,trivial⟩,(ok).k1.e1,Nat.zero_le _,lay_0,rfl⟩
 rintro _ _ η8 ⟨k,xs,hs,ok,hk,hlay,rfl⟩ J0 hJ0;refine .frame hs fun τ=>?_;refine .seq<|.seq<|.r<|.z .mvI<|.z .mvS<|.z (.len T.el76)<|.z .lss<|.nil ?_;refine .cdr (fun C6=>?_) (fun C6=>?_)
 ·
  refine .exit<|hK0 _ _<|.seq<|?_;have hxs9:xs=ovB sc2.l z f:=lay_end hz0 hzb.2 hok he (by omega) (by omega) hlay;have hxl9:xs.length=manyN sc2.l*z:=hlay.1;rw [←hxl9] at ok⊢;have hfz8:=fun j hj=>((ok).m _ List.mem_cons_self).2 j hj;have ok:=Hp.frzB (l:=xs) (ok) rfl;refine .r<|.z .mvS<|.z .mvI<|.c' 122 .func (whole_any (fa:=some ⟨pb1,0,none⟩) (fc:=xs.length) (f:=xs) (z:=z) ok.r0 hz (by omega)) ?_;rintro _ η9 ⟨Ew3,aw3,cw3,lw3,rfl,hpw3,hx,hrw3,hEw3⟩;have hgrw3:=ok.chg.size;have ok:=ok.grow hx (r:=rdI (blkC (sv (some ⟨pb1,0,none⟩,xs.length,xs.length))) none_ (some ⟨pb1,0,none⟩,xs.length,xs.length) xs) (by simp) (pgwI Ew3 (aw3,lw3.length,cw3) lw3) hrw3 hEw3;have hmw3:=ok.r0.m;refine .z .ex<|.z .ex<|.z .asS<|.z .asI<|.nil ?_;refine .ret ⟨.tuple #[.slice aw3 lw3.length cw3,.int .i64 ((wholeN xs z).2)],Res.two rfl rfl rfl,⟨Ew3,aw3,cw3,lw3,by rw [op6 h0 (by omega) hhd (by omega) hq9 hscsc2 hne9 (by omega),←hxs9],by rw [op6 h0 (by omega) hhd (by omega) hq9 hscsc2 hne9 (by omega),←hxs9];exact hpw3,ok.chg,ok.r0,fun j hj=>(hEw3 j hj).elim (fun h1=>.inr ⟨h1.elim (fun h2=>(hfz8 j h2).2.elim (fun f=>f.elim) id) (fun f=>f.elim),ok.l0 j hj⟩) (fun h1=>.inr ⟨Nat.le_trans hgrw3 h1.1,h1.2⟩)⟩⟩
 have hkl:k<(latF sc2.l).length:=by omega
 obtain ⟨p,hp,hlb,hpb⟩:=lay_in hok he hkl;have hfk:frN (latF sc2.l) k=(latF sc2.l)[k]:=by simp [frN,hkl]
 have hpr:=(okF_iff.1 (hok _ (latF_in (List.getElem_mem hkl))).1).1;rw [←hfk] at hp hlb hpr;refine .skip<|.seq<|.block fun K1 hK1=>.t 15 mixed ?_;simp only [List.take_succ_cons,List.take_zero,List.drop_succ_cons,List.drop_zero];refine .z .mvS<|.z .mvS<|.z .mvI<|?_;obtain ⟨bb1,oo1,rfl,fb1⟩:=ok.r0.pos (by omega);refine .z (.ix k T.el76 T.sz102)<|.z (.fa T.fd102_0)<|.z (.ld T.ag3 (frs_at (ok.r0).sl (i:=k) (j:=0) (by omega) rfl))<|.z .sub<|?_;rw [show ((frN (latF sc2.l) k).page-1)=((p:Nat):Int) from by omega];refine .z .mvI<|.z .mulI<|.z (.sll (p*z) T.el22 T.sz5)<|.z .mvS<|.z .mvI<|.z (.ix k T.el76 T.sz102)<|.z (.fa T.fd102_2)<|?_;have ok:=ok.d0 (rdI (fun j=>(Nw η2 η3) j∧j<η3.size) (fun j=>(Nw η2 η3) j∧j<η3.size) ((xa k),(frN (latF sc2.l) k).b.length,(xc k)) ((frN (latF sc2.l) k).b)) ((ok.r0).b k (by omega)) (fun _ h=>.inr (h.elim id id));refine .z (.ld T.ag22 (frs_at (ok.r1).sl (i:=k) (j:=2) (by omega) rfl))<|.nil ?_;refine .a' 119 (.cpy (ys:=((frN (latF sc2.l) k).b).map bv) (m:=(frN (latF sc2.l) k).b.length) (p*z) T.el22 T.sz5 ok ok.r0.by bv_all rfl) ?_;rintro _ η10 ⟨rfl,ok,cg⟩;refine .nil ?_;refine .end<|hK1 _ _<|.r<|.z .mvI<|.z (.addI (b:=1))<|.z .asI<|.nil ?_;refine .end<|hJ0 _ _ _ ⟨k+1,_,⟨rfl,rfl,rfl,rfl,trivial⟩,((ok).k1.f1.e1).cx spl_b,by omega,by have h9:=lay_s hz0 hok he hkl (hfk▸hp) hpb hlay;rwa [←hfk] at h9,rfl⟩ (by omega)
open Go Go.HL
def layN (D:Dk) (n b:List UInt8):Dk:=if b=[] then D else (syncN (writeN D n 0 b).1 n).1
theorem lay_spec {D:Dk} {n b:List UInt8} (hd:D.dark=false) (hl:D.left<0) (hn:nOk n) (hf:D.fs n=none) (hb:b.length≤16777216):LayP D n b (layN D n b)∧(b≠[]→(writeN D n 0 b).2=0∧(syncN (writeN D n 0 b).1 n).2=0):=by
 by_cases h0:b=[]
 ·unfold layN;rw [if_pos h0];exact ⟨⟨hd,hl,by rw [if_pos h0];exact hf,fun _ _=>rfl⟩,fun h=>absurd h0 h⟩
 ·have st:FSt (D.fs n) none [] none:=by rw [hf];exact .syn none
  have s1:=st.chg ⟨0,0,b⟩;have e1:doO' ⟨0,0,b⟩ none=some b:=by
   show some (wrB [] 0 b)=some b;congr 1;refine ext_gd (by rw [wrB_len];simp) fun i hi=>?_;rw [wrB_len] at hi;simp at hi;rw [gd_wrB,if_pos (by omega)];rfl
  rw [e1] at s1;have r1:=write_res (p:=0) (G:=fun d'=>d'=stepD' D n (some (chgF ((D.fs n).getD noF) ⟨0,0,b⟩))) (B:=fun _=>True) hd hn (by omega) rfl trivial;rw [show ((0:Nat):Int)=0 from rfl] at r1;obtain ⟨a1,a2,a3,a4⟩:=res_ok r1 hl;have hat:(writeN D n 0 b).1.fs n=some (chgF ((D.fs n).getD noF) ⟨0,0,b⟩):=by rw [a4,stepD'_at]
  have r2:=sync_res (G:=fun d'=>d'.fs n=synF (some b)∧∀m,m≠n→d'.fs m=D.fs m) (B:=fun _=>True) a2 hn hat (.inr (by show _++[_]≠[];simp)) ⟨by rw [stepD'_at];exact s1.settle,fun m hm=>by rw [stepD'_ne hm,a4,stepD'_ne hm]⟩ trivial;obtain ⟨b1,b2,b3,b4⟩:=res_ok r2 a3;unfold layN;rw [if_neg h0];exact ⟨⟨b2,b3,by rw [if_neg h0];exact b4.1,b4.2⟩,fun _=>⟨a1,b1⟩⟩
theorem lay_chg {D:Dk} {n b:List UInt8} : (layN D n b).chg≤D.chg+2:=by
 have h1:=write_chg (d:=D) (n:=n) (z:=0) (l:=b);have h2:=sync_chg (d:=(writeN D n 0 b).1) (n:=n);unfold layN;split<;>omega
theorem lay_dkok {D:Dk} {n b:List UInt8} (k:DkOk D) (hn:nOk n):DkOk (layN D n b):=by
 unfold layN;split
 ·exact k
 ·exact (k.write).sync
def layD (f g m:List UInt8):Dk:=layN (layN (layN newN nT f) nL g) nM m
theorem layD_syn {f g m:List UInt8} (hf:f.length≤16777216) (hg:g.length≤16777216) (hm:m.length≤16777216):Syn3 (layD f g m) (if f=[] then none else some f) (if g=[] then none else some g) (if m=[] then none else some m)∧(layD f g m).left<0:=by
 have h1:=(lay_spec (D:=newN) (n:=nT) (b:=f) rfl (by decide) nT_ok rfl hf).1;have h2:=(lay_spec (D:=layN newN nT f) (n:=nL) (b:=g) h1.hd h1.left nL_ok (by rw [h1.ne _ nLT];rfl) hg).1;have h3:=(lay_spec (D:=layN (layN newN nT f) nL g) (n:=nM) (b:=m) h2.hd h2.left nM_ok (by rw [h2.ne _ nML,h1.ne _ nMT];rfl) hm).1;exact ⟨⟨h3.hd,by rw [show (layD f g m).fs nT=_ from h3.ne _ nMT.symm,h2.ne _ nLT.symm];exact h1.at',by rw [show (layD f g m).fs nL=_ from h3.ne _ nML.symm];exact h2.at',h3.at'⟩,h3.left⟩
theorem ifD {f:List UInt8} : (if f=[] then none else some f:Option (List UInt8)).getD []=f:=by split<;>simp_all
end Go.Proofs.YtpeaicddbnghfaaGreat
namespace Go.HL
open Go
theorem OpE.makeSliceK {P:Program} {s:Slots} {h:Heap} {d:Option Tmp} {ty t:TypeId} {pos:String} {af:Array Edge} {g:Option (Nat × Bool)} {x y:Operand} {kk:IntKind} {n m k bytes:Nat} {e:TypeId} {z:Value} (hx:ev s x=.int kk n) (hy:ev s y=.int kk m) (ht:elB P t=some e) (hk:szB P e=some k) (hb:byB P e=some bytes) (hz:zrB P e=some z) (hnm:n≤m) (hfit:m*bytes≤281474976710656) (hm:m≤9223372036854775807) :
  OpE P ⟨d,.makeSlice t x y,ty,pos,af,g⟩ s h (.slice (some ⟨h.size,0,none⟩) n m) (h.push (.cells ((Array.range (m*k)).map (z.cells[· % z.cells.size]!)) e (0,0))):=fun E w at'=>by
 refine ⟨_,at'.alloc _,?_⟩;obtain ⟨i,hi,hik⟩:=szB_iff hk;have hib:i.bytes=bytes:=by
  obtain ⟨i',hi',e'⟩:=byB_iff hb;rw [hi] at hi';injection hi' with hi';subst hi';exact e'
 have w1:IntKind.i64.wrap (n:Int)=n:=IntWalk.i64_in _ (by omega);have w2:IntKind.i64.wrap (m:Int)=m:=IntWalk.i64_in _ (by omega);have b1:¬((281474976710656:Int)<(bytes:Int)*(m:Int)):=by
  have:((m*bytes:Nat):Int)≤281474976710656:=by omega
  rw [Nat.mul_comm] at this;rw [←Int.natCast_mul];omega
 have b2:¬((m:Int)<n):=by omega
 have b3:¬((m:Int)<0):=by omega
 have b4:¬((n:Int)<0):=by omega
 by_cases h0:m*k=0
 ·have r0:Array.range 0 = #[]:=rfl;simp [r0,execOp,hx,hy,Instr.makeSlice,run_und (elB_iff ht),asInt,asIntOf,typeInfo,hi,hib,w1,w2,b1,b2,b3,b4,run_szB hk,h0,newRow,at'.heap]
 ·simp [execOp,hx,hy,Instr.makeSlice,run_und (elB_iff ht),asInt,asIntOf,typeInfo,hi,hib,w1,w2,b1,b2,b3,b4,run_szB hk,h0,run_zrB hz,newRow,at'.heap]
theorem OpA.mksK {P:Program} {s:Slots} {h0 h:Heap} {D:Nat→Prop} {M R:List Itm} {d:Option Tmp} {ty:TypeId} {pos:String} {af:Array Edge} {g:Option (Nat × Bool)} {x y:Operand} {t e:TypeId} {kk:IntKind} {k bytes:Nat} {z:Value} (n m:Nat)
  (ht:elB P t=some e) (hk:szB P e=some k) (hb:byB P e=some bytes) (hz:zrB P e=some z) (ok:Hp h0 D M R h)
  (hx:ev s x=.int kk (n:Nat):=by exact rfl) (hy:ev s y=.int kk (m:Nat):=by exact rfl) (hnm:n≤m∧m*bytes≤281474976710656∧m≤9223372036854775807:=by omega) :
  OpA P ⟨d,.makeSlice t x y,ty,pos,af,g⟩ s h (fun v h'=>∃b,v=.slice (some ⟨b,0,none⟩) n m∧Hp h0 D (capI k e (some ⟨b,0,none⟩,n,m) ((List.range (n*k)).map (z.cells[· % z.cells.size]!))::M) R h'∧Ext h h'):=fun E w at'=>by
 obtain ⟨h1,h2,h3⟩:=hnm;obtain ⟨w',at2,hr⟩:=OpE.makeSliceK (P:=P) (s:=s) (h:=h) (d:=d) (ty:=ty) (pos:=pos) (af:=af) (g:=g) hx hy ht hk hb hz h1 h2 h3 E w at';have hnk:n*k≤m*k:=Nat.mul_le_mul_right _ h1;refine ⟨_,_,w',⟨h.size,rfl,ok.newM (Ext.push _ _) _ ?_ (fun j hj=>?_),Ext.push _ _⟩,at2,hr⟩
 ·refine ⟨_,n,m,rfl,h1,h3,by simp,.inr ⟨h.size,0,_,(0,0),rfl,push_same _ _,by simp,fzOk_zero _,?_⟩⟩;apply List.ext_getElem?;intro j;rw [List.drop_zero,List.getElem?_take];by_cases hj:j<n*k
  ·rw [if_pos hj];simp [hj,Nat.lt_of_lt_of_le hj hnk]
  ·rw [if_neg hj];simp [hj]
 ·obtain ⟨o,n',c',hv⟩:=hj;injection hv with h1;injection h1 with h1;injection h1 with h1;simp;omega
theorem Hp.lenC {h0 hh:Heap} {D:Nat→Prop} {M R:List Itm} {k n:Nat} {e:TypeId} {a:Option Addr} {xs:List Value} {l:List UInt8} (h:l.length=n) (ok:Hp h0 D (capI k e (a,n,n) xs::M) R hh):Hp h0 D (capI k e (a,l.length,l.length) xs::M) R hh:=by subst h;exact ok
end Go.HL
namespace Go.Proofs.YtpeaicddbnghfaaGreat
open Go Go.HL
theorem lay14_any {h:Heap} {d:Nat} {F F2 E2:Nat→Prop} {D:Dk} {n b:List UInt8} {ba:Option Addr} {bc:Nat} (ok:Hp h F [dgI d F D] [rdI F2 E2 (ba,b.length,bc) b] h) (hk:DkOk D) (hcg:D.chg<400000000) (hd:D.dark=false) (hl:D.left<0) (hn:nOk n) (hf:D.fs n=none) (hb:b.length≤16777216):HC Tryz.prog 17 #[.pointer (some ⟨d,0,none⟩),.string (BA n),.slice ba b.length bc] h (fun v h'=>∃F',v=.bool true∧Hp h F [dgI d F' (layN D n b)] [] h'):=by
 have hbm:=(ok.r0).m;have hsp:=lay_spec (b:=b) hd hl hn hf hb;have hwc:=write_chg (d:=D) (n:=n) (z:=0) (l:=b);refine HC.go Tryz.func17 23 ?_;refine .seq<|.r<|.z .asB<|.nil ?_;refine .seq<|.r<|.z .mvS<|.z (.len T.el22)<|.z .eql<|.z .mvB<|.sd (fun G10=>?_) (fun G10=>?_)
 ·
  refine .y<|.y<|.y<|.y<|.y<|.y<|.y<|.y<|.y<|.y<|.y<|.z .pkt<|.z .asB<|.nil ?_;refine .ret ⟨.bool true,Res.one rfl rfl,⟨F,rfl,by rw [show layN D n b=D from if_pos (List.eq_nil_of_length_eq_zero (by omega))];exact (ok).k1.e0⟩⟩
 have hb0:b≠[]:=fun h9=>G10 (by rw [h9];rfl);refine .z .mvP<|.z .mvT<|.z .mvS<|.c' 14 .func (dgwrite_any (d:=d) (F:=F) (D:=D) (n:=n) (z:=0) (a:=ba) (c:=bc) (l:=b) (ok).loc1 hk (by omega) (by omega)) ?_;rintro _ η1 ⟨Fw1,rfl,q⟩;have ok:=(ok).lift1 q;refine .z .eql<|.z .mvB<|.sd (fun G16=>?_) (fun G16=>?_)
 ·
  refine .z .mvP<|.z .mvT<|.c' 19 .func (dgsync_any (d:=d) (F:=Fw1) (D:=((writeN D n 0 b).1)) (n:=n) (ok).loc0 hk.write (by omega)) ?_;rintro _ η2 ⟨Fw2,rfl,q⟩;have ok:=(ok).lift1 q;refine .z .eql<|.z .pkt<|.z .pkf<|.z .asB<|.nil ?_;refine .ret ⟨.bool (decide (((syncN ((writeN D n 0 b).1) n).2:Int)=0)),Res.one rfl rfl,⟨Fw2,congrArg Value.bool (decide_eq_true (by rw [(hsp.2 hb0).2];rfl)),by rw [show layN D n b=_ from if_neg hb0];exact (ok).k1.e0⟩⟩
 exact absurd (by rw [(hsp.2 hb0).1];rfl) G16
theorem aopens_walk {h:Heap} {FF FE GF GE:Nat→Prop} {fa ga:Option Addr} {fc gc u mk:Nat} {f g:List UInt8} (hf:RdL h FF FE (fa,f.length,fc) f) (hg:RdL h GF GE (ga,g.length,gc) g) (hu:u<256) (hmk:mk<256):HC Tryz.prog 3 #[.int .u8 (u:Int),.agg #[.slice fa f.length fc,.slice ga g.length gc,.int .u8 (mk:Int)]] h (fun v h'=>v=.bool true∧Ext h h'):=by
 have hfc:=hf.c;have hfm:=hf.m;have hgc:=hg.c;have hgm:=hg.m;simp only at hfc hfm hgc hgm;have hzb:=sizeZ_b u;have hcn:newN.chg=0:=rfl;have ok:=((Hp.nil h none_).arg hg).arg hf;refine HC.go Tryz.func3 151 ?_;refine .seq<|.r<|.a' 3 (.bxA (cs:=[.slice fa f.length fc,.slice ga g.length gc,.int .u8 (mk:Int)]) ok) ?_;rintro _ η1 ⟨pb1,rfl,ok,xe⟩;refine .z .asB<|.nil ?_;refine .seq<|.seq<|.r<|.z (.fa T.fd24_0)<|.z (.ldx T.ag22 ok.m0)<|.z (.len T.el22)<|.z .gtr<|.z .mvB<|.sd (fun G23=>?_) (fun G23=>?_)
 ·
  refine .y<|.y<|.y<|.y<|.z .pkt<|.nil ?_;refine .ct<|.seq<|.r<|.c' 29 .func live14_any ?_;rintro _ η2 ⟨rfl,hx⟩;have ok:=ok.ext hx;refine .z .asB<|.nil ?_;refine .ret ⟨.bool true,Res.one rfl rfl,⟨rfl,ok.chg⟩⟩
 refine .z (.fa T.fd24_1)<|.z (.ldx T.ag22 ok.m0)<|.z (.len T.el22)<|.z .gtr<|.z .pkf<|.nil ?_;refine .cd (fun C0=>?_) (fun C0=>?_)
 ·
  refine .seq<|.r<|.c' 29 .func live14_any ?_;rintro _ η3 ⟨rfl,hx⟩;have ok:=ok.ext hx;refine .z .asB<|.nil ?_;refine .ret ⟨.bool true,Res.one rfl rfl,⟨rfl,ok.chg⟩⟩
 refine .skip<|.seq<|.a 15 (fun fl hh=>Hp h none_ [boxI pb1 24 [.slice fa f.length fc,.slice ga g.length gc,.int .u8 (mk:Int)]] [rdI (fun j=>FF j∧j<h.size) (fun j=>FE j∧j<h.size) (fa,f.length,fc) f,rdI (fun j=>GF j∧j<h.size) (fun j=>GE j∧j<h.size) (ga,g.length,gc) g] hh) mixed ?_;have hS:=ok;refine .g 0 false rfl 31 hS (fun _=>.mvI)<|.g 2 false rfl 33 hS (fun _=>.fa T.fd24_0)<|.lw 3 false rfl 34 hS (fun _ _ hS=>.ldx T.ag22 hS.m0)<|.g 4 false rfl 35 hS (fun _=>.fa T.fd24_1)<|.lw 5 false rfl 36 hS (fun _ _ hS=>.ldx T.ag22 hS.m0)<|.g 6 false rfl 37 hS (fun _=>.fa T.fd24_2)<|.lw 7 false rfl 38 hS (fun _ _ hS=>.ldx T.ag5 hS.m0)<|.g 8 false rfl 39 hS (fun _=>.cvi T.in3 T.in5)<|.o1 1<|.k false rfl 32 .func (size14_any (n:=u) (by omega)) hS<|.o1 9<|.c' false rfl 40 .func (opens_any (fa:=fa) (fc:=fc) (ga:=ga) (gc:=gc) (f:=f) (g:=g) (z:=sizeZ u) (mk:=mk) ok.r0 ok.r1 (sizeZ_ok u) (by omega) (by omega) (by omega)) ?_;rintro _ η4 ⟨Ew1,aw1,cw1,lw1,rfl,hpw1,hx,hrw1,hEw1⟩;have ok:=ok.grow hx (r:=rdI (fun j=>FF j∧j<h.size) (fun j=>FE j∧j<h.size) (fa,f.length,fc) f) (by simp) (pgwI Ew1 (aw1,lw1.length,cw1) lw1) hrw1 hEw1;have hmw1:=ok.r0.m;have hpw:pgs lw1=(opensN (sizeZ u) f g mk).1:=hpw1;refine ⟨ok.tR,?_⟩;have hS:=ok.tR;refine .g 10 false rfl 30 hS (fun _=>.mvU)<|.g 11 false rfl 41 hS (fun _=>.ex)<|.g 12 false rfl 42 hS (fun _=>.ex)<|.g 13 false rfl 5 hS (fun _=>.asS)<|.g 14 false rfl 6 hS (fun _=>.asI)<|.e ?_;refine .seq<|.seq<|.r<|.z .mvI<|.z .lss<|.nil ?_;refine .cd (fun C1=>?_) (fun C1=>?_)
 ·
  refine .seq<|.r<|.c' 45 .func live14_any ?_;rintro _ η5 ⟨rfl,hx⟩;have ok:=ok.ext hx;refine .z .asB<|.nil ?_;refine .ret ⟨.bool true,Res.one rfl rfl,⟨rfl,ok.chg⟩⟩
 refine .skip<|.seq<|.r<|.c' 46 .func dgnew_any ?_;rintro _ η6 ⟨dnd1,Fnd1,rfl,q⟩;have ok:=Hp.addM ok q;refine .z .asP<|.nil ?_;refine .seq<|.seq<|.r<|.z .mvP<|.z (.fa T.fd24_0)<|.z (.ldx T.ag22 ok.m1)<|.c' 50 .func (lay14_any (d:=dnd1) (F:=Fnd1) (D:=newN) (n:=nT) (ba:=fa) (bc:=fc) (b:=f) (ok.f1).loc1 newN_ok (by omega) rfl (by decide) nT_ok rfl (by omega)) ?_;rintro _ η7 ⟨Fy1,rfl,q⟩;have ok:=(ok.f1).lift1 q;have L1:=(lay_spec (D:=newN) (n:=nT) (b:=f) rfl (by decide) nT_ok rfl (by omega)).1;have k1:DkOk (layN newN nT f):=lay_dkok newN_ok nT_ok;have c1:=lay_chg (D:=newN) (n:=nT) (b:=f);refine .z .not<|.z .mvB<|.z .mvP<|.z (.fa T.fd24_1)<|.z (.ldx T.ag22 ok.m1)<|.c' 56 .func (lay14_any (d:=dnd1) (F:=Fy1) (D:=(layN newN nT f)) (n:=nL) (ba:=ga) (bc:=gc) (b:=g) (ok.f2).loc1 k1 (by omega) L1.hd L1.left nL_ok (by rw [L1.ne _ nLT];rfl) (by omega)) ?_;rintro _ η8 ⟨Fy2,rfl,q⟩;have ok:=(ok.f2).lift1 q;have L2:=(lay_spec (D:=layN newN nT f) (n:=nL) (b:=g) L1.hd L1.left nL_ok (by rw [L1.ne _ nLT];rfl) (by omega)).1;have k2:DkOk (layN (layN newN nT f) nL g):=lay_dkok k1 nL_ok;have c2:=lay_chg (D:=layN newN nT f) (n:=nL) (b:=g);refine .z .not<|.z .pkf<|.z .mvB<|.z .mvP<|.z (.fa T.fd24_2)<|.z (.ldx T.ag5 ok.m1)<|.a' 63 (.mksK mk mk T.el22 T.sz5 T.by5 T.zr5 ok) ?_;rintro _ η9 ⟨pb2,rfl,ok,xe⟩;have ok:=ok.cx (ys:=(List.replicate mk (0:UInt8)).map bv) (zeros8 _);have hrl:(List.replicate mk (0:UInt8)).length=mk:=List.length_replicate;have ok:=Hp.lenC hrl ok;rw [show (Value.slice (some ⟨pb2,0,none⟩) mk mk)=.slice (some ⟨pb2,0,none⟩) (List.replicate mk (0:UInt8)).length (List.replicate mk (0:UInt8)).length from by rw [hrl]];refine .c' 64 .func (lay14_any (d:=dnd1) (F:=Fy2) (D:=(layN (layN newN nT f) nL g)) (n:=nM) (ba:=some ⟨pb2,0,none⟩) (bc:=(List.replicate mk (0:UInt8)).length) (b:=(List.replicate mk (0:UInt8))) (ok.n1).locC k2 (by omega) L2.hd L2.left nM_ok (by rw [L2.ne _ nML,L1.ne _ nMT];rfl) (by rw [List.length_replicate];omega)) ?_;rintro _ η10 ⟨Fy3,rfl,q⟩;have ok:=(ok.n1).lift1 q;refine .z .not<|.z .pkf<|.nil ?_;refine .cf<|.skip<|.seq<|?_;have k3:DkOk (layD f g (List.replicate mk (0:UInt8))):=lay_dkok k2 nM_ok;have c3:=lay_chg (D:=layN (layN newN nT f) nL g) (n:=nM) (b:=(List.replicate mk (0:UInt8)));obtain ⟨D3,hD3⟩:∃x:Dk,layD f g (List.replicate mk (0:UInt8))=x:=⟨_,rfl⟩;rw [show (layN (layN (layN newN nT f) nL g) nM (List.replicate mk (0:UInt8)))=D3 from hD3] at ok;rw [show layN (layN (layN newN nT f) nL g) nM (List.replicate mk (0:UInt8))=D3 from hD3] at c3;rw [hD3] at k3;have hS:=layD_syn (f:=f) (g:=g) (m:=(List.replicate mk (0:UInt8))) (by omega) (by omega) (by rw [List.length_replicate];omega);rw [hD3] at hS;have hml:mlen (if (List.replicate mk (0:UInt8))=[] then none else some (List.replicate mk (0:UInt8)))=mk:=by unfold mlen;rw [ifD,List.length_replicate]
 have hop:=opens_own (room:=4) hS.1 (sizeZ_ok u) hS.2 (by rw [ifD];omega) (by rw [ifD];omega) (by omega) (by rw [ifD,ifD,hml];omega);rw [ifD,ifD,hml,←hpw] at hop;have hz9:(openN D3 ((sizeZ u:Nat):Int) 4).2.2=0→(opensN (sizeZ u) f g mk).2=0:=fun h9=>by rw [hop.1] at h9;simp only at h9;omega
 refine .r<|.z .mvP<|.z .mvI<|.k 70 .func (size14_any (n:=u) (by omega))<|.c' 71 .func (gopen_any (d:=dnd1) (F:=Fy3) (D:=D3) (z:=((sizeZ u:Nat):Int)) (room:=4) (sure:=(pgs lw1)) (Hp.loc0 (ok)) k3 (by omega) (by omega) (fun h9=>⟨clean_ok (hop.2 (hz9 h9)).1 (hop.2 (hz9 h9)).2.1,by rw [hop.1,if_pos (hz9 h9)]⟩)) ?_;rintro _ η11 (⟨Fo1,heo1,rfl,q⟩ | ⟨po1,Fo1,heo1,rfl,q⟩)
 ·
  have ok:=Hp.lift1 (ok) q;have hcn9:(opensN (sizeZ u) f g mk).2≠0:=fun h9=>heo1 (by rw [hop.1];simp only;omega);refine .z .mvU<|.z .ex<|.z .ex<|.z .asP<|.z .asI<|.nil ?_;refine .seq<|.seq<|.r<|.z .mvI<|.z .mvI<|.z .neq<|.z .mvB<|.sd (fun G77=>?_) (fun G77=>?_)
  ·
   exact absurd (by rw [hop.1];simp only;omega) G77
  refine .z .mvP<|.z (.pEqN T.pt33)<|.z .mvI<|.z .neq<|.z (.bNe T.bo4)<|.z .pkf<|.nil ?_;refine .cond (fun C3=>?_) (fun C3=>?_)
  ·
   rw [decide_eq_true hcn9] at C3;cases C3
  refine .skip<|.seq<|.seq<|.r<|.z .mvP<|.z (.pEqN T.pt33)<|.nil ?_;refine .ct<|.seq<|.r<|.c' 86 .func live14_any ?_;rintro _ η12 ⟨rfl,hx⟩;have ok:=ok.ext hx;refine .z .asB<|.nil ?_;refine .ret ⟨.bool true,Res.one rfl rfl,⟨rfl,ok.chg⟩⟩
 have ok:=Hp.lift1 (ok) q;obtain ⟨Ao1,hAo1⟩:∃x:Ah,(⟨(openN D3 ((sizeZ u:Nat):Int) 4).1,0,0,0,false,[],(pgs lw1),Int.toNat ((sizeZ u:Nat):Int),false⟩:Ah)=x:=⟨_,rfl⟩;rw [hAo1] at ok;have hc0:=hz9 heo1;have hcl:Clean (pgs lw1) Ao1.dk:=by rw [←hAo1];exact (hop.2 hc0).2.1
 have hfl9:(pgs lw1).flatten.length≤65536:=(hop.2 hc0).2.2;have hdA:Ao1.dark=false:=by rw [←hAo1]
 have hpgA:pagesA Ao1=pgs lw1:=by rw [←hAo1];rfl
 have hfrA:Ao1.fr=0:=by rw [←hAo1]
 have hcA:Ao1.dk.chg≤2000000:=by rw [←hAo1];have:=opn_chg (z:=((sizeZ u:Nat):Int)) (room:=4) k3;have h9:newN.chg=0:=rfl;simp only;omega
 refine .z .mvU<|.z .ex<|.z .ex<|.z .asP<|.z .asI<|.nil ?_;refine .seq<|.seq<|.r<|.z .mvI<|.z .mvI<|.z .neq<|.z .mvB<|.sd (fun G77=>?_) (fun G77=>?_)
 ·
  exact absurd hc0.symm G77
 refine .z .mvP<|.z (.pEqS T.pt33)<|.z .mvI<|.z .neq<|.z (.bNe T.bo4)<|.z .pkf<|.nil ?_;refine .cond (fun C3=>?_) (fun C3=>?_)
 ·
  rw [decide_eq_false (not_not_intro hc0)] at C3;cases C3
 refine .skip<|.seq<|.seq<|.r<|.z .mvP<|.z (.pEqS T.pt33)<|.nil ?_;refine .cf<|.skip<|.seq<|.seq<|.r<|.z .mvP<|.k 88 .func (gPages_any (p:=po1) (d:=dnd1) (F:=Fo1) (A:=Ao1) ok.m0)<|.z .mvS<|.z (.len T.el26)<|.z .neq<|.z .mvB<|.sd (fun G92=>?_) (fun G92=>?_)
 ·
  exact absurd (by rw [if_neg (by rw [hdA];decide),hpgA,pgs_len]) G92
 refine .z .mvP<|.k 94 .func (gframes_any (p:=po1) (d:=dnd1) (F:=Fo1) (A:=Ao1) ok.m0)<|.z .neq<|.z .pkf<|.nil ?_;refine .cd (fun C5=>?_) (fun C5=>?_)
 ·
  exact absurd (by rw [if_neg (by rw [hdA];decide),hfrA];rfl) C5
 refine .skip<|.seq<|.seq<|.r<|.z .asI<|.nil ?_;refine .block fun K0 hK0=>.loop (fun m s hh=>∃(i:Nat) (F:Nat→Prop),Has s [(5,.slice aw1 lw1.length cw1),(7,.pointer (some ⟨dnd1,0,none⟩)),(8,.pointer (some ⟨po1,0,none⟩)),(10,.int .i64 (i:Int))]∧Hp h none_ [agI po1 dnd1 F Ao1] [pgwI Ew1 (aw1,lw1.length,cw1) lw1] hh∧i≤lw1.length∧m=lw1.length-i) ?_ ?_
 ·exact ⟨_,0,Fo1,⟨rfl,rfl,rfl,rfl,trivial⟩,(ok).k1.f2.e1,Nat.zero_le _,rfl⟩
 rintro _ _ η13 ⟨i,F,hs,ok,hi,rfl⟩ J0 hJ0;refine .frame hs fun τ=>?_;refine .seq<|.seq<|.r<|.z .mvI<|.z .mvS<|.z (.len T.el26)<|.z .lss<|.nil ?_;refine .cdr (fun C6=>?_) (fun C6=>?_)
 ·
  refine .exit<|hK0 _ _<|.seq<|?_;obtain ⟨tt,S9,hT9⟩:=hcl;obtain ⟨flb,flc,hfl⟩:∃x y,readN Ao1.dk nT 0 131072=(x,y):=⟨_,_,rfl⟩;have hfb:flb=(pgs lw1).flatten:=by
   have h9:=read_take (z:=131072) S9.hd nT_ok S9.T;rw [show ((131072:Nat):Int)=131072 from rfl,hfl,hT9,List.take_of_length_le (by omega)] at h9;exact h9
  have hnM9:sizeN Ao1.dk nM=(0,false):=by rw [size_st S9.hd (show FSt (Ao1.dk.fs nM) none [] none by rw [S9.M];exact .syn _)];rfl
  have hnL9:sizeN Ao1.dk nL=(0,false):=by rw [size_st S9.hd (show FSt (Ao1.dk.fs nL) none [] none by rw [S9.L];exact .syn _)];rfl
  have Pk9:=(ag_pl (ok).m0).ok;refine .r<|.z .mvP<|.c' 123 .func (dgread_any (d:=dnd1) (F:=F) (D:=Ao1.dk) (n:=([116,111,109,101]:List UInt8)) (y:=0) (z:=131072) (Hp.loc0 (ag_dgo (ok))) Pk9 (by omega) (by omega)) ?_;rintro _ η14 ⟨w,rfl,own⟩;rw [show readN Ao1.dk ([116,111,109,101]:List UInt8) 0 131072=(flb,flc) from hfl] at own⊢;replace own:Own _ _ 1 5 w (flb.map bv):=own;obtain ⟨ya1,yc1,rfl⟩:=own.formB;have ok:=ok.own own;refine .z .mvU<|.z .ex<|.z .ex<|.z .asS<|.z .asI<|.nil ?_;refine .seq<|.r<|.z .mvP<|.k 128 .func ((dgsize_any (d:=dnd1) (F:=F) (D:=Ao1.dk) (n:=([116,111,109,101,46,109,97,114,107]:List UInt8)) (Hp.loc0 (ag_dgo (ok.n1)))).mono fun _ _ q=>(by rw [show sizeN Ao1.dk ([116,111,109,101,46,109,97,114,107]:List UInt8)=(0,false) from hnM9] at q;exact q:_=(Value.tuple #[.int .i64 ((0:Nat):Int),.bool false])∧_))<|.z .mvU<|.z .ex<|.z .ex<|.z .asI<|.z .asB<|.nil ?_;refine .seq<|.r<|.z .mvP<|.k 133 .func ((dgsize_any (d:=dnd1) (F:=F) (D:=Ao1.dk) (n:=([116,111,109,101,46,108,111,103]:List UInt8)) (Hp.loc0 (ag_dgo (ok.n1)))).mono fun _ _ q=>(by rw [show sizeN Ao1.dk ([116,111,109,101,46,108,111,103]:List UInt8)=(0,false) from hnL9] at q;exact q:_=(Value.tuple #[.int .i64 ((0:Nat):Int),.bool false])∧_))<|.z .mvU<|.z .ex<|.z .ex<|.z .asI<|.z .asB<|.nil ?_;refine .seq<|.r<|.c' 136 .func live14_any ?_;rintro _ η15 ⟨rfl,hx⟩;have ok:=ok.ext hx;refine .z .mvB<|.z .mvB<|.z .not<|.z .pkt<|.z .mvB<|.z .mvB<|.z .not<|.z .pkt<|.z .mvB<|.z .mvS<|.z .mvS<|.c' 148 .func (join_any (E:=Ew1) (x:=(aw1,lw1.length,cw1)) (L:=pgs lw1) (PgB.rows ok.r0) (by omega)) ?_;rintro _ η16 own;obtain ⟨ya2,yc2,rfl⟩:=own.formB;have ok:=ok.own own;refine .k 149 .func (same_any (a:=ya1) (c:=yc1) (l:=flb) (b:=ya2) (d:=yc2) (l2:=((pgs lw1).flatten)) (RdL.ofCapB (v:=(ya1,flb.length,yc1)) (l:=flb) ok.m1) (RdL.ofCapB (v:=(ya2,((pgs lw1).flatten).length,yc2)) (l:=((pgs lw1).flatten)) ok.m0))<|.z .pkt<|.z .asB<|.nil ?_;refine .ret ⟨.bool (decide (flb=((pgs lw1).flatten))),Res.one rfl rfl,⟨congrArg Value.bool (decide_eq_true hfb),ok.chg⟩⟩
 have hil:i<lw1.length:=by omega
 have hrd9:readA Ao1 ((i+1:Nat):Int)=(lw1[i].l,0):=by rw [show ((i+1:Nat):Int)=(i:Int)+1 from by omega,read_in hdA (by rw [hpgA,pgs_len];exact hil),hpgA];simp [pgs,hil]
 refine .skip<|.seq<|.block fun K1 hK1=>.seq<|.r<|.z .mvP<|.z .mvI<|.z (.addI (b:=1))<|.c' 107 .func (gread_any (p:=po1) (d:=dnd1) (F:=F) (A:=Ao1) (no:=((i+1:Nat):Int)) (ok).loc0 (by omega)) ?_;rintro _ η17 ⟨Fg1,ag1,cg1,rfl,q⟩;have ok:=(ok).lift2 q;refine .z .mvU<|.z .ex<|.z .ex<|.z .asS<|.z .asI<|.nil ?_;refine .seq<|?_;have ok:=ok.d0 (rdI Ew1 Ew1 (lw1[i].a,lw1[i].l.length,lw1[i].c) lw1[i].l) ((ok.r0).by' _ (List.getElem_mem hil)) (fun _ h=>h.elim id id);refine .r<|.z .mvI<|.z .neq<|.z .mvB<|.sd (fun G112=>?_) (fun G112=>?_)
 ·
  exact absurd (by rw [hrd9];rfl) G112
 refine .z .mvS<|.z .mvS<|.z .mvI<|?_;obtain ⟨bb1,oo1,rfl,fb1⟩:=ok.r1.pos (by omega);refine .z (.ix1 i T.el26 T.sz22)<|.z (.ld T.ag22 (sl_at1 RB.cells_len (ok.r1).sl (i:=i) (by omega) rfl))<|.k 118 .func (same_any (a:=ag1) (c:=cg1) (l:=(readA Ao1 ((i+1:Nat):Int)).1) (b:=lw1[i].a) (d:=lw1[i].c) (l2:=lw1[i].l) (RdL.ofCapB (v:=(ag1,(readA Ao1 ((i+1:Nat):Int)).1.length,cg1)) (l:=((readA Ao1 ((i+1:Nat):Int)).1)) ok.m0) ok.r0)<|.z .notd<|.z .pkf<|.nil ?_;refine .cd (fun C7=>?_) (fun C7=>?_)
 ·
  exact absurd (by rw [hrd9]) C7
 refine .skip<|.end<|hK1 _ _<|.r<|.z .mvI<|.z (.addI (b:=1))<|.z .asI<|.nil ?_;refine .end<|hJ0 _ _ _ ⟨i+1,Fg1,⟨rfl,rfl,rfl,rfl,trivial⟩,(ok.n1).k1.f1.e1,by omega,rfl⟩ (by omega)
theorem opn_files14:Opn Tryz.prog 24 (fun h cs (x:RFs)=>cs=x.cells∧RdL h any_ any_ (x.fa,x.f.length,x.fc) x.f∧RdL h any_ any_ (x.ga,x.g.length,x.gc) x.g):=⟨fun hx=>by
 have hl:=(opn_struct Tryz.underlying24 hx).1;have f0:=opn_field T.fd24_0 hx (Opn.bytes Tryz.underlying22 Tryz.underlying5 (by kernel_rfl));have f1:=opn_field T.fd24_1 hx (Opn.bytes Tryz.underlying22 Tryz.underlying5 (by kernel_rfl));have f2:=opn_field T.fd24_2 hx (Opn.u8 Tryz.underlying5);obtain ⟨c0,c1,c2,rfl⟩:=len3 (hl.trans (by kernel_rfl:_=3));obtain ⟨b,⟨a,n,c⟩,h0,hb⟩:=f0;obtain ⟨b',⟨a',n',c'⟩,h1,hb'⟩:=f1;obtain ⟨k,h2⟩:=f2;simp at h0 h1 h2;subst h0 h1 h2;have r:=RdL.ofBytes (E:=any_) hb;have r':=RdL.ofBytes (E:=any_) hb';obtain rfl:n=b.length:=r.n;obtain rfl:n'=b'.length:=r'.n;exact ⟨⟨a,c,b,a',c',b',k⟩,rfl,r.mono (fun _ _=>trivial) (fun _ _=>trivial),r'.mono (fun _ _=>trivial) (fun _ _=>trivial)⟩⟩
theorem aopens_row {h:Heap} {x:UInt8} {o:RFs} (ho:RdL h any_ any_ (o.fa,o.f.length,o.fc) o.f∧RdL h any_ any_ (o.ga,o.g.length,o.gc) o.g):HC Tryz.prog 3 #[.int .u8 (x.toNat:Int),.agg o.cells.toArray] h (fun v h'=>v=.bool true∧Ext h h'):=aopens_walk ho.1 ho.2 x.toNat_lt o.mb.toNat_lt
open Go.ChangeShapes Go.WideShapes Go.ChangeAt Go.RowKit
theorem aheadOpens_lifted (os:Os) (started:os.Started) (H:Type) (enc:TypeId × Value→H) :
  ReturnsInHanded {} Tryz.checked os 3 .any (Rows.aheadOpensSpec.pre6 enc Tryz.prog Tryz.f3 Rows.aheadOpensRow.domain false) (Rows.aheadOpensSpec.post enc Tryz.prog Tryz.f3 false true false false):=by
 refine returnsInHanded_of_change (C:=Tryz.checked) own_knob started (by kernel_rfl) Tryz.func3
  (ChangeSpec.witness6 (enc:=enc) (C:=Tryz.checked) false ⟨#[],#[.int .u8 0,.agg #[.slice none 0 0,.slice none 0 0,.int .u8 0]],[]⟩ 8 (by kernel_rfl) (by kernel_rfl) (by kernel_rfl) (by kernel_rfl)) ?_
 intro W base args ds gs before hval0 hW hcnd _;have hval:∀(j:Nat) t v,Tryz.f3.params[j]? = some t→args[j]? = some v→Value.okWide Tryz.prog W .any base t v:=hval0;have hW':=hW;obtain ⟨p,q,hA0,hV,rfl,hfz,hnd⟩:=hW;have hA:DataW.TrodAll enc Tryz.prog W 0 (fun _=>true) true Tryz.f3.params.toList args.toList ds p:=hA0;rw [Tryz.params3] at hA hval;obtain ⟨v0,vs0,d0,ds0,p0,q0,hargs,rfl,rfl,h0,r0⟩:=trodAll_cons hA;obtain ⟨v1,vs1,d1,ds1,p1,q1,rfl,rfl,rfl,h1,r1⟩:=trodAll_cons r0;obtain ⟨rfl,rfl,rfl⟩:=trodAll_nil r1;obtain rfl:args = #[v0,v1]:=by cases args;simp_all
 obtain ⟨z0,rfl,_,_,w0⟩:=open_int Tryz.underlying5 (hval 0 5 v0 rfl rfl) h0;obtain ⟨x0,rfl⟩:=byte_val w0;obtain ⟨cs1,rfl,_⟩:=okWide_struct Tryz.underlying24 (hval 1 24 v1 rfl rfl);obtain ⟨l1,hy1,hl1⟩:=opn_files14.arg h1;obtain ⟨ys1⟩:=cs1;obtain rfl:ys1=_:=hy1;refine ((aopens_row (x:=x0) (o:=l1) hl1).2 _ W (At.self W)).mono fun e W' ⟨v,h',he,at',hv,hx⟩=>?_;subst he;subst hv;exact ⟨_,rfl,law_post laid_out hW' rfl (by kernel_rfl) rfl Tryz.underlying4 rfl at' hx⟩
theorem aheadOpens_holds:Rows.AheadOpensSaid:=
 OpenClaim.holds_of_wide 3 Tryz.f3 rfl rfl rfl rfl rfl rfl rfl ⟨rfl,rfl,rfl,rfl,rfl⟩ rfl rfl rfl rfl rfl (by kernel_rfl) Tryz.func3 (by kernel_rfl)
  (of_decide_eq_true (by kernel_rfl)) (by unfold Func.isWrapper;first | (rw [if_pos (by decide +kernel)];kernel_rfl) | (rw [if_neg (by decide +kernel)];exact ⟨rfl,rfl⟩))
  (fun os started H enc _=>aheadOpens_lifted os started H enc)
end Go.Proofs.YtpeaicddbnghfaaGreat
