/- The chapter's first example of the free list. Conditions: none. How a law whose call returns true and turns nothing old closes its row. Conditions: those that each fact names. The law FreeNobody returns true at every input and leaves its arguments as they were. Conditions: none. -/
import Derived.Test.YtndlpekckpdncaaGreatPkF5
import Derived.ProofKit
import Derived.OpenShut
import Derived.Below
import Derived.Carry
import Derived.Deep.Slices
import Derived.Test.YtndlpekckpdncaaGreatRows
set_option maxRecDepth 100000
set_option maxHeartbeats 2000000
set_option linter.all false
namespace Go.Proofs.YtndlpekckpdncaaGreat
open Go Go.HL
theorem flistS {G:Pgr} {h:Heap} {so:Nat} {F:Nat→Prop} {w:St} {l:List Int} (ok:Hp h F [dsI G so F w] [] h) (e:frAll w=some l) :
  HC Tryz.prog 17 #[.pointer (some ⟨so,0,none⟩)] h (fun v h'=>∃(F':Nat→Prop) (x:Option Addr) (c:Nat) (S:List Int),S.Perm l∧S.Pairwise (·≤·)∧v=.tuple #[.slice x S.length c,.int .i64 0]∧Hp h F [capI 1 3 (x,S.length,c) (S.map iv),dsI G so F' w] [] h'):=
 (flist_any ok).mono fun v h' ⟨F',x,c,S,h1,h2,h3,h4⟩=>⟨F',x,c,S,by rw [(frL_s e).1] at h1;exact h1,h2,by rw [h3,(frL_s e).2];rfl,h4⟩
theorem op_fs {z j:Nat} (hz:okSz z=true) (hj:j≤100):FrS (opV z j) []:=by
 have hzc:=okSz_c hz;have hm:(j+1)*z≤16777216:=Nat.le_trans (Nat.mul_le_mul (show j+1≤102 by omega) (show z≤4096 by omega)) (by decide);refine ⟨hz,fun b hb=>?_,by show (opL z j).length*z≤_;rw [opL_len];exact hm,rfl,by simp [opV,opL],?_,rfl,Met.nil⟩
 ·rcases List.mem_cons.1 hb with rfl | hb
  ·exact pg1_len hz
  ·obtain ⟨i,_,rfl⟩:=List.mem_map.1 hb;exact pageG_len
 ·unfold St.head;rw [show (opV z j).pgs=opL z j from rfl,if_neg (by simp [opL])];rw [show (opL z j).headD []=pg1 z (hd1 z) from rfl];unfold pg1;rw [dec_enc (chk_hd1 hz)];show Hd.mk _ _ _ _ _ _=Hd.mk _ _ _ _ _ _;rfl
def lvB:List UInt8:=put4 (put4 (put4 (zer 256) 0 0) 8 2) 4 1
theorem lvB_12:lvB.take 12=[0,0,0,0,0,0,0,1,0,0,0,2]:=by decide
theorem lvB_len:lvB.length=256:=by unfold lvB;rw [put4_len (by rw [put4_len (by rw [put4_len (by rw [zer_len];omega),zer_len];omega),put4_len (by rw [zer_len];omega),zer_len];omega),put4_len (by rw [put4_len (by rw [zer_len];omega),zer_len];omega),put4_len (by rw [zer_len];omega),zer_len]
theorem lv_plain:∃w1 w2 w3 w4 w5,giveF (opW 256 4) 3=(w1,0)∧giveF w1 2=(w2,0)∧giveF w2 3=(w2,7)∧FrS w2 [(3,[2])]∧pageAt w2.now 3=lvB∧takeF w2=(w3,2,0)∧takeF w3=(w4,3,0)∧takeF w4=(w5,5,0)∧w2.now.length=4:=by
 have f0:FrS (opW 256 4) []:=op_fs (z:=256) (j:=3) (by decide) (by decide);have l0:(opW 256 4).now.length=4:=rfl;have a1:=f0.give_b (no:=3) (by decide) (by rw [l0];decide) (by simp [flatT]) (by rintro ⟨h,_⟩;exact h rfl);generalize hw1:upP (opW 256 4) ((opW 256 4).now.set ((3:Int)-1).toNat (put4 (zer (opW 256 4).z) 0 (frT []).toNat)) [(3,[])]=w1 at a1;have l1:w1.now.length=4:=by rw [←hw1,upP_len,List.length_set];exact l0
 have z1:w1.z=256:=by rw [←hw1];rfl
 have p1:pageAt w1.now 3=put4 (zer 256) 0 0:=by
  rw [←hw1,upP_at (by decide),pageAt_eq (by decide) (by rw [l0];decide)];rfl
 have a2:=a1.2.give_a (no:=2) (by decide) (by rw [l1];decide) (by simp [flatT]) (by rw [z1];decide);generalize hw2:upP w1 (w1.now.set (((3:Int),([]:List Int)).1-1).toNat (put4 (put4 (pageAt w1.now ((3:Int),([]:List Int)).1) (8+4*((3:Int),([]:List Int)).2.length) (2:Int).toNat) 4 (((3:Int),([]:List Int)).2.length+1))) [(((3:Int),([]:List Int)).1,((3:Int),([]:List Int)).2++[2])]=w2 at a2;have f2:FrS w2 [(3,[2])]:=a2.2;have l2:w2.now.length=4:=by rw [←hw2,upP_len,List.length_set];exact l1
 have z2:w2.z=256:=by rw [←hw2];exact z1
 have p2:pageAt w2.now 3=lvB:=by
  rw [←hw2,upP_at (by decide),pageAt_eq (by decide) (by rw [l1];decide)];show put4 (put4 (pageAt w1.now 3) 8 2) 4 1=_;rw [p1];rfl
 obtain ⟨w3,t3,f3,z3,l3,_⟩:=f2.take_a (no:=2) (ns:=[]) rfl;obtain ⟨w4,t4,f4,z4,l4,_⟩:=f3.take_b rfl;obtain ⟨w5,t5,_⟩:=f4.take_n (by rw [l4,l3,l2,z4,z3,z2];decide);refine ⟨w1,w2,w3,w4,w5,a1.1,a2.1,?_,f2,p2,t3,t4,?_,l2⟩
 ·exact giveF_7 (f2.give_ (by decide) (by rw [l2];decide)) (by rw [f2.op]) (by rw [f2.op];simp [flatT])
 ·rw [l4,l3,l2] at t5;exact t5
theorem two_sorted {S:List Int} (p:S.Perm [3,2]) (s:S.Pairwise (·≤·)):S=[2,3]:=by
 have hl:=p.length_eq
 match S,hl with
 | [a,b],_=>
  have ha:a∈[3,2]:=p.mem_iff.1 (by simp);have hb:b∈[3,2]:=p.mem_iff.1 (by simp);have hn:[a,b].Nodup:=p.nodup_iff.2 (by decide);have hs:a≤b:=by simpa using s
  simp at ha hb hn;rcases ha with rfl | rfl<;>rcases hb with rfl | rfl
  ·exact absurd rfl hn
  ·omega
  ·rfl
  ·exact absurd rfl hn
theorem live16_any {h:Heap} :
  HC Tryz.prog 15 #[] h (fun v h'=>v=.bool true∧Ext h h'):=by
 have ok:=Hp.nil h none_;obtain ⟨w1,w2,w3,w4,w5,g1,g2,g3,f2,p2,t1,t2,t3,l2⟩:=lv_plain;refine HC.go Tryz.func15 106 ?_;refine .seq<|.r<|.z .asB<|.nil ?_;refine .seq<|.r<|.z (.bd #[.int .i64 256,.bool false,.int .i64 4] T.zr23 T.pl23 rfl)<|.c' 16 .func (opened16_any (z:=256) (n:=4) (ah:=false) (c:=4) (by decide) (by decide) (by decide)) ?_;rintro _ η1 ⟨so,Fw1,Ww1,Ew1,rfl,hE,hW,q⟩;have ok:=ok.addM15 q.tR;rw [show Value.agg Ww1.cells=.agg #[.int .i64 (Ww1.z:Int),.slice Ww1.sa Ww1.sl.length Ww1.sc,.bool Ww1.i,.slice Ww1.na Ww1.nl.length Ww1.nc,.slice Ww1.va Ww1.vl.length Ww1.vc] from rfl];refine .z .mvU<|.z .ex<|.z .ex<|.z .ex<|.a' 2 (.alA T.zr31 ok) ?_;rintro _ η2 ⟨pb1,rfl,ok,xe⟩;refine .z .asP<|.ur' (.stW (vs:=[.int .i64 (Ww1.z:Int),.slice Ww1.sa Ww1.sl.length Ww1.sc,.bool Ww1.i,.slice Ww1.na Ww1.nl.length Ww1.nc,.slice Ww1.va Ww1.vl.length Ww1.vc]) T.sz31 ok (oneL rfl)) ?_;rintro η3 ⟨ok,cg⟩;refine .z .asB<|.nil ?_;refine .seq<|.seq<|.r<|.z .mvB<|.z .not<|.z .mvB<|.z .mvP<|.c' 24 .func (ansE (ci:=0) (fgive_any (G:=(nG false)) (w:=(opW 256 4)) (no:=3) (ok.n1).loc0 (by omega)) g1 rfl) ?_;rintro _ η4 ⟨Fv1,rfl,q⟩;have ok:=(ok.n1).lift1 q;refine .z .neq<|.z .pkf<|.z .mvB<|.z .mvP<|.c' 29 .func (ansE (ci:=0) (fgive_any (G:=(nG false)) (w:=w1) (no:=2) (ok).loc0 (by omega)) g2 rfl) ?_;rintro _ η5 ⟨Fv2,rfl,q⟩;have ok:=(ok).lift1 q;refine .z .neq<|.z .pkf<|.z .mvB<|.z .mvP<|.c' 34 .func (ansE (ci:=7) (fgive_any (G:=(nG false)) (w:=w2) (no:=3) (ok).loc0 (by omega)) g3 rfl) ?_;rintro _ η6 ⟨Fv3,rfl,q⟩;have ok:=(ok).lift1 q;refine .z .neq<|.z .pkf<|.nil ?_;refine .cf<|.skip<|.seq<|.r<|.z .mvP<|.c' 39 .func (sReadOk_any (G:=(nG false)) (w:=w2) (no:=3) (b:=lvB) (ok).loc0 (by decide) (by rw [f2.pgs,l2];decide) (by rw [f2.pgs];exact p2.symm)) ?_;rintro _ η7 ⟨Fr1,xr1,cr1,rfl,hlr1,q⟩;have ok:=(ok).lift2 q;refine .z .mvU<|.z .ex<|.z .ex<|.z .asS<|.z .asI<|.nil ?_;refine .seq<|?_;have ok:=(ok).frzB (l:=lvB) rfl;have hcr:=ok.r0.c;simp only at hcr;refine .r<|.z .mvP<|.c' 44 .func (flistS (G:=(nG false)) (w:=w2) (l:=[3,2]) (ok).loc0 f2.all) ?_;rintro _ η8 ⟨Fl1,xl1,cl1,Sl1,hpl1,hsl1,rfl,q⟩;have ok:=(ok).lift2 q;refine .z .mvU<|.z .ex<|.z .ex<|.z .asS<|.z .asI<|.nil ?_;refine .seq<|.seq<|.r<|.z .mvI<|.z .neq<|.z .mvB<|.z .mvI<|.z .neq<|.z .pkf<|.z .mvB<|.z .mvS<|.z (.len T.el44)<|.z .neq<|.z .pkf<|.z .mvB<|.sd (fun G58=>?_) (fun G58=>?_)
 ·
  exact absurd (show (lvB.length:Int)=256 by rw [lvB_len];rfl) G58
 refine .z .mvS<|.z (.sl_h ((lvB.take 12).length) T.el44 T.sz5 (hb:=by (rw [List.length_take];rw [lvB_len] at hcr⊢;omega)))<|?_;have ok:=ok.d0 (rdI (blkC (sv (xr1,lvB.length,cr1))) none_ (xr1,(lvB.take 12).length,cr1) (lvB.take 12)) ((ok.r0).pre (l2:=lvB.take 12) (List.take_prefix _ _)) (fun _ h=>h);refine .a' 61 (.lit [.const (.int .u8 0),.const (.int .u8 0),.const (.int .u8 0),.const (.int .u8 0),.const (.int .u8 0),.const (.int .u8 0),.const (.int .u8 0),.const (.int .u8 1),.const (.int .u8 0),.const (.int .u8 0),.const (.int .u8 0),.const (.int .u8 2)] (cs:=[.int .u8 0,.int .u8 0,.int .u8 0,.int .u8 0,.int .u8 0,.int .u8 0,.int .u8 0,.int .u8 1,.int .u8 0,.int .u8 0,.int .u8 0,.int .u8 2]) T.el44 T.sz5 T.zr5 ok ⟨rfl,rfl,rfl,rfl,rfl,rfl,rfl,rfl,rfl,rfl,rfl,rfl,trivial⟩) ?_;rintro _ η9 ⟨pb2,rfl,ok,xe⟩;have ok:=ok.cx (ys:=([0,0,0,0,0,0,0,1,0,0,0,2]:List UInt8).map bv) rfl;refine .k 62 .func (same_any (a:=xr1) (c:=cr1) (l:=lvB.take 12) (b:=some ⟨pb2,0,none⟩) (d:=12) (l2:=[0,0,0,0,0,0,0,1,0,0,0,2]) ok.r0 (RdL.ofCapB (v:=(some ⟨pb2,0,none⟩,12,12)) (l:=[0,0,0,0,0,0,0,1,0,0,0,2]) ok.m0))<|.z .notd<|.z .pkf<|.z .mvB<|.sd (fun G65=>?_) (fun G65=>?_)
 ·
  exact absurd lvB_12 G65
 refine .z .mvS<|.a' 67 (.lit [.const (.int .i64 2),.const (.int .i64 3)] (cs:=[.int .i64 2,.int .i64 3]) T.el24 T.sz3 T.zr3 ok ⟨rfl,rfl,trivial⟩) ?_;rintro _ η10 ⟨pb3,rfl,ok,xe⟩;have ok:=ok.cx (ys:=([2,3]:List Int).map iv) rfl;refine .k 68 .func (same16_any (a:=xl1) (c:=cl1) (l:=Sl1) (b:=some ⟨pb3,0,none⟩) (d:=2) (l2:=([2,3]:List Int)) (RdL.ofInts (x:=(xl1,Sl1.length,cl1)) (E:=none_) (ok.m2).sl) (RdL.ofInts (x:=(some ⟨pb3,0,none⟩,2,2)) (E:=none_) (ok.m0).sl))<|.z .notd<|.z .pkf<|.z .mvB<|.sd (fun G71=>?_) (fun G71=>?_)
 ·
  exact absurd (two_sorted hpl1 hsl1) G71
 refine .z .mvP<|.c' 73 .func (sHead_any (G:=(nG false)) (w:=w2) (ok.n3).loc0) ?_;rintro _ η11 ⟨Fh1,rfl,q⟩;have ok:=(ok.n3).lift1 q;rw [show w2.head.val=.agg #[.int .i64 w2.head.size,.int .i64 w2.head.pages,.int .i64 w2.head.free,.int .i64 w2.head.many,.int .i64 w2.head.cookie,.int .i64 w2.head.version] from rfl];refine .z (.fd T.fd38_2 T.ag3)<|.z .neq<|.z .pkf<|.nil ?_;refine .cd (fun C1=>?_) (fun C1=>?_)
 ·
  exact absurd (show w2.head.free=3 by rw [f2.hd];rfl) C1
 refine .skip<|.seq<|.r<|.z .mvP<|.c' 79 .func (ansT (ci:=0) (ftake_any (G:=(nG false)) (w:=w2) (ok).loc0) t1 rfl) ?_;rintro _ η12 ⟨Ft1,rfl,q⟩;have ok:=(ok).lift1 q;refine .z .mvU<|.z .ex<|.z .ex<|.z .asI<|.z .asI<|.nil ?_;refine .seq<|.r<|.z .mvP<|.c' 84 .func (ansT (ci:=0) (ftake_any (G:=(nG false)) (w:=w3) (ok).loc0) t2 rfl) ?_;rintro _ η13 ⟨Ft2,rfl,q⟩;have ok:=(ok).lift1 q;refine .z .mvU<|.z .ex<|.z .ex<|.z .asI<|.z .asI<|.nil ?_;refine .seq<|.r<|.z .mvP<|.c' 89 .func (ansT (ci:=0) (ftake_any (G:=(nG false)) (w:=w4) (ok).loc0) t3 rfl) ?_;rintro _ η14 ⟨Ft3,rfl,q⟩;have ok:=(ok).lift1 q;refine .z .mvU<|.z .ex<|.z .ex<|.z .asI<|.z .asI<|.nil ?_;refine .seq<|.r<|.z .mvI<|.z .eql<|.z .mvB<|.z .mvI<|.z .eql<|.z .pkt<|.z .mvB<|.z .mvI<|.z .eql<|.z .pkt<|.z .mvB<|.z .mvI<|.z .eql<|.z .pkt<|.z .asB<|.nil ?_;refine .ret ⟨.bool true,Res.one rfl rfl,⟨rfl,ok.chg⟩⟩
end Go.Proofs.YtndlpekckpdncaaGreat
namespace Go.HL
open Go Go.RowKit Go.ChangeShapes Go.WideShapes Go.ChangeAt
theorem Below.of {w w':World} {h':Heap} (a:At (Env.of w) h' w') (x:Ext w.heap h'):Below w.heap.size w w':=
 ⟨a.os,a.tape,a.output,by rw [a.heap];exact x.size,fun k hk=>by rw [a.heap];exact x.same k hk fun f=>f⟩
theorem trodAll_below {H:Type} {enc:TypeId × Value→H} {P:Program} (hl:laidOutB P=true) {W W':World} (hb:Below W.heap.size W W'):∀ {ts:List TypeId} {vs:List Value} {ds:List (DataW H)} {ps:List MemPlace},
  (ts.all fun t=>P.readableRec t && decide (t<P.types.size))=true→(∀x∈ps,x.block<W.heap.size)→DataW.TrodAll enc P W 0 (fun _=>true) true ts vs ds ps→DataW.TrodAll enc P W' 0 (fun b=>decide (b<W.heap.size)) true ts vs ds ps
 | [],[],[],_,_,_,h=>h
 | t::ts,v::vs,d::ds,ps,ht,hp,h=>by
  obtain ⟨p,q,h1,h2,rfl⟩:=h;simp only [List.all_cons,Bool.and_eq_true,decide_eq_true_eq] at ht;exact ⟨p,q,RowKit.Below.trod hl ht.1.1 ht.1.2 h1 hb (fun x hx=>hp x (List.mem_append_left _ hx)),trodAll_below hl hb (by simpa using ht.2) (fun x hx=>hp x (List.mem_append_right _ hx)) h2,rfl⟩
 | [],[],_::_,_,_,_,h=>h.elim
 | [],_::_,_,_,_,_,h=>h.elim
 | _::_,[],_,_,_,_,h=>h.elim
 | _::_,_::_,[],_,_,_,h=>h.elim
theorem law_post {H:Type} {enc:TypeId × Value→H} {P:Program} {f:Func} {s:ChangeSpec} {fresh handsOn:Bool} {W W':World} {args:Array Value} {ds gs:List (DataW H)} {before:List MemPlace} {tb:TypeId}
  (hl:laidOutB P=true) (hW:DataW.Whole enc P f.params.toList s.vars false W args.toList ds gs before) (hv:s.vars=[]) (ht:(f.params.toList.all fun t=>P.readableRec t && decide (t<P.types.size))=true)
  (hr:f.resultTypes = #[tb]) (hb:P.underlying tb=some .bool) (hs:s.fn H ds = { results:=[.lit (.bool true)],args:=ds }) {h':Heap} (a:At (Env.of W) h' W') (x:Ext W.heap h') :
  s.post enc P f false fresh handsOn false W args (.bool true) W':=by
 have bel:=Below.of a x;have hlt:=hW.lt;obtain ⟨p,q,hA,hV,rfl,hfz,hnd⟩:=hW;rw [hv] at hV;cases gs with
 | cons g gs=>exact hV.elim
 | nil=>
  have hq:q=[]:=hV;subst hq;rw [List.append_nil] at *;refine ⟨ds,[],p,[],p,[],⟨p,[],hA,by rw [hv];rfl,by simp,hfz,hnd⟩,?_,?_,?_,bel.frame _,fun h=>by cases h⟩
  ·rw [List.append_nil,hs,hr];exact trodAll_mk1 (shut_bool hb _)
  ·rw [List.append_nil,hs];exact trodAll_below hl bel ht (fun x hx=>hlt x (by simpa using hx)) hA
  ·rw [List.append_nil,hs,hv];rfl
end Go.HL
namespace Go.Proofs.YtndlpekckpdncaaGreat
open Go Go.HL Go.ChangeShapes Go.WideShapes Go.ChangeAt Go.RowKit
theorem own_knob:ownKnob Tryz.prog.godebug=none:=by kernel_rfl
theorem laid_out:laidOutB Tryz.prog=true:=by kernel_rfl
end Go.Proofs.YtndlpekckpdncaaGreat
