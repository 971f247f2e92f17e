/- A fresh store, bytes of a number, and the document's Local. Conditions: few. The chapter's first example of the free list. Conditions: none. The chapter's first example of chains, in plain terms. Conditions: none. The chapter's first example of chains. Conditions: none. What fits into a page beside others. Conditions: none. How a law whose call returns true and turns nothing old closes its row. Conditions: those that each fact names. The law SpillLocal returns true at every input and leaves its arguments as they were. Conditions: none. -/
import Derived.Test.YtndlpekckpdncaaGreatPkS5
import Derived.ProofKit
import Derived.OpenShut
import Derived.Below
import Derived.Carry
import Derived.Deep.Slices
import Derived.Test.YtndlpekckpdncaaGreatRows
set_option maxRecDepth 100000
set_option maxHeartbeats 2000000
set_option linter.all false
namespace Go.Proofs.YtndlpekckpdncaaGreat
open Go Go.HL
theorem _root_.Go.HL.OpV.shlI {P:Program} {s:Slots} {h:Heap} {d:Option Tmp} {t u ty:TypeId} {x y:Operand} {pos:String} {af:Array Edge} {g:Option (Nat × Bool)} {ky:IntKind} (a b:Nat) (hb:b≤64) (hr:a*2 ^ b≤9223372036854775807) (hx:ev s x=.int .i64 (a:Nat):=by exact rfl) (hy:ev s y=.int ky (b:Nat):=by exact rfl):OpV P ⟨d,.binOp .shl t x y u,ty,pos,af,g⟩ s h (.int .i64 ((a*2 ^ b:Nat):Int)):=fun w _=>by
 have h0:¬((b:Int)<0):=by omega
 have hm:min b IntKind.i64.bits=b:=Nat.min_eq_left hb;have h1:IntKind.wrap .i64 ((a:Int)*2 ^ min b IntKind.i64.bits)=((a*2 ^ b:Nat):Int):=by
  rw [hm];have e:(a:Int)*2 ^ b=((a*2 ^ b:Nat):Int):=by simp
  rw [e];exact IntWalk.i64_in _ (by omega)
 rw [hm] at h1;simp [execOp,hx,hy,V.eqG,binOp,Op.shift,h0];first | simpa using h1 | (rw [hm];simpa using h1)
def szF (n:Nat):Nat:=256*2 ^ (n%3)
theorem szF_ok (n:Nat):okSz (szF n)=true:=by
 unfold szF;have:n%3=0∨n%3=1∨n%3=2:=by omega
 rcases this with h | h | h<;>rw [h]<;>rfl
theorem szF_b (n:Nat):256≤szF n∧szF n≤1024:=by
 unfold szF;have:n%3=0∨n%3=1∨n%3=2:=by omega
 rcases this with h | h | h<;>rw [h]<;>decide
def bytN (n fr:Nat):List UInt8:=(List.range n).map fun i=>UInt8.ofNat ((fr+i*7)%256)
theorem bytN_len {n fr:Nat} : (bytN n fr).length=n:=by simp [bytN]
theorem bytN_s {n fr:Nat} : bytN (n+1) fr=bytN n fr++[UInt8.ofNat ((fr+n*7)%256)]:=by unfold bytN;rw [List.range_succ,List.map_append];rfl
theorem size17_any {h:Heap} {n:Int} :
  HC Tryz.prog 81 #[.int .i64 n] h (fun v h'=>v=.bool (decide (n=256∨n=512∨n=1024∨n=2048∨n=4096))∧h'=h):=by
 refine HC.go Tryz.func81 11 ?_;refine .seq<|.r<|.z .asB<|.nil ?_;refine .seq<|.seq<|.r<|.z .asI<|.nil ?_;refine .block fun K0 hK0=>.loop (fun m s hh=>∃(k:Nat),Has s [(0,.int .i64 n),(3,.int .i64 (k:Int))]∧h=hh∧(k=256∨(k=512∧n≠256)∨(k=1024∧n≠256∧n≠512)∨(k=2048∧n≠256∧n≠512∧n≠1024)∨(k=4096∧n≠256∧n≠512∧n≠1024∧n≠2048)∨(k=8192∧n≠256∧n≠512∧n≠1024∧n≠2048∧n≠4096))∧m=8192-k) ?_ ?_
 ·exact ⟨_,256,⟨rfl,rfl,trivial⟩,rfl,.inl rfl,rfl⟩
 rintro _ _ _ ⟨k,hs,rfl,hk,rfl⟩ J0 hJ0;refine .frame hs fun τ=>?_;refine .seq<|.seq<|.r<|.z .mvI<|.z .leq<|.nil ?_;refine .cdr (fun C0=>?_) (fun C0=>?_)
 ·
  refine .exit<|hK0 _ _<|.seq<|.r<|.z .asB<|.nil ?_;refine .ret ⟨.bool false,Res.one rfl rfl,⟨by rw [decide_eq_false (by omega)],rfl⟩⟩
 refine .skip<|.seq<|.block fun K1 hK1=>.seq<|.r<|.z .mvI<|.z .mvI<|.z .eql<|.nil ?_;refine .cd (fun C1=>?_) (fun C1=>?_)
 ·
  refine .seq<|.r<|.z .asB<|.nil ?_;refine .ret ⟨.bool true,Res.one rfl rfl,⟨by rw [decide_eq_true (by omega)],rfl⟩⟩
 refine .skip<|.end<|hK1 _ _<|.r<|.z .mvI<|.z (.mulI (a:=2))<|.z .asI<|.nil ?_;refine .end<|hJ0 _ _ _ ⟨2*k,⟨rfl,rfl,trivial⟩,rfl,by omega,rfl⟩ (by omega)
theorem local17_any {h:Heap} {total size:Int} (ht:i64N total) (hz:i64N size) :
  HC Tryz.prog 26 #[.int .i64 total,.int .i64 size] h (fun v h'=>v=.int .i64 (localN total size)∧h'=h):=by
 have ht1:=ht.1;have hz1:=hz.1;refine HC.go Tryz.func26 17 ?_;refine .seq<|.r<|.z .asI<|.nil ?_;refine .seq<|.seq<|.r<|.z .mvI<|.z .lss<|.z .mvB<|.sd (fun G7=>?_) (fun G7=>?_)
 ·
  refine .y<|.y<|.y<|.z .pkt<|.nil ?_;refine .ct<|.seq<|.r<|.z .asI<|.nil ?_;refine .ret ⟨.int .i64 0,Res.one rfl rfl,⟨by rw [localN_n (by omega)],rfl⟩⟩
 refine .z .mvI<|.k 9 .func (size17_any (n:=size))<|.z .notd<|.z .pkf<|.nil ?_;refine .cd (fun C0=>?_) (fun C0=>?_)
 ·
  refine .seq<|.r<|.z .asI<|.nil ?_;refine .ret ⟨.int .i64 0,Res.one rfl rfl,⟨by rw [localN_n (by omega)],rfl⟩⟩
 have hsz:=Classical.not_not.1 C0;refine .skip<|.seq<|.r<|.z .mvI<|.z .mvI<|.z .quo<|.z .sub<|.z .min2<|.z .asI<|.nil ?_;refine .ret ⟨.int .i64 (min total ((size / 4)-36)),Res.one rfl rfl,⟨by rw [localN_y (by omega)],rfl⟩⟩
theorem fresh17_any {h:Heap} {n:Nat} (hn:n<256) :
  HC Tryz.prog 27 #[.int .u8 (n:Int)] h (fun v h'=>∃so F,v=.pointer (some ⟨so,0,none⟩)∧Hp h none_ [dsI (nG (decide (((n%2:Nat):Int)=1))) so F (opV (szF n) 0)] [] h'):=by
 have ok:=Hp.nil h none_;have hzb:=szF_b n;refine HC.go Tryz.func27 42 ?_;refine .seq<|.r<|.z .asP<|.nil ?_;refine .seq<|.r<|.z .mvI<|.z (.remn (b:=3))<|.z (.shlI 256 (n%3) (by omega) (by unfold szF at hzb;omega))<|?_;rw [show 256*2 ^ (n%3)=(szF n) from rfl];refine .z .asI<|.nil ?_;refine .seq<|.r<|.c' 10 .func dgnew_any ?_;rintro _ η1 ⟨dnd1,Fnd1,rfl,q⟩;have ok:=Hp.addM15 ok q;refine .z .mvI<|.z .mvI<|.z (.remn (b:=2))<|.z .eql<|.z .mvI<|.z (.remn (b:=7))<|.z (.cvi T.in3 T.in5)<|.z (.addI (b:=1))<|.z (.bd #[.int .i64 (((szF n):Nat):Int),.bool (decide ((((n%2):Nat):Int)=1)),.int .i64 (((n%7)+1:Nat):Int)] T.zr23 T.pl23 rfl)<|.c' 20 .func (sopn_any (z:=(szF n)) (ah:=decide ((((n%2):Nat):Int)=1)) (room:=(((n%7)+1:Nat):Int)) (ok).loc0 (szF_ok n) (by omega)) ?_;rintro _ η2 ⟨so,rfl,Fo1,q⟩;have ok:=(ok).lift1 q;refine .z .mvU<|.z .ex<|.z .ex<|.z .asP<|.z .asI<|.nil ?_;refine .seq<|.seq<|.r<|.z .mvP<|.z (.pEqS T.pt27)<|.z .mvB<|.z .mvI<|.z .neq<|.z .pkf<|.z .mvB<|.z .mvP<|.c' 31 .func (ansE (ci:=0) (sBegin_any (G:=(nG (decide ((((n%2):Nat):Int)=1)))) (w:=(newS (szF n))) (ok).loc0) op_begin rfl) ?_;rintro _ η3 ⟨Fb1,rfl,q⟩;have ok:=(ok).lift1 q;refine .z .neq<|.z .pkf<|.z .mvB<|.z .mvP<|.z .mvI<|.z (.bd #[.int .i64 (((szF n):Nat):Int),.int .i64 1,.int .i64 0,.int .i64 0,.int .i64 0,.int .i64 0] T.zr38 T.pl38 rfl)<|.c' 38 .func (ansE (ci:=0) (sSetHead_any (G:=(nG (decide ((((n%2):Nat):Int)=1)))) (w:=(opB (szF n))) (H:=(⟨(((szF n):Nat):Int),1,0,0,0,0⟩:Hd)) (ok).loc0 (hd1_in (szF_ok n))) (op_head (szF_ok n)) rfl) ?_;rintro _ η4 ⟨Fs1,rfl,q⟩;have ok:=(ok).lift1 q;refine .z .neq<|.z .pkf<|.nil ?_;refine .cf<|.skip<|.seq<|.r<|.z .mvP<|.z .asP<|.nil ?_;refine .ret ⟨.pointer (some ⟨so,0,none⟩),Res.one rfl rfl,⟨so,Fs1,rfl,(ok).k1⟩⟩
theorem bytes17_any {h:Heap} {n fr:Nat} (hn:n≤1000000) (hf:fr≤1000000) :
  HC Tryz.prog 57 #[.int .i64 (n:Int),.int .i64 (fr:Int)] h (fun v h'=>Own h h' 1 5 v ((bytN n fr).map bv)):=by
 have ok:=Hp.nil h none_;refine HC.go Tryz.func57 21 ?_;refine .seq<|.r<|.z .asS<|.nil ?_;refine .seq<|.r<|.z .asS<|?_;have ok:=ok.nilC (k:=1) (e:=5);refine .nil ?_;refine .seq<|.seq<|.r<|.z .asI<|.nil ?_;refine .block fun K0 hK0=>.loop (fun m s hh=>∃(i:Nat) (a5:Option Addr) (c5:Nat),Has s [(0,.int .i64 (n:Int)),(1,.int .i64 (fr:Int)),(5,.slice a5 ((bytN i fr).length) c5),(6,.int .i64 (i:Int))]∧Hp h none_ [capI 1 5 (a5,(bytN i fr).length,c5) ((bytN i fr).map bv)] [] hh∧i≤n∧m=n-i) ?_ ?_
 ·exact ⟨_,0,none,0,⟨rfl,rfl,rfl,rfl,trivial⟩,(ok).k1,Nat.zero_le _,rfl⟩
 rintro _ _ η1 ⟨i,a5,c5,hs,ok,hi,rfl⟩ J0 hJ0;refine .frame hs fun τ=>?_;refine .seq<|.seq<|.r<|.z .mvI<|.z .mvI<|.z .lss<|.nil ?_;refine .cdr (fun C0=>?_) (fun C0=>?_)
 ·
  refine .exit<|hK0 _ _<|.seq<|.r<|.z .mvS<|.z .asS<|.nil ?_;refine .ret ⟨.slice a5 ((bytN i fr).length) c5,Res.one rfl rfl,(by rw [show n=i by omega];exact (ok).toOwn)⟩
 refine .skip<|.seq<|.block fun K1 hK1=>.r<|.z .mvS<|.z .mvI<|.z .mvI<|.z (.mulI (b:=7))<|.z .addI<|.z (.cvm T.in5 T.in3 (M:=256) rfl rfl)<|.a' 18 (.lit [.tmp 17] (cs:=[.int .u8 ((((fr+(i*7))%256):Nat):Int)]) T.el44 T.sz5 T.zr5 ok ⟨rfl,trivial⟩) ?_;rintro _ η2 ⟨pb1,rfl,ok,xe⟩;refine .a' 19 (.app (news:=[.int .u8 ((((fr+(i*7))%256):Nat):Int)]) T.el44 T.sz5 T.by5 T.zr5 ok.n1 (ok.n1.m1).sl (oneL rfl) (by simp only [List.length_map,List.length_cons,List.length_nil,bytN_len];omega)) ?_;rintro _ η3 ⟨ya1,yn1,yc1,rfl,ok,ap⟩;have ok:=ok.cx (ys:=(bytN (i+1) fr).map bv) (by rw [bytN_s,List.map_append];simp [bv]);obtain rfl:yn1=(bytN (i+1) fr).length:=ok.lenB;refine .z .asS<|.nil ?_;refine .end<|hK1 _ _<|.r<|.z .mvI<|.z (.addI (b:=1))<|.z .asI<|.nil ?_;refine .end<|hJ0 _ _ _ ⟨i+1,ya1,yc1,⟨rfl,rfl,rfl,rfl,trivial⟩,(ok).k1,by omega,rfl⟩ (by omega)
theorem spPutNil_any {h:Heap} {ba:Option Addr} {n c:Nat} :
  HC Tryz.prog 56 #[.pointer none,.slice ba n c] h (fun v h'=>v=.tuple #[.int .i64 0,.int .i64 2]∧h'=h):=by
 refine HC.go Tryz.func56 96 ?_;refine .seq<|.r<|.z .asI<|.z .asI<|.nil ?_;refine .seq<|.block fun K0 hK0=>.seq<|.r<|.z .mvP<|.z (.pEqN T.pt27)<|.z .asB<|.nil ?_;refine .ct<|.seq<|.r<|.z .asI<|.z .asI<|.nil ?_;refine .ret ⟨.tuple #[.int .i64 0,.int .i64 2],Res.two rfl rfl rfl,⟨rfl,rfl⟩⟩
theorem flistS {G:Pgr} {h:Heap} {so:Nat} {F:Nat→Prop} {w:St} {l:List Int} (ok:Hp h F [dsI G so F w] [] h) (e:frAll w=some l) :
  HC Tryz.prog 17 #[.pointer (some ⟨so,0,none⟩)] h (fun v h'=>∃(F':Nat→Prop) (x:Option Addr) (c:Nat) (S:List Int),S.Perm l∧S.Pairwise (·≤·)∧v=.tuple #[.slice x S.length c,.int .i64 0]∧Hp h F [capI 1 3 (x,S.length,c) (S.map iv),dsI G so F' w] [] h'):=
 (flist_any ok).mono fun v h' ⟨F',x,c,S,h1,h2,h3,h4⟩=>⟨F',x,c,S,by rw [(frL_s e).1] at h1;exact h1,h2,by rw [h3,(frL_s e).2];rfl,h4⟩
theorem op_fs {z j:Nat} (hz:okSz z=true) (hj:j≤100):FrS (opV z j) []:=by
 have hzc:=okSz_c hz;have hm:(j+1)*z≤16777216:=Nat.le_trans (Nat.mul_le_mul (show j+1≤102 by omega) (show z≤4096 by omega)) (by decide);refine ⟨hz,fun b hb=>?_,by show (opL z j).length*z≤_;rw [opL_len];exact hm,rfl,by simp [opV,opL],?_,rfl,Met.nil⟩
 ·rcases List.mem_cons.1 hb with rfl | hb
  ·exact pg1_len hz
  ·obtain ⟨i,_,rfl⟩:=List.mem_map.1 hb;exact pageG_len
 ·unfold St.head;rw [show (opV z j).pgs=opL z j from rfl,if_neg (by simp [opL])];rw [show (opL z j).headD []=pg1 z (hd1 z) from rfl];unfold pg1;rw [dec_enc (chk_hd1 hz)];show Hd.mk _ _ _ _ _ _=Hd.mk _ _ _ _ _ _;rfl
theorem FrS.wro {w:St} {T:Trk} (f:FrS w T) {k:Int} {b:List UInt8} (h1:2≤k) (h2:k≤(w.now.length:Int)) (hb:b.length=w.z) (hk:∀t∈T,t.1≠k):FrS { w with now:=w.now.set (k-1).toNat b } T:=by
 refine ⟨f.z,set_len f.len hb,by simpa using f.mul,f.i,by simp [f.n],?_,?_,by simpa using f.mt⟩
 ·have:=f.head' (P:=w.now.set (k-1).toNat b) (set_head (by omega)) (by simp [f.n]);simpa using this
 ·refine Tr.congr (fun t ht=>?_) f.tr;have h3:=f.mt.rg t.1 (mem_flat ht);have h4:=hk t ht;exact pageAt_set (by omega) (by omega)
theorem rd_fix {n:Nat} {l:List UInt8} (h:n<4294967296):rdN (fixedN n 4++l) 0 4=n:=by
 have:=rdN_app (x:=[]) (y:=fixedN n 4) (z:=l) (k:=4) (fixedN_len _ _);simp only [List.nil_append,List.length_nil] at this;rw [this,beN_fixed (by simpa using h)]
theorem parts2 {l:List UInt8} {n:Nat} (h1:n<l.length) (h2:l.length≤2*n) (h3:1≤n):parts l n=[l.take n,l.drop n]:=by
 have e:l.length+1=(l.length-2+1+1)+1:=by omega
 unfold parts;rw [e,ck_step (by omega),ck_step (by omega),ck_end (by omega)];show [(ckP none l n 0).l,(ckP none l n (0+n)).l]=_;have a:(ckP none l n 0).l=l.take n:=by unfold ckP;simp only [List.drop_zero,Nat.sub_zero];rw [Nat.min_eq_left (by omega)]
 have b:(ckP none l n (0+n)).l=l.drop n:=by unfold ckP;simp only [Nat.zero_add];exact List.take_of_length_le (by rw [List.length_drop];omega)
 rw [a,b]
theorem chR_2 {w:St} {n:Nat} {b2 b3 p0 p1:List UInt8} {r1:List UInt8} (hN:w.pgs.length=3) (e2:w.pgs.getD 1 []=b2) (e3:w.pgs.getD 2 []=b3) (h2:b2=fixedN 3 4++p0) (h3:b3=fixedN 0 4++(p1++r1)) (hp0:p0.length=252) (hp1:p1.length=1) (hr:r1.length=251) :
  chR w 2 253=(([2,3],p0++p1,false),0)∧(chR w 2 252).1.2.2=true:=by
 have d2:b2.drop 4=p0:=by rw [h2,List.drop_left' (fixedN_len _ _)]
 have d3:b3.drop 4=p1++r1:=by rw [h3,List.drop_left' (fixedN_len _ _)]
 have l2:b2.length=256:=by rw [h2];simp [fixedN_len,hp0]
 have l3:b3.length=256:=by rw [h3];simp [fixedN_len,hp1,hr]
 have n2:rdN b2 0 4=3:=by rw [h2];exact rd_fix (by decide)
 have n3:rdN b3 0 4=0:=by rw [h3];exact rd_fix (by decide)
 have g1:∀n,252≤n→chGo n ([],[],false) 2 b2=([2],p0,false):=fun n hn=>by
  rw [chg_go (show ¬n≤([]:List UInt8).length by simp;omega),d2];have:chK n [] b2=252:=by unfold chK;rw [l2];simp;omega
  rw [this,List.take_of_length_le (by omega)];rfl
 have v1:∀n,252≤n→chLv n ([2],p0,false)=true:=fun n hn=>by unfold chLv;simp [hp0];omega
 have s1:∀n,252≤n→lkGo w (chGo n) (chLv n) (w.pgs.length+1) 2 [] ([],[],false)=lkGo w (chGo n) (chLv n) 3 3 [2] ([2],p0,false):=fun n hn=>by
  rw [hN,lk_go (by decide) (by rw [hN];simp) (by rw [show ((2:Int)-1).toNat=1 from rfl,e2,g1 n hn];exact v1 n hn),show ((2:Int)-1).toNat=1 from rfl,e2,g1 n hn,n2];rfl
 constructor
 ·unfold chR;rw [s1 253 (by decide)];have g2:chGo 253 ([2],p0,false) 3 b3=([2,3],p0++p1,false):=by
   rw [chg_go (show ¬253≤p0.length by omega),d3];have:chK 253 p0 b3=1:=by unfold chK;rw [l3,hp0];rfl
   rw [this,List.take_left' hp1];rfl
  rw [lk_go (by decide) (by rw [hN];simp) (by rw [show ((3:Int)-1).toNat=2 from rfl,e3,g2];unfold chLv;simp [hp0,hp1]),show ((3:Int)-1).toNat=2 from rfl,e3,g2,n3];exact lk_0
 ·unfold chR;rw [s1 252 (by decide)];have g2:chGo 252 ([2],p0,false) 3 b3=([2],p0,true):=chg_stop (by omega);rw [lk_stop (by decide) (by rw [hN];simp) (by rw [show ((3:Int)-1).toNat=2 from rfl,e3,g2];rfl),show ((3:Int)-1).toNat=2 from rfl,e3,g2]
theorem sp_plain {b:List UInt8} (hb:b.length=253):∃w4 w6,putF (opV 256 0) b=(w4,2,0)∧chF w4 2 253=([2,3],b,0)∧chF w4 2 252=([],[],14)∧chF w4 2 0=([],[],1)∧putF w4 []=(w4,0,0)∧dropF w4 2 253=(w6,0)∧frAll w6=some [2,3]:=by
 have f0:FrS (opV 256 0) []:=op_fs (by decide) (by decide);have l0:(opV 256 0).now.length=1:=rfl;have z0:(opV 256 0).z=256:=rfl;obtain ⟨w1,t1,f1,z1,l1,_⟩:=f0.take_n (by rw [l0,z0];decide);rw [l0] at t1 l1;rw [z0] at z1;obtain ⟨w2,t2,f2,z2,l2,_⟩:=f1.take_n (by rw [l1,z1];decide);rw [l1] at t2 l2;rw [z1] at z2;have hP:parts b 252=[b.take 252,b.drop 252]:=parts2 (by omega) (by omega) (by decide);have hp0:(b.take 252).length=252:=by rw [List.length_take];omega
 have hp1:(b.drop 252).length=1:=by rw [List.length_drop];omega
 have hT:takeA (opV 256 0) [] 2=(w2,[2,3],0):=by
  rw [takeA_s (by rw [t1];exact fun h=>h rfl),t1,takeA_s (by rw [t2];exact fun h=>h rfl),t2];rfl
 generalize hb2:fixedN 3 4++b.take 252=b2;generalize hb3:fixedN 0 4++(b.drop 252++List.replicate 251 0)=b3;have e2:putPg 256 [2,3] [b.take 252,b.drop 252] 0=b2:=by
  rw [←hb2];unfold putPg;show fixedN 3 4++(b.take 252++List.replicate (256-4-(b.take 252).length) 0)=_;rw [hp0,show 256-4-252=0 from rfl,List.replicate_zero,List.append_nil]
 have e3:putPg 256 [2,3] [b.take 252,b.drop 252] 1=b3:=by
  rw [←hb3];unfold putPg;show fixedN 0 4++(b.drop 252++List.replicate (256-4-(b.drop 252).length) 0)=_;rw [hp1]
 have hl2:b2.length=256:=by rw [←hb2];simp [fixedN_len];omega
 have hl3:b3.length=256:=by rw [←hb3,List.length_append,List.length_append,fixedN_len,hp1,List.length_replicate]
 have k1:=f2.wr (k:=2) (b:=b2) (by decide) (by rw [l2];decide) (by rw [hl2,z2]);have f3:=f2.wro (k:=2) (b:=b2) (by decide) (by rw [l2];decide) (by rw [hl2,z2]) (by simp);generalize hw3:({ w2 with now:=w2.now.set ((2:Int)-1).toNat b2 } : St)=w3 at k1 f3;have l3:w3.now.length=3:=by rw [←hw3];simp [l2]
 have z3:w3.z=256:=by rw [←hw3];exact z2
 have k2:=f3.wr (k:=3) (b:=b3) (by decide) (by rw [l3];decide) (by rw [hl3,z3]);have f4:=f3.wro (k:=3) (b:=b3) (by decide) (by rw [l3];decide) (by rw [hl3,z3]) (by simp);generalize hw4:({ w3 with now:=w3.now.set ((3:Int)-1).toNat b3 } : St)=w4 at k2 f4;have l4:w4.now.length=3:=by rw [←hw4];simp [l3]
 have hg2:w4.pgs.getD 1 []=b2:=by
  rw [f4.pgs];show pageAt w4.now 2=b2;rw [←hw4];show pageAt (w3.now.set _ _) 2=b2;rw [pageAt_set (by decide) (by decide),←hw3];exact pageAt_eq (by decide) (by rw [l2];decide)
 have hg3:w4.pgs.getD 2 []=b3:=by
  rw [f4.pgs];show pageAt w4.now 3=b3;rw [←hw4];exact pageAt_eq (by decide) (by rw [l3];decide)
 have hN:w4.pgs.length=3:=by rw [f4.pgs,l4]
 obtain ⟨c1,c2⟩:=chR_2 (n:=253) hN hg2 hg3 hb2.symm hb3.symm hp0 hp1 List.length_replicate;rw [List.take_append_drop] at c1;have hpb:parts b ((opV 256 0).z-4)=[b.take 252,b.drop 252]:=hP;have hin:(opV 256 0).in_=true:=rfl;have i4:w4.in_=true:=f4.i;have hwr:wrA 256 [2,3] [b.take 252,b.drop 252] 2 0 w2=(w4,0):=by
  rw [wrA_s (no:=2) rfl (by rw [e2,k1];exact fun h=>h rfl),e2,k1,wrA_s (no:=3) rfl (by rw [e3,k2];exact fun h=>h rfl),e3,k2];rfl
 have d1:chF w4 2 253=([2,3],b,0):=by
  have:=chF_0 (w:=w4) (first:=2) (n:=253) (by decide) (by rw [c1]) (by rw [c1]) (by rw [c1];simp [hb]);rw [c1] at this;exact this
 have g1:=f4.give_b (no:=2) (by decide) (by rw [l4];decide) (by simp [flatT]) (by rintro ⟨h,_⟩;exact h rfl);generalize hw5:upP w4 _ _=w5 at g1;have l5:w5.now.length=3:=by rw [←hw5,upP_len,List.length_set];exact l4
 have z5:w5.z=256:=by rw [←hw5,←hw4];exact z3
 have g2:=g1.2.give_a (no:=3) (by decide) (by rw [l5];decide) (by simp [flatT]) (by rw [z5];decide);generalize hw6:upP w5 _ _=w6 at g2;refine ⟨w4,w6,?_,d1,?_,?_,?_,?_,g2.2.all⟩
 ·exact putF_0 (w:=opV 256 0) hin (by omega) (w2:=w2) (pl:=[2,3]) (by rw [hpb];exact hT) (by rw [hpb];exact hwr)
 ·exact chF_s (n:=252) (by decide) c2
 ·exact chF_1 (by decide)
 ·have hp:parts [] (w4.z-4)=[]:=rfl;exact putF_0 (w:=w4) (w2:=w4) (w3:=w4) (pl:=[]) i4 (by decide) (by rw [hp];rfl) (by rw [hp];rfl)
 ·rw [dropF_l i4 (by rw [d1]),d1];have hg:giveL w4 [2,3]=(w6,0):=by
   have q1:=giveL_s (w:=w4) (l:=[2,3]) (i:=0) (by decide) (by show ¬(giveF w4 2).2≠0;rw [g1.1];exact fun h=>h rfl);have q2:=giveL_s (w:=w5) (l:=[2,3]) (i:=1) (by decide) (by show ¬(giveF w5 3).2≠0;rw [g2.1];exact fun h=>h rfl);rw [List.drop_zero] at q1;rw [q1,show (giveF w4 ([2,3]:List Int)[0]).1=w5 by show (giveF w4 2).1=w5;rw [g1.1],q2,show (giveF w5 ([2,3]:List Int)[1]).1=w6 by show (giveF w5 3).1=w6;rw [g2.1]];rfl
  rw [hg];rfl
attribute [local irreducible] bytN
theorem fresh0 {h:Heap} : HC Tryz.prog 27 #[.int .u8 0] h (fun v h'=>∃so F,v=.pointer (some ⟨so,0,none⟩)∧Hp h none_ [dsI (nG false) so F (opV 256 0)] [] h'):=fresh17_any (n:=0) (by decide)
theorem spPutE {G:Pgr} {h:Heap} {so bc:Nat} {F F2 E2:Nat→Prop} {w w2:St} {ba:Option Addr} {bl:List UInt8} {n:Int} {c:Nat} {ci:Int} (ok:Hp h F [dsI G so F w] [rdI F2 E2 (ba,bl.length,bc) bl] h) (e:putF w bl=(w2,n,c)) (hc:(c:Int)=ci) :
  HC Tryz.prog 56 #[.pointer (some ⟨so,0,none⟩),.slice ba bl.length bc] h (fun v h'=>∃F',v=.tuple #[.int .i64 n,.int .i64 ci]∧Hp h F [dsI G so F' w2] [] h'):=by
 have q:=spPut_any ok;rw [e] at q;subst hc;exact q
theorem spGetE {G:Pgr} {h:Heap} {so:Nat} {F:Nat→Prop} {w:St} {first n:Int} {pl:List Int} {ol:List UInt8} {c:Int} (ok:Hp h F [dsI G so F w] [] h) (hf:i64N first) (hn:i64N n) (e:chF w first n=(pl,ol,c)) :
  HC Tryz.prog 32 #[.pointer (some ⟨so,0,none⟩),.int .i64 first,.int .i64 n] h (fun v h'=>∃F' x c',v=.tuple #[.slice x ol.length c',.int .i64 c]∧Hp h F [capI 1 5 (x,ol.length,c') (ol.map bv),dsI G so F' w] [] h'):=by
 have q:=spGet_any ok hf hn;rw [e] at q;exact q
theorem spPagesE {G:Pgr} {h:Heap} {so:Nat} {F:Nat→Prop} {w:St} {first n:Int} {pl:List Int} {ol:List UInt8} {c:Int} (ok:Hp h F [dsI G so F w] [] h) (hf:i64N first) (hn:i64N n) (e:chF w first n=(pl,ol,c)) :
  HC Tryz.prog 33 #[.pointer (some ⟨so,0,none⟩),.int .i64 first,.int .i64 n] h (fun v h'=>∃F' x c',v=.tuple #[.slice x pl.length c',.int .i64 c]∧Hp h F [capI 1 3 (x,pl.length,c') (pl.map iv),dsI G so F' w] [] h'):=by
 have q:=spPages_any ok hf hn;rw [e] at q;exact q
theorem spDropE {G:Pgr} {h:Heap} {so:Nat} {F:Nat→Prop} {w w2:St} {first n c:Int} (ok:Hp h F [dsI G so F w] [] h) (hf:i64N first) (hn:i64N n) (e:dropF w first n=(w2,c)) :
  HC Tryz.prog 59 #[.pointer (some ⟨so,0,none⟩),.int .i64 first,.int .i64 n] h (fun v h'=>∃F',v=.int .i64 c∧Hp h F [dsI G so F' w2] [] h'):=by
 have q:=spDrop_any ok hf hn;rw [e] at q;exact q
theorem spLoc28 {h:Heap} : HC Tryz.prog 25 #[.int .i64 100,.int .i64 256] h (fun v h'=>v=.int .i64 28∧h'=h):=spLocal_any (total:=100) (size:=256) ⟨by decide,by decide⟩ ⟨by decide,by decide⟩
theorem spLoc20 {h:Heap} : HC Tryz.prog 25 #[.int .i64 20,.int .i64 256] h (fun v h'=>v=.int .i64 20∧h'=h):=spLocal_any (total:=20) (size:=256) ⟨by decide,by decide⟩ ⟨by decide,by decide⟩
theorem live17_any {h:Heap} :
  HC Tryz.prog 24 #[] h (fun v h'=>v=.bool true∧Ext h h'):=by
 have ok:=Hp.nil h none_;obtain ⟨w4,w6,g1,g2,g3,g4,g5,g6,g7⟩:=sp_plain (b:=bytN 253 3) bytN_len;refine HC.go Tryz.func24 133 ?_;refine .seq<|.r<|.z .asB<|.nil ?_;refine .seq<|.r<|.c' 20 .func fresh0 ?_;rintro _ η1 ⟨so,Fs1,rfl,q⟩;have ok:=Hp.addM15 ok q;refine .z .asP<|.nil ?_;refine .seq<|.seq<|.r<|.z .mvP<|.z (.pEqS T.pt27)<|.nil ?_;refine .cf<|.skip<|.seq<|.r<|.c' 23 .func (bytes17_any (n:=253) (fr:=3) (by decide) (by decide)) ?_;rintro _ η2 own;obtain ⟨ya1,yc1,rfl⟩:=own.formB;have ok:=ok.own own;refine .z .asS<|.nil ?_;refine .seq<|?_;have ok:=(ok).frzB (l:=bytN 253 3) rfl;refine .r<|.z .mvP<|.z .mvS<|.c' 27 .func (spPutE (G:=(nG false)) (w:=(opV 256 0)) (bl:=(bytN 253 3)) (n:=2) (ci:=0) (ok).loc1 g1 rfl) ?_;rintro _ η3 ⟨Fp1,rfl,q⟩;have ok:=(ok).lift1 q;refine .z .mvU<|.z .ex<|.z .ex<|.z .asI<|.z .asI<|.nil ?_;refine .seq<|.r<|.z .mvP<|.z .mvI<|.c' 33 .func (spGetE (G:=(nG false)) (w:=w4) (first:=2) (n:=253) (ok).loc0 ⟨by decide,by decide⟩ ⟨by decide,by decide⟩ g2) ?_;rintro _ η4 ⟨Fg1,xg1,cg1,rfl,q⟩;have ok:=(ok).lift2 q;refine .z .mvU<|.z .ex<|.z .ex<|.z .asS<|.z .asI<|.nil ?_;refine .seq<|.r<|.z .mvP<|.z .mvI<|.c' 39 .func (spPagesE (G:=(nG false)) (w:=w4) (first:=2) (n:=253) (ok.n1).loc0 ⟨by decide,by decide⟩ ⟨by decide,by decide⟩ g2) ?_;rintro _ η5 ⟨Fg2,xg2,cg2,rfl,q⟩;have ok:=(ok.n1).lift2 q;refine .z .mvU<|.z .ex<|.z .ex<|.z .asS<|.z .asI<|.nil ?_;refine .seq<|.r<|.z .mvP<|.z .mvI<|.c' 45 .func (spGetE (G:=(nG false)) (w:=w4) (first:=2) (n:=252) (ok.n1).loc0 ⟨by decide,by decide⟩ ⟨by decide,by decide⟩ g3) ?_;rintro _ η6 ⟨Fg3,xg3,cg3,rfl,q⟩;have ok:=(ok.n1).lift2 q;refine .z .mvU<|.z .ex<|.z .ex<|.z .asS<|.z .asI<|.nil ?_;refine .seq<|.r<|.z .mvP<|.z .mvI<|.c' 51 .func (spGetE (G:=(nG false)) (w:=w4) (first:=2) (n:=0) (ok.n1).loc0 ⟨by decide,by decide⟩ ⟨by decide,by decide⟩ g4) ?_;rintro _ η7 ⟨Fg4,xg4,cg4,rfl,q⟩;have ok:=(ok.n1).lift2 q;refine .z .mvU<|.z .ex<|.z .ex<|.z .asS<|.z .asI<|.nil ?_;have ok:=ok.dE (rdI none_ none_ (none,0,0) ([]:List UInt8)) (RdL.nil _ none_ none_) (fun _ f=>f.elim id id);refine .seq<|.r<|.z .mvP<|.c' 56 .func (spPutE (G:=(nG false)) (w:=w4) (bl:=[]) (n:=0) (ci:=0) (ok.n1).loc1 g5 rfl) ?_;rintro _ η8 ⟨Fp2,rfl,q⟩;have ok:=(ok.n1).lift1 q;have ok:=ok.tR;refine .z .mvU<|.z .ex<|.z .ex<|.z .asI<|.z .asI<|.nil ?_;refine .seq<|.r<|.z .mvP<|.z .mvI<|.c' 61 .func (spDropE (G:=(nG false)) (w:=w4) (first:=2) (n:=253) (ok).loc0 ⟨by decide,by decide⟩ ⟨by decide,by decide⟩ g6) ?_;rintro _ η9 ⟨Fp3,rfl,q⟩;have ok:=(ok).lift1 q;refine .z .asI<|.nil ?_;refine .seq<|.r<|.z .mvP<|.c' 64 .func (flistS (G:=(nG false)) (w:=w6) (l:=[2,3]) (ok).loc0 g7) ?_;rintro _ η10 ⟨Fl1,xl1,cl1,Sl1,hpl1,hsl1,rfl,q⟩;have ok:=(ok).lift2 q;refine .z .mvU<|.z .ex<|.z .ex<|.z .asS<|.z .asI<|.nil ?_;refine .seq<|.r<|.z .mvS<|.k 69 .func spPutNil_any<|.z .mvU<|.z .ex<|.z .ex<|.z .asI<|.z .asI<|.nil ?_;refine .seq<|.r<|.z .mvI<|.z .eql<|.z .mvB<|.z .mvI<|.z .eql<|.z .pkt<|.z .mvB<|.z .mvS<|.z .mvS<|.k 81 .func (same_any (a:=xg1) (c:=cg1) (l:=(bytN 253 3)) (b:=ya1) (d:=yc1) (l2:=(bytN 253 3)) (RdL.ofCapB (v:=(xg1,(bytN 253 3).length,cg1)) (l:=(bytN 253 3)) ok.m5) ok.r0)<|.z .pkt<|.z .mvB<|.sd (fun G83=>?_) (fun G83=>?_)
 ·
  refine .z .mvI<|.z .eql<|.z .pkt<|.z .mvB<|.z .mvS<|.z (.len T.el24)<|.z .eql<|.z .pkt<|.z .mvB<|.sd (fun G92=>?_) (fun G92=>?_)
  ·
   refine .z .mvI<|.z .eql<|.z .pkt<|.z .mvB<|.z .mvI<|.z .eql<|.z .pkt<|.z .mvB<|.z .mvI<|.z .eql<|.z .pkt<|.z .mvB<|.z .mvI<|.z .eql<|.z .pkt<|.z .mvB<|.z .mvI<|.z .eql<|.z .pkt<|.z .mvB<|.z .mvI<|.z .eql<|.z .pkt<|.z .mvB<|.z .mvS<|.z (.len T.el24)<|.z .eql<|.z .pkt<|.z .mvB<|.sd (fun G121=>?_) (fun G121=>?_)
   ·
    refine .z .mvI<|.z .eql<|.z .pkt<|.z .mvB<|.k 126 .func spLoc28<|.z .eql<|.z .pkt<|.z .mvB<|.k 130 .func spLoc20<|.z .eql<|.z .pkt<|.z .asB<|.nil ?_;refine .ret ⟨.bool true,Res.one rfl rfl,⟨rfl,ok.chg⟩⟩
   exact absurd (show (Sl1.length:Int)=2 by rw [hpl1.length_eq];rfl) G121
  exact absurd rfl G92
 exact absurd rfl G83
theorem spillLocal_walk {h:Heap} {total size:Int} (hb0:i64N total) (hb1:i64N size) :
  HC Tryz.prog 5 #[.int .i64 total,.int .i64 size] h (fun v h'=>v=.bool true∧Ext h h'):=by
 have ok:=Hp.nil h none_;refine HC.go Tryz.func5 15 ?_;refine .seq<|.r<|.z .asB<|.nil ?_;refine .seq<|.r<|.c' 5 .func live17_any ?_;rintro _ η1 ⟨rfl,hx⟩;have ok:=ok.ext hx;refine .z .mvB<|.z .mvI<|.z .mvI<|.k 9 .func (spLocal_any hb0 hb1)<|.z .mvI<|.z .mvI<|.k 12 .func (local17_any hb0 hb1)<|.z .eql<|.z .pkt<|.z .asB<|.nil ?_;refine .ret ⟨.bool (decide ((localN total size)=(localN total size))),Res.one rfl rfl,⟨by rw [decide_eq_true rfl],ok.chg⟩⟩
end Go.Proofs.YtndlpekckpdncaaGreat
namespace Go.HL
open Go Go.RowKit Go.ChangeShapes Go.WideShapes Go.ChangeAt
theorem Below.of {w w':World} {h':Heap} (a:At (Env.of w) h' w') (x:Ext w.heap h'):Below w.heap.size w w':=
 ⟨a.os,a.tape,a.output,by rw [a.heap];exact x.size,fun k hk=>by rw [a.heap];exact x.same k hk fun f=>f⟩
theorem trodAll_below {H:Type} {enc:TypeId × Value→H} {P:Program} (hl:laidOutB P=true) {W W':World} (hb:Below W.heap.size W W'):∀ {ts:List TypeId} {vs:List Value} {ds:List (DataW H)} {ps:List MemPlace},
  (ts.all fun t=>P.readableRec t && decide (t<P.types.size))=true→(∀x∈ps,x.block<W.heap.size)→DataW.TrodAll enc P W 0 (fun _=>true) true ts vs ds ps→DataW.TrodAll enc P W' 0 (fun b=>decide (b<W.heap.size)) true ts vs ds ps
 | [],[],[],_,_,_,h=>h
 | t::ts,v::vs,d::ds,ps,ht,hp,h=>by
  obtain ⟨p,q,h1,h2,rfl⟩:=h;simp only [List.all_cons,Bool.and_eq_true,decide_eq_true_eq] at ht;exact ⟨p,q,RowKit.Below.trod hl ht.1.1 ht.1.2 h1 hb (fun x hx=>hp x (List.mem_append_left _ hx)),trodAll_below hl hb (by simpa using ht.2) (fun x hx=>hp x (List.mem_append_right _ hx)) h2,rfl⟩
 | [],[],_::_,_,_,_,h=>h.elim
 | [],_::_,_,_,_,_,h=>h.elim
 | _::_,[],_,_,_,_,h=>h.elim
 | _::_,_::_,[],_,_,_,h=>h.elim
theorem law_post {H:Type} {enc:TypeId × Value→H} {P:Program} {f:Func} {s:ChangeSpec} {fresh handsOn:Bool} {W W':World} {args:Array Value} {ds gs:List (DataW H)} {before:List MemPlace} {tb:TypeId}
  (hl:laidOutB P=true) (hW:DataW.Whole enc P f.params.toList s.vars false W args.toList ds gs before) (hv:s.vars=[]) (ht:(f.params.toList.all fun t=>P.readableRec t && decide (t<P.types.size))=true)
  (hr:f.resultTypes = #[tb]) (hb:P.underlying tb=some .bool) (hs:s.fn H ds = { results:=[.lit (.bool true)],args:=ds }) {h':Heap} (a:At (Env.of W) h' W') (x:Ext W.heap h') :
  s.post enc P f false fresh handsOn false W args (.bool true) W':=by
 have bel:=Below.of a x;have hlt:=hW.lt;obtain ⟨p,q,hA,hV,rfl,hfz,hnd⟩:=hW;rw [hv] at hV;cases gs with
 | cons g gs=>exact hV.elim
 | nil=>
  have hq:q=[]:=hV;subst hq;rw [List.append_nil] at *;refine ⟨ds,[],p,[],p,[],⟨p,[],hA,by rw [hv];rfl,by simp,hfz,hnd⟩,?_,?_,?_,bel.frame _,fun h=>by cases h⟩
  ·rw [List.append_nil,hs,hr];exact trodAll_mk1 (shut_bool hb _)
  ·rw [List.append_nil,hs];exact trodAll_below hl bel ht (fun x hx=>hlt x (by simpa using hx)) hA
  ·rw [List.append_nil,hs,hv];rfl
end Go.HL
namespace Go.Proofs.YtndlpekckpdncaaGreat
open Go Go.HL Go.ChangeShapes Go.WideShapes Go.ChangeAt Go.RowKit
theorem own_knob:ownKnob Tryz.prog.godebug=none:=by kernel_rfl
theorem laid_out:laidOutB Tryz.prog=true:=by kernel_rfl
theorem spillLocal_lifted (os:Os) (started:os.Started) (H:Type) (enc:TypeId × Value→H) :
  ReturnsInHanded {} Tryz.checked os 5 .any (Rows.spillLocalSpec.pre6 enc Tryz.prog Tryz.f5 Rows.spillLocalRow.domain false) (Rows.spillLocalSpec.post enc Tryz.prog Tryz.f5 false true false false):=by
 refine returnsInHanded_of_change (C:=Tryz.checked) own_knob started (by kernel_rfl) Tryz.func5
  (ChangeSpec.witness6 (enc:=enc) (C:=Tryz.checked) false ⟨#[],#[.int .i64 0,.int .i64 0],[]⟩ 8 (by kernel_rfl) (by kernel_rfl) (by kernel_rfl) (by kernel_rfl)) ?_
 intro W base args ds gs before hval0 hW hcnd _;have hval:∀(j:Nat) t v,Tryz.f5.params[j]? = some t→args[j]? = some v→Value.okWide Tryz.prog W .any base t v:=hval0;have hW':=hW;obtain ⟨p,q,hA0,hV,rfl,hfz,hnd⟩:=hW;have hA:DataW.TrodAll enc Tryz.prog W 0 (fun _=>true) true Tryz.f5.params.toList args.toList ds p:=hA0;rw [Tryz.params5] at hA hval;obtain ⟨v0,vs0,d0,ds0,p0,q0,hargs,rfl,rfl,h0,r0⟩:=trodAll_cons hA;obtain ⟨v1,vs1,d1,ds1,p1,q1,rfl,rfl,rfl,h1,r1⟩:=trodAll_cons r0;obtain ⟨rfl,rfl,rfl⟩:=trodAll_nil r1;obtain rfl:args = #[v0,v1]:=by cases args;simp_all
 obtain ⟨z0,rfl,_,_,w0⟩:=open_int Tryz.underlying3 (hval 0 3 v0 rfl rfl) h0;have b0 : -9223372036854775808≤z0∧z0≤9223372036854775807:=by simpa [Lit.wf,IntKind.min,IntKind.max,IntKind.signed,IntKind.bits] using w0
 obtain ⟨z1,rfl,_,_,w1⟩:=open_int Tryz.underlying3 (hval 1 3 v1 rfl rfl) h1;have b1 : -9223372036854775808≤z1∧z1≤9223372036854775807:=by simpa [Lit.wf,IntKind.min,IntKind.max,IntKind.signed,IntKind.bits] using w1
 refine (((spillLocal_walk b0 b1)).2 _ W (At.self W)).mono fun e W' ⟨v,h',he,at',hv,hx⟩=>?_;subst he;subst hv;exact ⟨_,rfl,law_post laid_out hW' rfl (by kernel_rfl) rfl Tryz.underlying4 rfl at' hx⟩
theorem spillLocal_holds:Rows.SpillLocalSaid:=
 OpenClaim.holds_of_wide 5 Tryz.f5 rfl rfl rfl rfl rfl rfl rfl ⟨rfl,rfl,rfl,rfl,rfl⟩ rfl rfl rfl rfl rfl (by kernel_rfl) Tryz.func5 (by kernel_rfl)
  (of_decide_eq_true (by kernel_rfl)) (by unfold Func.isWrapper;first | (rw [if_pos (by decide +kernel)];kernel_rfl) | (rw [if_neg (by decide +kernel)];exact ⟨rfl,rfl⟩))
  (fun os started H enc _=>spillLocal_lifted os started H enc)
end Go.Proofs.YtndlpekckpdncaaGreat
