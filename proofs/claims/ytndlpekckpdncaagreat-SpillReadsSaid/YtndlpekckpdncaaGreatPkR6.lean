/- A store with so many pages, in a transaction, and the document's beside it. Conditions: the size and the room may be. A fresh store, bytes of a number, and the document's Local. Conditions: few. The chapter's first example of the free list. Conditions: none. The chapter's first example of chains, in plain terms. Conditions: none. The chapter's first example of chains. Conditions: none. Pages that are read, as rows of bytes. Conditions: none. What pages say of a chain, by the document; all pages of a store; whole numbers that are the same. Conditions: the store is in order. What any pages say of a chain. Conditions: the arguments are readable. How a law whose call returns true and turns nothing old closes its row. Conditions: those that each fact names. How arguments that come in read: types opened one by one. Conditions: those that each fact names. The law SpillReads at arguments as they come in. Conditions: they are readable. -/
import Derived.Test.YtndlpekckpdncaaGreatPkR5
import Derived.ProofKit
import Derived.OpenShut
import Derived.Below
import Derived.Carry
import Derived.Deep.Slices
import Derived.ChangeArms
import Derived.ChangeMaps5
set_option maxRecDepth 100000
set_option maxHeartbeats 2000000
set_option linter.all false
namespace Go.HL
open Go Go.Proofs.YtndlpekckpdncaaGreat
theorem Hp.addM15 {h0 h h':Heap} {D:Nat→Prop} {M R:List Itm} {a:Itm} (ok:Hp h0 D M R h) (q:Hp h none_ [a] [] h'):Hp h0 D (a::M) R h':=
 ok.newM q.chg a q.m0 fun j hj=>by
  have h1:=(q.m a List.mem_cons_self).2 j hj;exact ⟨h1.2.elim (fun f=>f.elim) id,h1.1⟩
end Go.HL
namespace Go.Proofs.YtndlpekckpdncaaGreat
open Go Go.HL
section
variable {f:FuncId} {args:Array Value} {h:Heap} {F:Nat→Prop} {G:Pgr} {so c:Nat} {w':St} {ci n:Int}
theorem ansE {x:St × Nat} (q:HC Tryz.prog f args h (fun v h'=>∃F',v=.int .i64 ((x.2:Nat):Int)∧Hp h F [dsI G so F' x.1] [] h')) (e:x=(w',c)) (hc:((c:Nat):Int)=ci):HC Tryz.prog f args h (fun v h'=>∃F',v=.int .i64 ci∧Hp h F [dsI G so F' w'] [] h'):=by subst e hc;exact q
end
def opB (z:Nat):St:=⟨z,[],true,[],[]⟩
def hd1 (z:Nat):Hd:=⟨(z:Int),1,0,0,0,0⟩
def opL (z j:Nat):List (List UInt8):=pg1 z (hd1 z)::(List.range j).map fun i=>pageG z (i+2)
def opV (z j:Nat):St:=⟨z,[],true,opL z j,[]⟩
theorem chk_hd1 {z:Nat} (hz:okSz z=true):ChkP (hd1 z):=by
 have:=okSz_c hz;refine ⟨decide_eq_true (by show (z:Int)=256∨(z:Int)=512∨(z:Int)=1024∨(z:Int)=2048∨(z:Int)=4096;omega),⟨by show (1:Int)≤1;omega,by show (1:Int)≤1048576;omega,by show (z:Int)*1≤16777216;omega⟩,⟨by show (0:Int)≤0;omega,by show (0:Int)<1;omega,fun _=>rfl,fun h=>absurd h (by show ¬(0:Int)<0;omega)⟩,⟨by show (0:Int)≤0;omega,by show (0:Int)≤2147483647;omega⟩,by show (0:Int)≤0;omega,by show (0:Int)≤2147483647;omega⟩
theorem hd1_in {z:Nat} (hz:okSz z=true):HdIn (⟨(z:Int),1,0,0,0,0⟩:Hd):=by
 have:=okSz_c hz;refine ⟨?_,?_,?_,?_,?_,?_⟩<;>(unfold i64N;dsimp only;omega)
theorem op_begin {z:Nat} : St.begin_ (newS z)=(opB z,0):=rfl
theorem op_head {z:Nat} (hz:okSz z=true):St.setHead (opB z) (⟨(z:Int),1,0,0,0,0⟩:Hd)=(opV z 0,0):=
 St.setHead_0 (w:=opB z) (n:=1) rfl (by rintro (h | h | h);exact h (chk_hd1 hz);exact h rfl;exact absurd h (by show ¬(max 1 ((0:Nat):Int)<1);decide)) rfl
theorem opL_len {z j:Nat} : (opL z j).length=j+1:=by simp [opL]
open Go Go.HL
theorem _root_.Go.HL.OpV.shlI {P:Program} {s:Slots} {h:Heap} {d:Option Tmp} {t u ty:TypeId} {x y:Operand} {pos:String} {af:Array Edge} {g:Option (Nat × Bool)} {ky:IntKind} (a b:Nat) (hb:b≤64) (hr:a*2 ^ b≤9223372036854775807) (hx:ev s x=.int .i64 (a:Nat):=by exact rfl) (hy:ev s y=.int ky (b:Nat):=by exact rfl):OpV P ⟨d,.binOp .shl t x y u,ty,pos,af,g⟩ s h (.int .i64 ((a*2 ^ b:Nat):Int)):=fun w _=>by
 have h0:¬((b:Int)<0):=by omega
 have hm:min b IntKind.i64.bits=b:=Nat.min_eq_left hb;have h1:IntKind.wrap .i64 ((a:Int)*2 ^ min b IntKind.i64.bits)=((a*2 ^ b:Nat):Int):=by
  rw [hm];have e:(a:Int)*2 ^ b=((a*2 ^ b:Nat):Int):=by simp
  rw [e];exact IntWalk.i64_in _ (by omega)
 rw [hm] at h1;simp [execOp,hx,hy,V.eqG,binOp,Op.shift,h0];first | simpa using h1 | (rw [hm];simpa using h1)
def szF (n:Nat):Nat:=256*2 ^ (n%3)
theorem szF_ok (n:Nat):okSz (szF n)=true:=by
 unfold szF;have:n%3=0∨n%3=1∨n%3=2:=by omega
 rcases this with h | h | h<;>rw [h]<;>rfl
theorem szF_b (n:Nat):256≤szF n∧szF n≤1024:=by
 unfold szF;have:n%3=0∨n%3=1∨n%3=2:=by omega
 rcases this with h | h | h<;>rw [h]<;>decide
def bytN (n fr:Nat):List UInt8:=(List.range n).map fun i=>UInt8.ofNat ((fr+i*7)%256)
theorem bytN_len {n fr:Nat} : (bytN n fr).length=n:=by simp [bytN]
theorem bytN_s {n fr:Nat} : bytN (n+1) fr=bytN n fr++[UInt8.ofNat ((fr+n*7)%256)]:=by unfold bytN;rw [List.range_succ,List.map_append];rfl
theorem fresh17_any {h:Heap} {n:Nat} (hn:n<256) :
  HC Tryz.prog 27 #[.int .u8 (n:Int)] h (fun v h'=>∃so F,v=.pointer (some ⟨so,0,none⟩)∧Hp h none_ [dsI (nG (decide (((n%2:Nat):Int)=1))) so F (opV (szF n) 0)] [] h'):=by
 have ok:=Hp.nil h none_;have hzb:=szF_b n;refine HC.go Tryz.func27 42 ?_;refine .seq<|.r<|.z .asP<|.nil ?_;refine .seq<|.r<|.z .mvI<|.z (.remn (b:=3))<|.z (.shlI 256 (n%3) (by omega) (by unfold szF at hzb;omega))<|?_;rw [show 256*2 ^ (n%3)=(szF n) from rfl];refine .z .asI<|.nil ?_;refine .seq<|.r<|.c' 10 .func dgnew_any ?_;rintro _ η1 ⟨dnd1,Fnd1,rfl,q⟩;have ok:=Hp.addM15 ok q;refine .z .mvI<|.z .mvI<|.z (.remn (b:=2))<|.z .eql<|.z .mvI<|.z (.remn (b:=7))<|.z (.cvi T.in3 T.in5)<|.z (.addI (b:=1))<|.z (.bd #[.int .i64 (((szF n):Nat):Int),.bool (decide ((((n%2):Nat):Int)=1)),.int .i64 (((n%7)+1:Nat):Int)] T.zr23 T.pl23 rfl)<|.c' 20 .func (sopn_any (z:=(szF n)) (ah:=decide ((((n%2):Nat):Int)=1)) (room:=(((n%7)+1:Nat):Int)) (ok).loc0 (szF_ok n) (by omega)) ?_;rintro _ η2 ⟨so,rfl,Fo1,q⟩;have ok:=(ok).lift1 q;refine .z .mvU<|.z .ex<|.z .ex<|.z .asP<|.z .asI<|.nil ?_;refine .seq<|.seq<|.r<|.z .mvP<|.z (.pEqS T.pt27)<|.z .mvB<|.z .mvI<|.z .neq<|.z .pkf<|.z .mvB<|.z .mvP<|.c' 31 .func (ansE (ci:=0) (sBegin_any (G:=(nG (decide ((((n%2):Nat):Int)=1)))) (w:=(newS (szF n))) (ok).loc0) op_begin rfl) ?_;rintro _ η3 ⟨Fb1,rfl,q⟩;have ok:=(ok).lift1 q;refine .z .neq<|.z .pkf<|.z .mvB<|.z .mvP<|.z .mvI<|.z (.bd #[.int .i64 (((szF n):Nat):Int),.int .i64 1,.int .i64 0,.int .i64 0,.int .i64 0,.int .i64 0] T.zr38 T.pl38 rfl)<|.c' 38 .func (ansE (ci:=0) (sSetHead_any (G:=(nG (decide ((((n%2):Nat):Int)=1)))) (w:=(opB (szF n))) (H:=(⟨(((szF n):Nat):Int),1,0,0,0,0⟩:Hd)) (ok).loc0 (hd1_in (szF_ok n))) (op_head (szF_ok n)) rfl) ?_;rintro _ η4 ⟨Fs1,rfl,q⟩;have ok:=(ok).lift1 q;refine .z .neq<|.z .pkf<|.nil ?_;refine .cf<|.skip<|.seq<|.r<|.z .mvP<|.z .asP<|.nil ?_;refine .ret ⟨.pointer (some ⟨so,0,none⟩),Res.one rfl rfl,⟨so,Fs1,rfl,(ok).k1⟩⟩
theorem bytes17_any {h:Heap} {n fr:Nat} (hn:n≤1000000) (hf:fr≤1000000) :
  HC Tryz.prog 57 #[.int .i64 (n:Int),.int .i64 (fr:Int)] h (fun v h'=>Own h h' 1 5 v ((bytN n fr).map bv)):=by
 have ok:=Hp.nil h none_;refine HC.go Tryz.func57 21 ?_;refine .seq<|.r<|.z .asS<|.nil ?_;refine .seq<|.r<|.z .asS<|?_;have ok:=ok.nilC (k:=1) (e:=5);refine .nil ?_;refine .seq<|.seq<|.r<|.z .asI<|.nil ?_;refine .block fun K0 hK0=>.loop (fun m s hh=>∃(i:Nat) (a5:Option Addr) (c5:Nat),Has s [(0,.int .i64 (n:Int)),(1,.int .i64 (fr:Int)),(5,.slice a5 ((bytN i fr).length) c5),(6,.int .i64 (i:Int))]∧Hp h none_ [capI 1 5 (a5,(bytN i fr).length,c5) ((bytN i fr).map bv)] [] hh∧i≤n∧m=n-i) ?_ ?_
 ·exact ⟨_,0,none,0,⟨rfl,rfl,rfl,rfl,trivial⟩,(ok).k1,Nat.zero_le _,rfl⟩
 rintro _ _ η1 ⟨i,a5,c5,hs,ok,hi,rfl⟩ J0 hJ0;refine .frame hs fun τ=>?_;refine .seq<|.seq<|.r<|.z .mvI<|.z .mvI<|.z .lss<|.nil ?_;refine .cdr (fun C0=>?_) (fun C0=>?_)
 ·
  refine .exit<|hK0 _ _<|.seq<|.r<|.z .mvS<|.z .asS<|.nil ?_;refine .ret ⟨.slice a5 ((bytN i fr).length) c5,Res.one rfl rfl,(by rw [show n=i by omega];exact (ok).toOwn)⟩
 refine .skip<|.seq<|.block fun K1 hK1=>.r<|.z .mvS<|.z .mvI<|.z .mvI<|.z (.mulI (b:=7))<|.z .addI<|.z (.cvm T.in5 T.in3 (M:=256) rfl rfl)<|.a' 18 (.lit [.tmp 17] (cs:=[.int .u8 ((((fr+(i*7))%256):Nat):Int)]) T.el44 T.sz5 T.zr5 ok ⟨rfl,trivial⟩) ?_;rintro _ η2 ⟨pb1,rfl,ok,xe⟩;refine .a' 19 (.app (news:=[.int .u8 ((((fr+(i*7))%256):Nat):Int)]) T.el44 T.sz5 T.by5 T.zr5 ok.n1 (ok.n1.m1).sl (oneL rfl) (by simp only [List.length_map,List.length_cons,List.length_nil,bytN_len];omega)) ?_;rintro _ η3 ⟨ya1,yn1,yc1,rfl,ok,ap⟩;have ok:=ok.cx (ys:=(bytN (i+1) fr).map bv) (by rw [bytN_s,List.map_append];simp [bv]);obtain rfl:yn1=(bytN (i+1) fr).length:=ok.lenB;refine .z .asS<|.nil ?_;refine .end<|hK1 _ _<|.r<|.z .mvI<|.z (.addI (b:=1))<|.z .asI<|.nil ?_;refine .end<|hJ0 _ _ _ ⟨i+1,ya1,yc1,⟨rfl,rfl,rfl,rfl,trivial⟩,(ok).k1,by omega,rfl⟩ (by omega)
theorem spPutNil_any {h:Heap} {ba:Option Addr} {n c:Nat} :
  HC Tryz.prog 56 #[.pointer none,.slice ba n c] h (fun v h'=>v=.tuple #[.int .i64 0,.int .i64 2]∧h'=h):=by
 refine HC.go Tryz.func56 96 ?_;refine .seq<|.r<|.z .asI<|.z .asI<|.nil ?_;refine .seq<|.block fun K0 hK0=>.seq<|.r<|.z .mvP<|.z (.pEqN T.pt27)<|.z .asB<|.nil ?_;refine .ct<|.seq<|.r<|.z .asI<|.z .asI<|.nil ?_;refine .ret ⟨.tuple #[.int .i64 0,.int .i64 2],Res.two rfl rfl rfl,⟨rfl,rfl⟩⟩
theorem flistS {G:Pgr} {h:Heap} {so:Nat} {F:Nat→Prop} {w:St} {l:List Int} (ok:Hp h F [dsI G so F w] [] h) (e:frAll w=some l) :
  HC Tryz.prog 17 #[.pointer (some ⟨so,0,none⟩)] h (fun v h'=>∃(F':Nat→Prop) (x:Option Addr) (c:Nat) (S:List Int),S.Perm l∧S.Pairwise (·≤·)∧v=.tuple #[.slice x S.length c,.int .i64 0]∧Hp h F [capI 1 3 (x,S.length,c) (S.map iv),dsI G so F' w] [] h'):=
 (flist_any ok).mono fun v h' ⟨F',x,c,S,h1,h2,h3,h4⟩=>⟨F',x,c,S,by rw [(frL_s e).1] at h1;exact h1,h2,by rw [h3,(frL_s e).2];rfl,h4⟩
theorem op_fs {z j:Nat} (hz:okSz z=true) (hj:j≤100):FrS (opV z j) []:=by
 have hzc:=okSz_c hz;have hm:(j+1)*z≤16777216:=Nat.le_trans (Nat.mul_le_mul (show j+1≤102 by omega) (show z≤4096 by omega)) (by decide);refine ⟨hz,fun b hb=>?_,by show (opL z j).length*z≤_;rw [opL_len];exact hm,rfl,by simp [opV,opL],?_,rfl,Met.nil⟩
 ·rcases List.mem_cons.1 hb with rfl | hb
  ·exact pg1_len hz
  ·obtain ⟨i,_,rfl⟩:=List.mem_map.1 hb;exact pageG_len
 ·unfold St.head;rw [show (opV z j).pgs=opL z j from rfl,if_neg (by simp [opL])];rw [show (opL z j).headD []=pg1 z (hd1 z) from rfl];unfold pg1;rw [dec_enc (chk_hd1 hz)];show Hd.mk _ _ _ _ _ _=Hd.mk _ _ _ _ _ _;rfl
theorem FrS.wro {w:St} {T:Trk} (f:FrS w T) {k:Int} {b:List UInt8} (h1:2≤k) (h2:k≤(w.now.length:Int)) (hb:b.length=w.z) (hk:∀t∈T,t.1≠k):FrS { w with now:=w.now.set (k-1).toNat b } T:=by
 refine ⟨f.z,set_len f.len hb,by simpa using f.mul,f.i,by simp [f.n],?_,?_,by simpa using f.mt⟩
 ·have:=f.head' (P:=w.now.set (k-1).toNat b) (set_head (by omega)) (by simp [f.n]);simpa using this
 ·refine Tr.congr (fun t ht=>?_) f.tr;have h3:=f.mt.rg t.1 (mem_flat ht);have h4:=hk t ht;exact pageAt_set (by omega) (by omega)
theorem rd_fix {n:Nat} {l:List UInt8} (h:n<4294967296):rdN (fixedN n 4++l) 0 4=n:=by
 have:=rdN_app (x:=[]) (y:=fixedN n 4) (z:=l) (k:=4) (fixedN_len _ _);simp only [List.nil_append,List.length_nil] at this;rw [this,beN_fixed (by simpa using h)]
theorem parts2 {l:List UInt8} {n:Nat} (h1:n<l.length) (h2:l.length≤2*n) (h3:1≤n):parts l n=[l.take n,l.drop n]:=by
 have e:l.length+1=(l.length-2+1+1)+1:=by omega
 unfold parts;rw [e,ck_step (by omega),ck_step (by omega),ck_end (by omega)];show [(ckP none l n 0).l,(ckP none l n (0+n)).l]=_;have a:(ckP none l n 0).l=l.take n:=by unfold ckP;simp only [List.drop_zero,Nat.sub_zero];rw [Nat.min_eq_left (by omega)]
 have b:(ckP none l n (0+n)).l=l.drop n:=by unfold ckP;simp only [Nat.zero_add];exact List.take_of_length_le (by rw [List.length_drop];omega)
 rw [a,b]
theorem chR_2 {w:St} {n:Nat} {b2 b3 p0 p1:List UInt8} {r1:List UInt8} (hN:w.pgs.length=3) (e2:w.pgs.getD 1 []=b2) (e3:w.pgs.getD 2 []=b3) (h2:b2=fixedN 3 4++p0) (h3:b3=fixedN 0 4++(p1++r1)) (hp0:p0.length=252) (hp1:p1.length=1) (hr:r1.length=251) :
  chR w 2 253=(([2,3],p0++p1,false),0)∧(chR w 2 252).1.2.2=true:=by
 have d2:b2.drop 4=p0:=by rw [h2,List.drop_left' (fixedN_len _ _)]
 have d3:b3.drop 4=p1++r1:=by rw [h3,List.drop_left' (fixedN_len _ _)]
 have l2:b2.length=256:=by rw [h2];simp [fixedN_len,hp0]
 have l3:b3.length=256:=by rw [h3];simp [fixedN_len,hp1,hr]
 have n2:rdN b2 0 4=3:=by rw [h2];exact rd_fix (by decide)
 have n3:rdN b3 0 4=0:=by rw [h3];exact rd_fix (by decide)
 have g1:∀n,252≤n→chGo n ([],[],false) 2 b2=([2],p0,false):=fun n hn=>by
  rw [chg_go (show ¬n≤([]:List UInt8).length by simp;omega),d2];have:chK n [] b2=252:=by unfold chK;rw [l2];simp;omega
  rw [this,List.take_of_length_le (by omega)];rfl
 have v1:∀n,252≤n→chLv n ([2],p0,false)=true:=fun n hn=>by unfold chLv;simp [hp0];omega
 have s1:∀n,252≤n→lkGo w (chGo n) (chLv n) (w.pgs.length+1) 2 [] ([],[],false)=lkGo w (chGo n) (chLv n) 3 3 [2] ([2],p0,false):=fun n hn=>by
  rw [hN,lk_go (by decide) (by rw [hN];simp) (by rw [show ((2:Int)-1).toNat=1 from rfl,e2,g1 n hn];exact v1 n hn),show ((2:Int)-1).toNat=1 from rfl,e2,g1 n hn,n2];rfl
 constructor
 ·unfold chR;rw [s1 253 (by decide)];have g2:chGo 253 ([2],p0,false) 3 b3=([2,3],p0++p1,false):=by
   rw [chg_go (show ¬253≤p0.length by omega),d3];have:chK 253 p0 b3=1:=by unfold chK;rw [l3,hp0];rfl
   rw [this,List.take_left' hp1];rfl
  rw [lk_go (by decide) (by rw [hN];simp) (by rw [show ((3:Int)-1).toNat=2 from rfl,e3,g2];unfold chLv;simp [hp0,hp1]),show ((3:Int)-1).toNat=2 from rfl,e3,g2,n3];exact lk_0
 ·unfold chR;rw [s1 252 (by decide)];have g2:chGo 252 ([2],p0,false) 3 b3=([2],p0,true):=chg_stop (by omega);rw [lk_stop (by decide) (by rw [hN];simp) (by rw [show ((3:Int)-1).toNat=2 from rfl,e3,g2];rfl),show ((3:Int)-1).toNat=2 from rfl,e3,g2]
theorem sp_plain {b:List UInt8} (hb:b.length=253):∃w4 w6,putF (opV 256 0) b=(w4,2,0)∧chF w4 2 253=([2,3],b,0)∧chF w4 2 252=([],[],14)∧chF w4 2 0=([],[],1)∧putF w4 []=(w4,0,0)∧dropF w4 2 253=(w6,0)∧frAll w6=some [2,3]:=by
 have f0:FrS (opV 256 0) []:=op_fs (by decide) (by decide);have l0:(opV 256 0).now.length=1:=rfl;have z0:(opV 256 0).z=256:=rfl;obtain ⟨w1,t1,f1,z1,l1,_⟩:=f0.take_n (by rw [l0,z0];decide);rw [l0] at t1 l1;rw [z0] at z1;obtain ⟨w2,t2,f2,z2,l2,_⟩:=f1.take_n (by rw [l1,z1];decide);rw [l1] at t2 l2;rw [z1] at z2;have hP:parts b 252=[b.take 252,b.drop 252]:=parts2 (by omega) (by omega) (by decide);have hp0:(b.take 252).length=252:=by rw [List.length_take];omega
 have hp1:(b.drop 252).length=1:=by rw [List.length_drop];omega
 have hT:takeA (opV 256 0) [] 2=(w2,[2,3],0):=by
  rw [takeA_s (by rw [t1];exact fun h=>h rfl),t1,takeA_s (by rw [t2];exact fun h=>h rfl),t2];rfl
 generalize hb2:fixedN 3 4++b.take 252=b2;generalize hb3:fixedN 0 4++(b.drop 252++List.replicate 251 0)=b3;have e2:putPg 256 [2,3] [b.take 252,b.drop 252] 0=b2:=by
  rw [←hb2];unfold putPg;show fixedN 3 4++(b.take 252++List.replicate (256-4-(b.take 252).length) 0)=_;rw [hp0,show 256-4-252=0 from rfl,List.replicate_zero,List.append_nil]
 have e3:putPg 256 [2,3] [b.take 252,b.drop 252] 1=b3:=by
  rw [←hb3];unfold putPg;show fixedN 0 4++(b.drop 252++List.replicate (256-4-(b.drop 252).length) 0)=_;rw [hp1]
 have hl2:b2.length=256:=by rw [←hb2];simp [fixedN_len];omega
 have hl3:b3.length=256:=by rw [←hb3,List.length_append,List.length_append,fixedN_len,hp1,List.length_replicate]
 have k1:=f2.wr (k:=2) (b:=b2) (by decide) (by rw [l2];decide) (by rw [hl2,z2]);have f3:=f2.wro (k:=2) (b:=b2) (by decide) (by rw [l2];decide) (by rw [hl2,z2]) (by simp);generalize hw3:({ w2 with now:=w2.now.set ((2:Int)-1).toNat b2 } : St)=w3 at k1 f3;have l3:w3.now.length=3:=by rw [←hw3];simp [l2]
 have z3:w3.z=256:=by rw [←hw3];exact z2
 have k2:=f3.wr (k:=3) (b:=b3) (by decide) (by rw [l3];decide) (by rw [hl3,z3]);have f4:=f3.wro (k:=3) (b:=b3) (by decide) (by rw [l3];decide) (by rw [hl3,z3]) (by simp);generalize hw4:({ w3 with now:=w3.now.set ((3:Int)-1).toNat b3 } : St)=w4 at k2 f4;have l4:w4.now.length=3:=by rw [←hw4];simp [l3]
 have hg2:w4.pgs.getD 1 []=b2:=by
  rw [f4.pgs];show pageAt w4.now 2=b2;rw [←hw4];show pageAt (w3.now.set _ _) 2=b2;rw [pageAt_set (by decide) (by decide),←hw3];exact pageAt_eq (by decide) (by rw [l2];decide)
 have hg3:w4.pgs.getD 2 []=b3:=by
  rw [f4.pgs];show pageAt w4.now 3=b3;rw [←hw4];exact pageAt_eq (by decide) (by rw [l3];decide)
 have hN:w4.pgs.length=3:=by rw [f4.pgs,l4]
 obtain ⟨c1,c2⟩:=chR_2 (n:=253) hN hg2 hg3 hb2.symm hb3.symm hp0 hp1 List.length_replicate;rw [List.take_append_drop] at c1;have hpb:parts b ((opV 256 0).z-4)=[b.take 252,b.drop 252]:=hP;have hin:(opV 256 0).in_=true:=rfl;have i4:w4.in_=true:=f4.i;have hwr:wrA 256 [2,3] [b.take 252,b.drop 252] 2 0 w2=(w4,0):=by
  rw [wrA_s (no:=2) rfl (by rw [e2,k1];exact fun h=>h rfl),e2,k1,wrA_s (no:=3) rfl (by rw [e3,k2];exact fun h=>h rfl),e3,k2];rfl
 have d1:chF w4 2 253=([2,3],b,0):=by
  have:=chF_0 (w:=w4) (first:=2) (n:=253) (by decide) (by rw [c1]) (by rw [c1]) (by rw [c1];simp [hb]);rw [c1] at this;exact this
 have g1:=f4.give_b (no:=2) (by decide) (by rw [l4];decide) (by simp [flatT]) (by rintro ⟨h,_⟩;exact h rfl);generalize hw5:upP w4 _ _=w5 at g1;have l5:w5.now.length=3:=by rw [←hw5,upP_len,List.length_set];exact l4
 have z5:w5.z=256:=by rw [←hw5,←hw4];exact z3
 have g2:=g1.2.give_a (no:=3) (by decide) (by rw [l5];decide) (by simp [flatT]) (by rw [z5];decide);generalize hw6:upP w5 _ _=w6 at g2;refine ⟨w4,w6,?_,d1,?_,?_,?_,?_,g2.2.all⟩
 ·exact putF_0 (w:=opV 256 0) hin (by omega) (w2:=w2) (pl:=[2,3]) (by rw [hpb];exact hT) (by rw [hpb];exact hwr)
 ·exact chF_s (n:=252) (by decide) c2
 ·exact chF_1 (by decide)
 ·have hp:parts [] (w4.z-4)=[]:=rfl;exact putF_0 (w:=w4) (w2:=w4) (w3:=w4) (pl:=[]) i4 (by decide) (by rw [hp];rfl) (by rw [hp];rfl)
 ·rw [dropF_l i4 (by rw [d1]),d1];have hg:giveL w4 [2,3]=(w6,0):=by
   have q1:=giveL_s (w:=w4) (l:=[2,3]) (i:=0) (by decide) (by show ¬(giveF w4 2).2≠0;rw [g1.1];exact fun h=>h rfl);have q2:=giveL_s (w:=w5) (l:=[2,3]) (i:=1) (by decide) (by show ¬(giveF w5 3).2≠0;rw [g2.1];exact fun h=>h rfl);rw [List.drop_zero] at q1;rw [q1,show (giveF w4 ([2,3]:List Int)[0]).1=w5 by show (giveF w4 2).1=w5;rw [g1.1],q2,show (giveF w5 ([2,3]:List Int)[1]).1=w6 by show (giveF w5 3).1=w6;rw [g2.1]];rfl
  rw [hg];rfl
attribute [local irreducible] bytN
theorem fresh0 {h:Heap} : HC Tryz.prog 27 #[.int .u8 0] h (fun v h'=>∃so F,v=.pointer (some ⟨so,0,none⟩)∧Hp h none_ [dsI (nG false) so F (opV 256 0)] [] h'):=fresh17_any (n:=0) (by decide)
theorem spPutE {G:Pgr} {h:Heap} {so bc:Nat} {F F2 E2:Nat→Prop} {w w2:St} {ba:Option Addr} {bl:List UInt8} {n:Int} {c:Nat} {ci:Int} (ok:Hp h F [dsI G so F w] [rdI F2 E2 (ba,bl.length,bc) bl] h) (e:putF w bl=(w2,n,c)) (hc:(c:Int)=ci) :
  HC Tryz.prog 56 #[.pointer (some ⟨so,0,none⟩),.slice ba bl.length bc] h (fun v h'=>∃F',v=.tuple #[.int .i64 n,.int .i64 ci]∧Hp h F [dsI G so F' w2] [] h'):=by
 have q:=spPut_any ok;rw [e] at q;subst hc;exact q
theorem spGetE {G:Pgr} {h:Heap} {so:Nat} {F:Nat→Prop} {w:St} {first n:Int} {pl:List Int} {ol:List UInt8} {c:Int} (ok:Hp h F [dsI G so F w] [] h) (hf:i64N first) (hn:i64N n) (e:chF w first n=(pl,ol,c)) :
  HC Tryz.prog 32 #[.pointer (some ⟨so,0,none⟩),.int .i64 first,.int .i64 n] h (fun v h'=>∃F' x c',v=.tuple #[.slice x ol.length c',.int .i64 c]∧Hp h F [capI 1 5 (x,ol.length,c') (ol.map bv),dsI G so F' w] [] h'):=by
 have q:=spGet_any ok hf hn;rw [e] at q;exact q
theorem spPagesE {G:Pgr} {h:Heap} {so:Nat} {F:Nat→Prop} {w:St} {first n:Int} {pl:List Int} {ol:List UInt8} {c:Int} (ok:Hp h F [dsI G so F w] [] h) (hf:i64N first) (hn:i64N n) (e:chF w first n=(pl,ol,c)) :
  HC Tryz.prog 33 #[.pointer (some ⟨so,0,none⟩),.int .i64 first,.int .i64 n] h (fun v h'=>∃F' x c',v=.tuple #[.slice x pl.length c',.int .i64 c]∧Hp h F [capI 1 3 (x,pl.length,c') (pl.map iv),dsI G so F' w] [] h'):=by
 have q:=spPages_any ok hf hn;rw [e] at q;exact q
theorem spDropE {G:Pgr} {h:Heap} {so:Nat} {F:Nat→Prop} {w w2:St} {first n c:Int} (ok:Hp h F [dsI G so F w] [] h) (hf:i64N first) (hn:i64N n) (e:dropF w first n=(w2,c)) :
  HC Tryz.prog 59 #[.pointer (some ⟨so,0,none⟩),.int .i64 first,.int .i64 n] h (fun v h'=>∃F',v=.int .i64 c∧Hp h F [dsI G so F' w2] [] h'):=by
 have q:=spDrop_any ok hf hn;rw [e] at q;exact q
theorem spLoc28 {h:Heap} : HC Tryz.prog 25 #[.int .i64 100,.int .i64 256] h (fun v h'=>v=.int .i64 28∧h'=h):=spLocal_any (total:=100) (size:=256) ⟨by decide,by decide⟩ ⟨by decide,by decide⟩
theorem spLoc20 {h:Heap} : HC Tryz.prog 25 #[.int .i64 20,.int .i64 256] h (fun v h'=>v=.int .i64 20∧h'=h):=spLocal_any (total:=20) (size:=256) ⟨by decide,by decide⟩ ⟨by decide,by decide⟩
theorem live17_any {h:Heap} :
  HC Tryz.prog 24 #[] h (fun v h'=>v=.bool true∧Ext h h'):=by
 have ok:=Hp.nil h none_;obtain ⟨w4,w6,g1,g2,g3,g4,g5,g6,g7⟩:=sp_plain (b:=bytN 253 3) bytN_len;refine HC.go Tryz.func24 133 ?_;refine .seq<|.r<|.z .asB<|.nil ?_;refine .seq<|.r<|.c' 20 .func fresh0 ?_;rintro _ η1 ⟨so,Fs1,rfl,q⟩;have ok:=Hp.addM15 ok q;refine .z .asP<|.nil ?_;refine .seq<|.seq<|.r<|.z .mvP<|.z (.pEqS T.pt27)<|.nil ?_;refine .cf<|.skip<|.seq<|.r<|.c' 23 .func (bytes17_any (n:=253) (fr:=3) (by decide) (by decide)) ?_;rintro _ η2 own;obtain ⟨ya1,yc1,rfl⟩:=own.formB;have ok:=ok.own own;refine .z .asS<|.nil ?_;refine .seq<|?_;have ok:=(ok).frzB (l:=bytN 253 3) rfl;refine .r<|.z .mvP<|.z .mvS<|.c' 27 .func (spPutE (G:=(nG false)) (w:=(opV 256 0)) (bl:=(bytN 253 3)) (n:=2) (ci:=0) (ok).loc1 g1 rfl) ?_;rintro _ η3 ⟨Fp1,rfl,q⟩;have ok:=(ok).lift1 q;refine .z .mvU<|.z .ex<|.z .ex<|.z .asI<|.z .asI<|.nil ?_;refine .seq<|.r<|.z .mvP<|.z .mvI<|.c' 33 .func (spGetE (G:=(nG false)) (w:=w4) (first:=2) (n:=253) (ok).loc0 ⟨by decide,by decide⟩ ⟨by decide,by decide⟩ g2) ?_;rintro _ η4 ⟨Fg1,xg1,cg1,rfl,q⟩;have ok:=(ok).lift2 q;refine .z .mvU<|.z .ex<|.z .ex<|.z .asS<|.z .asI<|.nil ?_;refine .seq<|.r<|.z .mvP<|.z .mvI<|.c' 39 .func (spPagesE (G:=(nG false)) (w:=w4) (first:=2) (n:=253) (ok.n1).loc0 ⟨by decide,by decide⟩ ⟨by decide,by decide⟩ g2) ?_;rintro _ η5 ⟨Fg2,xg2,cg2,rfl,q⟩;have ok:=(ok.n1).lift2 q;refine .z .mvU<|.z .ex<|.z .ex<|.z .asS<|.z .asI<|.nil ?_;refine .seq<|.r<|.z .mvP<|.z .mvI<|.c' 45 .func (spGetE (G:=(nG false)) (w:=w4) (first:=2) (n:=252) (ok.n1).loc0 ⟨by decide,by decide⟩ ⟨by decide,by decide⟩ g3) ?_;rintro _ η6 ⟨Fg3,xg3,cg3,rfl,q⟩;have ok:=(ok.n1).lift2 q;refine .z .mvU<|.z .ex<|.z .ex<|.z .asS<|.z .asI<|.nil ?_;refine .seq<|.r<|.z .mvP<|.z .mvI<|.c' 51 .func (spGetE (G:=(nG false)) (w:=w4) (first:=2) (n:=0) (ok.n1).loc0 ⟨by decide,by decide⟩ ⟨by decide,by decide⟩ g4) ?_;rintro _ η7 ⟨Fg4,xg4,cg4,rfl,q⟩;have ok:=(ok.n1).lift2 q;refine .z .mvU<|.z .ex<|.z .ex<|.z .asS<|.z .asI<|.nil ?_;have ok:=ok.dE (rdI none_ none_ (none,0,0) ([]:List UInt8)) (RdL.nil _ none_ none_) (fun _ f=>f.elim id id);refine .seq<|.r<|.z .mvP<|.c' 56 .func (spPutE (G:=(nG false)) (w:=w4) (bl:=[]) (n:=0) (ci:=0) (ok.n1).loc1 g5 rfl) ?_;rintro _ η8 ⟨Fp2,rfl,q⟩;have ok:=(ok.n1).lift1 q;have ok:=ok.tR;refine .z .mvU<|.z .ex<|.z .ex<|.z .asI<|.z .asI<|.nil ?_;refine .seq<|.r<|.z .mvP<|.z .mvI<|.c' 61 .func (spDropE (G:=(nG false)) (w:=w4) (first:=2) (n:=253) (ok).loc0 ⟨by decide,by decide⟩ ⟨by decide,by decide⟩ g6) ?_;rintro _ η9 ⟨Fp3,rfl,q⟩;have ok:=(ok).lift1 q;refine .z .asI<|.nil ?_;refine .seq<|.r<|.z .mvP<|.c' 64 .func (flistS (G:=(nG false)) (w:=w6) (l:=[2,3]) (ok).loc0 g7) ?_;rintro _ η10 ⟨Fl1,xl1,cl1,Sl1,hpl1,hsl1,rfl,q⟩;have ok:=(ok).lift2 q;refine .z .mvU<|.z .ex<|.z .ex<|.z .asS<|.z .asI<|.nil ?_;refine .seq<|.r<|.z .mvS<|.k 69 .func spPutNil_any<|.z .mvU<|.z .ex<|.z .ex<|.z .asI<|.z .asI<|.nil ?_;refine .seq<|.r<|.z .mvI<|.z .eql<|.z .mvB<|.z .mvI<|.z .eql<|.z .pkt<|.z .mvB<|.z .mvS<|.z .mvS<|.k 81 .func (same_any (a:=xg1) (c:=cg1) (l:=(bytN 253 3)) (b:=ya1) (d:=yc1) (l2:=(bytN 253 3)) (RdL.ofCapB (v:=(xg1,(bytN 253 3).length,cg1)) (l:=(bytN 253 3)) ok.m5) ok.r0)<|.z .pkt<|.z .mvB<|.sd (fun G83=>?_) (fun G83=>?_)
 ·
  refine .z .mvI<|.z .eql<|.z .pkt<|.z .mvB<|.z .mvS<|.z (.len T.el24)<|.z .eql<|.z .pkt<|.z .mvB<|.sd (fun G92=>?_) (fun G92=>?_)
  ·
   refine .z .mvI<|.z .eql<|.z .pkt<|.z .mvB<|.z .mvI<|.z .eql<|.z .pkt<|.z .mvB<|.z .mvI<|.z .eql<|.z .pkt<|.z .mvB<|.z .mvI<|.z .eql<|.z .pkt<|.z .mvB<|.z .mvI<|.z .eql<|.z .pkt<|.z .mvB<|.z .mvI<|.z .eql<|.z .pkt<|.z .mvB<|.z .mvS<|.z (.len T.el24)<|.z .eql<|.z .pkt<|.z .mvB<|.sd (fun G121=>?_) (fun G121=>?_)
   ·
    refine .z .mvI<|.z .eql<|.z .pkt<|.z .mvB<|.k 126 .func spLoc28<|.z .eql<|.z .pkt<|.z .mvB<|.k 130 .func spLoc20<|.z .eql<|.z .pkt<|.z .asB<|.nil ?_;refine .ret ⟨.bool true,Res.one rfl rfl,⟨rfl,ok.chg⟩⟩
   exact absurd (show (Sl1.length:Int)=2 by rw [hpl1.length_eq];rfl) G121
  exact absurd rfl G92
 exact absurd rfl G83
theorem PgB.rows {h:Heap} {E:Nat→Prop} {x:SV} {l:List RB} (r:PgB h E x l):RdL h E E x (pgs l):=by
 obtain ⟨a,n,c⟩:=x;have hn:n=l.length:=r.n;refine ⟨by rw [pgs_len];exact r.n,r.m.1,r.m.2,fun hp=>?_⟩;rw [pgs_len] at hp;obtain ⟨b,o,rfl,hE⟩:=r.pos (by omega);refine ⟨b,o,rfl,hE,fun i hi=>?_⟩;have hil:i<l.length:=by rwa [pgs_len] at hi
 refine ⟨[.slice l[i].a l[i].l.length l[i].c],⟨(l[i].a,l[i].l.length,l[i].c),rfl,by rw [pgs_at hil];exact r.by' _ (List.getElem_mem hil)⟩,fun j v hj=>?_⟩;have hj0:j=0:=by have:=(List.getElem?_eq_some_iff.1 hj).1;simpa using this
 subst hj0;have:=sl_at1 RB.cells_len r.sl hil (v:=v) hj;simpa [Rep.k] using this
end Go.Proofs.YtndlpekckpdncaaGreat
namespace Go.HL
open Go
theorem Cap.i64 {h:Heap} {e:TypeId} {l:List Int} {b o n c:Nat} (r:Cap h 1 e (.slice (some ⟨b,o,none⟩) n c) (l.map iv)) {i:Nat} (hi:i<l.length):cell h b (o+i)=some (.int .i64 l[i]):=by
 obtain ⟨b',o',he,hc⟩:=r.sl.cells.pos (by have:=r.sl.cells.1;simp at this;omega);injection he with he;injection he with e1 e2;subst e1 e2;exact hc i _ (map_at hi)
theorem Hp.liftE {h0 h h':Heap} {D:Nat→Prop} {M R:List Itm} {a a' x:Itm} (ok:Hp h0 D (a::M) R h) (q:Hp h a.F [a'] [x] h') (hx:∀j,x.F j→a.F j∨h.size≤j):Hp h0 D (a'::M) (x::R) h':=by
 have o:=ok.upd q.chg (fun _ x=>x) a' q.m0 fun j hj=>by
  have h1:=(q.m _ List.mem_cons_self).2 j hj;exact h1.2.imp id fun h=>⟨h,h1.1⟩
 refine ⟨o.chg,o.m,fun i hi=>?_,o.mm,fun m hm z hz j hj hj2=>?_⟩
 ·rcases List.mem_cons.1 hi with rfl | hi
  ·exact q.r _ (by simp)
  ·exact o.r i hi
 ·rcases List.mem_cons.1 hz with rfl | hz
  ·rcases List.mem_cons.1 hm with rfl | hm
   ·exact q.mr _ (by simp) _ (by simp) j hj hj2
   ·rcases hx j hj2 with h1 | h1
    ·exact (List.pairwise_cons.1 ok.mm).1 m hm j h1 hj
    ·have:=((ok.m m (List.mem_cons_of_mem _ hm)).2 j hj).1;omega
  ·exact o.mr m hm z hz j hj hj2
theorem Hp.ownE {h0 h:Heap} {D:Nat→Prop} {M R:List Itm} {a:Itm} (ok:Hp h0 D (a::M) R h):∀j,a.F j→D j∨h0.size≤j:=fun j hj=>((ok.m a List.mem_cons_self).2 j hj).2
theorem OpA.cpM {P:Program} {s:Slots} {h0 h:Heap} {D:Nat→Prop} {M R:List Itm} {d:Option Tmp} {ty:TypeId} {pos:String} {af:Array Edge} {g:Option (Nat × Bool)} {x y:Operand} {t t' e:TypeId} {b o n c:Nat} {a':Option Addr} {m c':Nat} {xs ys:List Value}
  (ht:elB P t=some e) (hk:szB P e=some 1) (ok:Hp h0 D (capI 1 e (some ⟨b,o,none⟩,n,c) xs::M) R h) (hn:Sl h 1 (.slice a' m c') ys) (h1:∀u∈ys,u.oneCell'=true)
  (hx:ev s x=.slice (some ⟨b,o,none⟩) n c:=by exact rfl) (hy:ev s y=.slice a' m c':=by exact rfl) (hc0:c≠0:=by omega) :
  OpA P ⟨d,.call ⟨.builtin .copy,#[x,y],#[t,t']⟩,ty,pos,af,g⟩ s h (fun v h'=>v=.int .i64 ((min m n:Nat):Int)∧Hp h0 D (capI 1 e (some ⟨b,o,none⟩,n,c) (ys.take n++xs.drop ys.length)::M) R h'∧Chg (fun j=>j=b) h h'):=by
 have hl:ys.length=m:=by have:=hn.cells.1;simpa using this
 by_cases hm:m≤n
 ·refine OpA.mk (OpA.cp0 ht hk ok hn h1 hx hy hm) fun v h' q=>?_;rw [Nat.min_eq_left hm,List.take_of_length_le (by omega)];exact q
 intro E w at';have hr0:=hn.cells;have hlt:(ys.take n).length=n:=by rw [List.length_take];omega
 have hlim:0*1+(ys.take n).length≤n*1:=by omega
 have hxl:xs.length=n:=by have:=(Cap.sl ok.m0).cells.1;simpa using this
 obtain ⟨h',w',hcap,hchg,at2,hr⟩:=run_storeAt (P:=P) ok.m0 hlim (fun u hu=>h1 u (List.mem_of_mem_take hu)) at';have e:spl xs (0*1) (ys.take n)=ys.take n++xs.drop ys.length:=by
  rw [List.drop_eq_nil_of_le (by omega:xs.length≤ys.length)];simp [spl,hlt,List.drop_eq_nil_of_le (Nat.le_of_eq hxl)]
 rw [e] at hcap;refine ⟨_,h',w',⟨rfl,ok.upd hchg (fun j e=>by subst e;exact ⟨o,n,c,rfl⟩) _ hcap (fun _ x=>.inl x),hchg⟩,at2,?_⟩;have hx2:ev s x=.slice (cutA (some ⟨b,o,none⟩) 0 c 1) n c:=by rw [hx];unfold cutA;split<;>simp [Addr.add_zero']
 rw [cutA_some hc0] at hx2;have hmin:Nat.min m n=n:=Nat.min_eq_right (by omega);have hmin2:min m n=n:=Nat.min_eq_right (by omega);have hf:(Builtin.firstCells 1 n (.slice a' m c')).run P w=.ok (ys.take n).toArray w:=by
  obtain ⟨b',o',rfl,hcell⟩:=hr0.2 (by omega);exact run_firstCells_some w 1 n ⟨b',o',none⟩ m c' (ys.take n) (by omega) (fun j v hj=>by rw [Addr.add_lit,cell?_eq,at'.heap];exact hcell j v (by rw [List.getElem?_take] at hj;split at hj;exact hj;cases hj))
 have hr2:(storeCells ⟨b,o,none⟩ (ys.take n)).run P w=.ok () w':=hr;simp [execOp,resolve,invoke,builtin,hx2,hy,Builtin.copy_,run_und (elB_iff ht),Builtin.lenOf,hmin,hmin2,run_szB hk,hf,hr2,goInt]
end Go.HL
namespace Go.Proofs.YtndlpekckpdncaaGreat
open Go Go.HL
section
variable {w:St} {first no:Int} {n f:Nat} {pl:List Int} {ol b:List UInt8} (hb:¬((n:Int)<0∨16384<(n:Int)∨decide (first=0)≠decide ((n:Int)=0)))
 (g:lkGo w (chGo n) (chLv n) (f+1) no pl (pl,ol,false)=chR w first n)
include hb g
theorem chD_bad (h:no<2∨(w.pgs.length:Int)<no∨no∈pl) (hl:ol.length<n):chF w first (n:Int)=([],[],14):=by
 by_cases h0:no=0
 ·rw [lk_00 h0] at g;exact chF_l hb (by rw [←g]) (by rw [←g]) (by rw [←g];exact hl)
 ·rw [lk_bad h0 h] at g;exact (chF_e hb (by rw [←g]) (by rw [←g];show (14:Int)≠0;decide)).trans (by rw [←g])
theorem chD_end (h0:no≠0) (hl:n≤ol.length):chF w first (n:Int)=([],[],14):=by
 by_cases h:no<2∨(w.pgs.length:Int)<no∨no∈pl
 ·rw [lk_bad h0 h] at g;exact (chF_e hb (by rw [←g]) (by rw [←g];show (14:Int)≠0;decide)).trans (by rw [←g])
 ·rw [lk_stop h0 h (by rw [chg_stop hl];rfl),chg_stop hl] at g;exact chF_s hb (by rw [←g])
theorem chD_ok (h0:no=0) (hl:n≤ol.length):chF w first (n:Int)=(pl,ol,0):=by
 rw [lk_00 h0] at g;exact (chF_0 hb (by rw [←g]) (by rw [←g]) (by rw [←g];show ¬ol.length<n;omega)).trans (by rw [←g])
omit hb in
theorem chD_go (e:w.pgs.getD (no-1).toNat []=b) (h0:2≤no) (h1:no≤(w.pgs.length:Int)) (hn:no∉pl) (hpl:pl.length≤ol.length) (hl:ol.length<n) (h5:5≤b.length):lkGo w (chGo n) (chLv n) f ((rdN b 0 4:Nat):Int) (pl++[no]) (pl++[no],ol++(b.drop 4).take (chK n ol b),false)=chR w first n:=by
 have hg:chGo n (pl,ol,false) no b=(pl++[no],ol++(b.drop 4).take (chK n ol b),false):=chg_go (by omega);subst e;rw [lk_go (by omega) (by rintro (h | h | h);omega;omega;exact hn h) (by rw [hg];exact chl_go hpl (by omega) (by omega) h5),hg] at g;exact g
end
theorem tk_step {b:List UInt8} {k:Nat} (h:4+k<b.length):(b.drop 4).take (k+1)=(b.drop 4).take k++[b[4+k]]:=by
 rw [List.take_succ_eq_append_getElem (by rw [List.length_drop];omega),List.getElem_drop]
theorem pg_all5 {α:Type} {l:List α} {k:Nat} (h1:k≤l.length) (h:l.length≤k):l.take k=l:=List.take_of_length_le h
theorem pg_step5 {P:List (List UInt8)} {ol:List RB} {k:Nat} {x:RB} (h:pgs ol=P.take k) (hk:k<P.length) (hx:x.l=P.getD k []):pgs (ol++[x])=P.take (k+1):=by
 rw [pgs_snoc,h,List.take_succ_eq_append_getElem hk,hx];congr 2;simp [hk]
theorem _root_.Go.HL.Hp.pgRows {h0 h:Heap} {D Eo:Nat→Prop} {M R:List Itm} {e:TypeId} {a:Option Addr} {c:Nat} {l:List RB} {P:List (List UInt8)} (ok:Hp h0 D (capI 1 e (a,l.length,c) (l.flatMap RB.cells)::M) (pbyI Eo l::R) h) (hP:pgs l=P):Hp h0 D M (rdI (fun j=>blkC (sv (a,l.length,c)) j∨Eo j) (fun j=>blkC (sv (a,l.length,c)) j∨Eo j) (a,l.length,c) P::R) h:=by
 have o:=ok.frz;subst hP;have o2:=o.or (r:=capI 1 e (a,l.length,c) (l.flatMap RB.cells)) (r':=pbyI Eo l) (by simp) (by simp) (rdI (fun j=>blkC (sv (a,l.length,c)) j∨Eo j) (fun j=>blkC (sv (a,l.length,c)) j∨Eo j) (a,l.length,c) (pgs l)) (PgB.rows (PgB.of o.r0 o.r1 (fun j h=>.inl h) (fun j h=>.inr h))) (fun j h=>h.elim id id);exact o2.sub (by simp;intro a h;exact .inr (.inr (.inr h)))
theorem same10_any {h:Heap} {F E F' E':Nat→Prop} {a b:Option Addr} {c d:Nat} {l l2:List Int} (hl:RdL h F E (a,l.length,c) l) (hm:RdL h F' E' (b,l2.length,d) l2) :
  HC Tryz.prog 34 #[.slice a l.length c,.slice b l2.length d] h (fun r h'=>r=.bool (decide (l=l2))∧h'=h):=by
 have hlc:=hl.c;have hlm:=hl.m;simp only at hlc hlm;refine HC.go Tryz.func34 26 ?_;refine .seq<|.r<|.z .asB<|.nil ?_;refine .seq<|.seq<|.r<|.z .mvS<|.z (.len T.el24)<|.z .mvS<|.z (.len T.el24)<|.z .neq<|.nil ?_;refine .cd (fun C0=>?_) (fun C0=>?_)
 ·
  refine .seq<|.r<|.z .asB<|.nil ?_;refine .ret ⟨.bool false,Res.one rfl rfl,⟨by rw [decide_eq_false (fun e=>by rw [e] at C0;exact C0 rfl)],rfl⟩⟩
 refine .skip<|.seq<|.seq<|.r<|.z .asI<|.nil ?_;refine .block fun K0 hK0=>.loop (fun m s hh=>∃(i:Nat),Has s [(0,.slice a l.length c),(1,.slice b l2.length d),(5,.int .i64 (i:Int))]∧h=hh∧i≤l.length∧l.take i=l2.take i∧m=l.length-i) ?_ ?_
 ·exact ⟨_,0,⟨rfl,rfl,rfl,trivial⟩,rfl,Nat.zero_le _,by simp,rfl⟩
 rintro _ _ _ ⟨i,hs,rfl,hi,hn,rfl⟩ J0 hJ0;refine .frame hs fun τ=>?_;refine .seq<|.seq<|.r<|.z .mvI<|.z .mvS<|.z (.len T.el24)<|.z .lss<|.nil ?_;refine .cdr (fun C1=>?_) (fun C1=>?_)
 ·
  refine .exit<|hK0 _ _<|.seq<|.r<|.z .asB<|.nil ?_;refine .ret ⟨.bool true,Res.one rfl rfl,⟨by rw [decide_eq_true (by rwa [List.take_of_length_le (by omega),List.take_of_length_le (by omega)] at hn)],rfl⟩⟩
 have hil:i<l.length:=by omega
 have hil2:i<l2.length:=by omega
 refine .skip<|.seq<|.block fun K1 hK1=>.seq<|.q (hm:=mixed)<|.z .mvS<|.z .mvI<|?_;obtain ⟨bb1,oo1,rfl,fb1⟩:=hl.pos (by omega);refine .z (.ix1 i T.el24 T.sz3 (hi:=by omega))<|.z (.ld T.ag3 (hl.i64 (i:=i) (by omega)))<|.z .mvS<|.z .mvI<|?_;obtain ⟨bb2,oo2,rfl,fb2⟩:=hm.pos (by omega);refine .z (.ix1 i T.el24 T.sz3 (hi:=by omega))<|.z (.ld T.ag3 (hm.i64 (i:=i) (by omega)))<|.z .neq<|.nil ?_;refine .cd (fun C2=>?_) (fun C2=>?_)
 ·
  refine .seq<|.r<|.z .asB<|.nil ?_;refine .ret ⟨.bool false,Res.one rfl rfl,⟨by rw [decide_eq_false (fun e=>by subst e;exact C2 rfl)],rfl⟩⟩
 refine .skip<|.end<|hK1 _ _<|.r<|.z .mvI<|.z (.addI (b:=1))<|.z .asI<|.nil ?_;refine .end<|hJ0 _ _ _ ⟨i+1,⟨rfl,rfl,rfl,trivial⟩,rfl,by omega,take_step (by omega) (by omega) hn (by simpa using C2),rfl⟩ (by omega)
theorem chain17_any {h:Heap} {F E:Nat→Prop} {w:St} {a:Option Addr} {c:Nat} {first n:Int} (k:StOk w) (hl:RdL h F E (a,w.pgs.length,c) w.pgs) (hf:i64N first) (hn:i64N n) :
  HC Tryz.prog 30 #[.slice a w.pgs.length c,.int .i64 (w.z:Int),.int .i64 first,.int .i64 n] h (fun v h'=>∃pa pc oa oc,v=.tuple #[.slice pa (chF w first n).1.length pc,.slice oa (chF w first n).2.1.length oc,.int .i64 (chF w first n).2.2]∧Hp h none_ [capI 1 3 (pa,(chF w first n).1.length,pc) ((chF w first n).1.map iv),capI 1 5 (oa,(chF w first n).2.1.length,oc) ((chF w first n).2.1.map bv)] [] h'):=by
 have ok:=(Hp.nil h none_).arg hl;have hzc:=okSz_c k.z;have hfew:=St.few k;have hf1:=hf.1;have hn1:=hn.1;refine HC.go Tryz.func30 99 ?_;refine .seq<|.r<|.z .asS<|.z .asS<|.z .asI<|.nil ?_;refine .seq<|.seq<|.r<|.z .mvI<|.z .lss<|.z .mvB<|.sd (fun G21=>?_) (fun G21=>?_)
 ·
  refine .y<|.y<|.z .pkt<|.z .mvB<|.y<|.y<|.y<|.y<|.y<|.z .pkt<|.nil ?_;refine .ct<|.seq<|.r<|.z .asS<|.z .asS<|.z .asI<|.nil ?_;refine .ret ⟨.tuple #[.slice none 0 0,.slice none 0 0,.int .i64 1],Res.three rfl rfl rfl rfl,⟨none,0,none,0,by rw [chF_1 (by first | exact .inl (by omega) | exact .inr (.inl (by omega)) | exact .inr (.inr (by simpa using C0)))]<;>rfl,by rw [chF_1 (by first | exact .inl (by omega) | exact .inr (.inl (by omega)) | exact .inr (.inr (by simpa using C0)))];exact ((ok.k0.tR.nilC (k:=1) (e:=5)).nilC (k:=1) (e:=3))⟩⟩
 refine .z .mvI<|.z .gtr<|.z .pkf<|.z .mvB<|.sd (fun G25=>?_) (fun G25=>?_)
 ·
  refine .y<|.y<|.y<|.y<|.y<|.z .pkt<|.nil ?_;refine .ct<|.seq<|.r<|.z .asS<|.z .asS<|.z .asI<|.nil ?_;refine .ret ⟨.tuple #[.slice none 0 0,.slice none 0 0,.int .i64 1],Res.three rfl rfl rfl rfl,⟨none,0,none,0,by rw [chF_1 (by first | exact .inl (by omega) | exact .inr (.inl (by omega)) | exact .inr (.inr (by simpa using C0)))]<;>rfl,by rw [chF_1 (by first | exact .inl (by omega) | exact .inr (.inl (by omega)) | exact .inr (.inr (by simpa using C0)))];exact ((ok.k0.tR.nilC (k:=1) (e:=5)).nilC (k:=1) (e:=3))⟩⟩
 refine .z .mvI<|.z .eql<|.z .mvI<|.z .eql<|.z (.bNe T.bo4)<|.z .pkf<|.nil ?_;refine .cond (fun C0=>?_) (fun C0=>?_)
 ·
  refine .seq<|.r<|.z .asS<|.z .asS<|.z .asI<|.nil ?_;refine .ret ⟨.tuple #[.slice none 0 0,.slice none 0 0,.int .i64 1],Res.three rfl rfl rfl rfl,⟨none,0,none,0,by rw [chF_1 (by first | exact .inl (by omega) | exact .inr (.inl (by omega)) | exact .inr (.inr (by simpa using C0)))]<;>rfl,by rw [chF_1 (by first | exact .inl (by omega) | exact .inr (.inl (by omega)) | exact .inr (.inr (by simpa using C0)))];exact ((ok.k0.tR.nilC (k:=1) (e:=5)).nilC (k:=1) (e:=3))⟩⟩
 obtain ⟨nn,rfl⟩:∃nn:Nat,n=(nn:Int):=⟨n.toNat,by omega⟩;have hbad:¬((nn:Int)<0∨16384<(nn:Int)∨decide (first=0)≠decide ((nn:Int)=0)):=by
  rintro (h | h | h)
  ·omega
  ·omega
  ·exact h (by simpa using C0)
 have hf0:nn=0→first=0:=fun h0=>by subst h0;exact Classical.byContradiction fun h=>hbad (.inr (.inr (by simp [h])))
 refine .skip<|.seq<|.r<|.z .asS<|?_;have ok:=ok.nilC (k:=1) (e:=3);refine .nil ?_;refine .seq<|.r<|.z .asS<|?_;have ok:=ok.nilC (k:=1) (e:=5);refine .nil ?_;refine .seq<|.r<|.z .mvI<|.z .asI<|.nil ?_;refine .seq<|.block fun K0 hK0=>.loop (fun m s hh=>∃(no:Int) (pl:List Int) (ol:List UInt8) (a11 a12:Option Addr) (c11 c12:Nat),Has s [(0,.slice a w.pgs.length c),(1,.int .i64 (w.z:Int)),(3,.int .i64 (nn:Int)),(11,.slice a11 pl.length c11),(12,.slice a12 ol.length c12),(13,.int .i64 no)]∧Hp h none_ [capI 1 3 (a11,pl.length,c11) (pl.map iv),capI 1 5 (a12,ol.length,c12) (ol.map bv)] [rdI (fun j=>F j∧j<h.size) (fun j=>E j∧j<h.size) (a,w.pgs.length,c) w.pgs] hh∧lkGo w (chGo nn) (chLv nn) (w.pgs.length+1-pl.length) no pl (pl,ol,false)=chR w first nn∧Met w.pgs.length pl∧pl.length≤ol.length∧ol.length≤nn∧(nn=0→no=0)∧m=w.pgs.length+1-pl.length) ?_ ?_
 ·exact ⟨_,first,[],[],none,none,0,0,⟨rfl,rfl,rfl,rfl,rfl,rfl,trivial⟩,(ok.n1).k2,rfl,Met.nil,Nat.le_refl _,Nat.zero_le _,hf0,rfl⟩
 rintro _ _ η1 ⟨no,pl,ol,a11,a12,c11,c12,hs,ok,hg,hmt,hpl,hol,hz0,rfl⟩ J0 hJ0;refine .frame hs fun τ=>?_;refine .seq<|.seq<|.r<|.z .mvS<|.z (.len T.el44)<|.z .mvI<|.z .lss<|.nil ?_;refine .cdr (fun C1=>?_) (fun C1=>?_)
 ·
  have hml:=hmt.len;obtain ⟨f,hff⟩:∃f,w.pgs.length+1-pl.length=f+1:=⟨w.pgs.length-pl.length,by omega⟩;rw [hff] at hg;refine .exit<|hK0 _ _<|.seq<|.seq<|.r<|.z .mvI<|.z .neq<|.z .mvB<|.sd (fun G93=>?_) (fun G93=>?_)
  ·
   refine .z .mvI<|.z .gtr<|.z .pkt<|.nil ?_;refine .cd (fun C6=>?_) (fun C6=>?_)
   ·
    refine .seq<|.r<|.z .asS<|.z .asS<|.z .asI<|.nil ?_;refine .ret ⟨.tuple #[.slice none 0 0,.slice none 0 0,.int .i64 14],Res.three rfl rfl rfl rfl,⟨none,0,none,0,by rw [chD_end hbad hg (by omega) (by omega)]<;>rfl,by rw [chD_end hbad hg (by omega) (by omega)];exact ((ok.k0.tR.nilC (k:=1) (e:=5)).nilC (k:=1) (e:=3))⟩⟩
   refine .skip<|.seq<|.r<|.z .mvS<|.z .mvS<|.z .asS<|.z .asS<|.z .asI<|.nil ?_;refine .ret ⟨.tuple #[.slice a11 pl.length c11,.slice a12 ol.length c12,.int .i64 0],Res.three rfl rfl rfl rfl,⟨a11,c11,a12,c12,by rw [chD_ok hbad hg (by first | exact hz0 (by omega) | omega) (by omega)],by rw [chD_ok hbad hg (by first | exact hz0 (by omega) | omega) (by omega)];exact (ok).k2.tR⟩⟩
  refine .y<|.y<|.z .pkf<|.nil ?_;refine .cf<|.skip<|.seq<|.r<|.z .mvS<|.z .mvS<|.z .asS<|.z .asS<|.z .asI<|.nil ?_;refine .ret ⟨.tuple #[.slice a11 pl.length c11,.slice a12 ol.length c12,.int .i64 0],Res.three rfl rfl rfl rfl,⟨a11,c11,a12,c12,by rw [chD_ok hbad hg (by first | exact hz0 (by omega) | omega) (by omega)],by rw [chD_ok hbad hg (by first | exact hz0 (by omega) | omega) (by omega)];exact (ok).k2.tR⟩⟩
 have hml:=hmt.len;obtain ⟨f,hff⟩:∃f,w.pgs.length+1-pl.length=f+1:=⟨w.pgs.length-pl.length,by omega⟩;rw [hff] at hg;refine .skip<|.block fun K1 hK1=>.seq<|.seq<|.r<|.z .mvI<|.z .lss<|.z .mvB<|.sd (fun G39=>?_) (fun G39=>?_)
 ·
  refine .y<|.y<|.y<|.y<|.z .pkt<|.nil ?_;refine .ct<|.seq<|.r<|.z .asS<|.z .asS<|.z .asI<|.nil ?_;refine .ret ⟨.tuple #[.slice none 0 0,.slice none 0 0,.int .i64 14],Res.three rfl rfl rfl rfl,⟨none,0,none,0,by rw [chD_bad hbad hg (by first | exact .inl (by omega) | exact .inr (.inl (by omega))) (by omega)]<;>rfl,by rw [chD_bad hbad hg (by first | exact .inl (by omega) | exact .inr (.inl (by omega))) (by omega)];exact ((ok.k0.tR.nilC (k:=1) (e:=5)).nilC (k:=1) (e:=3))⟩⟩
 refine .z .mvI<|.z .mvS<|.z (.len T.el28)<|.z .gtr<|.z .pkf<|.nil ?_;refine .cd (fun C2=>?_) (fun C2=>?_)
 ·
  refine .seq<|.r<|.z .asS<|.z .asS<|.z .asI<|.nil ?_;refine .ret ⟨.tuple #[.slice none 0 0,.slice none 0 0,.int .i64 14],Res.three rfl rfl rfl rfl,⟨none,0,none,0,by rw [chD_bad hbad hg (by first | exact .inl (by omega) | exact .inr (.inl (by omega))) (by omega)]<;>rfl,by rw [chD_bad hbad hg (by first | exact .inl (by omega) | exact .inr (.inl (by omega))) (by omega)];exact ((ok.k0.tR.nilC (k:=1) (e:=5)).nilC (k:=1) (e:=3))⟩⟩
 refine .skip<|.seq<|.seq<|.r<|.z .asI<|.nil ?_;refine .block fun K2 hK2=>.loop (fun m s hh=>∃(i:Nat),Has s [(0,.slice a w.pgs.length c),(1,.int .i64 (w.z:Int)),(3,.int .i64 (nn:Int)),(11,.slice a11 pl.length c11),(12,.slice a12 ol.length c12),(13,.int .i64 no),(14,.int .i64 (i:Int))]∧Hp h none_ [capI 1 3 (a11,pl.length,c11) (pl.map iv),capI 1 5 (a12,ol.length,c12) (ol.map bv)] [rdI (fun j=>F j∧j<h.size) (fun j=>E j∧j<h.size) (a,w.pgs.length,c) w.pgs] hh∧i≤pl.length∧no∉pl.take i∧m=pl.length-i) ?_ ?_
 ·exact ⟨_,0,⟨rfl,rfl,rfl,rfl,rfl,rfl,rfl,trivial⟩,ok.n1.n1,Nat.zero_le _,by simp,rfl⟩
 rintro _ _ η2 ⟨i,hs,ok,hi,hn,rfl⟩ J1 hJ1;refine .frame hs fun τ=>?_;refine .seq<|.seq<|.r<|.z .mvI<|.z .mvS<|.z (.len T.el24)<|.z .lss<|.nil ?_;refine .cdr (fun C3=>?_) (fun C3=>?_)
 ·
  refine .exit<|hK2 _ _<|.seq<|?_;have hnm:no∉pl:=by rwa [List.take_of_length_le (by omega)] at hn
  obtain ⟨pq,rfl⟩:∃pq:Nat,no=(pq:Int)+1:=⟨(no-1).toNat,by omega⟩;have hpq:pq<w.pgs.length:=by omega
  have hgd:w.pgs.getD ((pq:Int)+1-1).toNat []=w.pgs[pq]:=by rw [show ((pq:Int)+1-1).toNat=pq by omega,List.getD_eq_getElem?_getD,List.getElem?_eq_getElem hpq];rfl
  have hbl:(w.pgs[pq]).length=w.z:=(St.pgk k).len _ (List.getElem_mem hpq);refine .r<|.z .mvS<|.z .mvI<|.a' 59 (.lit [.tmp 58] (cs:=[.int .i64 ((pq:Int)+1)]) T.el24 T.sz3 T.zr3 ok ⟨rfl,trivial⟩) ?_;rintro _ η3 ⟨pb1,rfl,ok,xe⟩;refine .a' 60 (.app (news:=[.int .i64 ((pq:Int)+1)]) T.el24 T.sz3 T.by3 T.zr3 ok.n1 (ok.n1.m1).sl (oneL rfl) (by simp only [List.length_map,List.length_cons,List.length_nil];omega)) ?_;rintro _ η4 ⟨ya1,yn1,yc1,rfl,ok,ap⟩;have ok:=ok.cx (ys:=(pl++[(pq:Int)+1]).map iv) snocI;obtain rfl:yn1=(pl++[(pq:Int)+1]).length:=ok.lenI2;refine .z .asS<|.nil ?_;refine .seq<|.r<|.z .mvS<|.z .mvI<|.z .sub<|?_;obtain ⟨bb1,oo1,rfl,fb1⟩:=ok.r0.pos (by omega);refine .z (.ix1 pq T.el28 T.sz44 (hi:=by omega))<|?_;obtain ⟨ya2,yc2,he1,hr1⟩:=ok.r0.row (i:=pq) (by omega);have ok:=ok.d0 (rdI (fun j=>E j∧j<h.size) (fun j=>E j∧j<h.size) (ya2,w.pgs[pq].length,yc2) (w.pgs[pq])) hr1 (fun _ h=>.inr (h.elim id id));refine .z (.ld T.ag44 he1)<|.z .asS<|.nil ?_;refine .seq<|.seq<|.r<|.z .asI<|.nil ?_;refine .block fun K4 hK4=>.loop (fun m s hh=>∃(kk:Nat) (o2:List UInt8) (b12:Option Addr) (d12:Nat),Has s [(0,.slice (some ⟨bb1,oo1,none⟩) w.pgs.length c),(1,.int .i64 (w.z:Int)),(3,.int .i64 (nn:Int)),(11,.slice ya1 ((pl++[(pq:Int)+1]).length) yc1),(12,.slice b12 o2.length d12),(15,.slice ya2 (w.pgs[pq].length) yc2),(16,.int .i64 ((4+kk:Nat):Int))]∧Hp h none_ [capI 1 3 (ya1,(pl++[(pq:Int)+1]).length,yc1) ((pl++[(pq:Int)+1]).map iv),capI 1 5 (b12,o2.length,d12) (o2.map bv)] [rdI (fun j=>E j∧j<h.size) (fun j=>E j∧j<h.size) (ya2,w.pgs[pq].length,yc2) (w.pgs[pq]),rdI (fun j=>F j∧j<h.size) (fun j=>E j∧j<h.size) (some ⟨bb1,oo1,none⟩,w.pgs.length,c) w.pgs] hh∧kk≤w.z-4∧o2.length=ol.length+kk∧ol.length+kk≤nn∧o2=ol++((w.pgs[pq]).drop 4).take kk∧m=w.z-kk) ?_ ?_
  ·exact ⟨_,0,ol,a12,c12,⟨rfl,rfl,rfl,rfl,rfl,rfl,rfl,trivial⟩,(ok.n2.n1).k2,Nat.zero_le _,rfl,by omega,by simp,rfl⟩
  rintro _ _ η5 ⟨kk,o2,b12,d12,hs,ok,hk1,hk2,hk3,ho2,rfl⟩ J2 hJ2;refine .frame hs fun τ=>?_;refine .seq<|.seq<|.r<|.z .mvI<|.z .mvI<|.z .lss<|.z .mvB<|.sd (fun G69=>?_) (fun G69=>?_)
  ·
   refine .z .mvS<|.z (.len T.el44)<|.z .mvI<|.z .lss<|.z .pkt<|.nil ?_;refine .cdr (fun C5=>?_) (fun C5=>?_)
   ·
    refine .exit<|hK4 _ _<|.seq<|?_;have hr4:=rdN_lt4 w.pgs[pq] 0;have hkk:kk=chK nn ol (w.pgs[pq]):=by unfold chK;omega
    refine .r<|.z .mvS<|.k 86 .func (rread_any (p:=0) (size:=4) (a:=ya2) (c:=yc2) (l:=w.pgs[pq]) ok.r0 (by omega) (by omega) (by omega))<|.z .mvU<|.z .ex<|.z .ex<|.z .asI<|.z .asI<|.nil ?_;refine .r<|.z .mvI<|.z (.cvi T.in3 T.in130 (ha:=by omega))<|.z .asI<|.nil ?_;refine .end<|hK1 _ _<|.end<|hJ0 _ _ _ ⟨((rdN (w.pgs[pq]) 0 4:Nat):Int),pl++[(pq:Int)+1],o2,ya1,b12,yc1,d12,⟨rfl,rfl,rfl,rfl,rfl,rfl,trivial⟩,(ok).k2.tR,by rw [ho2,hkk,show w.pgs.length+1-(pl++[(pq:Int)+1]).length=f by simp;omega];exact chD_go hg hgd (by omega) (by omega) hnm hpl (by omega) (by omega),hmt.snoc (decide_eq_true ⟨by omega,by omega,hnm⟩),by simp;omega,by omega,fun h=>by omega,rfl⟩ (by simp;omega)
   refine .skip<|.seq<|.block fun K5 hK5=>.r<|.z .mvS<|.z .mvS<|.z .mvI<|?_;obtain ⟨bb2,oo2,rfl,fb2⟩:=ok.r0.pos (by omega);refine .z (.ix1 (4+kk) T.el44 T.sz5 (hi:=by omega))<|.z (.ld T.ag5 (ok.r0.u8 (i:=(4+kk)) (by omega)))<|.a' 82 (.lit [.tmp 81] (cs:=[.int .u8 ((w.pgs[pq])[(4+kk)].toNat:Int)]) T.el44 T.sz5 T.zr5 ok ⟨rfl,trivial⟩) ?_;rintro _ η6 ⟨pb2,rfl,ok,xe⟩;have ok:=ok.cx (ys:=([(w.pgs[pq])[(4+kk)]]:List UInt8).map bv) rfl;refine .a' 83 (.app (news:=([(w.pgs[pq])[(4+kk)]]:List UInt8).map bv) T.el44 T.sz5 T.by5 T.zr5 ok.n2 (ok.n2.m1).sl (oneL rfl) (by simp only [List.length_map,List.length_append,List.length_take,List.length_cons,List.length_nil,List.length_replicate,List.length_range,fixedN_len,sealN_len];omega)) ?_;rintro _ η7 ⟨ya3,yn2,yc3,rfl,ok,ap⟩;have ok:=ok.cx (ys:=(o2++([(w.pgs[pq])[(4+kk)]]:List UInt8)).map bv) (by simp [bv]);obtain rfl:yn2=(o2++([(w.pgs[pq])[(4+kk)]]:List UInt8)).length:=ok.lenB;refine .z .asS<|.nil ?_;refine .end<|hK5 _ _<|.r<|.z .mvI<|.z (.addI (b:=1))<|.z .asI<|.nil ?_;refine .end<|hJ2 _ _ _ ⟨kk+1,o2++([(w.pgs[pq])[(4+kk)]]:List UInt8),ya3,yc3,⟨rfl,rfl,rfl,rfl,rfl,rfl,rfl,trivial⟩,(ok.n2).k2,by omega,by rw [List.length_append];simp;omega,by omega,by rw [tk_step (by omega),←List.append_assoc,←ho2],rfl⟩ (by omega)
  refine .y<|.y<|.y<|.y<|.z .pkf<|.nil ?_;refine .cf<|.exit<|hK4 _ _<|.seq<|?_;have hr4:=rdN_lt4 w.pgs[pq] 0;have hkk:kk=chK nn ol (w.pgs[pq]):=by unfold chK;omega
  refine .r<|.z .mvS<|.k 86 .func (rread_any (p:=0) (size:=4) (a:=ya2) (c:=yc2) (l:=w.pgs[pq]) ok.r0 (by omega) (by omega) (by omega))<|.z .mvU<|.z .ex<|.z .ex<|.z .asI<|.z .asI<|.nil ?_;refine .r<|.z .mvI<|.z (.cvi T.in3 T.in130 (ha:=by omega))<|.z .asI<|.nil ?_;refine .end<|hK1 _ _<|.end<|hJ0 _ _ _ ⟨((rdN (w.pgs[pq]) 0 4:Nat):Int),pl++[(pq:Int)+1],o2,ya1,b12,yc1,d12,⟨rfl,rfl,rfl,rfl,rfl,rfl,trivial⟩,(ok).k2.tR,by rw [ho2,hkk,show w.pgs.length+1-(pl++[(pq:Int)+1]).length=f by simp;omega];exact chD_go hg hgd (by omega) (by omega) hnm hpl (by omega) (by omega),hmt.snoc (decide_eq_true ⟨by omega,by omega,hnm⟩),by simp;omega,by omega,fun h=>by omega,rfl⟩ (by simp;omega)
 have hil:i<pl.length:=by omega
 refine .skip<|.seq<|.block fun K3 hK3=>.seq<|.r<|.z .mvS<|.z .mvI<|?_;obtain ⟨bb3,oo3,rfl,fb3⟩:=ok.m0.pos (n:=pl.length) (by omega);refine .z (.ix1 i T.el24 T.sz3 (hi:=by omega))<|.z (.ld T.ag3 (Cap.i64 (l:=pl) ok.m0 (i:=i) (by omega)))<|.z .mvI<|.z .eql<|.nil ?_;refine .cd (fun C4=>?_) (fun C4=>?_)
 ·
  refine .seq<|.r<|.z .asS<|.z .asS<|.z .asI<|.nil ?_;refine .ret ⟨.tuple #[.slice none 0 0,.slice none 0 0,.int .i64 14],Res.three rfl rfl rfl rfl,⟨none,0,none,0,by rw [chD_bad hbad hg (.inr (.inr (by rw [←C4];exact List.getElem_mem hil))) (by omega)]<;>rfl,by rw [chD_bad hbad hg (.inr (.inr (by rw [←C4];exact List.getElem_mem hil))) (by omega)];exact ((ok.k0.tR.nilC (k:=1) (e:=5)).nilC (k:=1) (e:=3))⟩⟩
 refine .skip<|.end<|hK3 _ _<|.r<|.z .mvI<|.z (.addI (b:=1))<|.z .asI<|.nil ?_;refine .end<|hJ1 _ _ _ ⟨i+1,⟨rfl,rfl,rfl,rfl,rfl,rfl,rfl,trivial⟩,ok.n1.n1,by omega,any_step (by omega) hn C4,rfl⟩ (by omega)
theorem pages17_any {G:Pgr} {h:Heap} {so:Nat} {F:Nat→Prop} {w:St} (ok:Hp h F [dsI G so F w] [] h) (hw:w.pgs.length≤5000):HC Tryz.prog 31 #[.pointer (some ⟨so,0,none⟩)] h (fun v h'=>∃F' E a c,v=.slice a w.pgs.length c∧Hp h F [dsI G so F' w] [rdI E E (a,w.pgs.length,c) w.pgs] h'∧∀j,E j∨E j→F j∨h.size≤j):=by
 refine HC.go Tryz.func31 38 ?_;refine .seq<|.r<|.z .asS<|.nil ?_;refine .seq<|.r<|.z .asS<|.nil ?_;refine .seq<|.seq<|?_;have ok:=ok.nilC (k:=1) (e:=44);have ok:=ok.pbyNil;refine .r<|.z .asI<|.nil ?_;refine .block fun K0 hK0=>.loop (fun m s hh=>∃(kp:Nat) (ol:List RB) (a3:Option Addr) (c3:Nat) (Eo Fp:Nat→Prop),Has s [(0,.pointer (some ⟨so,0,none⟩)),(3,.slice a3 ol.length c3),(4,.int .i64 ((kp:Int)+1))]∧Hp h F [capI 1 44 (a3,ol.length,c3) (ol.flatMap RB.cells),dsI G so Fp w] [pbyI Eo ol] hh∧kp≤w.pgs.length∧ol.length=kp∧pgs ol=w.pgs.take kp∧(∀j,Eo j→F j∨h.size≤j)∧m=w.pgs.length-kp) ?_ ?_
 ·exact ⟨_,0,[],none,0,none_,F,⟨rfl,rfl,rfl,trivial⟩,(ok).k2,by omega,rfl,rfl,fun j f=>f.elim,rfl⟩
 rintro _ _ η1 ⟨kp,ol,a3,c3,Eo,Fp,hs,ok,hk1,hol,hpo,hEo,rfl⟩ J0 hJ0;refine .frame hs fun τ=>?_;refine .seq<|.seq<|.r<|.z .mvI<|.z .mvP<|.c' 9 .func (sHead_any (G:=G) (w:=w) (ok.n1).loc0) ?_;rintro _ η2 ⟨Fh1,rfl,q⟩;have ok:=(ok.n1).lift1 q;rw [show w.head.val=.agg #[.int .i64 w.head.size,.int .i64 (w.pgs.length:Int),.int .i64 w.head.free,.int .i64 w.head.many,.int .i64 w.head.cookie,.int .i64 w.head.version] from (by rw [←St.head_pages];rfl)];refine .z (.fd T.fd38_1 T.ag3)<|.z .leq<|.z .mvB<|.sd (fun G12=>?_) (fun G12=>?_)
 ·
  refine .z .mvI<|.z .leq<|.z .pkt<|.nil ?_;refine .cdr (fun C0=>?_) (fun C0=>?_)
  ·
   refine .exit<|hK0 _ _<|.seq<|.r<|.z .mvS<|.z .asS<|.nil ?_;refine .ret ⟨.slice a3 ol.length c3,Res.one rfl rfl,⟨Fh1,_,a3,c3,(by rw [show ol.length=w.pgs.length by omega]),(by have q:=Hp.pgRows (ok.n1) (hpo.trans (pg_all5 hk1 (by omega)));rw [show ol.length=w.pgs.length by omega] at q;exact q),(fun j hj=>by rcases or_self_iff.1 hj with h1 | h1;exact (ok.n1).ownE j (by rw [show ol.length=w.pgs.length by omega];exact h1);exact hEo j h1)⟩⟩
  refine .skip<|.seq<|.block fun K1 hK1=>.seq<|?_;have hkl:kp<w.pgs.length:=by omega
  refine .r<|.z .mvP<|.z .mvI<|.c' 21 .func (sReadOk_any (G:=G) (w:=w) (no:=((kp:Int)+1)) (b:=(w.pgs.getD kp [])) (ok).loc0 (by omega) (by omega) (by congr 1;omega)) ?_;rintro _ η3 ⟨Fr1,xr1,cr1,rfl,hlr1,q⟩;have ok:=(ok).lift2 q;refine .z .mvU<|.z .ex<|.z .ex<|.z .asS<|.z .asI<|.nil ?_;refine .seq<|.seq<|.r<|.z .mvI<|.z .neq<|.z .mvB<|.z .mvS<|.z (.len T.el44)<|.z .mvP<|.k 30 .func (sSize_any (G:=G) (F:=Fr1) (w:=w) ok.m1)<|.z .neq<|.z .pkf<|.nil ?_;refine .cd (fun C1=>?_) (fun C1=>?_)
  ·
   exact absurd (by rw [hlr1]) C1
  refine .skip<|.r<|.z .mvS<|.z .mvS<|.a' 35 (.lit [.tmp 34] (cs:=[.slice xr1 ((w.pgs.getD kp []).length) cr1]) T.el28 T.sz44 T.zr44 ok ⟨rfl,trivial⟩) ?_;rintro _ η4 ⟨pb1,rfl,ok,xe⟩;refine .a' 36 (.app (news:=[.slice xr1 ((w.pgs.getD kp []).length) cr1]) T.el28 T.sz44 T.by44 T.zr44 ok.n3 (ok.n3.m1).sl (oneL rfl) (by rw [flat_len RB.cells_len];simp only [List.length_cons,List.length_nil];omega)) ?_;rintro _ η5 ⟨ya1,yn1,yc1,rfl,ok,ap⟩;have ok:=(ok).cx (ys:=(ol++[(⟨xr1,cr1,(w.pgs.getD kp [])⟩:RB)]).flatMap RB.cells) (by simp [RB.cells]);obtain rfl:yn1=(ol++[(⟨xr1,cr1,(w.pgs.getD kp [])⟩:RB)]).length:=(Sl.sz (Cap.sl ok.m0) RB.cells_len (by decide)).1.symm;have hfr:=(ok.n2).ownE;have ok:=Hp.pbyPut (ok.n2);refine .z .asS<|.nil ?_;refine .end<|hK1 _ _<|.r<|.z .mvI<|.z .add<|.z .asI<|.nil ?_;refine .end<|hJ0 _ _ _ ⟨kp+1,ol++[(⟨xr1,cr1,(w.pgs.getD kp [])⟩:RB)],ya1,yc1,(fun j=>Eo j∨blkC (sv (xr1,((w.pgs.getD kp [])).length,cr1)) j),Fr1,⟨rfl,rfl,rfl,trivial⟩,(ok.n2.n1).k2,by omega,by simp [hol],pg_step5 hpo hkl rfl,(fun j h=>h.elim (hEo j) (hfr j)),rfl⟩ (by omega)
 refine .y<|.y<|.z .pkf<|.nil ?_;refine .cf<|.exit<|hK0 _ _<|.seq<|.r<|.z .mvS<|.z .asS<|.nil ?_;refine .ret ⟨.slice a3 ol.length c3,Res.one rfl rfl,⟨Fh1,_,a3,c3,(by rw [show ol.length=w.pgs.length by omega]),(by have q:=Hp.pgRows (ok.n1) (hpo.trans (pg_all5 hk1 (by omega)));rw [show ol.length=w.pgs.length by omega] at q;exact q),(fun j hj=>by rcases or_self_iff.1 hj with h1 | h1;exact (ok.n1).ownE j (by rw [show ol.length=w.pgs.length by omega];exact h1);exact hEo j h1)⟩⟩
open Go Go.HL
theorem wr_ok {w:St} {no:Nat} {b:List UInt8} (hi:w.in_=true) (h1:2≤no) (h2:no≤w.now.length+1) (h3:1≤w.now.length) (hb:b.length=w.z) (h4:no≤1048576) (h5:no*w.z≤16777216):w.write (no:Int) b=(⟨w.z,w.sure,w.in_,wth w.now no b,w.saves⟩,0):=by
 have h6:(no:Int)*(w.z:Int)≤16777216:=by rw [←Int.natCast_mul];omega
 have h7:w.now≠[]:=fun e=>by rw [e] at h3;simp at h3
 unfold St.write;rw [if_neg (by rw [hi];decide),if_neg (by rintro (h | h | h | h);omega;omega;exact h7 h;exact h hb),if_neg (by rintro (h | h);omega;omega),Int.toNat_natCast]
theorem spillReads_walk {h:Heap} {F E:Nat→Prop} {a:Option Addr} {c n:Nat} {l:List (List UInt8)} {first many:Int} (hl:RdL h F E (a,l.length,c) l) (hn:n<256) (hf:i64N first) (hm:i64N many) :
  HC Tryz.prog 6 #[.int .u8 (n:Int),.slice a l.length c,.int .i64 first,.int .i64 many] h (fun v h'=>v=.bool true∧Ext h h'):=by
 have ok:=(Hp.nil h none_).arg hl;have hzb:=szF_b n;have hlm:=hl.m;have hlc:=hl.c;simp only at hlm hlc;refine HC.go Tryz.func6 100 ?_;refine .seq<|.r<|.z .asB<|.nil ?_;refine .seq<|.r<|.z .mvI<|.c' 20 .func (fresh17_any (n:=n) hn) ?_;rintro _ η1 ⟨so,Fs1,rfl,q⟩;have ok:=Hp.addM15 ok q;refine .z .asP<|.nil ?_;refine .seq<|.seq<|.r<|.z .mvP<|.z (.pEqS T.pt27)<|.z .mvB<|.z .mvS<|.z (.len T.el28)<|.z .gtr<|.z .pkf<|.nil ?_;refine .cd (fun C0=>?_) (fun C0=>?_)
 ·
  refine .seq<|.r<|.c' 28 .func live17_any ?_;rintro _ η2 ⟨rfl,hx⟩;have ok:=ok.ext hx;refine .z .mvB<|.z .mvP<|.z (.pNeS T.pt27)<|.z .pkt<|.z .asB<|.nil ?_;refine .ret ⟨.bool true,Res.one rfl rfl,⟨rfl,ok.chg⟩⟩
 refine .skip<|.seq<|.seq<|.r<|.z .asI<|.nil ?_;refine .block fun K0 hK0=>.loop (fun m s hh=>∃(i:Nat) (w:St) (Fw:Nat→Prop),Has s [(1,.slice a l.length c),(2,.int .i64 first),(3,.int .i64 many),(9,.pointer (some ⟨so,0,none⟩)),(10,.int .i64 (i:Int))]∧Hp h none_ [dsI (nG (decide (((n%2:Nat):Int)=1))) so Fw w] [rdI (fun j=>F j∧j<h.size) (fun j=>E j∧j<h.size) (a,l.length,c) l] hh∧i≤l.length∧i≤12∧w.in_=true∧w.z=szF n∧w.now.length=i+1∧m=l.length-i) ?_ ?_
 ·exact ⟨_,0,opV (szF n) 0,Fs1,⟨rfl,rfl,rfl,rfl,rfl,trivial⟩,(ok).k1,Nat.zero_le _,Nat.zero_le _,rfl,rfl,opL_len,rfl⟩
 rintro _ _ η3 ⟨i,w,Fw,hs,ok,hi,hi2,hin,hz,hnl,rfl⟩ J0 hJ0;refine .frame hs fun τ=>?_;refine .seq<|.seq<|.r<|.z .mvI<|.z .mvS<|.z (.len T.el28)<|.z .lss<|.nil ?_;refine .cdr (fun C1=>?_) (fun C1=>?_)
 ·
  refine .exit<|hK0 _ _<|.seq<|?_;have hpg:w.pgs.length≤5000:=by rw [show w.pgs=w.now from if_pos hin];omega
  refine .r<|.z .mvP<|.c' 56 .func (pages17_any (G:=(nG (decide (((n%2:Nat):Int)=1)))) (w:=w) (ok).loc0 (by omega)) ?_;rintro _ η4 ⟨Fg1,Eg1,ag1,cg1,rfl,q,hEg1⟩;have ok:=Hp.liftE (ok) q hEg1;refine .z .mvP<|.k 58 .func (sSize_any (G:=(nG (decide (((n%2:Nat):Int)=1)))) (F:=Fg1) (w:=w) ok.m0)<|.z .mvI<|.z .mvI<|.c' 61 .func (chain17_any (w:=w) (ds_ok (ok).m0) ok.r0 hf hm) ?_;rintro _ η5 ⟨pach1,pcch1,oach1,occh1,rfl,q⟩;have ok:=ok.addML q;refine .z .mvU<|.z .ex<|.z .ex<|.z .ex<|.z .asS<|.z .asS<|.z .asI<|.nil ?_;refine .seq<|.r<|.z .mvP<|.z .mvI<|.z .mvI<|.c' 69 .func (spGet_any (G:=(nG (decide (((n%2:Nat):Int)=1)))) (w:=w) (first:=first) (n:=many) (ok.n2).loc0 hf hm) ?_;rintro _ η6 ⟨Fg2,xg2,cg2,rfl,q⟩;have ok:=(ok.n2).lift2 q;refine .z .mvU<|.z .ex<|.z .ex<|.z .asS<|.z .asI<|.nil ?_;refine .seq<|.r<|.z .mvP<|.z .mvI<|.z .mvI<|.c' 76 .func (spPages_any (G:=(nG (decide (((n%2:Nat):Int)=1)))) (w:=w) (first:=first) (n:=many) (ok.n1).loc0 hf hm) ?_;rintro _ η7 ⟨Fg3,xg3,cg3,rfl,q⟩;have ok:=(ok.n1).lift2 q;refine .z .mvU<|.z .ex<|.z .ex<|.z .asS<|.z .asI<|.nil ?_;refine .seq<|.r<|.c' 79 .func live17_any ?_;rintro _ η8 ⟨rfl,hx⟩;have ok:=ok.ext hx;refine .z .mvB<|.z .mvI<|.z .mvI<|.z .eql<|.z .pkt<|.z .mvB<|.sd (fun G85=>?_) (fun G85=>?_)
  ·
   refine .z .mvI<|.z .mvI<|.z .eql<|.z .pkt<|.z .mvB<|.sd (fun G90=>?_) (fun G90=>?_)
   ·
    refine .z .mvS<|.z .mvS<|.k 93 .func (same_any (a:=xg2) (c:=cg2) (l:=(chF w first many).2.1) (b:=oach1) (d:=occh1) (l2:=(chF w first many).2.1) (RdL.ofCapB (v:=(xg2,(chF w first many).2.1.length,cg2)) (l:=((chF w first many).2.1)) ok.m2) (RdL.ofCapB (v:=(oach1,(chF w first many).2.1.length,occh1)) (l:=((chF w first many).2.1)) ok.m4))<|.z .pkt<|.z .mvB<|.sd (fun G95=>?_) (fun G95=>?_)
    ·
     refine .z .mvS<|.z .mvS<|.k 98 .func (same10_any (a:=xg3) (c:=cg3) (l:=(chF w first many).1) (b:=pach1) (d:=pcch1) (l2:=(chF w first many).1) (RdL.ofInts (x:=(xg3,(chF w first many).1.length,cg3)) (E:=none_) (ok.m0).sl) (RdL.ofInts (x:=(pach1,(chF w first many).1.length,pcch1)) (E:=none_) (ok.m3).sl))<|.z .pkt<|.z .asB<|.nil ?_;refine .ret ⟨.bool (decide ((chF w first many).1=(chF w first many).1)),Res.one rfl rfl,⟨by rw [decide_eq_true rfl],ok.chg⟩⟩
    exact absurd rfl G95
   exact absurd rfl G90
  exact absurd rfl G85
 have hil:i<l.length:=by omega
 refine .skip<|.seq<|.block fun K1 hK1=>.seq<|.r<|.z .mvP<|.k 40 .func (sSize_any (G:=(nG (decide (((n%2:Nat):Int)=1)))) (F:=Fw) (w:=w) ok.m0)<|.a' 41 (.mks w.z w.z T.el44 T.sz5 T.by5 T.zr5 ok) ?_;rintro _ η9 ⟨pb1,rfl,ok,xe⟩;have ok:=ok.cx (ys:=(List.replicate w.z (0:UInt8)).map bv) (zeros8 _);refine .z .asS<|.nil ?_;refine .seq<|.r<|.z .mvS<|.z .mvS<|.z .mvI<|?_;obtain ⟨bb1,oo1,rfl,fb1⟩:=ok.r0.pos (by omega);refine .z (.ix1 i T.el28 T.sz44 (hi:=by omega))<|?_;obtain ⟨ya1,yc1,he1,hr1⟩:=ok.r0.row (i:=i) (by omega);have ok:=ok.d0 (rdI (fun j=>E j∧j<h.size) (fun j=>E j∧j<h.size) (ya1,l[i].length,yc1) (l[i])) hr1 (fun _ h=>.inr (h.elim id id));refine .z (.ld T.ag44 he1)<|.a' 47 (.cpM (ys:=l[i].map bv) T.el44 T.sz5 ok ok.r0.by bv_all) ?_;rintro _ η10 ⟨rfl,ok,cg⟩;obtain ⟨bb,hbb,hbl⟩:∃bb:List UInt8,(l[i].map bv).take w.z++((List.replicate w.z (0:UInt8)).map bv).drop (l[i].map bv).length=bb.map bv∧bb.length=w.z:=⟨l[i].take w.z++(List.replicate w.z 0).drop l[i].length,by simp,by simp;omega⟩;have ok:=ok.cx hbb;refine .nil ?_;refine .seq<|.r<|.z .mvP<|.z .mvI<|.z (.addI (b:=2))<|.z .mvS<|.c' 52 .func (ansE (ci:=0) (sWriteC_any (G:=(nG (decide (((n%2:Nat):Int)=1)))) (w:=w) (no:=((i+2:Nat):Int)) (l:=bb) (ok.n1) (by omega)) (wr_ok hin (by omega) (by omega) (by omega) hbl (by omega) (Nat.le_trans (Nat.mul_le_mul (show i+2≤14 by omega) (show w.z≤1024 by omega)) (by decide))) rfl) ?_;rintro _ η11 ⟨Fk1,rfl,q⟩;have ok:=(ok.n1).lift1 q;refine .z .neq<|.nil ?_;refine .cf<|.skip<|.end<|hK1 _ _<|.r<|.z .mvI<|.z (.addI (b:=1))<|.z .asI<|.nil ?_;refine .end<|hJ0 _ _ _ ⟨i+1,(⟨w.z,w.sure,w.in_,wth w.now (i+2) bb,w.saves⟩:St),Fk1,⟨rfl,rfl,rfl,rfl,rfl,trivial⟩,(ok).k1.tR,by omega,by omega,hin,hz,by show (wth w.now (i+2) bb).length=i+1+1;rw [wth_len (by omega)];omega,rfl⟩ (by omega)
end Go.Proofs.YtndlpekckpdncaaGreat
namespace Go.HL
open Go Go.RowKit Go.ChangeShapes Go.WideShapes Go.ChangeAt
theorem Below.of {w w':World} {h':Heap} (a:At (Env.of w) h' w') (x:Ext w.heap h'):Below w.heap.size w w':=
 ⟨a.os,a.tape,a.output,by rw [a.heap];exact x.size,fun k hk=>by rw [a.heap];exact x.same k hk fun f=>f⟩
theorem trodAll_below {H:Type} {enc:TypeId × Value→H} {P:Program} (hl:laidOutB P=true) {W W':World} (hb:Below W.heap.size W W'):∀ {ts:List TypeId} {vs:List Value} {ds:List (DataW H)} {ps:List MemPlace},
  (ts.all fun t=>P.readableRec t && decide (t<P.types.size))=true→(∀x∈ps,x.block<W.heap.size)→DataW.TrodAll enc P W 0 (fun _=>true) true ts vs ds ps→DataW.TrodAll enc P W' 0 (fun b=>decide (b<W.heap.size)) true ts vs ds ps
 | [],[],[],_,_,_,h=>h
 | t::ts,v::vs,d::ds,ps,ht,hp,h=>by
  obtain ⟨p,q,h1,h2,rfl⟩:=h;simp only [List.all_cons,Bool.and_eq_true,decide_eq_true_eq] at ht;exact ⟨p,q,RowKit.Below.trod hl ht.1.1 ht.1.2 h1 hb (fun x hx=>hp x (List.mem_append_left _ hx)),trodAll_below hl hb (by simpa using ht.2) (fun x hx=>hp x (List.mem_append_right _ hx)) h2,rfl⟩
 | [],[],_::_,_,_,_,h=>h.elim
 | [],_::_,_,_,_,_,h=>h.elim
 | _::_,[],_,_,_,_,h=>h.elim
 | _::_,_::_,[],_,_,_,h=>h.elim
theorem law_post {H:Type} {enc:TypeId × Value→H} {P:Program} {f:Func} {s:ChangeSpec} {fresh handsOn:Bool} {W W':World} {args:Array Value} {ds gs:List (DataW H)} {before:List MemPlace} {tb:TypeId}
  (hl:laidOutB P=true) (hW:DataW.Whole enc P f.params.toList s.vars false W args.toList ds gs before) (hv:s.vars=[]) (ht:(f.params.toList.all fun t=>P.readableRec t && decide (t<P.types.size))=true)
  (hr:f.resultTypes = #[tb]) (hb:P.underlying tb=some .bool) (hs:s.fn H ds = { results:=[.lit (.bool true)],args:=ds }) {h':Heap} (a:At (Env.of W) h' W') (x:Ext W.heap h') :
  s.post enc P f false fresh handsOn false W args (.bool true) W':=by
 have bel:=Below.of a x;have hlt:=hW.lt;obtain ⟨p,q,hA,hV,rfl,hfz,hnd⟩:=hW;rw [hv] at hV;cases gs with
 | cons g gs=>exact hV.elim
 | nil=>
  have hq:q=[]:=hV;subst hq;rw [List.append_nil] at *;refine ⟨ds,[],p,[],p,[],⟨p,[],hA,by rw [hv];rfl,by simp,hfz,hnd⟩,?_,?_,?_,bel.frame _,fun h=>by cases h⟩
  ·rw [List.append_nil,hs,hr];exact trodAll_mk1 (shut_bool hb _)
  ·rw [List.append_nil,hs];exact trodAll_below hl bel ht (fun x hx=>hlt x (by simpa using hx)) hA
  ·rw [List.append_nil,hs,hv];rfl
theorem addr_add (b o j:Nat):(⟨b,o,none⟩:Addr).add j=⟨b,o+j,none⟩:=by unfold Addr.add;split<;>simp_all
theorem byte_val {z:Int} (w:(Lit.int .u8 z).wf=true):∃x:UInt8,z=(x.toNat:Int):=by
 have hr:0≤z∧z≤255:=by simpa [Lit.wf,IntKind.min,IntKind.max,IntKind.signed,IntKind.bits] using w
 refine ⟨UInt8.ofNat z.toNat,?_⟩;simp;omega
structure Opn (P:Program) (t:TypeId) {α:Type} (R:Heap→List Value→α→Prop):Prop where
 run:∀ {H:Type} {enc:TypeId × Value→H} {w:World} {sp:Nat→Bool} {held:Bool} {fuel:Nat} {cs:List Value} {x:DataW H × List MemPlace},DataW.trod enc P w 0 sp held fuel t cs=some x→∃a,R w.heap cs a
section
variable {P:Program} {t e:TypeId}
theorem Opn.mono {α β:Type} {R:Heap→List Value→α→Prop} {R':Heap→List Value→β→Prop} (o:Opn P t R) (h:∀hp cs a,R hp cs a→∃b,R' hp cs b):Opn P t R':=⟨fun hx=>let ⟨a,ha⟩:=o.run hx;h _ _ a ha⟩
theorem Opn.u8 (ht:P.underlying t=some (.int .u8)):Opn P t (fun _ cs (x:UInt8)=>cs=[bv x]):=⟨fun hx=>by
 obtain ⟨n,rfl,_,hw⟩:=DataW.trod_int ht hx;obtain ⟨x,rfl⟩:=byte_val hw;exact ⟨x,rfl⟩⟩
theorem cells_spot {w:World} {base k:Nat} {b o:Nat} {spot:_} {cs:List Value} (h:w.cells? base ((⟨b,o,spot⟩:Addr).add (0*k)) k=some cs) (hk:0<k):spot=none:=by
 obtain ⟨_,h1,h2⟩:=World.cells?_some h;obtain ⟨c,hc⟩:∃c,cs[0]? = some c:=⟨cs[0],by simp [h1,hk]⟩;have h3:=h2 0 hk;rw [hc] at h3;have h4:=World.cell?_spot h3;simpa [Addr.add] using h4
theorem cells_at {w:World} {base k:Nat} {b o i:Nat} {cs:List Value} (h:w.cells? base ((⟨b,o,none⟩:Addr).add (i*k)) k=some cs):cs.length=k∧∀j v,cs[j]? = some v→cell w.heap b (o+i*k+j)=some v:=by
 obtain ⟨_,h1,h2⟩:=World.cells?_some h;refine ⟨h1,fun j v hv=>?_⟩;have hj:j<k:=by have:=(List.getElem?_eq_some_iff.1 hv).1;omega
 have h3:=h2 j hj;rw [hv,addr_add,addr_add,cell?_eq] at h3;exact h3
theorem choose_lists {α β:Type} {R:Nat→β→α→Prop} : ∀(n:Nat),(∀i,i<n→∃y z,R i y z)→∃(os:List β) (l:List α),os.length=n∧l.length=n∧∀i (h1:i<os.length) (h2:i<l.length),R i os[i] l[i]
 | 0,_=>⟨[],[],rfl,rfl,fun i h=>absurd h (by simp)⟩
 | n+1,each=>by
  obtain ⟨os,l,g1,g2,g3⟩:=choose_lists n (fun i hi=>each i (by omega));obtain ⟨y,z,g4⟩:=each n (by omega);refine ⟨os++[y],l++[z],by simp [g1],by simp [g2],fun i h1 h2=>?_⟩;by_cases hi:i<n
  ·have e1:(os++[y])[i]=os[i]'(by omega):=List.getElem_append_left (by omega);have e2:(l++[z])[i]=l[i]'(by omega):=List.getElem_append_left (by omega);rw [e1,e2];exact g3 i _ _
  ·have hi':i=n:=by simp [g1] at h1;omega
   subst hi';have e1:(os++[y])[i]=y:=by simp [g1]
   have e2:(l++[z])[i]=z:=by simp [g2]
   rw [e1,e2];exact g4
theorem map_one {α β:Type} (f:α→β):∀l:List α,l.map f=l.flatMap fun x=>[f x]
 | []=>rfl
 | x::l=>by simp only [List.map_cons,List.flatMap_cons,←map_one f l];rfl
theorem Opn.slice {α β:Type} {f:β→List Value} {Q:Heap→β→α→Prop} {k:Nat} (ht:P.underlying t=some (.slice e)) (hk:P.cellsOf e=k) (hk0:0<k) (hf:∀o,(f o).length=k) (he:Opn P e (fun h cs a=>∃o,cs=f o∧Q h o a)) :
  Opn P t (fun h cs (l:List α)=>∃(x:SV) (os:List β),cs=[sv x]∧Sl h k (sv x) (os.flatMap f)∧All2 (Q h) os l):=by
 refine ⟨?_⟩;intro H enc w sp held fuel cs x hx;rcases DataW.trod_slice ht hx with ⟨rfl,_⟩ | ⟨a,len,cap,elems,rest,n,_,rfl,_,_,hl,hm,hlen,hel,_,_⟩
 ·exact ⟨[],(none,0,0),[],rfl,Sl.nil _ _,All2.nil⟩
 obtain ⟨b,o,spot⟩:=a;have get:∀i,i<len→∃cs,w.cells? 0 ((⟨b,o,spot⟩:Addr).add (i*k)) k=some cs∧∃z y,cs=f y∧Q w.heap y z:=fun i hi=>by
  have h1:=hel i hi;have h2:elems[i]? = some (elems[i]'(by omega)):=by simp
  rw [h2,hk,Option.bind_eq_some_iff] at h1;obtain ⟨cs,h3,h4⟩:=h1;obtain ⟨z,y,hq⟩:=he.run h4;exact ⟨cs,h3,z,y,hq⟩
 have hspot:0<len→spot=none:=fun hp=>let ⟨_,h,_⟩:=get 0 hp;cells_spot h hk0;obtain ⟨os,l,ho1,hl1,hall⟩:=choose_lists (R:=fun i y z=>Q w.heap y z∧∀j v,(f y)[j]? = some v→cell w.heap b (o+i*k+j)=some v) len (fun i hi=>by
  obtain ⟨cs,h3,z,y,rfl,hq⟩:=get i hi;have:=hspot (by omega);subst this;exact ⟨y,z,hq,(cells_at h3).2⟩)
 unfold maxLen at hm;refine ⟨l,(some ⟨b,o,spot⟩,len,cap),os,rfl,⟨_,_,_,rfl,hl,by omega,?_,fun hp=>?_⟩,by omega,fun i h1 h2=>(hall i h1 h2).1⟩
 ·rw [flat_len hf,ho1]
 ·have hs:=hspot hp;subst hs;refine ⟨b,o,rfl,fun i x hi=>?_⟩;have hlt:=(List.getElem?_eq_some_iff.1 hi).1;rw [flat_len hf,ho1] at hlt;have hdm:i=i / k*k+i%k:=by rw [Nat.mul_comm];exact (Nat.div_add_mod i k).symm
  have h1:i / k<len:=Nat.div_lt_of_lt_mul (by rw [Nat.mul_comm];exact hlt);have h2:i%k<k:=Nat.mod_lt _ hk0;rw [hdm,flat_at hf os (i / k) (i%k) (by omega) h2] at hi;rw [hdm,←Nat.add_assoc];exact (hall (i / k) (by omega) (by omega)).2 _ _ hi
theorem Opn.bytes (ht:P.underlying t=some (.slice e)) (he:P.underlying e=some (.int .u8)) (hc:P.cellsOf e=1):Opn P t (fun h cs (l:List UInt8)=>∃x:SV,cs=[sv x]∧Bytes h (sv x) l):=
 (Opn.slice (f:=fun x:UInt8=>[bv x]) (Q:=fun _ o a=>o=a) ht hc (by omega) (fun _=>rfl) ((Opn.u8 he).mono fun _ _ a h=>⟨a,a,h,rfl⟩)).mono fun h cs l ⟨x,os,h1,h2,h3⟩=>by
  have:os=l:=List.ext_getElem h3.1 fun i h4 h5=>h3.2 i h4 h5;subst this;refine ⟨os,x,h1,?_⟩;have e:=map_one bv os;unfold Bytes;rw [e];exact h2
theorem Opn.arg {α:Type} {R:Heap→List Value→α→Prop} (o:Opn P t R) {H:Type} {enc:TypeId × Value→H} {w:World} {sp:Nat→Bool} {held:Bool} {v:Value} {d:DataW H} {ps:List MemPlace} (h:DataW.Trod enc P w 0 sp held t v d ps):∃a,R w.heap v.cells.toList a:=
 let ⟨_,hf⟩:=h;o.run hf
end
open Go
theorem sv_cells {a:Option Addr} {n c:Nat} {x:SV} (h:(Value.slice a n c).cells.toList=[sv x]):x=(a,n,c):=by
 simp [Value.cells] at h;obtain ⟨h1,h2,h3⟩:=h;obtain ⟨x1,x2,x3⟩:=x;simp_all
end Go.HL
namespace Go.Proofs.YtndlpekckpdncaaGreat
open Go Go.HL
theorem _root_.Go.HL.RdL.of_slr {α:Type} [Rep α] {h:Heap} {E:Nat→Prop} {x:SV} {css:List (List Value)} {l:List α} (hs:Sl h (Rep.k α) (sv x) css.flatten) (r:All2 (Rep.rd h E) css l):RdL h any_ E x l:=by
 obtain ⟨a,n,c'⟩:=x;have hk:=Rep.kpos (α:=α);have hlen:∀cs∈css,cs.length=Rep.k α:=fun cs hcs=>by
  obtain ⟨i,hi,rfl⟩:=List.mem_iff_getElem.1 hcs;exact Rep.len (r.2 i hi (by have:=r.1;omega))
 have hn:css.length=n:=by
  have h1:=hs.cells.1;rw [flatten_len hlen] at h1;exact Nat.eq_of_mul_eq_mul_right hk h1
 obtain ⟨a',n',c2,hv,g1,g2,g3⟩:=id hs;injection hv with e1 e2 e3;simp only at e1 e2 e3;subst e1 e2 e3;refine ⟨by have:=r.1;simp;omega,g1,g2,fun hp=>?_⟩;have hn0:0<n:=by have:=r.1;omega
 obtain ⟨b,o,rfl,hc⟩:=hs.cells.pos hn0;refine ⟨b,o,rfl,trivial,fun i hi=>⟨css[i]'(by have:=r.1;omega),r.2 i _ hi,fun j v hj=>?_⟩⟩;have h1:i<css.length:=by have:=r.1;omega
 have h2:j<Rep.k α:=by
  have h3:=(List.getElem?_eq_some_iff.1 hj).1;rwa [hlen _ (List.getElem_mem h1)] at h3
 rw [Nat.add_assoc];exact hc _ _ (by rw [flatten_at hlen i j h1 h2];exact hj)
theorem opn_rows17:Opn Tryz.prog 28 (fun h cs (l:List (List UInt8))=>∃x:SV,cs=[sv x]∧RdL h any_ any_ x l):=
 (Opn.slice (f:=fun x:SV=>[sv x]) (Q:=fun h (o:SV) (a:List UInt8)=>Bytes h (sv o) a) Tryz.underlying28 (by kernel_rfl:_=1) (by omega) (fun _=>rfl) ((Opn.bytes Tryz.underlying44 Tryz.underlying5 (by kernel_rfl)).mono fun _ _ l ⟨x,e,hb⟩=>⟨l,x,e,hb⟩)).mono fun h cs l ⟨x,os,h1,h2,h3⟩=>⟨l,x,h1,
  RdL.of_slr (α:=List UInt8) (css:=os.map fun x=>[sv x]) (by rw [←List.flatMap_def];exact h2) (h3.map fun o f hb=>⟨o,rfl,(RdL.ofBytes (E:=any_) hb).mono (fun _ _=>trivial) (fun _ h=>h)⟩)⟩
theorem spillReads_row {h:Heap} {x:UInt8} {a:Option Addr} {n c:Nat} {l:List (List UInt8)} {first many:Int} (hl:RdL h any_ any_ (a,n,c) l) (hf:i64N first) (hm:i64N many) :
  HC Tryz.prog 6 #[.int .u8 (x.toNat:Int),.slice a n c,.int .i64 first,.int .i64 many] h (fun v h'=>v=.bool true∧Ext h h'):=by
 obtain rfl:n=l.length:=hl.n;exact spillReads_walk hl x.toNat_lt hf hm
end Go.Proofs.YtndlpekckpdncaaGreat
