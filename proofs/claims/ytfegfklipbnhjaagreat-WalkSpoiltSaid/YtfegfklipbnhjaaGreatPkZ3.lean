/- Numbers in bytes: num.Fixed, num.Read, bytes.Join, num.Join, and the document's Fixed and Read. Conditions: the slices are readable, the sizes 1 to 8. Sums of bytes: sum.table, Sum, Next, foot, Seal, and the document's. Conditions: the slices are readable. Logs in plain terms: heads, frames, links, and how a log is scanned. Conditions: those that each fact names. Numbers in groups of seven bits, and cells in bytes, in plain terms. Conditions: those that each fact names. Nodes in pages of slots, in plain terms. Conditions: those that each fact names. append(b, make([]byte, k)...): as many noughts behind. Conditions: those that each rule names. Bytes and strings: a slice of bytes that becomes a string, and one that is marked as a constant's. Conditions: those that each rule names. Seals: sum.foot, Seal, and the document's Seal. Conditions: the slices are readable. A number from 256 to 4096 has no bit in common with its predecessor just if it is one of five. Conditions: none. Logs: Same, sizes, frames, heads, links and what is put, of the program and of the document. Conditions: the slices are readable, numbers in their ranges. The reader of a log: number, head. Conditions: the bytes are readable and no part of the reader. Copies of bytes and of slices; the reader of a log: frame. Conditions: the bytes are readable and no part of the reader. Pages of slots are read. Conditions: the page's bytes are readable. Structs of integers alone: whether two of them are the same. Conditions: those that each rule names. Closed facts on the type api.Head, a struct of integers. Conditions: none. Maps as separate items: made, put into, looked up, deleted from, looped over. Conditions: those that each rule names. Strings as rows of bytes: their length, their order, maps by them; calls of function values. Conditions: those that each rule names. Heads of files: Check, bytes, Encode, Decode, of the program and of the document. Conditions: numbers in their ranges. Several items as one; what a call may turn alone, taken from and put back into what the caller has. Conditions: those that each fact names. The disk's files in plain terms, as the program has them. Conditions: those that each fact names. maps.Keys and slices.Sorted over a map of frames: its keys, sorted. Conditions: the keys are ints of 64 bits. Opening and carrying over, as the pager that logs ahead does them, on a disk in plain terms. Conditions: those that each fact names. -/
import Derived.Test.YtfegfklipbnhjaaGreatPkZ2
import Derived.Lib.AppendZerosOnto
import Derived.Laws.BytesString
import Derived.Laws.Strings
import Derived.Laws.StructEq
import Derived.Sort.Walk0
set_option maxRecDepth 100000
set_option maxHeartbeats 2000000
set_option linter.all false
namespace Go
@[reducible] def Hc:=HL.HC Go.Proofs.Tryz.prog
end Go
namespace Go.Proofs.YtfegfklipbnhjaaGreat
open Go Go.HL
section
variable {h:Heap} {a:Option Addr} {c:Nat} {F E:Nat->Prop}
def fixedN (n size:Nat):List UInt8:=(List.range size).map fun j=>UInt8.ofNat (n / 256 ^ (size-1-j))
theorem fixedN_len (n size:Nat):(fixedN n size).length=size:=by simp [fixedN]
def beN (l:List UInt8):Nat:=l.foldl (fun n x=>n*256+x.toNat) 0
def rdN (b:List UInt8) (p k:Nat):Nat:=beN ((b.drop p).take k)
theorem beN_snoc (l:List UInt8) (x:UInt8):beN (l++[x])=beN l*256+x.toNat:=by simp [beN]
theorem beN_lt (l:List UInt8):beN l<256 ^ l.length:=by
 suffices h:∀n,beN (l.take n)<256 ^ (l.take n).length by have:=h l.length;simpa using this
 intro n;induction n with
 | zero=>simp [beN]
 | succ n ih=>
  by_cases hn:n<l.length
  ·rw [take_next hn,beN_snoc,qA,List.length_singleton,Nat.pow_succ];have:=l[n].toNat_lt;have h2:beN (l.take n)*256+256<=256 ^ (l.take n).length*256:=by rw [<-Nat.succ_mul];exact qE _ ih
   omega
  ·rw [qY (by omega)] at ih⊢;exact ih
theorem bv_ofNat (m:Nat):bv (UInt8.ofNat m)=.int .u8 ((m%256:Nat):Int):=by simp [bv]
theorem set_bv {zs:List UInt8} {q m:Nat} : (zs.map bv).set q (.int .u8 ((m%256:Nat):Int))=(zs.set q (UInt8.ofNat m)).map bv:=by rw [List.map_set,bv_ofNat]
theorem shl8_or {m x:Nat} (hm:m<72057594037927936) (hx:x<256):m*2 ^ 8%18446744073709551616 ||| x=m*256+x:=by
 have h1:m*2 ^ 8%18446744073709551616=m <<< 8:=by rw [Nat.shiftLeft_eq];exact kD (by omega)
 rw [h1,<-Nat.shiftLeft_add_eq_or_of_lt (by simpa using hx),Nat.shiftLeft_eq]
theorem pow256 {j k:Nat} (h:j<=k):256 ^ j<=256 ^ k:=Nat.pow_le_pow_right (by omega) h
theorem fixed_any {n size:Nat} (hn:n<18446744073709551616) (h1:1<=size) (h8:size<=8) :
  Hc 154 #[.int .u64 (n:Int),.int .i64 (size:Int)] h (fun v h'=>Own h h' 1 5 v ((fixedN n size).map bv)):=by
 have ok:=Hp.nil h none_;refine HC.go Tryz.func154 32 ?_;refine .s<|.z .asS<|.nil<|.seq<|.s<|.z .mvI<|.z .lss<|.z .mvB<|.sd (fun G9=>?_) (fun G9=>?_)
 ·
  omega
 refine .z .mvI<|.z .gtr<|.z .pkf<|.nil<|.cd (fun C0=>?_) (fun C0=>?_)
 ·
  omega
 refine .skip<|.s<|.z .mvI<|.a' 14 (.mks size size T.el35 T.sz5 T.by5 T.zr5 ok) ?_;rintro _ U1 ⟨pb1,rfl,ok,xe⟩;have ok:=ok.cx (ys:=(List.replicate size (0:UInt8)).map bv) (zeros8 _);refine .z .asS<|.nil<|.seq<|.s<|.z .mvI<|.z .mvI<|.nil<|.block fun K0 hK0=>.loop (fun m s hh=>∃(i:Nat) (zs:List UInt8),Has s [(0,.int .u64 (n:Int)),(1,.int .i64 (size:Int)),(5,.slice (some ⟨pb1,0,none⟩) size size),(15,.int .i64 (size:Int)),(16,.int .i64 (i:Int))]/\Hp h none_ [capI 1 5 (some ⟨pb1,0,none⟩,size,size) (zs.map bv)] [] hh/\i<=size/\zs.length=size/\(∀j,j<i->zs[size-1-j]? = some (UInt8.ofNat (n / 256 ^ j)))/\m=size-i) ?_ ?_
 ·exact ⟨_,0,List.replicate size 0,⟨rfl,rfl,rfl,rfl,rfl,trivial⟩,ok.cx (by simp),by omega,by simp,fun j h=>by omega,rfl⟩
 rintro _ _ U2 ⟨i,zs,hs,ok,hi,hzl,hz,rfl⟩ J0 hJ0;refine .frame hs fun τ=>?_;refine .s<|.z .lss<|.nil<|.seq<|.cdr (fun C1=>?_) (fun C1=>?_)
 ·
  have hil:i=size:=by omega
  have hfin:zs=fixedN n size:=List.ext_getElem? fun q=>by
   unfold fixedN;by_cases hq:q<size
   ·have:=hz (size-1-q) (by omega);rw [show size-1-(size-1-q)=q by omega] at this;rw [this];simp [hq]
   ·rw [List.getElem?_eq_none (by omega),List.getElem?_eq_none (by simp;omega)]
  refine .exit<|hK0 _ _<|.s<|.z .mvS<|.z .asS<|.nil<|.ret ⟨.slice (some ⟨pb1,0,none⟩) size size,Res.one rfl rfl,by have h2:=ok.toOwn;rwa [hfin] at h2⟩
 have hil:i<size:=by omega
 have hz2:∀j,j<i+1->(zs.set (size-1-i) (UInt8.ofNat (n / 256 ^ i)))[size-1-j]? = some (UInt8.ofNat (n / 256 ^ j)):=fun j hj=>by
  rw [List.getElem?_set];by_cases e:j=i
  ·subst e;rw [if_pos rfl,if_pos (by omega)]
  ·rw [if_neg (by omega)];exact hz j (by omega)
 refine .skip<|.seq<|.block fun K1 hK1=>.s<|.z .mvI<|.z .asI<|.nil<|.r<|.z .mvS<|.z .mvI<|.z .sub<|.z .mvI<|.z .sub<|.z .mvI<|.z .mvI<|.z (.mulI (a:=8))<|.z (.shrn (M:=18446744073709551616) rfl (ha:=by omega))<|.z (.cvm T.in5 T.in207 (M:=256) rfl rfl)<|.z (.ix1 (size-1-i) T.el35 T.sz5)<|.ur' (.sxI (q:=(size-1-i)) T.sz5 ok) ?_;rintro U3 ⟨ok,cg⟩;refine .nil ?_;refine .end<|hK1 _ _<|.r<|.z (.addI (b:=1))<|.z .mvI<|.nil<|.end<|hJ0 _ _ _ ⟨i+1,zs.set (size-1-i) (UInt8.ofNat (n / 256 ^ i)),⟨rfl,rfl,rfl,rfl,rfl,trivial⟩,ok.cx (by first | rfl | (have e:2 ^ (8*i)=256 ^ i:=by rw [Nat.pow_mul]);rw [e];exact set_bv),by omega,by simp [hzl],hz2,rfl⟩ (by omega)
theorem read_any {l:List UInt8} (hl:RdL h F E (a,l.length,c) l) {p size:Nat} (h1:1<=size) (h8:size<=8) (hp:p+size<=l.length) :
  Hc 133 #[.slice a l.length c,.int .i64 (p:Int),.int .i64 (size:Int)] h (fun v h'=>v=.tuple #[.int .u64 ((rdN l p size:Nat):Int),.int .i64 0]/\h'=h):=by
 have hc2:=hl.m;have hc1:l.length<=c:=hl.c;simp only at hc2;obtain ⟨l2,hl2⟩:∃l2,l2=(l.drop p).take size:=⟨_,rfl⟩;have hl2n:l2.length=size:=by rw [hl2];simp;omega
 unfold rdN;rw [<-hl2];refine HC.go Tryz.func133 53 ?_;refine .s<|.z .asI<|.z .asI<|.nil<|.seq<|.block fun K0 hK0=>.s<|.z .mvI<|.z .lss<|.z .mvB<|.sd (fun G14=>?_) (fun G14=>?_)
 ·
  omega
 refine .z .mvI<|.z .gtr<|.z .pkf<|.z .mvB<|.sd (fun G18=>?_) (fun G18=>?_)
 ·
  omega
 refine .z .mvI<|.z .lss<|.z .pkf<|.z .asB<|.nil<|.cd (fun C0=>?_) (fun C0=>?_)
 ·
  omega
 refine .s<|.z .mvI<|.z .mvS<|.z (.len T.el35)<|.z .gtr<|.z .mvB<|.sd (fun G27=>?_) (fun G27=>?_)
 ·
  omega
 refine .z .mvS<|.z (.len T.el35)<|.z .mvI<|.z .sub<|.z .mvI<|.z .lss<|.z .pkf<|.z .asB<|.nil<|.cd (fun C1=>?_) (fun C1=>?_)
 ·
  omega
 refine .skip<|.end<|hK0 _ _<|.s<|.z .asI<|.nil<|.seq<|.s<|.z .mvS<|.z .mvI<|.z .mvI<|.z .mvI<|.z .addI<|.z (.slh p (p+size) T.el35 T.sz5)<|?_;generalize hc1:cutA a p c 1=ca1;have hk1:RdL h F E (ca1,(p+size)-p,c-p) l2:=(by have h1:=hl.cut (i:=p) (j:=(p+size)) (by omega) (by omega);rw [show ((l).drop p).take ((p+size)-p)=l2 from by rw [hl2];congr 1;omega] at h1;subst hc1;exact h1);refine .z (.len T.el35)<|.z .mvI<|.nil<|.block fun K1 hK1=>.loop (fun m s hh=>∃(j mm:Nat),Has s [(8,.int .u64 (mm:Int)),(40,.slice ca1 ((p+size)-p) (c-p)),(41,.int .i64 (((p+size)-p:Nat):Int)),(42,.int .i64 (j:Int))]/\h=hh/\j<=l2.length/\mm=beN (l2.take j)/\m=l2.length-j) ?_ ?_
 ·exact ⟨_,0,0,⟨rfl,rfl,rfl,rfl,trivial⟩,rfl,qL _,rfl,rfl⟩
 rintro _ _ _ ⟨j,mm,hs,rfl,hj,hm,rfl⟩ J0 hJ0;refine .frame hs fun τ=>?_;refine .s<|.z .lss<|.nil<|.seq<|.cdr (fun C2=>?_) (fun C2=>?_)
 ·
  have hjn:j=l2.length:=by omega
  have htk:l2.take j=l2:=qY (by omega);rw [htk] at hm;refine .exit<|hK1 _ _<|.s<|.z .mvI<|.z .asI<|.z .asI<|.nil<|.ret ⟨.tuple #[.int .u64 (mm:Int),.int .i64 0],Res.two rfl rfl rfl,⟨by rw [hm],rfl⟩⟩
 have hjl:j<l2.length:=by omega
 have hlt:beN (l2.take j)<72057594037927936:=kP (beN_lt _) (kN (pow256 (k:=7) (by simp;omega)) (by decide));have hsn:beN (l2.take (j+1))=beN (l2.take j)*256+l2[j].toNat:=by rw [take_next hjl,beN_snoc]
 refine .skip<|.seq<|.block fun K2 hK2=>.s<|?_;obtain ⟨bb1,oo1,rfl,fb1⟩:=hk1.pos (by omega);refine .z (.ix1 j T.el35 T.sz5)<|.z (.ld T.ag5 (hk1.u8 (i:=j) (by omega)))<|.z .asI<|.nil<|.r<|.z .mvI<|.z (.shln (M:=18446744073709551616) rfl rfl (b:=8))<|.z .mvI<|.z (.cvs T.in207 T.in5 (M:=18446744073709551616) rfl rfl)<|.z (.bor (M:=18446744073709551616) rfl rfl)<|.z .asI<|.nil<|.end<|hK2 _ _<|.r<|.z (.addI (b:=1))<|.z .mvI<|.nil<|.end<|hJ0 _ _ _ ⟨j+1,_,⟨rfl,rfl,rfl,rfl,trivial⟩,rfl,by omega,by rw [hm,hsn];exact shl8_or hlt (byte_lt _),rfl⟩ (by omega)
theorem _root_.Go.HL.Cap.clip {k:Nat} {e:TypeId} {n:Nat} {xs:List Value} (r:Cap h k e (.slice a n c) xs):Cap h k e (.slice a n n) xs:=by
 obtain ⟨a',n',c',e1,h1,h2,h3,h4⟩:=r;injection e1 with e1 e2 e3;subst e1 e2 e3;refine ⟨_,_,_,rfl,qR _,by omega,h3,?_⟩;rcases h4 with ⟨q1,q2⟩ | ⟨b,o,cs,fz,q1,q2,q3,q4⟩
 ·exact .inl ⟨q1,by omega⟩
 ·exact .inr ⟨b,o,cs,fz,q1,q2,by have:=qE k h1;omega,q4⟩
theorem _root_.Go.HL.Hp.clip {h0 h:Heap} {D:Nat->Prop} {M R:List Itm} {k:Nat} {e:TypeId} {a:Option Addr} {n c:Nat} {xs:List Value} (ok:Hp h0 D (capI k e (a,n,c) xs::M) R h):Hp h0 D (capI k e (a,n,n) xs::M) R h:=
 ok.re _ (Cap.clip ok.m0) (fun j hj=>by obtain ⟨o,n',c',hv⟩:=hj;injection hv with h1 h2 h3;have h4:a=some ⟨j,o,none⟩:=h1;exact ⟨o,n,c,by rw [h4]⟩)
theorem spl_nil (cs:List Value) (o:Nat):spl cs o []=cs:=by simp [spl]
theorem spl_end {xs zs ys:List Value} {p:Nat} (hp:p=xs.length):spl (xs++zs) p ys=(xs++ys)++zs.drop ys.length:=by
 subst hp;simp [spl,List.drop_append]
theorem flat_snoc {α:Type} {L:List (List α)} {j:Nat} (hj:j<L.length):(L.take (j+1)).flatten=(L.take j).flatten++L[j]:=by rw [take_next hj,List.flatten_append];simp
theorem flat_le {α:Type} (L:List (List α)) (j:Nat):(L.take j).flatten.length<=L.flatten.length:=by
 have:L.flatten=(L.take j).flatten++(L.drop j).flatten:=by rw [<-List.flatten_append,qT]
 rw [this];simp
theorem bjoin_any {L:List (List UInt8)} (hl:RdL h F E (a,L.length,c) L) (hN:L.flatten.length<=1000000000) :
  Hc 199 #[.slice a L.length c,.slice none 0 0] h (fun v h'=>Own h h' 1 5 v (L.flatten.map bv)):=by
 have hc2:=hl.m;have hc1:L.length<=c:=hl.c;simp only at hc2;have ok:=(Hp.nil h none_).arg hl;refine HC.go Tryz.func199 92 ?_;refine .s<|.z .asS<|.nil<|.seq<|.s<|.z .mvS<|.z (.len T.el79)<|.z .eql<|.nil<|.cd (fun C0=>?_) (fun C0=>?_)
 ·
  have hL0:=qW (show L.length=0 by omega);refine .s<|.a' 15 (.lit [] (cs:=[]) T.el35 T.sz5 T.zr5 ok trivial) ?_;rintro _ U1 ⟨pb1,rfl,ok,xe⟩;have ok:=ok.cx (ys:=([]:List UInt8).map bv) rfl;refine .z .asS<|.nil<|.ret ⟨.slice (some ⟨pb1,0,none⟩) 0 0,Res.one rfl rfl,by have:=ok.toOwn;rw [hL0];exact this⟩
 refine .skip<|.seq<|.s<|.z .mvS<|.z (.len T.el79)<|.z .eql<|.nil<|.cd (fun C1=>?_) (fun C1=>?_)
 ·
  have hlen:L.length=1:=by omega
  have hfl:L.flatten=L[0]:=by obtain ⟨x,hx⟩:=List.length_eq_one_iff.1 hlen;subst hx;simp
  have hll:=congrArg List.length hfl;refine .s<|.z .mvS<|?_;obtain ⟨bb1,oo1,rfl,fb1⟩:=ok.r0.pos (by omega);refine .z (.ix1 0 T.el79 T.sz35)<|?_;obtain ⟨ya1,yc1,he1,hr1⟩:=ok.r0.row (i:=0) (by omega);have ok:=ok.d0 (rdI (fun j=>E j/\j<h.size) (fun j=>E j/\j<h.size) (ya1,L[0].length,yc1) (L[0])) hr1 (fun _ h=>.inr (h.elim id id));refine .z (.ld T.ag35 he1)<|?_;have ok:=ok.nilC (k:=1) (e:=5);refine .a' 22 (.app (news:=(L[0]).map bv) T.el35 T.sz5 T.by5 T.zr5 ok (ok.r0).by bv_all (by simp only [qM,qA,qJ,qV,qB,kW,List.length_range];omega)) ?_;rintro _ U2 ⟨ya2,yn1,yc2,rfl,ok,ap⟩;have ok:=ok.cx (ys:=((L[0])).map bv) (by simp [bv]);obtain rfl:yn1=((L[0])).length:=ok.lenB;refine .z .asS<|.nil<|.ret ⟨.slice ya2 (((L[0])).length) yc2,Res.one rfl rfl,by have:=ok.toOwn;rw [hfl];simpa using this⟩
 refine .skip<|.s<|.z .asI<|.nil<|.seq<|.s<|.z .mvS<|.z (.len T.el35)<|.z .gtr<|.nil<|.cf<|.skip<|.seq<|.s<|.z .mvS<|.z (.len T.el79)<|.z .mvI<|.nil<|.block fun K0 hK0=>.loop (fun m s hh=>∃(j nn:Nat),Has s [(0,.slice a L.length c),(1,.slice none 0 0),(5,.int .i64 (nn:Int)),(42,.slice a L.length c),(43,.int .i64 (L.length:Int)),(44,.int .i64 (j:Int))]/\Hp h none_ [] [rdI (fun j=>F j/\j<h.size) (fun j=>E j/\j<h.size) (a,L.length,c) L] hh/\j<=L.length/\nn=(L.take j).flatten.length/\m=L.length-j) ?_ ?_
 ·exact ⟨_,0,0,⟨rfl,rfl,rfl,rfl,rfl,rfl,trivial⟩,ok,qL _,rfl,rfl⟩
 rintro _ _ U3 ⟨j,nn,hs,ok,hj,hnn,rfl⟩ J0 hJ0;refine .frame hs fun τ=>?_;refine .s<|.z .lss<|.nil<|.seq<|.cdr (fun C4=>?_) (fun C4=>?_)
 ·
  have hjl:j=L.length:=by omega
  have htk:L.take j=L:=qY (by omega);rw [htk] at hnn;refine .exit<|hK0 _ _<|.seq<|?_;obtain ⟨x0,L1,hL⟩:∃x0 L1,L=x0::L1:=by cases L with | nil=>exact absurd rfl C0 | cons x l=>exact ⟨x,l,rfl⟩
  have hx0:L[0]'(by omega)=x0:=by subst hL;rfl
  have hx1:=congrArg List.length hx0;have hL1:L.length=L1.length+1:=by subst hL;rfl
  have hLf:L.flatten.length=x0.length+L1.flatten.length:=by subst hL;simp
  refine .r<|.z .mvI<|.a' 60 (.mnz nn (e:=5) Tryz.func249 rfl (by decide) rfl rfl T.el35 ok) ?_;rintro _ U4 ⟨pb2,pc1,ps1,rfl,hpc,ok,xe⟩;have hzn:ps1.length=nn:=by have:=(Cap.sl ok.m0).cells.1;simp only at this;omega
  refine .z .mvI<|.z .mvI<|.z (.slhm nn nn T.el35 T.sz5)<|?_;have ok:=ok.clip;refine .z .asS<|.nil<|.s<|.z .mvS<|.z .mvS<|?_;obtain ⟨bb2,oo2,rfl,fb2⟩:=ok.r0.pos (by omega);refine .z (.ix1 0 T.el79 T.sz35)<|?_;obtain ⟨ya3,yc3,he2,hr2⟩:=ok.r0.row (i:=0) (by omega);have ok:=ok.d0 (rdI (fun j=>E j/\j<h.size) (fun j=>E j/\j<h.size) (ya3,L[0].length,yc3) (L[0])) hr2 (fun _ h=>.inr (h.elim id id));refine .z (.ld T.ag35 he2)<|.a' 68 (.cp0 (ys:=(L[0]).map bv) (m:=L[0].length) T.el35 T.sz5 ok ok.r0.by bv_all) ?_;rintro _ U5 ⟨rfl,ok,cg⟩;refine .z .asI<|.nil<|.seq<|.s<|.z .mvS<|.z (.sll 1 T.el79 T.sz35)<|?_;generalize hc1:cutA (some ⟨bb2,oo2,none⟩) 1 c 1=ca1;have ok:=ok.d1 (rdI (fun j=>F j/\j<h.size) (fun j=>E j/\j<h.size) (ca1,L.length-1,c-1) L1) (by have h1:=ok.r1.cut (i:=1) (j:=L.length) (by omega) (by omega);rw [show ((L).drop 1).take (L.length-1)=L1 from by subst hL;simp] at h1;subst hc1;exact h1) (fun _ h=>h);refine .z (.len T.el79)<|.z .mvI<|.nil<|.block fun K2 hK2=>.loop (fun m s hh=>∃(j n2:Nat) (zs:List Value),Has s [(1,.slice none 0 0),(8,.slice (some ⟨pb2,0,none⟩) nn nn),(9,.int .i64 (n2:Int)),(70,.slice ca1 (L.length-1) (c-1)),(71,.int .i64 ((L.length-1:Nat):Int)),(72,.int .i64 (j:Int))]/\Hp h none_ [capI 1 5 (some ⟨pb2,0,none⟩,nn,nn) ((x0++(L1.take j).flatten).map bv++zs)] [rdI (fun j=>F j/\j<h.size) (fun j=>E j/\j<h.size) (ca1,L.length-1,c-1) L1,rdI (fun j=>E j/\j<h.size) (fun j=>E j/\j<h.size) (ya3,L[0].length,yc3) (L[0]),rdI (fun j=>F j/\j<h.size) (fun j=>E j/\j<h.size) (some ⟨bb2,oo2,none⟩,L.length,c) L] hh/\j<=L1.length/\n2=x0.length+(L1.take j).flatten.length/\zs.length+n2=nn/\m=L1.length-j) ?_ ?_
  ·exact ⟨_,0,_,ps1.drop (L[0].map bv).length,⟨rfl,rfl,rfl,rfl,rfl,rfl,trivial⟩,ok.cx (by simp [hx0]),qL _,by simp [hx0],by simp [hx0];omega,rfl⟩
  rintro _ _ U6 ⟨j,n2,zs,hs,ok,hj,hn2,hz,rfl⟩ J1 hJ1;refine .frame hs fun τ=>?_;refine .s<|.z .lss<|.nil<|.seq<|.cdr (fun C6=>?_) (fun C6=>?_)
  ·
   have hjl:j=L1.length:=by omega
   have htk:L1.take j=L1:=qY (by omega);have hz0:zs=[]:=qW (by rw [htk] at hn2;omega);refine .exit<|hK2 _ _<|.s<|.z .mvS<|.z .asS<|.nil<|.ret ⟨.slice (some ⟨pb2,0,none⟩) nn nn,Res.one rfl rfl,by have:=ok.toOwn;rw [hz0,htk] at this;rw [hL];simpa using this⟩
  have hjl:j<L1.length:=by omega
  have hsn:=congrArg List.length (flat_snoc hjl);rw [qA] at hsn;have hle:=flat_le L1 (j+1);refine .skip<|.seq<|.block fun K3 hK3=>.s<|?_;obtain ⟨bb3,oo3,rfl,fb3⟩:=ok.r0.pos (by omega);refine .z (.ix1 j T.el79 T.sz35)<|?_;obtain ⟨ya4,yc4,he3,hr3⟩:=ok.r0.row (i:=j) (by omega);have ok:=ok.d0 (rdI (fun j=>E j/\j<h.size) (fun j=>E j/\j<h.size) (ya4,L1[j].length,yc4) (L1[j])) hr3 (fun _ h=>.inr (h.elim id id));refine .z (.ld T.ag35 he3)<|.z .asS<|.nil<|.s<|.z .mvI<|.z .mvS<|.z .mvI<|.z (.sll n2 T.el35 T.sz5)<|.z .mvS<|.a' 81 (.cpy (ys:=[]) (m:=0) n2 T.el35 T.sz5 ok (Sl.nil _ 1) (oneL rfl) rfl) ?_;rintro _ U7 ⟨rfl,ok,cg⟩;refine .z (.addI (b:=0))<|.z .asI<|.nil<|.r<|.z .mvI<|.z .mvS<|.z .mvI<|.z (.sll (n2+0) T.el35 T.sz5)<|.z .mvS<|.a' 88 (.cpy (ys:=(L1[j]).map bv) (m:=L1[j].length) (n2+0) T.el35 T.sz5 ok ok.r0.by bv_all rfl) ?_;rintro _ U8 ⟨rfl,ok,cg⟩;refine .z .addI<|.z .asI<|.nil<|.end<|hK3 _ _<|.r<|.z (.addI (b:=1))<|.z .mvI<|.nil<|.end<|hJ1 _ _ _ ⟨j+1,_,zs.drop (L1[j].map bv).length,⟨rfl,rfl,rfl,rfl,rfl,rfl,trivial⟩,ok.tR.cx (by rw [spl_nil,spl_end (by rw [qM,qA];omega),flat_snoc hjl];simp),by omega,by omega,by simp;omega,rfl⟩ (by omega)
 have hjl:j<L.length:=by omega
 have hsn:=congrArg List.length (flat_snoc hjl);rw [qA] at hsn;have hle:=flat_le L (j+1);refine .skip<|.seq<|.block fun K1 hK1=>.s<|?_;obtain ⟨bb4,oo4,rfl,fb4⟩:=ok.r0.pos (by omega);refine .z (.ix1 j T.el79 T.sz35)<|?_;obtain ⟨ya5,yc5,he4,hr4⟩:=ok.r0.row (i:=j) (by omega);have ok:=ok.d0 (rdI (fun j=>E j/\j<h.size) (fun j=>E j/\j<h.size) (ya5,L[j].length,yc5) (L[j])) hr4 (fun _ h=>.inr (h.elim id id));refine .z (.ld T.ag35 he4)<|.z .asS<|.nil<|.seq<|.s<|.z .mvS<|.z (.len T.el35)<|.z .mvI<|.z .sub<|.z .gtr<|.nil<|.cd (fun C5=>?_) (fun C5=>?_)
 ·
  omega
 refine .skip<|.r<|.z .mvI<|.z .mvS<|.z (.len T.el35)<|.z .addI<|.z .asI<|.nil<|.end<|hK1 _ _<|.r<|.z (.addI (b:=1))<|.z .mvI<|.nil<|.end<|hJ0 _ _ _ ⟨j+1,_,⟨rfl,rfl,rfl,rfl,rfl,rfl,trivial⟩,ok.tR,by omega,by omega,rfl⟩ (by omega)
theorem njoin_any {L:List (List UInt8)} (hl:RdL h F E (a,L.length,c) L) (hN:L.flatten.length<=1000000000) :
  Hc 153 #[.slice a L.length c] h (fun v h'=>Own h h' 1 5 v (L.flatten.map bv)):=by
 have ok:=(Hp.nil h none_).arg hl;refine HC.go Tryz.func153 5 ?_;refine .s<|.z .asS<|.nil<|.s<|.z .mvS<|.c' 4 .func (bjoin_any (a:=a) (c:=c) (L:=L) ok.r0 hN) ?_;rintro _ U1 own;obtain ⟨ya1,yc1,rfl⟩:=own.formB;have ok:=ok.own own;refine .z .asS<|.nil<|.ret ⟨.slice ya1 (((L).flatten).length) yc1,Res.one rfl rfl,ok.toOwn⟩
end
open Go Go.HL
section
variable {c:Nat}
def bitN (c:Nat):Nat:=if c%2=1 then c / 2 ^^^ 2197175160 else c / 2
def stN:Nat->Nat->Nat
 | 0,c=>c
 | k+1,c=>bitN (stN k c)
def crcN (c:Nat) (l:List UInt8):Nat:=l.foldl (fun c x=>stN 8 (c ^^^ x.toNat)) c
@[irreducible] def sumN (l:List UInt8):Nat:=4294967295-crcN 4294967295 l
theorem sumN_def (l:List UInt8):sumN l=4294967295-crcN 4294967295 l:=by unfold sumN;rfl
theorem bitN_lt (h:c<4294967296):bitN c<4294967296:=by
 unfold bitN;split
 ·exact Nat.xor_lt_two_pow (n:=32) (by omega) (by omega)
 ·omega
theorem stN_lt {c:Nat} (h:c<4294967296):∀k,stN k c<4294967296
 | 0=>h
 | k+1=>bitN_lt (stN_lt h k)
theorem byte32 (h:c<4294967296) (x:UInt8):c ^^^ x.toNat<4294967296:=Nat.xor_lt_two_pow (n:=32) h (Nat.lt_trans x.toNat_lt (by decide))
theorem crcN_lt:∀ {c:Nat} (_:c<4294967296) (l:List UInt8),crcN c l<4294967296
 | _,h,[]=>h
 | c,h,x::l=>crcN_lt (c:=stN 8 (c ^^^ x.toNat)) (stN_lt (byte32 h x) 8) l
theorem crcN_snoc (c:Nat) (l:List UInt8) (x:UInt8):crcN c (l++[x])=stN 8 (crcN c l ^^^ x.toNat):=by simp [crcN]
theorem bitN_xor (a b:Nat):bitN (a ^^^ b)=bitN a ^^^ bitN b:=by
 have h:=@Nat.xor_mod_two_eq_one a b;unfold bitN;rw [Nat.xor_div_two];by_cases ha:a%2=1<;>by_cases hb:b%2=1
 ·rw [if_neg (by rw [h];simp [ha,hb]),if_pos ha,if_pos hb,Nat.xor_assoc,Nat.xor_comm 2197175160,Nat.xor_assoc (b / 2),Nat.xor_self,Nat.xor_zero]
 ·rw [if_pos (by rw [h];simp [ha,hb]),if_pos ha,if_neg hb,Nat.xor_assoc,Nat.xor_assoc,Nat.xor_comm (b / 2)]
 ·rw [if_pos (by rw [h];simp [ha,hb]),if_neg ha,if_pos hb,Nat.xor_assoc]
 ·rw [if_neg (by rw [h];simp [ha,hb]),if_neg ha,if_neg hb]
theorem stN_xor (a b:Nat):∀k,stN k (a ^^^ b)=stN k a ^^^ stN k b
 | 0=>rfl
 | k+1=>by unfold stN;rw [stN_xor a b k,bitN_xor]
theorem stN_add (a c:Nat):∀b,stN (a+b) c=stN b (stN a c)
 | 0=>rfl
 | b+1=>by show bitN (stN (a+b) c)=bitN (stN b (stN a c));rw [stN_add a c b]
theorem bitN_even (q:Nat):bitN (2*q)=q:=by unfold bitN;rw [if_neg (by omega)];omega
theorem split16 (c:Nat):c=(c / 16*16) ^^^ (c%16):=by
 apply Nat.eq_of_testBit_eq;intro i;rw [Nat.testBit_xor];have h2:(c / 16*16).testBit i=(decide (4<=i) && (c / 16).testBit (i-4)):=by
  have:c / 16*16=(c / 16) <<< 4:=by rw [Nat.shiftLeft_eq]
  rw [this,Nat.testBit_shiftLeft]
 have h3:(c%16).testBit i=(decide (i<4) && c.testBit i):=by
  have:c%16=c%2 ^ 4:=by rfl
  rw [this,Nat.testBit_mod_two_pow]
 have h4:(c / 16).testBit (i-4)=c.testBit (4+(i-4)):=by
  have:c / 16=c >>> 4:=by rw [Nat.shiftRight_eq_div_pow]
  rw [this,Nat.testBit_shiftRight]
 rw [h2,h3,h4];by_cases hi:4<=i
 ·rw [show 4+(i-4)=i by omega];simp [hi,Nat.not_lt.2 hi]
 ·simp [hi,Nat.not_le.1 hi]
theorem stN_four (c:Nat):stN 4 c=c / 16 ^^^ stN 4 (c%16):=by
 have h:stN 4 (c / 16*16)=c / 16:=by
  show bitN (bitN (bitN (bitN (c / 16*16))))=_;rw [show c / 16*16=2*(2*(2*(2*(c / 16)))) by omega,bitN_even,bitN_even,bitN_even,bitN_even]
 conv=>lhs;rw [split16 c,stN_xor,h]
theorem and15 (c:Nat):c &&& 15=c%16:=Nat.and_two_pow_sub_one_eq_mod c 4
def tabN:List Nat:=(List.range 16).map (stN 4)
theorem tabN_at {i:Nat} (h:i<16):tabN[i]? = some (stN 4 i):=by unfold tabN;simp [h]
@[reducible] def w32 (n:Nat):Value:=.int .u32 ((n:Nat):Int)
theorem four_step {q r:Nat} (hq:q=c / 2 ^ 4) (hr:r=stN 4 (c &&& 15)):q ^^^ r=stN 4 c:=by subst hq hr;rw [and15,<-stN_four]
def sealN (l:List UInt8):List UInt8:=l++[UInt8.ofNat (sumN l),UInt8.ofNat (sumN l / 2 ^ 8),UInt8.ofNat (sumN l / 2 ^ 16),UInt8.ofNat (sumN l / 2 ^ 24)]
theorem table_any {h:Heap} :
  Hc 228 #[] h (fun v h'=>v=.agg (tabN.map w32).toArray/\Ext h h'):=by
 have ok:=Hp.nil h none_;refine HC.go Tryz.func228 26 ?_;refine .s<|.a' 0 (.alA T.zr318 ok) ?_;rintro _ U1 ⟨pb1,rfl,ok,xe⟩;refine .nil ?_;refine .s<|.a' 1 (.alA T.zr318 ok) ?_;rintro _ U2 ⟨pb2,rfl,ok,xe⟩;refine .nil ?_;refine .seq<|.s<|.z .mvI<|.nil<|.block fun K0 hK0=>.loop (fun m s hh=>∃(i:Nat),Has s [(0,.pointer (some ⟨pb1,0,none⟩)),(1,.pointer (some ⟨pb2,0,none⟩)),(5,.int .i64 (i:Int))]/\Hp h none_ [boxI pb2 318 (((List.range i).map (stN 4)++List.replicate (16-i) 0).map w32),boxI pb1 318 [.int .u32 0,.int .u32 0,.int .u32 0,.int .u32 0,.int .u32 0,.int .u32 0,.int .u32 0,.int .u32 0,.int .u32 0,.int .u32 0,.int .u32 0,.int .u32 0,.int .u32 0,.int .u32 0,.int .u32 0,.int .u32 0]] [] hh/\i<=16/\m=16-i) ?_ ?_
 ·exact ⟨_,0,⟨rfl,rfl,rfl,trivial⟩,ok.n1.n1.bx (by rfl),qL _,rfl⟩
 rintro _ _ U3 ⟨i,hs,ok,hi,rfl⟩ J0 hJ0;refine .frame hs fun τ=>?_;refine .s<|.z .lss<|.nil<|.seq<|.cdr (fun C0=>?_) (fun C0=>?_)
 ·
  have hi16:i=16:=by omega
  subst hi16;refine .exit<|hK0 _ _<|.s<|.z (.ldb T.ag318 ok.m0 T.sz318)<|.ur' (.stW (vs:=tabN.map w32) T.sz318 ok.n1 (oneL rfl)) ?_;rintro U4 ⟨ok,cg⟩;refine .nil ?_;refine .ret ⟨.agg (tabN.map w32).toArray,Res.many (vs:=[.agg (tabN.map w32).toArray]) rfl ⟨⟨_,rfl,load_ag T.ag318 ok.m0 T.sz318⟩,trivial⟩ rfl,⟨rfl,ok.chg⟩⟩
 refine .skip<|.seq<|.block fun K1 hK1=>.s<|.z .mvI<|.z .asI<|.nil<|.s<|.z .mvI<|.z (.cvm T.in260 T.in3 (M:=4294967296) rfl rfl)<|.z .asI<|.nil<|.seq<|.s<|.z .mvI<|.nil<|.block fun K2 hK2=>.loop (fun m s hh=>∃(k cc:Nat),Has s [(0,.pointer (some ⟨pb1,0,none⟩)),(1,.pointer (some ⟨pb2,0,none⟩)),(2,.int .i64 (i:Int)),(3,.int .u32 (cc:Int)),(5,.int .i64 (i:Int)),(10,.int .i64 (k:Int))]/\Hp h none_ [boxI pb2 318 (((List.range i).map (stN 4)++List.replicate (16-i) 0).map w32),boxI pb1 318 [.int .u32 0,.int .u32 0,.int .u32 0,.int .u32 0,.int .u32 0,.int .u32 0,.int .u32 0,.int .u32 0,.int .u32 0,.int .u32 0,.int .u32 0,.int .u32 0,.int .u32 0,.int .u32 0,.int .u32 0,.int .u32 0]] [] hh/\k<=4/\cc=stN k i/\m=4-k) ?_ ?_
 ·exact ⟨_,0,_,⟨rfl,rfl,rfl,rfl,rfl,rfl,trivial⟩,ok.n1.n1,qL _,kD (by omega),rfl⟩
 rintro _ _ U5 ⟨k,cc,hs,ok,hk,hcc,rfl⟩ J1 hJ1;refine .frame hs fun τ=>?_;refine .s<|.z .lss<|.nil<|.seq<|.cdr (fun C1=>?_) (fun C1=>?_)
 ·
  have hk4:k=4:=by omega
  rw [hk4] at hcc;have hil:i<((List.range i).map (stN 4)++List.replicate (16-i) 0).length:=by simp;omega
  have hset:(((List.range i).map (stN 4)++List.replicate (16-i) 0).set i cc)=(List.range (i+1)).map (stN 4)++List.replicate (16-(i+1)) 0:=by
   rw [hcc,List.set_append_right _ _ (by simp),show 16-i=16-(i+1)+1 by omega,List.replicate_succ,List.range_succ];simp
  refine .exit<|hK2 _ _<|.r<|.z .mvI<|.z .mvI<|.z (.ixa i T.ar318 T.sz260)<|.ur' (.sa (f:=w32) cc T.sz260 ok (q:=i) hil) ?_;rintro U6 ⟨ok,cg⟩;refine .nil ?_;refine .end<|hK1 _ _<|.r<|.z .add<|.z .mvI<|.nil<|.end<|hJ0 _ _ _ ⟨i+1,⟨rfl,rfl,rfl,trivial⟩,ok.n1.n1.bx (by rw [hset]),by omega,rfl⟩ (by omega)
 have hcl:cc<4294967296:=by rw [hcc];exact stN_lt (by omega) k
 have ha1:cc &&& 1=cc%2:=Nat.and_one_is_mod cc;refine .skip<|.seq<|.block fun K3 hK3=>.s<|.z .mvI<|.z (.band (M:=4294967296) rfl rfl (b:=1) (ha:=by omega))<|.z .asI<|.nil<|.s<|.z .mvI<|.z (.shrn (M:=4294967296) rfl (b:=1))<|.z .asI<|.nil<|.s<|.z .mvI<|.z .eql<|.nil<|.cd (fun C2=>?_) (fun C2=>?_)
 ·
  have hnx:cc / 2 ^ 1 ^^^ 2197175160=stN (k+1) i:=by show _=bitN (stN k i);rw [<-hcc];unfold bitN;rw [if_pos (by omega)]
  refine .r<|.z .mvI<|.z (.bxor (M:=4294967296) rfl rfl (b:=2197175160))<|.z .asI<|.nil<|.end<|hK3 _ _<|.r<|.z .add<|.z .mvI<|.nil<|.end<|hJ1 _ _ _ ⟨k+1,_,⟨rfl,rfl,rfl,rfl,rfl,rfl,trivial⟩,ok.n1.n1,by omega,hnx,rfl⟩ (by omega)
 have hnx:cc / 2 ^ 1=stN (k+1) i:=by show _=bitN (stN k i);rw [<-hcc];unfold bitN;rw [if_neg (by omega)]
 refine .skip<|.end<|hK3 _ _<|.r<|.z .add<|.z .mvI<|.nil<|.end<|hJ1 _ _ _ ⟨k+1,_,⟨rfl,rfl,rfl,rfl,rfl,rfl,trivial⟩,ok.n1.n1,by omega,hnx,rfl⟩ (by omega)
theorem and15_lt (c:Nat):c &&& 15<16:=by rw [and15];omega
theorem sum_any {h:Heap} {F E:Nat->Prop} {a:Option Addr} {L:List (List UInt8)} (hl:RdL h F E (a,L.length,c) L) :
  Hc 180 #[.slice a L.length c] h (fun v h'=>v=.int .u32 ((sumN L.flatten:Nat):Int)/\Ext h h'):=by
 have hc2:=hl.m;have hc1:L.length<=c:=hl.c;simp only at hc2;have ok:=(Hp.nil h none_).arg hl;refine HC.go Tryz.func180 44 ?_;refine .s<|.z .asI<|.nil<|.s<|.c' 9 .func table_any ?_;rintro _ U1 ⟨rfl,hx⟩;have ok:=ok.ext hx;refine .a' 3 (.alA T.zr318 ok) ?_;rintro _ U2 ⟨pb1,rfl,ok,xe⟩;refine .ur' (.stW (vs:=tabN.map w32) T.sz318 ok (oneL rfl)) ?_;rintro U3 ⟨ok,cg⟩;refine .nil ?_;refine .s<|.z .asI<|.nil<|.seq<|.s<|.z .mvS<|.z (.len T.el79)<|.z .mvI<|.nil<|.block fun K0 hK0=>.loop (fun m s hh=>∃(i cc:Nat),Has s [(3,.pointer (some ⟨pb1,0,none⟩)),(4,.int .u32 (cc:Int)),(10,.slice a L.length c),(11,.int .i64 (L.length:Int)),(12,.int .i64 (i:Int))]/\Hp h none_ [boxI pb1 318 (tabN.map w32)] [rdI (fun j=>F j/\j<h.size) (fun j=>E j/\j<h.size) (a,L.length,c) L] hh/\i<=L.length/\cc=crcN 4294967295 (L.take i).flatten/\m=L.length-i) ?_ ?_
 ·exact ⟨_,0,4294967295,⟨rfl,rfl,rfl,rfl,rfl,trivial⟩,ok,qL _,rfl,rfl⟩
 rintro _ _ U4 ⟨i,cc,hs,ok,hi,hcc,rfl⟩ J0 hJ0;refine .frame hs fun τ=>?_;refine .s<|.z .lss<|.nil<|.seq<|.cdr (fun C0=>?_) (fun C0=>?_)
 ·
  have hil:i=L.length:=by omega
  rw [hil,List.take_length] at hcc;have hcl:cc<4294967296:=by rw [hcc];exact crcN_lt (by decide) _
  refine .exit<|hK0 _ _<|.s<|.z .mvI<|.z (.cpl (M:=4294967296) rfl rfl)<|.z .asI<|.nil<|.ret ⟨.int .u32 (((4294967295-cc):Nat):Int),Res.one rfl rfl,⟨by rw [hcc,sumN_def],ok.chg⟩⟩
 have hil:i<L.length:=by omega
 refine .skip<|.seq<|.block fun K1 hK1=>.s<|?_;obtain ⟨bb1,oo1,rfl,fb1⟩:=ok.r0.pos (by omega);refine .z (.ix1 i T.el79 T.sz35)<|?_;obtain ⟨ya1,yc1,he1,hr1⟩:=ok.r0.row (i:=i) (by omega);have ok:=ok.d0 (rdI (fun j=>E j/\j<h.size) (fun j=>E j/\j<h.size) (ya1,L[i].length,yc1) (L[i])) hr1 (fun _ h=>.inr (h.elim id id));refine .z (.ld T.ag35 he1)<|.z .asS<|.nil<|.seq<|?_;have hrc:L[i].length<=_:=ok.r0.c;have hrm:=ok.r0.m;simp only at hrc hrm;refine .r<|.z .mvS<|.z (.len T.el35)<|.z .mvI<|.nil<|.block fun K2 hK2=>.loop (fun m s hh=>∃(j cc:Nat),Has s [(3,.pointer (some ⟨pb1,0,none⟩)),(4,.int .u32 (cc:Int)),(10,.slice (some ⟨bb1,oo1,none⟩) L.length c),(11,.int .i64 (L.length:Int)),(12,.int .i64 (i:Int)),(16,.slice ya1 (L[i].length) yc1),(17,.int .i64 ((L[i].length:Nat):Int)),(18,.int .i64 (j:Int))]/\Hp h none_ [boxI pb1 318 (tabN.map w32)] [rdI (fun j=>E j/\j<h.size) (fun j=>E j/\j<h.size) (ya1,L[i].length,yc1) (L[i]),rdI (fun j=>F j/\j<h.size) (fun j=>E j/\j<h.size) (some ⟨bb1,oo1,none⟩,L.length,c) L] hh/\j<=L[i].length/\cc=crcN 4294967295 ((L.take i).flatten++L[i].take j)/\m=L[i].length-j) ?_ ?_
 ·exact ⟨_,0,_,⟨rfl,rfl,rfl,rfl,rfl,rfl,rfl,rfl,trivial⟩,ok,qL _,by simp [hcc],rfl⟩
 rintro _ _ U5 ⟨j,cc,hs,ok,hj,hcc,rfl⟩ J1 hJ1;refine .frame hs fun τ=>?_;refine .s<|.z .lss<|.nil<|.seq<|.cdr (fun C1=>?_) (fun C1=>?_)
 ·
  have hjl:j=L[i].length:=by omega
  rw [hjl,List.take_length,<-flat_snoc hil] at hcc;refine .exit<|hK2 _ _<|.end<|hK1 _ _<|.r<|.z .add<|.z .mvI<|.nil<|.end<|hJ0 _ _ _ ⟨i+1,_,⟨rfl,rfl,rfl,rfl,rfl,trivial⟩,ok.tR,by omega,hcc,rfl⟩ (by omega)
 have hjl:j<L[i].length:=by omega
 have hcl:cc<4294967296:=by rw [hcc];exact crcN_lt (by decide) _
 have hxl:=byte_lt L[i][j];have hyl:=byte32 hcl L[i][j];have hs1:=four_step (c:=cc ^^^ L[i][j].toNat) rfl rfl;have hzl:=stN_lt hyl 4;have hs2:=four_step (c:=stN 4 (cc ^^^ L[i][j].toNat)) rfl rfl;have hw1:=stN_lt (c:=(cc ^^^ L[i][j].toNat) &&& 15) (by have:=and15_lt (cc ^^^ L[i][j].toNat);omega) 4;have hw2:=stN_lt (c:=stN 4 (cc ^^^ L[i][j].toNat) &&& 15) (by have:=and15_lt (stN 4 (cc ^^^ L[i][j].toNat));omega) 4;have hs3:stN 8 (cc ^^^ L[i][j].toNat)=stN 4 (stN 4 (cc ^^^ L[i][j].toNat)):=stN_add 4 _ 4;have hsn:crcN 4294967295 ((L.take i).flatten++L[i].take (j+1))=stN 4 (stN 4 (cc ^^^ L[i][j].toNat)):=by rw [take_next hjl,<-qZ,crcN_snoc,<-hcc,hs3]
 refine .skip<|.seq<|.block fun K3 hK3=>.s<|?_;obtain ⟨bb2,oo2,rfl,fb2⟩:=ok.r0.pos (by omega);refine .z (.ix1 j T.el35 T.sz5)<|.z (.ld T.ag5 (ok.r0.u8 (i:=j) (by omega)))<|.z .asI<|.nil<|.s<|.z .mvI<|.z .mvI<|.z (.cvs T.in260 T.in5 (M:=4294967296) rfl rfl)<|.z (.bxor (M:=4294967296) rfl rfl)<|.z .asI<|.nil<|.s<|.z .mvI<|.z (.shrn (M:=4294967296) rfl (b:=4))<|.z .mvI<|.z (.band (M:=4294967296) rfl rfl (b:=15))<|.z (.ixa ((cc ^^^ (L[i])[j].toNat) &&& 15) T.ar318 T.sz260 (hi:=by (have:=and15_lt (cc ^^^ L[i][j].toNat);omega)))<|.z (.ldx (o:=0+((cc ^^^ (L[i])[j].toNat) &&& 15)) (v:=.int .u32 ((stN 4 ((cc ^^^ (L[i])[j].toNat) &&& 15):Nat):Int)) T.ag260 ok.m0 (hv:=by rw [Nat.zero_add,List.getElem?_map,tabN_at (and15_lt _)];rfl))<|.z (.bxor (M:=4294967296) rfl rfl (b:=(stN 4 ((cc ^^^ (L[i])[j].toNat) &&& 15))) (hb:=by exact hw1))<|?_;rw [show (((cc ^^^ (L[i])[j].toNat) / 2 ^ 4) ^^^ (stN 4 ((cc ^^^ (L[i])[j].toNat) &&& 15)))=stN 4 (cc ^^^ L[i][j].toNat) from hs1];refine .z .asI<|.nil<|.r<|.z .mvI<|.z (.shrn (M:=4294967296) rfl (b:=4))<|.z .mvI<|.z (.band (M:=4294967296) rfl rfl (b:=15))<|.z (.ixa (stN 4 (cc ^^^ L[i][j].toNat) &&& 15) T.ar318 T.sz260 (hi:=by (have:=and15_lt (stN 4 (cc ^^^ L[i][j].toNat));omega)))<|.z (.ldx (o:=0+(stN 4 (cc ^^^ L[i][j].toNat) &&& 15)) (v:=.int .u32 ((stN 4 (stN 4 (cc ^^^ L[i][j].toNat) &&& 15):Nat):Int)) T.ag260 ok.m0 (hv:=by rw [Nat.zero_add,List.getElem?_map,tabN_at (and15_lt _)];rfl))<|.z (.bxor (M:=4294967296) rfl rfl (b:=(stN 4 (stN 4 (cc ^^^ L[i][j].toNat) &&& 15))) (hb:=by exact hw2))<|?_;rw [show ((stN 4 (cc ^^^ L[i][j].toNat) / 2 ^ 4) ^^^ (stN 4 (stN 4 (cc ^^^ L[i][j].toNat) &&& 15)))=stN 4 (stN 4 (cc ^^^ L[i][j].toNat)) from hs2];refine .z .asI<|.nil<|.end<|hK3 _ _<|.r<|.z .add<|.z .mvI<|.nil<|.end<|hJ1 _ _ _ ⟨j+1,_,⟨rfl,rfl,rfl,rfl,rfl,rfl,rfl,rfl,trivial⟩,ok,by omega,hsn.symm,rfl⟩ (by omega)
end
open Go Go.HL
structure Fr where
 page:Int
 commit:Int
 b:List UInt8
 deriving DecidableEq
def okSz (n:Nat):Bool:=n == 256 || n == 512 || n == 1024 || n == 2048 || n == 4096
theorem beN_lt4 (l:List UInt8) (h:l.length<=4):beN l<4294967296:=kP (beN_lt l) (kN (pow256 h) (Nat.le_of_eq (by rfl)))
theorem rdN_lt4 (b:List UInt8) (p:Nat):rdN b p 4<4294967296:=beN_lt4 _ (by simp;omega)
theorem fixedN_succ (n k:Nat):fixedN n (k+1)=fixedN (n / 256) k++[UInt8.ofNat n]:=by
 unfold fixedN;rw [List.range_succ,kJ];congr 1
 ·apply List.map_congr_left;intro j hj;rw [List.mem_range] at hj;rw [Nat.div_div_eq_div_mul,<-Nat.pow_succ'];congr 3;omega
 ·simp
theorem beN_fixedN:∀(k n:Nat),beN (fixedN n k)=n%256 ^ k
 | 0,n=>by simp [fixedN,beN,Nat.mod_one]
 | k+1,n=>by
  rw [fixedN_succ,beN_snoc,beN_fixedN k,Nat.pow_succ',Nat.mod_mul];simp;omega
theorem beN_fixed {k n:Nat} (h:n<256 ^ k):beN (fixedN n k)=n:=by rw [beN_fixedN,kD h]
theorem sealN_len (l:List UInt8):(sealN l).length=l.length+4:=by simp [sealN]
theorem rdN_app {x y z:List UInt8} {k:Nat} (h:y.length=k):rdN (x++(y++z)) x.length k=beN y:=by unfold rdN;rw [List.drop_left,List.take_left' h]
section
variable {n:Int} {x y:List UInt8} {f z:Nat}
def zzN (n:Int):Nat:=if 0<=n then (2*n).toNat else (-2*n-1).toNat
def unzz (z:Nat):Int:=if z%2=0 then ((z / 2:Nat):Int) else -((z / 2:Nat):Int)-1
theorem unzz_zz : unzz (zzN n)=n:=by
 unfold unzz zzN;by_cases h:0<=n
 ·rw [if_pos h,if_pos (by omega)];omega
 ·rw [if_neg h,if_neg (by omega)];omega
theorem zzN_lt (h1 : -9223372036854775808<=n) (h2:n<=9223372036854775807):zzN n<18446744073709551616:=by
 unfold zzN;split<;>omega
theorem unzz_b {z:Nat} (h:z<18446744073709551616) : -9223372036854775808<=unzz z/\unzz z<=9223372036854775807:=by
 unfold unzz;split<;>omega
def vgF:Nat->Nat->List UInt8
 | 0,_=>[]
 | f+1,z=>if z<128 then [UInt8.ofNat z] else UInt8.ofNat (z%128+128)::vgF f (z / 128)
def vint (n:Int):List UInt8:=vgF 10 (zzN n)
theorem vgF_0 (h:z<128):vgF (f+1) z=[UInt8.ofNat z]:=if_pos h
theorem vgF_s (h:¬z<128):vgF (f+1) z=UInt8.ofNat (z%128+128)::vgF f (z / 128):=if_neg h
theorem vgF_len:∀(f z:Nat),(vgF f z).length<=f
 | 0,_=>qR _
 | f+1,z=>by
  by_cases h:z<128
  ·rw [vgF_0 h];simp
  ·rw [vgF_s h,qV];have:=vgF_len f (z / 128);omega
theorem vint_len : (vint n).length<=10:=vgF_len 10 _
theorem vgF_pos (h:1<=f):1<=(vgF f z).length:=by
 obtain ⟨f,rfl⟩:∃g,f=g+1:=⟨f-1,by omega⟩;unfold vgF;split<;>simp
theorem vgF_few:∀(f k z:Nat),1<=k->z<128 ^ k->(vgF f z).length<=k
 | 0,_,_,_,_=>qL _
 | f+1,k,z,hk,hz=>by
  by_cases h:z<128
  ·rw [vgF_0 h];simpa using hk
  ·obtain ⟨k,rfl⟩:∃j,k=j+1:=⟨k-1,by omega⟩;by_cases hk0:k=0
   ·subst hk0;simp at hz;omega
   ·rw [vgF_s h,qV];have:=vgF_few f k (z / 128) (by omega) (by rw [Nat.pow_succ] at hz;omega);omega
theorem vint_few {n:Nat} {k:Nat} (hk:1<=k) (h:2*n<128 ^ k):(vint (n:Int)).length<=k:=by
 refine vgF_few 10 k _ hk ?_;unfold zzN;rw [if_pos (by omega)];omega
def uvG (l:List UInt8) (p:Nat):Nat->Nat->Nat->Int × Nat × Nat
 | 0,_,_=>(0,0,9)
 | f+1,i,z=>if l.length<=p+i then (0,0,6) else
  if i=9/\1<(l.getD (p+i) 0).toNat then (0,0,9) else
  if 128<=(l.getD (p+i) 0).toNat then uvG l p f (i+1) (z+(l.getD (p+i) 0).toNat%128*128 ^ i) else
  if 0<i/\(l.getD (p+i) 0).toNat=0 then (0,0,8) else (unzz (z+(l.getD (p+i) 0).toNat%128*128 ^ i),p+i+1,0)
def uvN (l:List UInt8) (p:Nat):Int × Nat × Nat:=uvG l p 10 0 0
theorem getD_app {i:Nat} (h:i<y.length):(x++y).getD (x.length+i) 0=y.getD i 0:=by
 rw [List.getD_eq_getElem?_getD,List.getD_eq_getElem?_getD,List.getElem?_append_right (by omega),Nat.add_sub_cancel_left]
theorem uvG_enc {x y:List UInt8} {p:Nat} : ∀(f i z w:Nat),p+i=x.length->i+f=10->w*128 ^ i<18446744073709551616->(0<i->0<w)->uvG (x++(vgF f w++y)) p f i z=(unzz (z+w*128 ^ i),p+i+(vgF f w).length,0)
 | 0,i,z,w,_,h,hw,h5=>by
  have h10:i=10:=by omega
  subst h10;have h1:w*1180591620717411303424<18446744073709551616:=hw;have:=h5 (by omega);omega
 | f+1,i,z,w,hpi,hf,hw,h5=>by
  have h9:i=9->w<=1:=fun h=>by
   subst h;have h1:w*9223372036854775808<18446744073709551616:=hw;omega
  have hpos:=vgF_pos (f:=f+1) (z:=w) (by omega);have hlen:¬(x++(vgF (f+1) w++y)).length<=p+i:=by rw [qA,qA];omega
  have hg:(x++(vgF (f+1) w++y)).getD (p+i) 0=(vgF (f+1) w).getD 0 0:=by
   have:=getD_app (x:=x) (y:=vgF (f+1) w++y) (i:=0) (by rw [qA];omega);rw [hpi,<-Nat.add_zero x.length,this,List.getD_eq_getElem?_getD,List.getElem?_append_left (by omega),List.getD_eq_getElem?_getD]
  conv=>lhs;unfold uvG
  rw [if_neg hlen,hg];by_cases h:w<128
  ·have e:((vgF (f+1) w).getD 0 0).toNat=w:=by rw [vgF_0 h];show (UInt8.ofNat w).toNat=w;simp;omega
   rw [e,if_neg (by rintro ⟨h1,h2⟩;have:=h9 h1;omega),if_neg (by omega),if_neg (by rintro ⟨h1,h2⟩;have:=h5 h1;omega),vgF_0 h,kD h];rfl
  ·have e:((vgF (f+1) w).getD 0 0).toNat=w%128+128:=by rw [vgF_s h];show (UInt8.ofNat (w%128+128)).toNat=_;simp;omega
   rw [e,if_neg (by rintro ⟨h1,h2⟩;have:=h9 h1;omega),if_pos (by omega),show (w%128+128)%128=w%128 by omega];rw [vgF_s h];have e2:x++(UInt8.ofNat (w%128+128)::vgF f (w / 128)++y)=(x++[UInt8.ofNat (w%128+128)])++(vgF f (w / 128)++y):=by simp
   have e4:w / 128*128 ^ (i+1)<=w*128 ^ i:=by
    rw [Nat.pow_succ,Nat.mul_comm (128 ^ i) 128,<-Nat.mul_assoc];exact qE _ (by omega)
   rw [e2,uvG_enc (x:=x++[UInt8.ofNat (w%128+128)]) f (i+1) _ (w / 128) (by simp;omega) (by omega) (by omega) (fun _=>by omega)];have e3:z+w%128*128 ^ i+w / 128*128 ^ (i+1)=z+w*128 ^ i:=by
    rw [Nat.pow_succ,Nat.mul_comm (128 ^ i) 128,<-Nat.mul_assoc,Nat.add_assoc,<-kV];congr 2;omega
   rw [e3,qV];congr 2;omega
theorem uv_enc (h1 : -9223372036854775808<=n) (h2:n<=9223372036854775807):uvN (x++(vint n++y)) x.length=(n,x.length+(vint n).length,0):=by
 have:=uvG_enc (x:=x) (y:=y) (p:=x.length) 10 0 0 (zzN n) rfl rfl (by have:=zzN_lt h1 h2;omega) (fun h=>absurd h (by omega));rw [show (0:Nat)+zzN n*128 ^ 0=zzN n by omega,unzz_zz] at this;exact this
structure Cel where
 key:Int
 child:Nat
 total:Nat
 loc:List UInt8
 spill:Nat
def cel0:Cel:=⟨0,0,0,[],0⟩
def hasCh (k:Nat):Bool:=k == 2 || k == 4
def hasKy (k:Nat):Bool:=k == 1 || k == 2
def hasPy (k:Nat):Bool:=k == 1 || k == 3 || k == 4
def okKd (k:Nat):Bool:=k == 1 || k == 2 || k == 3 || k == 4
def pgNo (n:Int):Bool:=decide (1<=n/\n<=1048576)
def okCl (k:Nat) (c:Cel):Prop:=okKd k=true/\(if hasCh k=true then pgNo c.child=true else c.child=0)/\(if hasKy k=true then -9223372036854775808<=c.key/\c.key<=9223372036854775807 else c.key=0)/\
 if hasPy k=true then c.total<=16384/\c.loc.length<=c.total/\(if c.loc.length=c.total then c.spill=0 else pgNo c.spill=true) else c.total=0/\c.loc=[]/\c.spill=0
instance (k:Nat) (c:Cel):Decidable (okCl k c):=by unfold okCl;infer_instance
def payB (c:Cel):List UInt8:=vint c.total++(vint (c.loc.length:Int)++(c.loc++if c.spill=0 then [] else vint c.spill))
def encCl (k:Nat) (c:Cel):List UInt8:=(if hasCh k=true then vint c.child else [])++((if hasKy k=true then vint c.key else [])++if hasPy k=true then payB c else [])
structure RdS where
 p:Nat
 e:Nat
def nxtR (l:List UInt8) (r:RdS):Int × RdS:=if r.e≠0 then (0,r) else if (uvN l r.p).2.2≠0 then (0,⟨r.p,(uvN l r.p).2.2⟩) else ((uvN l r.p).1,⟨(uvN l r.p).2.1,0⟩)
def frmR (r:RdS) (ok:Bool):RdS:=if r.e=0/\ok=false then ⟨r.p,8⟩ else r
def ldT (l:List UInt8) (c:Cel) (n k:Int) (r:RdS):Cel × RdS:=if r.e≠0 then (c,r) else if k<n then
  ({ c with total:=n.toNat,loc:=(l.drop r.p).take k.toNat,spill:=(nxtR l ⟨r.p+k.toNat,0⟩).1.toNat },frmR (nxtR l ⟨r.p+k.toNat,0⟩).2 (pgNo (nxtR l ⟨r.p+k.toNat,0⟩).1))
 else ({ c with total:=n.toNat,loc:=(l.drop r.p).take k.toNat },⟨r.p+k.toNat,0⟩)
def ldR (l:List UInt8) (c:Cel) (r:RdS):Cel × RdS:=
 let a:=nxtR l r
 let r1:=frmR a.2 (decide (0<=a.1/\a.1<=16384))
 let b:=nxtR l r1
 let r2:=frmR b.2 (decide (0<=b.1/\b.1<=a.1))
 let r3:RdS:=if r2.e=0/\((l.length:Int)-r2.p<b.1) then ⟨r2.p,6⟩ else r2
 ldT l c a.1 b.1 r3
def dcA (k:Nat) (l:List UInt8):Int × RdS:=if hasCh k=true then ((nxtR l ⟨0,0⟩).1,frmR (nxtR l ⟨0,0⟩).2 (pgNo (nxtR l ⟨0,0⟩).1)) else (0,⟨0,0⟩)
def dcB (k:Nat) (l:List UInt8) (r:RdS):Int × RdS:=if hasKy k=true then nxtR l r else (0,r)
def dcD (k:Nat) (l:List UInt8) (c:Cel) (r:RdS):Cel × RdS:=if hasPy k=true then ldR l c r else (c,r)
def dcE (l:List UInt8) (d:Cel × RdS):Cel × Nat:=if (frmR d.2 (decide (d.2.p=l.length))).e≠0 then (cel0,(frmR d.2 (decide (d.2.p=l.length))).e) else (d.1,0)
def decCl (k:Nat) (l:List UInt8):Cel × Nat:=dcE l (dcD k l ⟨(dcB k l (dcA k l).2).1,(dcA k l).1.toNat,0,[],0⟩ (dcB k l (dcA k l).2).2)
theorem nxtR_enc {p:Nat} (hp:p=x.length) (h1 : -9223372036854775808<=n) (h2:n<=9223372036854775807):nxtR (x++(vint n++y)) ⟨p,0⟩=(n,⟨p+(vint n).length,0⟩):=by
 subst hp;unfold nxtR;rw [if_neg (fun h=>h rfl),uv_enc h1 h2,if_neg (fun h=>h rfl)]
theorem frmR_t {r:RdS} : frmR r true=r:=by unfold frmR;rw [if_neg (fun h=>by cases h.2)]
theorem ldR_enc {c c0:Cel} (h1:c.total<=16384) (h2:c.loc.length<=c.total) (h3:if c.loc.length=c.total then c.spill=0 else pgNo c.spill=true):ldR (x++payB c) c0 ⟨x.length,0⟩=({ c0 with total:=c.total,loc:=c.loc,spill:=if c.spill=0 then c0.spill else c.spill },⟨(x++payB c).length,0⟩):=by
 have e1:x++payB c=x++(vint c.total++(vint (c.loc.length:Int)++(c.loc++if c.spill=0 then [] else vint c.spill))):=rfl;have e2:x++payB c=(x++vint c.total)++(vint (c.loc.length:Int)++(c.loc++if c.spill=0 then [] else vint c.spill)):=by rw [e1,qZ]
 have e3:x++payB c=(x++vint c.total++vint (c.loc.length:Int))++(c.loc++if c.spill=0 then [] else vint c.spill):=by rw [e2,qZ,qZ,qZ]
 have e4:c.spill≠0->x++payB c=(x++vint c.total++vint (c.loc.length:Int)++c.loc)++(vint c.spill++[]):=fun h=>by rw [e3,if_neg h,kX,qZ (x++vint c.total++vint (c.loc.length:Int))]
 have n1:nxtR (x++payB c) ⟨x.length,0⟩=((c.total:Int),⟨x.length+(vint c.total).length,0⟩):=by rw [e1];exact nxtR_enc rfl (by omega) (by omega)
 have n2:nxtR (x++payB c) ⟨x.length+(vint c.total).length,0⟩=((c.loc.length:Int),⟨x.length+(vint c.total).length+(vint (c.loc.length:Int)).length,0⟩):=by
  rw [e2,nxtR_enc (by simp) (by omega) (by omega)]
 have hd:((x++payB c).drop (x.length+(vint c.total).length+(vint (c.loc.length:Int)).length)).take c.loc.length=c.loc:=by
  rw [e3,show x.length+(vint c.total).length+(vint (c.loc.length:Int)).length=(x++vint c.total++vint (c.loc.length:Int)).length by simp;omega,List.drop_left,List.take_left' rfl]
 have hlen:(x++payB c).length=x.length+(vint c.total).length+(vint (c.loc.length:Int)).length+(c.loc.length+(if c.spill=0 then [] else vint c.spill).length):=by rw [e3];simp;omega
 unfold ldR;simp only [n1];rw [decide_eq_true (show (0:Int)<=c.total/\(c.total:Int)<=16384 by omega),frmR_t];simp only [n2];rw [decide_eq_true (show (0:Int)<=(c.loc.length:Int)/\(c.loc.length:Int)<=c.total by omega),frmR_t];rw [if_neg (show ¬((⟨x.length+(vint c.total).length+(vint (c.loc.length:Int)).length,0⟩:RdS).e=0/\(((x++payB c).length:Int)-(x.length+(vint c.total).length+(vint (c.loc.length:Int)).length:Nat)<(c.loc.length:Int))) by rw [hlen];omega)];unfold ldT;rw [if_neg (fun h=>h rfl)];simp only [Int.toNat_natCast,hd];by_cases hs:c.loc.length=c.total
 ·rw [if_pos hs] at h3;rw [if_neg (by omega),if_pos h3];congr 1;rw [hlen,h3];simp
 ·rw [if_neg hs] at h3;have hp:1<=(c.spill:Int)/\(c.spill:Int)<=1048576:=of_decide_eq_true h3;have n3:nxtR (x++payB c) ⟨x.length+(vint c.total).length+(vint (c.loc.length:Int)).length+c.loc.length,0⟩=((c.spill:Int),⟨x.length+(vint c.total).length+(vint (c.loc.length:Int)).length+c.loc.length+(vint c.spill).length,0⟩):=by
   rw [e4 (by omega),nxtR_enc (by simp;omega) (by omega) (by omega)]
  rw [if_pos (by omega)];simp only [n3,h3,frmR_t,Int.toNat_natCast];rw [if_neg (by omega),hlen,if_neg (by omega)];congr 2;omega
theorem pgNo_b {n:Nat} (h:pgNo (n:Int)=true):1<=n/\n<=1048576:=by
 have:1<=(n:Int)/\(n:Int)<=1048576:=of_decide_eq_true h;omega
theorem decCl_enc {k:Nat} {c:Cel} (h:okCl k c):decCl k (encCl k c)=(c,0):=by
 obtain ⟨h0,h1,h2,h3⟩:=h;obtain ⟨key,child,total,loc,spill⟩:=c;generalize hl:encCl k ⟨key,child,total,loc,spill⟩=l;unfold encCl at hl;simp only at h1 h2 h3 hl;have a:dcA k l=((child:Int),⟨(if hasCh k=true then vint child else []).length,0⟩):=by
  unfold dcA;split
  ·rename_i hc;rw [if_pos hc] at h1 hl;have hb:=pgNo_b h1;have n1:nxtR l ⟨0,0⟩=((child:Int),⟨(vint child).length,0⟩):=by
    rw [<-hl];have:=nxtR_enc (x:=[]) (y:=(if hasKy k=true then vint key else [])++if hasPy k=true then payB ⟨key,child,total,loc,spill⟩ else []) (n:=(child:Int)) (p:=0) rfl (by omega) (by omega);simpa using this
   rw [n1,h1,frmR_t]
  ·rename_i hc;rw [if_neg hc] at h1;rw [h1];rfl
 have b:dcB k l ⟨(if hasCh k=true then vint child else []).length,0⟩=(key,⟨((if hasCh k=true then vint child else [])++(if hasKy k=true then vint key else [])).length,0⟩):=by
  unfold dcB;split
  ·rename_i hc;rw [if_pos hc] at h2 hl;rw [<-hl,nxtR_enc rfl h2.1 h2.2,qA]
  ·rename_i hc;rw [if_neg hc] at h2;rw [h2,kX]
 have d:dcD k l ⟨key,child,0,[],0⟩ ⟨((if hasCh k=true then vint child else [])++(if hasKy k=true then vint key else [])).length,0⟩=(⟨key,child,total,loc,spill⟩,⟨l.length,0⟩):=by
  unfold dcD;split
  ·rename_i hc;rw [if_pos hc] at h3 hl;rw [<-qZ] at hl;have:=ldR_enc (x:=(if hasCh k=true then vint child else [])++(if hasKy k=true then vint key else [])) (c:=⟨key,child,total,loc,spill⟩) (c0:=⟨key,child,0,[],0⟩) h3.1 h3.2.1 h3.2.2;rw [hl] at this;rw [this];simp only [Prod.mk.injEq,Cel.mk.injEq,true_and,and_true];split<;>omega
  ·rename_i hc;rw [if_neg hc] at h3 hl;obtain ⟨rfl,rfl,rfl⟩:=h3;rw [<-hl];simp
 unfold decCl;rw [a];simp only [b,Int.toNat_natCast,d];unfold dcE;rw [decide_eq_true rfl,frmR_t,if_neg (fun h=>h rfl)]
end
open Go Go.HL
section
variable {i:Nat}
def mnS (l:List UInt8) (h:Nat):Nat:=rdN l h 2
def atS (l:List UInt8) (h i:Nat):Nat:=rdN l (h+2+2*i) 2
def lnS (l:List UInt8) (h i:Nat):Nat:=rdN l (atS l h i) 2
def cntS (l:List UInt8) (h:Nat):Nat->Nat->Nat
 | 0,_=>0
 | i+1,k=>cntS l h i k+if atS l h i<=k/\k<atS l h i+2+lnS l h i then 1 else 0
structure SndS (l:List UInt8) (h:Nat):Prop where
 e:h+2+2*mnS l h<=l.length
 c:∀i,i<mnS l h->h+2+2*mnS l h<=atS l h i/\atS l h i+2<=l.length/\atS l h i+2+lnS l h i<=l.length
 o:∀k,h+2+2*mnS l h<=k->k<l.length->cntS l h (mnS l h) k<=1/\(cntS l h (mnS l h) k=0->l.getD k 0=0)
noncomputable instance (l:List UInt8) (h:Nat):Decidable (SndS l h):=Classical.propDecidable _
def cllS (l:List UInt8) (h i:Nat):List UInt8:=(l.drop (atS l h i+2)).take (lnS l h i)
def tlS:List (List UInt8)->List UInt8
 | []=>[]
 | c::cs=>tlS cs++(fixedN c.length 2++c)
def tS (cs:List (List UInt8)):Nat:=(tlS cs).length
def plS (z:Nat):Nat->List (List UInt8)->List UInt8
 | _,[]=>[]
 | t,c::cs=>fixedN (z-(t+(2+c.length))) 2++plS z (t+(2+c.length)) cs
def canS (z:Nat) (fr:List UInt8) (cs:List (List UInt8)):List UInt8:=fr++(fixedN cs.length 2++(plS z 0 cs++(List.replicate (z-fr.length-2-2*cs.length-tS cs) 0++tlS cs)))
theorem tlS_app {a b:List (List UInt8)} : tlS (a++b)=tlS b++tlS a:=by
 induction a with
 | nil=>simp [tlS]
 | cons c a ih=>show tlS (a++b)++_=tlS b++(tlS a++_);rw [ih,qZ]
theorem tS_nil:tS []=0:=rfl
theorem tS_cons {c:List UInt8} {cs:List (List UInt8)} : tS (c::cs)=2+c.length+tS cs:=by
 show (tlS cs++(fixedN c.length 2++c)).length=2+c.length+(tlS cs).length;rw [qA,qA,fixedN_len];omega
theorem tS_app {a b:List (List UInt8)} : tS (a++b)=tS a+tS b:=by unfold tS;rw [tlS_app,qA];omega
theorem plS_len {z:Nat} : ∀ {cs:List (List UInt8)} {t:Nat},(plS z t cs).length=2*cs.length
 | [],_=>rfl
 | c::cs,t=>by unfold plS;rw [qA,fixedN_len,plS_len,qV];omega
theorem plS_snoc {z:Nat} {c:List UInt8} : ∀ {cs:List (List UInt8)} {t:Nat},plS z t (cs++[c])=plS z t cs++fixedN (z-(t+tS cs+(2+c.length))) 2
 | [],t=>by show fixedN _ 2++[]=[]++_;rw [tS_nil];simp
 | d::cs,t=>by
  show fixedN _ 2++plS z _ (cs++[c])=(fixedN _ 2++plS z _ cs)++_;rw [plS_snoc,tS_cons,qZ,show t+(2+d.length)+tS cs+(2+c.length)=t+(2+d.length+tS cs)+(2+c.length) by omega]
theorem plS_at {z:Nat} : ∀ {cs:List (List UInt8)} {t i:Nat},i<cs.length->∃A B,plS z t cs=A++(fixedN (z-(t+tS (cs.take (i+1)))) 2++B)/\A.length=2*i
 | [],_,_,h=>by simp at h
 | c::cs,t,0,_=>⟨[],plS z (t+(2+c.length)) cs,by rw [kZ,kM,tS_cons,tS_nil];rfl,rfl⟩
 | c::cs,t,i+1,h=>by
  obtain ⟨A,B,e,hl⟩:=plS_at (z:=z) (cs:=cs) (t:=t+(2+c.length)) (i:=i) (by simpa using h);refine ⟨fixedN (z-(t+(2+c.length))) 2++A,B,?_,by rw [qA,fixedN_len,hl];omega⟩;show fixedN _ 2++plS z _ cs=_;rw [e,kZ,tS_cons,qZ,show t+(2+c.length)+tS (cs.take (i+1))=t+(2+c.length+tS (cs.take (i+1))) by omega]
section
variable {z:Nat} {fr:List UInt8} {cs:List (List UInt8)} (hz:z<=4096) (hf:fr.length+2+2*cs.length+tS cs<=z)
include hf
theorem canS_len:(canS z fr cs).length=z:=by
 unfold canS;rw [qA,qA,qA,qA,fixedN_len,plS_len,kW];show fr.length+(2+(2*cs.length+(_+tS cs)))=z;omega
include hz
theorem canS_mn:mnS (canS z fr cs) fr.length=cs.length:=by
 unfold mnS canS;rw [rdN_app (fixedN_len _ _),beN_fixed (by omega)]
theorem canS_at (hi:i<cs.length):atS (canS z fr cs) fr.length i=z-tS (cs.take (i+1)):=by
 obtain ⟨A,B,e,hl⟩:=plS_at (z:=z) (t:=0) hi;have e2:canS z fr cs=(fr++(fixedN cs.length 2++A))++(fixedN (z-(0+tS (cs.take (i+1)))) 2++(B++(List.replicate (z-fr.length-2-2*cs.length-tS cs) 0++tlS cs))):=by
  unfold canS;rw [e];simp only [qZ]
 unfold atS;rw [e2,show fr.length+2+2*i=(fr++(fixedN cs.length 2++A)).length by simp [fixedN_len,hl];omega,rdN_app (fixedN_len _ _),beN_fixed (by omega),Nat.zero_add]
omit hz hf in
theorem tS_take (hi:i<cs.length):tS (cs.take (i+1))=tS (cs.take i)+(2+cs[i].length)/\tS (cs.take (i+1))<=tS cs:=by
 have h1:tS (cs.take (i+1))=tS (cs.take i)+(2+cs[i].length):=by rw [qG hi,tS_app,tS_cons,tS_nil];omega
 refine ⟨h1,?_⟩;have:tS cs=tS (cs.take (i+1))+tS (cs.drop (i+1)):=by rw [<-tS_app,qT]
 omega
omit hz in
theorem canS_cell (hi:i<cs.length):∃P,canS z fr cs=P++(fixedN cs[i].length 2++(cs[i]++tlS (cs.take i)))/\P.length=z-tS (cs.take (i+1)):=by
 have e:tlS cs=tlS (cs.drop (i+1))++(fixedN cs[i].length 2++(cs[i]++tlS (cs.take i))):=by
  conv=>lhs;rw [<-qT i cs,qF hi,tlS_app]
  show (tlS (cs.drop (i+1))++(fixedN _ 2++_))++_=_;simp only [qZ]
 refine ⟨fr++(fixedN cs.length 2++(plS z 0 cs++(List.replicate (z-fr.length-2-2*cs.length-tS cs) 0++tlS (cs.drop (i+1))))),?_,?_⟩
 ·unfold canS;rw [e];simp only [qZ]
 ·have h1:tS cs=tS (cs.take (i+1))+tS (cs.drop (i+1)):=by rw [<-tS_app,qT]
  rw [qA,qA,qA,qA,fixedN_len,plS_len,kW];show fr.length+(2+(2*cs.length+(_+tS (cs.drop (i+1)))))=_;omega
theorem canS_ln (hi:i<cs.length):lnS (canS z fr cs) fr.length i=cs[i].length:=by
 obtain ⟨P,e,hP⟩:=canS_cell hf hi;have ht:=tS_take hi;unfold lnS;rw [canS_at hz hf hi,e,<-hP,rdN_app (fixedN_len _ _),beN_fixed (by omega)]
theorem canS_cl (hi:i<cs.length):cllS (canS z fr cs) fr.length i=cs[i]:=by
 obtain ⟨P,e,hP⟩:=canS_cell hf hi;unfold cllS;rw [canS_ln hz hf hi,canS_at hz hf hi,e,<-hP,<-List.drop_drop,List.drop_left,List.drop_left' (fixedN_len _ _),List.take_left' rfl]
theorem canS_cnt {k:Nat} (hk:k<z):∀ {j:Nat},j<=cs.length->cntS (canS z fr cs) fr.length j k=if z-tS (cs.take j)<=k then 1 else 0
 | 0,_=>by rw [kM,tS_nil,if_neg (by omega)];rfl
 | j+1,hj=>by
  have ht:=tS_take (cs:=cs) (i:=j) (by omega);unfold cntS;rw [canS_cnt hk (by omega),canS_at hz hf (by omega),canS_ln hz hf (by omega)];by_cases h1:z-tS (cs.take j)<=k
  ·rw [if_pos h1,if_neg (by omega),if_pos (by omega)]
  ·rw [if_neg h1];by_cases h2:z-tS (cs.take (j+1))<=k
   ·rw [if_pos (by omega),if_pos h2]
   ·rw [if_neg (by omega),if_neg h2]
theorem canS_sound:SndS (canS z fr cs) fr.length:=by
 refine ⟨?_,fun i hi=>?_,fun k h1 h2=>?_⟩
 ·rw [canS_mn hz hf,canS_len hf];omega
 ·rw [canS_mn hz hf] at hi⊢;have ht:=tS_take hi;rw [canS_at hz hf hi,canS_ln hz hf hi,canS_len hf];omega
 ·rw [canS_mn hz hf] at h1⊢;rw [canS_len hf] at h2;rw [canS_cnt hz hf h2 (qR _),List.take_length];refine ⟨by split<;>omega,fun h=>?_⟩;have h3:¬z-tS cs<=k:=fun h4=>by rw [if_pos h4] at h;cases h
  have e:canS z fr cs=(fr++(fixedN cs.length 2++plS z 0 cs))++(List.replicate (z-fr.length-2-2*cs.length-tS cs) 0++tlS cs):=by unfold canS;simp only [qZ]
  have hl:(fr++(fixedN cs.length 2++plS z 0 cs)).length=fr.length+2+2*cs.length:=by rw [qA,qA,fixedN_len,plS_len];omega
  rw [e,List.getD_eq_getElem?_getD,List.getElem?_append_right (by omega),List.getElem?_append_left (by rw [kW];omega),List.getElem?_replicate,if_pos (by omega)];rfl
end
structure Nod where
 kind:Nat
 cells:List Cel
 right:Nat
structure OkNd (n:Nod):Prop where
 k:okKd n.kind=true
 r:if hasCh n.kind=true then pgNo n.right=true else n.right=0
 c:∀c∈n.cells,okCl n.kind c
noncomputable instance (n:Nod):Decidable (OkNd n):=Classical.propDecidable _
def tksC (k:Nat):List Cel->Nat
 | []=>0
 | c::cs=>(encCl k c).length+4+tksC k cs
def FitNd (n:Nod) (z:Nat):Prop:=tksC n.kind n.cells+10<=z
instance (n:Nod) (z:Nat):Decidable (FitNd n z):=by unfold FitNd;infer_instance
def ndFr (n:Nod):List UInt8:=[UInt8.ofNat n.kind,0,0,0]++fixedN n.right 4
def encNd (n:Nod) (z:Nat):List UInt8:=canS z (ndFr n) (n.cells.map (encCl n.kind))
def kdOf (l:List UInt8):Nat:=(l.getD 0 0).toNat
def ndOf (l:List UInt8):Nod:=⟨kdOf l,(List.range (mnS l 8)).map fun i=>(decCl (kdOf l) (cllS l 8 i)).1,rdN l 4 4⟩
structure RedOk (l:List UInt8):Prop where
 s:SndS l 8
 c:∀i,i<mnS l 8->(decCl (kdOf l) (cllS l 8 i)).2=0
 n:OkNd (ndOf l)
noncomputable instance (l:List UInt8):Decidable (RedOk l):=Classical.propDecidable _
noncomputable def decNd (l:List UInt8):Option Nod:=if RedOk l/\FitNd (ndOf l) l.length/\encNd (ndOf l) l.length=l then some (ndOf l) else none
theorem tksC_tS {k:Nat} : ∀ {cs:List Cel},tksC k cs=2*cs.length+tS (cs.map (encCl k))
 | []=>rfl
 | c::cs=>by rw [kE,tS_cons,qV];show _+4+tksC k cs=_;rw [tksC_tS];omega
theorem ndFr_len {n:Nod} : (ndFr n).length=8:=by unfold ndFr;simp [fixedN_len]
theorem tksC_app {k:Nat} : ∀ {a b:List Cel},tksC k (a++b)=tksC k a+tksC k b
 | [],b=>by show tksC k b=0+_;omega
 | c::a,b=>by show _+4+tksC k (a++b)=_+4+tksC k a+_;rw [tksC_app];omega
section
variable {n:Nod} {z:Nat} (hf:FitNd n z)
include hf
theorem fit_room:(ndFr n).length+2+2*(n.cells.map (encCl n.kind)).length+tS (n.cells.map (encCl n.kind))<=z:=by
 rw [ndFr_len,qM];have:=tksC_tS (k:=n.kind) (cs:=n.cells);unfold FitNd at hf;omega
theorem encNd_len:(encNd n z).length=z:=canS_len (fit_room hf)
theorem decNd_enc (hz:z<=4096) (ho:OkNd n):decNd (encNd n z)=some n:=by
 have hr:=fit_room hf;have hk:n.kind=1\/n.kind=2\/n.kind=3\/n.kind=4:=by simpa [okKd,or_assoc] using ho.k
 have h8:=ndFr_len (n:=n);have hrt:n.right<4294967296:=by
  have h1:=ho.r;split at h1
  ·have:1<=(n.right:Int)/\(n.right:Int)<=1048576:=of_decide_eq_true h1;omega
  ·omega
 have e:encNd n z=[UInt8.ofNat n.kind,0,0,0]++(fixedN n.right 4++(fixedN (n.cells.map (encCl n.kind)).length 2++(plS z 0 (n.cells.map (encCl n.kind))++(List.replicate (z-(ndFr n).length-2-2*(n.cells.map (encCl n.kind)).length-tS (n.cells.map (encCl n.kind))) 0++tlS (n.cells.map (encCl n.kind)))))):=by unfold encNd canS ndFr;simp only [qZ]
 have hkd:kdOf (encNd n z)=n.kind:=by
  unfold kdOf;rw [e];show (UInt8.ofNat n.kind).toNat=_;simp;omega
 have hri:rdN (encNd n z) 4 4=n.right:=by
  rw [e];have:=rdN_app (x:=[UInt8.ofNat n.kind,0,0,0]) (y:=fixedN n.right 4) (z:=fixedN (n.cells.map (encCl n.kind)).length 2++(plS z 0 (n.cells.map (encCl n.kind))++(List.replicate (z-(ndFr n).length-2-2*(n.cells.map (encCl n.kind)).length-tS (n.cells.map (encCl n.kind))) 0++tlS (n.cells.map (encCl n.kind))))) (k:=4) (fixedN_len _ _);exact this.trans (beN_fixed (by simpa using hrt))
 have hm:mnS (encNd n z) 8=n.cells.length:=by have:=canS_mn hz hr;rw [h8,qM] at this;exact this
 have hc:∀i (hi:i<n.cells.length),decCl (kdOf (encNd n z)) (cllS (encNd n z) 8 i)=(n.cells[i],0):=fun i hi=>by
  have:=canS_cl hz hr (i:=i) (by simpa using hi);rw [h8] at this;rw [hkd,show cllS (encNd n z) 8 i=_ from this,List.getElem_map];exact decCl_enc (ho.c _ (qP hi))
 have hnd:ndOf (encNd n z)=n:=by
  unfold ndOf;rw [hkd,hri,hm];have:(List.range n.cells.length).map (fun i=>(decCl n.kind (cllS (encNd n z) 8 i)).1)=n.cells:=by
   apply List.ext_getElem (by simp);intro i h1 h2;rw [List.getElem_map,List.getElem_range];have:=hc i h2;rw [hkd] at this;rw [this]
  rw [this]
 unfold decNd;rw [hnd,encNd_len hf,if_pos];refine ⟨⟨?_,fun i hi=>?_,by rw [hnd];exact ho⟩,hf,rfl⟩
 ·have:=canS_sound hz hr;rw [h8] at this;exact this
 ·rw [hc i (by omega)]
end
theorem decNd_some {l:List UInt8} {n:Nod} (h:decNd l=some n):OkNd n/\FitNd n l.length/\encNd n l.length=l:=by
 unfold decNd at h;split at h
 ·rename_i h1;injection h with h;subst h;exact ⟨h1.1.n,h1.2⟩
 ·cases h
end
end Go.Proofs.YtfegfklipbnhjaaGreat
namespace Go.HL
open Go
theorem zeroCells_eq (v:Value) (n:Nat) (hv:v.cells = #[v]):(Builtin.zeroCells v.cells n).toList=List.replicate n v:=by
 apply List.ext_getElem?;intro i;rw [hv];simp [Builtin.zeroCells];by_cases hi:i<n
 ·simp [hi,List.getElem?_replicate,Nat.mod_one]
 ·simp [hi,List.getElem?_replicate]
theorem run_appendZ {P:Program} {t tn e ty:TypeId} {kn kq:IntKind} (ht:elB P t=some e) (htn:inB P tn=some kn) (hk:szB P e=some 1) (hby:byB P e=some 1) (hz:zrB P e=some (.int .u8 0))
  {h:Heap} {v:Value} {xs:List Value} {m:Nat} (hv:Cap h 1 e v xs) (hfit:xs.length+m<=140737488355328) {E:Env} {w:World} (at':At E h w) :
  ∃v' h' w',(Cap h' 1 e v' (xs++List.replicate m (.int .u8 0))/\Chg (blkC v) h h'/\∀b,blkC v' b->blkC v b\/h.size<=b)/\At E h' w'/\(Builtin.append_ #[t,tn] ty #[v,.int kq m]).run P w=.ok v' w':=by
 obtain ⟨i,hi,hik⟩:=szB_iff hk;have hib:i.bytes=1:=by
  obtain ⟨i',hi',e'⟩:=byB_iff hby;rw [hi] at hi';injection hi' with hi';subst hi';exact e'
 have hiz:i.zero=some (.int .u8 0):=by
  obtain ⟨i',hi',e'⟩:=zrB_iff hz;rw [hi] at hi';injection hi' with hi';subst hi';exact e'
 have hut:=elB_iff ht;have hutn:=inB_iff htn;obtain ⟨a,n,c,rfl,hnc,hc,hl,hr⟩:=hv;have hl:xs.length=n:=by simpa using hl
 by_cases hm0:m=0
 ·subst hm0;refine ⟨.slice a n c,h,w,⟨by simpa using ⟨a,n,c,rfl,hnc,hc,by simpa using hl,hr⟩,Chg.refl _ _,fun b hb=>.inl hb⟩,at',?_⟩;cases a with
  | none=>simp [Builtin.append_,run_underlying hut,run_underlying hutn,sizeOf,typeInfo,hi,asInt,asIntOf,IntKind.wrap_i64,hnc,hib]
  | some ad=>simp [Builtin.append_,run_underlying hut,run_underlying hutn,sizeOf,typeInfo,hi,asInt,asIntOf,IntKind.wrap_i64,hnc,hib,storeCells]
 have hw:IntKind.i64.wrap (m:Int)=m:=by rw [IntKind.wrap_i64];omega
 have hneg:¬((m:Int)<0):=by omega
 have h48i:¬(281474976710656<(m:Int)):=by omega
 have grow:c<n+m->(Builtin.firstCells i.size n (.slice a n c)).run P w.drew=.ok xs.toArray w.drew->∃v' h' w',(Cap h' 1 e v' (xs++List.replicate m (.int .u8 0))/\Chg (blkC (.slice a n c)) h h'/\∀b,blkC v' b->blkC (.slice a n c) b\/h.size<=b)/\At E h' w'/\(Builtin.append_ #[t,tn] ty #[.slice a n c,.int kq m]).run P w=.ok v' w':=by
  intro hg hold;have hrun:=Lib.run_append_grow_zeros (P:=P) w t tn ty e i (.int .u8 0) kq kn hut hutn hi hiz a n c xs hold m (by omega) (by omega) hg (by omega) (by rw [hib];omega) (growslice_fits (by omega) (by rw [hib];omega));have hge:=grownCap_ge w (n+m) c e;have hcm:=grownCap_le_maxLen w (n+m) c e (by simp only [maxLen];omega);simp only [maxLen] at hcm;refine ⟨_,_,_,⟨⟨_,n+m,_,rfl,hge,hcm,by simp [hl],.inr ⟨w.heap.size,0,_,(0,0),rfl,by rw [at'.heap];exact push_same _ _,?_,fzOk_zero _,?_⟩⟩,(Ext.push _ _).to,?_⟩,(at'.drew).alloc _,hrun⟩
  ·simp only [Array.size_append,kF,size_zeroCells,hl];simp [Value.cells];omega
  ·simp only [kY,Array.toList_append,Nat.mul_one];rw [zeroCells_eq _ m rfl];have:n+m=(xs++List.replicate m (Value.int .u8 0)).length:=by simp [hl]
   rw [this];exact List.take_left
  ·rintro bb ⟨oo,nn,cc,hv⟩;right;injection hv with h1;injection h1 with h1;injection h1 with h1;rw [<-h1,at'.heap];exact qR _
 rcases hr with ⟨rfl,rfl⟩ | ⟨b,o,cs,fz,rfl,hb,hs,hf,hx⟩
 ·have hn0:n=0:=by omega
  subst hn0;have hx0:xs=[]:=qW hl;subst hx0;exact grow (by omega) (by rw [hik];exact run_firstCells_none _ _ _ _ _)
 ·by_cases hroom:n+m<=c
  ·have hwb:w.heap[b]? = some (.cells cs e fz):=by rw [at'.heap];exact hb
   have hst:=run_storeCells_cells (P:=P) b (o+n) (List.replicate m (.int .u8 0)) 0 w (fun j hj=>by rw [cell?_eq,cell_of hwb];simp at hj⊢;omega) (fun j hj=>frozen?_eq hwb hf (by simp at hj;omega)) (fun u hu=>by rw [List.eq_of_mem_replicate hu];rfl);rw [Nat.add_zero,setCells_row b e fz _ (o+n) w cs hwb (by simp;omega)] at hst;have hz2:(Builtin.zeroCells (Value.int .u8 0).cells m).toList=List.replicate m (.int .u8 0):=zeroCells_eq _ m rfl;refine ⟨.slice (some ⟨b,o,none⟩) (n+m) c,_,_,⟨⟨_,n+m,c,rfl,hroom,hc,by simp [hl],.inr ⟨b,o,(spl cs.toList (o+n) (List.replicate m (.int .u8 0))).toArray,fz,rfl,hput_same hb,?_,?_,?_⟩⟩,?_,?_⟩,at'.setRow _ _,?_⟩
   ·simp only [kF];rw [spl_length (by simp;omega)];simpa using hs
   ·simp only [kF];rw [spl_length (by simp;omega)];simpa using hf
   ·apply List.ext_getElem?;intro j;rw [List.getElem?_take];split
    ·rename_i hj;rw [List.getElem?_drop];by_cases hjn:j<n
     ·rw [spl_lt (by omega) (by simp;omega),List.getElem?_append_left (by omega),<-hx,List.getElem?_take,if_pos (by omega),List.getElem?_drop]
     ·have e1:o+j=o+n+(j-n):=by omega
      rw [e1,spl_mid (by simp;omega) (by simp;omega),List.getElem?_append_right (by omega),hl]
    ·rename_i hj;rw [List.getElem?_eq_none];simp [hl];omega
   ·exact (hput_chg h b _).mono fun x _ hxb=>by subst hxb;exact ⟨o,n,c,rfl⟩
   ·rintro bb ⟨oo,nn,cc,hv⟩;left;injection hv with h1 h2 h3;injection h1 with h1;injection h1 with h1 h4;subst h1;exact ⟨o,n,c,rfl⟩
   ·have hns:¬(m*i.size=0):=by rw [hik];omega
    simp [Builtin.append_,run_underlying hut,run_underlying hutn,sizeOf,typeInfo,zeroValue,hi,hiz,asInt,asIntOf,hw,hneg,hns,hib,h48i,hroom,hz2,Addr.add_lit,hik,hst,hm0]
  ·have holds:∀j u,xs[j]? = some u->w.cell? ((⟨b,o,none⟩:Addr).add j)=some u:=fun j u hj=>by
    rw [Addr.add_lit,cell?_eq,at'.heap,cell_of hb,<-Array.getElem?_toList];rw [<-hx,List.getElem?_take] at hj;split at hj
    ·rwa [List.getElem?_drop] at hj
    ·cases hj
   exact grow (by omega) (run_firstCells_some (P:=P) w.drew i.size n ⟨b,o,none⟩ n c xs (by rw [hl,hik];simp) (by simpa using holds))
theorem bv_zeros {l:List UInt8} {m:Nat} : l.map bv++List.replicate m (.int .u8 0)=(l++List.replicate m 0).map bv:=by simp [bv]
section
variable {P:Program} {s:Slots} {h:Heap} {d:Option Tmp} {ty:TypeId} {pos:String} {af:Array Edge} {g:Option (Nat × Bool)} {x y:Operand} {t u:TypeId}
theorem OpV.maxn {a b:Nat} (hx:ev s x=.int .i64 (a:Int):=by exact rfl) (hy:ev s y=.int .i64 (b:Int):=by exact rfl):OpV P ⟨d,.call ⟨.builtin .max,#[x,y],#[t,u]⟩,ty,pos,af,g⟩ s h (.int .i64 ((max a b:Nat):Int)):=by
 have:((max a b:Nat):Int)=max (a:Int) (b:Int):=by omega
 rw [this];exact OpV.max2 hx hy
theorem OpV.mkf {f:FuncId} {xs:Array Operand} {vs:List Value} (hx:xs.toList.map (ev s)=vs:=by exact rfl):OpV P ⟨d,.makeFunc (.func f) #[] xs,ty,pos,af,g⟩ s h (.func (.func f) #[] vs.toArray):=fun w _=>by
 have e:xs.map (ev s)=vs.toArray:=by rw [<-hx];apply Array.ext';simp
 simp [execOp,Instr.makeFunc,e]
end
theorem OpA.apz {P:Program} {s:Slots} {h0 h:Heap} {D:Nat->Prop} {M R:List Itm} {d:Option Tmp} {ty:TypeId} {pos:String} {af:Array Edge} {g:Option (Nat × Bool)} {x y:Operand} {t tn e:TypeId} {kn kq:IntKind} {a:Option Addr} {n c:Nat} {l:List UInt8} {z:Int} (m:Nat)
  (ht:elB P t=some e) (htn:inB P tn=some kn) (hk:szB P e=some 1) (hby:byB P e=some 1) (hz:zrB P e=some (.int .u8 0)) (ok:Hp h0 D (capI 1 e (a,n,c) (l.map bv)::M) R h) (hm:z=m) (hfit:l.length+m<=140737488355328)
  (hx:ev s x=.slice a n c:=by exact rfl) (hy:ev s y=.int kq z:=by exact rfl) :
  OpA P ⟨d,.call ⟨.builtin .append,#[x,y],#[t,tn]⟩,ty,pos,af,g⟩ s h (fun v' h'=>∃a' c',v'=.slice a' (l++List.replicate m 0).length c'/\Hp h0 D (capI 1 e (a',(l++List.replicate m 0).length,c') ((l++List.replicate m 0).map bv)::M) R h'):=fun E w at'=>by
 obtain ⟨v',h',w',⟨q1,q2,q3⟩,at2,hr⟩:=run_appendZ (ty:=ty) (kq:=kq) ht htn hk hby hz ok.m0 (m:=m) (by simpa using hfit) at';refine ⟨v',h',w',?_,at2,by subst hm;simp [execOp,resolve,invoke,builtin,hx,hy,hr]⟩;rw [bv_zeros] at q1;obtain ⟨x',rfl⟩:=q1.form;obtain ⟨a',n',c'⟩:=x';have hn:n'=(l++List.replicate m (0:UInt8)).length:=by
  have:=q1.sl.cells.1;simp only [qM,Nat.mul_one] at this;exact this.symm
 subst hn;exact ⟨a',c',rfl,ok.upd q2 (fun _ x=>x) _ q1 fun j hj=>(q3 j hj).elim .inl fun h1=>.inr ⟨h1,q1.lt hj⟩⟩
theorem OpA.cpyA {P:Program} {s:Slots} {h0 h:Heap} {D:Nat->Prop} {M R:List Itm} {d:Option Tmp} {ty:TypeId} {pos:String} {af:Array Edge} {g:Option (Nat × Bool)} {x y:Operand} {t t' e:TypeId} {a:Option Addr} {n c k:Nat} {a':Option Addr} {m c':Nat} {xs ys:List Value} (i:Nat)
  (ht:elB P t=some e) (hk:szB P e=some k) (ok:Hp h0 D (capI k e (a,n,c) xs::M) R h) (hn:Sl h k (.slice a' m c') ys) (h1:∀u∈ys,u.oneCell'=true)
  (hx:ev s x=.slice (cutA a i c k) (n-i) (c-i)) (hy:ev s y=.slice a' m c':=by exact rfl) (him:i+m<=n:=by omega) :
  OpA P ⟨d,.call ⟨.builtin .copy,#[x,y],#[t,t']⟩,ty,pos,af,g⟩ s h (fun v h'=>v=.int .i64 (m:Int)/\Hp h0 D (capI k e (a,n,c) (spl xs (i*k) ys)::M) R h'/\Chg (blkC (sv (a,n,c))) h h'):=by
 have hc:Cap h k e (.slice a n c) xs:=ok.m0;obtain ⟨a1,n1,c1,hv,hnc,_,hl,hr⟩:=id hc;injection hv with e1 e2 e3;subst e1 e2 e3;rcases hr with ⟨rfl,rfl⟩ | ⟨b,o,cs,fz,rfl,_⟩
 ·have hm0:m=0:=by omega
  have hi0:i=0:=by omega
  have hn0:n=0:=by omega
  subst hm0 hi0 hn0;have hr0:=hn.cells;have hys:ys=[]:=qW (by simpa using hr0.1);subst hys;have hxs:xs=[]:=qW (by simpa using hl);subst hxs;refine fun E w at'=>⟨_,h,w,⟨rfl,by simpa [spl] using ok,Chg.refl _ _⟩,at',?_⟩;have hf:(Builtin.firstCells k 0 (.slice a' 0 c')).run P w=.ok #[] w:=by cases a'<;>simp [Builtin.firstCells,loadCells,loadCellsFrom]
  have hx':ev s x=.slice none 0 0:=by rw [hx];simp [cutA]
  simp [execOp,resolve,invoke,builtin,hx',hy,Builtin.copy_,run_und (elB_iff ht),Builtin.lenOf,run_szB hk,hf,goInt,storeCells]
 ·exact OpA.mk (OpA.cpy (t':=t') i ht hk ok hn h1 hx hy him) fun v h' q=>⟨q.1,q.2.1,q.2.2.mono fun x _ hx=>⟨o,n,c,by rw [show x=b from hx]⟩⟩
open Go
theorem run_markStringish {P:Program} {h:Heap} {e:TypeId} {b o n c:Nat} {xs:List Value} (r:Cap h 1 e (.slice (some ⟨b,o,none⟩) n c) xs) {E:Env} {w:World} (at':At E h w) :
  ∃h' w',Cap h' 1 e (.slice (some ⟨b,o,none⟩) n c) xs/\Chg (fun x=>x=b) h h'/\At E h' w'/\(markStringish ⟨b,o,none⟩).run P w=.ok () w':=by
 obtain ⟨a',n',c',hv,hn,hcm,hxl,hr⟩:=r;injection hv with g1 g2 g3;subst g1 g2 g3;rcases hr with ⟨hbad,_⟩ | ⟨b',o',cs,fz,hab,hb,hs,hf,hx⟩
 ·cases hbad
 injection hab with hab;injection hab with g1 g2;subst g1 g2;have hwb:w.heap[b]? = some (.cells cs e fz):=by rw [at'.heap];exact hb
 obtain ⟨lo,hi⟩:=fz;refine ⟨(w.freeze ⟨b,cs.size,none⟩ 1).heap,w.freeze ⟨b,cs.size,none⟩ 1,⟨_,_,_,rfl,hn,hcm,hxl,.inr ⟨b,o,cs,if lo == hi then (cs.size,cs.size+1) else (min lo cs.size,max hi (cs.size+1)),rfl,?_,hs,?_,hx⟩⟩,?_,⟨rfl,at'.os,at'.tape,at'.output⟩,?_⟩
 ·simp [World.freeze,Array.getElem?_modify,hwb]
 ·obtain ⟨h1,h2⟩:=hf;simp only at h1 h2;by_cases hlh:lo=hi
  ·simp [hlh,fzOk];intro j hj hj2;omega
  ·have:cs.size<=lo:=by
    rcases Nat.lt_or_ge lo cs.size with h3 | h3
    ·exact absurd ⟨qR _,by omega⟩ (h2 lo h3)
    ·exact h3
   simp only [beq_iff_eq,hlh,if_false,fzOk];refine ⟨by omega,fun j hj=>by omega⟩
 ·rw [<-at'.heap];refine ⟨by simp [World.freeze],fun b' _ hf=>?_⟩;have:¬b=b':=fun e=>hf e.symm;simp [World.freeze,Array.getElem?_modify,this]
 ·simp [markStringish,shape,freeze,Sem.run,World.shape?,hwb]
section
variable {P:Program} {s:Slots} {h0 h:Heap} {D:Nat->Prop} {M R:List Itm} {d:Option Tmp} {ty:TypeId} {pos:String} {af:Array Edge} {g:Option (Nat × Bool)} {x:Operand} {t u e:TypeId}
theorem OpA.cvL {b o n c:Nat} {xs:List Value} (ht:elB P t=some e) (he:inB P e=some .u8) (ok:Hp h0 D (capI 1 e (some ⟨b,o,none⟩,n,c) xs::M) R h) (hx:ev s x=.slice (some ⟨b,o,none⟩) n c:=by exact rfl) :
  OpA P ⟨d,.convert t t x,ty,pos,af,g⟩ s h (fun v h'=>v=.slice (some ⟨b,o,none⟩) n c/\Hp h0 D (capI 1 e (some ⟨b,o,none⟩,n,c) xs::M) R h'/\Chg (fun j=>j=b) h h'):=fun E w at'=>by
 obtain ⟨h',w',hcap,hchg,at2,hr⟩:=run_markStringish (P:=P) ok.m0 at';refine ⟨_,h',w',⟨rfl,ok.upd hchg (fun j e=>by subst e;exact ⟨o,n,c,rfl⟩) _ hcap (fun _ x=>.inl x),hchg⟩,at2,?_⟩;simp [execOp,hx,convert,run_und (elB_iff ht),run_und (inB_iff he),hr]
def BA (l:List UInt8):ByteArray:=⟨l.toArray⟩
@[simp] theorem BA_toList (l:List UInt8):(BA l).toList=l:=by rw [ByteArray.toList_eq];simp [BA]
theorem fold_push (l:List UInt8):∀s:ByteArray,(l.map fun x=>(x.toNat:Int)).foldl (fun r n=>r.push (UInt8.ofNat n.toNat)) s=⟨s.data++l.toArray⟩:=by
 induction l with
 | nil=>intro s;simp
 | cons a l ih=>intro s;simp only [kE,List.foldl_cons,ih];simp [ByteArray.push]
theorem OpV.bts {v:Value} {l:List UInt8} (ht:elB P t=some e) (he:inB P e=some .u8) (hu:stB P u=true) (r:Bytes h v l) (hx:ev s x=v:=by exact rfl) :
  OpV P ⟨d,.convert t u x,ty,pos,af,g⟩ s h (.string (BA l)):=fun w hw=>by
 obtain ⟨a,n,c,rfl,h1,h2,hr⟩:=id r;have hc:(convert t u (.slice a n c)).run P w=(Conv.bytesToString (.slice a n c)).run P w:=run_convert_bytes_string w t u e a n c (elB_iff ht) (inB_iff he) (stB_iff hu);have hlen:l.length=n:=by have:=hr.1;simpa using this
 have hb:(Conv.bytesToString (.slice a n c)).run P w=.ok (.string (BA l)) w:=by
  cases a with
  | none=>
   have:n=0:=by
    rcases Nat.eq_zero_or_pos n with e | e
    ·exact e
    ·obtain ⟨b,o,e2,_⟩:=hr.2 e;cases e2
   have:l=[]:=qW (by omega);subst this;simp [Conv.bytesToString,Sem.run_pure];rfl
  | some ad=>
   have hl:(loadCells ad n).run P w=.ok (((l.map fun x=>(x.toNat:Int)).map (Value.int .u8)).toArray) w:=by
    rcases Nat.eq_zero_or_pos n with e | e
    ·have:l=[]:=qW (by omega);subst this;subst e;simp [loadCells,loadCellsFrom]
    ·obtain ⟨b,o,e2,hcl⟩:=hr.2 e;injection e2 with e2;subst e2;have:=run_loadCells_list (P:=P) (w:=w) ⟨b,o,none⟩ ((l.map fun x=>(x.toNat:Int)).map (Value.int .u8)) (fun j v hj=>by
      rw [Addr.add_lit,cell?_eq,hw];exact hcl j v (by rw [List.map_map] at hj;exact hj))
     simpa [hlen] using this
   rw [run_bytesToString w ad n c _ hl,fold_push];simp [BA]
 have:(convert t u (ev s x)).run P w=.ok (.string (BA l)) w:=by rw [hx,hc,hb]
 simp [execOp,this]
end
end Go.HL
namespace Go.Proofs.YtfegfklipbnhjaaGreat
open Go Go.HL
theorem sumN_lt (l:List UInt8):sumN l<4294967296:=by rw [sumN_def];omega
end Go.Proofs.YtfegfklipbnhjaaGreat
namespace Go.Proofs.YtfegfklipbnhjaaGreat
theorem and_pow:∀n,n<4097->256<=n->(n &&& (n-1)=0↔(n=256\/n=512\/n=1024\/n=2048\/n=4096)):=by decide +kernel
open Go Go.HL
def okZ (z:Int):Bool:=decide (z=256\/z=512\/z=1024\/z=2048\/z=4096)
theorem tolist_eq (a b:List UInt8):((BA a).toList == (BA b).toList)=decide (a=b):=by rw [BA_toList,BA_toList];by_cases h:a=b<;>simp [h]
theorem equal_any {h:Heap} {F E F' E':Nat->Prop} {a b:Option Addr} {c d:Nat} {l l2:List UInt8} (hl:RdL h F E (a,l.length,c) l) (hm:RdL h F' E' (b,l2.length,d) l2) :
  Hc 119 #[.slice a l.length c,.slice b l2.length d] h (fun v h'=>v=.bool (decide (l=l2))/\h'=h):=by
 refine HC.go Tryz.func119 10 ?_;refine .s<|.z .asB<|.nil<|.s<|.z .mvS<|.z (.bts T.el35 T.in5 T.st9 (hl).by)<|.z .mvS<|.z (.bts T.el35 T.in5 T.st9 (hm).by)<|.z .tEq<|.z .asB<|.nil<|.ret ⟨.bool ((BA l).toList == (BA l2).toList),Res.one rfl rfl,⟨by rw [tolist_eq],rfl⟩⟩
theorem RdL.isNone {α:Type} [Rep α] {h:Heap} {F E:Nat->Prop} {a:Option Addr} {n c:Nat} {l:List α} (r:RdL h F E (a,n,c) l) (ha:a.isNone=true):l=[]:=by
 rcases Nat.eq_zero_or_pos l.length with h0 | h0
 ·exact qW h0
 ·obtain ⟨b,o,e,_⟩:=r.at' h0;simp only at e;subst e;cases ha
theorem sclone_any {h:Heap} {F E:Nat->Prop} {a:Option Addr} {c:Nat} {l:List UInt8} (hl:RdL h F E (a,l.length,c) l) (hN:l.length<=1000000000) :
  Hc 105 #[.slice a l.length c] h (fun v h'=>Own h h' 1 5 v (l.map bv)):=by
 have hc2:=hl.m;have hc1:l.length<=c:=hl.c;simp only at hc2;have ok:=(Hp.nil h none_).arg hl;refine HC.go Tryz.func105 8 ?_;refine .s<|.z .asS<|.nil<|.seq<|.s<|.z .mvS<|.z (.sEq T.el35)<|.nil<|.cond (fun C0=>?_) (fun C0=>?_)
 ·
  obtain rfl:=RdL.isNone hl C0;refine .s<|.z .asS<|.nil<|.ret ⟨.N,Res.one rfl rfl,Own.nil ok.chg _ _⟩
 refine .skip<|.s<|.a' 5 (.lit [] (cs:=[]) T.el35 T.sz5 T.zr5 ok trivial) ?_;rintro _ U1 ⟨pb1,rfl,ok,xe⟩;have ok:=ok.cx (ys:=([]:List UInt8).map bv) rfl;refine .z .mvS<|.a' 7 (.app (news:=l.map bv) T.el35 T.sz5 T.by5 T.zr5 ok (ok.r0).by bv_all (by simp only [qM,qA,qJ,qV,qB,kW,List.length_range,fixedN_len,sealN_len];omega)) ?_;rintro _ U2 ⟨ya1,yn1,yc1,rfl,ok,ap⟩;have ok:=ok.cx (ys:=(l).map bv) (by simp [bv]);obtain rfl:yn1=(l).length:=ok.lenB;refine .z .asS<|.nil<|.ret ⟨.slice ya1 ((l).length) yc1,Res.one rfl rfl,ok.toOwn⟩
theorem bclone_any {h:Heap} {F E:Nat->Prop} {a:Option Addr} {c:Nat} {l:List UInt8} (hl:RdL h F E (a,l.length,c) l) (hN:l.length<=1000000000) :
  Hc 67 #[.slice a l.length c] h (fun v h'=>Own h h' 1 5 v (l.map bv)):=by
 have hc2:=hl.m;have hc1:l.length<=c:=hl.c;simp only at hc2;have ok:=(Hp.nil h none_).arg hl;refine HC.go Tryz.func67 8 ?_;refine .s<|.z .asS<|.nil<|.seq<|.s<|.z .mvS<|.z (.sEq T.el35)<|.nil<|.cond (fun C0=>?_) (fun C0=>?_)
 ·
  obtain rfl:=RdL.isNone hl C0;refine .s<|.z .asS<|.nil<|.ret ⟨.N,Res.one rfl rfl,Own.nil ok.chg _ _⟩
 refine .skip<|.s<|.a' 5 (.lit [] (cs:=[]) T.el35 T.sz5 T.zr5 ok trivial) ?_;rintro _ U1 ⟨pb1,rfl,ok,xe⟩;have ok:=ok.cx (ys:=([]:List UInt8).map bv) rfl;refine .z .mvS<|.a' 7 (.app (news:=l.map bv) T.el35 T.sz5 T.by5 T.zr5 ok (ok.r0).by bv_all (by simp only [qM,qA,qJ,qV,qB,kW,List.length_range,fixedN_len,sealN_len];omega)) ?_;rintro _ U2 ⟨ya1,yn1,yc1,rfl,ok,ap⟩;have ok:=ok.cx (ys:=(l).map bv) (by simp [bv]);obtain rfl:yn1=(l).length:=ok.lenB;refine .z .asS<|.nil<|.ret ⟨.slice ya1 ((l).length) yc1,Res.one rfl rfl,ok.toOwn⟩
section
variable {h:Heap} {pb c hd:Nat} {a:Option Addr} {F E:Nat->Prop} {l:List UInt8}
theorem rdN_lt2 (b:List UInt8) (p:Nat):rdN b p 2<65536:=by
 have h1:=beN_lt ((b.drop p).take 2);have h2:((b.drop p).take 2).length<=2:=by simp;omega
 exact kP h1 (kN (pow256 h2) (by decide))
theorem mnS_lt (l:List UInt8) (h:Nat):mnS l h<65536:=rdN_lt2 _ _
theorem atS_lt (l:List UInt8) (h i:Nat):atS l h i<65536:=rdN_lt2 _ _
theorem lnS_lt (l:List UInt8) (h i:Nat):lnS l h i<65536:=rdN_lt2 _ _
theorem snum_any {p:Nat} (hl:RdL h F E (a,l.length,c) l) (hb:(boxI pb 306 [.slice a l.length c,.J (hd:Int)]).p h) (hN:l.length<=1000000) (hp:p+2<=l.length) :
  Hc 258 #[.P pb,.J (p:Int)] h (fun v h'=>v=.J ((rdN l p 2:Nat):Int)/\h'=h):=by
 have hc2:=hl.m;have hc1:l.length<=c:=hl.c;simp only at hc2;refine HC.go Tryz.func258 18 ?_;refine .s<|.z .asI<|.nil ?_;refine .s<|.z .mvP<|.z .nil<|.z (.fa T.fd306_0)<|.z (.ldx T.ag35 hb)<|.z .mvI<|.k 13 .func (read_any (p:=p) (size:=2) (a:=a) (c:=c) (l:=l) hl (by omega) (by omega) (by omega))<|.z .mvU<|.z .ex<|.z .ex<|.z .asI<|.z .asI<|.nil ?_;refine .s<|.z .mvI<|.z (.cvi T.in3 T.in207 (ha:=by exact Nat.lt_trans (rdN_lt2 _ _) (by decide)))<|.z .asI<|.nil ?_;refine .ret ⟨.J (((rdN l p 2):Nat):Int),Res.one rfl rfl,⟨rfl,rfl⟩⟩
theorem smany_any (hl:RdL h F E (a,l.length,c) l) (hb:(boxI pb 306 [.slice a l.length c,.J (hd:Int)]).p h) (hN:l.length<=1000000) (hp:hd+2<=l.length) :
  Hc 215 #[.P pb] h (fun v h'=>v=.J ((mnS l hd:Nat):Int)/\h'=h):=by
 have hc2:=hl.m;have hc1:l.length<=c:=hl.c;simp only at hc2;refine HC.go Tryz.func215 9 ?_;refine .s<|.z .asI<|.nil ?_;refine .s<|.z .mvP<|.z .mvP<|.z .nil<|.z (.fa T.fd306_1)<|.z (.ldx T.ag3 hb)<|.k 8 .func (snum_any (pb:=pb) (hd:=hd) (a:=a) (c:=c) (l:=l) hl hb (by omega) (p:=hd) (by omega))<|.z .asI<|.nil ?_;refine .ret ⟨.J (((rdN l hd 2):Nat):Int),Res.one rfl rfl,⟨rfl,rfl⟩⟩
theorem sslot_any {n i:Nat} (hb:(boxI pb 306 [.slice a n c,.J (hd:Int)]).p h) (hp:hd+i<=1000000000) :
  Hc 218 #[.P pb,.J (i:Int)] h (fun v h'=>v=.J ((hd+2+2*i:Nat):Int)/\h'=h):=by
 refine HC.go Tryz.func218 13 ?_;refine .s<|.z .asI<|.nil ?_;refine .s<|.z .mvP<|.z .nil<|.z (.fa T.fd306_1)<|.z (.ldx T.ag3 hb)<|.z (.addI (b:=2))<|.z .mvI<|.z (.mulI (a:=2))<|.z .addI<|.z .asI<|.nil ?_;refine .ret ⟨.J (((hd+2)+(2*i):Nat):Int),Res.one rfl rfl,⟨rfl,rfl⟩⟩
theorem sspan_any {i:Nat} (hl:RdL h F E (a,l.length,c) l) (hb:(boxI pb 306 [.slice a l.length c,.J (hd:Int)]).p h) (hN:l.length<=1000000) (hp:hd+2+2*i+2<=l.length) (hq:atS l hd i+2<=l.length) :
  Hc 251 #[.P pb,.J (i:Int)] h (fun v h'=>v=.tuple #[.J ((atS l hd i+2:Nat):Int),.J ((atS l hd i+2+lnS l hd i:Nat):Int)]/\h'=h):=by
 have hc2:=hl.m;have hc1:l.length<=c:=hl.c;simp only at hc2;have h1:=lnS_lt l hd i;refine HC.go Tryz.func251 20 ?_;refine .s<|.z .asI<|.z .asI<|.nil ?_;refine .s<|.z .mvP<|.z .mvP<|.z .mvI<|.k 10 .func (sslot_any (pb:=pb) (hd:=hd) (i:=i) hb (by omega))<|.k 11 .func (snum_any (pb:=pb) (hd:=hd) (a:=a) (c:=c) (l:=l) hl hb (by omega) (p:=(hd+2+2*i)) (by omega))<|?_;rw [show (rdN l (hd+2+2*i) 2)=(atS l hd i) from rfl];refine .z .asI<|.nil ?_;refine .s<|.z .mvI<|.z (.addI (b:=2))<|.z .mvI<|.z (.addI (b:=2))<|.z .mvP<|.z .mvI<|.k 18 .func (snum_any (pb:=pb) (hd:=hd) (a:=a) (c:=c) (l:=l) hl hb (by omega) (p:=(atS l hd i)) (by omega))<|?_;rw [show (rdN l (atS l hd i) 2)=(lnS l hd i) from rfl];refine .z .addI<|.z .asI<|.z .asI<|.nil ?_;refine .ret ⟨.tuple #[.J (((atS l hd i)+2:Nat):Int),.J ((((atS l hd i)+2)+(lnS l hd i):Nat):Int)],Res.two rfl rfl rfl,⟨rfl,rfl⟩⟩
theorem sMany_any (hl:RdL h F E (a,l.length,c) l) (hb:(boxI pb 306 [.slice a l.length c,.J (hd:Int)]).p h) (hN:l.length<=1000000) (hp:hd+2<=l.length) :
  Hc 202 #[.P pb] h (fun v h'=>v=.J ((mnS l hd:Nat):Int)/\h'=h):=by
 have hc2:=hl.m;have hc1:l.length<=c:=hl.c;simp only at hc2;refine HC.go Tryz.func202 7 ?_;refine .s<|.z .asI<|.nil ?_;refine .seq<|.s<|.z .mvP<|.z (.pEqS T.pt246)<|.nil ?_;refine .cf<|.skip<|.s<|.z .mvP<|.k 6 .func (smany_any (pb:=pb) (hd:=hd) (a:=a) (c:=c) (l:=l) hl hb (by omega) (by omega))<|.z .asI<|.nil ?_;refine .ret ⟨.J (((mnS l hd):Nat):Int),Res.one rfl rfl,⟨rfl,rfl⟩⟩
theorem sleft_any (hl:RdL h F E (a,l.length,c) l) (hb:(boxI pb 306 [.slice a l.length c,.J (hd:Int)]).p h) (hN:l.length<=1000000) {z:Nat} {cs:List (List UInt8)} (hz:l.length=z) (hm:mnS l hd=cs.length) (hr:hd+2+2*cs.length+tS cs<=z) (hat:∀i,i<cs.length->atS l hd i=z-tS (cs.take (i+1))) (hln:∀i (hi:i<cs.length),lnS l hd i=cs[i].length) :
  Hc 216 #[.P pb] h (fun v h'=>v=.J ((z:Int)-hd-2-2*cs.length-tS cs)/\h'=h):=by
 have hc2:=hl.m;have hc1:l.length<=c:=hl.c;simp only at hc2;refine HC.go Tryz.func216 37 ?_;refine .s<|.z .asI<|.nil ?_;refine .seq<|.q (hm:=mixed)<|.z .mvP<|.z .nil<|.z (.fa T.fd306_0)<|.z (.ldx T.ag35 hb)<|.z (.len T.el35)<|.z .mvP<|.z .nil<|.z (.fa T.fd306_1)<|.z (.ldx T.ag3 hb)<|.z .sub<|.z .sub<|.z .asI<|.nil ?_;refine .seq<|.s<|.z .mvP<|.k 19 .func (smany_any (pb:=pb) (hd:=hd) (a:=a) (c:=c) (l:=l) hl hb (by omega) (by omega))<|.z .mvI<|.nil ?_;refine .block fun K0 hK0=>.loop (fun m s hh=>∃(i:Nat) (n:Int),Has s [(0,.P pb),(3,.J n),(19,.J (((mnS l hd):Nat):Int)),(20,.J (i:Int))]/\h=hh/\i<=cs.length/\n=(z:Int)-hd-2-2*(i:Int)-(tS (cs.take i):Int)/\m=cs.length-i) ?_ ?_
 ·exact ⟨_,0,(((l.length:Int)-(hd:Int))-2),⟨rfl,rfl,rfl,rfl,trivial⟩,rfl,qL _,by rw [kM,tS_nil];omega,rfl⟩
 rintro _ _ _ ⟨i,n,hs,rfl,hi,hn,rfl⟩ J0 hJ0;refine .frame hs fun τ=>?_;refine .s<|.z .lss<|.nil ?_;refine .seq<|.cdr (fun C0=>?_) (fun C0=>?_)
 ·
  refine .exit<|hK0 _ _<|.s<|.z .mvI<|.z .asI<|.nil ?_;refine .ret ⟨.J n,Res.one rfl rfl,⟨by rw [hn,show i=cs.length by omega,List.take_length],rfl⟩⟩
 refine .skip<|.seq<|.block fun K1 hK1=>.s<|.z .mvI<|.z .asI<|.nil ?_;refine .seq<|?_;have hic:i<cs.length:=by omega
 have hti:=tS_take hic;have ha:=hat i hic;have ha2:rdN l (hd+2+2*i) 2=z-tS (cs.take (i+1)):=hat i hic;have hb1:=hln i hic;refine .r<|.z .mvP<|.z .mvI<|.k 26 .func (sspan_any (pb:=pb) (hd:=hd) (a:=a) (c:=c) (l:=l) hl hb (by omega) (i:=i) (by omega) (by omega))<|.z .mvU<|.z .ex<|.z .ex<|.z .asI<|.z .asI<|.nil ?_;refine .r<|.z .mvI<|.z .mvI<|.z (.addI (a:=4))<|.z .mvI<|.z .sub<|.z .sub<|.z .asI<|.nil ?_;refine .end<|hK1 _ _<|.r<|.z (.addI (b:=1))<|.z .mvI<|.nil ?_;refine .end<|hJ0 _ _ _ ⟨i+1,(n-(((4+(atS l hd i+2+lnS l hd i):Nat):Int)-(((atS l hd i+2):Nat):Int))),⟨rfl,rfl,rfl,rfl,trivial⟩,rfl,by omega,by omega,rfl⟩ (by omega)
theorem stop_any (hl:RdL h F E (a,l.length,c) l) (hb:(boxI pb 306 [.slice a l.length c,.J (hd:Int)]).p h) (hN:l.length<=1000000) {z:Nat} {cs:List (List UInt8)} (hz:l.length=z) (hm:mnS l hd=cs.length) (hr:hd+2+2*cs.length+tS cs<=z) (hat:∀i,i<cs.length->atS l hd i=z-tS (cs.take (i+1))) (hln:∀i (hi:i<cs.length),lnS l hd i=cs[i].length) :
  Hc 217 #[.P pb] h (fun v h'=>v=.J ((z-tS cs:Nat):Int)/\h'=h):=by
 have hc2:=hl.m;have hc1:l.length<=c:=hl.c;simp only at hc2;refine HC.go Tryz.func217 24 ?_;refine .s<|.z .asI<|.nil ?_;refine .s<|.z .mvP<|.z .nil<|.z (.fa T.fd306_0)<|.z (.ldx T.ag35 hb)<|.z (.len T.el35)<|.z .asI<|.nil ?_;refine .seq<|.s<|.z .mvP<|.k 11 .func (smany_any (pb:=pb) (hd:=hd) (a:=a) (c:=c) (l:=l) hl hb (by omega) (by omega))<|.z .mvI<|.nil ?_;refine .block fun K0 hK0=>.loop (fun m s hh=>∃(i:Nat) (n:Int),Has s [(0,.P pb),(3,.J n),(11,.J (((mnS l hd):Nat):Int)),(12,.J (i:Int))]/\h=hh/\i<=cs.length/\n=((z-tS (cs.take i):Nat):Int)/\m=cs.length-i) ?_ ?_
 ·exact ⟨_,0,(l.length:Int),⟨rfl,rfl,rfl,rfl,trivial⟩,rfl,qL _,by rw [kM,tS_nil];omega,rfl⟩
 rintro _ _ _ ⟨i,n,hs,rfl,hi,hn,rfl⟩ J0 hJ0;refine .frame hs fun τ=>?_;refine .s<|.z .lss<|.nil ?_;refine .seq<|.cdr (fun C0=>?_) (fun C0=>?_)
 ·
  refine .exit<|hK0 _ _<|.s<|.z .mvI<|.z .asI<|.nil ?_;refine .ret ⟨.J n,Res.one rfl rfl,⟨by rw [hn,show i=cs.length by omega,List.take_length],rfl⟩⟩
 refine .skip<|.seq<|.block fun K1 hK1=>.s<|.z .mvI<|.z .asI<|.nil ?_;have hic:i<cs.length:=by omega
 have hti:=tS_take hic;have ha:=hat i hic;have ha2:rdN l (hd+2+2*i) 2=z-tS (cs.take (i+1)):=hat i hic;have hb1:=hln i hic;refine .r<|.z .mvI<|.z .mvP<|.z .mvP<|.z .mvI<|.k 19 .func (sslot_any (pb:=pb) (hd:=hd) (i:=i) hb (by omega))<|.k 20 .func (snum_any (pb:=pb) (hd:=hd) (a:=a) (c:=c) (l:=l) hl hb (by omega) (p:=(hd+2+2*i)) (by omega))<|.z .min2<|.z .asI<|.nil ?_;refine .end<|hK1 _ _<|.r<|.z (.addI (b:=1))<|.z .mvI<|.nil ?_;refine .end<|hJ0 _ _ _ ⟨i+1,(min n (((rdN l (hd+2+2*i) 2):Nat):Int)),⟨rfl,rfl,rfl,rfl,trivial⟩,rfl,by omega,by omega,rfl⟩ (by omega)
end
end Go.Proofs.YtfegfklipbnhjaaGreat
namespace Go.HL
open Go
def stIB (P:Program) (t:TypeId) (n:Nat) (e:TypeId):Bool:=
 (match P.underlying t with | some (.struct _) => true | _ => false) && ((P.fieldsOf t).toList.map fun f => (f.name != "_", f.type, f.offset)) == ((List.range' 0 n).map fun i => (true, e, i))
theorem stIB_fs {P : Program} {t : TypeId} {n : Nat} {e : TypeId} (h : stIB P t n e = true) : P.underlying t = some (.struct (P.fieldsOf t)) /\ ((P.fieldsOf t).toList.map fun f => (f.name != "_", f.type, f.offset)) = (List.range' 0 n).map fun i => (true, e, i) := by
 unfold stIB at h;rw [Bool.and_eq_true] at h;obtain ⟨h1,h2⟩:=h;refine ⟨?_,by simpa using h2⟩;unfold Program.fieldsOf;revert h1;cases hu:P.underlying t with
 | none=>intro h;cases h
 | some d=>cases d<;>intro h<;>first | rfl | cases h
theorem run_flds {P : Program} {e : TypeId} {k : IntKind} (he : P.underlying e = some (.int k)) (ha : agB P e = some false) (d : Nat) (w : World) (l m : List Int) (hlm : l.length = m.length) : ∀ (fs : List Field) (i n : Nat), i + n = l.length -> (fs.map fun f => (f.name != "_", f.type, f.offset)) = ((List.range' i n).map fun i => (true, e, i)) ->
  (Op.eqFields (d+1) (l.map (Value.int k)).toArray (m.map (Value.int k)).toArray fs).run P w=.ok (decide (l.drop i=m.drop i)) w
 | [],i,0,hi,_=>by
  have h1:l.drop i=[]:=qN (by omega);have h2:m.drop i=[]:=qN (by omega);simp [Op.eqFields,h1,h2]
 | [],i,n+1,_,h=>by simp [List.range'_succ] at h
 | f::fs,i,0,_,h=>by simp at h
 | f::fs,i,n+1,hi,h=>by
  simp only [kE,List.range'_succ,List.cons.injEq,Prod.mk.injEq] at h;obtain ⟨⟨hn,ht,ho⟩,hr⟩:=h;have hn' : f.name ≠ "_" := by simpa using hn
  have h1:i<l.length:=by omega
  have h2:i<m.length:=by omega
  have p1:(part e (l.map (Value.int k)).toArray i).run P w=.ok (.int k l[i]) w:=by simp [part,run_agB ha,h1]
  have p2:(part e (m.map (Value.int k)).toArray i).run P w=.ok (.int k m[i]) w:=by simp [part,run_agB ha,h2]
  have p3:(Op.equalIn (d+1) e (.int k l[i]) (.int k m[i])).run P w=.ok (l[i] == m[i]) w:=by simp [Op.equalIn,run_und he]
  simp only [Op.eqFields,if_pos hn',ht,ho,Sem.run_bind,p1,p2,p3,Result.andThen_ok];have ih:=run_flds he ha d w l m hlm fs (i+1) n (by omega) hr;have e1:(l.drop i=m.drop i)↔(l[i]=m[i]/\l.drop (i+1)=m.drop (i+1)):=by rw [qF h1,qF h2,List.cons.injEq]
  simp only [e1];by_cases hq:l[i]=m[i]
  ·simp only [hq,beq_self_eq_true,Bool.not_true,Bool.false_eq_true,if_false,ih];simp
  ·have:(l[i] == m[i])=false:=by simpa using hq
   simp [this,hq]
theorem wpAnyS_str {P:Program} {ops:Array Oper} {Q:Exit->Act->World->Prop} {bar:Nat} {S S':Bool->World->Prop} (hs:∀fl w,S' fl w->S fl w):∀(fuel:Nat) (listed:Array Bool) (a:Act) (w:World),wpAnyS P ops Q bar S' fuel listed a w->wpAnyS P ops Q bar S fuel listed a w
 | 0,_,_,_,h=>h
 | fuel+1,_,_,_,h=>⟨h.1,fun i hi=>wpOp_mono (fun a' w' h'=>⟨hs _ _ h'.1,wpAnyS_str hs fuel _ a' w' h'.2⟩) (h.2 i hi)⟩
theorem HA.str {P:Program} {n:Nat} {ops:Array Oper} {bar:Nat} {S:Bool->Heap->Prop} {K:Slots->Heap->Prop} {fuel:Nat} {listed:Array Bool} {s:Slots} {h:Heap} (S':Bool->Heap->Prop) (hs:∀fl hh,S' fl hh->S fl hh) (hk:HA P n ops bar S' K fuel listed s h):HA P n ops bar S K fuel listed s h:=
 fun E a w r at'=>wpAnyS_str (fun fl w' q=>hs fl w'.heap q) _ _ _ _ (hk E a w r at')
namespace OpV
variable {P:Program} {s:Slots} {h:Heap} {d:Option Tmp} {ty:TypeId} {pos:String} {af:Array Edge} {g:Option (Nat × Bool)} {x y:Operand} {t u:TypeId}
theorem stE {e:TypeId} {k:IntKind} (l m:List Int) (hs:stIB P t l.length e=true) (he:inB P e=some k) (ha:agB P e=some false) (hg:P.eqGuardType P.depth t=false) (hp:P.stoodInHeld t=false)
  (hx:ev s x=.agg (l.map (Value.int k)).toArray:=by exact rfl) (hy:ev s y=.agg (m.map (Value.int k)).toArray:=by exact rfl) (hm:l.length=m.length:=by exact rfl) :
  OpV P ⟨d,.binOp .eql t x y u,ty,pos,af,g⟩ s h (.bool (decide (l=m))):=fun w _=>by
 have h1:=stIB_fs hs;have h2:=run_flds (inB_iff he) ha 9998 w l m hm _ 0 l.length (Nat.zero_add _) h1.2;have h3:(Op.equalIn 10000 t (.agg (l.map (Value.int k)).toArray) (.agg (m.map (Value.int k)).toArray)).run P w=.ok (decide (l=m)) w:=by
  rw [show (10000:Nat)=(9998+1)+1 from rfl,run_equalIn_agg w (9998+1) t _ _ h1.1 hp,h2];rfl
 have h4:=run_eql_struct (P:=P) w t (l.map (Value.int k)).toArray (m.map (Value.int k)).toArray;rw [h3] at h4;simp only [Result.andThen_ok] at h4;simp only [execOp,hx,hy,Sem.run_bind,run_eqGuard_agg w .eql t x y _ _ hg,Result.andThen_ok,h4];rfl
end OpV
end Go.HL
namespace Go.Proofs.YtfegfklipbnhjaaGreat
open Go Go.HL
theorem T.ste97:stIB Tryz.prog 97 6 3=true:=by kernel_rfl
theorem T.stg97:Tryz.prog.eqGuardType Tryz.prog.depth 97=false:=by kernel_rfl
theorem T.stp97:Tryz.prog.stoodInHeld 97=false:=by kernel_rfl
end Go.Proofs.YtfegfklipbnhjaaGreat
namespace Go.HL
open Go Go.MapKept V
@[reducible] def itI {κ:Type} (kv:κ->Value) (r bm:Nat) (l todo:List (κ × Value)):Itm:=⟨fun h=>Iter kv h r bm l todo,fun j=>j=r\/j=bm,fun _ _ _ c d x=>x.chg c (d r (.inl rfl)) (d bm (.inr rfl))⟩
@[reducible] def itcI {κ:Type} (kv:κ->Value) (r bm:Nat) (l todo:List (κ × Value)) (p:κ × Value):Itm:=⟨fun h=>Iter kv h r bm l todo/\Cur kv h r bm p,fun j=>j=r\/j=bm,fun _ _ _ c d x=>⟨x.1.chg c (d r (.inl rfl)) (d bm (.inr rfl)),x.2.chg c (d r (.inl rfl)) (d bm (.inr rfl))⟩⟩
theorem erase_filter {α:Type} (q:α->Bool):∀ {l:List α} {i:Nat} {e:α},l[i]? = some e->q e=false->(l.eraseIdx i).filter q=l.filter q
 | [],_,_,h,_=>by simp at h
 | x::l,0,e,h,hq=>by
  simp at h;subst h;simp [hq]
 | x::l,i+1,e,h,hq=>by
  simp only [List.getElem?_cons_succ] at h;rw [List.eraseIdx_cons_succ,List.filter_cons,List.filter_cons,erase_filter q h hq]
section
variable {P:Program} {s:Slots} {h0 h:Heap} {D:Nat->Prop} {M R:List Itm} {d:Option Tmp} {ty:TypeId} {pos:String} {af:Array Edge} {g:Option (Nat × Bool)} {x y c:Operand} {t kt et:TypeId} {κ:Type} {kv:κ->Value} {r bm:Nat} {l todo:List (κ × Value)}
theorem OpA.mkm (kv:κ->Value) (ok:Hp h0 D M R h):OpA P ⟨d,.makeMap t none,ty,pos,af,g⟩ s h (fun v h'=>∃b,v=.map (some b)/\Hp h0 D (mapI kv b []::M) R h'):=fun E w at'=>by
 obtain ⟨w',at2,hr⟩:=V.makeMap (P:=P) (s:=s) (h:=h) (d:=d) (t:=t) (ty:=ty) (pos:=pos) (af:=af) (g:=g) E w at';exact ⟨_,_,w',⟨h.size,rfl,ok.newM (Ext.push _ _) _ (MapT.new (push_same _ _)) (fun j hj=>by simp at hj⊢;omega)⟩,at2,hr⟩
theorem Hp.put [DecidableEq κ] {h':Heap} {l':List (κ × Value)} (ok:Hp h0 D (mapI kv r l::M) R h) (q:Put kv h r l' h'):Hp h0 D (mapI kv r l'::M) R h':=ok.upd q.chg (fun _ x=>x) _ q.map (fun _ x=>.inl x)
theorem OpUR.mpu [DecidableEq κ] {dd:TypeDesc} (K:KV kv dd) (hsb:∀a n,Instr.sameBits n (kv a) (kv a)=true) (k:κ) {v:Value} (ht:mpB P t=some (kt,et)) (hd:P.underlying kt=some dd) (ok:Hp h0 D (mapI kv r l::M) R h) (hy:ev s y=kv k:=by exact rfl) (hc:ev s c=v:=by exact rfl) (hx:ev s x=.map (some r):=by exact rfl) :
  OpUR P ⟨d,.mapUpdate t x y c,ty,pos,af,g⟩ s h (Hp h0 D (mapI kv r (aput l k v)::M) R):=OpUR.mk (V.mapUpdate K hsb hx hy hc ok.m0 ht hd) fun h' q=>ok.put q
theorem OpA.rng (ht:mpB P t=some (kt,et)) (ok:Hp h0 D (mapI kv r l::M) R h) (hx:ev s x=.map (some r):=by exact rfl) :
  OpA P ⟨d,.range t x,ty,pos,af,g⟩ s h (fun v h'=>∃b,v=.pointer (some ⟨b,0,none⟩)/\Hp h0 D (itI kv b r l l::M) R h'):=OpA.mk (V.range hx ok.m0 ht) fun v h' ⟨e,it,x,hs⟩=>
 ⟨h.size,e,ok.upd (G:=none_) x (fun _ f=>f.elim) _ it fun j hj=>hj.elim (fun e=>.inr ⟨by omega,by omega⟩) .inl⟩
theorem OpA.nxt (ok:Hp h0 D (itI kv r bm l todo::M) R h) (hx:ev s x=.pointer (some ⟨r,0,none⟩):=by exact rfl) :
  OpA P ⟨d,.next x false,ty,pos,af,g⟩ s h (fun v h'=>(todo=[]/\v=.tuple #[.bool false]/\Hp h0 D (itI kv r bm l todo::M) R h')\/(∃i p,todo[i]? = some p/\v=.tuple #[.bool true,kv p.1,p.2]/\Hp h0 D (itcI kv r bm l (todo.eraseIdx i) p::M) R h')):=fun E w at'=>by
 have hi:Iter kv h r bm l todo:=ok.m0;obtain ⟨es,cl,si,se,c0,h1,h2,he,hs,ho,hsc,hcl,ht⟩:=hi.ex;have w1:w.heap[r]? = some (.mapIter (some bm) si se c0):=by rw [at'.heap];exact h1
 have w2:w.heap[bm]? = some (.map es cl):=by rw [at'.heap];exact h2
 rcases run_next_at (P:=P) w ty r bm si c0 se es cl w1 w2 ho hsc with ⟨hz,hr⟩ | ⟨e,hem,w',hw',hr⟩
 ·refine ⟨_,h,w,.inl ⟨?_,rfl,ok⟩,at',by simp [execOp,hx,hr]⟩;have:(leftOf es se).toList=[]:=by rw [Array.eq_empty_of_size_eq_zero hz]
  rw [this] at ht;cases todo with
  | nil=>rfl
  | cons a b=>simp at ht
 ·obtain ⟨i,hi'⟩:=List.mem_iff_getElem?.1 hem;obtain ⟨p,hp,hk,hv⟩:=ents_at ht hi';have hei:e∈es.toList:=by unfold leftOf at hem;simp at hem;simpa using hem.1
  have hw2:At E h w':=by rcases hw' with rfl | rfl;exact at';exact ⟨at'.heap,at'.os,at'.tape,at'.output⟩
  obtain ⟨c1,c2,c3⟩:=set_chg (o':=.mapIter (some bm) si (se.push e.born) cl) h1;refine ⟨.tuple #[.bool true,e.key,e.val],_,_,.inr ⟨i,p,hp,by rw [hk,hv],ok.upd c1 (fun j e=>.inl e) (itcI kv r bm l (todo.eraseIdx i) p) ⟨⟨⟨es,cl,si,se.push e.born,cl,c2,c1.block h2 (fun e=>hi.ne e.symm),he,hs,ho,hcl,hcl,?_⟩⟩,⟨⟨es,cl,si,se,e,c2,c1.block h2 (fun e=>hi.ne e.symm),hei,hs.2.1,hk,hv⟩⟩⟩ (fun _ x=>.inl x)⟩,hw2.set r (.mapIter (some bm) si (se.push e.born) cl),by simp [execOp,hx,hr];rfl⟩;have hn:((leftOf es se).toList.map (·.born)).Nodup:=by
   unfold leftOf;rw [Array.toList_filter];exact hs.2.1.sublist ((List.filter_sublist).map _)
  have hl:(leftOf es (se.push e.born)).toList=(leftOf es se).toList.eraseIdx i:=by
   rw [<-filter_idx (·.born) hn hi'];unfold leftOf;rw [Array.toList_filter,Array.toList_filter,List.filter_filter];apply List.filter_congr;intro x _;simp [Bool.and_comm]
  rw [hl,map_erase,ht,map_erase]
theorem OpV.ent {p:κ × Value} (hc:Cur kv h r bm p) (hx:ev s x=.pointer (some ⟨r,0,none⟩):=by exact rfl):OpV P ⟨d,.entry x,ty,pos,af,g⟩ s h (.tuple #[kv p.1,p.2]):=V.entry hx hc
theorem OpA.delC [DecidableEq κ] {dd:TypeDesc} (K:KV kv dd) {u':TypeId} {p:κ × Value} (ht:mpB P t=some (kt,et)) (hd:P.underlying kt=some dd) (ok:Hp h0 D (itcI kv r bm l todo p::M) R h) (hy:ev s y=kv p.1:=by exact rfl) (hx:ev s x=.map (some bm):=by exact rfl) :
  OpA P ⟨d,.call ⟨.builtin .delete,#[x,y],#[t,u']⟩,ty,pos,af,g⟩ s h (fun v h'=>v=.tuple #[]/\Hp h0 D (itI kv r bm (adel l p.1) todo::M) R h'):=fun E w at'=>by
 obtain ⟨hi,hc⟩:Iter kv h r bm l todo/\Cur kv h r bm p:=ok.m0;have hne:=hi.ne;have hn:=hi.map.nodup;obtain ⟨es,cl,si,se,c0,h1,hb,he,hs,ho,hsc,hcl,htd⟩:=hi.ex;obtain ⟨es2,cl2,si2,se2,e2,g1,g2,g3,g4,g5,g6⟩:=hc.ex;rw [h1] at g1;rw [hb] at g2;injection g1 with g1;injection g1 with _ g1a g1b g1c;injection g2 with g2;injection g2 with g2a g2b;subst g2a g1b;have hwb:w.heap[bm]? = some (.map es cl):=by rw [at'.heap];exact hb
 rcases MapT.find K he hn p.1 with ⟨_,_,h3⟩ | ⟨i,e,h5,h4,h7,h6,h8⟩
 ·obtain ⟨j,hj⟩:=List.mem_iff_getElem?.1 g3;obtain ⟨q,q1,q2,_⟩:=ents_at he hj;exact absurd (K.inj _ _ (by rw [<-q2,g5])) (h3 q (List.mem_of_getElem? q1))
 ·have hil:i<es.size:=by have:=(List.getElem?_eq_some_iff.1 h4).1;simpa using this
  obtain ⟨c1,c2,c3⟩:=set_chg (o':=.map (es.eraseIdxIfInBounds i) cl) hb;have hel:(es.eraseIdxIfInBounds i).toList=es.toList.eraseIdx i:=by
   unfold Array.eraseIdxIfInBounds;rw [dif_pos hil,Array.toList_eraseIdx]
  have hee:e=e2:=by
   obtain ⟨j,hj⟩:=List.mem_iff_getElem?.1 g3;obtain ⟨q,q1,q2,_⟩:=ents_at he hj;obtain ⟨q',q1',q2',_⟩:=ents_at he h4;have hqq:q.1=q'.1:=K.inj _ _ (by rw [<-q2,<-q2',g5,h7]);have hij:i=j:=by
    have hnd:(l.map (·.1)).Nodup:=hn;have a1:(l.map (·.1))[i]? = some q'.1:=by rw [List.getElem?_map,q1'];rfl
    have a2:(l.map (·.1))[j]? = some q'.1:=by rw [List.getElem?_map,q1,<-hqq];rfl
    exact (List.getElem?_inj (by have:=(List.getElem?_eq_some_iff.1 a1).1;exact this) hnd).1 (by rw [a1,a2])
   subst hij;rw [h4] at hj;injection hj
  refine ⟨_,_,_,⟨rfl,ok.upd c1 (fun j e=>.inr e) _ ⟨⟨_,_,_,_,_,c1.block h1 (fun e=>hne e),c2,?_,stamped_erase hs i,fun x hx=>ho x (by rw [hel] at hx;exact List.mem_of_mem_eraseIdx hx),hsc,hcl,?_⟩⟩ (fun _ x=>.inl x)⟩,at'.set bm (.map (es.eraseIdxIfInBounds i) cl),?_⟩
  ·rw [adel_some hn h6,hel,map_erase,he,map_erase]
  ·unfold leftOf at htd⊢;rw [Array.toList_filter] at htd⊢;rw [hel,erase_filter _ h4 (by rw [hee];simp)];exact htd
  ·simp [execOp,resolve,invoke,builtin,hx,hy,Builtin.delete_,run_und (mpB_iff ht),MapKept.run_getObj_map hwb,run_checkKey hd (K.key p.1),run_findKey hd h5,run_setObj_map _ hwb]
theorem Hp.itc {p:κ × Value} (ok:Hp h0 D (itcI kv r bm l todo p::M) R h):Hp h0 D (itI kv r bm l todo::M) R h:=ok.re _ ok.m0.1 (fun _ x=>x)
theorem Hp.itm (ok:Hp h0 D (itI kv r bm l todo::M) R h):Hp h0 D (mapI kv bm l::M) R h:=ok.re _ ok.m0.map (fun _ x=>.inr x)
end
theorem HO.a0' {P:Program} {n:Nat} {ops:Array Oper} {l:List Oper} {o:Oper} {K:Slots->Heap->Prop} {s:Slots} {h:Heap} {R:Value->Heap->Prop} (hv:OpA P o s h R) (hk:∀v h',R v h'->HO P n ops l K s h') (hw:wants ops o s=true:=by exact rfl) (hd:o.dst=none:=by exact rfl):HO P n ops (o::l) K s h:=HO.a0 hv hw hd hk
theorem OpV.lk {P:Program} {s:Slots} {h:Heap} {d:Option Tmp} {ty:TypeId} {pos:String} {af:Array Edge} {g:Option (Nat × Bool)} {x y:Operand} {t kt et:TypeId} {κ:Type} [DecidableEq κ] {kv:κ->Value} {dd:TypeDesc} (K:KV kv dd) {r:Nat} {l:List (κ × Value)} (k:κ) {z v:Value} (ht:mpB P t=some (kt,et)) (hd:P.underlying kt=some dd) (hz:zrB P et=some z) (hm:MapT kv h r l) (he:(aget l k).getD z=v) (hy:ev s y=kv k:=by exact rfl) (hx:ev s x=.map (some r):=by exact rfl) :
  OpV P ⟨d,.lookup t x y false,ty,pos,af,g⟩ s h v:=V.lookupE K hx hy hm ht hd hz he
theorem OpV.lk2 {P:Program} {s:Slots} {h:Heap} {d:Option Tmp} {ty:TypeId} {pos:String} {af:Array Edge} {g:Option (Nat × Bool)} {x y:Operand} {t kt et:TypeId} {κ:Type} [DecidableEq κ] {kv:κ->Value} {dd:TypeDesc} (K:KV kv dd) {r:Nat} {l:List (κ × Value)} (k:κ) {z v:Value} {b:Bool} (ht:mpB P t=some (kt,et)) (hd:P.underlying kt=some dd) (hz:zrB P et=some z) (hm:MapT kv h r l) (he:(aget l k).getD z=v) (hb:(aget l k).isSome=b) (hy:ev s y=kv k:=by exact rfl) (hx:ev s x=.map (some r):=by exact rfl) :
  OpV P ⟨d,.lookup t x y true,ty,pos,af,g⟩ s h (.tuple #[v,.bool b]):=V.lookupOkE K hx hy hm ht hd hz he hb
open Go Go.MapKept
theorem BA_inj {a b:List UInt8} (h:BA a=BA b):a=b:=by have:=congrArg ByteArray.toList h;simpa using this
theorem BA_size (l:List UInt8):(BA l).size=l.length:=by simp [BA,ByteArray.size]
theorem BA_beq (a b:List UInt8):((BA a).toList == (BA b).toList)=decide (a=b):=by rw [BA_toList,BA_toList];by_cases h:a=b<;>simp [h]
section
variable {P:Program} {s:Slots} {h:Heap} {d:Option Tmp} {ty:TypeId} {pos:String} {af:Array Edge} {g:Option (Nat × Bool)} {x y:Operand} {t u:TypeId} {a b:List UInt8}
theorem OpV.lenT (ht:stB P t=true) (hx:ev s x=.string (BA a):=by exact rfl):OpV P ⟨d,.call ⟨.builtin .len,#[x],#[t]⟩,ty,pos,af,g⟩ s h (.int .i64 (a.length:Nat)):=fun w _=>by
 simp [execOp,resolve,invoke,builtin,hx,Builtin.len_,goInt,BA_size,run_und (stB_iff ht)]
theorem OpV.tNeB (hx:ev s x=.string (BA a):=by exact rfl) (hy:ev s y=.string (BA b):=by exact rfl):OpV P ⟨d,.binOp .neq t x y u,ty,pos,af,g⟩ s h (.bool (decide (a≠b))):=V.stNeq hx hy (by rw [BA_beq];by_cases h:a=b<;>simp [h])
end
@[reducible] def kvB (n:List UInt8):Value:=.string (BA n)
theorem KV.ba:KV kvB .string:=⟨fun a b h=>BA_inj (KV.string.inj _ _ h),fun a=>KV.string.key (BA a)⟩
theorem sbB (a:List UInt8) (n:Nat):Instr.sameBits n (kvB a) (kvB a)=true:=V.sbT (BA a) n
theorem OpC.dyn {P:Program} {s:Slots} {h:Heap} {d:Option Tmp} {ty:TypeId} {pos:String} {af:Array Edge} {g:Option (Nat × Bool)} {x:Operand} {xs:Array Operand} {ts:Array TypeId} {f:FuncId} {caps:Array Value} {args:List Value} (hx:ev s x=.func (.func f) #[] caps:=by exact rfl) (ha:xs.toList.map (ev s)++caps.toList=args:=by exact rfl) :
  OpC P ⟨d,.call ⟨.value x,xs,ts⟩,ty,pos,af,g⟩ s h f args.toArray:=fun w _ hc=>by
 have ha':xs.map (ev s)++caps=args.toArray:=by rw [<-ha];apply Array.ext';simp
 rw [<-ha'];obtain ⟨fn,hf,hb,hbody⟩:=hc;have h2' : ¬ fn.name = "runtime.NumGoroutine" := by simpa using hb
 have h3':¬fn.body=none:=by intro e;simp [e] at hbody
 simp [execOp,resolve,hx,Deferred.ofValue,invoke,callFunc,hf,h2',h3']
end Go.HL
namespace Go.Proofs.YtfegfklipbnhjaaGreat
open Go Go.HL
section
variable {l:List UInt8} {h:Heap}
structure Hd where
 size:Int
 pages:Int
 free:Int
 many:Int
 cookie:Int
 version:Int
 deriving DecidableEq
def ChkP (h:Hd):Prop:=okZ h.size=true/\(1<=h.pages/\h.pages<=1048576/\h.size*h.pages<=16777216)/\(0<=h.many/\h.many<h.pages/\(h.many=0->h.free=0)/\(0<h.many->2<=h.free/\h.free<=h.pages))/\(0<=h.cookie/\h.cookie<=2147483647)/\(0<=h.version/\h.version<=2147483647)
instance (h:Hd):Decidable (ChkP h):=by unfold ChkP;infer_instance
def chkC (h:Hd):Nat:=if ChkP h then 0 else 1
theorem chk_y {h:Hd} (p:ChkP h):chkC h=0:=if_pos p
theorem chk_n {h:Hd} (p:¬ChkP h):chkC h=1:=if_neg p
theorem chk_o {h:Hd} (p:¬(chkC h:Int)≠0):ChkP h:=by
 by_cases q:ChkP h
 ·exact q
 ·rw [chk_n q] at p;exact absurd (by decide) p
theorem chk_f {z0 z1 z2 z3 z4 z5:Int} (p:¬(okZ z0=true/\(1<=z1/\z1<=1048576/\z0*z1<=16777216)/\(0<=z3/\z3<z1/\(z3=0->z2=0)/\(0<z3->2<=z2/\z2<=z1))/\(0<=z4/\z4<=2147483647)/\(0<=z5/\z5<=2147483647))):Value.J 1=.J ((chkC ⟨z0,z1,z2,z3,z4,z5⟩:Nat):Int):=by rw [chk_n (show ¬ChkP ⟨z0,z1,z2,z3,z4,z5⟩ from p)];rfl
theorem okZ_cases {z:Int} (h:okZ z=true):z=256\/z=512\/z=1024\/z=2048\/z=4096:=of_decide_eq_true h
theorem hsize_any {z:Int} (hz : -9223372036854775808<=z/\z<=9223372036854775807) :
  Hc 179 #[.J z] h (fun v h'=>v=.bool (okZ z)/\h'=h):=by
 refine HC.go Tryz.func179 16 ?_;refine .s<|.z .asB<|.nil<|.s<|.z .mvI<|.z .geq<|.z .mvB<|.sd (fun G5=>?_) (fun G5=>?_)
 ·
  refine .z .mvI<|.z .leq<|.z .pkt<|.z .mvB<|.sd (fun G9=>?_) (fun G9=>?_)
  ·
   obtain ⟨q,rfl⟩:∃q:Nat,z=(q:Int):=⟨z.toNat,by omega⟩;have hq:=and_pow q (by omega) (by omega);refine .z .mvI<|.z .mvI<|.z .sub<|.z (.bandI q (q-1))<|.z .eql<|.z .pkt<|.z .asB<|.nil<|.ret ⟨.bool (decide ((((q &&& (q-1)):Nat):Int)=0)),Res.one rfl rfl,⟨by first | exact congrArg _ (by unfold okZ;rw [decide_eq_decide];omega) | exact congrArg _ (by unfold okZ;exact (decide_eq_false (by omega)).symm) | exact congrArg _ (by unfold okZ;exact (decide_eq_true (by omega)).symm),rfl⟩⟩
  refine .y<|.y<|.y<|.y<|.y<|.z .pkf<|.z .asB<|.nil<|.ret ⟨.bool false,Res.one rfl rfl,⟨by first | exact congrArg _ (by unfold okZ;rw [decide_eq_decide];omega) | exact congrArg _ (by unfold okZ;exact (decide_eq_false (by omega)).symm) | exact congrArg _ (by unfold okZ;exact (decide_eq_true (by omega)).symm),rfl⟩⟩
 refine .y<|.y<|.z .pkf<|.z .mvB<|.y<|.y<|.y<|.y<|.y<|.z .pkf<|.z .asB<|.nil<|.ret ⟨.bool false,Res.one rfl rfl,⟨by first | exact congrArg _ (by unfold okZ;rw [decide_eq_decide];omega) | exact congrArg _ (by unfold okZ;exact (decide_eq_false (by omega)).symm) | exact congrArg _ (by unfold okZ;exact (decide_eq_true (by omega)).symm),rfl⟩⟩
theorem check_any {z0 z1 z2 z3 z4 z5:Int} (h0 : -9223372036854775808<=z0/\z0<=9223372036854775807) (h1 : -9223372036854775808<=z1/\z1<=9223372036854775807) (h2 : -9223372036854775808<=z2/\z2<=9223372036854775807) (h3 : -9223372036854775808<=z3/\z3<=9223372036854775807) (h4 : -9223372036854775808<=z4/\z4<=9223372036854775807) (h5 : -9223372036854775808<=z5/\z5<=9223372036854775807):Hc 134 #[.agg #[.J z0,.J z1,.J z2,.J z3,.J z4,.J z5]] h (fun v h'=>v=.J (chkC ⟨z0,z1,z2,z3,z4,z5⟩:Int)/\Ext h h'):=by
 have ok:=Hp.nil h none_;refine HC.go Tryz.func134 80 ?_;refine .s<|.a' 1 (.bxA (cs:=[.J z0,.J z1,.J z2,.J z3,.J z4,.J z5]) ok) ?_;rintro _ U1 ⟨pb1,rfl,ok,xe⟩;refine .z .asI<|.nil<|.seq<|.s<|.z (.fa T.fd97_0)<|.z (.ldx T.ag3 ok.m0)<|.k 5 .func (hsize_any (z:=z0) (by omega))<|.z .not<|.z .mvB<|.spl (fun G7=>?_) (fun G7=>?_)
 ·
  refine .y<|.y<|.y<|.z .pkt<|.z .mvB<|.y<|.y<|.y<|.z .pkt<|.z .mvB<|.y<|.y<|.y<|.y<|.y<|.y<|.z .pkt<|.nil<|.ct<|.s<|.z .asI<|.nil<|.ret ⟨.J 1,Res.one rfl rfl,⟨chk_f (by first | omega | simp_all),ok.chg⟩⟩
 refine .z (.fa T.fd97_1)<|.z (.ldx T.ag3 ok.m0)<|.z .lss<|.z .pkf<|.z .mvB<|.sd (fun G12=>?_) (fun G12=>?_)
 ·
  refine .y<|.y<|.y<|.z .pkt<|.z .mvB<|.y<|.y<|.y<|.y<|.y<|.y<|.z .pkt<|.nil<|.ct<|.s<|.z .asI<|.nil<|.ret ⟨.J 1,Res.one rfl rfl,⟨chk_f (by first | omega | simp_all),ok.chg⟩⟩
 refine .z (.fa T.fd97_1)<|.z (.ldx T.ag3 ok.m0)<|.z .gtr<|.z .pkf<|.z .mvB<|.sd (fun G17=>?_) (fun G17=>?_)
 ·
  refine .y<|.y<|.y<|.y<|.y<|.y<|.z .pkt<|.nil<|.ct<|.s<|.z .asI<|.nil<|.ret ⟨.J 1,Res.one rfl rfl,⟨chk_f (by first | omega | simp_all),ok.chg⟩⟩
 have hoz:okZ z0=true:=by simpa using G7
 have hmul:z0*z1<=4096*z1/\0<=z0*z1:=by rcases okZ_cases hoz with e | e | e | e | e<;>rw [e]<;>constructor<;>omega
 refine .z (.fa T.fd97_0)<|.z (.ldx T.ag3 ok.m0)<|.z (.fa T.fd97_1)<|.z (.ldx T.ag3 ok.m0)<|.z (.mul (hr:=(by omega)))<|.z .gtr<|.z .pkf<|.nil<|.cd (fun C0=>?_) (fun C0=>?_)
 ·
  refine .s<|.z .asI<|.nil<|.ret ⟨.J 1,Res.one rfl rfl,⟨chk_f (by first | omega | simp_all),ok.chg⟩⟩
 refine .skip<|.seq<|.s<|.z (.fa T.fd97_3)<|.z (.ldx T.ag3 ok.m0)<|.z .lss<|.z .mvB<|.sd (fun G28=>?_) (fun G28=>?_)
 ·
  refine .y<|.y<|.y<|.y<|.y<|.z .pkt<|.z .mvB<|.y<|.y<|.y<|.y<|.y<|.y<|.y<|.y<|.z .pkt<|.z .mvB<|.y<|.y<|.y<|.y<|.y<|.y<|.y<|.y<|.y<|.y<|.y<|.y<|.y<|.y<|.y<|.z .pkt<|.nil<|.ct<|.s<|.z .asI<|.nil<|.ret ⟨.J 1,Res.one rfl rfl,⟨chk_f (by first | omega | simp_all),ok.chg⟩⟩
 refine .z (.fa T.fd97_3)<|.z (.ldx T.ag3 ok.m0)<|.z (.fa T.fd97_1)<|.z (.ldx T.ag3 ok.m0)<|.z .geq<|.z .pkf<|.z .mvB<|.sd (fun G35=>?_) (fun G35=>?_)
 ·
  refine .y<|.y<|.y<|.y<|.y<|.y<|.y<|.y<|.z .pkt<|.z .mvB<|.y<|.y<|.y<|.y<|.y<|.y<|.y<|.y<|.y<|.y<|.y<|.y<|.y<|.y<|.y<|.z .pkt<|.nil<|.ct<|.s<|.z .asI<|.nil<|.ret ⟨.J 1,Res.one rfl rfl,⟨chk_f (by first | omega | simp_all),ok.chg⟩⟩
 refine .z (.fa T.fd97_3)<|.z (.ldx T.ag3 ok.m0)<|.z .eql<|.z .mvB<|.sd (fun G39=>?_) (fun G39=>?_)
 ·
  refine .z (.fa T.fd97_2)<|.z (.ldx T.ag3 ok.m0)<|.z .neq<|.z .pkt<|.z .pkf<|.z .mvB<|.sd (fun G45=>?_) (fun G45=>?_)
  ·
   refine .y<|.y<|.y<|.y<|.y<|.y<|.y<|.y<|.y<|.y<|.y<|.y<|.y<|.y<|.y<|.z .pkt<|.nil<|.ct<|.s<|.z .asI<|.nil<|.ret ⟨.J 1,Res.one rfl rfl,⟨chk_f (by first | omega | simp_all),ok.chg⟩⟩
  refine .z (.fa T.fd97_3)<|.z (.ldx T.ag3 ok.m0)<|.z .gtr<|.z .mvB<|.sd (fun G49=>?_) (fun G49=>?_)
  ·
   refine .z (.fa T.fd97_2)<|.z (.ldx T.ag3 ok.m0)<|.z .lss<|.z .mvB<|.sd (fun G53=>?_) (fun G53=>?_)
   ·
    refine .y<|.y<|.y<|.y<|.y<|.z .pkt<|.z .pkt<|.z .pkf<|.nil<|.ct<|.s<|.z .asI<|.nil<|.ret ⟨.J 1,Res.one rfl rfl,⟨chk_f (by first | omega | simp_all),ok.chg⟩⟩
   refine .z (.fa T.fd97_2)<|.z (.ldx T.ag3 ok.m0)<|.z (.fa T.fd97_1)<|.z (.ldx T.ag3 ok.m0)<|.z .gtr<|.z .pkf<|.z .pkt<|.z .pkf<|.nil<|.cd (fun C1=>?_) (fun C1=>?_)
   ·
    refine .s<|.z .asI<|.nil<|.ret ⟨.J 1,Res.one rfl rfl,⟨chk_f (by first | omega | simp_all),ok.chg⟩⟩
   refine .skip<|.seq<|.s<|.z (.fa T.fd97_4)<|.z (.ldx T.ag3 ok.m0)<|.z .lss<|.z .mvB<|.sd (fun G65=>?_) (fun G65=>?_)
   ·
    refine .y<|.y<|.y<|.z .pkt<|.z .mvB<|.y<|.y<|.y<|.z .pkt<|.z .mvB<|.y<|.y<|.y<|.z .pkt<|.nil<|.ct<|.s<|.z .asI<|.nil<|.ret ⟨.J 1,Res.one rfl rfl,⟨chk_f (by first | omega | simp_all),ok.chg⟩⟩
   refine .z (.fa T.fd97_4)<|.z (.ldx T.ag3 ok.m0)<|.z .gtr<|.z .pkf<|.z .mvB<|.sd (fun G70=>?_) (fun G70=>?_)
   ·
    refine .y<|.y<|.y<|.z .pkt<|.z .mvB<|.y<|.y<|.y<|.z .pkt<|.nil<|.ct<|.s<|.z .asI<|.nil<|.ret ⟨.J 1,Res.one rfl rfl,⟨chk_f (by first | omega | simp_all),ok.chg⟩⟩
   refine .z (.fa T.fd97_5)<|.z (.ldx T.ag3 ok.m0)<|.z .lss<|.z .pkf<|.z .mvB<|.sd (fun G75=>?_) (fun G75=>?_)
   ·
    refine .y<|.y<|.y<|.z .pkt<|.nil<|.ct<|.s<|.z .asI<|.nil<|.ret ⟨.J 1,Res.one rfl rfl,⟨chk_f (by first | omega | simp_all),ok.chg⟩⟩
   refine .z (.fa T.fd97_5)<|.z (.ldx T.ag3 ok.m0)<|.z .gtr<|.z .pkf<|.nil<|.cd (fun C2=>?_) (fun C2=>?_)
   ·
    refine .s<|.z .asI<|.nil<|.ret ⟨.J 1,Res.one rfl rfl,⟨chk_f (by first | omega | simp_all),ok.chg⟩⟩
   refine .skip<|.s<|.z .asI<|.nil<|.ret ⟨.J 0,Res.one rfl rfl,⟨by rw [chk_y ⟨by assumption,⟨by simp only;omega,by simp only;omega,by simp only;omega⟩,⟨by simp only;omega,by simp only;omega,by simp only;omega,by simp only;omega⟩,⟨by simp only;omega,by simp only;omega⟩,by simp only;omega,by simp only;omega⟩]<;>rfl,ok.chg⟩⟩
  refine .y<|.y<|.y<|.y<|.y<|.y<|.y<|.y<|.y<|.y<|.z .pkf<|.z .pkf<|.nil<|.cf<|.skip<|.seq<|.s<|.z (.fa T.fd97_4)<|.z (.ldx T.ag3 ok.m0)<|.z .lss<|.z .mvB<|.sd (fun G65=>?_) (fun G65=>?_)
  ·
   refine .y<|.y<|.y<|.z .pkt<|.z .mvB<|.y<|.y<|.y<|.z .pkt<|.z .mvB<|.y<|.y<|.y<|.z .pkt<|.nil<|.ct<|.s<|.z .asI<|.nil<|.ret ⟨.J 1,Res.one rfl rfl,⟨chk_f (by first | omega | simp_all),ok.chg⟩⟩
  refine .z (.fa T.fd97_4)<|.z (.ldx T.ag3 ok.m0)<|.z .gtr<|.z .pkf<|.z .mvB<|.sd (fun G70=>?_) (fun G70=>?_)
  ·
   refine .y<|.y<|.y<|.z .pkt<|.z .mvB<|.y<|.y<|.y<|.z .pkt<|.nil<|.ct<|.s<|.z .asI<|.nil<|.ret ⟨.J 1,Res.one rfl rfl,⟨chk_f (by first | omega | simp_all),ok.chg⟩⟩
  refine .z (.fa T.fd97_5)<|.z (.ldx T.ag3 ok.m0)<|.z .lss<|.z .pkf<|.z .mvB<|.sd (fun G75=>?_) (fun G75=>?_)
  ·
   refine .y<|.y<|.y<|.z .pkt<|.nil<|.ct<|.s<|.z .asI<|.nil<|.ret ⟨.J 1,Res.one rfl rfl,⟨chk_f (by first | omega | simp_all),ok.chg⟩⟩
  refine .z (.fa T.fd97_5)<|.z (.ldx T.ag3 ok.m0)<|.z .gtr<|.z .pkf<|.nil<|.cd (fun C2=>?_) (fun C2=>?_)
  ·
   refine .s<|.z .asI<|.nil<|.ret ⟨.J 1,Res.one rfl rfl,⟨chk_f (by first | omega | simp_all),ok.chg⟩⟩
  refine .skip<|.s<|.z .asI<|.nil<|.ret ⟨.J 0,Res.one rfl rfl,⟨by rw [chk_y ⟨by assumption,⟨by simp only;omega,by simp only;omega,by simp only;omega⟩,⟨by simp only;omega,by simp only;omega,by simp only;omega,by simp only;omega⟩,⟨by simp only;omega,by simp only;omega⟩,by simp only;omega,by simp only;omega⟩]<;>rfl,ok.chg⟩⟩
 refine .y<|.y<|.y<|.z .pkf<|.z .pkf<|.z .mvB<|.z (.fa T.fd97_3)<|.z (.ldx T.ag3 ok.m0)<|.z .gtr<|.z .mvB<|.sd (fun G49=>?_) (fun G49=>?_)
 ·
  refine .z (.fa T.fd97_2)<|.z (.ldx T.ag3 ok.m0)<|.z .lss<|.z .mvB<|.sd (fun G53=>?_) (fun G53=>?_)
  ·
   refine .y<|.y<|.y<|.y<|.y<|.z .pkt<|.z .pkt<|.z .pkf<|.nil<|.ct<|.s<|.z .asI<|.nil<|.ret ⟨.J 1,Res.one rfl rfl,⟨chk_f (by first | omega | simp_all),ok.chg⟩⟩
  refine .z (.fa T.fd97_2)<|.z (.ldx T.ag3 ok.m0)<|.z (.fa T.fd97_1)<|.z (.ldx T.ag3 ok.m0)<|.z .gtr<|.z .pkf<|.z .pkt<|.z .pkf<|.nil<|.cd (fun C1=>?_) (fun C1=>?_)
  ·
   refine .s<|.z .asI<|.nil<|.ret ⟨.J 1,Res.one rfl rfl,⟨chk_f (by first | omega | simp_all),ok.chg⟩⟩
  refine .skip<|.seq<|.s<|.z (.fa T.fd97_4)<|.z (.ldx T.ag3 ok.m0)<|.z .lss<|.z .mvB<|.sd (fun G65=>?_) (fun G65=>?_)
  ·
   refine .y<|.y<|.y<|.z .pkt<|.z .mvB<|.y<|.y<|.y<|.z .pkt<|.z .mvB<|.y<|.y<|.y<|.z .pkt<|.nil<|.ct<|.s<|.z .asI<|.nil<|.ret ⟨.J 1,Res.one rfl rfl,⟨chk_f (by first | omega | simp_all),ok.chg⟩⟩
  refine .z (.fa T.fd97_4)<|.z (.ldx T.ag3 ok.m0)<|.z .gtr<|.z .pkf<|.z .mvB<|.sd (fun G70=>?_) (fun G70=>?_)
  ·
   refine .y<|.y<|.y<|.z .pkt<|.z .mvB<|.y<|.y<|.y<|.z .pkt<|.nil<|.ct<|.s<|.z .asI<|.nil<|.ret ⟨.J 1,Res.one rfl rfl,⟨chk_f (by first | omega | simp_all),ok.chg⟩⟩
  refine .z (.fa T.fd97_5)<|.z (.ldx T.ag3 ok.m0)<|.z .lss<|.z .pkf<|.z .mvB<|.sd (fun G75=>?_) (fun G75=>?_)
  ·
   refine .y<|.y<|.y<|.z .pkt<|.nil<|.ct<|.s<|.z .asI<|.nil<|.ret ⟨.J 1,Res.one rfl rfl,⟨chk_f (by first | omega | simp_all),ok.chg⟩⟩
  refine .z (.fa T.fd97_5)<|.z (.ldx T.ag3 ok.m0)<|.z .gtr<|.z .pkf<|.nil<|.cd (fun C2=>?_) (fun C2=>?_)
  ·
   refine .s<|.z .asI<|.nil<|.ret ⟨.J 1,Res.one rfl rfl,⟨chk_f (by first | omega | simp_all),ok.chg⟩⟩
  refine .skip<|.s<|.z .asI<|.nil<|.ret ⟨.J 0,Res.one rfl rfl,⟨by rw [chk_y ⟨by assumption,⟨by simp only;omega,by simp only;omega,by simp only;omega⟩,⟨by simp only;omega,by simp only;omega,by simp only;omega,by simp only;omega⟩,⟨by simp only;omega,by simp only;omega⟩,by simp only;omega,by simp only;omega⟩]<;>rfl,ok.chg⟩⟩
 refine .y<|.y<|.y<|.y<|.y<|.y<|.y<|.y<|.y<|.y<|.z .pkf<|.z .pkf<|.nil<|.cf<|.skip<|.seq<|.s<|.z (.fa T.fd97_4)<|.z (.ldx T.ag3 ok.m0)<|.z .lss<|.z .mvB<|.sd (fun G65=>?_) (fun G65=>?_)
 ·
  refine .y<|.y<|.y<|.z .pkt<|.z .mvB<|.y<|.y<|.y<|.z .pkt<|.z .mvB<|.y<|.y<|.y<|.z .pkt<|.nil<|.ct<|.s<|.z .asI<|.nil<|.ret ⟨.J 1,Res.one rfl rfl,⟨chk_f (by first | omega | simp_all),ok.chg⟩⟩
 refine .z (.fa T.fd97_4)<|.z (.ldx T.ag3 ok.m0)<|.z .gtr<|.z .pkf<|.z .mvB<|.sd (fun G70=>?_) (fun G70=>?_)
 ·
  refine .y<|.y<|.y<|.z .pkt<|.z .mvB<|.y<|.y<|.y<|.z .pkt<|.nil<|.ct<|.s<|.z .asI<|.nil<|.ret ⟨.J 1,Res.one rfl rfl,⟨chk_f (by first | omega | simp_all),ok.chg⟩⟩
 refine .z (.fa T.fd97_5)<|.z (.ldx T.ag3 ok.m0)<|.z .lss<|.z .pkf<|.z .mvB<|.sd (fun G75=>?_) (fun G75=>?_)
 ·
  refine .y<|.y<|.y<|.z .pkt<|.nil<|.ct<|.s<|.z .asI<|.nil<|.ret ⟨.J 1,Res.one rfl rfl,⟨chk_f (by first | omega | simp_all),ok.chg⟩⟩
 refine .z (.fa T.fd97_5)<|.z (.ldx T.ag3 ok.m0)<|.z .gtr<|.z .pkf<|.nil<|.cd (fun C2=>?_) (fun C2=>?_)
 ·
  refine .s<|.z .asI<|.nil<|.ret ⟨.J 1,Res.one rfl rfl,⟨chk_f (by first | omega | simp_all),ok.chg⟩⟩
 refine .skip<|.s<|.z .asI<|.nil<|.ret ⟨.J 0,Res.one rfl rfl,⟨by rw [chk_y ⟨by assumption,⟨by simp only;omega,by simp only;omega,by simp only;omega⟩,⟨by simp only;omega,by simp only;omega,by simp only;omega,by simp only;omega⟩,⟨by simp only;omega,by simp only;omega⟩,by simp only;omega,by simp only;omega⟩]<;>rfl,ok.chg⟩⟩
@[reducible] def signL:List UInt8:=[116,111,109,101,32,102,105,108,101,32,49,0,0,0,0,0]
def hdF (N:List Nat):List UInt8:=(N.map fun n=>fixedN n 4).flatten
theorem hdF_take {N:List Nat} {i:Nat} (h:i<N.length):hdF (N.take (i+1))=hdF (N.take i)++fixedN N[i] 4:=by
 unfold hdF;rw [qG h,kJ,List.flatten_append];simp
def hdT (N:List Nat):List UInt8:=signL++hdF N++List.replicate 20 0
def hdB (N:List Nat):List UInt8:=hdT N++fixedN (sumN (hdT N)) 4
theorem hbytes_any {n0 n1 n2 n3 n4 n5:Nat} (h0:n0<4294967296) (h1:n1<4294967296) (h2:n2<4294967296) (h3:n3<4294967296) (h4:n4<4294967296) (h5:n5<4294967296):Hc 135 #[.agg #[.J (n0:Int),.J (n1:Int),.J (n2:Int),.J (n3:Int),.J (n4:Int),.J (n5:Int)]] h (fun v h'=>Own h h' 1 5 v ((hdB [n0,n1,n2,n3,n4,n5]).map bv)):=by
 have ok:=Hp.nil h none_;refine HC.go Tryz.func135 44 ?_;refine .s<|.a' 1 (.bxA (cs:=[.J (n0:Int),.J (n1:Int),.J (n2:Int),.J (n3:Int),.J (n4:Int),.J (n5:Int)]) ok) ?_;rintro _ U1 ⟨pb1,rfl,ok,xe⟩;refine .z .asS<|.nil<|.s<|.a' 6 (.lit [.const (.int .u8 116),.const (.int .u8 111),.const (.int .u8 109),.const (.int .u8 101),.const (.int .u8 32),.const (.int .u8 102),.const (.int .u8 105),.const (.int .u8 108),.const (.int .u8 101),.const (.int .u8 32),.const (.int .u8 49),.const (.int .u8 0),.const (.int .u8 0),.const (.int .u8 0),.const (.int .u8 0),.const (.int .u8 0)] (cs:=[.int .u8 116,.int .u8 111,.int .u8 109,.int .u8 101,.int .u8 32,.int .u8 102,.int .u8 105,.int .u8 108,.int .u8 101,.int .u8 32,.int .u8 49,.int .u8 0,.int .u8 0,.int .u8 0,.int .u8 0,.int .u8 0]) T.el35 T.sz5 T.zr5 ok ⟨rfl,rfl,rfl,rfl,rfl,rfl,rfl,rfl,rfl,rfl,rfl,rfl,rfl,rfl,rfl,rfl,trivial⟩) ?_;rintro _ U2 ⟨pb2,rfl,ok,xe⟩;have ok:=ok.cx (ys:=([116,111,109,101,32,102,105,108,101,32,49,0,0,0,0,0]:List UInt8).map bv) rfl;refine .a' 7 (.cvL T.el35 T.in5 ok) ?_;rintro _ U3 ⟨rfl,ok,cg⟩;refine .z .asS<|.nil<|.seq<|.s<|.z (.fa T.fd97_0)<|.z (.ldx T.ag3 ok.m1)<|.z (.fa T.fd97_1)<|.z (.ldx T.ag3 ok.m1)<|.z (.fa T.fd97_2)<|.z (.ldx T.ag3 ok.m1)<|.z (.fa T.fd97_3)<|.z (.ldx T.ag3 ok.m1)<|.z (.fa T.fd97_4)<|.z (.ldx T.ag3 ok.m1)<|.z (.fa T.fd97_5)<|.z (.ldx T.ag3 ok.m1)<|.a' 20 (.lit [.tmp 9,.tmp 11,.tmp 13,.tmp 15,.tmp 17,.tmp 19] (cs:=[.J (n0:Int),.J (n1:Int),.J (n2:Int),.J (n3:Int),.J (n4:Int),.J (n5:Int)]) T.el93 T.sz3 T.zr3 ok ⟨rfl,rfl,rfl,rfl,rfl,rfl,trivial⟩) ?_;rintro _ U4 ⟨pb3,rfl,ok,xe⟩;obtain ⟨N,hN⟩:∃N:List Nat,N=[n0,n1,n2,n3,n4,n5]:=⟨_,rfl⟩;have hNl:N.length=6:=by rw [hN];rfl
 have hNb:∀j (hj:j<N.length),N[j]<4294967296:=by subst hN;intro j hj;match j,hj with | 0,_=>exact h0 | 1,_=>exact h1 | 2,_=>exact h2 | 3,_=>exact h3 | 4,_=>exact h4 | 5,_=>exact h5
 have hML:(N.map Int.ofNat).length=6:=by rw [qM,hNl]
 have ok:=(ok.cx (ys:=(N.map Int.ofNat).map iv) (by rw [hN];rfl)).frzI rfl;refine .z (.len T.el93)<|.z .mvI<|.nil<|.block fun K0 hK0=>.loop (fun m s hh=>∃(i:Nat) (bs:List UInt8) (a3:Option Addr) (c3:Nat),Has s [(3,.slice a3 bs.length c3),(20,.slice (some ⟨pb3,0,none⟩) 6 6),(21,.J 6),(22,.J (i:Int))]/\Hp h none_ [capI 1 5 (a3,bs.length,c3) (bs.map bv)] [rdI (blkC (sv (some ⟨pb3,0,none⟩,6,6))) none_ (some ⟨pb3,0,none⟩,6,6) (N.map Int.ofNat)] hh/\i<=6/\bs=signL++hdF (N.take i)/\bs.length=16+4*i/\m=6-i) ?_ ?_
 ·exact ⟨_,0,signL,(some ⟨pb2,0,none⟩),16,⟨rfl,rfl,rfl,rfl,trivial⟩,(ok).k1,qL _,rfl,rfl,rfl⟩
 rintro _ _ U5 ⟨i,bs,a3,c3,hs,ok,hi,hbs,hbl,rfl⟩ J0 hJ0;refine .frame hs fun τ=>?_;refine .s<|.z .lss<|.nil<|.seq<|.cdr (fun C0=>?_) (fun C0=>?_)
 ·
  obtain rfl:i=6:=by omega
  rw [show N.take 6=N from by rw [<-hNl,List.take_length]] at hbs;refine .exit<|hK0 _ _<|.s<|.z .mvS<|.z .mvS<|.z (.len T.el35)<|.z .sub<|.a' 36 (.apz (z:=(60-(bs.length:Int))) 20 T.el35 T.in3 T.sz5 T.by5 T.zr5 ok (by omega) (by omega)) ?_;rintro _ U6 ⟨ya1,yc1,rfl,ok⟩;refine .z .asS<|.nil<|.s<|.z .mvS<|.z .mvS<|.a' 39 (.lit [.tmp 38] (cs:=[.slice ya1 ((bs++List.replicate 20 0).length) yc1]) T.el79 T.sz35 T.zr35 ok ⟨rfl,trivial⟩) ?_;rintro _ U7 ⟨pb4,rfl,ok,xe⟩;refine .c' 40 .func (sum_any (a:=some ⟨pb4,0,none⟩) (c:=1) (L:=[(bs++List.replicate 20 0)]) (RdL.rows (v:=(some ⟨pb4,0,none⟩,1,1)) (xs:=[(ya1,(bs++List.replicate 20 0).length,yc1)]) (ls:=[(bs++List.replicate 20 0)]) ok.m0 ⟨⟨_,_,(RdL.ofCapB (v:=(ya1,(bs++List.replicate 20 0).length,yc1)) (l:=(bs++List.replicate 20 0)) ok.m1)⟩,trivial⟩)) ?_;rintro _ U8 ⟨rfl,hx⟩;have ok:=ok.ext hx;refine .z (.cvs T.in207 T.in260 (M:=18446744073709551616) rfl rfl (a:=(sumN ([(bs++List.replicate 20 0)]).flatten)) (ha:=by exact kP (sumN_lt _) (by decide)))<|.c' 42 .func (fixed_any (n:=(sumN ([(bs++List.replicate 20 0)]).flatten)) (size:=4) (by first | omega | exact kP (sumN_lt _) (by decide)) (by omega) (by omega)) ?_;rintro _ U9 own;obtain ⟨ya2,yc2,rfl⟩:=own.formB;have ok:=ok.own own;refine .a' 43 (.app (news:=(fixedN (sumN ([(bs++List.replicate 20 0)]).flatten) 4).map bv) T.el35 T.sz5 T.by5 T.zr5 ok.n2 (ok.n2.m1).sl bv_all (by simp only [qM,qA,qJ,qV,qB,kW,List.length_range,fixedN_len,sealN_len];omega)) ?_;rintro _ U10 ⟨ya3,yn2,yc3,rfl,ok,ap⟩;have ok:=ok.cx (ys:=((bs++List.replicate 20 0)++(fixedN (sumN ([(bs++List.replicate 20 0)]).flatten) 4)).map bv) (by simp [bv]);obtain rfl:yn2=((bs++List.replicate 20 0)++(fixedN (sumN ([(bs++List.replicate 20 0)]).flatten) 4)).length:=ok.lenB;refine .z .asS<|.nil<|.ret ⟨.slice ya3 (((bs++List.replicate 20 0)++(fixedN (sumN ([(bs++List.replicate 20 0)]).flatten) 4)).length) yc3,Res.one rfl rfl,(by rw [show hdB [n0,n1,n2,n3,n4,n5]=(bs++List.replicate 20 0)++(fixedN (sumN ([(bs++List.replicate 20 0)]).flatten) 4) from by rw [<-hN];unfold hdB hdT;rw [<-hbs];simp];exact (ok).toOwn)⟩
 have hi6:i<6:=by omega
 refine .skip<|.seq<|.block fun K1 hK1=>.s<|.z (.ix1 i T.el93 T.sz3)<|.z (.ld T.ag3 (ok.r0.i64 (i:=i) (by omega)))<|?_;have hiN:i<N.length:=by omega
 have hNi:=hNb i hiN;rw [show (N.map Int.ofNat)[i]=((N[i]:Nat):Int) from List.getElem_map _];refine .z .asI<|.nil<|.r<|.z .mvS<|.z .mvI<|.z (.cvs T.in207 T.in3 (M:=18446744073709551616) rfl rfl)<|.c' 29 .func (fixed_any (n:=N[i]) (size:=4) (by first | omega | exact kP (sumN_lt _) (by decide)) (by omega) (by omega)) ?_;rintro _ U11 own;obtain ⟨ya4,yc4,rfl⟩:=own.formB;have ok:=ok.own own;refine .a' 30 (.app (news:=(fixedN (N[i]) 4).map bv) T.el35 T.sz5 T.by5 T.zr5 ok.n1 (ok.n1.m1).sl bv_all (by simp only [qM,qA,qJ,qV,qB,kW,List.length_range,fixedN_len,sealN_len];omega)) ?_;rintro _ U12 ⟨ya5,yn4,yc5,rfl,ok,ap⟩;have ok:=ok.cx (ys:=(bs++(fixedN (N[i]) 4)).map bv) (by simp [bv]);obtain rfl:yn4=(bs++(fixedN (N[i]) 4)).length:=ok.lenB;refine .z .asS<|.nil<|.end<|hK1 _ _<|.r<|.z (.addI (b:=1))<|.z .mvI<|.nil<|.end<|hJ0 _ _ _ ⟨i+1,bs++fixedN N[i] 4,ya5,yc5,⟨rfl,rfl,rfl,rfl,trivial⟩,(ok).k1,by omega,by rw [hdF_take hiN,hbs,qZ],by rw [qA,fixedN_len,hbl];omega,rfl⟩ (by omega)
def hdAt (l:List UInt8) (k:Nat):Nat:=rdN l (16+4*k) 4
theorem hdAt_lt (l:List UInt8) (k:Nat):hdAt l k<4294967296:=rdN_lt4 _ _
def hd0:Hd:=⟨0,0,0,0,0,0⟩
def decH (l:List UInt8):Hd:=⟨hdAt l 0,hdAt l 1,hdAt l 2,hdAt l 3,hdAt l 4,hdAt l 5⟩
def decY (l:List UInt8):Prop:=ChkP (decH l)/\hdB [hdAt l 0,hdAt l 1,hdAt l 2,hdAt l 3,hdAt l 4,hdAt l 5]=l.take 64
instance (l:List UInt8):Decidable (decY l):=by unfold decY;infer_instance
def decN (l:List UInt8):Hd × Nat:=if l.length<64 then (hd0,6) else if l.take 16≠signL then (hd0,8) else if decY l then (decH l,0) else (hd0,14)
theorem dec6 (h:l.length<64):decN l=(hd0,6):=if_pos h
theorem dec8 (h:¬l.length<64) (h2:l.take 16≠signL):decN l=(hd0,8):=by unfold decN;rw [if_neg h,if_pos h2]
theorem dec14 (h:¬l.length<64) (h2:l.take 16=signL) (h3:¬decY l):decN l=(hd0,14):=by unfold decN;rw [if_neg h,if_neg (not_not_intro h2),if_neg h3]
theorem dec0 (h:¬l.length<64) (h2:l.take 16=signL) (h3:decY l):decN l=(decH l,0):=by unfold decN;rw [if_neg h,if_neg (not_not_intro h2),if_pos h3]
def Hd.val (h:Hd):Value:=.agg #[.J h.size,.J h.pages,.J h.free,.J h.many,.J h.cookie,.J h.version]
theorem dfield_any {F E:Nat->Prop} {a:Option Addr} {c b:Nat} (hl:RdL h F E (a,l.length,c) l) (hb:(boxI b 35 [.slice a l.length c]).p h) {i:Nat} (hi:20+4*i<=l.length) :
  Hc 132 #[.J (i:Int),.P b] h (fun v h'=>v=.J ((hdAt l i:Nat):Int)/\h'=h):=by
 have hc2:=hl.m;have hc1:l.length<=c:=hl.c;simp only at hc2;have hrd:=rdN_lt4 l (16+(4*i));refine HC.go Tryz.func132 16 ?_;refine .s<|.z .asI<|.nil<|.s<|.z (.ldx T.ag35 hb)<|.z .mvI<|.z (.mulI (a:=4))<|.z (.addI (a:=16))<|.k 11 .func (read_any (p:=(16+(4*i))) (size:=4) (a:=a) (c:=c) (l:=l) hl (by omega) (by omega) (by omega))<|.z .mvU<|.z .ex<|.z .ex<|.z .asI<|.z .asI<|.nil<|.s<|.z .mvI<|.z (.cvi T.in3 T.in207)<|.z .asI<|.nil<|.ret ⟨.J (((rdN l (16+(4*i)) 4):Nat):Int),Res.one rfl rfl,⟨by unfold hdAt;rfl,rfl⟩⟩
theorem dec_any {F E:Nat->Prop} {a:Option Addr} {c:Nat} (hl:RdL h F E (a,l.length,c) l) :
  Hc 95 #[.slice a l.length c] h (fun v h'=>v=.tuple #[(decN l).1.val,.J ((decN l).2:Int)]/\Ext h h'):=by
 have hc2:=hl.m;have hc1:l.length<=c:=hl.c;simp only at hc2;have ok:=(Hp.nil h none_).arg hl;have hf0:=hdAt_lt l 0;have hf1:=hdAt_lt l 1;have hf2:=hdAt_lt l 2;have hf3:=hdAt_lt l 3;have hf4:=hdAt_lt l 4;have hf5:=hdAt_lt l 5;refine HC.go Tryz.func95 48 ?_;refine .s<|.a' 1 (.bxS ok) ?_;rintro _ U1 ⟨pb1,rfl,ok,xe⟩;refine .a' 2 (.alA T.zr97 ok) ?_;rintro _ U2 ⟨pb2,rfl,ok,xe⟩;refine .z .asI<|.nil<|.seq<|.s<|.z (.ldx T.ag35 ok.m1)<|.z (.len T.el35)<|.z .lss<|.nil<|.cd (fun C0=>?_) (fun C0=>?_)
 ·
  refine .s<|.z (.bd #[.J 0,.J 0,.J 0,.J 0,.J 0,.J 0] T.zr97 T.pl97 rfl)<|.ur' (.stW (vs:=[.J 0,.J 0,.J 0,.J 0,.J 0,.J 0]) T.sz97 ok (oneL rfl)) ?_;rintro U3 ⟨ok,cg⟩;refine .z .asI<|.nil<|.ret ⟨.tuple #[.agg #[.J 0,.J 0,.J 0,.J 0,.J 0,.J 0],.J 6],Res.many (vs:=[.agg #[.J 0,.J 0,.J 0,.J 0,.J 0,.J 0],.J 6]) rfl ⟨⟨_,rfl,load_ag T.ag97 ok.m0 T.sz97⟩,rfl,trivial⟩ rfl,⟨by rw [dec6 (by omega)];rfl,ok.chg⟩⟩
 refine .skip<|.seq<|.s<|.z (.ldx T.ag35 ok.m1)<|.z (.sl_h ((l.take 16).length) T.el35 T.sz5 (hb:=by (simp;omega)))<|?_;have ok:=ok.d0 (rdI (nS h F) (nS h E) (a,(l.take 16).length,c) (l.take 16)) ((ok.r0).pre (l2:=l.take 16) (List.take_prefix _ _)) (fun _ h=>h);refine .z (.bts T.el35 T.in5 T.st9 (ok.r0).by)<|.z .tNeB<|.nil<|.cd (fun C1=>?_) (fun C1=>?_)
 ·
  refine .s<|.z (.bd #[.J 0,.J 0,.J 0,.J 0,.J 0,.J 0] T.zr97 T.pl97 rfl)<|.ur' (.stW (vs:=[.J 0,.J 0,.J 0,.J 0,.J 0,.J 0]) T.sz97 ok (oneL rfl)) ?_;rintro U4 ⟨ok,cg⟩;refine .z .asI<|.nil<|.ret ⟨.tuple #[.agg #[.J 0,.J 0,.J 0,.J 0,.J 0,.J 0],.J 8],Res.many (vs:=[.agg #[.J 0,.J 0,.J 0,.J 0,.J 0,.J 0],.J 8]) rfl ⟨⟨_,rfl,load_ag T.ag97 ok.m0 T.sz97⟩,rfl,trivial⟩ rfl,⟨by rw [dec8 (by omega) C1];rfl,ok.chg⟩⟩
 refine .skip<|.s<|.z (.mkf (vs:=[.P pb1]))<|.z .asF<|.nil<|.s<|.z .mvF<|.k 17 .dyn (dfield_any (b:=pb1) (i:=0) (F:=(nS h F)) (E:=(nS h E)) (a:=a) (c:=c) (l:=l) ok.r1 ok.m1 (by omega))<|.z .mvF<|.k 19 .dyn (dfield_any (b:=pb1) (i:=1) (F:=(nS h F)) (E:=(nS h E)) (a:=a) (c:=c) (l:=l) ok.r1 ok.m1 (by omega))<|.z .mvF<|.k 21 .dyn (dfield_any (b:=pb1) (i:=2) (F:=(nS h F)) (E:=(nS h E)) (a:=a) (c:=c) (l:=l) ok.r1 ok.m1 (by omega))<|.z .mvF<|.k 23 .dyn (dfield_any (b:=pb1) (i:=3) (F:=(nS h F)) (E:=(nS h E)) (a:=a) (c:=c) (l:=l) ok.r1 ok.m1 (by omega))<|.z .mvF<|.k 25 .dyn (dfield_any (b:=pb1) (i:=4) (F:=(nS h F)) (E:=(nS h E)) (a:=a) (c:=c) (l:=l) ok.r1 ok.m1 (by omega))<|.z .mvF<|.k 27 .dyn (dfield_any (b:=pb1) (i:=5) (F:=(nS h F)) (E:=(nS h E)) (a:=a) (c:=c) (l:=l) ok.r1 ok.m1 (by omega))<|.z (.bd #[.J ((hdAt l 0:Nat):Int),.J ((hdAt l 1:Nat):Int),.J ((hdAt l 2:Nat):Int),.J ((hdAt l 3:Nat):Int),.J ((hdAt l 4:Nat):Int),.J ((hdAt l 5:Nat):Int)] T.zr97 T.pl97 (by kernel_rfl))<|.a' 5 (.alA T.zr97 ok) ?_;rintro _ U5 ⟨pb3,rfl,ok,xe⟩;refine .ur' (.stW (vs:=[.J ((hdAt l 0:Nat):Int),.J ((hdAt l 1:Nat):Int),.J ((hdAt l 2:Nat):Int),.J ((hdAt l 3:Nat):Int),.J ((hdAt l 4:Nat):Int),.J ((hdAt l 5:Nat):Int)]) T.sz97 ok (oneL rfl)) ?_;rintro U6 ⟨ok,cg⟩;refine .nil ?_;refine .seq<|.seq<|?_;have ok:=ok.d1 (rdI (nS h F) (nS h E) (a,(l.take 64).length,c) (l.take 64)) ((ok.r1).pre (l2:=l.take 64) (List.take_prefix _ _)) (fun _ h=>h);refine .a 17 (fun fl hh=>Hp h none_ [boxI pb3 97 [.J ((hdAt l 0:Nat):Int),.J ((hdAt l 1:Nat):Int),.J ((hdAt l 2:Nat):Int),.J ((hdAt l 3:Nat):Int),.J ((hdAt l 4:Nat):Int),.J ((hdAt l 5:Nat):Int)],boxI pb2 97 [.J 0,.J 0,.J 0,.J 0,.J 0,.J 0],boxI pb1 35 [.slice a l.length c]] [rdI (nS h F) (nS h E) (a,(l.take 64).length,c) (l.take 64),rdI (nS h F) (nS h E) (a,(l.take 16).length,c) (l.take 16),rdI (nS h F) (nS h E) (a,l.length,c) l] hh) mixed ?_;have hS:=ok;refine .lw 0 false rfl 29 hS (fun _ _ hS=>.ldb T.ag97 hS.m0 T.sz97)<|.g 1 false rfl 30 hS (fun _=>.bd #[.J 0,.J 0,.J 0,.J 0,.J 0,.J 0] T.zr97 T.pl97 rfl)<|.g 2 false rfl 31 hS (fun _=>.stE (k:=.i64) [((hdAt l 0:Nat):Int),((hdAt l 1:Nat):Int),((hdAt l 2:Nat):Int),((hdAt l 3:Nat):Int),((hdAt l 4:Nat):Int),((hdAt l 5:Nat):Int)] [0,0,0,0,0,0] T.ste97 T.in3 T.ag3 T.stg97 T.stp97)<|.g 3 false rfl 32 hS (fun _=>.mvB)<|.sd (fun G32=>?_) (fun G32=>?_)
 ·
  refine .x 4 false rfl 33 hS<|.x 5 false rfl 34 hS<|.x 6 false rfl 35 hS<|.g 7 false rfl 36 hS (fun _=>.pkt)<|.g 8 false rfl 37 hS (fun _=>.mvB)<|.x 9 false rfl 38 hS<|.x 10 false rfl 39 hS<|.x 11 false rfl 40 hS<|.x 12 false rfl 41 hS<|.x 13 false rfl 42 hS<|.x 14 false rfl 43 hS<|.x 15 false rfl 44 hS<|.g 16 false rfl 45 hS (fun _=>.pkt)<|.e ?_;refine .ct<|.s<|.z (.bd #[.J 0,.J 0,.J 0,.J 0,.J 0,.J 0] T.zr97 T.pl97 rfl)<|.ur' (.stW (vs:=[.J 0,.J 0,.J 0,.J 0,.J 0,.J 0]) T.sz97 ok.n1 (oneL rfl)) ?_;rintro U7 ⟨ok,cg⟩;refine .z .asI<|.nil<|.ret ⟨.tuple #[.agg #[.J 0,.J 0,.J 0,.J 0,.J 0,.J 0],.J 14],Res.many (vs:=[.agg #[.J 0,.J 0,.J 0,.J 0,.J 0,.J 0],.J 14]) rfl ⟨⟨_,rfl,load_ag T.ag97 ok.m0 T.sz97⟩,rfl,trivial⟩ rfl,⟨by rw [dec14 (by omega) (by simpa using C1) (fun q=>by (simp only [List.cons.injEq] at G32;have h1:=q.1.1;simp [decH,okZ,G32.1] at h1))];rfl,ok.chg⟩⟩
 refine .lw 4 false rfl 33 hS (fun _ _ hS=>.ldb T.ag97 hS.m0 T.sz97)<|.o1 5<|.c' false rfl 34 .func (check_any (z0:=((hdAt l 0:Nat):Int)) (z1:=((hdAt l 1:Nat):Int)) (z2:=((hdAt l 2:Nat):Int)) (z3:=((hdAt l 3:Nat):Int)) (z4:=((hdAt l 4:Nat):Int)) (z5:=((hdAt l 5:Nat):Int)) (by omega) (by omega) (by omega) (by omega) (by omega) (by omega)) ?_;rintro _ U8 ⟨rfl,hx⟩;have ok:=ok.ext hx;refine ⟨ok,?_⟩;have hS:=ok;refine .g 6 false rfl 35 hS (fun _=>.neq)<|.g 7 false rfl 36 hS (fun _=>.pkf)<|.g 8 false rfl 37 hS (fun _=>.mvB)<|.sd (fun G37=>?_) (fun G37=>?_)
 ·
  refine .x 9 false rfl 38 hS<|.x 10 false rfl 39 hS<|.x 11 false rfl 40 hS<|.x 12 false rfl 41 hS<|.x 13 false rfl 42 hS<|.x 14 false rfl 43 hS<|.x 15 false rfl 44 hS<|.g 16 false rfl 45 hS (fun _=>.pkt)<|.e ?_;refine .ct<|.s<|.z (.bd #[.J 0,.J 0,.J 0,.J 0,.J 0,.J 0] T.zr97 T.pl97 rfl)<|.ur' (.stW (vs:=[.J 0,.J 0,.J 0,.J 0,.J 0,.J 0]) T.sz97 ok.n1 (oneL rfl)) ?_;rintro U9 ⟨ok,cg⟩;refine .z .asI<|.nil<|.ret ⟨.tuple #[.agg #[.J 0,.J 0,.J 0,.J 0,.J 0,.J 0],.J 14],Res.many (vs:=[.agg #[.J 0,.J 0,.J 0,.J 0,.J 0,.J 0],.J 14]) rfl ⟨⟨_,rfl,load_ag T.ag97 ok.m0 T.sz97⟩,rfl,trivial⟩ rfl,⟨by rw [dec14 (by omega) (by simpa using C1) (fun q=>by (have h1:chkC (decH l)=0:=chk_y q.1;exact G37 (by rw [show chkC ⟨_,_,_,_,_,_⟩=0 from h1];rfl)))];rfl,ok.chg⟩⟩
 refine .lw 9 false rfl 38 hS (fun _ _ hS=>.ldb T.ag97 hS.m0 T.sz97)<|.lw 12 false rfl 41 hS (fun _ _ hS=>.ldx T.ag35 hS.m2)<|.g 13 false rfl 42 hS (fun _=>.sl_h ((l.take 64).length) T.el35 T.sz5 (hb:=by (simp;omega)))<|.lw 14 false rfl 43 hS (fun _ _ hS=>.bts T.el35 T.in5 T.st9 (hS.r0).by)<|.o1 10<|.c' false rfl 39 .func (hbytes_any (n0:=(hdAt l 0)) (n1:=(hdAt l 1)) (n2:=(hdAt l 2)) (n3:=(hdAt l 3)) (n4:=(hdAt l 4)) (n5:=(hdAt l 5)) (by omega) (by omega) (by omega) (by omega) (by omega) (by omega)) ?_;rintro _ U10 own;obtain ⟨ya1,yc1,rfl⟩:=own.formB;have ok:=ok.own own;refine ⟨ok.n3.n3.n3.k3,?_⟩;have hS:=ok.n3.n3.n3.k3;refine .str (fun _ hh=>Hp h none_ [capI 1 5 (ya1,(hdB [(hdAt l 0),(hdAt l 1),(hdAt l 2),(hdAt l 3),(hdAt l 4),(hdAt l 5)]).length,yc1) ((hdB [(hdAt l 0),(hdAt l 1),(hdAt l 2),(hdAt l 3),(hdAt l 4),(hdAt l 5)]).map bv),boxI pb3 97 [.J ((hdAt l 0:Nat):Int),.J ((hdAt l 1:Nat):Int),.J ((hdAt l 2:Nat):Int),.J ((hdAt l 3:Nat):Int),.J ((hdAt l 4:Nat):Int),.J ((hdAt l 5:Nat):Int)],boxI pb2 97 [.J 0,.J 0,.J 0,.J 0,.J 0,.J 0],boxI pb1 35 [.slice a l.length c]] [rdI (nS h F) (nS h E) (a,(l.take 64).length,c) (l.take 64),rdI (nS h F) (nS h E) (a,(l.take 16).length,c) (l.take 16),rdI (nS h F) (nS h E) (a,l.length,c) l] hh) (fun _ _ h=>h.tM) ?_;have hS:=ok;refine .lw 11 false rfl 40 hS (fun _ _ hS=>.bts T.el35 T.in5 T.st9 (hS.m0).sl)<|.g 15 false rfl 44 hS (fun _=>.tNeB)<|.g 16 false rfl 45 hS (fun _=>.pkf)<|.e ?_;refine .cd (fun C2=>?_) (fun C2=>?_)
 ·
  refine .s<|.z (.bd #[.J 0,.J 0,.J 0,.J 0,.J 0,.J 0] T.zr97 T.pl97 rfl)<|.ur' (.stW (vs:=[.J 0,.J 0,.J 0,.J 0,.J 0,.J 0]) T.sz97 ok.n2 (oneL rfl)) ?_;rintro U11 ⟨ok,cg⟩;refine .z .asI<|.nil<|.ret ⟨.tuple #[.agg #[.J 0,.J 0,.J 0,.J 0,.J 0,.J 0],.J 14],Res.many (vs:=[.agg #[.J 0,.J 0,.J 0,.J 0,.J 0,.J 0],.J 14]) rfl ⟨⟨_,rfl,load_ag T.ag97 ok.m0 T.sz97⟩,rfl,trivial⟩ rfl,⟨by rw [dec14 (by omega) (by simpa using C1) (fun q=>C2 q.2)];rfl,ok.chg⟩⟩
 refine .skip<|.s<|.z (.ldb T.ag97 ok.m1 T.sz97)<|.ur' (.stW (vs:=[.J ((hdAt l 0:Nat):Int),.J ((hdAt l 1:Nat):Int),.J ((hdAt l 2:Nat):Int),.J ((hdAt l 3:Nat):Int),.J ((hdAt l 4:Nat):Int),.J ((hdAt l 5:Nat):Int)]) T.sz97 ok.n2 (oneL rfl)) ?_;rintro U12 ⟨ok,cg⟩;refine .z .asI<|.nil<|.ret ⟨.tuple #[.agg #[.J ((hdAt l 0:Nat):Int),.J ((hdAt l 1:Nat):Int),.J ((hdAt l 2:Nat):Int),.J ((hdAt l 3:Nat):Int),.J ((hdAt l 4:Nat):Int),.J ((hdAt l 5:Nat):Int)],.J 0],Res.many (vs:=[.agg #[.J ((hdAt l 0:Nat):Int),.J ((hdAt l 1:Nat):Int),.J ((hdAt l 2:Nat):Int),.J ((hdAt l 3:Nat):Int),.J ((hdAt l 4:Nat):Int),.J ((hdAt l 5:Nat):Int)],.J 0]) rfl ⟨⟨_,rfl,load_ag T.ag97 ok.m0 T.sz97⟩,rfl,trivial⟩ rfl,⟨by rw [dec0 (by omega) (by simpa using C1) ⟨chk_o G37,by simpa using C2⟩];rfl,ok.chg⟩⟩
end
end Go.Proofs.YtfegfklipbnhjaaGreat
namespace Go.HL
open Go
@[reducible] def apart (l:List Itm):Prop:=l.Pairwise fun (a b:Itm)=>∀j,a.F j->¬b.F j
@[reducible] def starI (l:List Itm):Itm:=⟨fun h=>(∀i∈l,i.p h)/\apart l,fun j=>∃i∈l,i.F j,fun _ _ _ c d hp=>⟨fun i hi=>i.st _ _ _ c (fun j hj=>d j ⟨i,hi,hj⟩) (hp.1 i hi),hp.2⟩⟩
section
variable {h0 h h' h1:Heap} {D G:Nat->Prop} {M R:List Itm} {a b c x y:Itm} {l l':List Itm}
theorem Hp.unstar (ok:Hp h0 D (starI l::M) R h):Hp h0 D (l++M) R h:=by
 have hs:=(ok.m _ qX);have hmm:=kK.1 ok.mm;refine ⟨ok.chg,fun i hi=>?_,ok.r,List.pairwise_append.2 ⟨hs.1.2,hmm.2,fun p hp q hq j hj hj2=>hmm.1 q hq j ⟨p,hp,hj⟩ hj2⟩,fun p hp q hq j hj hj2=>?_⟩
 ·rcases qD.1 hi with hi | hi
  ·exact ⟨hs.1.1 i hi,fun j hj=>hs.2 j ⟨i,hi,hj⟩⟩
  ·exact ok.m i (qQ _ hi)
 ·rcases qD.1 hp with hp | hp
  ·exact ok.mr _ qX q hq j ⟨p,hp,hj⟩ hj2
  ·exact ok.mr p (qQ _ hp) q hq j hj hj2
theorem Hp.star (ok:Hp h0 D (l++M) R h):Hp h0 D (starI l::M) R h:=by
 have hmm:=List.pairwise_append.1 ok.mm;refine ⟨ok.chg,fun i hi=>?_,ok.r,kK.2 ⟨fun q hq j ⟨p,hp,hj⟩ hj2=>hmm.2.2 p hp q hq j hj hj2,hmm.2.1⟩,fun p hp q hq j hj hj2=>?_⟩
 ·rcases qK.1 hi with rfl | hi
  ·exact ⟨⟨fun i hi=>(ok.m i (qU _ hi)).1,hmm.1⟩,fun j ⟨i,hi,hj⟩=>(ok.m i (qU _ hi)).2 j hj⟩
  ·exact ok.m i (qI _ hi)
 ·rcases qK.1 hp with rfl | hp
  ·obtain ⟨i,hi,hj⟩:=hj;exact ok.mr i (qU _ hi) q hq j hj hj2
  ·exact ok.mr p (qI _ hp) q hq j hj hj2
theorem Hp.starP (ok:Hp h0 D (starI l::M) R h) (p:l'.Perm l):Hp h0 D (starI l'::M) R h:=(ok.unstar.perm (p.append_right M)).star
theorem Hp.star2 (ok:Hp h0 D (starI (a::b::l)::M) R h):Hp h0 D (a::b::starI l::M) R h:=by
 have o:Hp h0 D (starI l::a::b::M) R h:=(ok.unstar.perm (M':=l++a::b::M) (by simpa using (List.perm_append_comm (l₁:=l) (l₂:=[a,b])).append_right M)).star;exact o.n2.n2
theorem Hp.unstar2 (ok:Hp h0 D (a::b::starI l::M) R h):Hp h0 D (starI (a::b::l)::M) R h:=
 Hp.star ((ok.n2.unstar).perm (M':=a::b::(l++M)) (by simpa using (List.perm_append_comm (l₁:=[a,b]) (l₂:=l)).append_right M))
end
end Go.HL
namespace Go.Proofs.YtfegfklipbnhjaaGreat
open Go Go.HL
structure Chn where
 kind:Nat
 pos:Nat
 b:List UInt8
def longN (b:List UInt8) (n:Nat):List UInt8:=b.take n++List.replicate (n-b.length) 0
theorem longN_len (b:List UInt8) (n:Nat):(longN b n).length=n:=by simp [longN];omega
theorem longN_le {b:List UInt8} {n:Nat} (h:n<=b.length):longN b n=b.take n:=by simp [longN,Nat.sub_eq_zero_of_le h]
theorem longN_ge {b:List UInt8} {n:Nat} (h:b.length<=n):longN b n=b++List.replicate (n-b.length) 0:=by simp [longN,qY h]
def patchN (o:List UInt8) (p:Nat) (b:List UInt8):List UInt8:=o.take p++b++o.drop (p+b.length)
def doneN (c:Chn) (b:List UInt8) (here:Bool):List UInt8 × Bool:=
 if c.kind=0 then (patchN (longN b (max b.length (c.pos+c.b.length))) c.pos c.b,true) else if c.kind=1/\here=true then (longN b c.pos,true) else ([],false)
structure Fl where
 now:List UInt8
 safe:List UInt8
 here:Bool
 was:Bool
 opn:List Chn
structure Dk where
 fs:List UInt8->Option Fl
 dark:Bool
 left:Int
 chg:Int
def put1 (f:List UInt8->Option Fl) (n:List UInt8) (v:Option Fl):List UInt8->Option Fl:=fun m=>if m=n then v else f m
def noF:Fl:=⟨[],[],false,false,[]⟩
def wrongN (d:Dk) (n:List UInt8) (zs:List Int):Nat:=if n.length<1\/32<n.length\/(∃z∈zs,z<0) then 1 else if d.dark=true then 13 else 0
def powerN (d:Dk):Dk × Nat:=if d.left=0 then (⟨d.fs,true,d.left,d.chg⟩,13) else (⟨d.fs,d.dark,if 0<d.left then d.left-1 else d.left,d.chg+1⟩,0)
def chgF (f:Fl) (c:Chn):Fl:=⟨(doneN c f.now f.here).1,f.safe,(doneN c f.now f.here).2,f.was,f.opn++[c]⟩
def doN (d:Dk) (n:List UInt8) (c:Chn):Dk × Nat:=
 if d.left=0 then powerN d else (⟨put1 d.fs n (some (chgF ((d.fs n).getD noF) c)),d.dark,if 0<d.left then d.left-1 else d.left,d.chg+1⟩,0)
def thereN (d:Dk) (n:List UInt8):Bool:=match d.fs n with | some f=>f.here | none=>false
def removeN (d:Dk) (n:List UInt8):Dk × Nat:=
 if wrongN d n []≠0 then (d,wrongN d n []) else if thereN d n=false then (d,4) else doN d n ⟨2,0,[]⟩
def sizeN (d:Dk) (n:List UInt8):Nat × Bool:=if d.dark=true\/thereN d n=false then (0,false) else (((d.fs n).getD noF).now.length,true)
structure ChOk (c:Chn):Prop where
 kind:c.kind<=2
 fit:c.pos+c.b.length<=16777216
structure FlOk (f:Fl):Prop where
 now:f.now.length<=16777216
 safe:f.safe.length<=16777216
 opn:∀c∈f.opn,ChOk c
structure DkOk (d:Dk):Prop where
 fs:∀n f,d.fs n=some f->FlOk f/\(f.opn.length:Int)<=d.chg
 chg:0<=d.chg
 left:d.left<=9223372036854775807
 cnt:∃ks:List (List UInt8),(ks.length:Int)<=d.chg/\∀n f,d.fs n=some f->n∈ks/\n.length<=32
theorem noF_ok:FlOk noF:=⟨by simp [noF],by simp [noF],by simp [noF]⟩
theorem DkOk.getD {d:Dk} (k:DkOk d) (n:List UInt8):FlOk ((d.fs n).getD noF)/\((((d.fs n).getD noF).opn.length:Nat):Int)<=d.chg:=by
 cases h:d.fs n with
 | none=>exact ⟨noF_ok,by simpa [noF] using k.chg⟩
 | some f=>exact k.fs n f h
def newN:Dk:=⟨fun _=>none,false,-1,0⟩
theorem newN_ok:DkOk newN:=⟨fun _ _ h=>(by cases h),by simp [newN],by simp [newN],⟨[],by simp [newN],fun _ _ h=>(by cases h)⟩⟩
open Go.RowKit Go.Maps Go.Sort Go.Shelf Go.MapKept
@[reducible] def ptr (b:Nat):Value:=.P b
def nT:List UInt8:=[116,111,109,101]
def nL:List UInt8:=[116,111,109,101,46,108,111,103]
def nM:List UInt8:=[116,111,109,101,46,109,97,114,107]
section
variable {κ β:Type} [DecidableEq κ]
def mget (l:List (κ × β)) (k:κ):Option β:=(l.find? fun p=>p.1=k).map (·.2)
def mput:List (κ × β)->κ->β->List (κ × β)
 | [],k,v=>[(k,v)]
 | p::l,k,v=>if p.1=k then (k,v)::l else p::mput l k v
def mdel (l:List (κ × β)) (k:κ):List (κ × β):=l.filter fun p=>decide (p.1≠k)
variable {l:List (κ × β)} {k k':κ} {v w:β} {f:β->Value}
theorem aget_mp:aget (l.map fun p=>(p.1,f p.2)) k=(mget l k).map f:=by
 induction l with
 | nil=>rfl
 | cons p l ih=>
  by_cases h:p.1=k
  ·simp [aget,mget,h]
  ·simpa [aget,mget,h] using ih
theorem adel_mp:adel (l.map fun p=>(p.1,f p.2)) k=(mdel l k).map fun p=>(p.1,f p.2):=by simp [adel,mdel,List.filter_map,Function.comp_def]
theorem aput_mp:aput (l.map fun p=>(p.1,f p.2)) k (f v)=(mput l k v).map fun p=>(p.1,f p.2):=by
 induction l with
 | nil=>rfl
 | cons p l ih=>
  by_cases h:p.1=k
  ·simp [aput,mput,h]
  ·simp [aput,mput,h,ih]
theorem mget_cons {p:κ × β} : mget (p::l) k=if p.1=k then some p.2 else mget l k:=by
 by_cases h:p.1=k<;>simp [mget,h]
theorem mget_mput:mget (mput l k v) k'=if k'=k then some v else mget l k':=by
 induction l with
 | nil=>
  by_cases h:k'=k
  ·subst h;simp [mput,mget]
  ·have h3:¬k=k':=fun e=>h e.symm;simp [mput,mget,h,h3]
 | cons p l ih=>
  unfold mput;split
  ·rename_i h;rw [mget_cons,mget_cons];by_cases h2:k'=k
   ·subst h2;simp
   ·have h3:¬k=k':=fun e=>h2 e.symm;have h4:¬p.1=k':=fun e=>h2 (e.symm.trans h);simp [h2,h3,h4]
  ·rename_i h;rw [mget_cons,mget_cons,ih];by_cases h2:p.1=k'
   ·have h3:¬k'=k:=fun e=>h (h2.trans e);simp [h2,h3]
   ·simp [h2]
theorem mget_mem (h:mget l k=some v):(k,v)∈l:=by
 induction l with
 | nil=>simp [mget] at h
 | cons p l ih=>
  rw [mget_cons] at h;split at h
  ·rename_i hp;injection h with h;subst h;rw [<-hp];exact qX
  ·exact qQ _ (ih h)
theorem mem_mput {p:κ × β} (hp:p∈mput l k v):p=(k,v)\/p∈l:=by
 induction l with
 | nil=>simp [mput] at hp;exact .inl hp
 | cons q l ih=>
  unfold mput at hp;split at hp
  ·rcases qK.1 hp with h | h
   ·exact .inl h
   ·exact .inr (qQ _ h)
  ·rcases qK.1 hp with h | h
   ·exact .inr (by rw [h];exact qX)
   ·exact (ih h).imp id (qQ _)
end
section
variable {d:Dk} {n:List UInt8} {size:Nat}
section
variable {l:List Fr} {d1 d2:Dk} {i e2:Nat}
theorem pg_mul {x:Int} {s:Nat} (h1:0<=x) (h2:x<=1048576) (hs:s<=4096):0<=x*s/\x*s<=4294967296:=
 ⟨Int.mul_nonneg h1 (by omega),by have:=Int.mul_le_mul h2 (show (s:Int)<=4096 by omega) (by omega) (by omega);omega⟩
end
end
end Go.Proofs.YtfegfklipbnhjaaGreat
