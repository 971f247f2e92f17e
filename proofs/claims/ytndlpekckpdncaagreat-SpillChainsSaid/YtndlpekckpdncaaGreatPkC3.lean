/- Numbers in bytes: num.Fixed, num.Read, bytes.Join, num.Join, and the document's Fixed and Read. Conditions: the slices are readable, the sizes 1 to 8. Sums of bytes: sum.table, Sum, Next, foot, Seal, and the document's. Conditions: the slices are readable. Logs in plain terms: heads, frames, links, and how a log is scanned. Conditions: those that each fact names. Seals: sum.foot, Seal, and the document's Seal. Conditions: the slices are readable. A number from 256 to 4096 has no bit in common with its predecessor just if it is one of five. Conditions: none. Logs: Same, sizes, frames, heads, links and what is put, of the program and of the document. Conditions: the slices are readable, numbers in their ranges. Logs: links and what is put, of the program and of the document. Conditions: the slices are readable, numbers in their ranges. The reader of a log: number, head. Conditions: the bytes are readable and no part of the reader. Heads of files: Check, bytes, Encode, Decode, of the program and of the document. Conditions: numbers in their ranges. Several items as one; what a call may turn alone, taken from and put back into what the caller has. Conditions: those that each fact names. The disk's files in plain terms, as the program has them. Conditions: those that each fact names. Copies of bytes and of slices; the reader of a log: frame. Conditions: the bytes are readable and no part of the reader. The program's Scan of a log. Conditions: the bytes are readable, at most 100000. The latest frames in plain terms: a map from pages, and a sorted row. Conditions: those that each fact names. Rows of frames that are read; the document's Same, and few. Conditions: the rows are readable. The contracts of maps.Keys, slices.Sorted and slices.Sort, laid at this program by the kit. Conditions: none. maps.Keys and slices.Sorted over a map of frames: its keys, sorted. Conditions: the keys are ints of 64 bits. The program's Latest: the latest frame of each page. Conditions: the row is readable, its pages are numbers of 64 bits. -/
import Derived.Test.YtndlpekckpdncaaGreatPkC2
import Derived.Shelf.SlIterI.Nil
import Derived.Shelf.SortM.Plain
import Derived.Shelf.SortM.SortNone
import Derived.Ground.GgzProg
import Derived.Ground.SlgmProg
import Derived.Test.YtndlpekckpdncaaGreatProg
set_option maxRecDepth 100000
set_option maxHeartbeats 2000000
set_option linter.all false
namespace Go.Proofs.YtndlpekckpdncaaGreat
open Go Go.HL
def fixedN (n size:Nat):List UInt8:=(List.range size).map fun j=>UInt8.ofNat (n / 256 ^ (size-1-j))
theorem fixedN_len (n size:Nat):(fixedN n size).length=size:=by simp [fixedN]
def beN (l:List UInt8):Nat:=l.foldl (fun n x=>n*256+x.toNat) 0
def rdN (b:List UInt8) (p k:Nat):Nat:=beN ((b.drop p).take k)
theorem beN_snoc (l:List UInt8) (x:UInt8):beN (l++[x])=beN l*256+x.toNat:=by simp [beN]
theorem beN_lt (l:List UInt8):beN l<256 ^ l.length:=by
 suffices h:∀n,beN (l.take n)<256 ^ (l.take n).length by have:=h l.length;simpa using this
 intro n;induction n with
 | zero=>simp [beN]
 | succ n ih=>
  by_cases hn:n<l.length
  ·rw [take_next hn,beN_snoc,List.length_append,List.length_singleton,Nat.pow_succ];have:=l[n].toNat_lt;have h2:beN (l.take n)*256+256≤256 ^ (l.take n).length*256:=by rw [←Nat.succ_mul];exact Nat.mul_le_mul_right _ ih
   omega
  ·rw [List.take_of_length_le (by omega)] at ih⊢;exact ih
theorem bv_ofNat (m:Nat):bv (UInt8.ofNat m)=.int .u8 ((m%256:Nat):Int):=by simp [bv]
theorem set_bv {zs:List UInt8} {q m:Nat} : (zs.map bv).set q (.int .u8 ((m%256:Nat):Int))=(zs.set q (UInt8.ofNat m)).map bv:=by rw [List.map_set,bv_ofNat]
theorem shl8_or {m x:Nat} (hm:m<72057594037927936) (hx:x<256):m*2 ^ 8%18446744073709551616 ||| x=m*256+x:=by
 have h1:m*2 ^ 8%18446744073709551616=m <<< 8:=by rw [Nat.shiftLeft_eq];exact Nat.mod_eq_of_lt (by omega)
 rw [h1,←Nat.shiftLeft_add_eq_or_of_lt (by simpa using hx),Nat.shiftLeft_eq]
theorem pow256 {j k:Nat} (h:j≤k):256 ^ j≤256 ^ k:=Nat.pow_le_pow_right (by omega) h
theorem fixed_any {h:Heap} {n size:Nat} (hn:n<18446744073709551616) (h1:1≤size) (h8:size≤8) :
  HC Tryz.prog 118 #[.int .u64 (n:Int),.int .i64 (size:Int)] h (fun v h'=>Own h h' 1 5 v ((fixedN n size).map bv)):=by
 have ok:=Hp.nil h none_;refine HC.go Tryz.func118 32 ?_;refine .s<|.z .asS<|.nil<|.seq<|.s<|.z .mvI<|.z .lss<|.z .mvB<|.sd (fun G9=>?_) (fun G9=>?_)
 ·
  omega
 refine .z .mvI<|.z .gtr<|.z .pkf<|.nil<|.cd (fun C0=>?_) (fun C0=>?_)
 ·
  omega
 refine .skip<|.s<|.z .mvI<|.a' 14 (.mks size size T.el44 T.sz5 T.by5 T.zr5 ok) ?_;rintro _ η1 ⟨pb1,rfl,ok,xe⟩;have ok:=ok.cx (ys:=(List.replicate size (0:UInt8)).map bv) (zeros8 _);refine .z .asS<|.nil<|.seq<|.s<|.z .mvI<|.z .mvI<|.nil<|.block fun K0 hK0=>.loop (fun m s hh=>∃(i:Nat) (zs:List UInt8),Has s [(0,.int .u64 (n:Int)),(1,.int .i64 (size:Int)),(5,.slice (some ⟨pb1,0,none⟩) size size),(15,.int .i64 (size:Int)),(16,.int .i64 (i:Int))]∧Hp h none_ [capI 1 5 (some ⟨pb1,0,none⟩,size,size) (zs.map bv)] [] hh∧i≤size∧zs.length=size∧(∀j,j<i→zs[size-1-j]? = some (UInt8.ofNat (n / 256 ^ j)))∧m=size-i) ?_ ?_
 ·exact ⟨_,0,List.replicate size 0,⟨rfl,rfl,rfl,rfl,rfl,trivial⟩,ok.cx (by simp),by omega,by simp,fun j h=>by omega,rfl⟩
 rintro _ _ η2 ⟨i,zs,hs,ok,hi,hzl,hz,rfl⟩ J0 hJ0;refine .frame hs fun τ=>?_;refine .s<|.z .lss<|.nil<|.seq<|.cdr (fun C1=>?_) (fun C1=>?_)
 ·
  have hil:i=size:=by omega
  have hfin:zs=fixedN n size:=List.ext_getElem? fun q=>by
   unfold fixedN;by_cases hq:q<size
   ·have:=hz (size-1-q) (by omega);rw [show size-1-(size-1-q)=q by omega] at this;rw [this];simp [hq]
   ·rw [List.getElem?_eq_none (by omega),List.getElem?_eq_none (by simp;omega)]
  refine .exit<|hK0 _ _<|.s<|.z .mvS<|.z .asS<|.nil<|.ret ⟨.slice (some ⟨pb1,0,none⟩) size size,Res.one rfl rfl,by have h2:=ok.toOwn;rwa [hfin] at h2⟩
 have hil:i<size:=by omega
 have hz2:∀j,j<i+1→(zs.set (size-1-i) (UInt8.ofNat (n / 256 ^ i)))[size-1-j]? = some (UInt8.ofNat (n / 256 ^ j)):=fun j hj=>by
  rw [List.getElem?_set];by_cases e:j=i
  ·subst e;rw [if_pos rfl,if_pos (by omega)]
  ·rw [if_neg (by omega)];exact hz j (by omega)
 refine .skip<|.seq<|.block fun K1 hK1=>.s<|.z .mvI<|.z .asI<|.nil<|.r<|.z .mvS<|.z .mvI<|.z .sub<|.z .mvI<|.z .sub<|.z .mvI<|.z .mvI<|.z (.mulI (a:=8))<|.z (.shrn (M:=18446744073709551616) rfl (ha:=by omega))<|.z (.cvm T.in5 T.in130 (M:=256) rfl rfl)<|.z (.ix1 (size-1-i) T.el44 T.sz5)<|.ur' (.sxI (q:=(size-1-i)) T.sz5 ok) ?_;rintro η3 ⟨ok,cg⟩;refine .nil ?_;refine .end<|hK1 _ _<|.r<|.z (.addI (b:=1))<|.z .mvI<|.nil<|.end<|hJ0 _ _ _ ⟨i+1,zs.set (size-1-i) (UInt8.ofNat (n / 256 ^ i)),⟨rfl,rfl,rfl,rfl,rfl,trivial⟩,ok.cx (by first | rfl | (have e:2 ^ (8*i)=256 ^ i:=by rw [Nat.pow_mul]);rw [e];exact set_bv),by omega,by simp [hzl],hz2,rfl⟩ (by omega)
theorem read_any {h:Heap} {F E:Nat→Prop} {a:Option Addr} {c:Nat} {l:List UInt8} (hl:RdL h F E (a,l.length,c) l) {p size:Nat} (h1:1≤size) (h8:size≤8) (hp:p+size≤l.length) :
  HC Tryz.prog 127 #[.slice a l.length c,.int .i64 (p:Int),.int .i64 (size:Int)] h (fun v h'=>v=.tuple #[.int .u64 ((rdN l p size:Nat):Int),.int .i64 0]∧h'=h):=by
 have hc2:=hl.m;have hc1:l.length≤c:=hl.c;simp only at hc2;obtain ⟨l2,hl2⟩:∃l2,l2=(l.drop p).take size:=⟨_,rfl⟩;have hl2n:l2.length=size:=by rw [hl2];simp;omega
 unfold rdN;rw [←hl2];refine HC.go Tryz.func127 53 ?_;refine .s<|.z .asI<|.z .asI<|.nil<|.seq<|.block fun K0 hK0=>.s<|.z .mvI<|.z .lss<|.z .mvB<|.sd (fun G14=>?_) (fun G14=>?_)
 ·
  omega
 refine .z .mvI<|.z .gtr<|.z .pkf<|.z .mvB<|.sd (fun G18=>?_) (fun G18=>?_)
 ·
  omega
 refine .z .mvI<|.z .lss<|.z .pkf<|.z .asB<|.nil<|.cd (fun C0=>?_) (fun C0=>?_)
 ·
  omega
 refine .s<|.z .mvI<|.z .mvS<|.z (.len T.el44)<|.z .gtr<|.z .mvB<|.sd (fun G27=>?_) (fun G27=>?_)
 ·
  omega
 refine .z .mvS<|.z (.len T.el44)<|.z .mvI<|.z .sub<|.z .mvI<|.z .lss<|.z .pkf<|.z .asB<|.nil<|.cd (fun C1=>?_) (fun C1=>?_)
 ·
  omega
 refine .skip<|.end<|hK0 _ _<|.s<|.z .asI<|.nil<|.seq<|.s<|.z .mvS<|.z .mvI<|.z .mvI<|.z .mvI<|.z .addI<|.z (.slh p (p+size) T.el44 T.sz5)<|?_;generalize hc1:cutA a p c 1=ca1;have hk1:RdL h F E (ca1,(p+size)-p,c-p) l2:=(by have h1:=hl.cut (i:=p) (j:=(p+size)) (by omega) (by omega);rw [show ((l).drop p).take ((p+size)-p)=l2 from by rw [hl2];congr 1;omega] at h1;subst hc1;exact h1);refine .z (.len T.el44)<|.z .mvI<|.nil<|.block fun K1 hK1=>.loop (fun m s hh=>∃(j mm:Nat),Has s [(8,.int .u64 (mm:Int)),(40,.slice ca1 ((p+size)-p) (c-p)),(41,.int .i64 (((p+size)-p:Nat):Int)),(42,.int .i64 (j:Int))]∧h=hh∧j≤l2.length∧mm=beN (l2.take j)∧m=l2.length-j) ?_ ?_
 ·exact ⟨_,0,0,⟨rfl,rfl,rfl,rfl,trivial⟩,rfl,Nat.zero_le _,rfl,rfl⟩
 rintro _ _ _ ⟨j,mm,hs,rfl,hj,hm,rfl⟩ J0 hJ0;refine .frame hs fun τ=>?_;refine .s<|.z .lss<|.nil<|.seq<|.cdr (fun C2=>?_) (fun C2=>?_)
 ·
  have hjn:j=l2.length:=by omega
  have htk:l2.take j=l2:=List.take_of_length_le (by omega);rw [htk] at hm;refine .exit<|hK1 _ _<|.s<|.z .mvI<|.z .asI<|.z .asI<|.nil<|.ret ⟨.tuple #[.int .u64 (mm:Int),.int .i64 0],Res.two rfl rfl rfl,⟨by rw [hm],rfl⟩⟩
 have hjl:j<l2.length:=by omega
 have hlt:beN (l2.take j)<72057594037927936:=Nat.lt_of_lt_of_le (beN_lt _) (Nat.le_trans (pow256 (k:=7) (by simp;omega)) (by decide));have hsn:beN (l2.take (j+1))=beN (l2.take j)*256+l2[j].toNat:=by rw [take_next hjl,beN_snoc]
 refine .skip<|.seq<|.block fun K2 hK2=>.s<|?_;obtain ⟨bb1,oo1,rfl,fb1⟩:=hk1.pos (by omega);refine .z (.ix1 j T.el44 T.sz5)<|.z (.ld T.ag5 (hk1.u8 (i:=j) (by omega)))<|.z .asI<|.nil<|.r<|.z .mvI<|.z (.shln (M:=18446744073709551616) rfl rfl (b:=8))<|.z .mvI<|.z (.cvs T.in130 T.in5 (M:=18446744073709551616) rfl rfl)<|.z (.bor (M:=18446744073709551616) rfl rfl)<|.z .asI<|.nil<|.end<|hK2 _ _<|.r<|.z (.addI (b:=1))<|.z .mvI<|.nil<|.end<|hJ0 _ _ _ ⟨j+1,_,⟨rfl,rfl,rfl,rfl,trivial⟩,rfl,by omega,by rw [hm,hsn];exact shl8_or hlt (byte_lt _),rfl⟩ (by omega)
theorem rread_any {h:Heap} {F E:Nat→Prop} {a:Option Addr} {c:Nat} {l:List UInt8} (hl:RdL h F E (a,l.length,c) l) {p size:Nat} (h1:1≤size) (h8:size≤8) (hp:p+size≤l.length) :
  HC Tryz.prog 85 #[.slice a l.length c,.int .i64 (p:Int),.int .i64 (size:Int)] h (fun v h'=>v=.tuple #[.int .u64 ((rdN l p size:Nat):Int),.int .i64 0]∧h'=h):=by
 have hc2:=hl.m;have hc1:l.length≤c:=hl.c;simp only at hc2;obtain ⟨l2,hl2⟩:∃l2,l2=(l.drop p).take size:=⟨_,rfl⟩;have hl2n:l2.length=size:=by rw [hl2];simp;omega
 unfold rdN;rw [←hl2];refine HC.go Tryz.func85 48 ?_;refine .s<|.z .asI<|.z .asI<|.nil<|.seq<|.s<|.z .mvI<|.z .lss<|.z .mvB<|.sd (fun G12=>?_) (fun G12=>?_)
 ·
  omega
 refine .z .mvI<|.z .gtr<|.z .pkf<|.z .mvB<|.sd (fun G16=>?_) (fun G16=>?_)
 ·
  omega
 refine .z .mvI<|.z .lss<|.z .pkf<|.nil<|.cd (fun C0=>?_) (fun C0=>?_)
 ·
  omega
 refine .skip<|.seq<|.s<|.z .mvI<|.z .mvS<|.z (.len T.el44)<|.z .gtr<|.z .mvB<|.sd (fun G24=>?_) (fun G24=>?_)
 ·
  omega
 refine .z .mvS<|.z (.len T.el44)<|.z .mvI<|.z .sub<|.z .mvI<|.z .lss<|.z .pkf<|.nil<|.cd (fun C1=>?_) (fun C1=>?_)
 ·
  omega
 refine .skip<|.s<|.z .asI<|.nil<|.seq<|.s<|.z .asI<|.nil<|.block fun K0 hK0=>.loop (fun m s hh=>∃(j mm:Nat),Has s [(0,.slice a l.length c),(1,.int .i64 (p:Int)),(2,.int .i64 (size:Int)),(8,.int .u64 (mm:Int)),(9,.int .i64 (j:Int))]∧h=hh∧j≤l2.length∧mm=beN (l2.take j)∧m=l2.length-j) ?_ ?_
 ·exact ⟨_,0,0,⟨rfl,rfl,rfl,rfl,rfl,trivial⟩,rfl,Nat.zero_le _,rfl,rfl⟩
 rintro _ _ _ ⟨j,mm,hs,rfl,hj,hm,rfl⟩ J0 hJ0;refine .frame hs fun τ=>?_;refine .seq<|.s<|.z .mvI<|.z .mvI<|.z .lss<|.nil<|.cdr (fun C2=>?_) (fun C2=>?_)
 ·
  have hjn:j=l2.length:=by omega
  have htk:l2.take j=l2:=List.take_of_length_le (by omega);rw [htk] at hm;refine .exit<|hK0 _ _<|.s<|.z .mvI<|.z .asI<|.z .asI<|.nil<|.ret ⟨.tuple #[.int .u64 (mm:Int),.int .i64 0],Res.two rfl rfl rfl,⟨by rw [hm],rfl⟩⟩
 have hjl:j<l2.length:=by omega
 have hlt:beN (l2.take j)<72057594037927936:=Nat.lt_of_lt_of_le (beN_lt _) (Nat.le_trans (pow256 (k:=7) (by simp;omega)) (by decide));have hsn:beN (l2.take (j+1))=beN (l2.take j)*256+l2[j].toNat:=by rw [take_next hjl,beN_snoc]
 have hlj:l[p+j]=l2[j]:=by subst hl2;simp
 refine .skip<|.seq<|.block fun K1 hK1=>.r<|.z .mvI<|.z (.muln (M:=18446744073709551616) rfl rfl (b:=256))<|.z .mvS<|.z .mvI<|.z .mvI<|.z .addI<|?_;obtain ⟨bb1,oo1,rfl,fb1⟩:=hl.pos (by omega);refine .z (.ix1 (p+j) T.el44 T.sz5)<|.z (.ld T.ag5 (hl.u8 (i:=(p+j)) (by omega)))<|.z (.cvs T.in130 T.in5 (M:=18446744073709551616) rfl rfl)<|.z (.addn (M:=18446744073709551616) rfl rfl)<|.z .asI<|.nil<|.end<|hK1 _ _<|.r<|.z .mvI<|.z (.addI (b:=1))<|.z .asI<|.nil<|.end<|hJ0 _ _ _ ⟨j+1,_,⟨rfl,rfl,rfl,rfl,rfl,trivial⟩,rfl,by omega,by rw [hm,hsn,hlj];have:=byte_lt l2[j];omega,rfl⟩ (by omega)
theorem _root_.Go.HL.Cap.clip {h:Heap} {k:Nat} {e:TypeId} {a:Option Addr} {n c:Nat} {xs:List Value} (r:Cap h k e (.slice a n c) xs):Cap h k e (.slice a n n) xs:=by
 obtain ⟨a',n',c',e1,h1,h2,h3,h4⟩:=r;injection e1 with e1 e2 e3;subst e1 e2 e3;refine ⟨_,_,_,rfl,Nat.le_refl _,by omega,h3,?_⟩;rcases h4 with ⟨q1,q2⟩ | ⟨b,o,cs,fz,q1,q2,q3,q4⟩
 ·exact .inl ⟨q1,by omega⟩
 ·exact .inr ⟨b,o,cs,fz,q1,q2,by have:=Nat.mul_le_mul_right k h1;omega,q4⟩
theorem _root_.Go.HL.Hp.clip {h0 h:Heap} {D:Nat→Prop} {M R:List Itm} {k:Nat} {e:TypeId} {a:Option Addr} {n c:Nat} {xs:List Value} (ok:Hp h0 D (capI k e (a,n,c) xs::M) R h):Hp h0 D (capI k e (a,n,n) xs::M) R h:=
 ok.re _ (Cap.clip ok.m0) (fun j hj=>by obtain ⟨o,n',c',hv⟩:=hj;injection hv with h1 h2 h3;have h4:a=some ⟨j,o,none⟩:=h1;exact ⟨o,n,c,by rw [h4]⟩)
theorem spl_nil (cs:List Value) (o:Nat):spl cs o []=cs:=by simp [spl]
theorem spl_end {xs zs ys:List Value} {p:Nat} (hp:p=xs.length):spl (xs++zs) p ys=(xs++ys)++zs.drop ys.length:=by
 subst hp;simp [spl,List.drop_append]
theorem flat_snoc {α:Type} {L:List (List α)} {j:Nat} (hj:j<L.length):(L.take (j+1)).flatten=(L.take j).flatten++L[j]:=by rw [take_next hj,List.flatten_append];simp
theorem flat_le {α:Type} (L:List (List α)) (j:Nat):(L.take j).flatten.length≤L.flatten.length:=by
 have:L.flatten=(L.take j).flatten++(L.drop j).flatten:=by rw [←List.flatten_append,List.take_append_drop]
 rw [this];simp
theorem bjoin_any {h:Heap} {F E:Nat→Prop} {a:Option Addr} {c:Nat} {L:List (List UInt8)} (hl:RdL h F E (a,L.length,c) L) (hN:L.flatten.length≤1000000000) :
  HC Tryz.prog 158 #[.slice a L.length c,.slice none 0 0] h (fun v h'=>Own h h' 1 5 v (L.flatten.map bv)):=by
 have hc2:=hl.m;have hc1:L.length≤c:=hl.c;simp only at hc2;have ok:=(Hp.nil h none_).arg hl;refine HC.go Tryz.func158 92 ?_;refine .s<|.z .asS<|.nil<|.seq<|.s<|.z .mvS<|.z (.len T.el28)<|.z .eql<|.nil<|.cd (fun C0=>?_) (fun C0=>?_)
 ·
  have hL0:=List.eq_nil_of_length_eq_zero (show L.length=0 by omega);refine .s<|.a' 15 (.lit [] (cs:=[]) T.el44 T.sz5 T.zr5 ok trivial) ?_;rintro _ η1 ⟨pb1,rfl,ok,xe⟩;have ok:=ok.cx (ys:=([]:List UInt8).map bv) rfl;refine .z .asS<|.nil<|.ret ⟨.slice (some ⟨pb1,0,none⟩) 0 0,Res.one rfl rfl,by have:=ok.toOwn;rw [hL0];exact this⟩
 refine .skip<|.seq<|.s<|.z .mvS<|.z (.len T.el28)<|.z .eql<|.nil<|.cd (fun C1=>?_) (fun C1=>?_)
 ·
  have hlen:L.length=1:=by omega
  have hfl:L.flatten=L[0]:=by obtain ⟨x,hx⟩:=List.length_eq_one_iff.1 hlen;subst hx;simp
  have hll:=congrArg List.length hfl;refine .s<|.z .mvS<|?_;obtain ⟨bb1,oo1,rfl,fb1⟩:=ok.r0.pos (by omega);refine .z (.ix1 0 T.el28 T.sz44)<|?_;obtain ⟨ya1,yc1,he1,hr1⟩:=ok.r0.row (i:=0) (by omega);have ok:=ok.d0 (rdI (fun j=>E j∧j<h.size) (fun j=>E j∧j<h.size) (ya1,L[0].length,yc1) (L[0])) hr1 (fun _ h=>.inr (h.elim id id));refine .z (.ld T.ag44 he1)<|?_;have ok:=ok.nilC (k:=1) (e:=5);refine .a' 22 (.app (news:=(L[0]).map bv) T.el44 T.sz5 T.by5 T.zr5 ok (ok.r0).by bv_all (by simp only [List.length_map,List.length_append,List.length_take,List.length_cons,List.length_nil,List.length_replicate,List.length_range];omega)) ?_;rintro _ η2 ⟨ya2,yn1,yc2,rfl,ok,ap⟩;have ok:=ok.cx (ys:=((L[0])).map bv) (by simp [bv]);obtain rfl:yn1=((L[0])).length:=ok.lenB;refine .z .asS<|.nil<|.ret ⟨.slice ya2 (((L[0])).length) yc2,Res.one rfl rfl,by have:=ok.toOwn;rw [hfl];simpa using this⟩
 refine .skip<|.s<|.z .asI<|.nil<|.seq<|.s<|.z .mvS<|.z (.len T.el44)<|.z .gtr<|.nil<|.cf<|.skip<|.seq<|.s<|.z .mvS<|.z (.len T.el28)<|.z .mvI<|.nil<|.block fun K0 hK0=>.loop (fun m s hh=>∃(j nn:Nat),Has s [(0,.slice a L.length c),(1,.slice none 0 0),(5,.int .i64 (nn:Int)),(42,.slice a L.length c),(43,.int .i64 (L.length:Int)),(44,.int .i64 (j:Int))]∧Hp h none_ [] [rdI (fun j=>F j∧j<h.size) (fun j=>E j∧j<h.size) (a,L.length,c) L] hh∧j≤L.length∧nn=(L.take j).flatten.length∧m=L.length-j) ?_ ?_
 ·exact ⟨_,0,0,⟨rfl,rfl,rfl,rfl,rfl,rfl,trivial⟩,ok,Nat.zero_le _,rfl,rfl⟩
 rintro _ _ η3 ⟨j,nn,hs,ok,hj,hnn,rfl⟩ J0 hJ0;refine .frame hs fun τ=>?_;refine .s<|.z .lss<|.nil<|.seq<|.cdr (fun C4=>?_) (fun C4=>?_)
 ·
  have hjl:j=L.length:=by omega
  have htk:L.take j=L:=List.take_of_length_le (by omega);rw [htk] at hnn;refine .exit<|hK0 _ _<|.seq<|?_;obtain ⟨x0,L1,hL⟩:∃x0 L1,L=x0::L1:=by cases L with | nil=>exact absurd rfl C0 | cons x l=>exact ⟨x,l,rfl⟩
  have hx0:L[0]'(by omega)=x0:=by subst hL;rfl
  have hx1:=congrArg List.length hx0;have hL1:L.length=L1.length+1:=by subst hL;rfl
  have hLf:L.flatten.length=x0.length+L1.flatten.length:=by subst hL;simp
  refine .r<|.z .mvI<|.a' 60 (.mnz nn (e:=5) Tryz.func195 rfl (by decide) rfl rfl T.el44 ok) ?_;rintro _ η4 ⟨pb2,pc1,ps1,rfl,hpc,ok,xe⟩;have hzn:ps1.length=nn:=by have:=(Cap.sl ok.m0).cells.1;simp only at this;omega
  refine .z .mvI<|.z .mvI<|.z (.slhm nn nn T.el44 T.sz5)<|?_;have ok:=ok.clip;refine .z .asS<|.nil<|.s<|.z .mvS<|.z .mvS<|?_;obtain ⟨bb2,oo2,rfl,fb2⟩:=ok.r0.pos (by omega);refine .z (.ix1 0 T.el28 T.sz44)<|?_;obtain ⟨ya3,yc3,he2,hr2⟩:=ok.r0.row (i:=0) (by omega);have ok:=ok.d0 (rdI (fun j=>E j∧j<h.size) (fun j=>E j∧j<h.size) (ya3,L[0].length,yc3) (L[0])) hr2 (fun _ h=>.inr (h.elim id id));refine .z (.ld T.ag44 he2)<|.a' 68 (.cp0 (ys:=(L[0]).map bv) (m:=L[0].length) T.el44 T.sz5 ok ok.r0.by bv_all) ?_;rintro _ η5 ⟨rfl,ok,cg⟩;refine .z .asI<|.nil<|.seq<|.s<|.z .mvS<|.z (.sll 1 T.el28 T.sz44)<|?_;generalize hc1:cutA (some ⟨bb2,oo2,none⟩) 1 c 1=ca1;have ok:=ok.d1 (rdI (fun j=>F j∧j<h.size) (fun j=>E j∧j<h.size) (ca1,L.length-1,c-1) L1) (by have h1:=ok.r1.cut (i:=1) (j:=L.length) (by omega) (by omega);rw [show ((L).drop 1).take (L.length-1)=L1 from by subst hL;simp] at h1;subst hc1;exact h1) (fun _ h=>h);refine .z (.len T.el28)<|.z .mvI<|.nil<|.block fun K2 hK2=>.loop (fun m s hh=>∃(j n2:Nat) (zs:List Value),Has s [(1,.slice none 0 0),(8,.slice (some ⟨pb2,0,none⟩) nn nn),(9,.int .i64 (n2:Int)),(70,.slice ca1 (L.length-1) (c-1)),(71,.int .i64 ((L.length-1:Nat):Int)),(72,.int .i64 (j:Int))]∧Hp h none_ [capI 1 5 (some ⟨pb2,0,none⟩,nn,nn) ((x0++(L1.take j).flatten).map bv++zs)] [rdI (fun j=>F j∧j<h.size) (fun j=>E j∧j<h.size) (ca1,L.length-1,c-1) L1,rdI (fun j=>E j∧j<h.size) (fun j=>E j∧j<h.size) (ya3,L[0].length,yc3) (L[0]),rdI (fun j=>F j∧j<h.size) (fun j=>E j∧j<h.size) (some ⟨bb2,oo2,none⟩,L.length,c) L] hh∧j≤L1.length∧n2=x0.length+(L1.take j).flatten.length∧zs.length+n2=nn∧m=L1.length-j) ?_ ?_
  ·exact ⟨_,0,_,ps1.drop (L[0].map bv).length,⟨rfl,rfl,rfl,rfl,rfl,rfl,trivial⟩,ok.cx (by simp [hx0]),Nat.zero_le _,by simp [hx0],by simp [hx0];omega,rfl⟩
  rintro _ _ η6 ⟨j,n2,zs,hs,ok,hj,hn2,hz,rfl⟩ J1 hJ1;refine .frame hs fun τ=>?_;refine .s<|.z .lss<|.nil<|.seq<|.cdr (fun C6=>?_) (fun C6=>?_)
  ·
   have hjl:j=L1.length:=by omega
   have htk:L1.take j=L1:=List.take_of_length_le (by omega);have hz0:zs=[]:=List.eq_nil_of_length_eq_zero (by rw [htk] at hn2;omega);refine .exit<|hK2 _ _<|.s<|.z .mvS<|.z .asS<|.nil<|.ret ⟨.slice (some ⟨pb2,0,none⟩) nn nn,Res.one rfl rfl,by have:=ok.toOwn;rw [hz0,htk] at this;rw [hL];simpa using this⟩
  have hjl:j<L1.length:=by omega
  have hsn:=congrArg List.length (flat_snoc hjl);rw [List.length_append] at hsn;have hle:=flat_le L1 (j+1);refine .skip<|.seq<|.block fun K3 hK3=>.s<|?_;obtain ⟨bb3,oo3,rfl,fb3⟩:=ok.r0.pos (by omega);refine .z (.ix1 j T.el28 T.sz44)<|?_;obtain ⟨ya4,yc4,he3,hr3⟩:=ok.r0.row (i:=j) (by omega);have ok:=ok.d0 (rdI (fun j=>E j∧j<h.size) (fun j=>E j∧j<h.size) (ya4,L1[j].length,yc4) (L1[j])) hr3 (fun _ h=>.inr (h.elim id id));refine .z (.ld T.ag44 he3)<|.z .asS<|.nil<|.s<|.z .mvI<|.z .mvS<|.z .mvI<|.z (.sll n2 T.el44 T.sz5)<|.z .mvS<|.a' 81 (.cpy (ys:=[]) (m:=0) n2 T.el44 T.sz5 ok (Sl.nil _ 1) (oneL rfl) rfl) ?_;rintro _ η7 ⟨rfl,ok,cg⟩;refine .z (.addI (b:=0))<|.z .asI<|.nil<|.r<|.z .mvI<|.z .mvS<|.z .mvI<|.z (.sll (n2+0) T.el44 T.sz5)<|.z .mvS<|.a' 88 (.cpy (ys:=(L1[j]).map bv) (m:=L1[j].length) (n2+0) T.el44 T.sz5 ok ok.r0.by bv_all rfl) ?_;rintro _ η8 ⟨rfl,ok,cg⟩;refine .z .addI<|.z .asI<|.nil<|.end<|hK3 _ _<|.r<|.z (.addI (b:=1))<|.z .mvI<|.nil<|.end<|hJ1 _ _ _ ⟨j+1,_,zs.drop (L1[j].map bv).length,⟨rfl,rfl,rfl,rfl,rfl,rfl,trivial⟩,ok.tR.cx (by rw [spl_nil,spl_end (by rw [List.length_map,List.length_append];omega),flat_snoc hjl];simp),by omega,by omega,by simp;omega,rfl⟩ (by omega)
 have hjl:j<L.length:=by omega
 have hsn:=congrArg List.length (flat_snoc hjl);rw [List.length_append] at hsn;have hle:=flat_le L (j+1);refine .skip<|.seq<|.block fun K1 hK1=>.s<|?_;obtain ⟨bb4,oo4,rfl,fb4⟩:=ok.r0.pos (by omega);refine .z (.ix1 j T.el28 T.sz44)<|?_;obtain ⟨ya5,yc5,he4,hr4⟩:=ok.r0.row (i:=j) (by omega);have ok:=ok.d0 (rdI (fun j=>E j∧j<h.size) (fun j=>E j∧j<h.size) (ya5,L[j].length,yc5) (L[j])) hr4 (fun _ h=>.inr (h.elim id id));refine .z (.ld T.ag44 he4)<|.z .asS<|.nil<|.seq<|.s<|.z .mvS<|.z (.len T.el44)<|.z .mvI<|.z .sub<|.z .gtr<|.nil<|.cd (fun C5=>?_) (fun C5=>?_)
 ·
  omega
 refine .skip<|.r<|.z .mvI<|.z .mvS<|.z (.len T.el44)<|.z .addI<|.z .asI<|.nil<|.end<|hK1 _ _<|.r<|.z (.addI (b:=1))<|.z .mvI<|.nil<|.end<|hJ0 _ _ _ ⟨j+1,_,⟨rfl,rfl,rfl,rfl,rfl,rfl,trivial⟩,ok.tR,by omega,by omega,rfl⟩ (by omega)
theorem njoin_any {h:Heap} {F E:Nat→Prop} {a:Option Addr} {c:Nat} {L:List (List UInt8)} (hl:RdL h F E (a,L.length,c) L) (hN:L.flatten.length≤1000000000) :
  HC Tryz.prog 117 #[.slice a L.length c] h (fun v h'=>Own h h' 1 5 v (L.flatten.map bv)):=by
 have ok:=(Hp.nil h none_).arg hl;refine HC.go Tryz.func117 5 ?_;refine .s<|.z .asS<|.nil<|.s<|.z .mvS<|.c' 4 .func (bjoin_any (a:=a) (c:=c) (L:=L) ok.r0 hN) ?_;rintro _ η1 own;obtain ⟨ya1,yc1,rfl⟩:=own.formB;have ok:=ok.own own;refine .z .asS<|.nil<|.ret ⟨.slice ya1 (((L).flatten).length) yc1,Res.one rfl rfl,ok.toOwn⟩
def bitN (c:Nat):Nat:=if c%2=1 then c / 2 ^^^ 2197175160 else c / 2
def stN:Nat→Nat→Nat
 | 0,c=>c
 | k+1,c=>bitN (stN k c)
def crcN (c:Nat) (l:List UInt8):Nat:=l.foldl (fun c x=>stN 8 (c ^^^ x.toNat)) c
@[irreducible] def sumN (l:List UInt8):Nat:=4294967295-crcN 4294967295 l
theorem sumN_def (l:List UInt8):sumN l=4294967295-crcN 4294967295 l:=by unfold sumN;rfl
theorem bitN_lt {c:Nat} (h:c<4294967296):bitN c<4294967296:=by
 unfold bitN;split
 ·exact Nat.xor_lt_two_pow (n:=32) (by omega) (by omega)
 ·omega
theorem stN_lt {c:Nat} (h:c<4294967296):∀k,stN k c<4294967296
 | 0=>h
 | k+1=>bitN_lt (stN_lt h k)
theorem byte32 {c:Nat} (h:c<4294967296) (x:UInt8):c ^^^ x.toNat<4294967296:=Nat.xor_lt_two_pow (n:=32) h (Nat.lt_trans x.toNat_lt (by decide))
theorem crcN_lt:∀ {c:Nat} (_:c<4294967296) (l:List UInt8),crcN c l<4294967296
 | _,h,[]=>h
 | c,h,x::l=>crcN_lt (c:=stN 8 (c ^^^ x.toNat)) (stN_lt (byte32 h x) 8) l
theorem crcN_snoc (c:Nat) (l:List UInt8) (x:UInt8):crcN c (l++[x])=stN 8 (crcN c l ^^^ x.toNat):=by simp [crcN]
theorem bitN_xor (a b:Nat):bitN (a ^^^ b)=bitN a ^^^ bitN b:=by
 have h:=@Nat.xor_mod_two_eq_one a b;unfold bitN;rw [Nat.xor_div_two];by_cases ha:a%2=1<;>by_cases hb:b%2=1
 ·rw [if_neg (by rw [h];simp [ha,hb]),if_pos ha,if_pos hb,Nat.xor_assoc,Nat.xor_comm 2197175160,Nat.xor_assoc (b / 2),Nat.xor_self,Nat.xor_zero]
 ·rw [if_pos (by rw [h];simp [ha,hb]),if_pos ha,if_neg hb,Nat.xor_assoc,Nat.xor_assoc,Nat.xor_comm (b / 2)]
 ·rw [if_pos (by rw [h];simp [ha,hb]),if_neg ha,if_pos hb,Nat.xor_assoc]
 ·rw [if_neg (by rw [h];simp [ha,hb]),if_neg ha,if_neg hb]
theorem stN_xor (a b:Nat):∀k,stN k (a ^^^ b)=stN k a ^^^ stN k b
 | 0=>rfl
 | k+1=>by unfold stN;rw [stN_xor a b k,bitN_xor]
theorem stN_add (a c:Nat):∀b,stN (a+b) c=stN b (stN a c)
 | 0=>rfl
 | b+1=>by show bitN (stN (a+b) c)=bitN (stN b (stN a c));rw [stN_add a c b]
theorem bitN_even (q:Nat):bitN (2*q)=q:=by unfold bitN;rw [if_neg (by omega)];omega
theorem split16 (c:Nat):c=(c / 16*16) ^^^ (c%16):=by
 apply Nat.eq_of_testBit_eq;intro i;rw [Nat.testBit_xor];have h2:(c / 16*16).testBit i=(decide (4≤i) && (c / 16).testBit (i-4)):=by
  have:c / 16*16=(c / 16) <<< 4:=by rw [Nat.shiftLeft_eq]
  rw [this,Nat.testBit_shiftLeft]
 have h3:(c%16).testBit i=(decide (i<4) && c.testBit i):=by
  have:c%16=c%2 ^ 4:=by rfl
  rw [this,Nat.testBit_mod_two_pow]
 have h4:(c / 16).testBit (i-4)=c.testBit (4+(i-4)):=by
  have:c / 16=c >>> 4:=by rw [Nat.shiftRight_eq_div_pow]
  rw [this,Nat.testBit_shiftRight]
 rw [h2,h3,h4];by_cases hi:4≤i
 ·rw [show 4+(i-4)=i by omega];simp [hi,Nat.not_lt.2 hi]
 ·simp [hi,Nat.not_le.1 hi]
theorem stN_four (c:Nat):stN 4 c=c / 16 ^^^ stN 4 (c%16):=by
 have h:stN 4 (c / 16*16)=c / 16:=by
  show bitN (bitN (bitN (bitN (c / 16*16))))=_;rw [show c / 16*16=2*(2*(2*(2*(c / 16)))) by omega,bitN_even,bitN_even,bitN_even,bitN_even]
 conv=>lhs;rw [split16 c,stN_xor,h]
theorem and15 (c:Nat):c &&& 15=c%16:=Nat.and_two_pow_sub_one_eq_mod c 4
def tabN:List Nat:=(List.range 16).map (stN 4)
theorem tabN_at {i:Nat} (h:i<16):tabN[i]? = some (stN 4 i):=by unfold tabN;simp [h]
@[reducible] def w32 (n:Nat):Value:=.int .u32 ((n:Nat):Int)
theorem four_step {c:Nat} {q r:Nat} (hq:q=c / 2 ^ 4) (hr:r=stN 4 (c &&& 15)):q ^^^ r=stN 4 c:=by subst hq hr;rw [and15,←stN_four]
theorem foldl_snoc {f:Nat→UInt8→Nat} (p:Nat) (l:List UInt8) (x:UInt8):(l++[x]).foldl f p=f (l.foldl f p) x:=by rw [List.foldl_append];rfl
def nextB (p:Nat) (x:UInt8):Nat:=(p ^^^ x.toNat)*1099511628211%18446744073709551616
theorem nextB_lt (p:Nat) (x:UInt8):nextB p x<18446744073709551616:=by unfold nextB;exact Nat.mod_lt _ (by decide)
def nextN (p:Nat) (l:List UInt8):Nat:=l.foldl nextB p
theorem nextN_snoc (p:Nat) (l:List UInt8) (x:UInt8):nextN p (l++[x])=nextB (nextN p l) x:=foldl_snoc p l x
theorem nextN_lt {p:Nat} (hp:p<18446744073709551616) (l:List UInt8):nextN p l<18446744073709551616:=by
 rcases List.eq_nil_or_concat l with rfl | ⟨m,x,rfl⟩
 ·exact hp
 ·rw [List.concat_eq_append,nextN_snoc];exact nextB_lt _ _
def sealN (l:List UInt8):List UInt8:=l++[UInt8.ofNat (sumN l),UInt8.ofNat (sumN l / 2 ^ 8),UInt8.ofNat (sumN l / 2 ^ 16),UInt8.ofNat (sumN l / 2 ^ 24)]
theorem table_any {h:Heap} :
  HC Tryz.prog 202 #[] h (fun v h'=>v=.agg (tabN.map w32).toArray∧Ext h h'):=by
 have ok:=Hp.nil h none_;refine HC.go Tryz.func202 26 ?_;refine .s<|.a' 0 (.alA T.zr271 ok) ?_;rintro _ η1 ⟨pb1,rfl,ok,xe⟩;refine .nil ?_;refine .s<|.a' 1 (.alA T.zr271 ok) ?_;rintro _ η2 ⟨pb2,rfl,ok,xe⟩;refine .nil ?_;refine .seq<|.s<|.z .mvI<|.nil<|.block fun K0 hK0=>.loop (fun m s hh=>∃(i:Nat),Has s [(0,.pointer (some ⟨pb1,0,none⟩)),(1,.pointer (some ⟨pb2,0,none⟩)),(5,.int .i64 (i:Int))]∧Hp h none_ [boxI pb2 271 (((List.range i).map (stN 4)++List.replicate (16-i) 0).map w32),boxI pb1 271 [.int .u32 0,.int .u32 0,.int .u32 0,.int .u32 0,.int .u32 0,.int .u32 0,.int .u32 0,.int .u32 0,.int .u32 0,.int .u32 0,.int .u32 0,.int .u32 0,.int .u32 0,.int .u32 0,.int .u32 0,.int .u32 0]] [] hh∧i≤16∧m=16-i) ?_ ?_
 ·exact ⟨_,0,⟨rfl,rfl,rfl,trivial⟩,ok.n1.n1.bx (by rfl),Nat.zero_le _,rfl⟩
 rintro _ _ η3 ⟨i,hs,ok,hi,rfl⟩ J0 hJ0;refine .frame hs fun τ=>?_;refine .s<|.z .lss<|.nil<|.seq<|.cdr (fun C0=>?_) (fun C0=>?_)
 ·
  have hi16:i=16:=by omega
  subst hi16;refine .exit<|hK0 _ _<|.s<|.z (.ldb T.ag271 ok.m0 T.sz271)<|.ur' (.stW (vs:=tabN.map w32) T.sz271 ok.n1 (oneL rfl)) ?_;rintro η4 ⟨ok,cg⟩;refine .nil ?_;refine .ret ⟨.agg (tabN.map w32).toArray,Res.many (vs:=[.agg (tabN.map w32).toArray]) rfl ⟨⟨_,rfl,load_ag T.ag271 ok.m0 T.sz271⟩,trivial⟩ rfl,⟨rfl,ok.chg⟩⟩
 refine .skip<|.seq<|.block fun K1 hK1=>.s<|.z .mvI<|.z .asI<|.nil<|.s<|.z .mvI<|.z (.cvm T.in89 T.in3 (M:=4294967296) rfl rfl)<|.z .asI<|.nil<|.seq<|.s<|.z .mvI<|.nil<|.block fun K2 hK2=>.loop (fun m s hh=>∃(k cc:Nat),Has s [(0,.pointer (some ⟨pb1,0,none⟩)),(1,.pointer (some ⟨pb2,0,none⟩)),(2,.int .i64 (i:Int)),(3,.int .u32 (cc:Int)),(5,.int .i64 (i:Int)),(10,.int .i64 (k:Int))]∧Hp h none_ [boxI pb2 271 (((List.range i).map (stN 4)++List.replicate (16-i) 0).map w32),boxI pb1 271 [.int .u32 0,.int .u32 0,.int .u32 0,.int .u32 0,.int .u32 0,.int .u32 0,.int .u32 0,.int .u32 0,.int .u32 0,.int .u32 0,.int .u32 0,.int .u32 0,.int .u32 0,.int .u32 0,.int .u32 0,.int .u32 0]] [] hh∧k≤4∧cc=stN k i∧m=4-k) ?_ ?_
 ·exact ⟨_,0,_,⟨rfl,rfl,rfl,rfl,rfl,rfl,trivial⟩,ok.n1.n1,Nat.zero_le _,Nat.mod_eq_of_lt (by omega),rfl⟩
 rintro _ _ η5 ⟨k,cc,hs,ok,hk,hcc,rfl⟩ J1 hJ1;refine .frame hs fun τ=>?_;refine .s<|.z .lss<|.nil<|.seq<|.cdr (fun C1=>?_) (fun C1=>?_)
 ·
  have hk4:k=4:=by omega
  rw [hk4] at hcc;have hil:i<((List.range i).map (stN 4)++List.replicate (16-i) 0).length:=by simp;omega
  have hset:(((List.range i).map (stN 4)++List.replicate (16-i) 0).set i cc)=(List.range (i+1)).map (stN 4)++List.replicate (16-(i+1)) 0:=by
   rw [hcc,List.set_append_right _ _ (by simp),show 16-i=16-(i+1)+1 by omega,List.replicate_succ,List.range_succ];simp
  refine .exit<|hK2 _ _<|.r<|.z .mvI<|.z .mvI<|.z (.ixa i T.ar271 T.sz89)<|.ur' (.sa (f:=w32) cc T.sz89 ok (q:=i) hil) ?_;rintro η6 ⟨ok,cg⟩;refine .nil ?_;refine .end<|hK1 _ _<|.r<|.z .add<|.z .mvI<|.nil<|.end<|hJ0 _ _ _ ⟨i+1,⟨rfl,rfl,rfl,trivial⟩,ok.n1.n1.bx (by rw [hset]),by omega,rfl⟩ (by omega)
 have hcl:cc<4294967296:=by rw [hcc];exact stN_lt (by omega) k
 have ha1:cc &&& 1=cc%2:=Nat.and_one_is_mod cc;refine .skip<|.seq<|.block fun K3 hK3=>.s<|.z .mvI<|.z (.band (M:=4294967296) rfl rfl (b:=1) (ha:=by omega))<|.z .asI<|.nil<|.s<|.z .mvI<|.z (.shrn (M:=4294967296) rfl (b:=1))<|.z .asI<|.nil<|.s<|.z .mvI<|.z .eql<|.nil<|.cd (fun C2=>?_) (fun C2=>?_)
 ·
  have hnx:cc / 2 ^ 1 ^^^ 2197175160=stN (k+1) i:=by show _=bitN (stN k i);rw [←hcc];unfold bitN;rw [if_pos (by omega)]
  refine .r<|.z .mvI<|.z (.bxor (M:=4294967296) rfl rfl (b:=2197175160))<|.z .asI<|.nil<|.end<|hK3 _ _<|.r<|.z .add<|.z .mvI<|.nil<|.end<|hJ1 _ _ _ ⟨k+1,_,⟨rfl,rfl,rfl,rfl,rfl,rfl,trivial⟩,ok.n1.n1,by omega,hnx,rfl⟩ (by omega)
 have hnx:cc / 2 ^ 1=stN (k+1) i:=by show _=bitN (stN k i);rw [←hcc];unfold bitN;rw [if_neg (by omega)]
 refine .skip<|.end<|hK3 _ _<|.r<|.z .add<|.z .mvI<|.nil<|.end<|hJ1 _ _ _ ⟨k+1,_,⟨rfl,rfl,rfl,rfl,rfl,rfl,trivial⟩,ok.n1.n1,by omega,hnx,rfl⟩ (by omega)
theorem and15_lt (c:Nat):c &&& 15<16:=by rw [and15];omega
theorem sum_any {h:Heap} {F E:Nat→Prop} {a:Option Addr} {c:Nat} {L:List (List UInt8)} (hl:RdL h F E (a,L.length,c) L) :
  HC Tryz.prog 173 #[.slice a L.length c] h (fun v h'=>v=.int .u32 ((sumN L.flatten:Nat):Int)∧Ext h h'):=by
 have hc2:=hl.m;have hc1:L.length≤c:=hl.c;simp only at hc2;have ok:=(Hp.nil h none_).arg hl;refine HC.go Tryz.func173 44 ?_;refine .s<|.z .asI<|.nil<|.s<|.c' 9 .func table_any ?_;rintro _ η1 ⟨rfl,hx⟩;have ok:=ok.ext hx;refine .a' 3 (.alA T.zr271 ok) ?_;rintro _ η2 ⟨pb1,rfl,ok,xe⟩;refine .ur' (.stW (vs:=tabN.map w32) T.sz271 ok (oneL rfl)) ?_;rintro η3 ⟨ok,cg⟩;refine .nil ?_;refine .s<|.z .asI<|.nil<|.seq<|.s<|.z .mvS<|.z (.len T.el28)<|.z .mvI<|.nil<|.block fun K0 hK0=>.loop (fun m s hh=>∃(i cc:Nat),Has s [(3,.pointer (some ⟨pb1,0,none⟩)),(4,.int .u32 (cc:Int)),(10,.slice a L.length c),(11,.int .i64 (L.length:Int)),(12,.int .i64 (i:Int))]∧Hp h none_ [boxI pb1 271 (tabN.map w32)] [rdI (fun j=>F j∧j<h.size) (fun j=>E j∧j<h.size) (a,L.length,c) L] hh∧i≤L.length∧cc=crcN 4294967295 (L.take i).flatten∧m=L.length-i) ?_ ?_
 ·exact ⟨_,0,4294967295,⟨rfl,rfl,rfl,rfl,rfl,trivial⟩,ok,Nat.zero_le _,rfl,rfl⟩
 rintro _ _ η4 ⟨i,cc,hs,ok,hi,hcc,rfl⟩ J0 hJ0;refine .frame hs fun τ=>?_;refine .s<|.z .lss<|.nil<|.seq<|.cdr (fun C0=>?_) (fun C0=>?_)
 ·
  have hil:i=L.length:=by omega
  rw [hil,List.take_length] at hcc;have hcl:cc<4294967296:=by rw [hcc];exact crcN_lt (by decide) _
  refine .exit<|hK0 _ _<|.s<|.z .mvI<|.z (.cpl (M:=4294967296) rfl rfl)<|.z .asI<|.nil<|.ret ⟨.int .u32 (((4294967295-cc):Nat):Int),Res.one rfl rfl,⟨by rw [hcc,sumN_def],ok.chg⟩⟩
 have hil:i<L.length:=by omega
 refine .skip<|.seq<|.block fun K1 hK1=>.s<|?_;obtain ⟨bb1,oo1,rfl,fb1⟩:=ok.r0.pos (by omega);refine .z (.ix1 i T.el28 T.sz44)<|?_;obtain ⟨ya1,yc1,he1,hr1⟩:=ok.r0.row (i:=i) (by omega);have ok:=ok.d0 (rdI (fun j=>E j∧j<h.size) (fun j=>E j∧j<h.size) (ya1,L[i].length,yc1) (L[i])) hr1 (fun _ h=>.inr (h.elim id id));refine .z (.ld T.ag44 he1)<|.z .asS<|.nil<|.seq<|?_;have hrc:L[i].length≤_:=ok.r0.c;have hrm:=ok.r0.m;simp only at hrc hrm;refine .r<|.z .mvS<|.z (.len T.el44)<|.z .mvI<|.nil<|.block fun K2 hK2=>.loop (fun m s hh=>∃(j cc:Nat),Has s [(3,.pointer (some ⟨pb1,0,none⟩)),(4,.int .u32 (cc:Int)),(10,.slice (some ⟨bb1,oo1,none⟩) L.length c),(11,.int .i64 (L.length:Int)),(12,.int .i64 (i:Int)),(16,.slice ya1 (L[i].length) yc1),(17,.int .i64 ((L[i].length:Nat):Int)),(18,.int .i64 (j:Int))]∧Hp h none_ [boxI pb1 271 (tabN.map w32)] [rdI (fun j=>E j∧j<h.size) (fun j=>E j∧j<h.size) (ya1,L[i].length,yc1) (L[i]),rdI (fun j=>F j∧j<h.size) (fun j=>E j∧j<h.size) (some ⟨bb1,oo1,none⟩,L.length,c) L] hh∧j≤L[i].length∧cc=crcN 4294967295 ((L.take i).flatten++L[i].take j)∧m=L[i].length-j) ?_ ?_
 ·exact ⟨_,0,_,⟨rfl,rfl,rfl,rfl,rfl,rfl,rfl,rfl,trivial⟩,ok,Nat.zero_le _,by simp [hcc],rfl⟩
 rintro _ _ η5 ⟨j,cc,hs,ok,hj,hcc,rfl⟩ J1 hJ1;refine .frame hs fun τ=>?_;refine .s<|.z .lss<|.nil<|.seq<|.cdr (fun C1=>?_) (fun C1=>?_)
 ·
  have hjl:j=L[i].length:=by omega
  rw [hjl,List.take_length,←flat_snoc hil] at hcc;refine .exit<|hK2 _ _<|.end<|hK1 _ _<|.r<|.z .add<|.z .mvI<|.nil<|.end<|hJ0 _ _ _ ⟨i+1,_,⟨rfl,rfl,rfl,rfl,rfl,trivial⟩,ok.tR,by omega,hcc,rfl⟩ (by omega)
 have hjl:j<L[i].length:=by omega
 have hcl:cc<4294967296:=by rw [hcc];exact crcN_lt (by decide) _
 have hxl:=byte_lt L[i][j];have hyl:=byte32 hcl L[i][j];have hs1:=four_step (c:=cc ^^^ L[i][j].toNat) rfl rfl;have hzl:=stN_lt hyl 4;have hs2:=four_step (c:=stN 4 (cc ^^^ L[i][j].toNat)) rfl rfl;have hw1:=stN_lt (c:=(cc ^^^ L[i][j].toNat) &&& 15) (by have:=and15_lt (cc ^^^ L[i][j].toNat);omega) 4;have hw2:=stN_lt (c:=stN 4 (cc ^^^ L[i][j].toNat) &&& 15) (by have:=and15_lt (stN 4 (cc ^^^ L[i][j].toNat));omega) 4;have hs3:stN 8 (cc ^^^ L[i][j].toNat)=stN 4 (stN 4 (cc ^^^ L[i][j].toNat)):=stN_add 4 _ 4;have hsn:crcN 4294967295 ((L.take i).flatten++L[i].take (j+1))=stN 4 (stN 4 (cc ^^^ L[i][j].toNat)):=by rw [take_next hjl,←List.append_assoc,crcN_snoc,←hcc,hs3]
 refine .skip<|.seq<|.block fun K3 hK3=>.s<|?_;obtain ⟨bb2,oo2,rfl,fb2⟩:=ok.r0.pos (by omega);refine .z (.ix1 j T.el44 T.sz5)<|.z (.ld T.ag5 (ok.r0.u8 (i:=j) (by omega)))<|.z .asI<|.nil<|.s<|.z .mvI<|.z .mvI<|.z (.cvs T.in89 T.in5 (M:=4294967296) rfl rfl)<|.z (.bxor (M:=4294967296) rfl rfl)<|.z .asI<|.nil<|.s<|.z .mvI<|.z (.shrn (M:=4294967296) rfl (b:=4))<|.z .mvI<|.z (.band (M:=4294967296) rfl rfl (b:=15))<|.z (.ixa ((cc ^^^ (L[i])[j].toNat) &&& 15) T.ar271 T.sz89 (hi:=by (have:=and15_lt (cc ^^^ L[i][j].toNat);omega)))<|.z (.ldx (o:=0+((cc ^^^ (L[i])[j].toNat) &&& 15)) (v:=.int .u32 ((stN 4 ((cc ^^^ (L[i])[j].toNat) &&& 15):Nat):Int)) T.ag89 ok.m0 (hv:=by rw [Nat.zero_add,List.getElem?_map,tabN_at (and15_lt _)];rfl))<|.z (.bxor (M:=4294967296) rfl rfl (b:=(stN 4 ((cc ^^^ (L[i])[j].toNat) &&& 15))) (hb:=by exact hw1))<|?_;rw [show (((cc ^^^ (L[i])[j].toNat) / 2 ^ 4) ^^^ (stN 4 ((cc ^^^ (L[i])[j].toNat) &&& 15)))=stN 4 (cc ^^^ L[i][j].toNat) from hs1];refine .z .asI<|.nil<|.r<|.z .mvI<|.z (.shrn (M:=4294967296) rfl (b:=4))<|.z .mvI<|.z (.band (M:=4294967296) rfl rfl (b:=15))<|.z (.ixa (stN 4 (cc ^^^ L[i][j].toNat) &&& 15) T.ar271 T.sz89 (hi:=by (have:=and15_lt (stN 4 (cc ^^^ L[i][j].toNat));omega)))<|.z (.ldx (o:=0+(stN 4 (cc ^^^ L[i][j].toNat) &&& 15)) (v:=.int .u32 ((stN 4 (stN 4 (cc ^^^ L[i][j].toNat) &&& 15):Nat):Int)) T.ag89 ok.m0 (hv:=by rw [Nat.zero_add,List.getElem?_map,tabN_at (and15_lt _)];rfl))<|.z (.bxor (M:=4294967296) rfl rfl (b:=(stN 4 (stN 4 (cc ^^^ L[i][j].toNat) &&& 15))) (hb:=by exact hw2))<|?_;rw [show ((stN 4 (cc ^^^ L[i][j].toNat) / 2 ^ 4) ^^^ (stN 4 (stN 4 (cc ^^^ L[i][j].toNat) &&& 15)))=stN 4 (stN 4 (cc ^^^ L[i][j].toNat)) from hs2];refine .z .asI<|.nil<|.end<|hK3 _ _<|.r<|.z .add<|.z .mvI<|.nil<|.end<|hJ1 _ _ _ ⟨j+1,_,⟨rfl,rfl,rfl,rfl,rfl,rfl,rfl,rfl,trivial⟩,ok,by omega,hsn.symm,rfl⟩ (by omega)
theorem next_any {h:Heap} {F E:Nat→Prop} {a:Option Addr} {c p:Nat} {l:List UInt8} (hp:p<18446744073709551616) (hl:RdL h F E (a,l.length,c) l) :
  HC Tryz.prog 222 #[.int .u64 (p:Int),.slice a l.length c] h (fun v h'=>v=.int .u64 ((nextN p l:Nat):Int)∧h'=h):=by
 have hc2:=hl.m;have hc1:l.length≤c:=hl.c;simp only at hc2;refine HC.go Tryz.func222 20 ?_;refine .s<|.z .asI<|.nil<|.seq<|.s<|.z .mvS<|.z (.len T.el44)<|.z .mvI<|.nil<|.block fun K0 hK0=>.loop (fun m s hh=>∃(i q:Nat),Has s [(0,.int .u64 (q:Int)),(7,.slice a l.length c),(8,.int .i64 (l.length:Int)),(9,.int .i64 (i:Int))]∧h=hh∧i≤l.length∧q=nextN p (l.take i)∧m=l.length-i) ?_ ?_
 ·exact ⟨_,0,p,⟨rfl,rfl,rfl,rfl,trivial⟩,rfl,Nat.zero_le _,rfl,rfl⟩
 rintro _ _ _ ⟨i,q,hs,rfl,hi,hq,rfl⟩ J0 hJ0;refine .frame hs fun τ=>?_;refine .s<|.z .lss<|.nil<|.seq<|.cdr (fun C0=>?_) (fun C0=>?_)
 ·
  have hil:i=l.length:=by omega
  rw [hil,List.take_length] at hq;refine .exit<|hK0 _ _<|.s<|.z .mvI<|.z .asI<|.nil<|.ret ⟨.int .u64 (q:Int),Res.one rfl rfl,⟨by rw [hq],rfl⟩⟩
 have hil:i<l.length:=by omega
 have hql:q<18446744073709551616:=by rw [hq];exact nextN_lt hp _
 have hxl:=byte_lt l[i];have hsn:nextN p (l.take (i+1))=nextB q l[i]:=by rw [take_next hil,nextN_snoc,hq]
 refine .skip<|.seq<|.block fun K1 hK1=>.s<|?_;obtain ⟨bb1,oo1,rfl,fb1⟩:=hl.pos (by omega);refine .z (.ix1 i T.el44 T.sz5)<|.z (.ld T.ag5 (hl.u8 (i:=i) (by omega)))<|.z .asI<|.nil<|.r<|.z .mvI<|.z .mvI<|.z (.cvs T.in130 T.in5 (M:=18446744073709551616) rfl rfl)<|.z (.bxor (M:=18446744073709551616) rfl rfl)<|.z (.muln (M:=18446744073709551616) rfl rfl (b:=1099511628211))<|.z .asI<|.nil<|.end<|hK1 _ _<|.r<|.z .add<|.z .mvI<|.nil<|.end<|hJ0 _ _ _ ⟨i+1,_,⟨rfl,rfl,rfl,rfl,trivial⟩,rfl,by omega,hsn.symm,rfl⟩ (by omega)
structure Fr where
 page:Int
 commit:Int
 b:List UInt8
 deriving DecidableEq
def okSz (n:Nat):Bool:=n == 256 || n == 512 || n == 1024 || n == 2048 || n == 4096
def okF (f:Fr):Bool:=decide (1≤f.page∧f.page≤1048576∧0≤f.commit∧f.commit≤1048576) && okSz f.b.length
def linkN (p:Nat) (f:Fr):Nat:=nextN p (fixedN f.page.toNat 4++fixedN f.commit.toNat 4++f.b)
def putN (p:Nat) (f:Fr):List UInt8:=fixedN f.page.toNat 4++fixedN f.commit.toNat 4++fixedN (linkN p f) 8++f.b
def headN (size salt:Nat):List UInt8:=sealN ([116,111,109,101]++fixedN size 4++fixedN salt 8)
def headOk (b:List UInt8):Bool:=okSz (rdN b 4 4) && decide (headN (rdN b 4 4) (rdN b 8 8)=b.take 20)
def firstN (b:List UInt8):Nat:=nextN (rdN b 8 8) (b.take 20)
theorem beN_lt8 (l:List UInt8) (h:l.length≤8):beN l<18446744073709551616:=Nat.lt_of_lt_of_le (beN_lt l) (Nat.le_trans (pow256 h) (Nat.le_of_eq (by rfl)))
theorem beN_lt4 (l:List UInt8) (h:l.length≤4):beN l<4294967296:=Nat.lt_of_lt_of_le (beN_lt l) (Nat.le_trans (pow256 h) (Nat.le_of_eq (by rfl)))
theorem rdN_lt8 (b:List UInt8) (p:Nat):rdN b p 8<18446744073709551616:=beN_lt8 _ (by simp;omega)
theorem rdN_lt4 (b:List UInt8) (p:Nat):rdN b p 4<4294967296:=beN_lt4 _ (by simp;omega)
theorem fixedN_succ (n k:Nat):fixedN n (k+1)=fixedN (n / 256) k++[UInt8.ofNat n]:=by
 unfold fixedN;rw [List.range_succ,List.map_append];congr 1
 ·apply List.map_congr_left;intro j hj;rw [List.mem_range] at hj;rw [Nat.div_div_eq_div_mul,←Nat.pow_succ'];congr 3;omega
 ·simp
theorem beN_fixedN:∀(k n:Nat),beN (fixedN n k)=n%256 ^ k
 | 0,n=>by simp [fixedN,beN,Nat.mod_one]
 | k+1,n=>by
  rw [fixedN_succ,beN_snoc,beN_fixedN k,Nat.pow_succ',Nat.mod_mul];simp;omega
theorem beN_fixed {k n:Nat} (h:n<256 ^ k):beN (fixedN n k)=n:=by rw [beN_fixedN,Nat.mod_eq_of_lt h]
theorem sealN_len (l:List UInt8):(sealN l).length=l.length+4:=by simp [sealN]
theorem headN_len (size salt:Nat):(headN size salt).length=20:=by simp [headN,sealN_len,fixedN_len]
theorem putN_len (p:Nat) (f:Fr):(putN p f).length=16+f.b.length:=by simp [putN,fixedN_len];omega
theorem rdN_app {x y z:List UInt8} {k:Nat} (h:y.length=k):rdN (x++(y++z)) x.length k=beN y:=by unfold rdN;rw [List.drop_left,List.take_left' h]
theorem okF_iff {f:Fr} : okF f=true↔(1≤f.page∧f.page≤1048576∧0≤f.commit∧f.commit≤1048576)∧okSz f.b.length=true:=by simp [okF]
theorem sumN_lt (l:List UInt8):sumN l<4294967296:=by rw [sumN_def];omega
def footN (l:List UInt8):List UInt8:=[UInt8.ofNat (sumN l),UInt8.ofNat (sumN l / 2 ^ 8),UInt8.ofNat (sumN l / 2 ^ 16),UInt8.ofNat (sumN l / 2 ^ 24)]
theorem footN_map (l:List UInt8):[.int .u8 ((sumN l%256:Nat):Int),.int .u8 ((sumN l / 2 ^ 8%256:Nat):Int),.int .u8 ((sumN l / 2 ^ 16%256:Nat):Int),.int .u8 ((sumN l / 2 ^ 24%256:Nat):Int)]=(footN l).map bv:=by simp [footN,bv_ofNat]
theorem foot_any {h:Heap} {F E:Nat→Prop} {a:Option Addr} {c:Nat} {l:List UInt8} (hl:RdL h F E (a,l.length,c) l) :
  HC Tryz.prog 251 #[.slice a l.length c] h (fun v h'=>v=.agg #[.int .u8 ((sumN l%256:Nat):Int),.int .u8 ((sumN l / 2 ^ 8%256:Nat):Int),.int .u8 ((sumN l / 2 ^ 16%256:Nat):Int),.int .u8 ((sumN l / 2 ^ 24%256:Nat):Int)]∧Ext h h'):=by
 have hc2:=hl.m;have hc1:l.length≤c:=hl.c;simp only at hc2;have ok:=(Hp.nil h none_).arg hl;refine HC.go Tryz.func251 19 ?_;refine .s<|.a' 2 (.alA T.zr315 ok) ?_;rintro _ η1 ⟨pb1,rfl,ok,xe⟩;refine .nil ?_;refine .s<|.z .mvS<|.a' 5 (.lit [.tmp 4] (cs:=[.slice a l.length c]) T.el28 T.sz44 T.zr44 ok ⟨rfl,trivial⟩) ?_;rintro _ η2 ⟨pb2,rfl,ok,xe⟩;refine .c' 6 .func (sum_any (a:=some ⟨pb2,0,none⟩) (c:=1) (L:=[l]) (RdL.rows (v:=(some ⟨pb2,0,none⟩,1,1)) (xs:=[(a,l.length,c)]) (ls:=[l]) ok.m0 ⟨⟨_,_,ok.r0⟩,trivial⟩)) ?_;rintro _ η3 ⟨rfl,hx⟩;have ok:=ok.ext hx;rw [show (sumN ([l]).flatten)=sumN l from by simp];refine .z .asI<|.nil<|.seq<|?_;have hsl:=sumN_lt l;refine .r<|.z .mvI<|.z (.cvm T.in5 T.in89 (M:=256) rfl rfl)<|?_;generalize (sumN l%256)=g0;refine .z .mvI<|.z (.shrn (M:=4294967296) rfl (b:=8))<|.z (.cvm T.in5 T.in89 (M:=256) rfl rfl)<|?_;generalize ((sumN l / 2 ^ 8)%256)=g1;refine .z .mvI<|.z (.shrn (M:=4294967296) rfl (b:=16))<|.z (.cvm T.in5 T.in89 (M:=256) rfl rfl)<|?_;generalize ((sumN l / 2 ^ 16)%256)=g2;refine .z .mvI<|.z (.shrn (M:=4294967296) rfl (b:=24))<|.z (.cvm T.in5 T.in89 (M:=256) rfl rfl)<|?_;generalize ((sumN l / 2 ^ 24)%256)=g3;refine .z (.bdA #[.int .u8 (g0:Int),.int .u8 (g1:Int),.int .u8 (g2:Int),.int .u8 (g3:Int)] T.zr315 T.ar315 T.sz5 rfl)<|.ur' (.stW (vs:=[.int .u8 (g0:Int),.int .u8 (g1:Int),.int .u8 (g2:Int),.int .u8 (g3:Int)]) T.sz315 ok.n1 (oneL rfl)) ?_;rintro η4 ⟨ok,cg⟩;refine .nil ?_;refine .ret ⟨.agg #[.int .u8 (g0:Int),.int .u8 (g1:Int),.int .u8 (g2:Int),.int .u8 (g3:Int)],Res.many (vs:=[.agg #[.int .u8 (g0:Int),.int .u8 (g1:Int),.int .u8 (g2:Int),.int .u8 (g3:Int)]]) rfl ⟨⟨_,rfl,load_ag T.ag315 ok.m0 T.sz315⟩,trivial⟩ rfl,⟨rfl,ok.chg⟩⟩
theorem seal_any {h:Heap} {F E:Nat→Prop} {a:Option Addr} {c:Nat} {l:List UInt8} (hl:RdL h F E (a,l.length,c) l) (hN:l.length≤1000000000) :
  HC Tryz.prog 243 #[.slice a l.length c] h (fun v h'=>Own h h' 1 5 v ((sealN l).map bv)):=by
 have hc2:=hl.m;have hc1:l.length≤c:=hl.c;simp only at hc2;have ok:=(Hp.nil h none_).arg hl;refine HC.go Tryz.func243 14 ?_;refine .s<|.z .asS<|.nil<|.s<|.z .mvS<|.c' 5 .func (foot_any (a:=a) (c:=c) (l:=l) ok.r0) ?_;rintro _ η1 ⟨rfl,hx⟩;have ok:=ok.ext hx;refine .a' 3 (.alA T.zr315 ok) ?_;rintro _ η2 ⟨pb1,rfl,ok,xe⟩;refine .ur' (.stW (vs:=[.int .u8 ((sumN l%256:Nat):Int),.int .u8 ((sumN l / 2 ^ 8%256:Nat):Int),.int .u8 ((sumN l / 2 ^ 16%256:Nat):Int),.int .u8 ((sumN l / 2 ^ 24%256:Nat):Int)]) T.sz315 ok (oneL rfl)) ?_;rintro η3 ⟨ok,cg⟩;refine .nil ?_;refine .seq<|?_;have ok:=(ok.boxC (n:=4) (k:=1)).cx (footN_map l);refine .a 3 (fun fl hh=>cond fl True (Hp h none_ [capI 1 315 (some ⟨pb1,0,none⟩,4,4) ((footN l).map bv)] [rdI (fun j=>F j∧j<h.size) (fun j=>E j∧j<h.size) (a,l.length,c) l] hh)) mixed ?_;have hS:=ok;refine .g 0 false rfl 6 hS (fun _=>.mvS)<|.g 1 false rfl 7 hS (fun _=>.len T.el44)<|.g 2 false rfl 8 hS (fun _=>.add)<|.g 4 false rfl 10 hS (fun _=>.mvS)<|.g 6 false rfl 12 hS (fun _=>.slA T.ar315 T.sz5)<|.o1 3<|.a' true rfl 9 (.mks 0 (l.length+4) T.el44 T.sz5 T.by5 T.zr5 ok) ?_;rintro _ η4 ⟨pb2,rfl,ok,xe⟩;have ok:=ok.cx (ys:=(List.replicate 0 (0:UInt8)).map bv) (zeros8 _);refine ⟨trivial,?_⟩;refine .o1 5<|.a' true rfl 11 (.app (news:=l.map bv) T.el44 T.sz5 T.by5 T.zr5 ok (ok.r0).by bv_all (by simp only [List.length_map,List.length_append,List.length_take,List.length_cons,List.length_nil,List.length_replicate,List.length_range];omega)) ?_;rintro _ η5 ⟨ya1,yn1,yc1,rfl,ok,ap⟩;have ok:=ok.cx (ys:=((List.replicate 0 (0:UInt8))++l).map bv) (by simp [bv]);obtain rfl:yn1=((List.replicate 0 (0:UInt8))++l).length:=ok.lenB;refine ⟨trivial,?_⟩;refine .o1 7<|.a' true rfl 13 (.app (news:=(footN l).map bv) T.el44 T.sz5 T.by5 T.zr5 ok (ok.m1).sl bv_all (by simp [footN];omega)) ?_;rintro _ η6 ⟨ya2,yn2,yc2,rfl,ok,ap⟩;have ok:=ok.cx (ys:=((List.replicate 0 (0:UInt8))++l++(footN l)).map bv) (by simp [bv]);obtain rfl:yn2=((List.replicate 0 (0:UInt8))++l++(footN l)).length:=ok.lenB;refine ⟨trivial,?_⟩;refine .g 8 true rfl 2 trivial (fun _=>.asS)<|.e ?_;refine .ret ⟨.slice ya2 (((List.replicate 0 (0:UInt8))++l++(footN l)).length) yc2,Res.one rfl rfl,by have:=ok.toOwn;simpa [sealN,footN] using this⟩
end Go.Proofs.YtndlpekckpdncaaGreat
namespace Go.Proofs.YtndlpekckpdncaaGreat
theorem and_pow:∀n,n<4097→256≤n→(n &&& (n-1)=0↔(n=256∨n=512∨n=1024∨n=2048∨n=4096)):=by decide +kernel
open Go Go.HL
def okZ (z:Int):Bool:=decide (z=256∨z=512∨z=1024∨z=2048∨z=4096)
theorem okZ_nat (n:Nat):okZ (n:Int)=okSz n:=by
 rw [Bool.eq_iff_iff];simp [okZ,okSz];omega
theorem tolist_eq (a b:List UInt8):((BA a).toList == (BA b).toList)=decide (a=b):=by rw [BA_toList,BA_toList];by_cases h:a=b<;>simp [h]
theorem same_any {h:Heap} {F E F' E':Nat→Prop} {a b:Option Addr} {c d:Nat} {l l2:List UInt8} (hl:RdL h F E (a,l.length,c) l) (hm:RdL h F' E' (b,l2.length,d) l2) :
  HC Tryz.prog 23 #[.slice a l.length c,.slice b l2.length d] h (fun v h'=>v=.bool (decide (l=l2))∧h'=h):=by
 have hc2:=hl.m;have hc1:l.length≤c:=hl.c;simp only at hc2;have hd2:=hm.m;have hd1:l2.length≤d:=hm.c;simp only at hd2;refine HC.go Tryz.func23 26 ?_;refine .s<|.z .asB<|.nil<|.seq<|.s<|.z .mvS<|.z (.len T.el44)<|.z .mvS<|.z (.len T.el44)<|.z .neq<|.nil<|.cd (fun C0=>?_) (fun C0=>?_)
 ·
  refine .s<|.z .asB<|.nil<|.ret ⟨.bool false,Res.one rfl rfl,⟨by rw [decide_eq_false];intro e;subst e;exact C0 rfl,rfl⟩⟩
 refine .skip<|.seq<|.s<|.z .asI<|.nil<|.block fun K0 hK0=>.loop (fun m s hh=>∃(i:Nat),Has s [(0,.slice a l.length c),(1,.slice b l2.length d),(5,.int .i64 (i:Int))]∧h=hh∧i≤l.length∧l.length=l2.length∧l.take i=l2.take i∧m=l.length-i) ?_ ?_
 ·exact ⟨_,0,⟨rfl,rfl,rfl,trivial⟩,rfl,Nat.zero_le _,by omega,rfl,rfl⟩
 rintro _ _ _ ⟨i,hs,rfl,hi,hlm,ht,rfl⟩ J0 hJ0;refine .frame hs fun τ=>?_;refine .seq<|.s<|.z .mvI<|.z .mvS<|.z (.len T.el44)<|.z .lss<|.nil<|.cdr (fun C1=>?_) (fun C1=>?_)
 ·
  have hil:i=l.length:=by omega
  have him:i=l2.length:=by omega
  refine .exit<|hK0 _ _<|.s<|.z .asB<|.nil<|.ret ⟨.bool true,Res.one rfl rfl,⟨by rw [decide_eq_true];have:=ht;rw [hil,List.take_length] at this;rw [this,←hil,him,List.take_length],rfl⟩⟩
 have hil:i<l.length:=by omega
 have him:i<l2.length:=by omega
 refine .skip<|.seq<|.block fun K1 hK1=>.seq<|.q (hm:=mixed)<|.z .mvS<|.z .mvI<|?_;obtain ⟨bb1,oo1,rfl,fb1⟩:=hl.pos (by omega);refine .z (.ix1 i T.el44 T.sz5)<|.z (.ld T.ag5 (hl.u8 (i:=i) (by omega)))<|.z .mvS<|.z .mvI<|?_;obtain ⟨bb2,oo2,rfl,fb2⟩:=hm.pos (by omega);refine .z (.ix1 i T.el44 T.sz5)<|.z (.ld T.ag5 (hm.u8 (i:=i) (by omega)))<|.z .neq<|.nil<|.cd (fun C2=>?_) (fun C2=>?_)
 ·
  refine .s<|.z .asB<|.nil<|.ret ⟨.bool false,Res.one rfl rfl,⟨by rw [decide_eq_false];intro e;subst e;exact C2 rfl,rfl⟩⟩
 refine .skip<|.end<|hK1 _ _<|.r<|.z .mvI<|.z .add<|.z .asI<|.nil<|.end<|hJ0 _ _ _ ⟨i+1,⟨rfl,rfl,rfl,trivial⟩,rfl,by omega,by omega,by rw [take_next hil,take_next him,ht];congr 2;exact UInt8.toNat_inj.1 (by omega),rfl⟩ (by omega)
theorem size_any {h:Heap} {z:Int} (hz : -9223372036854775808≤z∧z≤9223372036854775807) :
  HC Tryz.prog 242 #[.int .i64 z] h (fun v h'=>v=.bool (okZ z)∧h'=h):=by
 refine HC.go Tryz.func242 16 ?_;refine .s<|.z .asB<|.nil<|.s<|.z .mvI<|.z .geq<|.z .mvB<|.sd (fun G5=>?_) (fun G5=>?_)
 ·
  refine .z .mvI<|.z .leq<|.z .pkt<|.z .mvB<|.sd (fun G9=>?_) (fun G9=>?_)
  ·
   obtain ⟨q,rfl⟩:∃q:Nat,z=(q:Int):=⟨z.toNat,by omega⟩;have hq:=and_pow q (by omega) (by omega);refine .z .mvI<|.z .mvI<|.z .sub<|.z (.bandI q (q-1))<|.z .eql<|.z .pkt<|.z .asB<|.nil<|.ret ⟨.bool (decide ((((q &&& (q-1)):Nat):Int)=0)),Res.one rfl rfl,⟨by first | exact congrArg _ (by unfold okZ;rw [decide_eq_decide];omega) | exact congrArg _ (by unfold okZ;exact (decide_eq_false (by omega)).symm) | exact congrArg _ (by unfold okZ;exact (decide_eq_true (by omega)).symm),rfl⟩⟩
  refine .y<|.y<|.y<|.y<|.y<|.z .pkf<|.z .asB<|.nil<|.ret ⟨.bool false,Res.one rfl rfl,⟨by first | exact congrArg _ (by unfold okZ;rw [decide_eq_decide];omega) | exact congrArg _ (by unfold okZ;exact (decide_eq_false (by omega)).symm) | exact congrArg _ (by unfold okZ;exact (decide_eq_true (by omega)).symm),rfl⟩⟩
 refine .y<|.y<|.z .pkf<|.z .mvB<|.y<|.y<|.y<|.y<|.y<|.z .pkf<|.z .asB<|.nil<|.ret ⟨.bool false,Res.one rfl rfl,⟨by first | exact congrArg _ (by unfold okZ;rw [decide_eq_decide];omega) | exact congrArg _ (by unfold okZ;exact (decide_eq_false (by omega)).symm) | exact congrArg _ (by unfold okZ;exact (decide_eq_true (by omega)).symm),rfl⟩⟩
theorem okF_t {z1 z2:Int} {l:List UInt8} (h:1≤z1∧z1≤1048576∧0≤z2∧z2≤1048576):okF ⟨z1,z2,l⟩=okSz l.length:=by simp [okF,h]
theorem okF_f {z1 z2:Int} {l:List UInt8} (h:¬(1≤z1∧z1≤1048576∧0≤z2∧z2≤1048576)):okF ⟨z1,z2,l⟩=false:=by
 simp only [okF,decide_eq_false h,Bool.false_and]
theorem isframe_any {h:Heap} {F E:Nat→Prop} {z1 z2:Int} {a:Option Addr} {c:Nat} {l:List UInt8} (hl:RdL h F E (a,l.length,c) l) :
  HC Tryz.prog 225 #[.agg #[.int .i64 z1,.int .i64 z2,.slice a l.length c]] h (fun v h'=>v=.bool (okF ⟨z1,z2,l⟩)∧Ext h h'):=by
 have hc2:=hl.m;have hc1:l.length≤c:=hl.c;simp only at hc2;have ok:=(Hp.nil h none_).arg hl;refine HC.go Tryz.func225 27 ?_;refine .s<|.a' 1 (.bxA (cs:=[.int .i64 z1,.int .i64 z2,.slice a l.length c]) ok) ?_;rintro _ η1 ⟨pb1,rfl,ok,xe⟩;refine .z .asB<|.nil<|.s<|.z (.fa T.fd277_0)<|.z (.ldx T.ag3 ok.m0)<|.z .geq<|.z .mvB<|.sd (fun G6=>?_) (fun G6=>?_)
 ·
  refine .z (.fa T.fd277_0)<|.z (.ldx T.ag3 ok.m0)<|.z .leq<|.z .pkt<|.z .mvB<|.sd (fun G11=>?_) (fun G11=>?_)
  ·
   refine .z (.fa T.fd277_1)<|.z (.ldx T.ag3 ok.m0)<|.z .geq<|.z .pkt<|.z .mvB<|.sd (fun G16=>?_) (fun G16=>?_)
   ·
    refine .z (.fa T.fd277_1)<|.z (.ldx T.ag3 ok.m0)<|.z .leq<|.z .pkt<|.z .mvB<|.sd (fun G21=>?_) (fun G21=>?_)
    ·
     refine .z (.fa T.fd277_2)<|.z (.ldx T.ag44 ok.m0)<|.z (.len T.el44)<|.k 25 .func (size_any (z:=(l.length:Int)) (by omega))<|.z .pkt<|.z .asB<|.nil<|.ret ⟨.bool (okZ (l.length:Int)),Res.one rfl rfl,⟨by first | exact congrArg _ (by rw [okZ_nat,okF_t (by omega)]) | exact congrArg _ (okF_f (by omega)).symm,ok.chg⟩⟩
    refine .y<|.y<|.y<|.y<|.z .pkf<|.z .asB<|.nil<|.ret ⟨.bool false,Res.one rfl rfl,⟨by first | exact congrArg _ (by rw [okZ_nat,okF_t (by omega)]) | exact congrArg _ (okF_f (by omega)).symm,ok.chg⟩⟩
   refine .y<|.y<|.y<|.z .pkf<|.z .mvB<|.y<|.y<|.y<|.y<|.z .pkf<|.z .asB<|.nil<|.ret ⟨.bool false,Res.one rfl rfl,⟨by first | exact congrArg _ (by rw [okZ_nat,okF_t (by omega)]) | exact congrArg _ (okF_f (by omega)).symm,ok.chg⟩⟩
  refine .y<|.y<|.y<|.z .pkf<|.z .mvB<|.y<|.y<|.y<|.z .pkf<|.z .mvB<|.y<|.y<|.y<|.y<|.z .pkf<|.z .asB<|.nil<|.ret ⟨.bool false,Res.one rfl rfl,⟨by first | exact congrArg _ (by rw [okZ_nat,okF_t (by omega)]) | exact congrArg _ (okF_f (by omega)).symm,ok.chg⟩⟩
 refine .y<|.y<|.y<|.z .pkf<|.z .mvB<|.y<|.y<|.y<|.z .pkf<|.z .mvB<|.y<|.y<|.y<|.z .pkf<|.z .mvB<|.y<|.y<|.y<|.y<|.z .pkf<|.z .asB<|.nil<|.ret ⟨.bool false,Res.one rfl rfl,⟨by first | exact congrArg _ (by rw [okZ_nat,okF_t (by omega)]) | exact congrArg _ (okF_f (by omega)).symm,ok.chg⟩⟩
theorem four_any {h:Heap} {n:Nat} (hn:n<9223372036854775808) :
  HC Tryz.prog 244 #[.int .i64 (n:Int)] h (fun v h'=>Own h h' 1 5 v ((fixedN n 4).map bv)):=by
 have ok:=Hp.nil h none_;refine HC.go Tryz.func244 6 ?_;refine .s<|.z .asS<|.nil<|.s<|.z .mvI<|.z (.cvs T.in130 T.in3 (M:=18446744073709551616) rfl rfl)<|.c' 5 .func (fixed_any (n:=n) (size:=4) (by omega) (by omega) (by omega)) ?_;rintro _ η1 own;obtain ⟨ya1,yc1,rfl⟩:=own.formB;have ok:=ok.own own;refine .z .asS<|.nil<|.ret ⟨.slice ya1 ((fixedN n 4).length) yc1,Res.one rfl rfl,ok.toOwn⟩
theorem start_ok {h:Heap} {n salt:Nat} (hn:n<9223372036854775808) (hs:salt<18446744073709551616) (hk:okZ (n:Int)=true) :
  HC Tryz.prog 221 #[.int .i64 (n:Int),.int .u64 (salt:Int)] h (fun v h'=>∃w,v=.tuple #[w,.int .i64 0]∧Own h h' 1 5 w ((headN n salt).map bv)):=by
 have ok:=Hp.nil h none_;refine HC.go Tryz.func221 18 ?_;refine .s<|.z .asS<|.z .asI<|.nil<|.seq<|.s<|.z .mvI<|.k 7 .func (size_any (z:=(n:Int)) (by omega))<|.z .not<|.nil<|.cond (fun C0=>?_) (fun C0=>?_)
 ·
  rw [hk] at C0;exact absurd C0 (by decide)
 refine .skip<|.s<|.a' 9 (.lit [.const (.int .u8 116),.const (.int .u8 111),.const (.int .u8 109),.const (.int .u8 101)] (cs:=[.int .u8 116,.int .u8 111,.int .u8 109,.int .u8 101]) T.el44 T.sz5 T.zr5 ok ⟨rfl,rfl,rfl,rfl,trivial⟩) ?_;rintro _ η1 ⟨pb1,rfl,ok,xe⟩;have ok:=ok.cx (ys:=([116,111,109,101]:List UInt8).map bv) rfl;refine .a' 10 (.cvL T.el44 T.in5 ok) ?_;rintro _ η2 ⟨rfl,ok,cg⟩;refine .z .mvI<|.c' 12 .func (four_any (n:=n) (by omega)) ?_;rintro _ η3 own;obtain ⟨ya1,yc1,rfl⟩:=own.formB;have ok:=ok.own own;refine .z .mvI<|.c' 14 .func (fixed_any (n:=salt) (size:=8) (by omega) (by omega) (by omega)) ?_;rintro _ η4 own;obtain ⟨ya2,yc2,rfl⟩:=own.formB;have ok:=ok.own own;refine .a' 15 (.lit [.tmp 10,.tmp 12,.tmp 14] (cs:=[.slice (some ⟨pb1,0,none⟩) 4 4,.slice ya1 ((fixedN n 4).length) yc1,.slice ya2 ((fixedN salt 8).length) yc2]) T.el28 T.sz44 T.zr44 ok ⟨rfl,rfl,rfl,trivial⟩) ?_;rintro _ η5 ⟨pb2,rfl,ok,xe⟩;refine .c' 16 .func (njoin_any (a:=some ⟨pb2,0,none⟩) (c:=3) (L:=[[116,111,109,101],(fixedN n 4),(fixedN salt 8)]) (RdL.rows (v:=(some ⟨pb2,0,none⟩,3,3)) (xs:=[(some ⟨pb1,0,none⟩,4,4),(ya1,(fixedN n 4).length,yc1),(ya2,(fixedN salt 8).length,yc2)]) (ls:=[[116,111,109,101],(fixedN n 4),(fixedN salt 8)]) ok.m0 ⟨⟨_,_,(RdL.ofCapB (v:=(some ⟨pb1,0,none⟩,4,4)) (l:=[116,111,109,101]) ok.m3)⟩,⟨_,_,(RdL.ofCapB (v:=(ya1,(fixedN n 4).length,yc1)) (l:=(fixedN n 4)) ok.m2)⟩,⟨_,_,(RdL.ofCapB (v:=(ya2,(fixedN salt 8).length,yc2)) (l:=(fixedN salt 8)) ok.m1)⟩,trivial⟩) (by simp [fixedN_len]<;>omega)) ?_;rintro _ η6 own;obtain ⟨ya3,yc3,rfl⟩:=own.formB;have ok:=ok.own own;refine .c' 17 .func (seal_any (a:=ya3) (c:=yc3) (l:=([[116,111,109,101],(fixedN n 4),(fixedN salt 8)]).flatten) (RdL.ofCapB (v:=(ya3,(([[116,111,109,101],(fixedN n 4),(fixedN salt 8)]).flatten).length,yc3)) (l:=(([[116,111,109,101],(fixedN n 4),(fixedN salt 8)]).flatten)) ok.m0) (by simp [fixedN_len]<;>omega)) ?_;rintro _ η7 own;obtain ⟨ya4,yc4,rfl⟩:=own.formB;have ok:=ok.own own;refine .z .asS<|.z .asI<|.nil<|.ret ⟨.tuple #[.slice ya4 ((sealN (([[116,111,109,101],(fixedN n 4),(fixedN salt 8)]).flatten)).length) yc4,.int .i64 0],Res.two rfl rfl rfl,_,rfl,by have:=ok.toOwn;simpa [headN] using this⟩
theorem linkN_eq (p q:Nat) (r:Nat) (l:List UInt8):linkN r ⟨(p:Int),(q:Int),l⟩=nextN r (fixedN p 4++fixedN q 4++l):=rfl
theorem link_any {h:Heap} {F E:Nat→Prop} {p q r:Nat} {a:Option Addr} {c:Nat} {l:List UInt8} (hp:p<9223372036854775808) (hq:q<9223372036854775808) (hr:r<18446744073709551616) (hN:l.length≤100000000) (hl:RdL h F E (a,l.length,c) l) :
  HC Tryz.prog 224 #[.int .u64 (r:Int),.agg #[.int .i64 (p:Int),.int .i64 (q:Int),.slice a l.length c]] h (fun v h'=>v=.int .u64 ((linkN r ⟨(p:Int),(q:Int),l⟩:Nat):Int)∧Ext h h'):=by
 have hc2:=hl.m;have hc1:l.length≤c:=hl.c;simp only at hc2;have ok:=(Hp.nil h none_).arg hl;refine HC.go Tryz.func224 17 ?_;refine .s<|.a' 3 (.bxA (cs:=[.int .i64 (p:Int),.int .i64 (q:Int),.slice a l.length c]) ok) ?_;rintro _ η1 ⟨pb1,rfl,ok,xe⟩;refine .z .asI<|.nil<|.seq<|.a 13 (fun fl hh=>Hp h none_ [boxI pb1 277 [.int .i64 (p:Int),.int .i64 (q:Int),.slice a l.length c]] [rdI (fun j=>F j∧j<h.size) (fun j=>E j∧j<h.size) (a,l.length,c) l] hh) mixed ?_;have hS:=ok;refine .g 0 false rfl 5 hS (fun _=>.mvI)<|.g 1 false rfl 6 hS (fun _=>.fa T.fd277_0)<|.lw 2 false rfl 7 hS (fun _ _ hS=>.ldx T.ag3 hS.m0)<|.g 4 false rfl 9 hS (fun _=>.fa T.fd277_1)<|.lw 5 false rfl 10 hS (fun _ _ hS=>.ldx T.ag3 hS.m0)<|.g 7 false rfl 12 hS (fun _=>.fa T.fd277_2)<|.lw 8 false rfl 13 hS (fun _ _ hS=>.ldx T.ag44 hS.m0)<|.o1 3<|.c' false rfl 8 .func (four_any (n:=p) (by omega)) ?_;rintro _ η2 own;obtain ⟨ya1,yc1,rfl⟩:=own.formB;have ok:=ok.own own;refine ⟨ok.n1.k1,?_⟩;have hS:=ok.n1.k1;refine .o1 6<|.c' false rfl 11 .func (four_any (n:=q) (by omega)) ?_;rintro _ η3 own;obtain ⟨ya2,yc2,rfl⟩:=own.formB;have ok:=ok.own own;refine ⟨ok.n2.k1,?_⟩;have hS:=ok.n2.k1;refine .o1 9<|.a' false rfl 14 (.lit [.tmp 8,.tmp 11,.tmp 13] (cs:=[.slice ya1 ((fixedN p 4).length) yc1,.slice ya2 ((fixedN q 4).length) yc2,.slice a l.length c]) T.el28 T.sz44 T.zr44 ok ⟨rfl,rfl,rfl,trivial⟩) ?_;rintro _ η4 ⟨pb2,rfl,ok,xe⟩;refine ⟨ok.n3.k1,?_⟩;have hS:=ok.n3.k1;refine .o1 10<|.c' false rfl 15 .func (njoin_any (a:=some ⟨pb2,0,none⟩) (c:=3) (L:=[(fixedN p 4),(fixedN q 4),l]) (RdL.rows (v:=(some ⟨pb2,0,none⟩,3,3)) (xs:=[(ya1,(fixedN p 4).length,yc1),(ya2,(fixedN q 4).length,yc2),(a,l.length,c)]) (ls:=[(fixedN p 4),(fixedN q 4),l]) ok.m0 ⟨⟨_,_,(RdL.ofCapB (v:=(ya1,(fixedN p 4).length,yc1)) (l:=(fixedN p 4)) ok.m2)⟩,⟨_,_,(RdL.ofCapB (v:=(ya2,(fixedN q 4).length,yc2)) (l:=(fixedN q 4)) ok.m1)⟩,⟨_,_,ok.r0⟩,trivial⟩) (by simp [fixedN_len]<;>omega)) ?_;rintro _ η5 own;obtain ⟨ya3,yc3,rfl⟩:=own.formB;have ok:=ok.own own;refine ⟨ok.n4.k1,?_⟩;have hS:=ok.n4.k1;refine .o1 11<|.k false rfl 16 .func (next_any (by omega) (a:=ya3) (c:=yc3) (l:=([(fixedN p 4),(fixedN q 4),l]).flatten) (RdL.ofCapB (v:=(ya3,(([(fixedN p 4),(fixedN q 4),l]).flatten).length,yc3)) (l:=(([(fixedN p 4),(fixedN q 4),l]).flatten)) ok.m0)) hS<|.g 12 false rfl 4 hS (fun _=>.asI)<|.e ?_;refine .ret ⟨.int .u64 ((nextN r (([(fixedN p 4),(fixedN q 4),l]).flatten):Nat):Int),Res.one rfl rfl,⟨by rw [linkN_eq];simp,ok.chg⟩⟩
theorem put_ok {h:Heap} {F E:Nat→Prop} {p q r:Nat} {a:Option Addr} {c:Nat} {l:List UInt8} (hp:p<9223372036854775808) (hq:q<9223372036854775808) (hr:r<18446744073709551616) (hF:okF ⟨(p:Int),(q:Int),l⟩=true) (hN:l.length≤100000000) (hl:RdL h F E (a,l.length,c) l) :
  HC Tryz.prog 285 #[.int .u64 (r:Int),.agg #[.int .i64 (p:Int),.int .i64 (q:Int),.slice a l.length c]] h (fun v h'=>∃w,v=.tuple #[w,.int .u64 ((linkN r ⟨(p:Int),(q:Int),l⟩:Nat):Int),.int .i64 0]∧Own h h' 1 5 w ((putN r ⟨(p:Int),(q:Int),l⟩).map bv)):=by
 have hc2:=hl.m;have hc1:l.length≤c:=hl.c;simp only at hc2;have ok:=(Hp.nil h none_).arg hl;have hlk:linkN r ⟨(p:Int),(q:Int),l⟩<18446744073709551616:=nextN_lt hr _;refine HC.go Tryz.func285 27 ?_;refine .s<|.a' 3 (.bxA (cs:=[.int .i64 (p:Int),.int .i64 (q:Int),.slice a l.length c]) ok) ?_;rintro _ η1 ⟨pb1,rfl,ok,xe⟩;refine .z .asS<|.z .asI<|.z .asI<|.nil<|.seq<|.s<|.z (.ldb T.ag277 ok.m0 T.sz277)<|.c' 9 .func (isframe_any (z1:=(p:Int)) (z2:=(q:Int)) (a:=a) (c:=c) (l:=l) ok.r0) ?_;rintro _ η2 ⟨rfl,hx⟩;have ok:=ok.ext hx;refine .z .not<|.nil<|.cond (fun C0=>?_) (fun C0=>?_)
 ·
  rw [hF] at C0;exact absurd C0 (by decide)
 refine .skip<|.s<|.z .mvI<|.z (.ldb T.ag277 ok.m0 T.sz277)<|.c' 13 .func (link_any (p:=p) (q:=q) (r:=r) (by omega) (by omega) (by omega) (by omega) (a:=a) (c:=c) (l:=l) ok.r0) ?_;rintro _ η3 ⟨rfl,hx⟩;have ok:=ok.ext hx;refine .z .asI<|.nil<|.seq<|.a 16 (fun fl hh=>Hp h none_ [boxI pb1 277 [.int .i64 (p:Int),.int .i64 (q:Int),.slice a l.length c]] [rdI (fun j=>F j∧j<h.size) (fun j=>E j∧j<h.size) (a,l.length,c) l] hh) mixed ?_;have hS:=ok;refine .g 0 false rfl 14 hS (fun _=>.fa T.fd277_0)<|.lw 1 false rfl 15 hS (fun _ _ hS=>.ldx T.ag3 hS.m0)<|.g 3 false rfl 17 hS (fun _=>.fa T.fd277_1)<|.lw 4 false rfl 18 hS (fun _ _ hS=>.ldx T.ag3 hS.m0)<|.g 6 false rfl 20 hS (fun _=>.mvI)<|.g 8 false rfl 22 hS (fun _=>.fa T.fd277_2)<|.lw 9 false rfl 23 hS (fun _ _ hS=>.ldx T.ag44 hS.m0)<|.g 12 false rfl 26 hS (fun _=>.mvI)<|.o1 2<|.c' false rfl 16 .func (four_any (n:=p) (by omega)) ?_;rintro _ η4 own;obtain ⟨ya1,yc1,rfl⟩:=own.formB;have ok:=ok.own own;refine ⟨ok.n1.k1,?_⟩;have hS:=ok.n1.k1;refine .o1 5<|.c' false rfl 19 .func (four_any (n:=q) (by omega)) ?_;rintro _ η5 own;obtain ⟨ya2,yc2,rfl⟩:=own.formB;have ok:=ok.own own;refine ⟨ok.n2.k1,?_⟩;have hS:=ok.n2.k1;refine .o1 7<|.c' false rfl 21 .func (fixed_any (n:=(linkN r ⟨(p:Int),(q:Int),l⟩)) (size:=8) (by omega) (by omega) (by omega)) ?_;rintro _ η6 own;obtain ⟨ya3,yc3,rfl⟩:=own.formB;have ok:=ok.own own;refine ⟨ok.n3.k1,?_⟩;have hS:=ok.n3.k1;refine .o1 10<|.a' false rfl 24 (.lit [.tmp 16,.tmp 19,.tmp 21,.tmp 23] (cs:=[.slice ya1 ((fixedN p 4).length) yc1,.slice ya2 ((fixedN q 4).length) yc2,.slice ya3 ((fixedN (linkN r ⟨(p:Int),(q:Int),l⟩) 8).length) yc3,.slice a l.length c]) T.el28 T.sz44 T.zr44 ok ⟨rfl,rfl,rfl,rfl,trivial⟩) ?_;rintro _ η7 ⟨pb2,rfl,ok,xe⟩;refine ⟨ok.n4.k1,?_⟩;have hS:=ok.n4.k1;refine .o1 11<|.c' false rfl 25 .func (njoin_any (a:=some ⟨pb2,0,none⟩) (c:=4) (L:=[(fixedN p 4),(fixedN q 4),(fixedN (linkN r ⟨(p:Int),(q:Int),l⟩) 8),l]) (RdL.rows (v:=(some ⟨pb2,0,none⟩,4,4)) (xs:=[(ya1,(fixedN p 4).length,yc1),(ya2,(fixedN q 4).length,yc2),(ya3,(fixedN (linkN r ⟨(p:Int),(q:Int),l⟩) 8).length,yc3),(a,l.length,c)]) (ls:=[(fixedN p 4),(fixedN q 4),(fixedN (linkN r ⟨(p:Int),(q:Int),l⟩) 8),l]) ok.m0 ⟨⟨_,_,(RdL.ofCapB (v:=(ya1,(fixedN p 4).length,yc1)) (l:=(fixedN p 4)) ok.m3)⟩,⟨_,_,(RdL.ofCapB (v:=(ya2,(fixedN q 4).length,yc2)) (l:=(fixedN q 4)) ok.m2)⟩,⟨_,_,(RdL.ofCapB (v:=(ya3,(fixedN (linkN r ⟨(p:Int),(q:Int),l⟩) 8).length,yc3)) (l:=(fixedN (linkN r ⟨(p:Int),(q:Int),l⟩) 8)) ok.m1)⟩,⟨_,_,ok.r0⟩,trivial⟩) (by simp [fixedN_len]<;>omega)) ?_;rintro _ η8 own;obtain ⟨ya4,yc4,rfl⟩:=own.formB;have ok:=ok.own own;refine ⟨ok.n5.k1,?_⟩;have hS:=ok.n5.k1;refine .g 13 false rfl 4 hS (fun _=>.asS)<|.g 14 false rfl 5 hS (fun _=>.asI)<|.g 15 false rfl 6 hS (fun _=>.asI)<|.e ?_;refine .ret ⟨.tuple #[.slice ya4 ((([(fixedN p 4),(fixedN q 4),(fixedN (linkN r ⟨(p:Int),(q:Int),l⟩) 8),l]).flatten).length) yc4,.int .u64 ((linkN r ⟨(p:Int),(q:Int),l⟩:Nat):Int),.int .i64 0],Res.three rfl rfl rfl rfl,_,rfl,by have:=ok.toOwn;simpa [putN] using this⟩
theorem number_any {h:Heap} {F E:Nat→Prop} {r p k c:Nat} {a:Option Addr} {l:List UInt8} {v1 v2 v3 v4:Value} (hl:RdL h F E (a,l.length,c) l) (hb:(boxI r 275 [.slice a l.length c,v1,v2,v3,v4]).p h) (h1:1≤k) (h8:k≤8) (hp:p+k≤l.length) :
  HC Tryz.prog 220 #[.pointer (some ⟨r,0,none⟩),.int .i64 (p:Int),.int .i64 (k:Int)] h (fun v h'=>v=.int .u64 ((rdN l p k:Nat):Int)∧h'=h):=by
 have hc2:=hl.m;have hc1:l.length≤c:=hl.c;simp only at hc2;refine HC.go Tryz.func220 20 ?_;refine .s<|.z .asI<|.nil<|.s<|.z .mvP<|.z .nil<|.z (.fa T.fd275_0)<|.z (.ldx T.ag44 hb)<|.z .mvI<|.z .mvI<|.k 16 .func (read_any (p:=p) (size:=k) (a:=a) (c:=c) (l:=l) hl (by omega) (by omega) (by omega))<|.z .mvU<|.z .ex<|.z .ex<|.z .asI<|.z .asI<|.nil<|.s<|.z .mvI<|.z .asI<|.nil<|.ret ⟨.int .u64 (((rdN l p k):Nat):Int),Res.one rfl rfl,⟨rfl,rfl⟩⟩
theorem equal_any {h:Heap} {F E F' E':Nat→Prop} {a b:Option Addr} {c d:Nat} {l l2:List UInt8} (hl:RdL h F E (a,l.length,c) l) (hm:RdL h F' E' (b,l2.length,d) l2) :
  HC Tryz.prog 146 #[.slice a l.length c,.slice b l2.length d] h (fun v h'=>v=.bool (decide (l=l2))∧h'=h):=by
 refine HC.go Tryz.func146 10 ?_;refine .s<|.z .asB<|.nil<|.s<|.z .mvS<|.z (.bts T.el44 T.in5 T.st9 (hl).by)<|.z .mvS<|.z (.bts T.el44 T.in5 T.st9 (hm).by)<|.z .tEq<|.z .asB<|.nil<|.ret ⟨.bool ((BA l).toList == (BA l2).toList),Res.one rfl rfl,⟨by rw [tolist_eq],rfl⟩⟩
theorem head_ok {h:Heap} {F E:Nat→Prop} {r c:Nat} {a:Option Addr} {l:List UInt8} (hl:RdL h F E (a,l.length,c) l) (hb:(boxI r 275 [.slice a l.length c,.int .i64 0,.int .i64 0,.int .u64 0,.int .u64 0]).p h) (hd:∀j,F j∨E j→j≠r) (h20:20≤l.length) (hk:okZ ((rdN l 4 4:Nat):Int)=true) (hh:headN (rdN l 4 4) (rdN l 8 8)=l.take 20) :
  HC Tryz.prog 203 #[.pointer (some ⟨r,0,none⟩)] h (fun v h'=>v=.int .i64 0∧Chg (fun j=>j=r) h h'∧(boxI r 275 [.slice a l.length c,.int .i64 20,.int .i64 ((rdN l 4 4:Nat):Int),.int .u64 ((firstN l:Nat):Int),.int .u64 ((rdN l 8 8:Nat):Int)]).p h'):=by
 have hc2:=hl.m;have hc1:l.length≤c:=hl.c;simp only at hc2;have ok:=((Hp.nil h (fun j=>j=r)).arg hl).obj (boxI r 275 [.slice a l.length c,.int .i64 0,.int .i64 0,.int .u64 0,.int .u64 0]) hb (fun j e=>⟨e▸block_lt hb,e⟩) (by simp) (by
  intro b hm j e hj;rcases List.mem_cons.1 hm with rfl | hm
  ·exact hd j (hj.imp And.left And.left) e
  ·cases hm)
 have h8:=rdN_lt8 l 8;have h4:=rdN_lt4 l 4;refine HC.go Tryz.func203 60 ?_;refine .s<|.z .asI<|.nil<|.seq<|.s<|.z .mvP<|.z .nil<|.z (.fa T.fd275_0)<|.z (.ldx T.ag44 ok.m0)<|.z (.len T.el44)<|.z .lss<|.nil<|.cd (fun C0=>?_) (fun C0=>?_)
 ·
  omega
 refine .skip<|.s<|.z .mvP<|.z .nil<|.z (.fa T.fd275_0)<|.z (.ldx T.ag44 ok.m0)<|.z (.sl_h ((l.take 20).length) T.el44 T.sz5 (hb:=by (simp;omega)))<|?_;have ok:=ok.d0 (rdI (fun j=>F j∧j<h.size) (fun j=>E j∧j<h.size) (a,(l.take 20).length,c) (l.take 20)) ((ok.r0).pre (l2:=l.take 20) (List.take_prefix _ _)) (fun _ h=>h);refine .z .asS<|.nil<|.s<|.z .mvP<|.z .mvP<|.z .mvP<|.k 20 .func (number_any (p:=4) (k:=4) (l:=l) ok.r1 ok.m0 (by omega) (by omega) (by omega))<|.z (.cvi T.in3 T.in130)<|.z .mvP<|.k 23 .func (number_any (p:=8) (k:=8) (l:=l) ok.r1 ok.m0 (by omega) (by omega) (by omega))<|.z .nil<|.z (.fa T.fd275_2)<|.ur' (.stI T.sz3 ok) ?_;rintro η1 ⟨ok,cg⟩;refine .z .nil<|.z (.fa T.fd275_4)<|.ur' (.stI T.sz130 ok) ?_;rintro η2 ⟨ok,cg⟩;refine .nil ?_;refine .seq<|.a 8 (fun fl hh=>cond fl True (Hp h (fun j=>j=r) [boxI r 275 [.slice a l.length c,.int .i64 0,.int .i64 (((rdN l 4 4):Nat):Int),.int .u64 0,.int .u64 (((rdN l 8 8):Nat):Int)]] [rdI (fun j=>F j∧j<h.size) (fun j=>E j∧j<h.size) (a,(l.take 20).length,c) (l.take 20),rdI (fun j=>F j∧j<h.size) (fun j=>E j∧j<h.size) (a,l.length,c) l] hh)) mixed ?_;have hS:=ok;refine .g 0 false rfl 29 hS (fun _=>.mvP)<|.g 1 false rfl 30 hS (fun _=>.nil)<|.g 2 false rfl 31 hS (fun _=>.fa T.fd275_2)<|.l 3 false rfl 32 hS (fun _ hS=>.ldx T.ag3 hS.m0)<|.g 4 false rfl 33 hS (fun _=>.mvP)<|.g 5 false rfl 34 hS (fun _=>.nil)<|.g 6 false rfl 35 hS (fun _=>.fa T.fd275_4)<|.l 7 false rfl 36 hS (fun _ hS=>.ldx T.ag130 hS.m0)<|.o1 8<|.c' true rfl 37 .func (start_ok (n:=(rdN l 4 4)) (salt:=(rdN l 8 8)) (by omega) (by omega) (by assumption)) ?_;rintro _ η3 ⟨yw1,rfl,own⟩;obtain ⟨ya1,yc1,rfl⟩:=own.formB;have ok:=ok.own own;refine ⟨trivial,?_⟩;refine .g 9 true rfl 28 trivial (fun _=>.mvU)<|.g 10 true rfl 38 trivial (fun _=>.ex)<|.g 11 true rfl 39 trivial (fun _=>.ex)<|.g 12 true rfl 4 trivial (fun _=>.asS)<|.g 13 true rfl 5 trivial (fun _=>.asI)<|.e ?_;refine .seq<|.s<|.z .mvI<|.z .neq<|.z .mvB<|.sd (fun G42=>?_) (fun G42=>?_)
 ·
  omega
 refine .z .mvS<|.z .mvS<|.k 45 .func (equal_any (a:=ya1) (c:=yc1) (l:=(headN (rdN l 4 4) (rdN l 8 8))) (b:=a) (d:=c) (l2:=l.take 20) (RdL.ofCapB (v:=(ya1,(headN (rdN l 4 4) (rdN l 8 8)).length,yc1)) (l:=(headN (rdN l 4 4) (rdN l 8 8))) ok.m0) ok.r0)<|.z .notd<|.z .pkf<|.nil<|.cd (fun C1=>?_) (fun C1=>?_)
 ·
  exact absurd C1 (by simpa using hh)
 refine .skip<|.s<|.z .mvP<|.z .nil<|.z (.fa T.fd275_1)<|.ur' (.stI T.sz3 ok.n1) ?_;rintro η4 ⟨ok,cg⟩;refine .nil ?_;refine .s<|.z .mvP<|.z .mvP<|.z .nil<|.z (.fa T.fd275_4)<|.z (.ldx T.ag130 ok.m0)<|.z .mvS<|.k 57 .func (next_any (by omega) (a:=a) (c:=c) (l:=l.take 20) ok.r0)<|.z .nil<|.z (.fa T.fd275_3)<|.ur' (.stI T.sz130 ok) ?_;rintro η5 ⟨ok,cg⟩;refine .nil ?_;refine .s<|.z .asI<|.nil<|.ret ⟨.int .i64 0,Res.one rfl rfl,⟨rfl,ok.chg,ok.m0⟩⟩
structure Hd where
 size:Int
 pages:Int
 free:Int
 many:Int
 cookie:Int
 version:Int
 deriving DecidableEq
def ChkP (h:Hd):Prop:=okZ h.size=true∧(1≤h.pages∧h.pages≤1048576∧h.size*h.pages≤16777216)∧(0≤h.many∧h.many<h.pages∧(h.many=0→h.free=0)∧(0<h.many→2≤h.free∧h.free≤h.pages))∧(0≤h.cookie∧h.cookie≤2147483647)∧(0≤h.version∧h.version≤2147483647)
instance (h:Hd):Decidable (ChkP h):=by unfold ChkP;infer_instance
def chkC (h:Hd):Nat:=if ChkP h then 0 else 1
theorem chk_y {h:Hd} (p:ChkP h):chkC h=0:=if_pos p
theorem chk_n {h:Hd} (p:¬ChkP h):chkC h=1:=if_neg p
theorem chk_o {h:Hd} (p:¬(chkC h:Int)≠0):ChkP h:=by
 by_cases q:ChkP h
 ·exact q
 ·rw [chk_n q] at p;exact absurd (by decide) p
theorem okZ_cases {z:Int} (h:okZ z=true):z=256∨z=512∨z=1024∨z=2048∨z=4096:=of_decide_eq_true h
theorem hsize_any {h:Heap} {z:Int} (hz : -9223372036854775808≤z∧z≤9223372036854775807) :
  HC Tryz.prog 172 #[.int .i64 z] h (fun v h'=>v=.bool (okZ z)∧h'=h):=by
 refine HC.go Tryz.func172 16 ?_;refine .s<|.z .asB<|.nil<|.s<|.z .mvI<|.z .geq<|.z .mvB<|.sd (fun G5=>?_) (fun G5=>?_)
 ·
  refine .z .mvI<|.z .leq<|.z .pkt<|.z .mvB<|.sd (fun G9=>?_) (fun G9=>?_)
  ·
   obtain ⟨q,rfl⟩:∃q:Nat,z=(q:Int):=⟨z.toNat,by omega⟩;have hq:=and_pow q (by omega) (by omega);refine .z .mvI<|.z .mvI<|.z .sub<|.z (.bandI q (q-1))<|.z .eql<|.z .pkt<|.z .asB<|.nil<|.ret ⟨.bool (decide ((((q &&& (q-1)):Nat):Int)=0)),Res.one rfl rfl,⟨by first | exact congrArg _ (by unfold okZ;rw [decide_eq_decide];omega) | exact congrArg _ (by unfold okZ;exact (decide_eq_false (by omega)).symm) | exact congrArg _ (by unfold okZ;exact (decide_eq_true (by omega)).symm),rfl⟩⟩
  refine .y<|.y<|.y<|.y<|.y<|.z .pkf<|.z .asB<|.nil<|.ret ⟨.bool false,Res.one rfl rfl,⟨by first | exact congrArg _ (by unfold okZ;rw [decide_eq_decide];omega) | exact congrArg _ (by unfold okZ;exact (decide_eq_false (by omega)).symm) | exact congrArg _ (by unfold okZ;exact (decide_eq_true (by omega)).symm),rfl⟩⟩
 refine .y<|.y<|.z .pkf<|.z .mvB<|.y<|.y<|.y<|.y<|.y<|.z .pkf<|.z .asB<|.nil<|.ret ⟨.bool false,Res.one rfl rfl,⟨by first | exact congrArg _ (by unfold okZ;rw [decide_eq_decide];omega) | exact congrArg _ (by unfold okZ;exact (decide_eq_false (by omega)).symm) | exact congrArg _ (by unfold okZ;exact (decide_eq_true (by omega)).symm),rfl⟩⟩
theorem check_any {h:Heap} {z0 z1 z2 z3 z4 z5:Int} (h0 : -9223372036854775808≤z0∧z0≤9223372036854775807) (h1 : -9223372036854775808≤z1∧z1≤9223372036854775807) (h2 : -9223372036854775808≤z2∧z2≤9223372036854775807) (h3 : -9223372036854775808≤z3∧z3≤9223372036854775807) (h4 : -9223372036854775808≤z4∧z4≤9223372036854775807) (h5 : -9223372036854775808≤z5∧z5≤9223372036854775807):HC Tryz.prog 128 #[.agg #[.int .i64 z0,.int .i64 z1,.int .i64 z2,.int .i64 z3,.int .i64 z4,.int .i64 z5]] h (fun v h'=>v=.int .i64 (chkC ⟨z0,z1,z2,z3,z4,z5⟩:Int)∧Ext h h'):=by
 have ok:=Hp.nil h none_;refine HC.go Tryz.func128 80 ?_;refine .s<|.a' 1 (.bxA (cs:=[.int .i64 z0,.int .i64 z1,.int .i64 z2,.int .i64 z3,.int .i64 z4,.int .i64 z5]) ok) ?_;rintro _ η1 ⟨pb1,rfl,ok,xe⟩;refine .z .asI<|.nil<|.seq<|.s<|.z (.fa T.fd38_0)<|.z (.ldx T.ag3 ok.m0)<|.k 5 .func (hsize_any (z:=z0) (by omega))<|.z .not<|.z .mvB<|.spl (fun G7=>?_) (fun G7=>?_)
 ·
  refine .y<|.y<|.y<|.z .pkt<|.z .mvB<|.y<|.y<|.y<|.z .pkt<|.z .mvB<|.y<|.y<|.y<|.y<|.y<|.y<|.z .pkt<|.nil<|.ct<|.s<|.z .asI<|.nil<|.ret ⟨.int .i64 1,Res.one rfl rfl,⟨by rw [chk_n (by rintro ⟨p1,⟨p2,p3,p4⟩,⟨p5,p6,p7,p8⟩,⟨p9,p10⟩,p11,p12⟩;simp only at p1 p2 p3 p4 p5 p6 p7 p8 p9 p10 p11 p12;first | omega | simp_all)]<;>rfl,ok.chg⟩⟩
 refine .z (.fa T.fd38_1)<|.z (.ldx T.ag3 ok.m0)<|.z .lss<|.z .pkf<|.z .mvB<|.sd (fun G12=>?_) (fun G12=>?_)
 ·
  refine .y<|.y<|.y<|.z .pkt<|.z .mvB<|.y<|.y<|.y<|.y<|.y<|.y<|.z .pkt<|.nil<|.ct<|.s<|.z .asI<|.nil<|.ret ⟨.int .i64 1,Res.one rfl rfl,⟨by rw [chk_n (by rintro ⟨p1,⟨p2,p3,p4⟩,⟨p5,p6,p7,p8⟩,⟨p9,p10⟩,p11,p12⟩;simp only at p1 p2 p3 p4 p5 p6 p7 p8 p9 p10 p11 p12;first | omega | simp_all)]<;>rfl,ok.chg⟩⟩
 refine .z (.fa T.fd38_1)<|.z (.ldx T.ag3 ok.m0)<|.z .gtr<|.z .pkf<|.z .mvB<|.sd (fun G17=>?_) (fun G17=>?_)
 ·
  refine .y<|.y<|.y<|.y<|.y<|.y<|.z .pkt<|.nil<|.ct<|.s<|.z .asI<|.nil<|.ret ⟨.int .i64 1,Res.one rfl rfl,⟨by rw [chk_n (by rintro ⟨p1,⟨p2,p3,p4⟩,⟨p5,p6,p7,p8⟩,⟨p9,p10⟩,p11,p12⟩;simp only at p1 p2 p3 p4 p5 p6 p7 p8 p9 p10 p11 p12;first | omega | simp_all)]<;>rfl,ok.chg⟩⟩
 have hoz:okZ z0=true:=by simpa using G7
 have hmul:z0*z1≤4096*z1∧0≤z0*z1:=by rcases okZ_cases hoz with e | e | e | e | e<;>rw [e]<;>constructor<;>omega
 refine .z (.fa T.fd38_0)<|.z (.ldx T.ag3 ok.m0)<|.z (.fa T.fd38_1)<|.z (.ldx T.ag3 ok.m0)<|.z (.mul (hr:=(by omega)))<|.z .gtr<|.z .pkf<|.nil<|.cd (fun C0=>?_) (fun C0=>?_)
 ·
  refine .s<|.z .asI<|.nil<|.ret ⟨.int .i64 1,Res.one rfl rfl,⟨by rw [chk_n (by rintro ⟨p1,⟨p2,p3,p4⟩,⟨p5,p6,p7,p8⟩,⟨p9,p10⟩,p11,p12⟩;simp only at p1 p2 p3 p4 p5 p6 p7 p8 p9 p10 p11 p12;first | omega | simp_all)]<;>rfl,ok.chg⟩⟩
 refine .skip<|.seq<|.s<|.z (.fa T.fd38_3)<|.z (.ldx T.ag3 ok.m0)<|.z .lss<|.z .mvB<|.sd (fun G28=>?_) (fun G28=>?_)
 ·
  refine .y<|.y<|.y<|.y<|.y<|.z .pkt<|.z .mvB<|.y<|.y<|.y<|.y<|.y<|.y<|.y<|.y<|.z .pkt<|.z .mvB<|.y<|.y<|.y<|.y<|.y<|.y<|.y<|.y<|.y<|.y<|.y<|.y<|.y<|.y<|.y<|.z .pkt<|.nil<|.ct<|.s<|.z .asI<|.nil<|.ret ⟨.int .i64 1,Res.one rfl rfl,⟨by rw [chk_n (by rintro ⟨p1,⟨p2,p3,p4⟩,⟨p5,p6,p7,p8⟩,⟨p9,p10⟩,p11,p12⟩;simp only at p1 p2 p3 p4 p5 p6 p7 p8 p9 p10 p11 p12;first | omega | simp_all)]<;>rfl,ok.chg⟩⟩
 refine .z (.fa T.fd38_3)<|.z (.ldx T.ag3 ok.m0)<|.z (.fa T.fd38_1)<|.z (.ldx T.ag3 ok.m0)<|.z .geq<|.z .pkf<|.z .mvB<|.sd (fun G35=>?_) (fun G35=>?_)
 ·
  refine .y<|.y<|.y<|.y<|.y<|.y<|.y<|.y<|.z .pkt<|.z .mvB<|.y<|.y<|.y<|.y<|.y<|.y<|.y<|.y<|.y<|.y<|.y<|.y<|.y<|.y<|.y<|.z .pkt<|.nil<|.ct<|.s<|.z .asI<|.nil<|.ret ⟨.int .i64 1,Res.one rfl rfl,⟨by rw [chk_n (by rintro ⟨p1,⟨p2,p3,p4⟩,⟨p5,p6,p7,p8⟩,⟨p9,p10⟩,p11,p12⟩;simp only at p1 p2 p3 p4 p5 p6 p7 p8 p9 p10 p11 p12;first | omega | simp_all)]<;>rfl,ok.chg⟩⟩
 refine .z (.fa T.fd38_3)<|.z (.ldx T.ag3 ok.m0)<|.z .eql<|.z .mvB<|.sd (fun G39=>?_) (fun G39=>?_)
 ·
  refine .z (.fa T.fd38_2)<|.z (.ldx T.ag3 ok.m0)<|.z .neq<|.z .pkt<|.z .pkf<|.z .mvB<|.sd (fun G45=>?_) (fun G45=>?_)
  ·
   refine .y<|.y<|.y<|.y<|.y<|.y<|.y<|.y<|.y<|.y<|.y<|.y<|.y<|.y<|.y<|.z .pkt<|.nil<|.ct<|.s<|.z .asI<|.nil<|.ret ⟨.int .i64 1,Res.one rfl rfl,⟨by rw [chk_n (by rintro ⟨p1,⟨p2,p3,p4⟩,⟨p5,p6,p7,p8⟩,⟨p9,p10⟩,p11,p12⟩;simp only at p1 p2 p3 p4 p5 p6 p7 p8 p9 p10 p11 p12;first | omega | simp_all)]<;>rfl,ok.chg⟩⟩
  refine .z (.fa T.fd38_3)<|.z (.ldx T.ag3 ok.m0)<|.z .gtr<|.z .mvB<|.sd (fun G49=>?_) (fun G49=>?_)
  ·
   refine .z (.fa T.fd38_2)<|.z (.ldx T.ag3 ok.m0)<|.z .lss<|.z .mvB<|.sd (fun G53=>?_) (fun G53=>?_)
   ·
    refine .y<|.y<|.y<|.y<|.y<|.z .pkt<|.z .pkt<|.z .pkf<|.nil<|.ct<|.s<|.z .asI<|.nil<|.ret ⟨.int .i64 1,Res.one rfl rfl,⟨by rw [chk_n (by rintro ⟨p1,⟨p2,p3,p4⟩,⟨p5,p6,p7,p8⟩,⟨p9,p10⟩,p11,p12⟩;simp only at p1 p2 p3 p4 p5 p6 p7 p8 p9 p10 p11 p12;first | omega | simp_all)]<;>rfl,ok.chg⟩⟩
   refine .z (.fa T.fd38_2)<|.z (.ldx T.ag3 ok.m0)<|.z (.fa T.fd38_1)<|.z (.ldx T.ag3 ok.m0)<|.z .gtr<|.z .pkf<|.z .pkt<|.z .pkf<|.nil<|.cd (fun C1=>?_) (fun C1=>?_)
   ·
    refine .s<|.z .asI<|.nil<|.ret ⟨.int .i64 1,Res.one rfl rfl,⟨by rw [chk_n (by rintro ⟨p1,⟨p2,p3,p4⟩,⟨p5,p6,p7,p8⟩,⟨p9,p10⟩,p11,p12⟩;simp only at p1 p2 p3 p4 p5 p6 p7 p8 p9 p10 p11 p12;first | omega | simp_all)]<;>rfl,ok.chg⟩⟩
   refine .skip<|.seq<|.s<|.z (.fa T.fd38_4)<|.z (.ldx T.ag3 ok.m0)<|.z .lss<|.z .mvB<|.sd (fun G65=>?_) (fun G65=>?_)
   ·
    refine .y<|.y<|.y<|.z .pkt<|.z .mvB<|.y<|.y<|.y<|.z .pkt<|.z .mvB<|.y<|.y<|.y<|.z .pkt<|.nil<|.ct<|.s<|.z .asI<|.nil<|.ret ⟨.int .i64 1,Res.one rfl rfl,⟨by rw [chk_n (by rintro ⟨p1,⟨p2,p3,p4⟩,⟨p5,p6,p7,p8⟩,⟨p9,p10⟩,p11,p12⟩;simp only at p1 p2 p3 p4 p5 p6 p7 p8 p9 p10 p11 p12;first | omega | simp_all)]<;>rfl,ok.chg⟩⟩
   refine .z (.fa T.fd38_4)<|.z (.ldx T.ag3 ok.m0)<|.z .gtr<|.z .pkf<|.z .mvB<|.sd (fun G70=>?_) (fun G70=>?_)
   ·
    refine .y<|.y<|.y<|.z .pkt<|.z .mvB<|.y<|.y<|.y<|.z .pkt<|.nil<|.ct<|.s<|.z .asI<|.nil<|.ret ⟨.int .i64 1,Res.one rfl rfl,⟨by rw [chk_n (by rintro ⟨p1,⟨p2,p3,p4⟩,⟨p5,p6,p7,p8⟩,⟨p9,p10⟩,p11,p12⟩;simp only at p1 p2 p3 p4 p5 p6 p7 p8 p9 p10 p11 p12;first | omega | simp_all)]<;>rfl,ok.chg⟩⟩
   refine .z (.fa T.fd38_5)<|.z (.ldx T.ag3 ok.m0)<|.z .lss<|.z .pkf<|.z .mvB<|.sd (fun G75=>?_) (fun G75=>?_)
   ·
    refine .y<|.y<|.y<|.z .pkt<|.nil<|.ct<|.s<|.z .asI<|.nil<|.ret ⟨.int .i64 1,Res.one rfl rfl,⟨by rw [chk_n (by rintro ⟨p1,⟨p2,p3,p4⟩,⟨p5,p6,p7,p8⟩,⟨p9,p10⟩,p11,p12⟩;simp only at p1 p2 p3 p4 p5 p6 p7 p8 p9 p10 p11 p12;first | omega | simp_all)]<;>rfl,ok.chg⟩⟩
   refine .z (.fa T.fd38_5)<|.z (.ldx T.ag3 ok.m0)<|.z .gtr<|.z .pkf<|.nil<|.cd (fun C2=>?_) (fun C2=>?_)
   ·
    refine .s<|.z .asI<|.nil<|.ret ⟨.int .i64 1,Res.one rfl rfl,⟨by rw [chk_n (by rintro ⟨p1,⟨p2,p3,p4⟩,⟨p5,p6,p7,p8⟩,⟨p9,p10⟩,p11,p12⟩;simp only at p1 p2 p3 p4 p5 p6 p7 p8 p9 p10 p11 p12;first | omega | simp_all)]<;>rfl,ok.chg⟩⟩
   refine .skip<|.s<|.z .asI<|.nil<|.ret ⟨.int .i64 0,Res.one rfl rfl,⟨by rw [chk_y ⟨by assumption,⟨by simp only;omega,by simp only;omega,by simp only;omega⟩,⟨by simp only;omega,by simp only;omega,by simp only;omega,by simp only;omega⟩,⟨by simp only;omega,by simp only;omega⟩,by simp only;omega,by simp only;omega⟩]<;>rfl,ok.chg⟩⟩
  refine .y<|.y<|.y<|.y<|.y<|.y<|.y<|.y<|.y<|.y<|.z .pkf<|.z .pkf<|.nil<|.cf<|.skip<|.seq<|.s<|.z (.fa T.fd38_4)<|.z (.ldx T.ag3 ok.m0)<|.z .lss<|.z .mvB<|.sd (fun G65=>?_) (fun G65=>?_)
  ·
   refine .y<|.y<|.y<|.z .pkt<|.z .mvB<|.y<|.y<|.y<|.z .pkt<|.z .mvB<|.y<|.y<|.y<|.z .pkt<|.nil<|.ct<|.s<|.z .asI<|.nil<|.ret ⟨.int .i64 1,Res.one rfl rfl,⟨by rw [chk_n (by rintro ⟨p1,⟨p2,p3,p4⟩,⟨p5,p6,p7,p8⟩,⟨p9,p10⟩,p11,p12⟩;simp only at p1 p2 p3 p4 p5 p6 p7 p8 p9 p10 p11 p12;first | omega | simp_all)]<;>rfl,ok.chg⟩⟩
  refine .z (.fa T.fd38_4)<|.z (.ldx T.ag3 ok.m0)<|.z .gtr<|.z .pkf<|.z .mvB<|.sd (fun G70=>?_) (fun G70=>?_)
  ·
   refine .y<|.y<|.y<|.z .pkt<|.z .mvB<|.y<|.y<|.y<|.z .pkt<|.nil<|.ct<|.s<|.z .asI<|.nil<|.ret ⟨.int .i64 1,Res.one rfl rfl,⟨by rw [chk_n (by rintro ⟨p1,⟨p2,p3,p4⟩,⟨p5,p6,p7,p8⟩,⟨p9,p10⟩,p11,p12⟩;simp only at p1 p2 p3 p4 p5 p6 p7 p8 p9 p10 p11 p12;first | omega | simp_all)]<;>rfl,ok.chg⟩⟩
  refine .z (.fa T.fd38_5)<|.z (.ldx T.ag3 ok.m0)<|.z .lss<|.z .pkf<|.z .mvB<|.sd (fun G75=>?_) (fun G75=>?_)
  ·
   refine .y<|.y<|.y<|.z .pkt<|.nil<|.ct<|.s<|.z .asI<|.nil<|.ret ⟨.int .i64 1,Res.one rfl rfl,⟨by rw [chk_n (by rintro ⟨p1,⟨p2,p3,p4⟩,⟨p5,p6,p7,p8⟩,⟨p9,p10⟩,p11,p12⟩;simp only at p1 p2 p3 p4 p5 p6 p7 p8 p9 p10 p11 p12;first | omega | simp_all)]<;>rfl,ok.chg⟩⟩
  refine .z (.fa T.fd38_5)<|.z (.ldx T.ag3 ok.m0)<|.z .gtr<|.z .pkf<|.nil<|.cd (fun C2=>?_) (fun C2=>?_)
  ·
   refine .s<|.z .asI<|.nil<|.ret ⟨.int .i64 1,Res.one rfl rfl,⟨by rw [chk_n (by rintro ⟨p1,⟨p2,p3,p4⟩,⟨p5,p6,p7,p8⟩,⟨p9,p10⟩,p11,p12⟩;simp only at p1 p2 p3 p4 p5 p6 p7 p8 p9 p10 p11 p12;first | omega | simp_all)]<;>rfl,ok.chg⟩⟩
  refine .skip<|.s<|.z .asI<|.nil<|.ret ⟨.int .i64 0,Res.one rfl rfl,⟨by rw [chk_y ⟨by assumption,⟨by simp only;omega,by simp only;omega,by simp only;omega⟩,⟨by simp only;omega,by simp only;omega,by simp only;omega,by simp only;omega⟩,⟨by simp only;omega,by simp only;omega⟩,by simp only;omega,by simp only;omega⟩]<;>rfl,ok.chg⟩⟩
 refine .y<|.y<|.y<|.z .pkf<|.z .pkf<|.z .mvB<|.z (.fa T.fd38_3)<|.z (.ldx T.ag3 ok.m0)<|.z .gtr<|.z .mvB<|.sd (fun G49=>?_) (fun G49=>?_)
 ·
  refine .z (.fa T.fd38_2)<|.z (.ldx T.ag3 ok.m0)<|.z .lss<|.z .mvB<|.sd (fun G53=>?_) (fun G53=>?_)
  ·
   refine .y<|.y<|.y<|.y<|.y<|.z .pkt<|.z .pkt<|.z .pkf<|.nil<|.ct<|.s<|.z .asI<|.nil<|.ret ⟨.int .i64 1,Res.one rfl rfl,⟨by rw [chk_n (by rintro ⟨p1,⟨p2,p3,p4⟩,⟨p5,p6,p7,p8⟩,⟨p9,p10⟩,p11,p12⟩;simp only at p1 p2 p3 p4 p5 p6 p7 p8 p9 p10 p11 p12;first | omega | simp_all)]<;>rfl,ok.chg⟩⟩
  refine .z (.fa T.fd38_2)<|.z (.ldx T.ag3 ok.m0)<|.z (.fa T.fd38_1)<|.z (.ldx T.ag3 ok.m0)<|.z .gtr<|.z .pkf<|.z .pkt<|.z .pkf<|.nil<|.cd (fun C1=>?_) (fun C1=>?_)
  ·
   refine .s<|.z .asI<|.nil<|.ret ⟨.int .i64 1,Res.one rfl rfl,⟨by rw [chk_n (by rintro ⟨p1,⟨p2,p3,p4⟩,⟨p5,p6,p7,p8⟩,⟨p9,p10⟩,p11,p12⟩;simp only at p1 p2 p3 p4 p5 p6 p7 p8 p9 p10 p11 p12;first | omega | simp_all)]<;>rfl,ok.chg⟩⟩
  refine .skip<|.seq<|.s<|.z (.fa T.fd38_4)<|.z (.ldx T.ag3 ok.m0)<|.z .lss<|.z .mvB<|.sd (fun G65=>?_) (fun G65=>?_)
  ·
   refine .y<|.y<|.y<|.z .pkt<|.z .mvB<|.y<|.y<|.y<|.z .pkt<|.z .mvB<|.y<|.y<|.y<|.z .pkt<|.nil<|.ct<|.s<|.z .asI<|.nil<|.ret ⟨.int .i64 1,Res.one rfl rfl,⟨by rw [chk_n (by rintro ⟨p1,⟨p2,p3,p4⟩,⟨p5,p6,p7,p8⟩,⟨p9,p10⟩,p11,p12⟩;simp only at p1 p2 p3 p4 p5 p6 p7 p8 p9 p10 p11 p12;first | omega | simp_all)]<;>rfl,ok.chg⟩⟩
  refine .z (.fa T.fd38_4)<|.z (.ldx T.ag3 ok.m0)<|.z .gtr<|.z .pkf<|.z .mvB<|.sd (fun G70=>?_) (fun G70=>?_)
  ·
   refine .y<|.y<|.y<|.z .pkt<|.z .mvB<|.y<|.y<|.y<|.z .pkt<|.nil<|.ct<|.s<|.z .asI<|.nil<|.ret ⟨.int .i64 1,Res.one rfl rfl,⟨by rw [chk_n (by rintro ⟨p1,⟨p2,p3,p4⟩,⟨p5,p6,p7,p8⟩,⟨p9,p10⟩,p11,p12⟩;simp only at p1 p2 p3 p4 p5 p6 p7 p8 p9 p10 p11 p12;first | omega | simp_all)]<;>rfl,ok.chg⟩⟩
  refine .z (.fa T.fd38_5)<|.z (.ldx T.ag3 ok.m0)<|.z .lss<|.z .pkf<|.z .mvB<|.sd (fun G75=>?_) (fun G75=>?_)
  ·
   refine .y<|.y<|.y<|.z .pkt<|.nil<|.ct<|.s<|.z .asI<|.nil<|.ret ⟨.int .i64 1,Res.one rfl rfl,⟨by rw [chk_n (by rintro ⟨p1,⟨p2,p3,p4⟩,⟨p5,p6,p7,p8⟩,⟨p9,p10⟩,p11,p12⟩;simp only at p1 p2 p3 p4 p5 p6 p7 p8 p9 p10 p11 p12;first | omega | simp_all)]<;>rfl,ok.chg⟩⟩
  refine .z (.fa T.fd38_5)<|.z (.ldx T.ag3 ok.m0)<|.z .gtr<|.z .pkf<|.nil<|.cd (fun C2=>?_) (fun C2=>?_)
  ·
   refine .s<|.z .asI<|.nil<|.ret ⟨.int .i64 1,Res.one rfl rfl,⟨by rw [chk_n (by rintro ⟨p1,⟨p2,p3,p4⟩,⟨p5,p6,p7,p8⟩,⟨p9,p10⟩,p11,p12⟩;simp only at p1 p2 p3 p4 p5 p6 p7 p8 p9 p10 p11 p12;first | omega | simp_all)]<;>rfl,ok.chg⟩⟩
  refine .skip<|.s<|.z .asI<|.nil<|.ret ⟨.int .i64 0,Res.one rfl rfl,⟨by rw [chk_y ⟨by assumption,⟨by simp only;omega,by simp only;omega,by simp only;omega⟩,⟨by simp only;omega,by simp only;omega,by simp only;omega,by simp only;omega⟩,⟨by simp only;omega,by simp only;omega⟩,by simp only;omega,by simp only;omega⟩]<;>rfl,ok.chg⟩⟩
 refine .y<|.y<|.y<|.y<|.y<|.y<|.y<|.y<|.y<|.y<|.z .pkf<|.z .pkf<|.nil<|.cf<|.skip<|.seq<|.s<|.z (.fa T.fd38_4)<|.z (.ldx T.ag3 ok.m0)<|.z .lss<|.z .mvB<|.sd (fun G65=>?_) (fun G65=>?_)
 ·
  refine .y<|.y<|.y<|.z .pkt<|.z .mvB<|.y<|.y<|.y<|.z .pkt<|.z .mvB<|.y<|.y<|.y<|.z .pkt<|.nil<|.ct<|.s<|.z .asI<|.nil<|.ret ⟨.int .i64 1,Res.one rfl rfl,⟨by rw [chk_n (by rintro ⟨p1,⟨p2,p3,p4⟩,⟨p5,p6,p7,p8⟩,⟨p9,p10⟩,p11,p12⟩;simp only at p1 p2 p3 p4 p5 p6 p7 p8 p9 p10 p11 p12;first | omega | simp_all)]<;>rfl,ok.chg⟩⟩
 refine .z (.fa T.fd38_4)<|.z (.ldx T.ag3 ok.m0)<|.z .gtr<|.z .pkf<|.z .mvB<|.sd (fun G70=>?_) (fun G70=>?_)
 ·
  refine .y<|.y<|.y<|.z .pkt<|.z .mvB<|.y<|.y<|.y<|.z .pkt<|.nil<|.ct<|.s<|.z .asI<|.nil<|.ret ⟨.int .i64 1,Res.one rfl rfl,⟨by rw [chk_n (by rintro ⟨p1,⟨p2,p3,p4⟩,⟨p5,p6,p7,p8⟩,⟨p9,p10⟩,p11,p12⟩;simp only at p1 p2 p3 p4 p5 p6 p7 p8 p9 p10 p11 p12;first | omega | simp_all)]<;>rfl,ok.chg⟩⟩
 refine .z (.fa T.fd38_5)<|.z (.ldx T.ag3 ok.m0)<|.z .lss<|.z .pkf<|.z .mvB<|.sd (fun G75=>?_) (fun G75=>?_)
 ·
  refine .y<|.y<|.y<|.z .pkt<|.nil<|.ct<|.s<|.z .asI<|.nil<|.ret ⟨.int .i64 1,Res.one rfl rfl,⟨by rw [chk_n (by rintro ⟨p1,⟨p2,p3,p4⟩,⟨p5,p6,p7,p8⟩,⟨p9,p10⟩,p11,p12⟩;simp only at p1 p2 p3 p4 p5 p6 p7 p8 p9 p10 p11 p12;first | omega | simp_all)]<;>rfl,ok.chg⟩⟩
 refine .z (.fa T.fd38_5)<|.z (.ldx T.ag3 ok.m0)<|.z .gtr<|.z .pkf<|.nil<|.cd (fun C2=>?_) (fun C2=>?_)
 ·
  refine .s<|.z .asI<|.nil<|.ret ⟨.int .i64 1,Res.one rfl rfl,⟨by rw [chk_n (by rintro ⟨p1,⟨p2,p3,p4⟩,⟨p5,p6,p7,p8⟩,⟨p9,p10⟩,p11,p12⟩;simp only at p1 p2 p3 p4 p5 p6 p7 p8 p9 p10 p11 p12;first | omega | simp_all)]<;>rfl,ok.chg⟩⟩
 refine .skip<|.s<|.z .asI<|.nil<|.ret ⟨.int .i64 0,Res.one rfl rfl,⟨by rw [chk_y ⟨by assumption,⟨by simp only;omega,by simp only;omega,by simp only;omega⟩,⟨by simp only;omega,by simp only;omega,by simp only;omega,by simp only;omega⟩,⟨by simp only;omega,by simp only;omega⟩,by simp only;omega,by simp only;omega⟩]<;>rfl,ok.chg⟩⟩
@[reducible] def signL:List UInt8:=[116,111,109,101,32,102,105,108,101,32,49,0,0,0,0,0]
def hdF (N:List Nat):List UInt8:=(N.map fun n=>fixedN n 4).flatten
theorem hdF_take {N:List Nat} {i:Nat} (h:i<N.length):hdF (N.take (i+1))=hdF (N.take i)++fixedN N[i] 4:=by
 unfold hdF;rw [List.take_succ_eq_append_getElem h,List.map_append,List.flatten_append];simp
def hdT (N:List Nat):List UInt8:=signL++hdF N++List.replicate 20 0
def hdB (N:List Nat):List UInt8:=hdT N++fixedN (sumN (hdT N)) 4
theorem hbytes_any {h:Heap} {n0 n1 n2 n3 n4 n5:Nat} (h0:n0<4294967296) (h1:n1<4294967296) (h2:n2<4294967296) (h3:n3<4294967296) (h4:n4<4294967296) (h5:n5<4294967296):HC Tryz.prog 129 #[.agg #[.int .i64 (n0:Int),.int .i64 (n1:Int),.int .i64 (n2:Int),.int .i64 (n3:Int),.int .i64 (n4:Int),.int .i64 (n5:Int)]] h (fun v h'=>Own h h' 1 5 v ((hdB [n0,n1,n2,n3,n4,n5]).map bv)):=by
 have ok:=Hp.nil h none_;refine HC.go Tryz.func129 44 ?_;refine .s<|.a' 1 (.bxA (cs:=[.int .i64 (n0:Int),.int .i64 (n1:Int),.int .i64 (n2:Int),.int .i64 (n3:Int),.int .i64 (n4:Int),.int .i64 (n5:Int)]) ok) ?_;rintro _ η1 ⟨pb1,rfl,ok,xe⟩;refine .z .asS<|.nil<|.s<|.a' 6 (.lit [.const (.int .u8 116),.const (.int .u8 111),.const (.int .u8 109),.const (.int .u8 101),.const (.int .u8 32),.const (.int .u8 102),.const (.int .u8 105),.const (.int .u8 108),.const (.int .u8 101),.const (.int .u8 32),.const (.int .u8 49),.const (.int .u8 0),.const (.int .u8 0),.const (.int .u8 0),.const (.int .u8 0),.const (.int .u8 0)] (cs:=[.int .u8 116,.int .u8 111,.int .u8 109,.int .u8 101,.int .u8 32,.int .u8 102,.int .u8 105,.int .u8 108,.int .u8 101,.int .u8 32,.int .u8 49,.int .u8 0,.int .u8 0,.int .u8 0,.int .u8 0,.int .u8 0]) T.el44 T.sz5 T.zr5 ok ⟨rfl,rfl,rfl,rfl,rfl,rfl,rfl,rfl,rfl,rfl,rfl,rfl,rfl,rfl,rfl,rfl,trivial⟩) ?_;rintro _ η2 ⟨pb2,rfl,ok,xe⟩;have ok:=ok.cx (ys:=([116,111,109,101,32,102,105,108,101,32,49,0,0,0,0,0]:List UInt8).map bv) rfl;refine .a' 7 (.cvL T.el44 T.in5 ok) ?_;rintro _ η3 ⟨rfl,ok,cg⟩;refine .z .asS<|.nil<|.seq<|.s<|.z (.fa T.fd38_0)<|.z (.ldx T.ag3 ok.m1)<|.z (.fa T.fd38_1)<|.z (.ldx T.ag3 ok.m1)<|.z (.fa T.fd38_2)<|.z (.ldx T.ag3 ok.m1)<|.z (.fa T.fd38_3)<|.z (.ldx T.ag3 ok.m1)<|.z (.fa T.fd38_4)<|.z (.ldx T.ag3 ok.m1)<|.z (.fa T.fd38_5)<|.z (.ldx T.ag3 ok.m1)<|.a' 20 (.lit [.tmp 9,.tmp 11,.tmp 13,.tmp 15,.tmp 17,.tmp 19] (cs:=[.int .i64 (n0:Int),.int .i64 (n1:Int),.int .i64 (n2:Int),.int .i64 (n3:Int),.int .i64 (n4:Int),.int .i64 (n5:Int)]) T.el24 T.sz3 T.zr3 ok ⟨rfl,rfl,rfl,rfl,rfl,rfl,trivial⟩) ?_;rintro _ η4 ⟨pb3,rfl,ok,xe⟩;obtain ⟨N,hN⟩:∃N:List Nat,N=[n0,n1,n2,n3,n4,n5]:=⟨_,rfl⟩;have hNl:N.length=6:=by rw [hN];rfl
 have hNb:∀j (hj:j<N.length),N[j]<4294967296:=by subst hN;intro j hj;match j,hj with | 0,_=>exact h0 | 1,_=>exact h1 | 2,_=>exact h2 | 3,_=>exact h3 | 4,_=>exact h4 | 5,_=>exact h5
 have hML:(N.map Int.ofNat).length=6:=by rw [List.length_map,hNl]
 have ok:=(ok.cx (ys:=(N.map Int.ofNat).map iv) (by rw [hN];rfl)).frzI rfl;refine .z (.len T.el24)<|.z .mvI<|.nil<|.block fun K0 hK0=>.loop (fun m s hh=>∃(i:Nat) (bs:List UInt8) (a3:Option Addr) (c3:Nat),Has s [(3,.slice a3 bs.length c3),(20,.slice (some ⟨pb3,0,none⟩) 6 6),(21,.int .i64 6),(22,.int .i64 (i:Int))]∧Hp h none_ [capI 1 5 (a3,bs.length,c3) (bs.map bv)] [rdI (blkC (sv (some ⟨pb3,0,none⟩,6,6))) none_ (some ⟨pb3,0,none⟩,6,6) (N.map Int.ofNat)] hh∧i≤6∧bs=signL++hdF (N.take i)∧bs.length=16+4*i∧m=6-i) ?_ ?_
 ·exact ⟨_,0,signL,(some ⟨pb2,0,none⟩),16,⟨rfl,rfl,rfl,rfl,trivial⟩,(ok).k1,Nat.zero_le _,rfl,rfl,rfl⟩
 rintro _ _ η5 ⟨i,bs,a3,c3,hs,ok,hi,hbs,hbl,rfl⟩ J0 hJ0;refine .frame hs fun τ=>?_;refine .s<|.z .lss<|.nil<|.seq<|.cdr (fun C0=>?_) (fun C0=>?_)
 ·
  obtain rfl:i=6:=by omega
  rw [show N.take 6=N from by rw [←hNl,List.take_length]] at hbs;refine .exit<|hK0 _ _<|.s<|.z .mvS<|.z .mvS<|.z (.len T.el44)<|.z .sub<|.a' 36 (.apz (z:=(60-(bs.length:Int))) 20 T.el44 T.in3 T.sz5 T.by5 T.zr5 ok (by omega) (by omega)) ?_;rintro _ η6 ⟨ya1,yc1,rfl,ok⟩;refine .z .asS<|.nil<|.s<|.z .mvS<|.z .mvS<|.a' 39 (.lit [.tmp 38] (cs:=[.slice ya1 ((bs++List.replicate 20 0).length) yc1]) T.el28 T.sz44 T.zr44 ok ⟨rfl,trivial⟩) ?_;rintro _ η7 ⟨pb4,rfl,ok,xe⟩;refine .c' 40 .func (sum_any (a:=some ⟨pb4,0,none⟩) (c:=1) (L:=[(bs++List.replicate 20 0)]) (RdL.rows (v:=(some ⟨pb4,0,none⟩,1,1)) (xs:=[(ya1,(bs++List.replicate 20 0).length,yc1)]) (ls:=[(bs++List.replicate 20 0)]) ok.m0 ⟨⟨_,_,(RdL.ofCapB (v:=(ya1,(bs++List.replicate 20 0).length,yc1)) (l:=(bs++List.replicate 20 0)) ok.m1)⟩,trivial⟩)) ?_;rintro _ η8 ⟨rfl,hx⟩;have ok:=ok.ext hx;refine .z (.cvs T.in130 T.in89 (M:=18446744073709551616) rfl rfl (a:=(sumN ([(bs++List.replicate 20 0)]).flatten)) (ha:=by exact Nat.lt_of_lt_of_le (sumN_lt _) (by decide)))<|.c' 42 .func (fixed_any (n:=(sumN ([(bs++List.replicate 20 0)]).flatten)) (size:=4) (by first | omega | exact Nat.lt_of_lt_of_le (sumN_lt _) (by decide)) (by omega) (by omega)) ?_;rintro _ η9 own;obtain ⟨ya2,yc2,rfl⟩:=own.formB;have ok:=ok.own own;refine .a' 43 (.app (news:=(fixedN (sumN ([(bs++List.replicate 20 0)]).flatten) 4).map bv) T.el44 T.sz5 T.by5 T.zr5 ok.n2 (ok.n2.m1).sl bv_all (by simp only [List.length_map,List.length_append,List.length_take,List.length_cons,List.length_nil,List.length_replicate,List.length_range,fixedN_len,sealN_len];omega)) ?_;rintro _ η10 ⟨ya3,yn2,yc3,rfl,ok,ap⟩;have ok:=ok.cx (ys:=((bs++List.replicate 20 0)++(fixedN (sumN ([(bs++List.replicate 20 0)]).flatten) 4)).map bv) (by simp [bv]);obtain rfl:yn2=((bs++List.replicate 20 0)++(fixedN (sumN ([(bs++List.replicate 20 0)]).flatten) 4)).length:=ok.lenB;refine .z .asS<|.nil<|.ret ⟨.slice ya3 (((bs++List.replicate 20 0)++(fixedN (sumN ([(bs++List.replicate 20 0)]).flatten) 4)).length) yc3,Res.one rfl rfl,(by rw [show hdB [n0,n1,n2,n3,n4,n5]=(bs++List.replicate 20 0)++(fixedN (sumN ([(bs++List.replicate 20 0)]).flatten) 4) from by rw [←hN];unfold hdB hdT;rw [←hbs];simp];exact (ok).toOwn)⟩
 have hi6:i<6:=by omega
 refine .skip<|.seq<|.block fun K1 hK1=>.s<|.z (.ix1 i T.el24 T.sz3)<|.z (.ld T.ag3 (ok.r0.i64 (i:=i) (by omega)))<|?_;have hiN:i<N.length:=by omega
 have hNi:=hNb i hiN;rw [show (N.map Int.ofNat)[i]=((N[i]:Nat):Int) from List.getElem_map _];refine .z .asI<|.nil<|.r<|.z .mvS<|.z .mvI<|.z (.cvs T.in130 T.in3 (M:=18446744073709551616) rfl rfl)<|.c' 29 .func (fixed_any (n:=N[i]) (size:=4) (by first | omega | exact Nat.lt_of_lt_of_le (sumN_lt _) (by decide)) (by omega) (by omega)) ?_;rintro _ η11 own;obtain ⟨ya4,yc4,rfl⟩:=own.formB;have ok:=ok.own own;refine .a' 30 (.app (news:=(fixedN (N[i]) 4).map bv) T.el44 T.sz5 T.by5 T.zr5 ok.n1 (ok.n1.m1).sl bv_all (by simp only [List.length_map,List.length_append,List.length_take,List.length_cons,List.length_nil,List.length_replicate,List.length_range,fixedN_len,sealN_len];omega)) ?_;rintro _ η12 ⟨ya5,yn4,yc5,rfl,ok,ap⟩;have ok:=ok.cx (ys:=(bs++(fixedN (N[i]) 4)).map bv) (by simp [bv]);obtain rfl:yn4=(bs++(fixedN (N[i]) 4)).length:=ok.lenB;refine .z .asS<|.nil<|.end<|hK1 _ _<|.r<|.z (.addI (b:=1))<|.z .mvI<|.nil<|.end<|hJ0 _ _ _ ⟨i+1,bs++fixedN N[i] 4,ya5,yc5,⟨rfl,rfl,rfl,rfl,trivial⟩,(ok).k1,by omega,by rw [hdF_take hiN,hbs,List.append_assoc],by rw [List.length_append,fixedN_len,hbl];omega,rfl⟩ (by omega)
def hdAt (l:List UInt8) (k:Nat):Nat:=rdN l (16+4*k) 4
theorem hdAt_lt (l:List UInt8) (k:Nat):hdAt l k<4294967296:=rdN_lt4 _ _
def hd0:Hd:=⟨0,0,0,0,0,0⟩
def decH (l:List UInt8):Hd:=⟨hdAt l 0,hdAt l 1,hdAt l 2,hdAt l 3,hdAt l 4,hdAt l 5⟩
def decY (l:List UInt8):Prop:=ChkP (decH l)∧hdB [hdAt l 0,hdAt l 1,hdAt l 2,hdAt l 3,hdAt l 4,hdAt l 5]=l.take 64
instance (l:List UInt8):Decidable (decY l):=by unfold decY;infer_instance
def decN (l:List UInt8):Hd × Nat:=if l.length<64 then (hd0,6) else if l.take 16≠signL then (hd0,8) else if decY l then (decH l,0) else (hd0,14)
theorem dec6 {l:List UInt8} (h:l.length<64):decN l=(hd0,6):=if_pos h
theorem dec8 {l:List UInt8} (h:¬l.length<64) (h2:l.take 16≠signL):decN l=(hd0,8):=by unfold decN;rw [if_neg h,if_pos h2]
theorem dec14 {l:List UInt8} (h:¬l.length<64) (h2:l.take 16=signL) (h3:¬decY l):decN l=(hd0,14):=by unfold decN;rw [if_neg h,if_neg (not_not_intro h2),if_neg h3]
theorem dec0 {l:List UInt8} (h:¬l.length<64) (h2:l.take 16=signL) (h3:decY l):decN l=(decH l,0):=by unfold decN;rw [if_neg h,if_neg (not_not_intro h2),if_pos h3]
def Hd.val (h:Hd):Value:=.agg #[.int .i64 h.size,.int .i64 h.pages,.int .i64 h.free,.int .i64 h.many,.int .i64 h.cookie,.int .i64 h.version]
theorem dfield_any {h:Heap} {F E:Nat→Prop} {a:Option Addr} {c b:Nat} {l:List UInt8} (hl:RdL h F E (a,l.length,c) l) (hb:(boxI b 44 [.slice a l.length c]).p h) {i:Nat} (hi:20+4*i≤l.length) :
  HC Tryz.prog 126 #[.int .i64 (i:Int),.pointer (some ⟨b,0,none⟩)] h (fun v h'=>v=.int .i64 ((hdAt l i:Nat):Int)∧h'=h):=by
 have hc2:=hl.m;have hc1:l.length≤c:=hl.c;simp only at hc2;have hrd:=rdN_lt4 l (16+(4*i));refine HC.go Tryz.func126 16 ?_;refine .s<|.z .asI<|.nil<|.s<|.z (.ldx T.ag44 hb)<|.z .mvI<|.z (.mulI (a:=4))<|.z (.addI (a:=16))<|.k 11 .func (read_any (p:=(16+(4*i))) (size:=4) (a:=a) (c:=c) (l:=l) hl (by omega) (by omega) (by omega))<|.z .mvU<|.z .ex<|.z .ex<|.z .asI<|.z .asI<|.nil<|.s<|.z .mvI<|.z (.cvi T.in3 T.in130)<|.z .asI<|.nil<|.ret ⟨.int .i64 (((rdN l (16+(4*i)) 4):Nat):Int),Res.one rfl rfl,⟨by unfold hdAt;rfl,rfl⟩⟩
theorem dec_any {h:Heap} {F E:Nat→Prop} {a:Option Addr} {c:Nat} {l:List UInt8} (hl:RdL h F E (a,l.length,c) l) :
  HC Tryz.prog 72 #[.slice a l.length c] h (fun v h'=>v=.tuple #[(decN l).1.val,.int .i64 ((decN l).2:Int)]∧Ext h h'):=by
 have hc2:=hl.m;have hc1:l.length≤c:=hl.c;simp only at hc2;have ok:=(Hp.nil h none_).arg hl;have hf0:=hdAt_lt l 0;have hf1:=hdAt_lt l 1;have hf2:=hdAt_lt l 2;have hf3:=hdAt_lt l 3;have hf4:=hdAt_lt l 4;have hf5:=hdAt_lt l 5;refine HC.go Tryz.func72 48 ?_;refine .s<|.a' 1 (.bxS ok) ?_;rintro _ η1 ⟨pb1,rfl,ok,xe⟩;refine .a' 2 (.alA T.zr38 ok) ?_;rintro _ η2 ⟨pb2,rfl,ok,xe⟩;refine .z .asI<|.nil<|.seq<|.s<|.z (.ldx T.ag44 ok.m1)<|.z (.len T.el44)<|.z .lss<|.nil<|.cd (fun C0=>?_) (fun C0=>?_)
 ·
  refine .s<|.z (.bd #[.int .i64 0,.int .i64 0,.int .i64 0,.int .i64 0,.int .i64 0,.int .i64 0] T.zr38 T.pl38 (by kernel_rfl))<|.ur' (.stW (vs:=[.int .i64 0,.int .i64 0,.int .i64 0,.int .i64 0,.int .i64 0,.int .i64 0]) T.sz38 ok (oneL rfl)) ?_;rintro η3 ⟨ok,cg⟩;refine .z .asI<|.nil<|.ret ⟨.tuple #[.agg #[.int .i64 0,.int .i64 0,.int .i64 0,.int .i64 0,.int .i64 0,.int .i64 0],.int .i64 6],Res.many (vs:=[.agg #[.int .i64 0,.int .i64 0,.int .i64 0,.int .i64 0,.int .i64 0,.int .i64 0],.int .i64 6]) rfl ⟨⟨_,rfl,load_ag T.ag38 ok.m0 T.sz38⟩,rfl,trivial⟩ rfl,⟨by rw [dec6 (by omega)];rfl,ok.chg⟩⟩
 refine .skip<|.seq<|.s<|.z (.ldx T.ag44 ok.m1)<|.z (.sl_h ((l.take 16).length) T.el44 T.sz5 (hb:=by (simp;omega)))<|?_;have ok:=ok.d0 (rdI (fun j=>F j∧j<h.size) (fun j=>E j∧j<h.size) (a,(l.take 16).length,c) (l.take 16)) ((ok.r0).pre (l2:=l.take 16) (List.take_prefix _ _)) (fun _ h=>h);refine .z (.bts T.el44 T.in5 T.st9 (ok.r0).by)<|.z .tNeB<|.nil<|.cd (fun C1=>?_) (fun C1=>?_)
 ·
  refine .s<|.z (.bd #[.int .i64 0,.int .i64 0,.int .i64 0,.int .i64 0,.int .i64 0,.int .i64 0] T.zr38 T.pl38 (by kernel_rfl))<|.ur' (.stW (vs:=[.int .i64 0,.int .i64 0,.int .i64 0,.int .i64 0,.int .i64 0,.int .i64 0]) T.sz38 ok (oneL rfl)) ?_;rintro η4 ⟨ok,cg⟩;refine .z .asI<|.nil<|.ret ⟨.tuple #[.agg #[.int .i64 0,.int .i64 0,.int .i64 0,.int .i64 0,.int .i64 0,.int .i64 0],.int .i64 8],Res.many (vs:=[.agg #[.int .i64 0,.int .i64 0,.int .i64 0,.int .i64 0,.int .i64 0,.int .i64 0],.int .i64 8]) rfl ⟨⟨_,rfl,load_ag T.ag38 ok.m0 T.sz38⟩,rfl,trivial⟩ rfl,⟨by rw [dec8 (by omega) C1];rfl,ok.chg⟩⟩
 refine .skip<|.s<|.z (.mkf (vs:=[.pointer (some ⟨pb1,0,none⟩)]))<|.z .asF<|.nil<|.s<|.z .mvF<|.k 17 .dyn (dfield_any (b:=pb1) (i:=0) (F:=(fun j=>F j∧j<h.size)) (E:=(fun j=>E j∧j<h.size)) (a:=a) (c:=c) (l:=l) ok.r1 ok.m1 (by omega))<|.z .mvF<|.k 19 .dyn (dfield_any (b:=pb1) (i:=1) (F:=(fun j=>F j∧j<h.size)) (E:=(fun j=>E j∧j<h.size)) (a:=a) (c:=c) (l:=l) ok.r1 ok.m1 (by omega))<|.z .mvF<|.k 21 .dyn (dfield_any (b:=pb1) (i:=2) (F:=(fun j=>F j∧j<h.size)) (E:=(fun j=>E j∧j<h.size)) (a:=a) (c:=c) (l:=l) ok.r1 ok.m1 (by omega))<|.z .mvF<|.k 23 .dyn (dfield_any (b:=pb1) (i:=3) (F:=(fun j=>F j∧j<h.size)) (E:=(fun j=>E j∧j<h.size)) (a:=a) (c:=c) (l:=l) ok.r1 ok.m1 (by omega))<|.z .mvF<|.k 25 .dyn (dfield_any (b:=pb1) (i:=4) (F:=(fun j=>F j∧j<h.size)) (E:=(fun j=>E j∧j<h.size)) (a:=a) (c:=c) (l:=l) ok.r1 ok.m1 (by omega))<|.z .mvF<|.k 27 .dyn (dfield_any (b:=pb1) (i:=5) (F:=(fun j=>F j∧j<h.size)) (E:=(fun j=>E j∧j<h.size)) (a:=a) (c:=c) (l:=l) ok.r1 ok.m1 (by omega))<|.z (.bd #[.int .i64 ((hdAt l 0:Nat):Int),.int .i64 ((hdAt l 1:Nat):Int),.int .i64 ((hdAt l 2:Nat):Int),.int .i64 ((hdAt l 3:Nat):Int),.int .i64 ((hdAt l 4:Nat):Int),.int .i64 ((hdAt l 5:Nat):Int)] T.zr38 T.pl38 (by kernel_rfl))<|.a' 5 (.alA T.zr38 ok) ?_;rintro _ η5 ⟨pb3,rfl,ok,xe⟩;refine .ur' (.stW (vs:=[.int .i64 ((hdAt l 0:Nat):Int),.int .i64 ((hdAt l 1:Nat):Int),.int .i64 ((hdAt l 2:Nat):Int),.int .i64 ((hdAt l 3:Nat):Int),.int .i64 ((hdAt l 4:Nat):Int),.int .i64 ((hdAt l 5:Nat):Int)]) T.sz38 ok (oneL rfl)) ?_;rintro η6 ⟨ok,cg⟩;refine .nil ?_;refine .seq<|.seq<|?_;have ok:=ok.d1 (rdI (fun j=>F j∧j<h.size) (fun j=>E j∧j<h.size) (a,(l.take 64).length,c) (l.take 64)) ((ok.r1).pre (l2:=l.take 64) (List.take_prefix _ _)) (fun _ h=>h);refine .a 17 (fun fl hh=>Hp h none_ [boxI pb3 38 [.int .i64 ((hdAt l 0:Nat):Int),.int .i64 ((hdAt l 1:Nat):Int),.int .i64 ((hdAt l 2:Nat):Int),.int .i64 ((hdAt l 3:Nat):Int),.int .i64 ((hdAt l 4:Nat):Int),.int .i64 ((hdAt l 5:Nat):Int)],boxI pb2 38 [.int .i64 0,.int .i64 0,.int .i64 0,.int .i64 0,.int .i64 0,.int .i64 0],boxI pb1 44 [.slice a l.length c]] [rdI (fun j=>F j∧j<h.size) (fun j=>E j∧j<h.size) (a,(l.take 64).length,c) (l.take 64),rdI (fun j=>F j∧j<h.size) (fun j=>E j∧j<h.size) (a,(l.take 16).length,c) (l.take 16),rdI (fun j=>F j∧j<h.size) (fun j=>E j∧j<h.size) (a,l.length,c) l] hh) mixed ?_;have hS:=ok;refine .lw 0 false rfl 29 hS (fun _ _ hS=>.ldb T.ag38 hS.m0 T.sz38)<|.g 1 false rfl 30 hS (fun _=>.bd #[.int .i64 0,.int .i64 0,.int .i64 0,.int .i64 0,.int .i64 0,.int .i64 0] T.zr38 T.pl38 (by kernel_rfl))<|.g 2 false rfl 31 hS (fun _=>.stE (k:=.i64) [((hdAt l 0:Nat):Int),((hdAt l 1:Nat):Int),((hdAt l 2:Nat):Int),((hdAt l 3:Nat):Int),((hdAt l 4:Nat):Int),((hdAt l 5:Nat):Int)] [0,0,0,0,0,0] T.ste38 T.in3 T.ag3 T.stg38 T.stp38)<|.g 3 false rfl 32 hS (fun _=>.mvB)<|.sd (fun G32=>?_) (fun G32=>?_)
 ·
  refine .x 4 false rfl 33 hS<|.x 5 false rfl 34 hS<|.x 6 false rfl 35 hS<|.g 7 false rfl 36 hS (fun _=>.pkt)<|.g 8 false rfl 37 hS (fun _=>.mvB)<|.x 9 false rfl 38 hS<|.x 10 false rfl 39 hS<|.x 11 false rfl 40 hS<|.x 12 false rfl 41 hS<|.x 13 false rfl 42 hS<|.x 14 false rfl 43 hS<|.x 15 false rfl 44 hS<|.g 16 false rfl 45 hS (fun _=>.pkt)<|.e ?_;refine .ct<|.s<|.z (.bd #[.int .i64 0,.int .i64 0,.int .i64 0,.int .i64 0,.int .i64 0,.int .i64 0] T.zr38 T.pl38 (by kernel_rfl))<|.ur' (.stW (vs:=[.int .i64 0,.int .i64 0,.int .i64 0,.int .i64 0,.int .i64 0,.int .i64 0]) T.sz38 ok.n1 (oneL rfl)) ?_;rintro η7 ⟨ok,cg⟩;refine .z .asI<|.nil<|.ret ⟨.tuple #[.agg #[.int .i64 0,.int .i64 0,.int .i64 0,.int .i64 0,.int .i64 0,.int .i64 0],.int .i64 14],Res.many (vs:=[.agg #[.int .i64 0,.int .i64 0,.int .i64 0,.int .i64 0,.int .i64 0,.int .i64 0],.int .i64 14]) rfl ⟨⟨_,rfl,load_ag T.ag38 ok.m0 T.sz38⟩,rfl,trivial⟩ rfl,⟨by rw [dec14 (by omega) (by simpa using C1) (fun q=>by (simp only [List.cons.injEq] at G32;have h1:=q.1.1;simp [decH,okZ,G32.1] at h1))];rfl,ok.chg⟩⟩
 refine .lw 4 false rfl 33 hS (fun _ _ hS=>.ldb T.ag38 hS.m0 T.sz38)<|.o1 5<|.c' false rfl 34 .func (check_any (z0:=((hdAt l 0:Nat):Int)) (z1:=((hdAt l 1:Nat):Int)) (z2:=((hdAt l 2:Nat):Int)) (z3:=((hdAt l 3:Nat):Int)) (z4:=((hdAt l 4:Nat):Int)) (z5:=((hdAt l 5:Nat):Int)) (by omega) (by omega) (by omega) (by omega) (by omega) (by omega)) ?_;rintro _ η8 ⟨rfl,hx⟩;have ok:=ok.ext hx;refine ⟨ok,?_⟩;have hS:=ok;refine .g 6 false rfl 35 hS (fun _=>.neq)<|.g 7 false rfl 36 hS (fun _=>.pkf)<|.g 8 false rfl 37 hS (fun _=>.mvB)<|.sd (fun G37=>?_) (fun G37=>?_)
 ·
  refine .x 9 false rfl 38 hS<|.x 10 false rfl 39 hS<|.x 11 false rfl 40 hS<|.x 12 false rfl 41 hS<|.x 13 false rfl 42 hS<|.x 14 false rfl 43 hS<|.x 15 false rfl 44 hS<|.g 16 false rfl 45 hS (fun _=>.pkt)<|.e ?_;refine .ct<|.s<|.z (.bd #[.int .i64 0,.int .i64 0,.int .i64 0,.int .i64 0,.int .i64 0,.int .i64 0] T.zr38 T.pl38 (by kernel_rfl))<|.ur' (.stW (vs:=[.int .i64 0,.int .i64 0,.int .i64 0,.int .i64 0,.int .i64 0,.int .i64 0]) T.sz38 ok.n1 (oneL rfl)) ?_;rintro η9 ⟨ok,cg⟩;refine .z .asI<|.nil<|.ret ⟨.tuple #[.agg #[.int .i64 0,.int .i64 0,.int .i64 0,.int .i64 0,.int .i64 0,.int .i64 0],.int .i64 14],Res.many (vs:=[.agg #[.int .i64 0,.int .i64 0,.int .i64 0,.int .i64 0,.int .i64 0,.int .i64 0],.int .i64 14]) rfl ⟨⟨_,rfl,load_ag T.ag38 ok.m0 T.sz38⟩,rfl,trivial⟩ rfl,⟨by rw [dec14 (by omega) (by simpa using C1) (fun q=>by (have h1:chkC (decH l)=0:=chk_y q.1;exact G37 (by rw [show chkC ⟨_,_,_,_,_,_⟩=0 from h1];rfl)))];rfl,ok.chg⟩⟩
 refine .lw 9 false rfl 38 hS (fun _ _ hS=>.ldb T.ag38 hS.m0 T.sz38)<|.lw 12 false rfl 41 hS (fun _ _ hS=>.ldx T.ag44 hS.m2)<|.g 13 false rfl 42 hS (fun _=>.sl_h ((l.take 64).length) T.el44 T.sz5 (hb:=by (simp;omega)))<|.lw 14 false rfl 43 hS (fun _ _ hS=>.bts T.el44 T.in5 T.st9 (hS.r0).by)<|.o1 10<|.c' false rfl 39 .func (hbytes_any (n0:=(hdAt l 0)) (n1:=(hdAt l 1)) (n2:=(hdAt l 2)) (n3:=(hdAt l 3)) (n4:=(hdAt l 4)) (n5:=(hdAt l 5)) (by omega) (by omega) (by omega) (by omega) (by omega) (by omega)) ?_;rintro _ η10 own;obtain ⟨ya1,yc1,rfl⟩:=own.formB;have ok:=ok.own own;refine ⟨ok.n3.n3.n3.k3,?_⟩;have hS:=ok.n3.n3.n3.k3;refine .str (fun _ hh=>Hp h none_ [capI 1 5 (ya1,(hdB [(hdAt l 0),(hdAt l 1),(hdAt l 2),(hdAt l 3),(hdAt l 4),(hdAt l 5)]).length,yc1) ((hdB [(hdAt l 0),(hdAt l 1),(hdAt l 2),(hdAt l 3),(hdAt l 4),(hdAt l 5)]).map bv),boxI pb3 38 [.int .i64 ((hdAt l 0:Nat):Int),.int .i64 ((hdAt l 1:Nat):Int),.int .i64 ((hdAt l 2:Nat):Int),.int .i64 ((hdAt l 3:Nat):Int),.int .i64 ((hdAt l 4:Nat):Int),.int .i64 ((hdAt l 5:Nat):Int)],boxI pb2 38 [.int .i64 0,.int .i64 0,.int .i64 0,.int .i64 0,.int .i64 0,.int .i64 0],boxI pb1 44 [.slice a l.length c]] [rdI (fun j=>F j∧j<h.size) (fun j=>E j∧j<h.size) (a,(l.take 64).length,c) (l.take 64),rdI (fun j=>F j∧j<h.size) (fun j=>E j∧j<h.size) (a,(l.take 16).length,c) (l.take 16),rdI (fun j=>F j∧j<h.size) (fun j=>E j∧j<h.size) (a,l.length,c) l] hh) (fun _ _ h=>h.tM) ?_;have hS:=ok;refine .lw 11 false rfl 40 hS (fun _ _ hS=>.bts T.el44 T.in5 T.st9 (hS.m0).sl)<|.g 15 false rfl 44 hS (fun _=>.tNeB)<|.g 16 false rfl 45 hS (fun _=>.pkf)<|.e ?_;refine .cd (fun C2=>?_) (fun C2=>?_)
 ·
  refine .s<|.z (.bd #[.int .i64 0,.int .i64 0,.int .i64 0,.int .i64 0,.int .i64 0,.int .i64 0] T.zr38 T.pl38 (by kernel_rfl))<|.ur' (.stW (vs:=[.int .i64 0,.int .i64 0,.int .i64 0,.int .i64 0,.int .i64 0,.int .i64 0]) T.sz38 ok.n2 (oneL rfl)) ?_;rintro η11 ⟨ok,cg⟩;refine .z .asI<|.nil<|.ret ⟨.tuple #[.agg #[.int .i64 0,.int .i64 0,.int .i64 0,.int .i64 0,.int .i64 0,.int .i64 0],.int .i64 14],Res.many (vs:=[.agg #[.int .i64 0,.int .i64 0,.int .i64 0,.int .i64 0,.int .i64 0,.int .i64 0],.int .i64 14]) rfl ⟨⟨_,rfl,load_ag T.ag38 ok.m0 T.sz38⟩,rfl,trivial⟩ rfl,⟨by rw [dec14 (by omega) (by simpa using C1) (fun q=>C2 q.2)];rfl,ok.chg⟩⟩
 refine .skip<|.s<|.z (.ldb T.ag38 ok.m1 T.sz38)<|.ur' (.stW (vs:=[.int .i64 ((hdAt l 0:Nat):Int),.int .i64 ((hdAt l 1:Nat):Int),.int .i64 ((hdAt l 2:Nat):Int),.int .i64 ((hdAt l 3:Nat):Int),.int .i64 ((hdAt l 4:Nat):Int),.int .i64 ((hdAt l 5:Nat):Int)]) T.sz38 ok.n2 (oneL rfl)) ?_;rintro η12 ⟨ok,cg⟩;refine .z .asI<|.nil<|.ret ⟨.tuple #[.agg #[.int .i64 ((hdAt l 0:Nat):Int),.int .i64 ((hdAt l 1:Nat):Int),.int .i64 ((hdAt l 2:Nat):Int),.int .i64 ((hdAt l 3:Nat):Int),.int .i64 ((hdAt l 4:Nat):Int),.int .i64 ((hdAt l 5:Nat):Int)],.int .i64 0],Res.many (vs:=[.agg #[.int .i64 ((hdAt l 0:Nat):Int),.int .i64 ((hdAt l 1:Nat):Int),.int .i64 ((hdAt l 2:Nat):Int),.int .i64 ((hdAt l 3:Nat):Int),.int .i64 ((hdAt l 4:Nat):Int),.int .i64 ((hdAt l 5:Nat):Int)],.int .i64 0]) rfl ⟨⟨_,rfl,load_ag T.ag38 ok.m0 T.sz38⟩,rfl,trivial⟩ rfl,⟨by rw [dec0 (by omega) (by simpa using C1) ⟨chk_o G37,by simpa using C2⟩];rfl,ok.chg⟩⟩
end Go.Proofs.YtndlpekckpdncaaGreat
namespace Go.HL
open Go
@[reducible] def apart (l:List Itm):Prop:=l.Pairwise fun (a b:Itm)=>∀j,a.F j→¬b.F j
@[reducible] def starI (l:List Itm):Itm:=⟨fun h=>(∀i∈l,i.p h)∧apart l,fun j=>∃i∈l,i.F j,fun _ _ _ c d hp=>⟨fun i hi=>i.st _ _ _ c (fun j hj=>d j ⟨i,hi,hj⟩) (hp.1 i hi),hp.2⟩⟩
section
variable {h0 h h' h1:Heap} {D G:Nat→Prop} {M R:List Itm} {a b c x y:Itm} {l l':List Itm}
theorem Hp.unstar (ok:Hp h0 D (starI l::M) R h):Hp h0 D (l++M) R h:=by
 have hs:=(ok.m _ List.mem_cons_self);have hmm:=List.pairwise_cons.1 ok.mm;refine ⟨ok.chg,fun i hi=>?_,ok.r,List.pairwise_append.2 ⟨hs.1.2,hmm.2,fun p hp q hq j hj hj2=>hmm.1 q hq j ⟨p,hp,hj⟩ hj2⟩,fun p hp q hq j hj hj2=>?_⟩
 ·rcases List.mem_append.1 hi with hi | hi
  ·exact ⟨hs.1.1 i hi,fun j hj=>hs.2 j ⟨i,hi,hj⟩⟩
  ·exact ok.m i (List.mem_cons_of_mem _ hi)
 ·rcases List.mem_append.1 hp with hp | hp
  ·exact ok.mr _ List.mem_cons_self q hq j ⟨p,hp,hj⟩ hj2
  ·exact ok.mr p (List.mem_cons_of_mem _ hp) q hq j hj hj2
theorem Hp.star (ok:Hp h0 D (l++M) R h):Hp h0 D (starI l::M) R h:=by
 have hmm:=List.pairwise_append.1 ok.mm;refine ⟨ok.chg,fun i hi=>?_,ok.r,List.pairwise_cons.2 ⟨fun q hq j ⟨p,hp,hj⟩ hj2=>hmm.2.2 p hp q hq j hj hj2,hmm.2.1⟩,fun p hp q hq j hj hj2=>?_⟩
 ·rcases List.mem_cons.1 hi with rfl | hi
  ·exact ⟨⟨fun i hi=>(ok.m i (List.mem_append_left _ hi)).1,hmm.1⟩,fun j ⟨i,hi,hj⟩=>(ok.m i (List.mem_append_left _ hi)).2 j hj⟩
  ·exact ok.m i (List.mem_append_right _ hi)
 ·rcases List.mem_cons.1 hp with rfl | hp
  ·obtain ⟨i,hi,hj⟩:=hj;exact ok.mr i (List.mem_append_left _ hi) q hq j hj hj2
  ·exact ok.mr p (List.mem_append_right _ hp) q hq j hj hj2
theorem Hp.starP (ok:Hp h0 D (starI l::M) R h) (p:l'.Perm l):Hp h0 D (starI l'::M) R h:=(ok.unstar.perm (p.append_right M)).star
theorem Hp.star2 (ok:Hp h0 D (starI (a::b::l)::M) R h):Hp h0 D (a::b::starI l::M) R h:=by
 have o:Hp h0 D (starI l::a::b::M) R h:=(ok.unstar.perm (M':=l++a::b::M) (by simpa using (List.perm_append_comm (l₁:=l) (l₂:=[a,b])).append_right M)).star;exact o.n2.n2
theorem Hp.unstar2 (ok:Hp h0 D (a::b::starI l::M) R h):Hp h0 D (starI (a::b::l)::M) R h:=
 Hp.star ((ok.n2.unstar).perm (M':=a::b::(l++M)) (by simpa using (List.perm_append_comm (l₁:=[a,b]) (l₂:=l)).append_right M))
end
end Go.HL
namespace Go.Proofs.YtndlpekckpdncaaGreat
open Go Go.HL
structure Chn where
 kind:Nat
 pos:Nat
 b:List UInt8
def longN (b:List UInt8) (n:Nat):List UInt8:=b.take n++List.replicate (n-b.length) 0
theorem longN_len (b:List UInt8) (n:Nat):(longN b n).length=n:=by simp [longN];omega
theorem longN_le {b:List UInt8} {n:Nat} (h:n≤b.length):longN b n=b.take n:=by simp [longN,Nat.sub_eq_zero_of_le h]
theorem longN_ge {b:List UInt8} {n:Nat} (h:b.length≤n):longN b n=b++List.replicate (n-b.length) 0:=by simp [longN,List.take_of_length_le h]
def patchN (o:List UInt8) (p:Nat) (b:List UInt8):List UInt8:=o.take p++b++o.drop (p+b.length)
theorem patchN_len {o:List UInt8} {p:Nat} {b:List UInt8} (h:p+b.length≤o.length):(patchN o p b).length=o.length:=by simp [patchN];omega
def doneN (c:Chn) (b:List UInt8) (here:Bool):List UInt8 × Bool:=
 if c.kind=0 then (patchN (longN b (max b.length (c.pos+c.b.length))) c.pos c.b,true) else if c.kind=1∧here=true then (longN b c.pos,true) else ([],false)
structure Fl where
 now:List UInt8
 safe:List UInt8
 here:Bool
 was:Bool
 opn:List Chn
structure Dk where
 fs:List UInt8→Option Fl
 dark:Bool
 left:Int
 chg:Int
def put1 (f:List UInt8→Option Fl) (n:List UInt8) (v:Option Fl):List UInt8→Option Fl:=fun m=>if m=n then v else f m
theorem put1_at (f:List UInt8→Option Fl) (n:List UInt8) (v:Option Fl):put1 f n v n=v:=by simp [put1]
theorem put1_ne {f:List UInt8→Option Fl} {n m:List UInt8} {v:Option Fl} (h:m≠n):put1 f n v m=f m:=by simp [put1,h]
def noF:Fl:=⟨[],[],false,false,[]⟩
def wrongN (d:Dk) (n:List UInt8) (zs:List Int):Nat:=if n.length<1∨32<n.length∨(∃z∈zs,z<0) then 1 else if d.dark=true then 13 else 0
def powerN (d:Dk):Dk × Nat:=if d.left=0 then (⟨d.fs,true,d.left,d.chg⟩,13) else (⟨d.fs,d.dark,if 0<d.left then d.left-1 else d.left,d.chg+1⟩,0)
def chgF (f:Fl) (c:Chn):Fl:=⟨(doneN c f.now f.here).1,f.safe,(doneN c f.now f.here).2,f.was,f.opn++[c]⟩
def doN (d:Dk) (n:List UInt8) (c:Chn):Dk × Nat:=
 if d.left=0 then powerN d else (⟨put1 d.fs n (some (chgF ((d.fs n).getD noF) c)),d.dark,if 0<d.left then d.left-1 else d.left,d.chg+1⟩,0)
def thereN (d:Dk) (n:List UInt8):Bool:=match d.fs n with | some f=>f.here | none=>false
def writeN (d:Dk) (n:List UInt8) (pos:Int) (b:List UInt8):Dk × Nat:=
 if wrongN d n [pos]≠0 then (d,wrongN d n [pos]) else if 16777216<pos∨16777216-pos<b.length then (d,5) else doN d n ⟨0,pos.toNat,b⟩
def truncN (d:Dk) (n:List UInt8) (z:Int):Dk × Nat:=
 if wrongN d n [z]≠0 then (d,wrongN d n [z]) else if thereN d n=false then (d,4) else if 16777216<z then (d,5) else doN d n ⟨1,z.toNat,[]⟩
def removeN (d:Dk) (n:List UInt8):Dk × Nat:=
 if wrongN d n []≠0 then (d,wrongN d n []) else if thereN d n=false then (d,4) else doN d n ⟨2,0,[]⟩
def settleF (f:Fl):Option Fl:=if f.here=true then some ⟨f.now,f.now,true,true,[]⟩ else none
def syncN (d:Dk) (n:List UInt8):Dk × Nat:=
 if wrongN d n []≠0 then (d,wrongN d n []) else match d.fs n with
  | none=>(d,4)
  | some f=>if f.here=false∧f.opn=[] then (d,4) else if d.left=0 then powerN d else (⟨put1 d.fs n (settleF f),d.dark,if 0<d.left then d.left-1 else d.left,d.chg+1⟩,0)
def readN (d:Dk) (n:List UInt8) (pos z:Int):List UInt8 × Nat:=
 if wrongN d n [pos,z]≠0 then ([],wrongN d n [pos,z]) else match d.fs n with
  | none=>([],4)
  | some f=>if f.here=false then ([],4) else ((f.now.drop pos.toNat).take z.toNat,0)
def sizeN (d:Dk) (n:List UInt8):Nat × Bool:=if d.dark=true∨thereN d n=false then (0,false) else (((d.fs n).getD noF).now.length,true)
structure ChOk (c:Chn):Prop where
 kind:c.kind≤2
 fit:c.pos+c.b.length≤16777216
structure FlOk (f:Fl):Prop where
 now:f.now.length≤16777216
 safe:f.safe.length≤16777216
 opn:∀c∈f.opn,ChOk c
structure DkOk (d:Dk):Prop where
 fs:∀n f,d.fs n=some f→FlOk f∧(f.opn.length:Int)≤d.chg
 chg:0≤d.chg
 left:d.left≤9223372036854775807
 cnt:∃ks:List (List UInt8),(ks.length:Int)≤d.chg∧∀n f,d.fs n=some f→n∈ks∧n.length≤32
theorem doneN_len {c:Chn} {b:List UInt8} {here:Bool} (hc:ChOk c) (hb:b.length≤16777216):(doneN c b here).1.length≤16777216:=by
 have h1:=hc.fit;unfold doneN;split
 ·rw [patchN_len (by rw [longN_len];omega),longN_len];omega
 ·split
  ·rw [longN_len];omega
  ·simp
theorem DkOk.power {d:Dk} (k:DkOk d):DkOk (powerN d).1:=by
 unfold powerN;split
 ·exact ⟨k.fs,k.chg,k.left,k.cnt⟩
 ·refine ⟨fun n f h=>⟨(k.fs n f h).1,?_⟩,?_,?_,let ⟨ks,h1,h2⟩:=k.cnt;⟨ks,(by simp only;omega),h2⟩⟩
  ·have:=(k.fs n f h).2;simp only;omega
  ·have:=k.chg;simp only;omega
  ·have:=k.left;simp only;split<;>omega
theorem wrongN_ok {d:Dk} {n:List UInt8} {zs:List Int} (h:wrongN d n zs=0):1≤n.length∧n.length≤32∧(∀z∈zs,0≤z)∧d.dark=false:=by
 unfold wrongN at h;split at h
 ·cases h
 ·rename_i h1;split at h
  ·cases h
  ·rename_i h2;refine ⟨by omega,by omega,fun z hz=>?_,by simpa using h2⟩;by_cases h3:z<0
   ·exact absurd (.inr (.inr ⟨z,hz,h3⟩)) h1
   ·omega
theorem noF_ok:FlOk noF:=⟨by simp [noF],by simp [noF],by simp [noF]⟩
theorem DkOk.getD {d:Dk} (k:DkOk d) (n:List UInt8):FlOk ((d.fs n).getD noF)∧((((d.fs n).getD noF).opn.length:Nat):Int)≤d.chg:=by
 cases h:d.fs n with
 | none=>exact ⟨noF_ok,by simpa [noF] using k.chg⟩
 | some f=>exact k.fs n f h
theorem DkOk.do {d:Dk} (k:DkOk d) {n:List UInt8} {c:Chn} (hc:ChOk c) (hn:n.length≤32):DkOk (doN d n c).1:=by
 unfold doN;split
 ·exact k.power
 ·have hg:=k.getD n;refine ⟨fun m f h=>?_,by have:=k.chg;simp only;omega,by have:=k.left;simp only;split<;>omega,let ⟨ks,h1,h2⟩:=k.cnt;⟨n::ks,(by simp only [List.length_cons];omega),fun m f h=>?_⟩⟩
  rotate_left
  ·simp only [put1] at h;split at h
   ·rename_i hm;subst hm;exact ⟨List.mem_cons_self,hn⟩
   ·exact ⟨List.mem_cons_of_mem _ (h2 m f h).1,(h2 m f h).2⟩
  simp only [put1] at h;split at h
  ·injection h with h;subst h;exact ⟨⟨doneN_len hc hg.1.now,hg.1.safe,fun x hx=>(List.mem_append.1 hx).elim (hg.1.opn x) fun h=>by rw [List.mem_singleton.1 h];exact hc⟩,by have:=hg.2;simp [chgF];omega⟩
  ·have:=(k.fs m f h).2;exact ⟨(k.fs m f h).1,by simp only;omega⟩
theorem settleF_ok {f g:Fl} (k:FlOk f) (h:settleF f=some g):FlOk g∧g.opn=[]:=by
 unfold settleF at h;split at h
 ·injection h with h;subst h;exact ⟨⟨k.now,k.now,by simp⟩,rfl⟩
 ·cases h
theorem DkOk.sync {d:Dk} (k:DkOk d) {n:List UInt8} : DkOk (syncN d n).1:=by
 unfold syncN;split
 ·exact k
 ·split
  ·exact k
  ·rename_i f hf;split
   ·exact k
   ·split
    ·exact k.power
    ·refine ⟨fun m g h=>?_,by have:=k.chg;simp only;omega,by have:=k.left;simp only;split<;>omega,let ⟨ks,h1,h2⟩:=k.cnt;⟨ks,(by simp only;omega),fun m g h=>?_⟩⟩
     rotate_left
     ·simp only [put1] at h;split at h
      ·rename_i hm;subst hm;exact h2 _ _ hf
      ·exact h2 m g h
     simp only [put1] at h;split at h
     ·have h1:=settleF_ok (k.fs n f hf).1 h;exact ⟨h1.1,by rw [h1.2];have:=k.chg;simp;omega⟩
     ·have:=(k.fs m g h).2;exact ⟨(k.fs m g h).1,by simp only;omega⟩
theorem DkOk.remove {d:Dk} (k:DkOk d) {n:List UInt8} : DkOk (removeN d n).1:=by
 unfold removeN;split
 ·exact k
 ·rename_i h0;have hn:=(wrongN_ok (d:=d) (n:=n) (zs:=[]) (by simpa using h0)).2.1;split
  ·exact k
  ·exact k.do ⟨by simp,by simp⟩ hn
def newN:Dk:=⟨fun _=>none,false,-1,0⟩
theorem newN_ok:DkOk newN:=⟨fun _ _ h=>(by cases h),by simp [newN],by simp [newN],⟨[],by simp [newN],fun _ _ h=>(by cases h)⟩⟩
theorem RdL.isNone {α:Type} [Rep α] {h:Heap} {F E:Nat→Prop} {a:Option Addr} {n c:Nat} {l:List α} (r:RdL h F E (a,n,c) l) (ha:a.isNone=true):l=[]:=by
 rcases Nat.eq_zero_or_pos l.length with h0 | h0
 ·exact List.eq_nil_of_length_eq_zero h0
 ·obtain ⟨b,o,e,_⟩:=r.at' h0;simp only at e;subst e;cases ha
theorem bclone_any {h:Heap} {F E:Nat→Prop} {a:Option Addr} {c:Nat} {l:List UInt8} (hl:RdL h F E (a,l.length,c) l) (hN:l.length≤1000000000) :
  HC Tryz.prog 84 #[.slice a l.length c] h (fun v h'=>Own h h' 1 5 v (l.map bv)):=by
 have hc2:=hl.m;have hc1:l.length≤c:=hl.c;simp only at hc2;have ok:=(Hp.nil h none_).arg hl;refine HC.go Tryz.func84 8 ?_;refine .s<|.z .asS<|.nil<|.seq<|.s<|.z .mvS<|.z (.sEq T.el44)<|.nil<|.cond (fun C0=>?_) (fun C0=>?_)
 ·
  obtain rfl:=RdL.isNone hl C0;refine .s<|.z .asS<|.nil<|.ret ⟨.slice none 0 0,Res.one rfl rfl,Own.nil ok.chg _ _⟩
 refine .skip<|.s<|.a' 5 (.lit [] (cs:=[]) T.el44 T.sz5 T.zr5 ok trivial) ?_;rintro _ η1 ⟨pb1,rfl,ok,xe⟩;have ok:=ok.cx (ys:=([]:List UInt8).map bv) rfl;refine .z .mvS<|.a' 7 (.app (news:=l.map bv) T.el44 T.sz5 T.by5 T.zr5 ok (ok.r0).by bv_all (by simp only [List.length_map,List.length_append,List.length_take,List.length_cons,List.length_nil,List.length_replicate,List.length_range,fixedN_len,sealN_len];omega)) ?_;rintro _ η2 ⟨ya1,yn1,yc1,rfl,ok,ap⟩;have ok:=ok.cx (ys:=(l).map bv) (by simp [bv]);obtain rfl:yn1=(l).length:=ok.lenB;refine .z .asS<|.nil<|.ret ⟨.slice ya1 ((l).length) yc1,Res.one rfl rfl,ok.toOwn⟩
instance:Rep Fr where
 k:=3
 rd h F cs f:=∃x:SV,cs=[iv f.page,iv f.commit,sv x]∧RdL h F F x f.b
 kpos:=by omega
 len:=fun ⟨_,h,_⟩=>by rw [h];rfl
 one:=fun ⟨_,h,_⟩ u hu=>by
  rw [h] at hu;simp only [List.mem_cons,List.not_mem_nil,or_false] at hu;rcases hu with rfl | rfl | rfl<;>rfl
 st:=fun c d ⟨x,e,r⟩=>⟨x,e,r.st c d d⟩
 mono:=fun d ⟨x,e,r⟩=>⟨x,e,r.mono d d⟩
 lt:=fun ⟨x,e,r⟩=>⟨x,e,r.lt⟩
@[reducible] def frN (l:List Fr) (i:Nat):Fr:=l[i]?.getD ⟨0,0,[]⟩
def iput:List (Int × Nat)→Int→Nat→List (Int × Nat)
 | [],k,v=>[(k,v)]
 | p::l,k,v=>if p.1=k then (k,v)::l else p::iput l k v
theorem iput_keys (k:Int) (i:Nat):∀m:List (Int × Nat),(iput m k i).map (·.1)=if k∈m.map (·.1) then m.map (·.1) else m.map (·.1)++[k]
 | []=>by simp [iput]
 | p::m=>by
  have ih:=iput_keys k i m;unfold iput;by_cases h:p.1=k
  ·simp [h]
  ·rw [if_neg h,List.map_cons,ih];have h2:¬k=p.1:=fun e=>h e.symm;by_cases h3:k∈m.map (·.1)
   ·rw [if_pos h3,if_pos (by simp only [List.map_cons,List.mem_cons];exact .inr h3)];rfl
   ·rw [if_neg h3,if_neg (by simp only [List.map_cons,List.mem_cons,not_or];exact ⟨h2,h3⟩)];rfl
theorem iput_nodup {m:List (Int × Nat)} (h:(m.map (·.1)).Nodup) (k:Int) (i:Nat):((iput m k i).map (·.1)).Nodup:=by
 rw [iput_keys];split
 ·exact h
 ·rename_i h2;exact List.nodup_append.2 ⟨h,by simp,fun a ha b hb=>by
   rw [List.mem_singleton] at hb;subst hb;rintro rfl;exact h2 ha⟩
theorem mem_iput {m:List (Int × Nat)} (h:(m.map (·.1)).Nodup) {k:Int} {i:Nat} {p:Int × Nat} : p∈iput m k i↔p=(k,i)∨(p∈m∧p.1≠k):=by
 induction m with
 | nil=>simp [iput]
 | cons q m ih=>
  rw [List.map_cons,List.nodup_cons] at h;unfold iput;split
  ·rename_i hq;simp only [List.mem_cons];constructor
   ·rintro (h1 | h1)
    ·exact .inl h1
    ·refine .inr ⟨.inr h1,fun e=>h.1 ?_⟩;rw [hq,←e];exact List.mem_map.2 ⟨p,h1,rfl⟩
   ·rintro (h1 | ⟨h1 | h1,h2⟩)
    ·exact .inl h1
    ·subst h1;exact absurd hq h2
    ·exact .inr h1
  ·rename_i hq;simp only [List.mem_cons,ih h.2];constructor
   ·rintro (h1 | h1 | h1)
    ·subst h1;exact .inr ⟨.inl rfl,hq⟩
    ·exact .inl h1
    ·exact .inr ⟨.inr h1.1,h1.2⟩
   ·rintro (h1 | ⟨h1 | h1,h2⟩)
    ·exact .inr (.inl h1)
    ·exact .inl h1
    ·exact .inr (.inr ⟨h1,h2⟩)
section
variable (l:List Fr)
def stepM (m:List (Int × Nat)) (i:Nat):List (Int × Nat):=
 if (frN l i).commit=0 then iput m (frN l i).page i else (iput m (frN l i).page i).filter fun p=>decide (p.1≤(frN l i).commit)
def stepC (c:Int) (i:Nat):Int:=if (frN l i).commit=0 then c else (frN l i).commit
def latM (k:Nat):List (Int × Nat):=(List.range k).foldl (stepM l) []
def latC (k:Nat):Int:=(List.range k).foldl (stepC l) 0
theorem latM_succ (k:Nat):latM l (k+1)=stepM l (latM l k) k:=by simp [latM,List.range_succ]
theorem latC_succ (k:Nat):latC l (k+1)=stepC l (latC l k) k:=by simp [latC,List.range_succ]
def stepI (i:Nat) (st:List Nat × Bool) (k:Nat):List Nat × Bool:=
 let s1:=if st.2=false∧(frN l i).page≤(frN l k).page then (st.1++[i],true) else st
 if (frN l k).page≠(frN l i).page then (s1.1++[k],s1.2) else s1
def insI (out:List Nat) (i:Nat):List Nat:=let st:=out.foldl (stepI l i) ([],false);if st.2 then st.1 else st.1++[i]
def stepO (out:List Nat) (i:Nat):List Nat:=
 if (frN l i).commit=0 then insI l out i else (insI l out i).filter fun k=>decide ((frN l k).page≤(frN l i).commit)
def latO (k:Nat):List Nat:=(List.range k).foldl (stepO l) []
theorem latO_succ (k:Nat):latO l (k+1)=stepO l (latO l k) k:=by simp [latO,List.range_succ]
def ins (i:Nat):List Nat→List Nat
 | []=>[i]
 | k::r=>if (frN l k).page<(frN l i).page then k::ins i r else if (frN l k).page=(frN l i).page then i::r else i::k::r
abbrev Sorted (out:List Nat):Prop:=out.Pairwise fun a b=>(frN l a).page<(frN l b).page
theorem fold_true (i:Nat):∀(r:List Nat) (acc:List Nat),r.foldl (stepI l i) (acc,true)=(acc++r.filter fun k=>decide ((frN l k).page≠(frN l i).page),true)
 | [],acc=>by simp
 | k::r,acc=>by
  have h1:stepI l i (acc,true) k=if (frN l k).page≠(frN l i).page then (acc++[k],true) else (acc,true):=by simp [stepI]
  rw [List.foldl_cons,h1,List.filter_cons];by_cases h:(frN l k).page=(frN l i).page
  ·rw [if_neg (by simpa using h),fold_true i r];simp [h]
  ·rw [if_pos h,fold_true i r];simp [h]
theorem fold_false (i:Nat):∀(r:List Nat) (acc:List Nat),Sorted l r→(let st:=r.foldl (stepI l i) (acc,false);if st.2 then st.1 else st.1++[i])=acc++ins l i r
 | [],acc,_=>by simp [ins]
 | k::r,acc,hs=>by
  have hs':=List.pairwise_cons.1 hs;rw [List.foldl_cons];rcases Int.lt_trichotomy (frN l k).page (frN l i).page with h | h | h
  ·have h1:stepI l i (acc,false) k=(acc++[k],false):=by
    have:¬(frN l i).page≤(frN l k).page:=by omega
    simp only [stepI,this,and_false,if_false];rw [if_pos (by omega)]
   rw [h1];have:=fold_false i r (acc++[k]) hs'.2;rw [this,ins,if_pos h];simp
  ·have h1:stepI l i (acc,false) k=(acc++[i],true):=by
    have:(frN l i).page≤(frN l k).page:=by omega
    simp only [stepI,this,and_self,if_true];rw [if_neg (by omega)]
   rw [h1,fold_true];have h2:(r.filter fun k=>decide ((frN l k).page≠(frN l i).page))=r:=by
    rw [List.filter_eq_self];intro a ha;have:=hs'.1 a ha;simp;omega
   rw [h2];show acc++[i]++r=acc++ins l i (k::r);rw [ins,if_neg (by omega),if_pos h];simp
  ·have h1:stepI l i (acc,false) k=(acc++[i]++[k],true):=by
    have:(frN l i).page≤(frN l k).page:=by omega
    simp only [stepI,this,and_self,if_true];rw [if_pos (by omega)]
   rw [h1,fold_true];have h2:(r.filter fun k=>decide ((frN l k).page≠(frN l i).page))=r:=by
    rw [List.filter_eq_self];intro a ha;have:=hs'.1 a ha;simp;omega
   rw [h2];show acc++[i]++[k]++r=acc++ins l i (k::r);rw [ins,if_neg (by omega),if_neg (by omega)];simp
theorem insI_eq {out:List Nat} (hs:Sorted l out) (i:Nat):insI l out i=ins l i out:=by
 have:=fold_false l i out [] hs;simpa [insI] using this
theorem mem_ins {i:Nat} : ∀ {out:List Nat},Sorted l out→∀ {k:Nat},k∈ins l i out↔k=i∨(k∈out∧(frN l k).page≠(frN l i).page)
 | [],_,k=>by simp [ins]
 | a::r,hs,k=>by
  have hs':=List.pairwise_cons.1 hs;unfold ins;split
  ·rename_i h;rw [List.mem_cons,mem_ins hs'.2,List.mem_cons];constructor
   ·rintro (h1 | h1 | h1)
    ·subst h1;exact .inr ⟨.inl rfl,by omega⟩
    ·exact .inl h1
    ·exact .inr ⟨.inr h1.1,h1.2⟩
   ·rintro (h1 | ⟨h1 | h1,h2⟩)
    ·exact .inr (.inl h1)
    ·exact .inl h1
    ·exact .inr (.inr ⟨h1,h2⟩)
  ·split
   ·rename_i h1 h2;simp only [List.mem_cons];constructor
    ·rintro (h3 | h3)
     ·exact .inl h3
     ·have:=hs'.1 k h3;exact .inr ⟨.inr h3,by omega⟩
    ·rintro (h3 | ⟨h3 | h3,h4⟩)
     ·exact .inl h3
     ·subst h3;exact absurd h2 h4
     ·exact .inr h3
   ·rename_i h1 h2;simp only [List.mem_cons];constructor
    ·rintro (h3 | h3 | h3)
     ·exact .inl h3
     ·subst h3;exact .inr ⟨.inl rfl,by omega⟩
     ·have:=hs'.1 k h3;exact .inr ⟨.inr h3,by omega⟩
    ·rintro (h3 | ⟨h3 | h3,h4⟩)
     ·exact .inl h3
     ·exact .inr (.inl h3)
     ·exact .inr (.inr h3)
theorem sorted_ins {i:Nat} : ∀ {out:List Nat},Sorted l out→Sorted l (ins l i out)
 | [],_=>by simp [ins]
 | a::r,hs=>by
  have hs':=List.pairwise_cons.1 hs;unfold ins;split
  ·rename_i h;refine List.pairwise_cons.2 ⟨fun b hb=>?_,sorted_ins hs'.2⟩;rcases (mem_ins l hs'.2).1 hb with rfl | h1
   ·exact h
   ·exact hs'.1 b h1.1
  ·split
   ·rename_i h1 h2;exact List.pairwise_cons.2 ⟨fun b hb=>by have:=hs'.1 b hb;omega,hs'.2⟩
   ·rename_i h1 h2;refine List.pairwise_cons.2 ⟨fun b hb=>?_,hs⟩;rcases List.mem_cons.1 hb with rfl | hb
    ·omega
    ·have:=hs'.1 b hb;omega
structure Lat (m:List (Int × Nat)) (out:List Nat):Prop where
 srt:Sorted l out
 mem:∀k,k∈out↔((frN l k).page,k)∈m
 key:∀p∈m,p.1=(frN l p.2).page
 nod:(m.map (·.1)).Nodup
theorem Lat.step {m:List (Int × Nat)} {out:List Nat} (h:Lat l m out) (i:Nat):Lat l (stepM l m i) (stepO l out i):=by
 have h1:Lat l (iput m (frN l i).page i) (insI l out i):=by
  rw [insI_eq l h.srt];refine ⟨sorted_ins l h.srt,fun k=>?_,fun p hp=>?_,iput_nodup h.nod _ _⟩
  ·rw [mem_ins l h.srt,mem_iput h.nod,h.mem];constructor
   ·rintro (rfl | h1)
    ·exact .inl rfl
    ·exact .inr h1
   ·rintro (h1 | h1)
    ·injection h1 with _ h1;exact .inl h1
    ·exact .inr h1
  ·rcases (mem_iput h.nod).1 hp with rfl | h1
   ·rfl
   ·exact h.key p h1.1
 unfold stepM stepO;split
 ·exact h1
 ·refine ⟨h1.srt.sublist List.filter_sublist,fun k=>?_,fun p hp=>h1.key p ((List.mem_filter.1 hp).1),h1.nod.sublist (List.filter_sublist.map _)⟩;rw [List.mem_filter,List.mem_filter,h1.mem]
theorem lat (k:Nat):Lat l (latM l k) (latO l k):=by
 induction k with
 | zero=>exact ⟨by simp [latO],by simp [latM,latO],by simp [latM],by simp [latM]⟩
 | succ k ih=>rw [latM_succ,latO_succ];exact ih.step l k
theorem latO_lt (k:Nat):∀i∈latO l k,i<k:=by
 induction k with
 | zero=>simp [latO]
 | succ k ih=>
  intro i hi;rw [latO_succ] at hi;have h2:i∈insI l (latO l k) k:=by
   unfold stepO at hi;split at hi
   ·exact hi
   ·exact (List.mem_filter.1 hi).1
  rw [insI_eq l (lat l k).srt,mem_ins l (lat l k).srt] at h2;rcases h2 with rfl | h2
  ·omega
  ·have:=ih i h2.1;omega
theorem latM_lt {k:Nat} {p:Int × Nat} (hp:p∈latM l k):p.2<k:=latO_lt l k _ (((lat l k).mem p.2).2 (by rw [←(lat l k).key p hp];exact hp))
end
open Go Go.HL
@[reducible] def vfN (l:List Fr) (xa:Nat→Option Addr) (xc:Nat→Nat) (i:Nat):List Value:=[.int .i64 (frN l i).page,.int .i64 (frN l i).commit,.slice (xa i) (frN l i).b.length (xc i)]
theorem vfN_len (l:List Fr) (xa:Nat→Option Addr) (xc:Nat→Nat) (i:Nat):(vfN l xa xc i).length=3:=rfl
structure Frs (h:Heap) (F E:Nat→Prop) (x:SV) (l:List Fr) (xa:Nat→Option Addr) (xc:Nat→Nat):Prop where
 rd:RdL h F E x l
 sl:Sl h 3 (sv x) ((List.range l.length).flatMap (vfN l xa xc))
 b:∀i,i<l.length→RdL h E E (xa i,(frN l i).b.length,xc i) (frN l i).b
theorem Frs.st {G:Nat→Prop} {h h':Heap} {F E:Nat→Prop} {x:SV} {l:List Fr} {xa:Nat→Option Addr} {xc:Nat→Nat} (c:Chg G h h') (hF:∀j,F j→¬G j) (hE:∀j,E j→¬G j) (r:Frs h F E x l xa xc):Frs h' F E x l xa xc:=by
 refine ⟨r.rd.st c hF hE,?_,fun i hi=>(r.b i hi).st c hE hE⟩;obtain ⟨a,n,cc,hv,h1,h2,h3,h4⟩:=r.sl;refine ⟨a,n,cc,hv,h1,h2,h3,fun hn=>?_⟩;obtain ⟨b,o,e,hc⟩:=h4 hn;have hx:x=(a,n,cc):=by
  obtain ⟨x1,x2,x3⟩:=x;injection hv with g1 g2 g3;simp only at g1 g2 g3;rw [g1,g2,g3]
 have hl:0<l.length:=by have:=r.rd.n;rw [hx] at this;simp only at this;omega
 obtain ⟨b2,o2,e2,hb,_⟩:=r.rd.at' hl;rw [hx,e] at e2;injection e2 with e2;injection e2 with e2 e3;subst e2;exact ⟨b,o,e,fun i v hi=>c.cell (hc i v hi) (hF b hb)⟩
@[reducible] def frsI (F E:Nat→Prop) (x:SV) (l:List Fr) (xa:Nat→Option Addr) (xc:Nat→Nat):Itm:=⟨fun h=>Frs h F E x l xa xc,fun j=>F j∨E j,fun _ _ _ c d r=>r.st c (fun j hj=>d j (.inl hj)) (fun j hj=>d j (.inr hj))⟩
theorem RdL.frs {h:Heap} {F E:Nat→Prop} {x:SV} {l:List Fr} (r:RdL h F E x l):∃xa xc,Frs h F E x l xa xc:=by
 obtain ⟨css,h1,h2⟩:=r.cells;have hex:∀i,∃y:Option Addr × Nat,i<l.length→css[i]? = some [.int .i64 (frN l i).page,.int .i64 (frN l i).commit,.slice y.1 (frN l i).b.length y.2]∧RdL h E E (y.1,(frN l i).b.length,y.2) (frN l i).b:=by
  intro i;by_cases hi:i<l.length
  ·have hic:i<css.length:=by have:=h2.1;omega
   obtain ⟨y,e,hr⟩:=h2.2 i hic hi;obtain ⟨a,c,rfl,_⟩:=hr.form;have hf:frN l i=l[i]:=by simp [frN,hi]
   refine ⟨(a,c),fun _=>⟨?_,by rw [hf];exact hr⟩⟩;rw [List.getElem?_eq_getElem hic,e,hf];rfl
  ·exact ⟨(none,0),fun h=>absurd h hi⟩
 obtain ⟨y,hy⟩:=Classical.axiomOfChoice hex;refine ⟨fun i=>(y i).1,fun i=>(y i).2,r,?_,fun i hi=>(hy i hi).2⟩;have:css.flatten=(List.range l.length).flatMap (vfN l (fun i=>(y i).1) fun i=>(y i).2):=by
  rw [List.flatMap_def];congr 1;apply List.ext_getElem?;intro i;by_cases hi:i<l.length
  ·rw [(hy i hi).1];simp [hi,vfN]
  ·rw [List.getElem?_eq_none (by have:=h2.1;omega),List.getElem?_eq_none (by simp;omega)]
 rw [←this];exact h1
theorem frs_at {h:Heap} {l:List Fr} {xa:Nat→Option Addr} {xc:Nat→Nat} {b o n c:Nat} (r:Sl h 3 (.slice (some ⟨b,o,none⟩) n c) ((List.range l.length).flatMap (vfN l xa xc))) {i j:Nat} (hi:i<l.length) {v:Value} (hv:(vfN l xa xc i)[j]? = some v):cell h b (o+i*3+j)=some v:=
 sl_at (vfN_len l xa xc) r (i:=i) (by simpa using hi) (by simpa using hv)
theorem frs_ats {h:Heap} {l:List Fr} {xa:Nat→Option Addr} {xc:Nat→Nat} {b o n c:Nat} (r:Sl h 3 (.slice (some ⟨b,o,none⟩) n c) ((List.range l.length).flatMap (vfN l xa xc))) {i:Nat} (hi:i<l.length):∀j v,(vfN l xa xc i)[j]? = some v→cell h b (o+i*3+j)=some v:=fun _ _ hv=>frs_at r hi hv
theorem Frs.pos {h:Heap} {F E:Nat→Prop} {a:Option Addr} {n c:Nat} {l:List Fr} {xa:Nat→Option Addr} {xc:Nat→Nat} (r:Frs h F E (a,n,c) l xa xc) (hp:0<l.length):∃b o,a=some ⟨b,o,none⟩∧F b:=r.rd.pos hp
end Go.Proofs.YtndlpekckpdncaaGreat
namespace Go.Proofs
open Go.Shelf
def Tryz.sortedA_ren:Go.Shelf.Ren:=⟨fun | 6=>144 | 8=>189 | 9=>68 | 11=>216 | 13=>125 | 12=>124 | 23=>170 | 24=>171 | 14=>161 | 15=>162 | 16=>163 | 17=>164 | 18=>165 | 19=>166 | 20=>167 | 21=>168 | 22=>169 | 25=>196 | 26=>197 | 27=>198 | 28=>199 | 29=>200 | 30=>201 | 31=>219 | n=>n,fun | 26=>3 | 28=>217 | 24=>24 | 0=>0 | 3=>3 | 37=>179 | 48=>89 | 50=>130 | 4=>4 | 40=>236 | 39=>235 | 45=>203 | 5=>5 | 9=>9 | 51=>265 | 55=>269 | 57=>293 | 58=>294 | 33=>49 | n=>n,fun | n=>n⟩
theorem Tryz.sortedA:Go.Proofs.SlLaysZI.n6 Tryz.prog Tryz.sortedA_ren:={
 mixed:=by kernel_rfl
 f6:=⟨Tryz.f144.name,by decide,Tryz.func144.trans (congrArg some (by kernel_rfl))⟩
 f8:=⟨Tryz.f189.name,by decide,Tryz.func189.trans (congrArg some (by kernel_rfl))⟩
 f11:=⟨Tryz.f216.name,by decide,Tryz.func216.trans (congrArg some (by kernel_rfl))⟩
 t0:=Tryz.underlying0
 a0:=Tryz.isAgg0
 z0:=Tryz.sizeOf0
 v0:=Tryz.zeroValue0
 t24:=Tryz.underlying24
 a24:=Tryz.isAgg24
 z24:=Tryz.sizeOf24
 v24:=Tryz.zeroValue24
 t26:=Tryz.underlying3
 a26:=Tryz.isAgg3
 z26:=Tryz.sizeOf3
 v26:=Tryz.zeroValue3
 t28:=Tryz.underlying217
 a28:=Tryz.isAgg217
 z28:=Tryz.sizeOf217
 v28:=Tryz.zeroValue217
 i26:=by kernel_rfl }
def Tryz.sortA_ren:Go.Shelf.Ren:=⟨fun | 5=>68 | 8=>125 | 7=>124 | 19=>170 | 20=>171 | 10=>161 | 11=>162 | 12=>163 | 13=>164 | 14=>165 | 15=>166 | 16=>167 | 17=>168 | 18=>169 | 30=>196 | 31=>197 | 32=>198 | 33=>199 | 34=>200 | 35=>201 | 40=>219 | n=>n,fun | 23=>24 | 25=>3 | 3=>3 | 32=>179 | 22=>24 | 0=>0 | 44=>89 | 46=>130 | 4=>4 | 36=>236 | 35=>235 | 41=>203 | 5=>5 | 9=>9 | 53=>265 | 57=>269 | 63=>293 | 64=>294 | n=>n,fun | n=>n⟩
theorem Tryz.sortA:Go.Proofs.SlLaysM.n5 Tryz.prog Tryz.sortA_ren:={
 mixed:=by kernel_rfl
 f5:=⟨Tryz.f68.name,by decide,Tryz.func68.trans (congrArg some (by kernel_rfl))⟩
 f7:=⟨Tryz.f124.name,by decide,Tryz.func124.trans (congrArg some (by kernel_rfl))⟩
 f8:=Tryz.func125.trans (congrArg some (by kernel_rfl))
 f10:=⟨Tryz.f161.name,by decide,Tryz.func161.trans (congrArg some (by kernel_rfl))⟩
 f11:=⟨Tryz.f162.name,by decide,Tryz.func162.trans (congrArg some (by kernel_rfl))⟩
 f12:=⟨Tryz.f163.name,by decide,Tryz.func163.trans (congrArg some (by kernel_rfl))⟩
 f13:=⟨Tryz.f164.name,by decide,Tryz.func164.trans (congrArg some (by kernel_rfl))⟩
 f14:=⟨Tryz.f165.name,by decide,Tryz.func165.trans (congrArg some (by kernel_rfl))⟩
 f15:=⟨Tryz.f166.name,by decide,Tryz.func166.trans (congrArg some (by kernel_rfl))⟩
 f16:=⟨Tryz.f167.name,by decide,Tryz.func167.trans (congrArg some (by kernel_rfl))⟩
 f17:=⟨Tryz.f168.name,by decide,Tryz.func168.trans (congrArg some (by kernel_rfl))⟩
 f18:=⟨Tryz.f169.name,by decide,Tryz.func169.trans (congrArg some (by kernel_rfl))⟩
 f19:=Tryz.func170.trans (congrArg some (by kernel_rfl))
 f20:=Tryz.func171.trans (congrArg some (by kernel_rfl))
 f30:=⟨Tryz.f196.name,by decide,Tryz.func196.trans (congrArg some (by kernel_rfl))⟩
 f31:=Tryz.func197.trans (congrArg some (by kernel_rfl))
 f32:=Tryz.func198.trans (congrArg some (by kernel_rfl))
 f33:=⟨Tryz.f199.name,by decide,Tryz.func199.trans (congrArg some (by kernel_rfl))⟩
 f34:=⟨Tryz.f200.name,by decide,Tryz.func200.trans (congrArg some (by kernel_rfl))⟩
 f35:=⟨Tryz.f201.name,by decide,Tryz.func201.trans (congrArg some (by kernel_rfl))⟩
 f40:=⟨Tryz.f219.name,by decide,Tryz.func219.trans (congrArg some (by kernel_rfl))⟩
 t0:=Tryz.underlying0
 a0:=Tryz.isAgg0
 z0:=Tryz.sizeOf0
 v0:=Tryz.zeroValue0
 t3:=Tryz.underlying3
 a3:=Tryz.isAgg3
 z3:=Tryz.sizeOf3
 v3:=Tryz.zeroValue3
 t4:=Tryz.underlying4
 a4:=Tryz.isAgg4
 z4:=Tryz.sizeOf4
 v4:=Tryz.zeroValue4
 t5:=Tryz.underlying5
 a5:=Tryz.isAgg5
 z5:=Tryz.sizeOf5
 v5:=Tryz.zeroValue5
 t9:=Tryz.underlying9
 a9:=Tryz.isAgg9
 z9:=Tryz.sizeOf9
 v9:=Tryz.zeroValue9
 t22:=Tryz.underlying24
 a22:=Tryz.isAgg24
 z22:=Tryz.sizeOf24
 v22:=Tryz.zeroValue24
 t23:=Tryz.underlying24
 a23:=Tryz.isAgg24
 z23:=Tryz.sizeOf24
 v23:=Tryz.zeroValue24
 t25:=Tryz.underlying3
 a25:=Tryz.isAgg3
 z25:=Tryz.sizeOf3
 v25:=Tryz.zeroValue3
 t32:=Tryz.underlying179
 a32:=Tryz.isAgg179
 z32:=Tryz.sizeOf179
 v32:=Tryz.zeroValue179
 t35:=Tryz.underlying235
 a35:=Tryz.isAgg235
 z35:=Tryz.sizeOf235
 v35:=Tryz.zeroValue235
 t36:=Tryz.underlying236
 a36:=Tryz.isAgg236
 z36:=Tryz.sizeOf236
 v36:=Tryz.zeroValue236
 t41:=Tryz.underlying203
 a41:=Tryz.isAgg203
 z41:=Tryz.sizeOf203
 v41:=Tryz.zeroValue203
 t44:=Tryz.underlying89
 a44:=Tryz.isAgg89
 z44:=Tryz.sizeOf89
 v44:=Tryz.zeroValue89
 t46:=Tryz.underlying130
 a46:=Tryz.isAgg130
 z46:=Tryz.sizeOf130
 v46:=Tryz.zeroValue130
 t53:=Tryz.underlying265
 a53:=Tryz.isAgg265
 z53:=Tryz.sizeOf265
 v53:=Tryz.zeroValue265
 t57:=Tryz.underlying269
 a57:=Tryz.isAgg269
 z57:=Tryz.sizeOf269
 v57:=Tryz.zeroValue269
 t63:=Tryz.underlying293
 a63:=Tryz.isAgg293
 z63:=Tryz.sizeOf293
 v63:=Tryz.zeroValue293
 t64:=Tryz.underlying294
 a64:=Tryz.isAgg294
 z64:=Tryz.sizeOf294
 v64:=Tryz.zeroValue294 }
end Go.Proofs
namespace Go.Proofs.YtndlpekckpdncaaGreat
open Go Go.HL Go.RowKit Go.Maps Go.Sort Go.Shelf Go.MapKept
@[reducible] def ptr (b:Nat):Value:=.pointer (some ⟨b,0,none⟩)
theorem HC.of_calls {P:Program} {f:FuncId} {args:Array Value} {h:Heap} {R:Value→Heap→Prop} (hc:Callable P f) (hr:∀w:World,w.heap=h→Calls P f args w fun e w'=>∃v,e=.returned v∧RowKit.Below h.size w w'∧R v w'.heap):HC P f args h R:=
 ⟨hc,fun _ w at'=>(hr w at'.heap).mono fun _ w' ⟨v,e,b,r⟩=>⟨v,w'.heap,e,⟨rfl,b.os.trans at'.os,b.tape.trans at'.tape,b.output.trans at'.output⟩,r⟩⟩
theorem Ext.of_below {h:Heap} {w w':World} (hw:w.heap=h) (b:RowKit.Below h.size w w'):Ext h w'.heap:=⟨hw▸b.size,fun k hk _=>by rw [b.block k hk,hw]⟩
theorem sorts_in (m:Nat):AnyZI.SortsIn Tryz.prog Tryz.sortedA_ren Fence.wide m:=
  ⟨fun blk off cap ss W hH hblk hsz=>callsIn_wide.2 (AnyM.slices_Sort_int Tryz.sortA blk off cap ss W hH hblk hsz),
   fun p cap W=>callsIn_wide.2 (AnyM.slices_Sort_int_none Tryz.sortA p cap W)⟩
def noElem (_:Value):Option (DataW Unit × List MemPlace):=some (.nil,[])
theorem int_wf {k:Int} (h : -9223372036854775808≤k∧k≤9223372036854775807):(Lit.int .i64 k).wf=true:=by
 simpa [Lit.wf,IntKind.min,IntKind.max,IntKind.signed,IntKind.bits] using h
theorem insert_perm {H:Type} (x:Lit × DataW H):∀l:List (Lit × DataW H),(DataW.insert x l).Perm (x::l)
 | []=>by simp [DataW.insert]
 | y::l=>by
  unfold DataW.insert;split
  ·exact .refl _
  ·exact ((insert_perm x l).cons y).trans (.swap x y l)
theorem sorted_perm {H:Type} : ∀l:List (Lit × DataW H),(l.foldr DataW.insert []).Perm l
 | []=>.refl _
 | x::l=>(insert_perm x _).trans ((sorted_perm l).cons x)
theorem owns_keys {h:Heap} {mb:Nat} {ks:List Int} {f:Int→Value} (hm:MapT (Value.int .i64) h mb (ks.map fun k=>(k,f k))) (hr:∀k∈ks,-9223372036854775808≤k∧k≤9223372036854775807) (hl:ks.length≤1000000000000) {w:World} (hw:w.heap[mb]? = h[mb]?) :
  ∃(nn:Nat) (D:DataW Unit),w.ownsMap Tryz.prog 3 noElem mb nn D∧Maps.size D=ks.length∧(intKeys D).Perm ks:=by
 obtain ⟨es,cl,hb,he,hs⟩:=hm;have hlen:es.size=ks.length:=by
  have:=congrArg List.length he;simpa using this
 have hkeys:es.toList.map (fun e=>(e.key,e.val))=ks.map fun k=>(Value.int .i64 k,f k):=by rw [he,List.map_map];rfl
 have hrd:∀x∈es.toList,∃k∈ks,x.key=.int .i64 k∧WideElems.rd Tryz.prog 3 noElem x=some (.int .i64 k,.nil):=fun x hx=>by
  have h1:(x.key,x.val)∈es.toList.map fun e=>(e.key,e.val):=List.mem_map.2 ⟨x,hx,rfl⟩;rw [hkeys] at h1;obtain ⟨k,hk,e⟩:=List.mem_map.1 h1;injection e with e1 e2;refine ⟨k,hk,e1.symm,?_⟩;unfold WideElems.rd;rw [←e1,keyOf_int_mk Tryz.underlying3 (int_wf (hr k hk))];rfl
 have hrg:es.toList.map (WideElems.rg Tryz.prog 3 noElem)=ks.map fun k=>(Lit.int .i64 k,DataW.nil):=by
  have h1:es.toList.map (·.key)=ks.map (Value.int .i64):=by
   have:=congrArg (List.map Prod.fst) hkeys;rw [List.map_map,List.map_map] at this;exact this
  have h2:∀(l:List MapEntry) (s:List Int),l.map (·.key)=s.map (Value.int .i64)→(∀x∈l,∃k∈ks,x.key=.int .i64 k∧WideElems.rd Tryz.prog 3 noElem x=some (.int .i64 k,.nil))→l.map (WideElems.rg Tryz.prog 3 noElem)=s.map fun k=>(Lit.int .i64 k,DataW.nil):=by
   intro l;induction l with
   | nil=>intro s hs _;cases s with
    | nil=>rfl
    | cons a s=>simp at hs
   | cons x l ih=>
    intro s hs hx;cases s with
    | nil=>simp at hs
    | cons a s=>
     simp only [List.map_cons,List.cons.injEq] at hs⊢;obtain ⟨k,_,h3,h4⟩:=hx x List.mem_cons_self;have:a=k:=by
      have h5:=hs.1;rw [h3] at h5;exact (Value.int.inj h5).2.symm
     subst this;refine ⟨?_,ih s hs.2 fun y hy=>hx y (List.mem_cons_of_mem _ hy)⟩;unfold WideElems.rg;rw [h4];rfl
  exact h2 _ _ h1 hrd
 refine ⟨es.size,_,⟨es,cl,hw.trans hb,⟨by show _≤9223372036854775807;omega,hs,fun x hx=>let ⟨k,_,_,h⟩:=hrd x hx;⟨_,h⟩⟩,Nat.le_refl _,rfl⟩,?_,?_⟩
 ·show (List.foldr DataW.insert [] _).length=_;rw [(sorted_perm _).length_eq,List.length_map];simpa using hlen
 ·show ((List.foldr DataW.insert [] _).map fun p=>_root_.Go.intOf p.1).Perm ks;refine ((sorted_perm _).map _).trans ?_;rw [hrg,List.map_map];exact .of_eq (by rw [show ((fun p:Lit × DataW Unit=>_root_.Go.intOf p.1)∘fun k=>(Lit.int .i64 k,DataW.nil))=id from rfl,List.map_id])
def latF (l:List Fr):List Fr:=(latO l l.length).map (frN l)
theorem map_some {α β:Type} {f:α→β} {l:List α} {i:Nat} {p:β} (h:(l.map f)[i]? = some p):∃q,l[i]? = some q∧f q=p:=by
 rw [List.getElem?_map] at h;cases hq:l[i]? with
 | none=>rw [hq] at h;cases h
 | some q=>rw [hq] at h;injection h with h;exact ⟨q,rfl,h⟩
section
variable {l:List Fr} {xa:Nat→Option Addr} {xc:Nat→Nat}
theorem erase_mem {td:List (Int × Nat)} {i:Nat} {p q:Int × Nat} (hp:p∈td) (hq:td[i]? = some q) (hne:p≠q):p∈td.eraseIdx i:=by
 rw [List.mem_eraseIdx_iff_getElem?];obtain ⟨j,hj⟩:=List.mem_iff_getElem?.1 hp;refine ⟨j,fun e=>?_,hj⟩;subst e;rw [hj] at hq;injection hq with hq;exact hne hq
theorem filt2 {L:List (Int × Nat)} {c k:Int} (h:c<k):(L.filter fun p=>decide (p.1≠k)).filter (fun p=>decide (p.1≤c))=L.filter fun p=>decide (p.1≤c):=by
 rw [List.filter_filter];refine List.filter_congr fun p _=>?_;by_cases h1:p.1≤c
 ·have:p.1≠k:=by omega
  simp [h1,this]
 ·simp [h1]
end
end Go.Proofs.YtndlpekckpdncaaGreat
