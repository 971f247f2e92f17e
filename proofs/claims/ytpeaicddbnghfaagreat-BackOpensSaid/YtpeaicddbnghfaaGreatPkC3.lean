/- Numbers in bytes: num.Fixed, num.Read, bytes.Join, num.Join, and the document's Fixed and Read. Conditions: the slices are readable, the sizes 1 to 8. Sums of bytes: sum.table, Sum, Next, foot, Seal, and the document's. Conditions: the slices are readable. Logs in plain terms: heads, frames, links, and how a log is scanned. Conditions: those that each fact names. Seals: sum.foot, Seal, and the document's Seal. Conditions: the slices are readable. A number from 256 to 4096 has no bit in common with its predecessor just if it is one of five. Conditions: none. Logs: Same, sizes, frames, heads, links and what is put, of the program and of the document. Conditions: the slices are readable, numbers in their ranges. The reader of a log: number, head. Conditions: the bytes are readable and no part of the reader. Heads of files: Check, bytes, Encode, Decode, of the program and of the document. Conditions: numbers in their ranges. Copies of bytes and of slices; the reader of a log: frame. Conditions: the bytes are readable and no part of the reader. The program's Scan of a log. Conditions: the bytes are readable, at most 100000. The latest frames in plain terms: a map from pages, and a sorted row. Conditions: those that each fact names. Rows of frames that are read; the document's Same, and few. Conditions: the rows are readable. The contracts of maps.Keys, slices.Sorted and slices.Sort, laid at this program by the kit. Conditions: none. maps.Keys and slices.Sorted over a map of frames: its keys, sorted. Conditions: the keys are ints of 64 bits. Opening and carrying over, as the pager that logs ahead does them, on a disk in plain terms. Conditions: those that each fact names. The disk in memory: its box, its map, its files' boxes and changes as one item that turns; all bytes as one that is read. Conditions: those that each fact names. The disk's changes: long, done, kept, what is wrong with a call. Conditions: the bytes are readable, few. What is wrong with a call to a disk. Conditions: the disk's box is known, the numbers are readable. -/
import Derived.Test.YtpeaicddbnghfaaGreatPkC2
import Derived.Shelf.SlIterI.Nil
import Derived.Shelf.SortM.Plain
import Derived.Shelf.SortM.SortNone
import Derived.Ground.GgzProg
import Derived.Ground.SlgmProg
import Derived.Test.YtpeaicddbnghfaaGreatProg
set_option maxRecDepth 100000
set_option maxHeartbeats 2000000
set_option linter.all false
namespace Go.Proofs.YtpeaicddbnghfaaGreat
open Go Go.HL
def fixedN (n size:Nat):List UInt8:=(List.range size).map fun j=>UInt8.ofNat (n / 256 ^ (size-1-j))
theorem fixedN_len (n size:Nat):(fixedN n size).length=size:=by simp [fixedN]
def beN (l:List UInt8):Nat:=l.foldl (fun n x=>n*256+x.toNat) 0
def rdN (b:List UInt8) (p k:Nat):Nat:=beN ((b.drop p).take k)
theorem beN_snoc (l:List UInt8) (x:UInt8):beN (l++[x])=beN l*256+x.toNat:=by simp [beN]
theorem beN_lt (l:List UInt8):beN l<256 ^ l.length:=by
 suffices h:∀n,beN (l.take n)<256 ^ (l.take n).length by have:=h l.length;simpa using this
 intro n;induction n with
 | zero=>simp [beN]
 | succ n ih=>
  by_cases hn:n<l.length
  ·rw [take_next hn,beN_snoc,List.length_append,List.length_singleton,Nat.pow_succ];have:=l[n].toNat_lt;have h2:beN (l.take n)*256+256≤256 ^ (l.take n).length*256:=by rw [←Nat.succ_mul];exact Nat.mul_le_mul_right _ ih
   omega
  ·rw [List.take_of_length_le (by omega)] at ih⊢;exact ih
theorem bv_ofNat (m:Nat):bv (UInt8.ofNat m)=.int .u8 ((m%256:Nat):Int):=by simp [bv]
theorem set_bv {zs:List UInt8} {q m:Nat} : (zs.map bv).set q (.int .u8 ((m%256:Nat):Int))=(zs.set q (UInt8.ofNat m)).map bv:=by rw [List.map_set,bv_ofNat]
theorem shl8_or {m x:Nat} (hm:m<72057594037927936) (hx:x<256):m*2 ^ 8%18446744073709551616 ||| x=m*256+x:=by
 have h1:m*2 ^ 8%18446744073709551616=m <<< 8:=by rw [Nat.shiftLeft_eq];exact Nat.mod_eq_of_lt (by omega)
 rw [h1,←Nat.shiftLeft_add_eq_or_of_lt (by simpa using hx),Nat.shiftLeft_eq]
theorem pow256 {j k:Nat} (h:j≤k):256 ^ j≤256 ^ k:=Nat.pow_le_pow_right (by omega) h
theorem fixed_any {h:Heap} {n size:Nat} (hn:n<18446744073709551616) (h1:1≤size) (h8:size≤8) :
  HC Tryz.prog 191 #[.int .u64 (n:Int),.int .i64 (size:Int)] h (fun v h'=>Own h h' 1 5 v ((fixedN n size).map bv)):=by
 have ok:=Hp.nil h none_;refine HC.go Tryz.func191 32 ?_;refine .seq<|.r<|.z .asS<|.nil ?_;refine .seq<|.seq<|.r<|.z .mvI<|.z .lss<|.z .mvB<|.sd (fun G9=>?_) (fun G9=>?_)
 ·
  omega
 refine .z .mvI<|.z .gtr<|.z .pkf<|.nil ?_;refine .cd (fun C0=>?_) (fun C0=>?_)
 ·
  omega
 refine .skip<|.seq<|.r<|.z .mvI<|.a' 14 (.mks size size T.el22 T.sz5 T.by5 T.zr5 ok) ?_;rintro _ η1 ⟨pb1,rfl,ok,xe⟩;have ok:=ok.cx (ys:=(List.replicate size (0:UInt8)).map bv) (zeros8 _);refine .z .asS<|.nil ?_;refine .seq<|.seq<|.r<|.z .mvI<|.z .mvI<|.nil ?_;refine .block fun K0 hK0=>.loop (fun m s hh=>∃(i:Nat) (zs:List UInt8),Has s [(0,.int .u64 (n:Int)),(1,.int .i64 (size:Int)),(5,.slice (some ⟨pb1,0,none⟩) size size),(15,.int .i64 (size:Int)),(16,.int .i64 (i:Int))]∧Hp h none_ [capI 1 5 (some ⟨pb1,0,none⟩,size,size) (zs.map bv)] [] hh∧i≤size∧zs.length=size∧(∀j,j<i→zs[size-1-j]? = some (UInt8.ofNat (n / 256 ^ j)))∧m=size-i) ?_ ?_
 ·exact ⟨_,0,List.replicate size 0,⟨rfl,rfl,rfl,rfl,rfl,trivial⟩,ok.cx (by simp),by omega,by simp,fun j h=>by omega,rfl⟩
 rintro _ _ η2 ⟨i,zs,hs,ok,hi,hzl,hz,rfl⟩ J0 hJ0;refine .frame hs fun τ=>?_;refine .seq<|.r<|.z .lss<|.nil ?_;refine .seq<|.cdr (fun C1=>?_) (fun C1=>?_)
 ·
  have hil:i=size:=by omega
  have hfin:zs=fixedN n size:=List.ext_getElem? fun q=>by
   unfold fixedN;by_cases hq:q<size
   ·have:=hz (size-1-q) (by omega);rw [show size-1-(size-1-q)=q by omega] at this;rw [this];simp [hq]
   ·rw [List.getElem?_eq_none (by omega),List.getElem?_eq_none (by simp;omega)]
  refine .exit<|hK0 _ _<|.seq<|.r<|.z .mvS<|.z .asS<|.nil ?_;refine .ret ⟨.slice (some ⟨pb1,0,none⟩) size size,Res.one rfl rfl,by have h2:=ok.toOwn;rwa [hfin] at h2⟩
 have hil:i<size:=by omega
 have hz2:∀j,j<i+1→(zs.set (size-1-i) (UInt8.ofNat (n / 256 ^ i)))[size-1-j]? = some (UInt8.ofNat (n / 256 ^ j)):=fun j hj=>by
  rw [List.getElem?_set];by_cases e:j=i
  ·subst e;rw [if_pos rfl,if_pos (by omega)]
  ·rw [if_neg (by omega)];exact hz j (by omega)
 refine .skip<|.seq<|.block fun K1 hK1=>.seq<|.r<|.z .mvI<|.z .asI<|.nil ?_;refine .r<|.z .mvS<|.z .mvI<|.z .sub<|.z .mvI<|.z .sub<|.z .mvI<|.z .mvI<|.z (.mulI (a:=8))<|.z (.shrn (M:=18446744073709551616) rfl (ha:=by omega))<|.z (.cvm T.in5 T.in77 (M:=256) rfl rfl)<|.z (.ix1 (size-1-i) T.el22 T.sz5)<|.ur' (.sxI (q:=(size-1-i)) T.sz5 ok) ?_;rintro η3 ⟨ok,cg⟩;refine .nil ?_;refine .end<|hK1 _ _<|.r<|.z (.addI (b:=1))<|.z .mvI<|.nil ?_;refine .end<|hJ0 _ _ _ ⟨i+1,zs.set (size-1-i) (UInt8.ofNat (n / 256 ^ i)),⟨rfl,rfl,rfl,rfl,rfl,trivial⟩,ok.cx (by first | rfl | (have e:2 ^ (8*i)=256 ^ i:=by rw [Nat.pow_mul]);rw [e];exact set_bv),by omega,by simp [hzl],hz2,rfl⟩ (by omega)
theorem rfixed_any {h:Heap} {n size:Nat} (hn:n<18446744073709551616) (h1:1≤size) (h8:size≤8) :
  HC Tryz.prog 165 #[.int .u64 (n:Int),.int .i64 (size:Int)] h (fun v h'=>Own h h' 1 5 v ((fixedN n size).map bv)):=by
 have ok:=Hp.nil h none_;refine HC.go Tryz.func165 30 ?_;refine .seq<|.r<|.z .asS<|.nil ?_;refine .seq<|.seq<|.r<|.z .mvI<|.z .lss<|.z .mvB<|.sd (fun G9=>?_) (fun G9=>?_)
 ·
  omega
 refine .z .mvI<|.z .gtr<|.z .pkf<|.nil ?_;refine .cd (fun C0=>?_) (fun C0=>?_)
 ·
  omega
 refine .skip<|.seq<|.r<|.z .mvI<|.a' 14 (.mks size size T.el22 T.sz5 T.by5 T.zr5 ok) ?_;rintro _ η1 ⟨pb1,rfl,ok,xe⟩;have ok:=ok.cx (ys:=(List.replicate size (0:UInt8)).map bv) (zeros8 _);refine .z .asS<|.nil ?_;refine .seq<|.seq<|.r<|.z .mvI<|.z .sub<|.z .asI<|.nil ?_;refine .block fun K0 hK0=>.loop (fun m s hh=>∃(i mm:Nat) (z:Int) (zs:List UInt8),Has s [(0,.int .u64 (mm:Int)),(5,.slice (some ⟨pb1,0,none⟩) size size),(6,.int .i64 z)]∧Hp h none_ [capI 1 5 (some ⟨pb1,0,none⟩,size,size) (zs.map bv)] [] hh∧i≤size∧z=(i:Int)-1∧mm=n / 256 ^ (size-i)∧zs.length=size∧(∀j,i≤j→j<size→zs[j]? = some (UInt8.ofNat (n / 256 ^ (size-1-j))))∧m=0+i) ?_ ?_
 ·exact ⟨_,size,_,_,List.replicate size 0,⟨rfl,rfl,rfl,trivial⟩,ok.cx (by simp),by omega,by omega,by simp,by simp,fun j h=>by omega,rfl⟩
 rintro _ _ η2 ⟨i,mm,z,zs,hs,ok,hi,hz0,hm,hzl,hz,rfl⟩ J0 hJ0;refine .frame hs fun τ=>?_;refine .seq<|.seq<|.r<|.z .mvI<|.z .geq<|.nil ?_;refine .cdr (fun C1=>?_) (fun C1=>?_)
 ·
  have hil:i=0:=by omega
  have hfin:zs=fixedN n size:=List.ext_getElem? fun q=>by
   unfold fixedN;by_cases hq:q<size
   ·rw [hz q (by omega) hq];simp [hq]
   ·rw [List.getElem?_eq_none (by omega),List.getElem?_eq_none (by simp;omega)]
  refine .exit<|hK0 _ _<|.seq<|.r<|.z .mvS<|.z .asS<|.nil ?_;refine .ret ⟨.slice (some ⟨pb1,0,none⟩) size size,Res.one rfl rfl,by have h2:=ok.toOwn;rwa [hfin] at h2⟩
 have hil:1≤i:=by omega
 have hz2:∀j,i-1≤j→j<size→(zs.set (i-1) (UInt8.ofNat mm))[j]? = some (UInt8.ofNat (n / 256 ^ (size-1-j))):=fun j hj1 hj2=>by
  rw [List.getElem?_set];by_cases e:i-1=j
  ·subst e;rw [if_pos rfl,if_pos (by omega),hm,show size-1-(i-1)=size-i by omega]
  ·rw [if_neg e];exact hz j (by omega) hj2
 have hnl:mm<18446744073709551616:=by rw [hm];exact Nat.lt_of_le_of_lt (Nat.div_le_self _ _) hn
 refine .skip<|.seq<|.block fun K1 hK1=>.seq<|.r<|.z .mvS<|.z .mvI<|.z .mvI<|.z (.remn (b:=256))<|.z (.cvm T.in5 T.in77 (M:=256) rfl rfl)<|.z (.ix1 (i-1) T.el22 T.sz5)<|.ur' (.sxI (q:=(i-1)) T.sz5 ok) ?_;rintro η3 ⟨ok,cg⟩;refine .nil ?_;refine .r<|.z .mvI<|.z (.quon (M:=18446744073709551616) rfl rfl (b:=256))<|.z .asI<|.nil ?_;refine .end<|hK1 _ _<|.r<|.z .mvI<|.z .sub<|.z .asI<|.nil ?_;refine .end<|hJ0 _ _ _ ⟨i-1,_,_,zs.set (i-1) (UInt8.ofNat mm),⟨rfl,rfl,rfl,trivial⟩,ok.cx (by first | (simp;done) | (rw [Nat.mod_mod];exact set_bv)),by omega,by omega,by rw [hm,Nat.div_div_eq_div_mul,←Nat.pow_succ];congr 2;omega,by simp [hzl],hz2,rfl⟩ (by omega)
theorem read_any {h:Heap} {F E:Nat→Prop} {a:Option Addr} {c:Nat} {l:List UInt8} (hl:RdL h F E (a,l.length,c) l) {p size:Nat} (h1:1≤size) (h8:size≤8) (hp:p+size≤l.length) :
  HC Tryz.prog 151 #[.slice a l.length c,.int .i64 (p:Int),.int .i64 (size:Int)] h (fun v h'=>v=.tuple #[.int .u64 ((rdN l p size:Nat):Int),.int .i64 0]∧h'=h):=by
 have hc2:=hl.m;have hc1:l.length≤c:=hl.c;simp only at hc2;obtain ⟨l2,hl2⟩:∃l2,l2=(l.drop p).take size:=⟨_,rfl⟩;have hl2n:l2.length=size:=by rw [hl2];simp;omega
 unfold rdN;rw [←hl2];refine HC.go Tryz.func151 53 ?_;refine .seq<|.r<|.z .asI<|.z .asI<|.nil ?_;refine .seq<|.block fun K0 hK0=>.seq<|.r<|.z .mvI<|.z .lss<|.z .mvB<|.sd (fun G14=>?_) (fun G14=>?_)
 ·
  omega
 refine .z .mvI<|.z .gtr<|.z .pkf<|.z .mvB<|.sd (fun G18=>?_) (fun G18=>?_)
 ·
  omega
 refine .z .mvI<|.z .lss<|.z .pkf<|.z .asB<|.nil ?_;refine .cd (fun C0=>?_) (fun C0=>?_)
 ·
  omega
 refine .seq<|.r<|.z .mvI<|.z .mvS<|.z (.len T.el22)<|.z .gtr<|.z .mvB<|.sd (fun G27=>?_) (fun G27=>?_)
 ·
  omega
 refine .z .mvS<|.z (.len T.el22)<|.z .mvI<|.z .sub<|.z .mvI<|.z .lss<|.z .pkf<|.z .asB<|.nil ?_;refine .cd (fun C1=>?_) (fun C1=>?_)
 ·
  omega
 refine .skip<|.end<|hK0 _ _<|.seq<|.r<|.z .asI<|.nil ?_;refine .seq<|.seq<|.r<|.z .mvS<|.z .mvI<|.z .mvI<|.z .mvI<|.z .addI<|.z (.slh p (p+size) T.el22 T.sz5)<|?_;generalize hc1:cutA a p c 1=ca1;have hk1:RdL h F E (ca1,(p+size)-p,c-p) l2:=(by have h1:=hl.cut (i:=p) (j:=(p+size)) (by omega) (by omega);rw [show ((l).drop p).take ((p+size)-p)=l2 from by rw [hl2];congr 1;omega] at h1;subst hc1;exact h1);refine .z (.len T.el22)<|.z .mvI<|.nil ?_;refine .block fun K1 hK1=>.loop (fun m s hh=>∃(j mm:Nat),Has s [(8,.int .u64 (mm:Int)),(40,.slice ca1 ((p+size)-p) (c-p)),(41,.int .i64 (((p+size)-p:Nat):Int)),(42,.int .i64 (j:Int))]∧h=hh∧j≤l2.length∧mm=beN (l2.take j)∧m=l2.length-j) ?_ ?_
 ·exact ⟨_,0,0,⟨rfl,rfl,rfl,rfl,trivial⟩,rfl,Nat.zero_le _,rfl,rfl⟩
 rintro _ _ _ ⟨j,mm,hs,rfl,hj,hm,rfl⟩ J0 hJ0;refine .frame hs fun τ=>?_;refine .seq<|.r<|.z .lss<|.nil ?_;refine .seq<|.cdr (fun C2=>?_) (fun C2=>?_)
 ·
  have hjn:j=l2.length:=by omega
  have htk:l2.take j=l2:=List.take_of_length_le (by omega);rw [htk] at hm;refine .exit<|hK1 _ _<|.seq<|.r<|.z .mvI<|.z .asI<|.z .asI<|.nil ?_;refine .ret ⟨.tuple #[.int .u64 (mm:Int),.int .i64 0],Res.two rfl rfl rfl,⟨by rw [hm],rfl⟩⟩
 have hjl:j<l2.length:=by omega
 have hlt:beN (l2.take j)<72057594037927936:=Nat.lt_of_lt_of_le (beN_lt _) (Nat.le_trans (pow256 (k:=7) (by simp;omega)) (by decide));have hsn:beN (l2.take (j+1))=beN (l2.take j)*256+l2[j].toNat:=by rw [take_next hjl,beN_snoc]
 refine .skip<|.seq<|.block fun K2 hK2=>.seq<|.r<|?_;obtain ⟨bb1,oo1,rfl,fb1⟩:=hk1.pos (by omega);refine .z (.ix1 j T.el22 T.sz5)<|.z (.ld T.ag5 (hk1.u8 (i:=j) (by omega)))<|.z .asI<|.nil ?_;refine .r<|.z .mvI<|.z (.shln (M:=18446744073709551616) rfl rfl (b:=8))<|.z .mvI<|.z (.cvs T.in77 T.in5 (M:=18446744073709551616) rfl rfl)<|.z (.bor (M:=18446744073709551616) rfl rfl)<|.z .asI<|.nil ?_;refine .end<|hK2 _ _<|.r<|.z (.addI (b:=1))<|.z .mvI<|.nil ?_;refine .end<|hJ0 _ _ _ ⟨j+1,_,⟨rfl,rfl,rfl,rfl,trivial⟩,rfl,by omega,by rw [hm,hsn];exact shl8_or hlt (byte_lt _),rfl⟩ (by omega)
theorem rread_any {h:Heap} {F E:Nat→Prop} {a:Option Addr} {c:Nat} {l:List UInt8} (hl:RdL h F E (a,l.length,c) l) {p size:Nat} (h1:1≤size) (h8:size≤8) (hp:p+size≤l.length) :
  HC Tryz.prog 111 #[.slice a l.length c,.int .i64 (p:Int),.int .i64 (size:Int)] h (fun v h'=>v=.tuple #[.int .u64 ((rdN l p size:Nat):Int),.int .i64 0]∧h'=h):=by
 have hc2:=hl.m;have hc1:l.length≤c:=hl.c;simp only at hc2;obtain ⟨l2,hl2⟩:∃l2,l2=(l.drop p).take size:=⟨_,rfl⟩;have hl2n:l2.length=size:=by rw [hl2];simp;omega
 unfold rdN;rw [←hl2];refine HC.go Tryz.func111 48 ?_;refine .seq<|.r<|.z .asI<|.z .asI<|.nil ?_;refine .seq<|.seq<|.r<|.z .mvI<|.z .lss<|.z .mvB<|.sd (fun G12=>?_) (fun G12=>?_)
 ·
  omega
 refine .z .mvI<|.z .gtr<|.z .pkf<|.z .mvB<|.sd (fun G16=>?_) (fun G16=>?_)
 ·
  omega
 refine .z .mvI<|.z .lss<|.z .pkf<|.nil ?_;refine .cd (fun C0=>?_) (fun C0=>?_)
 ·
  omega
 refine .skip<|.seq<|.seq<|.r<|.z .mvI<|.z .mvS<|.z (.len T.el22)<|.z .gtr<|.z .mvB<|.sd (fun G24=>?_) (fun G24=>?_)
 ·
  omega
 refine .z .mvS<|.z (.len T.el22)<|.z .mvI<|.z .sub<|.z .mvI<|.z .lss<|.z .pkf<|.nil ?_;refine .cd (fun C1=>?_) (fun C1=>?_)
 ·
  omega
 refine .skip<|.seq<|.r<|.z .asI<|.nil ?_;refine .seq<|.seq<|.r<|.z .asI<|.nil ?_;refine .block fun K0 hK0=>.loop (fun m s hh=>∃(j mm:Nat),Has s [(0,.slice a l.length c),(1,.int .i64 (p:Int)),(2,.int .i64 (size:Int)),(8,.int .u64 (mm:Int)),(9,.int .i64 (j:Int))]∧h=hh∧j≤l2.length∧mm=beN (l2.take j)∧m=l2.length-j) ?_ ?_
 ·exact ⟨_,0,0,⟨rfl,rfl,rfl,rfl,rfl,trivial⟩,rfl,Nat.zero_le _,rfl,rfl⟩
 rintro _ _ _ ⟨j,mm,hs,rfl,hj,hm,rfl⟩ J0 hJ0;refine .frame hs fun τ=>?_;refine .seq<|.seq<|.r<|.z .mvI<|.z .mvI<|.z .lss<|.nil ?_;refine .cdr (fun C2=>?_) (fun C2=>?_)
 ·
  have hjn:j=l2.length:=by omega
  have htk:l2.take j=l2:=List.take_of_length_le (by omega);rw [htk] at hm;refine .exit<|hK0 _ _<|.seq<|.r<|.z .mvI<|.z .asI<|.z .asI<|.nil ?_;refine .ret ⟨.tuple #[.int .u64 (mm:Int),.int .i64 0],Res.two rfl rfl rfl,⟨by rw [hm],rfl⟩⟩
 have hjl:j<l2.length:=by omega
 have hlt:beN (l2.take j)<72057594037927936:=Nat.lt_of_lt_of_le (beN_lt _) (Nat.le_trans (pow256 (k:=7) (by simp;omega)) (by decide));have hsn:beN (l2.take (j+1))=beN (l2.take j)*256+l2[j].toNat:=by rw [take_next hjl,beN_snoc]
 have hlj:l[p+j]=l2[j]:=by subst hl2;simp
 refine .skip<|.seq<|.block fun K1 hK1=>.r<|.z .mvI<|.z (.muln (M:=18446744073709551616) rfl rfl (b:=256))<|.z .mvS<|.z .mvI<|.z .mvI<|.z .addI<|?_;obtain ⟨bb1,oo1,rfl,fb1⟩:=hl.pos (by omega);refine .z (.ix1 (p+j) T.el22 T.sz5)<|.z (.ld T.ag5 (hl.u8 (i:=(p+j)) (by omega)))<|.z (.cvs T.in77 T.in5 (M:=18446744073709551616) rfl rfl)<|.z (.addn (M:=18446744073709551616) rfl rfl)<|.z .asI<|.nil ?_;refine .end<|hK1 _ _<|.r<|.z .mvI<|.z (.addI (b:=1))<|.z .asI<|.nil ?_;refine .end<|hJ0 _ _ _ ⟨j+1,_,⟨rfl,rfl,rfl,rfl,rfl,trivial⟩,rfl,by omega,by rw [hm,hsn,hlj];have:=byte_lt l2[j];omega,rfl⟩ (by omega)
theorem _root_.Go.HL.Cap.clip {h:Heap} {k:Nat} {e:TypeId} {a:Option Addr} {n c:Nat} {xs:List Value} (r:Cap h k e (.slice a n c) xs):Cap h k e (.slice a n n) xs:=by
 obtain ⟨a',n',c',e1,h1,h2,h3,h4⟩:=r;injection e1 with e1 e2 e3;subst e1 e2 e3;refine ⟨_,_,_,rfl,Nat.le_refl _,by omega,h3,?_⟩;rcases h4 with ⟨q1,q2⟩ | ⟨b,o,cs,fz,q1,q2,q3,q4⟩
 ·exact .inl ⟨q1,by omega⟩
 ·exact .inr ⟨b,o,cs,fz,q1,q2,by have:=Nat.mul_le_mul_right k h1;omega,q4⟩
theorem _root_.Go.HL.Hp.clip {h0 h:Heap} {D:Nat→Prop} {M R:List Itm} {k:Nat} {e:TypeId} {a:Option Addr} {n c:Nat} {xs:List Value} (ok:Hp h0 D (capI k e (a,n,c) xs::M) R h):Hp h0 D (capI k e (a,n,n) xs::M) R h:=
 ok.re _ (Cap.clip ok.m0) (fun j hj=>by obtain ⟨o,n',c',hv⟩:=hj;injection hv with h1 h2 h3;have h4:a=some ⟨j,o,none⟩:=h1;exact ⟨o,n,c,by rw [h4]⟩)
theorem spl_nil (cs:List Value) (o:Nat):spl cs o []=cs:=by simp [spl]
theorem spl_end {xs zs ys:List Value} {p:Nat} (hp:p=xs.length):spl (xs++zs) p ys=(xs++ys)++zs.drop ys.length:=by
 subst hp;simp [spl,List.drop_append]
theorem flat_snoc {α:Type} {L:List (List α)} {j:Nat} (hj:j<L.length):(L.take (j+1)).flatten=(L.take j).flatten++L[j]:=by rw [take_next hj,List.flatten_append];simp
theorem flat_le {α:Type} (L:List (List α)) (j:Nat):(L.take j).flatten.length≤L.flatten.length:=by
 have:L.flatten=(L.take j).flatten++(L.drop j).flatten:=by rw [←List.flatten_append,List.take_append_drop]
 rw [this];simp
theorem bjoin_any {h:Heap} {F E:Nat→Prop} {a:Option Addr} {c:Nat} {L:List (List UInt8)} (hl:RdL h F E (a,L.length,c) L) (hN:L.flatten.length≤1000000000) :
  HC Tryz.prog 233 #[.slice a L.length c,.slice none 0 0] h (fun v h'=>Own h h' 1 5 v (L.flatten.map bv)):=by
 have hc2:=hl.m;have hc1:L.length≤c:=hl.c;simp only at hc2;have ok:=(Hp.nil h none_).arg hl;refine HC.go Tryz.func233 92 ?_;refine .seq<|.r<|.z .asS<|.nil ?_;refine .seq<|.seq<|.r<|.z .mvS<|.z (.len T.el26)<|.z .eql<|.nil ?_;refine .cd (fun C0=>?_) (fun C0=>?_)
 ·
  have hL0:=List.eq_nil_of_length_eq_zero (show L.length=0 by omega);refine .seq<|.r<|.a' 15 (.lit [] (cs:=[]) T.el22 T.sz5 T.zr5 ok trivial) ?_;rintro _ η1 ⟨pb1,rfl,ok,xe⟩;have ok:=ok.cx (ys:=([]:List UInt8).map bv) rfl;refine .z .asS<|.nil ?_;refine .ret ⟨.slice (some ⟨pb1,0,none⟩) 0 0,Res.one rfl rfl,by have:=ok.toOwn;rw [hL0];exact this⟩
 refine .skip<|.seq<|.seq<|.r<|.z .mvS<|.z (.len T.el26)<|.z .eql<|.nil ?_;refine .cd (fun C1=>?_) (fun C1=>?_)
 ·
  have hlen:L.length=1:=by omega
  have hfl:L.flatten=L[0]:=by obtain ⟨x,hx⟩:=List.length_eq_one_iff.1 hlen;subst hx;simp
  have hll:=congrArg List.length hfl;refine .seq<|.r<|.z .mvS<|?_;obtain ⟨bb1,oo1,rfl,fb1⟩:=ok.r0.pos (by omega);refine .z (.ix1 0 T.el26 T.sz22)<|?_;obtain ⟨ya1,yc1,he1,hr1⟩:=ok.r0.row (i:=0) (by omega);have ok:=ok.d0 (rdI (fun j=>E j∧j<h.size) (fun j=>E j∧j<h.size) (ya1,L[0].length,yc1) (L[0])) hr1 (fun _ h=>.inr (h.elim id id));refine .z (.ld T.ag22 he1)<|?_;have ok:=ok.nilC (k:=1) (e:=5);refine .a' 22 (.app (news:=(L[0]).map bv) T.el22 T.sz5 T.by5 T.zr5 ok (ok.r0).by bv_all (by simp only [List.length_map,List.length_append,List.length_take,List.length_cons,List.length_nil,List.length_replicate,List.length_range];omega)) ?_;rintro _ η2 ⟨ya2,yn1,yc2,rfl,ok,ap⟩;have ok:=ok.cx (ys:=((L[0])).map bv) (by simp [bv]);obtain rfl:yn1=((L[0])).length:=ok.lenB;refine .z .asS<|.nil ?_;refine .ret ⟨.slice ya2 (((L[0])).length) yc2,Res.one rfl rfl,by have:=ok.toOwn;rw [hfl];simpa using this⟩
 refine .skip<|.seq<|.r<|.z .asI<|.nil ?_;refine .seq<|.seq<|.r<|.z .mvS<|.z (.len T.el22)<|.z .gtr<|.nil ?_;refine .cf<|.skip<|.seq<|.seq<|.r<|.z .mvS<|.z (.len T.el26)<|.z .mvI<|.nil ?_;refine .block fun K0 hK0=>.loop (fun m s hh=>∃(j nn:Nat),Has s [(0,.slice a L.length c),(1,.slice none 0 0),(5,.int .i64 (nn:Int)),(42,.slice a L.length c),(43,.int .i64 (L.length:Int)),(44,.int .i64 (j:Int))]∧Hp h none_ [] [rdI (fun j=>F j∧j<h.size) (fun j=>E j∧j<h.size) (a,L.length,c) L] hh∧j≤L.length∧nn=(L.take j).flatten.length∧m=L.length-j) ?_ ?_
 ·exact ⟨_,0,0,⟨rfl,rfl,rfl,rfl,rfl,rfl,trivial⟩,ok,Nat.zero_le _,rfl,rfl⟩
 rintro _ _ η3 ⟨j,nn,hs,ok,hj,hnn,rfl⟩ J0 hJ0;refine .frame hs fun τ=>?_;refine .seq<|.r<|.z .lss<|.nil ?_;refine .seq<|.cdr (fun C4=>?_) (fun C4=>?_)
 ·
  have hjl:j=L.length:=by omega
  have htk:L.take j=L:=List.take_of_length_le (by omega);rw [htk] at hnn;refine .exit<|hK0 _ _<|.seq<|?_;obtain ⟨x0,L1,hL⟩:∃x0 L1,L=x0::L1:=by cases L with | nil=>exact absurd rfl C0 | cons x l=>exact ⟨x,l,rfl⟩
  have hx0:L[0]'(by omega)=x0:=by subst hL;rfl
  have hx1:=congrArg List.length hx0;have hL1:L.length=L1.length+1:=by subst hL;rfl
  have hLf:L.flatten.length=x0.length+L1.flatten.length:=by subst hL;simp
  refine .r<|.z .mvI<|.a' 60 (.mnz nn (e:=5) Tryz.func246 rfl (by decide) rfl rfl T.el22 ok) ?_;rintro _ η4 ⟨pb2,pc1,ps1,rfl,hpc,ok,xe⟩;have hzn:ps1.length=nn:=by have:=(Cap.sl ok.m0).cells.1;simp only at this;omega
  refine .z .mvI<|.z .mvI<|.z (.slhm nn nn T.el22 T.sz5)<|?_;have ok:=ok.clip;refine .z .asS<|.nil ?_;refine .seq<|.r<|.z .mvS<|.z .mvS<|?_;obtain ⟨bb2,oo2,rfl,fb2⟩:=ok.r0.pos (by omega);refine .z (.ix1 0 T.el26 T.sz22)<|?_;obtain ⟨ya3,yc3,he2,hr2⟩:=ok.r0.row (i:=0) (by omega);have ok:=ok.d0 (rdI (fun j=>E j∧j<h.size) (fun j=>E j∧j<h.size) (ya3,L[0].length,yc3) (L[0])) hr2 (fun _ h=>.inr (h.elim id id));refine .z (.ld T.ag22 he2)<|.a' 68 (.cp0 (ys:=(L[0]).map bv) (m:=L[0].length) T.el22 T.sz5 ok ok.r0.by bv_all) ?_;rintro _ η5 ⟨rfl,ok,cg⟩;refine .z .asI<|.nil ?_;refine .seq<|.seq<|.r<|.z .mvS<|.z (.sll 1 T.el26 T.sz22)<|?_;generalize hc1:cutA (some ⟨bb2,oo2,none⟩) 1 c 1=ca1;have ok:=ok.d1 (rdI (fun j=>F j∧j<h.size) (fun j=>E j∧j<h.size) (ca1,L.length-1,c-1) L1) (by have h1:=ok.r1.cut (i:=1) (j:=L.length) (by omega) (by omega);rw [show ((L).drop 1).take (L.length-1)=L1 from by subst hL;simp] at h1;subst hc1;exact h1) (fun _ h=>h);refine .z (.len T.el26)<|.z .mvI<|.nil ?_;refine .block fun K2 hK2=>.loop (fun m s hh=>∃(j n2:Nat) (zs:List Value),Has s [(1,.slice none 0 0),(8,.slice (some ⟨pb2,0,none⟩) nn nn),(9,.int .i64 (n2:Int)),(70,.slice ca1 (L.length-1) (c-1)),(71,.int .i64 ((L.length-1:Nat):Int)),(72,.int .i64 (j:Int))]∧Hp h none_ [capI 1 5 (some ⟨pb2,0,none⟩,nn,nn) ((x0++(L1.take j).flatten).map bv++zs)] [rdI (fun j=>F j∧j<h.size) (fun j=>E j∧j<h.size) (ca1,L.length-1,c-1) L1,rdI (fun j=>E j∧j<h.size) (fun j=>E j∧j<h.size) (ya3,L[0].length,yc3) (L[0]),rdI (fun j=>F j∧j<h.size) (fun j=>E j∧j<h.size) (some ⟨bb2,oo2,none⟩,L.length,c) L] hh∧j≤L1.length∧n2=x0.length+(L1.take j).flatten.length∧zs.length+n2=nn∧m=L1.length-j) ?_ ?_
  ·exact ⟨_,0,_,ps1.drop (L[0].map bv).length,⟨rfl,rfl,rfl,rfl,rfl,rfl,trivial⟩,ok.cx (by simp [hx0]),Nat.zero_le _,by simp [hx0],by simp [hx0];omega,rfl⟩
  rintro _ _ η6 ⟨j,n2,zs,hs,ok,hj,hn2,hz,rfl⟩ J1 hJ1;refine .frame hs fun τ=>?_;refine .seq<|.r<|.z .lss<|.nil ?_;refine .seq<|.cdr (fun C6=>?_) (fun C6=>?_)
  ·
   have hjl:j=L1.length:=by omega
   have htk:L1.take j=L1:=List.take_of_length_le (by omega);have hz0:zs=[]:=List.eq_nil_of_length_eq_zero (by rw [htk] at hn2;omega);refine .exit<|hK2 _ _<|.seq<|.r<|.z .mvS<|.z .asS<|.nil ?_;refine .ret ⟨.slice (some ⟨pb2,0,none⟩) nn nn,Res.one rfl rfl,by have:=ok.toOwn;rw [hz0,htk] at this;rw [hL];simpa using this⟩
  have hjl:j<L1.length:=by omega
  have hsn:=congrArg List.length (flat_snoc hjl);rw [List.length_append] at hsn;have hle:=flat_le L1 (j+1);refine .skip<|.seq<|.block fun K3 hK3=>.seq<|.r<|?_;obtain ⟨bb3,oo3,rfl,fb3⟩:=ok.r0.pos (by omega);refine .z (.ix1 j T.el26 T.sz22)<|?_;obtain ⟨ya4,yc4,he3,hr3⟩:=ok.r0.row (i:=j) (by omega);have ok:=ok.d0 (rdI (fun j=>E j∧j<h.size) (fun j=>E j∧j<h.size) (ya4,L1[j].length,yc4) (L1[j])) hr3 (fun _ h=>.inr (h.elim id id));refine .z (.ld T.ag22 he3)<|.z .asS<|.nil ?_;refine .seq<|.r<|.z .mvI<|.z .mvS<|.z .mvI<|.z (.sll n2 T.el22 T.sz5)<|.z .mvS<|.a' 81 (.cpy (ys:=[]) (m:=0) n2 T.el22 T.sz5 ok (Sl.nil _ 1) (oneL rfl) rfl) ?_;rintro _ η7 ⟨rfl,ok,cg⟩;refine .z (.addI (b:=0))<|.z .asI<|.nil ?_;refine .r<|.z .mvI<|.z .mvS<|.z .mvI<|.z (.sll (n2+0) T.el22 T.sz5)<|.z .mvS<|.a' 88 (.cpy (ys:=(L1[j]).map bv) (m:=L1[j].length) (n2+0) T.el22 T.sz5 ok ok.r0.by bv_all rfl) ?_;rintro _ η8 ⟨rfl,ok,cg⟩;refine .z .addI<|.z .asI<|.nil ?_;refine .end<|hK3 _ _<|.r<|.z (.addI (b:=1))<|.z .mvI<|.nil ?_;refine .end<|hJ1 _ _ _ ⟨j+1,_,zs.drop (L1[j].map bv).length,⟨rfl,rfl,rfl,rfl,rfl,rfl,trivial⟩,ok.tR.cx (by rw [spl_nil,spl_end (by rw [List.length_map,List.length_append];omega),flat_snoc hjl];simp),by omega,by omega,by simp;omega,rfl⟩ (by omega)
 have hjl:j<L.length:=by omega
 have hsn:=congrArg List.length (flat_snoc hjl);rw [List.length_append] at hsn;have hle:=flat_le L (j+1);refine .skip<|.seq<|.block fun K1 hK1=>.seq<|.r<|?_;obtain ⟨bb4,oo4,rfl,fb4⟩:=ok.r0.pos (by omega);refine .z (.ix1 j T.el26 T.sz22)<|?_;obtain ⟨ya5,yc5,he4,hr4⟩:=ok.r0.row (i:=j) (by omega);have ok:=ok.d0 (rdI (fun j=>E j∧j<h.size) (fun j=>E j∧j<h.size) (ya5,L[j].length,yc5) (L[j])) hr4 (fun _ h=>.inr (h.elim id id));refine .z (.ld T.ag22 he4)<|.z .asS<|.nil ?_;refine .seq<|.seq<|.r<|.z .mvS<|.z (.len T.el22)<|.z .mvI<|.z .sub<|.z .gtr<|.nil ?_;refine .cd (fun C5=>?_) (fun C5=>?_)
 ·
  omega
 refine .skip<|.r<|.z .mvI<|.z .mvS<|.z (.len T.el22)<|.z .addI<|.z .asI<|.nil ?_;refine .end<|hK1 _ _<|.r<|.z (.addI (b:=1))<|.z .mvI<|.nil ?_;refine .end<|hJ0 _ _ _ ⟨j+1,_,⟨rfl,rfl,rfl,rfl,rfl,rfl,trivial⟩,ok.tR,by omega,by omega,rfl⟩ (by omega)
theorem njoin_any {h:Heap} {F E:Nat→Prop} {a:Option Addr} {c:Nat} {L:List (List UInt8)} (hl:RdL h F E (a,L.length,c) L) (hN:L.flatten.length≤1000000000) :
  HC Tryz.prog 203 #[.slice a L.length c] h (fun v h'=>Own h h' 1 5 v (L.flatten.map bv)):=by
 have ok:=(Hp.nil h none_).arg hl;refine HC.go Tryz.func203 5 ?_;refine .seq<|.r<|.z .asS<|.nil ?_;refine .seq<|.r<|.z .mvS<|.c' 4 .func (bjoin_any (a:=a) (c:=c) (L:=L) ok.r0 hN) ?_;rintro _ η1 own;obtain ⟨ya1,yc1,rfl⟩:=own.formB;have ok:=ok.own own;refine .z .asS<|.nil ?_;refine .ret ⟨.slice ya1 (((L).flatten).length) yc1,Res.one rfl rfl,ok.toOwn⟩
def bitN (c:Nat):Nat:=if c%2=1 then c / 2 ^^^ 2197175160 else c / 2
def stN:Nat→Nat→Nat
 | 0,c=>c
 | k+1,c=>bitN (stN k c)
def crcN (c:Nat) (l:List UInt8):Nat:=l.foldl (fun c x=>stN 8 (c ^^^ x.toNat)) c
@[irreducible] def sumN (l:List UInt8):Nat:=4294967295-crcN 4294967295 l
theorem sumN_def (l:List UInt8):sumN l=4294967295-crcN 4294967295 l:=by unfold sumN;rfl
theorem bitN_lt {c:Nat} (h:c<4294967296):bitN c<4294967296:=by
 unfold bitN;split
 ·exact Nat.xor_lt_two_pow (n:=32) (by omega) (by omega)
 ·omega
theorem stN_lt {c:Nat} (h:c<4294967296):∀k,stN k c<4294967296
 | 0=>h
 | k+1=>bitN_lt (stN_lt h k)
theorem byte32 {c:Nat} (h:c<4294967296) (x:UInt8):c ^^^ x.toNat<4294967296:=Nat.xor_lt_two_pow (n:=32) h (Nat.lt_trans x.toNat_lt (by decide))
theorem crcN_lt:∀ {c:Nat} (_:c<4294967296) (l:List UInt8),crcN c l<4294967296
 | _,h,[]=>h
 | c,h,x::l=>crcN_lt (c:=stN 8 (c ^^^ x.toNat)) (stN_lt (byte32 h x) 8) l
theorem crcN_snoc (c:Nat) (l:List UInt8) (x:UInt8):crcN c (l++[x])=stN 8 (crcN c l ^^^ x.toNat):=by simp [crcN]
theorem bitN_xor (a b:Nat):bitN (a ^^^ b)=bitN a ^^^ bitN b:=by
 have h:=@Nat.xor_mod_two_eq_one a b;unfold bitN;rw [Nat.xor_div_two];by_cases ha:a%2=1<;>by_cases hb:b%2=1
 ·rw [if_neg (by rw [h];simp [ha,hb]),if_pos ha,if_pos hb,Nat.xor_assoc,Nat.xor_comm 2197175160,Nat.xor_assoc (b / 2),Nat.xor_self,Nat.xor_zero]
 ·rw [if_pos (by rw [h];simp [ha,hb]),if_pos ha,if_neg hb,Nat.xor_assoc,Nat.xor_assoc,Nat.xor_comm (b / 2)]
 ·rw [if_pos (by rw [h];simp [ha,hb]),if_neg ha,if_pos hb,Nat.xor_assoc]
 ·rw [if_neg (by rw [h];simp [ha,hb]),if_neg ha,if_neg hb]
theorem stN_xor (a b:Nat):∀k,stN k (a ^^^ b)=stN k a ^^^ stN k b
 | 0=>rfl
 | k+1=>by unfold stN;rw [stN_xor a b k,bitN_xor]
theorem stN_add (a c:Nat):∀b,stN (a+b) c=stN b (stN a c)
 | 0=>rfl
 | b+1=>by show bitN (stN (a+b) c)=bitN (stN b (stN a c));rw [stN_add a c b]
theorem bitN_even (q:Nat):bitN (2*q)=q:=by unfold bitN;rw [if_neg (by omega)];omega
theorem split16 (c:Nat):c=(c / 16*16) ^^^ (c%16):=by
 apply Nat.eq_of_testBit_eq;intro i;rw [Nat.testBit_xor];have h2:(c / 16*16).testBit i=(decide (4≤i) && (c / 16).testBit (i-4)):=by
  have:c / 16*16=(c / 16) <<< 4:=by rw [Nat.shiftLeft_eq]
  rw [this,Nat.testBit_shiftLeft]
 have h3:(c%16).testBit i=(decide (i<4) && c.testBit i):=by
  have:c%16=c%2 ^ 4:=by rfl
  rw [this,Nat.testBit_mod_two_pow]
 have h4:(c / 16).testBit (i-4)=c.testBit (4+(i-4)):=by
  have:c / 16=c >>> 4:=by rw [Nat.shiftRight_eq_div_pow]
  rw [this,Nat.testBit_shiftRight]
 rw [h2,h3,h4];by_cases hi:4≤i
 ·rw [show 4+(i-4)=i by omega];simp [hi,Nat.not_lt.2 hi]
 ·simp [hi,Nat.not_le.1 hi]
theorem stN_four (c:Nat):stN 4 c=c / 16 ^^^ stN 4 (c%16):=by
 have h:stN 4 (c / 16*16)=c / 16:=by
  show bitN (bitN (bitN (bitN (c / 16*16))))=_;rw [show c / 16*16=2*(2*(2*(2*(c / 16)))) by omega,bitN_even,bitN_even,bitN_even,bitN_even]
 conv=>lhs;rw [split16 c,stN_xor,h]
theorem and15 (c:Nat):c &&& 15=c%16:=Nat.and_two_pow_sub_one_eq_mod c 4
def tabN:List Nat:=(List.range 16).map (stN 4)
theorem tabN_at {i:Nat} (h:i<16):tabN[i]? = some (stN 4 i):=by unfold tabN;simp [h]
@[reducible] def w32 (n:Nat):Value:=.int .u32 ((n:Nat):Int)
theorem four_step {c:Nat} {q r:Nat} (hq:q=c / 2 ^ 4) (hr:r=stN 4 (c &&& 15)):q ^^^ r=stN 4 c:=by subst hq hr;rw [and15,←stN_four]
def sealN (l:List UInt8):List UInt8:=l++[UInt8.ofNat (sumN l),UInt8.ofNat (sumN l / 2 ^ 8),UInt8.ofNat (sumN l / 2 ^ 16),UInt8.ofNat (sumN l / 2 ^ 24)]
theorem table_any {h:Heap} :
  HC Tryz.prog 218 #[] h (fun v h'=>v=.agg (tabN.map w32).toArray∧Ext h h'):=by
 have ok:=Hp.nil h none_;refine HC.go Tryz.func218 26 ?_;refine .seq<|.r<|.a' 0 (.alA T.zr267 ok) ?_;rintro _ η1 ⟨pb1,rfl,ok,xe⟩;refine .nil ?_;refine .seq<|.r<|.a' 1 (.alA T.zr267 ok) ?_;rintro _ η2 ⟨pb2,rfl,ok,xe⟩;refine .nil ?_;refine .seq<|.seq<|.r<|.z .mvI<|.nil ?_;refine .block fun K0 hK0=>.loop (fun m s hh=>∃(i:Nat),Has s [(0,.pointer (some ⟨pb1,0,none⟩)),(1,.pointer (some ⟨pb2,0,none⟩)),(5,.int .i64 (i:Int))]∧Hp h none_ [boxI pb2 267 (((List.range i).map (stN 4)++List.replicate (16-i) 0).map w32),boxI pb1 267 [.int .u32 0,.int .u32 0,.int .u32 0,.int .u32 0,.int .u32 0,.int .u32 0,.int .u32 0,.int .u32 0,.int .u32 0,.int .u32 0,.int .u32 0,.int .u32 0,.int .u32 0,.int .u32 0,.int .u32 0,.int .u32 0]] [] hh∧i≤16∧m=16-i) ?_ ?_
 ·exact ⟨_,0,⟨rfl,rfl,rfl,trivial⟩,ok.n1.n1.bx (by rfl),Nat.zero_le _,rfl⟩
 rintro _ _ η3 ⟨i,hs,ok,hi,rfl⟩ J0 hJ0;refine .frame hs fun τ=>?_;refine .seq<|.r<|.z .lss<|.nil ?_;refine .seq<|.cdr (fun C0=>?_) (fun C0=>?_)
 ·
  have hi16:i=16:=by omega
  subst hi16;refine .exit<|hK0 _ _<|.seq<|.r<|.z (.ldb T.ag267 ok.m0 T.sz267)<|.ur' (.stW (vs:=tabN.map w32) T.sz267 ok.n1 (oneL rfl)) ?_;rintro η4 ⟨ok,cg⟩;refine .nil ?_;refine .ret ⟨.agg (tabN.map w32).toArray,Res.many (vs:=[.agg (tabN.map w32).toArray]) rfl ⟨⟨_,rfl,load_ag T.ag267 ok.m0 T.sz267⟩,trivial⟩ rfl,⟨rfl,ok.chg⟩⟩
 refine .skip<|.seq<|.block fun K1 hK1=>.seq<|.r<|.z .mvI<|.z .asI<|.nil ?_;refine .seq<|.r<|.z .mvI<|.z (.cvm T.in243 T.in3 (M:=4294967296) rfl rfl)<|.z .asI<|.nil ?_;refine .seq<|.seq<|.r<|.z .mvI<|.nil ?_;refine .block fun K2 hK2=>.loop (fun m s hh=>∃(k cc:Nat),Has s [(0,.pointer (some ⟨pb1,0,none⟩)),(1,.pointer (some ⟨pb2,0,none⟩)),(2,.int .i64 (i:Int)),(3,.int .u32 (cc:Int)),(5,.int .i64 (i:Int)),(10,.int .i64 (k:Int))]∧Hp h none_ [boxI pb2 267 (((List.range i).map (stN 4)++List.replicate (16-i) 0).map w32),boxI pb1 267 [.int .u32 0,.int .u32 0,.int .u32 0,.int .u32 0,.int .u32 0,.int .u32 0,.int .u32 0,.int .u32 0,.int .u32 0,.int .u32 0,.int .u32 0,.int .u32 0,.int .u32 0,.int .u32 0,.int .u32 0,.int .u32 0]] [] hh∧k≤4∧cc=stN k i∧m=4-k) ?_ ?_
 ·exact ⟨_,0,_,⟨rfl,rfl,rfl,rfl,rfl,rfl,trivial⟩,ok.n1.n1,Nat.zero_le _,Nat.mod_eq_of_lt (by omega),rfl⟩
 rintro _ _ η5 ⟨k,cc,hs,ok,hk,hcc,rfl⟩ J1 hJ1;refine .frame hs fun τ=>?_;refine .seq<|.r<|.z .lss<|.nil ?_;refine .seq<|.cdr (fun C1=>?_) (fun C1=>?_)
 ·
  have hk4:k=4:=by omega
  rw [hk4] at hcc;have hil:i<((List.range i).map (stN 4)++List.replicate (16-i) 0).length:=by simp;omega
  have hset:(((List.range i).map (stN 4)++List.replicate (16-i) 0).set i cc)=(List.range (i+1)).map (stN 4)++List.replicate (16-(i+1)) 0:=by
   rw [hcc,List.set_append_right _ _ (by simp),show 16-i=16-(i+1)+1 by omega,List.replicate_succ,List.range_succ];simp
  refine .exit<|hK2 _ _<|.r<|.z .mvI<|.z .mvI<|.z (.ixa i T.ar267 T.sz243)<|.ur' (.sa (f:=w32) cc T.sz243 ok (q:=i) hil) ?_;rintro η6 ⟨ok,cg⟩;refine .nil ?_;refine .end<|hK1 _ _<|.r<|.z .add<|.z .mvI<|.nil ?_;refine .end<|hJ0 _ _ _ ⟨i+1,⟨rfl,rfl,rfl,trivial⟩,ok.n1.n1.bx (by rw [hset]),by omega,rfl⟩ (by omega)
 have hcl:cc<4294967296:=by rw [hcc];exact stN_lt (by omega) k
 have ha1:cc &&& 1=cc%2:=Nat.and_one_is_mod cc;refine .skip<|.seq<|.block fun K3 hK3=>.seq<|.r<|.z .mvI<|.z (.band (M:=4294967296) rfl rfl (b:=1) (ha:=by omega))<|.z .asI<|.nil ?_;refine .seq<|.r<|.z .mvI<|.z (.shrn (M:=4294967296) rfl (b:=1))<|.z .asI<|.nil ?_;refine .seq<|.r<|.z .mvI<|.z .eql<|.nil ?_;refine .cd (fun C2=>?_) (fun C2=>?_)
 ·
  have hnx:cc / 2 ^ 1 ^^^ 2197175160=stN (k+1) i:=by show _=bitN (stN k i);rw [←hcc];unfold bitN;rw [if_pos (by omega)]
  refine .r<|.z .mvI<|.z (.bxor (M:=4294967296) rfl rfl (b:=2197175160))<|.z .asI<|.nil ?_;refine .end<|hK3 _ _<|.r<|.z .add<|.z .mvI<|.nil ?_;refine .end<|hJ1 _ _ _ ⟨k+1,_,⟨rfl,rfl,rfl,rfl,rfl,rfl,trivial⟩,ok.n1.n1,by omega,hnx,rfl⟩ (by omega)
 have hnx:cc / 2 ^ 1=stN (k+1) i:=by show _=bitN (stN k i);rw [←hcc];unfold bitN;rw [if_neg (by omega)]
 refine .skip<|.end<|hK3 _ _<|.r<|.z .add<|.z .mvI<|.nil ?_;refine .end<|hJ1 _ _ _ ⟨k+1,_,⟨rfl,rfl,rfl,rfl,rfl,rfl,trivial⟩,ok.n1.n1,by omega,hnx,rfl⟩ (by omega)
theorem and15_lt (c:Nat):c &&& 15<16:=by rw [and15];omega
theorem sum_any {h:Heap} {F E:Nat→Prop} {a:Option Addr} {c:Nat} {L:List (List UInt8)} (hl:RdL h F E (a,L.length,c) L) :
  HC Tryz.prog 192 #[.slice a L.length c] h (fun v h'=>v=.int .u32 ((sumN L.flatten:Nat):Int)∧Ext h h'):=by
 have hc2:=hl.m;have hc1:L.length≤c:=hl.c;simp only at hc2;have ok:=(Hp.nil h none_).arg hl;refine HC.go Tryz.func192 44 ?_;refine .seq<|.r<|.z .asI<|.nil ?_;refine .seq<|.r<|.c' 9 .func table_any ?_;rintro _ η1 ⟨rfl,hx⟩;have ok:=ok.ext hx;refine .a' 3 (.alA T.zr267 ok) ?_;rintro _ η2 ⟨pb1,rfl,ok,xe⟩;refine .ur' (.stW (vs:=tabN.map w32) T.sz267 ok (oneL rfl)) ?_;rintro η3 ⟨ok,cg⟩;refine .nil ?_;refine .seq<|.r<|.z .asI<|.nil ?_;refine .seq<|.seq<|.r<|.z .mvS<|.z (.len T.el26)<|.z .mvI<|.nil ?_;refine .block fun K0 hK0=>.loop (fun m s hh=>∃(i cc:Nat),Has s [(3,.pointer (some ⟨pb1,0,none⟩)),(4,.int .u32 (cc:Int)),(10,.slice a L.length c),(11,.int .i64 (L.length:Int)),(12,.int .i64 (i:Int))]∧Hp h none_ [boxI pb1 267 (tabN.map w32)] [rdI (fun j=>F j∧j<h.size) (fun j=>E j∧j<h.size) (a,L.length,c) L] hh∧i≤L.length∧cc=crcN 4294967295 (L.take i).flatten∧m=L.length-i) ?_ ?_
 ·exact ⟨_,0,4294967295,⟨rfl,rfl,rfl,rfl,rfl,trivial⟩,ok,Nat.zero_le _,rfl,rfl⟩
 rintro _ _ η4 ⟨i,cc,hs,ok,hi,hcc,rfl⟩ J0 hJ0;refine .frame hs fun τ=>?_;refine .seq<|.r<|.z .lss<|.nil ?_;refine .seq<|.cdr (fun C0=>?_) (fun C0=>?_)
 ·
  have hil:i=L.length:=by omega
  rw [hil,List.take_length] at hcc;have hcl:cc<4294967296:=by rw [hcc];exact crcN_lt (by decide) _
  refine .exit<|hK0 _ _<|.seq<|.r<|.z .mvI<|.z (.cpl (M:=4294967296) rfl rfl)<|.z .asI<|.nil ?_;refine .ret ⟨.int .u32 (((4294967295-cc):Nat):Int),Res.one rfl rfl,⟨by rw [hcc,sumN_def],ok.chg⟩⟩
 have hil:i<L.length:=by omega
 refine .skip<|.seq<|.block fun K1 hK1=>.seq<|.r<|?_;obtain ⟨bb1,oo1,rfl,fb1⟩:=ok.r0.pos (by omega);refine .z (.ix1 i T.el26 T.sz22)<|?_;obtain ⟨ya1,yc1,he1,hr1⟩:=ok.r0.row (i:=i) (by omega);have ok:=ok.d0 (rdI (fun j=>E j∧j<h.size) (fun j=>E j∧j<h.size) (ya1,L[i].length,yc1) (L[i])) hr1 (fun _ h=>.inr (h.elim id id));refine .z (.ld T.ag22 he1)<|.z .asS<|.nil ?_;refine .seq<|?_;have hrc:L[i].length≤_:=ok.r0.c;have hrm:=ok.r0.m;simp only at hrc hrm;refine .r<|.z .mvS<|.z (.len T.el22)<|.z .mvI<|.nil ?_;refine .block fun K2 hK2=>.loop (fun m s hh=>∃(j cc:Nat),Has s [(3,.pointer (some ⟨pb1,0,none⟩)),(4,.int .u32 (cc:Int)),(10,.slice (some ⟨bb1,oo1,none⟩) L.length c),(11,.int .i64 (L.length:Int)),(12,.int .i64 (i:Int)),(16,.slice ya1 (L[i].length) yc1),(17,.int .i64 ((L[i].length:Nat):Int)),(18,.int .i64 (j:Int))]∧Hp h none_ [boxI pb1 267 (tabN.map w32)] [rdI (fun j=>E j∧j<h.size) (fun j=>E j∧j<h.size) (ya1,L[i].length,yc1) (L[i]),rdI (fun j=>F j∧j<h.size) (fun j=>E j∧j<h.size) (some ⟨bb1,oo1,none⟩,L.length,c) L] hh∧j≤L[i].length∧cc=crcN 4294967295 ((L.take i).flatten++L[i].take j)∧m=L[i].length-j) ?_ ?_
 ·exact ⟨_,0,_,⟨rfl,rfl,rfl,rfl,rfl,rfl,rfl,rfl,trivial⟩,ok,Nat.zero_le _,by simp [hcc],rfl⟩
 rintro _ _ η5 ⟨j,cc,hs,ok,hj,hcc,rfl⟩ J1 hJ1;refine .frame hs fun τ=>?_;refine .seq<|.r<|.z .lss<|.nil ?_;refine .seq<|.cdr (fun C1=>?_) (fun C1=>?_)
 ·
  have hjl:j=L[i].length:=by omega
  rw [hjl,List.take_length,←flat_snoc hil] at hcc;refine .exit<|hK2 _ _<|.end<|hK1 _ _<|.r<|.z .add<|.z .mvI<|.nil ?_;refine .end<|hJ0 _ _ _ ⟨i+1,_,⟨rfl,rfl,rfl,rfl,rfl,trivial⟩,ok.tR,by omega,hcc,rfl⟩ (by omega)
 have hjl:j<L[i].length:=by omega
 have hcl:cc<4294967296:=by rw [hcc];exact crcN_lt (by decide) _
 have hxl:=byte_lt L[i][j];have hyl:=byte32 hcl L[i][j];have hs1:=four_step (c:=cc ^^^ L[i][j].toNat) rfl rfl;have hzl:=stN_lt hyl 4;have hs2:=four_step (c:=stN 4 (cc ^^^ L[i][j].toNat)) rfl rfl;have hw1:=stN_lt (c:=(cc ^^^ L[i][j].toNat) &&& 15) (by have:=and15_lt (cc ^^^ L[i][j].toNat);omega) 4;have hw2:=stN_lt (c:=stN 4 (cc ^^^ L[i][j].toNat) &&& 15) (by have:=and15_lt (stN 4 (cc ^^^ L[i][j].toNat));omega) 4;have hs3:stN 8 (cc ^^^ L[i][j].toNat)=stN 4 (stN 4 (cc ^^^ L[i][j].toNat)):=stN_add 4 _ 4;have hsn:crcN 4294967295 ((L.take i).flatten++L[i].take (j+1))=stN 4 (stN 4 (cc ^^^ L[i][j].toNat)):=by rw [take_next hjl,←List.append_assoc,crcN_snoc,←hcc,hs3]
 refine .skip<|.seq<|.block fun K3 hK3=>.seq<|.r<|?_;obtain ⟨bb2,oo2,rfl,fb2⟩:=ok.r0.pos (by omega);refine .z (.ix1 j T.el22 T.sz5)<|.z (.ld T.ag5 (ok.r0.u8 (i:=j) (by omega)))<|.z .asI<|.nil ?_;refine .seq<|.r<|.z .mvI<|.z .mvI<|.z (.cvs T.in243 T.in5 (M:=4294967296) rfl rfl)<|.z (.bxor (M:=4294967296) rfl rfl)<|.z .asI<|.nil ?_;refine .seq<|.r<|.z .mvI<|.z (.shrn (M:=4294967296) rfl (b:=4))<|.z .mvI<|.z (.band (M:=4294967296) rfl rfl (b:=15))<|.z (.ixa ((cc ^^^ (L[i])[j].toNat) &&& 15) T.ar267 T.sz243 (hi:=by (have:=and15_lt (cc ^^^ L[i][j].toNat);omega)))<|.z (.ldx (o:=0+((cc ^^^ (L[i])[j].toNat) &&& 15)) (v:=.int .u32 ((stN 4 ((cc ^^^ (L[i])[j].toNat) &&& 15):Nat):Int)) T.ag243 ok.m0 (hv:=by rw [Nat.zero_add,List.getElem?_map,tabN_at (and15_lt _)];rfl))<|.z (.bxor (M:=4294967296) rfl rfl (b:=(stN 4 ((cc ^^^ (L[i])[j].toNat) &&& 15))) (hb:=by exact hw1))<|?_;rw [show (((cc ^^^ (L[i])[j].toNat) / 2 ^ 4) ^^^ (stN 4 ((cc ^^^ (L[i])[j].toNat) &&& 15)))=stN 4 (cc ^^^ L[i][j].toNat) from hs1];refine .z .asI<|.nil ?_;refine .r<|.z .mvI<|.z (.shrn (M:=4294967296) rfl (b:=4))<|.z .mvI<|.z (.band (M:=4294967296) rfl rfl (b:=15))<|.z (.ixa (stN 4 (cc ^^^ L[i][j].toNat) &&& 15) T.ar267 T.sz243 (hi:=by (have:=and15_lt (stN 4 (cc ^^^ L[i][j].toNat));omega)))<|.z (.ldx (o:=0+(stN 4 (cc ^^^ L[i][j].toNat) &&& 15)) (v:=.int .u32 ((stN 4 (stN 4 (cc ^^^ L[i][j].toNat) &&& 15):Nat):Int)) T.ag243 ok.m0 (hv:=by rw [Nat.zero_add,List.getElem?_map,tabN_at (and15_lt _)];rfl))<|.z (.bxor (M:=4294967296) rfl rfl (b:=(stN 4 (stN 4 (cc ^^^ L[i][j].toNat) &&& 15))) (hb:=by exact hw2))<|?_;rw [show ((stN 4 (cc ^^^ L[i][j].toNat) / 2 ^ 4) ^^^ (stN 4 (stN 4 (cc ^^^ L[i][j].toNat) &&& 15)))=stN 4 (stN 4 (cc ^^^ L[i][j].toNat)) from hs2];refine .z .asI<|.nil ?_;refine .end<|hK3 _ _<|.r<|.z .add<|.z .mvI<|.nil ?_;refine .end<|hJ1 _ _ _ ⟨j+1,_,⟨rfl,rfl,rfl,rfl,rfl,rfl,rfl,rfl,trivial⟩,ok,by omega,hsn.symm,rfl⟩ (by omega)
theorem rsum_any {h:Heap} {F E:Nat→Prop} {a:Option Addr} {c:Nat} {l:List UInt8} (hl:RdL h F E (a,l.length,c) l) :
  HC Tryz.prog 197 #[.slice a l.length c] h (fun v h'=>v=.int .u32 ((sumN l:Nat):Int)∧h'=h):=by
 have hc2:=hl.m;have hc1:l.length≤c:=hl.c;simp only at hc2;refine HC.go Tryz.func197 33 ?_;refine .seq<|.r<|.z .asI<|.nil ?_;refine .seq<|.r<|.z .asI<|.nil ?_;refine .seq<|.seq<|.r<|.z .asI<|.nil ?_;refine .block fun K0 hK0=>.loop (fun m s hh=>∃(i cc:Nat),Has s [(0,.slice a l.length c),(3,.int .u32 (cc:Int)),(4,.int .i64 (i:Int))]∧h=hh∧i≤l.length∧cc=crcN 4294967295 (l.take i)∧m=l.length-i) ?_ ?_
 ·exact ⟨_,0,4294967295,⟨rfl,rfl,rfl,trivial⟩,rfl,Nat.zero_le _,rfl,rfl⟩
 rintro _ _ _ ⟨i,cc,hs,rfl,hi,hcc,rfl⟩ J0 hJ0;refine .frame hs fun τ=>?_;refine .seq<|.seq<|.r<|.z .mvI<|.z .mvS<|.z (.len T.el22)<|.z .lss<|.nil ?_;refine .cdr (fun C0=>?_) (fun C0=>?_)
 ·
  have hil:i=l.length:=by omega
  rw [hil,List.take_length] at hcc;have hcl:cc<4294967296:=by rw [hcc];exact crcN_lt (by decide) _
  refine .exit<|hK0 _ _<|.seq<|.r<|.z .mvI<|.z (.subn (M:=4294967296) rfl rfl (a:=4294967295))<|.z .asI<|.nil ?_;refine .ret ⟨.int .u32 (((4294967295-cc):Nat):Int),Res.one rfl rfl,⟨by rw [hcc,sumN_def],rfl⟩⟩
 have hil:i<l.length:=by omega
 have hcl:cc<4294967296:=by rw [hcc];exact crcN_lt (by decide) _
 have hxl:=byte_lt l[i];have hyl:=byte32 hcl l[i];have hsn:crcN 4294967295 (l.take (i+1))=stN 8 (cc ^^^ l[i].toNat):=by rw [take_next hil,crcN_snoc,←hcc]
 refine .skip<|.seq<|.block fun K1 hK1=>.seq<|.r<|.z .mvI<|.z .mvS<|.z .mvI<|?_;obtain ⟨bb1,oo1,rfl,fb1⟩:=hl.pos (by omega);refine .z (.ix1 i T.el22 T.sz5)<|.z (.ld T.ag5 (hl.u8 (i:=i) (by omega)))<|.z (.cvs T.in243 T.in5 (M:=4294967296) rfl rfl)<|.z (.bxor (M:=4294967296) rfl rfl)<|.z .asI<|.nil ?_;refine .seq<|.r<|.z .asI<|.nil ?_;refine .block fun K2 hK2=>.loop (fun m s hh=>∃(k dd:Nat),Has s [(0,.slice (some ⟨bb1,oo1,none⟩) l.length c),(3,.int .u32 (dd:Int)),(4,.int .i64 (i:Int)),(5,.int .i64 (k:Int))]∧h=hh∧k≤8∧dd=stN k (cc ^^^ l[i].toNat)∧m=8-k) ?_ ?_
 ·exact ⟨_,0,_,⟨rfl,rfl,rfl,rfl,trivial⟩,rfl,Nat.zero_le _,rfl,rfl⟩
 rintro _ _ _ ⟨k,dd,hs,rfl,hk,hdd,rfl⟩ J1 hJ1;refine .frame hs fun τ=>?_;refine .seq<|.seq<|.r<|.z .mvI<|.z .lss<|.nil ?_;refine .cdr (fun C1=>?_) (fun C1=>?_)
 ·
  have hk8:k=8:=by omega
  rw [hk8] at hdd;refine .exit<|hK2 _ _<|.end<|hK1 _ _<|.r<|.z .mvI<|.z .add<|.z .asI<|.nil ?_;refine .end<|hJ0 _ _ _ ⟨i+1,_,⟨rfl,rfl,rfl,trivial⟩,rfl,by omega,by rw [hdd,hsn],rfl⟩ (by omega)
 have hdl:dd<4294967296:=by rw [hdd];exact stN_lt hyl k
 refine .skip<|.seq<|.block fun K3 hK3=>.seq<|.r<|.z .mvI<|.z (.remn (b:=2))<|.z .eql<|.nil ?_;refine .cd (fun C2=>?_) (fun C2=>?_)
 ·
  have hnx:dd / 2 ^^^ 2197175160=stN (k+1) (cc ^^^ l[i].toNat):=by show _=bitN (stN k _);rw [←hdd];unfold bitN;rw [if_pos (by omega)]
  refine .r<|.z .mvI<|.z (.quon (M:=4294967296) rfl rfl (b:=2))<|.z (.bxor (M:=4294967296) rfl rfl (b:=2197175160))<|.z .asI<|.nil ?_;refine .end<|hK3 _ _<|.r<|.z .mvI<|.z .add<|.z .asI<|.nil ?_;refine .end<|hJ1 _ _ _ ⟨k+1,_,⟨rfl,rfl,rfl,rfl,trivial⟩,rfl,by omega,hnx,rfl⟩ (by omega)
 have hnx:dd / 2=stN (k+1) (cc ^^^ l[i].toNat):=by show _=bitN (stN k _);rw [←hdd];unfold bitN;rw [if_neg (by omega)]
 refine .r<|.z .mvI<|.z (.quon (M:=4294967296) rfl rfl (b:=2))<|.z .asI<|.nil ?_;refine .end<|hK3 _ _<|.r<|.z .mvI<|.z .add<|.z .asI<|.nil ?_;refine .end<|hJ1 _ _ _ ⟨k+1,_,⟨rfl,rfl,rfl,rfl,trivial⟩,rfl,by omega,hnx,rfl⟩ (by omega)
structure Fr where
 page:Int
 commit:Int
 b:List UInt8
 deriving DecidableEq
def okSz (n:Nat):Bool:=n == 256 || n == 512 || n == 1024 || n == 2048 || n == 4096
theorem beN_lt8 (l:List UInt8) (h:l.length≤8):beN l<18446744073709551616:=Nat.lt_of_lt_of_le (beN_lt l) (Nat.le_trans (pow256 h) (Nat.le_of_eq (by rfl)))
theorem beN_lt4 (l:List UInt8) (h:l.length≤4):beN l<4294967296:=Nat.lt_of_lt_of_le (beN_lt l) (Nat.le_trans (pow256 h) (Nat.le_of_eq (by rfl)))
theorem rdN_lt8 (b:List UInt8) (p:Nat):rdN b p 8<18446744073709551616:=beN_lt8 _ (by simp;omega)
theorem rdN_lt4 (b:List UInt8) (p:Nat):rdN b p 4<4294967296:=beN_lt4 _ (by simp;omega)
theorem fixedN_succ (n k:Nat):fixedN n (k+1)=fixedN (n / 256) k++[UInt8.ofNat n]:=by
 unfold fixedN;rw [List.range_succ,List.map_append];congr 1
 ·apply List.map_congr_left;intro j hj;rw [List.mem_range] at hj;rw [Nat.div_div_eq_div_mul,←Nat.pow_succ'];congr 3;omega
 ·simp
theorem beN_fixedN:∀(k n:Nat),beN (fixedN n k)=n%256 ^ k
 | 0,n=>by simp [fixedN,beN,Nat.mod_one]
 | k+1,n=>by
  rw [fixedN_succ,beN_snoc,beN_fixedN k,Nat.pow_succ',Nat.mod_mul];simp;omega
theorem beN_fixed {k n:Nat} (h:n<256 ^ k):beN (fixedN n k)=n:=by rw [beN_fixedN,Nat.mod_eq_of_lt h]
theorem fixedN_beN (l:List UInt8):fixedN (beN l) l.length=l:=by
 suffices h:∀n,n≤l.length→fixedN (beN (l.take n)) n=l.take n by have:=h l.length (Nat.le_refl _);simpa using this
 intro n hn;induction n with
 | zero=>simp [fixedN]
 | succ n ih=>
  have h1:=l[n].toNat_lt;rw [fixedN_succ,take_next (by omega),beN_snoc,show (beN (l.take n)*256+l[n].toNat) / 256=beN (l.take n) by omega,ih (by omega)];congr 2;apply UInt8.toNat_inj.1;simp
theorem sealN_len (l:List UInt8):(sealN l).length=l.length+4:=by simp [sealN]
theorem rdN_app {x y z:List UInt8} {k:Nat} (h:y.length=k):rdN (x++(y++z)) x.length k=beN y:=by unfold rdN;rw [List.drop_left,List.take_left' h]
theorem sumN_lt (l:List UInt8):sumN l<4294967296:=by rw [sumN_def];omega
end Go.Proofs.YtpeaicddbnghfaaGreat
namespace Go.Proofs.YtpeaicddbnghfaaGreat
theorem and_pow:∀n,n<4097→256≤n→(n &&& (n-1)=0↔(n=256∨n=512∨n=1024∨n=2048∨n=4096)):=by decide +kernel
open Go Go.HL
def okZ (z:Int):Bool:=decide (z=256∨z=512∨z=1024∨z=2048∨z=4096)
theorem okZ_nat (n:Nat):okZ (n:Int)=okSz n:=by
 rw [Bool.eq_iff_iff];simp [okZ,okSz];omega
theorem tolist_eq (a b:List UInt8):((BA a).toList == (BA b).toList)=decide (a=b):=by rw [BA_toList,BA_toList];by_cases h:a=b<;>simp [h]
theorem same_any {h:Heap} {F E F' E':Nat→Prop} {a b:Option Addr} {c d:Nat} {l l2:List UInt8} (hl:RdL h F E (a,l.length,c) l) (hm:RdL h F' E' (b,l2.length,d) l2) :
  HC Tryz.prog 22 #[.slice a l.length c,.slice b l2.length d] h (fun v h'=>v=.bool (decide (l=l2))∧h'=h):=by
 have hc2:=hl.m;have hc1:l.length≤c:=hl.c;simp only at hc2;have hd2:=hm.m;have hd1:l2.length≤d:=hm.c;simp only at hd2;refine HC.go Tryz.func22 26 ?_;refine .seq<|.r<|.z .asB<|.nil ?_;refine .seq<|.seq<|.r<|.z .mvS<|.z (.len T.el22)<|.z .mvS<|.z (.len T.el22)<|.z .neq<|.nil ?_;refine .cd (fun C0=>?_) (fun C0=>?_)
 ·
  refine .seq<|.r<|.z .asB<|.nil ?_;refine .ret ⟨.bool false,Res.one rfl rfl,⟨by rw [decide_eq_false];intro e;subst e;exact C0 rfl,rfl⟩⟩
 refine .skip<|.seq<|.seq<|.r<|.z .asI<|.nil ?_;refine .block fun K0 hK0=>.loop (fun m s hh=>∃(i:Nat),Has s [(0,.slice a l.length c),(1,.slice b l2.length d),(5,.int .i64 (i:Int))]∧h=hh∧i≤l.length∧l.length=l2.length∧l.take i=l2.take i∧m=l.length-i) ?_ ?_
 ·exact ⟨_,0,⟨rfl,rfl,rfl,trivial⟩,rfl,Nat.zero_le _,by omega,rfl,rfl⟩
 rintro _ _ _ ⟨i,hs,rfl,hi,hlm,ht,rfl⟩ J0 hJ0;refine .frame hs fun τ=>?_;refine .seq<|.seq<|.r<|.z .mvI<|.z .mvS<|.z (.len T.el22)<|.z .lss<|.nil ?_;refine .cdr (fun C1=>?_) (fun C1=>?_)
 ·
  have hil:i=l.length:=by omega
  have him:i=l2.length:=by omega
  refine .exit<|hK0 _ _<|.seq<|.r<|.z .asB<|.nil ?_;refine .ret ⟨.bool true,Res.one rfl rfl,⟨by rw [decide_eq_true];have:=ht;rw [hil,List.take_length] at this;rw [this,←hil,him,List.take_length],rfl⟩⟩
 have hil:i<l.length:=by omega
 have him:i<l2.length:=by omega
 refine .skip<|.seq<|.block fun K1 hK1=>.seq<|.q (hm:=mixed)<|.z .mvS<|.z .mvI<|?_;obtain ⟨bb1,oo1,rfl,fb1⟩:=hl.pos (by omega);refine .z (.ix1 i T.el22 T.sz5)<|.z (.ld T.ag5 (hl.u8 (i:=i) (by omega)))<|.z .mvS<|.z .mvI<|?_;obtain ⟨bb2,oo2,rfl,fb2⟩:=hm.pos (by omega);refine .z (.ix1 i T.el22 T.sz5)<|.z (.ld T.ag5 (hm.u8 (i:=i) (by omega)))<|.z .neq<|.nil ?_;refine .cd (fun C2=>?_) (fun C2=>?_)
 ·
  refine .seq<|.r<|.z .asB<|.nil ?_;refine .ret ⟨.bool false,Res.one rfl rfl,⟨by rw [decide_eq_false];intro e;subst e;exact C2 rfl,rfl⟩⟩
 refine .skip<|.end<|hK1 _ _<|.r<|.z .mvI<|.z .add<|.z .asI<|.nil ?_;refine .end<|hJ0 _ _ _ ⟨i+1,⟨rfl,rfl,rfl,trivial⟩,rfl,by omega,by omega,by rw [take_next hil,take_next him,ht];congr 2;exact UInt8.toNat_inj.1 (by omega),rfl⟩ (by omega)
theorem equal_any {h:Heap} {F E F' E':Nat→Prop} {a b:Option Addr} {c d:Nat} {l l2:List UInt8} (hl:RdL h F E (a,l.length,c) l) (hm:RdL h F' E' (b,l2.length,d) l2) :
  HC Tryz.prog 143 #[.slice a l.length c,.slice b l2.length d] h (fun v h'=>v=.bool (decide (l=l2))∧h'=h):=by
 refine HC.go Tryz.func143 10 ?_;refine .seq<|.r<|.z .asB<|.nil ?_;refine .seq<|.r<|.z .mvS<|.z (.bts T.el22 T.in5 T.st9 (hl).by)<|.z .mvS<|.z (.bts T.el22 T.in5 T.st9 (hm).by)<|.z .tEq<|.z .asB<|.nil ?_;refine .ret ⟨.bool ((BA l).toList == (BA l2).toList),Res.one rfl rfl,⟨by rw [tolist_eq],rfl⟩⟩
structure Hd where
 size:Int
 pages:Int
 free:Int
 many:Int
 cookie:Int
 version:Int
 deriving DecidableEq
def ChkP (h:Hd):Prop:=okZ h.size=true∧(1≤h.pages∧h.pages≤1048576∧h.size*h.pages≤16777216)∧(0≤h.many∧h.many<h.pages∧(h.many=0→h.free=0)∧(0<h.many→2≤h.free∧h.free≤h.pages))∧(0≤h.cookie∧h.cookie≤2147483647)∧(0≤h.version∧h.version≤2147483647)
instance (h:Hd):Decidable (ChkP h):=by unfold ChkP;infer_instance
def chkC (h:Hd):Nat:=if ChkP h then 0 else 1
theorem chk_y {h:Hd} (p:ChkP h):chkC h=0:=if_pos p
theorem chk_n {h:Hd} (p:¬ChkP h):chkC h=1:=if_neg p
theorem chk_o {h:Hd} (p:¬(chkC h:Int)≠0):ChkP h:=by
 by_cases q:ChkP h
 ·exact q
 ·rw [chk_n q] at p;exact absurd (by decide) p
theorem okZ_cases {z:Int} (h:okZ z=true):z=256∨z=512∨z=1024∨z=2048∨z=4096:=of_decide_eq_true h
theorem hsize_any {h:Heap} {z:Int} (hz : -9223372036854775808≤z∧z≤9223372036854775807) :
  HC Tryz.prog 190 #[.int .i64 z] h (fun v h'=>v=.bool (okZ z)∧h'=h):=by
 refine HC.go Tryz.func190 16 ?_;refine .seq<|.r<|.z .asB<|.nil ?_;refine .seq<|.r<|.z .mvI<|.z .geq<|.z .mvB<|.sd (fun G5=>?_) (fun G5=>?_)
 ·
  refine .z .mvI<|.z .leq<|.z .pkt<|.z .mvB<|.sd (fun G9=>?_) (fun G9=>?_)
  ·
   obtain ⟨q,rfl⟩:∃q:Nat,z=(q:Int):=⟨z.toNat,by omega⟩;have hq:=and_pow q (by omega) (by omega);refine .z .mvI<|.z .mvI<|.z .sub<|.z (.bandI q (q-1))<|.z .eql<|.z .pkt<|.z .asB<|.nil ?_;refine .ret ⟨.bool (decide ((((q &&& (q-1)):Nat):Int)=0)),Res.one rfl rfl,⟨by first | exact congrArg _ (by unfold okZ;rw [decide_eq_decide];omega) | exact congrArg _ (by unfold okZ;exact (decide_eq_false (by omega)).symm) | exact congrArg _ (by unfold okZ;exact (decide_eq_true (by omega)).symm),rfl⟩⟩
  refine .y<|.y<|.y<|.y<|.y<|.z .pkf<|.z .asB<|.nil ?_;refine .ret ⟨.bool false,Res.one rfl rfl,⟨by first | exact congrArg _ (by unfold okZ;rw [decide_eq_decide];omega) | exact congrArg _ (by unfold okZ;exact (decide_eq_false (by omega)).symm) | exact congrArg _ (by unfold okZ;exact (decide_eq_true (by omega)).symm),rfl⟩⟩
 refine .y<|.y<|.z .pkf<|.z .mvB<|.y<|.y<|.y<|.y<|.y<|.z .pkf<|.z .asB<|.nil ?_;refine .ret ⟨.bool false,Res.one rfl rfl,⟨by first | exact congrArg _ (by unfold okZ;rw [decide_eq_decide];omega) | exact congrArg _ (by unfold okZ;exact (decide_eq_false (by omega)).symm) | exact congrArg _ (by unfold okZ;exact (decide_eq_true (by omega)).symm),rfl⟩⟩
theorem check_any {h:Heap} {z0 z1 z2 z3 z4 z5:Int} (h0 : -9223372036854775808≤z0∧z0≤9223372036854775807) (h1 : -9223372036854775808≤z1∧z1≤9223372036854775807) (h2 : -9223372036854775808≤z2∧z2≤9223372036854775807) (h3 : -9223372036854775808≤z3∧z3≤9223372036854775807) (h4 : -9223372036854775808≤z4∧z4≤9223372036854775807) (h5 : -9223372036854775808≤z5∧z5≤9223372036854775807):HC Tryz.prog 152 #[.agg #[.int .i64 z0,.int .i64 z1,.int .i64 z2,.int .i64 z3,.int .i64 z4,.int .i64 z5]] h (fun v h'=>v=.int .i64 (chkC ⟨z0,z1,z2,z3,z4,z5⟩:Int)∧Ext h h'):=by
 have ok:=Hp.nil h none_;refine HC.go Tryz.func152 80 ?_;refine .seq<|.r<|.a' 1 (.bxA (cs:=[.int .i64 z0,.int .i64 z1,.int .i64 z2,.int .i64 z3,.int .i64 z4,.int .i64 z5]) ok) ?_;rintro _ η1 ⟨pb1,rfl,ok,xe⟩;refine .z .asI<|.nil ?_;refine .seq<|.seq<|.r<|.z (.fa T.fd148_0)<|.z (.ldx T.ag3 ok.m0)<|.k 5 .func (hsize_any (z:=z0) (by omega))<|.z .not<|.z .mvB<|.spl (fun G7=>?_) (fun G7=>?_)
 ·
  refine .y<|.y<|.y<|.z .pkt<|.z .mvB<|.y<|.y<|.y<|.z .pkt<|.z .mvB<|.y<|.y<|.y<|.y<|.y<|.y<|.z .pkt<|.nil ?_;refine .ct<|.seq<|.r<|.z .asI<|.nil ?_;refine .ret ⟨.int .i64 1,Res.one rfl rfl,⟨by rw [chk_n (by rintro ⟨p1,⟨p2,p3,p4⟩,⟨p5,p6,p7,p8⟩,⟨p9,p10⟩,p11,p12⟩;simp only at p1 p2 p3 p4 p5 p6 p7 p8 p9 p10 p11 p12;first | omega | simp_all)]<;>rfl,ok.chg⟩⟩
 refine .z (.fa T.fd148_1)<|.z (.ldx T.ag3 ok.m0)<|.z .lss<|.z .pkf<|.z .mvB<|.sd (fun G12=>?_) (fun G12=>?_)
 ·
  refine .y<|.y<|.y<|.z .pkt<|.z .mvB<|.y<|.y<|.y<|.y<|.y<|.y<|.z .pkt<|.nil ?_;refine .ct<|.seq<|.r<|.z .asI<|.nil ?_;refine .ret ⟨.int .i64 1,Res.one rfl rfl,⟨by rw [chk_n (by rintro ⟨p1,⟨p2,p3,p4⟩,⟨p5,p6,p7,p8⟩,⟨p9,p10⟩,p11,p12⟩;simp only at p1 p2 p3 p4 p5 p6 p7 p8 p9 p10 p11 p12;first | omega | simp_all)]<;>rfl,ok.chg⟩⟩
 refine .z (.fa T.fd148_1)<|.z (.ldx T.ag3 ok.m0)<|.z .gtr<|.z .pkf<|.z .mvB<|.sd (fun G17=>?_) (fun G17=>?_)
 ·
  refine .y<|.y<|.y<|.y<|.y<|.y<|.z .pkt<|.nil ?_;refine .ct<|.seq<|.r<|.z .asI<|.nil ?_;refine .ret ⟨.int .i64 1,Res.one rfl rfl,⟨by rw [chk_n (by rintro ⟨p1,⟨p2,p3,p4⟩,⟨p5,p6,p7,p8⟩,⟨p9,p10⟩,p11,p12⟩;simp only at p1 p2 p3 p4 p5 p6 p7 p8 p9 p10 p11 p12;first | omega | simp_all)]<;>rfl,ok.chg⟩⟩
 have hoz:okZ z0=true:=by simpa using G7
 have hmul:z0*z1≤4096*z1∧0≤z0*z1:=by rcases okZ_cases hoz with e | e | e | e | e<;>rw [e]<;>constructor<;>omega
 refine .z (.fa T.fd148_0)<|.z (.ldx T.ag3 ok.m0)<|.z (.fa T.fd148_1)<|.z (.ldx T.ag3 ok.m0)<|.z (.mul (hr:=(by omega)))<|.z .gtr<|.z .pkf<|.nil ?_;refine .cd (fun C0=>?_) (fun C0=>?_)
 ·
  refine .seq<|.r<|.z .asI<|.nil ?_;refine .ret ⟨.int .i64 1,Res.one rfl rfl,⟨by rw [chk_n (by rintro ⟨p1,⟨p2,p3,p4⟩,⟨p5,p6,p7,p8⟩,⟨p9,p10⟩,p11,p12⟩;simp only at p1 p2 p3 p4 p5 p6 p7 p8 p9 p10 p11 p12;first | omega | simp_all)]<;>rfl,ok.chg⟩⟩
 refine .skip<|.seq<|.seq<|.r<|.z (.fa T.fd148_3)<|.z (.ldx T.ag3 ok.m0)<|.z .lss<|.z .mvB<|.sd (fun G28=>?_) (fun G28=>?_)
 ·
  refine .y<|.y<|.y<|.y<|.y<|.z .pkt<|.z .mvB<|.y<|.y<|.y<|.y<|.y<|.y<|.y<|.y<|.z .pkt<|.z .mvB<|.y<|.y<|.y<|.y<|.y<|.y<|.y<|.y<|.y<|.y<|.y<|.y<|.y<|.y<|.y<|.z .pkt<|.nil ?_;refine .ct<|.seq<|.r<|.z .asI<|.nil ?_;refine .ret ⟨.int .i64 1,Res.one rfl rfl,⟨by rw [chk_n (by rintro ⟨p1,⟨p2,p3,p4⟩,⟨p5,p6,p7,p8⟩,⟨p9,p10⟩,p11,p12⟩;simp only at p1 p2 p3 p4 p5 p6 p7 p8 p9 p10 p11 p12;first | omega | simp_all)]<;>rfl,ok.chg⟩⟩
 refine .z (.fa T.fd148_3)<|.z (.ldx T.ag3 ok.m0)<|.z (.fa T.fd148_1)<|.z (.ldx T.ag3 ok.m0)<|.z .geq<|.z .pkf<|.z .mvB<|.sd (fun G35=>?_) (fun G35=>?_)
 ·
  refine .y<|.y<|.y<|.y<|.y<|.y<|.y<|.y<|.z .pkt<|.z .mvB<|.y<|.y<|.y<|.y<|.y<|.y<|.y<|.y<|.y<|.y<|.y<|.y<|.y<|.y<|.y<|.z .pkt<|.nil ?_;refine .ct<|.seq<|.r<|.z .asI<|.nil ?_;refine .ret ⟨.int .i64 1,Res.one rfl rfl,⟨by rw [chk_n (by rintro ⟨p1,⟨p2,p3,p4⟩,⟨p5,p6,p7,p8⟩,⟨p9,p10⟩,p11,p12⟩;simp only at p1 p2 p3 p4 p5 p6 p7 p8 p9 p10 p11 p12;first | omega | simp_all)]<;>rfl,ok.chg⟩⟩
 refine .z (.fa T.fd148_3)<|.z (.ldx T.ag3 ok.m0)<|.z .eql<|.z .mvB<|.sd (fun G39=>?_) (fun G39=>?_)
 ·
  refine .z (.fa T.fd148_2)<|.z (.ldx T.ag3 ok.m0)<|.z .neq<|.z .pkt<|.z .pkf<|.z .mvB<|.sd (fun G45=>?_) (fun G45=>?_)
  ·
   refine .y<|.y<|.y<|.y<|.y<|.y<|.y<|.y<|.y<|.y<|.y<|.y<|.y<|.y<|.y<|.z .pkt<|.nil ?_;refine .ct<|.seq<|.r<|.z .asI<|.nil ?_;refine .ret ⟨.int .i64 1,Res.one rfl rfl,⟨by rw [chk_n (by rintro ⟨p1,⟨p2,p3,p4⟩,⟨p5,p6,p7,p8⟩,⟨p9,p10⟩,p11,p12⟩;simp only at p1 p2 p3 p4 p5 p6 p7 p8 p9 p10 p11 p12;first | omega | simp_all)]<;>rfl,ok.chg⟩⟩
  refine .z (.fa T.fd148_3)<|.z (.ldx T.ag3 ok.m0)<|.z .gtr<|.z .mvB<|.sd (fun G49=>?_) (fun G49=>?_)
  ·
   refine .z (.fa T.fd148_2)<|.z (.ldx T.ag3 ok.m0)<|.z .lss<|.z .mvB<|.sd (fun G53=>?_) (fun G53=>?_)
   ·
    refine .y<|.y<|.y<|.y<|.y<|.z .pkt<|.z .pkt<|.z .pkf<|.nil ?_;refine .ct<|.seq<|.r<|.z .asI<|.nil ?_;refine .ret ⟨.int .i64 1,Res.one rfl rfl,⟨by rw [chk_n (by rintro ⟨p1,⟨p2,p3,p4⟩,⟨p5,p6,p7,p8⟩,⟨p9,p10⟩,p11,p12⟩;simp only at p1 p2 p3 p4 p5 p6 p7 p8 p9 p10 p11 p12;first | omega | simp_all)]<;>rfl,ok.chg⟩⟩
   refine .z (.fa T.fd148_2)<|.z (.ldx T.ag3 ok.m0)<|.z (.fa T.fd148_1)<|.z (.ldx T.ag3 ok.m0)<|.z .gtr<|.z .pkf<|.z .pkt<|.z .pkf<|.nil ?_;refine .cd (fun C1=>?_) (fun C1=>?_)
   ·
    refine .seq<|.r<|.z .asI<|.nil ?_;refine .ret ⟨.int .i64 1,Res.one rfl rfl,⟨by rw [chk_n (by rintro ⟨p1,⟨p2,p3,p4⟩,⟨p5,p6,p7,p8⟩,⟨p9,p10⟩,p11,p12⟩;simp only at p1 p2 p3 p4 p5 p6 p7 p8 p9 p10 p11 p12;first | omega | simp_all)]<;>rfl,ok.chg⟩⟩
   refine .skip<|.seq<|.seq<|.r<|.z (.fa T.fd148_4)<|.z (.ldx T.ag3 ok.m0)<|.z .lss<|.z .mvB<|.sd (fun G65=>?_) (fun G65=>?_)
   ·
    refine .y<|.y<|.y<|.z .pkt<|.z .mvB<|.y<|.y<|.y<|.z .pkt<|.z .mvB<|.y<|.y<|.y<|.z .pkt<|.nil ?_;refine .ct<|.seq<|.r<|.z .asI<|.nil ?_;refine .ret ⟨.int .i64 1,Res.one rfl rfl,⟨by rw [chk_n (by rintro ⟨p1,⟨p2,p3,p4⟩,⟨p5,p6,p7,p8⟩,⟨p9,p10⟩,p11,p12⟩;simp only at p1 p2 p3 p4 p5 p6 p7 p8 p9 p10 p11 p12;first | omega | simp_all)]<;>rfl,ok.chg⟩⟩
   refine .z (.fa T.fd148_4)<|.z (.ldx T.ag3 ok.m0)<|.z .gtr<|.z .pkf<|.z .mvB<|.sd (fun G70=>?_) (fun G70=>?_)
   ·
    refine .y<|.y<|.y<|.z .pkt<|.z .mvB<|.y<|.y<|.y<|.z .pkt<|.nil ?_;refine .ct<|.seq<|.r<|.z .asI<|.nil ?_;refine .ret ⟨.int .i64 1,Res.one rfl rfl,⟨by rw [chk_n (by rintro ⟨p1,⟨p2,p3,p4⟩,⟨p5,p6,p7,p8⟩,⟨p9,p10⟩,p11,p12⟩;simp only at p1 p2 p3 p4 p5 p6 p7 p8 p9 p10 p11 p12;first | omega | simp_all)]<;>rfl,ok.chg⟩⟩
   refine .z (.fa T.fd148_5)<|.z (.ldx T.ag3 ok.m0)<|.z .lss<|.z .pkf<|.z .mvB<|.sd (fun G75=>?_) (fun G75=>?_)
   ·
    refine .y<|.y<|.y<|.z .pkt<|.nil ?_;refine .ct<|.seq<|.r<|.z .asI<|.nil ?_;refine .ret ⟨.int .i64 1,Res.one rfl rfl,⟨by rw [chk_n (by rintro ⟨p1,⟨p2,p3,p4⟩,⟨p5,p6,p7,p8⟩,⟨p9,p10⟩,p11,p12⟩;simp only at p1 p2 p3 p4 p5 p6 p7 p8 p9 p10 p11 p12;first | omega | simp_all)]<;>rfl,ok.chg⟩⟩
   refine .z (.fa T.fd148_5)<|.z (.ldx T.ag3 ok.m0)<|.z .gtr<|.z .pkf<|.nil ?_;refine .cd (fun C2=>?_) (fun C2=>?_)
   ·
    refine .seq<|.r<|.z .asI<|.nil ?_;refine .ret ⟨.int .i64 1,Res.one rfl rfl,⟨by rw [chk_n (by rintro ⟨p1,⟨p2,p3,p4⟩,⟨p5,p6,p7,p8⟩,⟨p9,p10⟩,p11,p12⟩;simp only at p1 p2 p3 p4 p5 p6 p7 p8 p9 p10 p11 p12;first | omega | simp_all)]<;>rfl,ok.chg⟩⟩
   refine .skip<|.seq<|.r<|.z .asI<|.nil ?_;refine .ret ⟨.int .i64 0,Res.one rfl rfl,⟨by rw [chk_y ⟨by assumption,⟨by simp only;omega,by simp only;omega,by simp only;omega⟩,⟨by simp only;omega,by simp only;omega,by simp only;omega,by simp only;omega⟩,⟨by simp only;omega,by simp only;omega⟩,by simp only;omega,by simp only;omega⟩]<;>rfl,ok.chg⟩⟩
  refine .y<|.y<|.y<|.y<|.y<|.y<|.y<|.y<|.y<|.y<|.z .pkf<|.z .pkf<|.nil ?_;refine .cf<|.skip<|.seq<|.seq<|.r<|.z (.fa T.fd148_4)<|.z (.ldx T.ag3 ok.m0)<|.z .lss<|.z .mvB<|.sd (fun G65=>?_) (fun G65=>?_)
  ·
   refine .y<|.y<|.y<|.z .pkt<|.z .mvB<|.y<|.y<|.y<|.z .pkt<|.z .mvB<|.y<|.y<|.y<|.z .pkt<|.nil ?_;refine .ct<|.seq<|.r<|.z .asI<|.nil ?_;refine .ret ⟨.int .i64 1,Res.one rfl rfl,⟨by rw [chk_n (by rintro ⟨p1,⟨p2,p3,p4⟩,⟨p5,p6,p7,p8⟩,⟨p9,p10⟩,p11,p12⟩;simp only at p1 p2 p3 p4 p5 p6 p7 p8 p9 p10 p11 p12;first | omega | simp_all)]<;>rfl,ok.chg⟩⟩
  refine .z (.fa T.fd148_4)<|.z (.ldx T.ag3 ok.m0)<|.z .gtr<|.z .pkf<|.z .mvB<|.sd (fun G70=>?_) (fun G70=>?_)
  ·
   refine .y<|.y<|.y<|.z .pkt<|.z .mvB<|.y<|.y<|.y<|.z .pkt<|.nil ?_;refine .ct<|.seq<|.r<|.z .asI<|.nil ?_;refine .ret ⟨.int .i64 1,Res.one rfl rfl,⟨by rw [chk_n (by rintro ⟨p1,⟨p2,p3,p4⟩,⟨p5,p6,p7,p8⟩,⟨p9,p10⟩,p11,p12⟩;simp only at p1 p2 p3 p4 p5 p6 p7 p8 p9 p10 p11 p12;first | omega | simp_all)]<;>rfl,ok.chg⟩⟩
  refine .z (.fa T.fd148_5)<|.z (.ldx T.ag3 ok.m0)<|.z .lss<|.z .pkf<|.z .mvB<|.sd (fun G75=>?_) (fun G75=>?_)
  ·
   refine .y<|.y<|.y<|.z .pkt<|.nil ?_;refine .ct<|.seq<|.r<|.z .asI<|.nil ?_;refine .ret ⟨.int .i64 1,Res.one rfl rfl,⟨by rw [chk_n (by rintro ⟨p1,⟨p2,p3,p4⟩,⟨p5,p6,p7,p8⟩,⟨p9,p10⟩,p11,p12⟩;simp only at p1 p2 p3 p4 p5 p6 p7 p8 p9 p10 p11 p12;first | omega | simp_all)]<;>rfl,ok.chg⟩⟩
  refine .z (.fa T.fd148_5)<|.z (.ldx T.ag3 ok.m0)<|.z .gtr<|.z .pkf<|.nil ?_;refine .cd (fun C2=>?_) (fun C2=>?_)
  ·
   refine .seq<|.r<|.z .asI<|.nil ?_;refine .ret ⟨.int .i64 1,Res.one rfl rfl,⟨by rw [chk_n (by rintro ⟨p1,⟨p2,p3,p4⟩,⟨p5,p6,p7,p8⟩,⟨p9,p10⟩,p11,p12⟩;simp only at p1 p2 p3 p4 p5 p6 p7 p8 p9 p10 p11 p12;first | omega | simp_all)]<;>rfl,ok.chg⟩⟩
  refine .skip<|.seq<|.r<|.z .asI<|.nil ?_;refine .ret ⟨.int .i64 0,Res.one rfl rfl,⟨by rw [chk_y ⟨by assumption,⟨by simp only;omega,by simp only;omega,by simp only;omega⟩,⟨by simp only;omega,by simp only;omega,by simp only;omega,by simp only;omega⟩,⟨by simp only;omega,by simp only;omega⟩,by simp only;omega,by simp only;omega⟩]<;>rfl,ok.chg⟩⟩
 refine .y<|.y<|.y<|.z .pkf<|.z .pkf<|.z .mvB<|.z (.fa T.fd148_3)<|.z (.ldx T.ag3 ok.m0)<|.z .gtr<|.z .mvB<|.sd (fun G49=>?_) (fun G49=>?_)
 ·
  refine .z (.fa T.fd148_2)<|.z (.ldx T.ag3 ok.m0)<|.z .lss<|.z .mvB<|.sd (fun G53=>?_) (fun G53=>?_)
  ·
   refine .y<|.y<|.y<|.y<|.y<|.z .pkt<|.z .pkt<|.z .pkf<|.nil ?_;refine .ct<|.seq<|.r<|.z .asI<|.nil ?_;refine .ret ⟨.int .i64 1,Res.one rfl rfl,⟨by rw [chk_n (by rintro ⟨p1,⟨p2,p3,p4⟩,⟨p5,p6,p7,p8⟩,⟨p9,p10⟩,p11,p12⟩;simp only at p1 p2 p3 p4 p5 p6 p7 p8 p9 p10 p11 p12;first | omega | simp_all)]<;>rfl,ok.chg⟩⟩
  refine .z (.fa T.fd148_2)<|.z (.ldx T.ag3 ok.m0)<|.z (.fa T.fd148_1)<|.z (.ldx T.ag3 ok.m0)<|.z .gtr<|.z .pkf<|.z .pkt<|.z .pkf<|.nil ?_;refine .cd (fun C1=>?_) (fun C1=>?_)
  ·
   refine .seq<|.r<|.z .asI<|.nil ?_;refine .ret ⟨.int .i64 1,Res.one rfl rfl,⟨by rw [chk_n (by rintro ⟨p1,⟨p2,p3,p4⟩,⟨p5,p6,p7,p8⟩,⟨p9,p10⟩,p11,p12⟩;simp only at p1 p2 p3 p4 p5 p6 p7 p8 p9 p10 p11 p12;first | omega | simp_all)]<;>rfl,ok.chg⟩⟩
  refine .skip<|.seq<|.seq<|.r<|.z (.fa T.fd148_4)<|.z (.ldx T.ag3 ok.m0)<|.z .lss<|.z .mvB<|.sd (fun G65=>?_) (fun G65=>?_)
  ·
   refine .y<|.y<|.y<|.z .pkt<|.z .mvB<|.y<|.y<|.y<|.z .pkt<|.z .mvB<|.y<|.y<|.y<|.z .pkt<|.nil ?_;refine .ct<|.seq<|.r<|.z .asI<|.nil ?_;refine .ret ⟨.int .i64 1,Res.one rfl rfl,⟨by rw [chk_n (by rintro ⟨p1,⟨p2,p3,p4⟩,⟨p5,p6,p7,p8⟩,⟨p9,p10⟩,p11,p12⟩;simp only at p1 p2 p3 p4 p5 p6 p7 p8 p9 p10 p11 p12;first | omega | simp_all)]<;>rfl,ok.chg⟩⟩
  refine .z (.fa T.fd148_4)<|.z (.ldx T.ag3 ok.m0)<|.z .gtr<|.z .pkf<|.z .mvB<|.sd (fun G70=>?_) (fun G70=>?_)
  ·
   refine .y<|.y<|.y<|.z .pkt<|.z .mvB<|.y<|.y<|.y<|.z .pkt<|.nil ?_;refine .ct<|.seq<|.r<|.z .asI<|.nil ?_;refine .ret ⟨.int .i64 1,Res.one rfl rfl,⟨by rw [chk_n (by rintro ⟨p1,⟨p2,p3,p4⟩,⟨p5,p6,p7,p8⟩,⟨p9,p10⟩,p11,p12⟩;simp only at p1 p2 p3 p4 p5 p6 p7 p8 p9 p10 p11 p12;first | omega | simp_all)]<;>rfl,ok.chg⟩⟩
  refine .z (.fa T.fd148_5)<|.z (.ldx T.ag3 ok.m0)<|.z .lss<|.z .pkf<|.z .mvB<|.sd (fun G75=>?_) (fun G75=>?_)
  ·
   refine .y<|.y<|.y<|.z .pkt<|.nil ?_;refine .ct<|.seq<|.r<|.z .asI<|.nil ?_;refine .ret ⟨.int .i64 1,Res.one rfl rfl,⟨by rw [chk_n (by rintro ⟨p1,⟨p2,p3,p4⟩,⟨p5,p6,p7,p8⟩,⟨p9,p10⟩,p11,p12⟩;simp only at p1 p2 p3 p4 p5 p6 p7 p8 p9 p10 p11 p12;first | omega | simp_all)]<;>rfl,ok.chg⟩⟩
  refine .z (.fa T.fd148_5)<|.z (.ldx T.ag3 ok.m0)<|.z .gtr<|.z .pkf<|.nil ?_;refine .cd (fun C2=>?_) (fun C2=>?_)
  ·
   refine .seq<|.r<|.z .asI<|.nil ?_;refine .ret ⟨.int .i64 1,Res.one rfl rfl,⟨by rw [chk_n (by rintro ⟨p1,⟨p2,p3,p4⟩,⟨p5,p6,p7,p8⟩,⟨p9,p10⟩,p11,p12⟩;simp only at p1 p2 p3 p4 p5 p6 p7 p8 p9 p10 p11 p12;first | omega | simp_all)]<;>rfl,ok.chg⟩⟩
  refine .skip<|.seq<|.r<|.z .asI<|.nil ?_;refine .ret ⟨.int .i64 0,Res.one rfl rfl,⟨by rw [chk_y ⟨by assumption,⟨by simp only;omega,by simp only;omega,by simp only;omega⟩,⟨by simp only;omega,by simp only;omega,by simp only;omega,by simp only;omega⟩,⟨by simp only;omega,by simp only;omega⟩,by simp only;omega,by simp only;omega⟩]<;>rfl,ok.chg⟩⟩
 refine .y<|.y<|.y<|.y<|.y<|.y<|.y<|.y<|.y<|.y<|.z .pkf<|.z .pkf<|.nil ?_;refine .cf<|.skip<|.seq<|.seq<|.r<|.z (.fa T.fd148_4)<|.z (.ldx T.ag3 ok.m0)<|.z .lss<|.z .mvB<|.sd (fun G65=>?_) (fun G65=>?_)
 ·
  refine .y<|.y<|.y<|.z .pkt<|.z .mvB<|.y<|.y<|.y<|.z .pkt<|.z .mvB<|.y<|.y<|.y<|.z .pkt<|.nil ?_;refine .ct<|.seq<|.r<|.z .asI<|.nil ?_;refine .ret ⟨.int .i64 1,Res.one rfl rfl,⟨by rw [chk_n (by rintro ⟨p1,⟨p2,p3,p4⟩,⟨p5,p6,p7,p8⟩,⟨p9,p10⟩,p11,p12⟩;simp only at p1 p2 p3 p4 p5 p6 p7 p8 p9 p10 p11 p12;first | omega | simp_all)]<;>rfl,ok.chg⟩⟩
 refine .z (.fa T.fd148_4)<|.z (.ldx T.ag3 ok.m0)<|.z .gtr<|.z .pkf<|.z .mvB<|.sd (fun G70=>?_) (fun G70=>?_)
 ·
  refine .y<|.y<|.y<|.z .pkt<|.z .mvB<|.y<|.y<|.y<|.z .pkt<|.nil ?_;refine .ct<|.seq<|.r<|.z .asI<|.nil ?_;refine .ret ⟨.int .i64 1,Res.one rfl rfl,⟨by rw [chk_n (by rintro ⟨p1,⟨p2,p3,p4⟩,⟨p5,p6,p7,p8⟩,⟨p9,p10⟩,p11,p12⟩;simp only at p1 p2 p3 p4 p5 p6 p7 p8 p9 p10 p11 p12;first | omega | simp_all)]<;>rfl,ok.chg⟩⟩
 refine .z (.fa T.fd148_5)<|.z (.ldx T.ag3 ok.m0)<|.z .lss<|.z .pkf<|.z .mvB<|.sd (fun G75=>?_) (fun G75=>?_)
 ·
  refine .y<|.y<|.y<|.z .pkt<|.nil ?_;refine .ct<|.seq<|.r<|.z .asI<|.nil ?_;refine .ret ⟨.int .i64 1,Res.one rfl rfl,⟨by rw [chk_n (by rintro ⟨p1,⟨p2,p3,p4⟩,⟨p5,p6,p7,p8⟩,⟨p9,p10⟩,p11,p12⟩;simp only at p1 p2 p3 p4 p5 p6 p7 p8 p9 p10 p11 p12;first | omega | simp_all)]<;>rfl,ok.chg⟩⟩
 refine .z (.fa T.fd148_5)<|.z (.ldx T.ag3 ok.m0)<|.z .gtr<|.z .pkf<|.nil ?_;refine .cd (fun C2=>?_) (fun C2=>?_)
 ·
  refine .seq<|.r<|.z .asI<|.nil ?_;refine .ret ⟨.int .i64 1,Res.one rfl rfl,⟨by rw [chk_n (by rintro ⟨p1,⟨p2,p3,p4⟩,⟨p5,p6,p7,p8⟩,⟨p9,p10⟩,p11,p12⟩;simp only at p1 p2 p3 p4 p5 p6 p7 p8 p9 p10 p11 p12;first | omega | simp_all)]<;>rfl,ok.chg⟩⟩
 refine .skip<|.seq<|.r<|.z .asI<|.nil ?_;refine .ret ⟨.int .i64 0,Res.one rfl rfl,⟨by rw [chk_y ⟨by assumption,⟨by simp only;omega,by simp only;omega,by simp only;omega⟩,⟨by simp only;omega,by simp only;omega,by simp only;omega,by simp only;omega⟩,⟨by simp only;omega,by simp only;omega⟩,by simp only;omega,by simp only;omega⟩]<;>rfl,ok.chg⟩⟩
@[reducible] def signL:List UInt8:=[116,111,109,101,32,102,105,108,101,32,49,0,0,0,0,0]
def hdF (N:List Nat):List UInt8:=(N.map fun n=>fixedN n 4).flatten
theorem hdF_take {N:List Nat} {i:Nat} (h:i<N.length):hdF (N.take (i+1))=hdF (N.take i)++fixedN N[i] 4:=by
 unfold hdF;rw [List.take_succ_eq_append_getElem h,List.map_append,List.flatten_append];simp
def hdT (N:List Nat):List UInt8:=signL++hdF N++List.replicate 20 0
def hdB (N:List Nat):List UInt8:=hdT N++fixedN (sumN (hdT N)) 4
theorem hbytes_any {h:Heap} {n0 n1 n2 n3 n4 n5:Nat} (h0:n0<4294967296) (h1:n1<4294967296) (h2:n2<4294967296) (h3:n3<4294967296) (h4:n4<4294967296) (h5:n5<4294967296):HC Tryz.prog 153 #[.agg #[.int .i64 (n0:Int),.int .i64 (n1:Int),.int .i64 (n2:Int),.int .i64 (n3:Int),.int .i64 (n4:Int),.int .i64 (n5:Int)]] h (fun v h'=>Own h h' 1 5 v ((hdB [n0,n1,n2,n3,n4,n5]).map bv)):=by
 have ok:=Hp.nil h none_;refine HC.go Tryz.func153 44 ?_;refine .seq<|.r<|.a' 1 (.bxA (cs:=[.int .i64 (n0:Int),.int .i64 (n1:Int),.int .i64 (n2:Int),.int .i64 (n3:Int),.int .i64 (n4:Int),.int .i64 (n5:Int)]) ok) ?_;rintro _ η1 ⟨pb1,rfl,ok,xe⟩;refine .z .asS<|.nil ?_;refine .seq<|.r<|.a' 6 (.lit [.const (.int .u8 116),.const (.int .u8 111),.const (.int .u8 109),.const (.int .u8 101),.const (.int .u8 32),.const (.int .u8 102),.const (.int .u8 105),.const (.int .u8 108),.const (.int .u8 101),.const (.int .u8 32),.const (.int .u8 49),.const (.int .u8 0),.const (.int .u8 0),.const (.int .u8 0),.const (.int .u8 0),.const (.int .u8 0)] (cs:=[.int .u8 116,.int .u8 111,.int .u8 109,.int .u8 101,.int .u8 32,.int .u8 102,.int .u8 105,.int .u8 108,.int .u8 101,.int .u8 32,.int .u8 49,.int .u8 0,.int .u8 0,.int .u8 0,.int .u8 0,.int .u8 0]) T.el22 T.sz5 T.zr5 ok ⟨rfl,rfl,rfl,rfl,rfl,rfl,rfl,rfl,rfl,rfl,rfl,rfl,rfl,rfl,rfl,rfl,trivial⟩) ?_;rintro _ η2 ⟨pb2,rfl,ok,xe⟩;have ok:=ok.cx (ys:=([116,111,109,101,32,102,105,108,101,32,49,0,0,0,0,0]:List UInt8).map bv) rfl;refine .a' 7 (.cvL T.el22 T.in5 ok) ?_;rintro _ η3 ⟨rfl,ok,cg⟩;refine .z .asS<|.nil ?_;refine .seq<|.seq<|.r<|.z (.fa T.fd148_0)<|.z (.ldx T.ag3 ok.m1)<|.z (.fa T.fd148_1)<|.z (.ldx T.ag3 ok.m1)<|.z (.fa T.fd148_2)<|.z (.ldx T.ag3 ok.m1)<|.z (.fa T.fd148_3)<|.z (.ldx T.ag3 ok.m1)<|.z (.fa T.fd148_4)<|.z (.ldx T.ag3 ok.m1)<|.z (.fa T.fd148_5)<|.z (.ldx T.ag3 ok.m1)<|.a' 20 (.lit [.tmp 9,.tmp 11,.tmp 13,.tmp 15,.tmp 17,.tmp 19] (cs:=[.int .i64 (n0:Int),.int .i64 (n1:Int),.int .i64 (n2:Int),.int .i64 (n3:Int),.int .i64 (n4:Int),.int .i64 (n5:Int)]) T.el167 T.sz3 T.zr3 ok ⟨rfl,rfl,rfl,rfl,rfl,rfl,trivial⟩) ?_;rintro _ η4 ⟨pb3,rfl,ok,xe⟩;obtain ⟨N,hN⟩:∃N:List Nat,N=[n0,n1,n2,n3,n4,n5]:=⟨_,rfl⟩;have hNl:N.length=6:=by rw [hN];rfl
 have hNb:∀j (hj:j<N.length),N[j]<4294967296:=by subst hN;intro j hj;match j,hj with | 0,_=>exact h0 | 1,_=>exact h1 | 2,_=>exact h2 | 3,_=>exact h3 | 4,_=>exact h4 | 5,_=>exact h5
 have hML:(N.map Int.ofNat).length=6:=by rw [List.length_map,hNl]
 have ok:=(ok.cx (ys:=(N.map Int.ofNat).map iv) (by rw [hN];rfl)).frzI rfl;refine .z (.len T.el167)<|.z .mvI<|.nil ?_;refine .block fun K0 hK0=>.loop (fun m s hh=>∃(i:Nat) (bs:List UInt8) (a3:Option Addr) (c3:Nat),Has s [(3,.slice a3 bs.length c3),(20,.slice (some ⟨pb3,0,none⟩) 6 6),(21,.int .i64 6),(22,.int .i64 (i:Int))]∧Hp h none_ [capI 1 5 (a3,bs.length,c3) (bs.map bv)] [rdI (blkC (sv (some ⟨pb3,0,none⟩,6,6))) none_ (some ⟨pb3,0,none⟩,6,6) (N.map Int.ofNat)] hh∧i≤6∧bs=signL++hdF (N.take i)∧bs.length=16+4*i∧m=6-i) ?_ ?_
 ·exact ⟨_,0,signL,(some ⟨pb2,0,none⟩),16,⟨rfl,rfl,rfl,rfl,trivial⟩,(ok).k1,Nat.zero_le _,rfl,rfl,rfl⟩
 rintro _ _ η5 ⟨i,bs,a3,c3,hs,ok,hi,hbs,hbl,rfl⟩ J0 hJ0;refine .frame hs fun τ=>?_;refine .seq<|.r<|.z .lss<|.nil ?_;refine .seq<|.cdr (fun C0=>?_) (fun C0=>?_)
 ·
  obtain rfl:i=6:=by omega
  rw [show N.take 6=N from by rw [←hNl,List.take_length]] at hbs;refine .exit<|hK0 _ _<|.seq<|.r<|.z .mvS<|.z .mvS<|.z (.len T.el22)<|.z .sub<|.a' 36 (.apz (z:=(60-(bs.length:Int))) 20 T.el22 T.in3 T.sz5 T.by5 T.zr5 ok (by omega) (by omega)) ?_;rintro _ η6 ⟨ya1,yc1,rfl,ok⟩;refine .z .asS<|.nil ?_;refine .seq<|.r<|.z .mvS<|.z .mvS<|.a' 39 (.lit [.tmp 38] (cs:=[.slice ya1 ((bs++List.replicate 20 0).length) yc1]) T.el26 T.sz22 T.zr22 ok ⟨rfl,trivial⟩) ?_;rintro _ η7 ⟨pb4,rfl,ok,xe⟩;refine .c' 40 .func (sum_any (a:=some ⟨pb4,0,none⟩) (c:=1) (L:=[(bs++List.replicate 20 0)]) (RdL.rows (v:=(some ⟨pb4,0,none⟩,1,1)) (xs:=[(ya1,(bs++List.replicate 20 0).length,yc1)]) (ls:=[(bs++List.replicate 20 0)]) ok.m0 ⟨⟨_,_,(RdL.ofCapB (v:=(ya1,(bs++List.replicate 20 0).length,yc1)) (l:=(bs++List.replicate 20 0)) ok.m1)⟩,trivial⟩)) ?_;rintro _ η8 ⟨rfl,hx⟩;have ok:=ok.ext hx;refine .z (.cvs T.in77 T.in243 (M:=18446744073709551616) rfl rfl (a:=(sumN ([(bs++List.replicate 20 0)]).flatten)) (ha:=by exact Nat.lt_of_lt_of_le (sumN_lt _) (by decide)))<|.c' 42 .func (fixed_any (n:=(sumN ([(bs++List.replicate 20 0)]).flatten)) (size:=4) (by first | omega | exact Nat.lt_of_lt_of_le (sumN_lt _) (by decide)) (by omega) (by omega)) ?_;rintro _ η9 own;obtain ⟨ya2,yc2,rfl⟩:=own.formB;have ok:=ok.own own;refine .a' 43 (.app (news:=(fixedN (sumN ([(bs++List.replicate 20 0)]).flatten) 4).map bv) T.el22 T.sz5 T.by5 T.zr5 ok.n2 (ok.n2.m1).sl bv_all (by simp only [List.length_map,List.length_append,List.length_take,List.length_cons,List.length_nil,List.length_replicate,List.length_range,fixedN_len,sealN_len];omega)) ?_;rintro _ η10 ⟨ya3,yn2,yc3,rfl,ok,ap⟩;have ok:=ok.cx (ys:=((bs++List.replicate 20 0)++(fixedN (sumN ([(bs++List.replicate 20 0)]).flatten) 4)).map bv) (by simp [bv]);obtain rfl:yn2=((bs++List.replicate 20 0)++(fixedN (sumN ([(bs++List.replicate 20 0)]).flatten) 4)).length:=ok.lenB;refine .z .asS<|.nil ?_;refine .ret ⟨.slice ya3 (((bs++List.replicate 20 0)++(fixedN (sumN ([(bs++List.replicate 20 0)]).flatten) 4)).length) yc3,Res.one rfl rfl,(by rw [show hdB [n0,n1,n2,n3,n4,n5]=(bs++List.replicate 20 0)++(fixedN (sumN ([(bs++List.replicate 20 0)]).flatten) 4) from by rw [←hN];unfold hdB hdT;rw [←hbs];simp];exact (ok).toOwn)⟩
 have hi6:i<6:=by omega
 refine .skip<|.seq<|.block fun K1 hK1=>.seq<|.r<|.z (.ix1 i T.el167 T.sz3)<|.z (.ld T.ag3 (ok.r0.i64 (i:=i) (by omega)))<|?_;have hiN:i<N.length:=by omega
 have hNi:=hNb i hiN;rw [show (N.map Int.ofNat)[i]=((N[i]:Nat):Int) from List.getElem_map _];refine .z .asI<|.nil ?_;refine .r<|.z .mvS<|.z .mvI<|.z (.cvs T.in77 T.in3 (M:=18446744073709551616) rfl rfl)<|.c' 29 .func (fixed_any (n:=N[i]) (size:=4) (by first | omega | exact Nat.lt_of_lt_of_le (sumN_lt _) (by decide)) (by omega) (by omega)) ?_;rintro _ η11 own;obtain ⟨ya4,yc4,rfl⟩:=own.formB;have ok:=ok.own own;refine .a' 30 (.app (news:=(fixedN (N[i]) 4).map bv) T.el22 T.sz5 T.by5 T.zr5 ok.n1 (ok.n1.m1).sl bv_all (by simp only [List.length_map,List.length_append,List.length_take,List.length_cons,List.length_nil,List.length_replicate,List.length_range,fixedN_len,sealN_len];omega)) ?_;rintro _ η12 ⟨ya5,yn4,yc5,rfl,ok,ap⟩;have ok:=ok.cx (ys:=(bs++(fixedN (N[i]) 4)).map bv) (by simp [bv]);obtain rfl:yn4=(bs++(fixedN (N[i]) 4)).length:=ok.lenB;refine .z .asS<|.nil ?_;refine .end<|hK1 _ _<|.r<|.z (.addI (b:=1))<|.z .mvI<|.nil ?_;refine .end<|hJ0 _ _ _ ⟨i+1,bs++fixedN N[i] 4,ya5,yc5,⟨rfl,rfl,rfl,rfl,trivial⟩,(ok).k1,by omega,by rw [hdF_take hiN,hbs,List.append_assoc],by rw [List.length_append,fixedN_len,hbl];omega,rfl⟩ (by omega)
def hdAt (l:List UInt8) (k:Nat):Nat:=rdN l (16+4*k) 4
theorem hdAt_lt (l:List UInt8) (k:Nat):hdAt l k<4294967296:=rdN_lt4 _ _
def hd0:Hd:=⟨0,0,0,0,0,0⟩
def decH (l:List UInt8):Hd:=⟨hdAt l 0,hdAt l 1,hdAt l 2,hdAt l 3,hdAt l 4,hdAt l 5⟩
def decY (l:List UInt8):Prop:=ChkP (decH l)∧hdB [hdAt l 0,hdAt l 1,hdAt l 2,hdAt l 3,hdAt l 4,hdAt l 5]=l.take 64
instance (l:List UInt8):Decidable (decY l):=by unfold decY;infer_instance
def decN (l:List UInt8):Hd × Nat:=if l.length<64 then (hd0,6) else if l.take 16≠signL then (hd0,8) else if decY l then (decH l,0) else (hd0,14)
theorem dec6 {l:List UInt8} (h:l.length<64):decN l=(hd0,6):=if_pos h
theorem dec8 {l:List UInt8} (h:¬l.length<64) (h2:l.take 16≠signL):decN l=(hd0,8):=by unfold decN;rw [if_neg h,if_pos h2]
theorem dec14 {l:List UInt8} (h:¬l.length<64) (h2:l.take 16=signL) (h3:¬decY l):decN l=(hd0,14):=by unfold decN;rw [if_neg h,if_neg (not_not_intro h2),if_neg h3]
theorem dec0 {l:List UInt8} (h:¬l.length<64) (h2:l.take 16=signL) (h3:decY l):decN l=(decH l,0):=by unfold decN;rw [if_neg h,if_neg (not_not_intro h2),if_pos h3]
def Hd.val (h:Hd):Value:=.agg #[.int .i64 h.size,.int .i64 h.pages,.int .i64 h.free,.int .i64 h.many,.int .i64 h.cookie,.int .i64 h.version]
theorem dfield_any {h:Heap} {F E:Nat→Prop} {a:Option Addr} {c b:Nat} {l:List UInt8} (hl:RdL h F E (a,l.length,c) l) (hb:(boxI b 22 [.slice a l.length c]).p h) {i:Nat} (hi:20+4*i≤l.length) :
  HC Tryz.prog 150 #[.int .i64 (i:Int),.pointer (some ⟨b,0,none⟩)] h (fun v h'=>v=.int .i64 ((hdAt l i:Nat):Int)∧h'=h):=by
 have hc2:=hl.m;have hc1:l.length≤c:=hl.c;simp only at hc2;have hrd:=rdN_lt4 l (16+(4*i));refine HC.go Tryz.func150 16 ?_;refine .seq<|.r<|.z .asI<|.nil ?_;refine .seq<|.r<|.z (.ldx T.ag22 hb)<|.z .mvI<|.z (.mulI (a:=4))<|.z (.addI (a:=16))<|.k 11 .func (read_any (p:=(16+(4*i))) (size:=4) (a:=a) (c:=c) (l:=l) hl (by omega) (by omega) (by omega))<|.z .mvU<|.z .ex<|.z .ex<|.z .asI<|.z .asI<|.nil ?_;refine .seq<|.r<|.z .mvI<|.z (.cvi T.in3 T.in77)<|.z .asI<|.nil ?_;refine .ret ⟨.int .i64 (((rdN l (16+(4*i)) 4):Nat):Int),Res.one rfl rfl,⟨by unfold hdAt;rfl,rfl⟩⟩
theorem dec_any {h:Heap} {F E:Nat→Prop} {a:Option Addr} {c:Nat} {l:List UInt8} (hl:RdL h F E (a,l.length,c) l) :
  HC Tryz.prog 99 #[.slice a l.length c] h (fun v h'=>v=.tuple #[(decN l).1.val,.int .i64 ((decN l).2:Int)]∧Ext h h'):=by
 have hc2:=hl.m;have hc1:l.length≤c:=hl.c;simp only at hc2;have ok:=(Hp.nil h none_).arg hl;have hf0:=hdAt_lt l 0;have hf1:=hdAt_lt l 1;have hf2:=hdAt_lt l 2;have hf3:=hdAt_lt l 3;have hf4:=hdAt_lt l 4;have hf5:=hdAt_lt l 5;refine HC.go Tryz.func99 48 ?_;refine .seq<|.r<|.a' 1 (.bxS ok) ?_;rintro _ η1 ⟨pb1,rfl,ok,xe⟩;refine .a' 2 (.alA T.zr148 ok) ?_;rintro _ η2 ⟨pb2,rfl,ok,xe⟩;refine .z .asI<|.nil ?_;refine .seq<|.seq<|.r<|.z (.ldx T.ag22 ok.m1)<|.z (.len T.el22)<|.z .lss<|.nil ?_;refine .cd (fun C0=>?_) (fun C0=>?_)
 ·
  refine .seq<|.r<|.z (.bd #[.int .i64 0,.int .i64 0,.int .i64 0,.int .i64 0,.int .i64 0,.int .i64 0] T.zr148 T.pl148 (by kernel_rfl))<|.ur' (.stW (vs:=[.int .i64 0,.int .i64 0,.int .i64 0,.int .i64 0,.int .i64 0,.int .i64 0]) T.sz148 ok (oneL rfl)) ?_;rintro η3 ⟨ok,cg⟩;refine .z .asI<|.nil ?_;refine .ret ⟨.tuple #[.agg #[.int .i64 0,.int .i64 0,.int .i64 0,.int .i64 0,.int .i64 0,.int .i64 0],.int .i64 6],Res.many (vs:=[.agg #[.int .i64 0,.int .i64 0,.int .i64 0,.int .i64 0,.int .i64 0,.int .i64 0],.int .i64 6]) rfl ⟨⟨_,rfl,load_ag T.ag148 ok.m0 T.sz148⟩,rfl,trivial⟩ rfl,⟨by rw [dec6 (by omega)];rfl,ok.chg⟩⟩
 refine .skip<|.seq<|.seq<|.r<|.z (.ldx T.ag22 ok.m1)<|.z (.sl_h ((l.take 16).length) T.el22 T.sz5 (hb:=by (simp;omega)))<|?_;have ok:=ok.d0 (rdI (fun j=>F j∧j<h.size) (fun j=>E j∧j<h.size) (a,(l.take 16).length,c) (l.take 16)) ((ok.r0).pre (l2:=l.take 16) (List.take_prefix _ _)) (fun _ h=>h);refine .z (.bts T.el22 T.in5 T.st9 (ok.r0).by)<|.z .tNeB<|.nil ?_;refine .cd (fun C1=>?_) (fun C1=>?_)
 ·
  refine .seq<|.r<|.z (.bd #[.int .i64 0,.int .i64 0,.int .i64 0,.int .i64 0,.int .i64 0,.int .i64 0] T.zr148 T.pl148 (by kernel_rfl))<|.ur' (.stW (vs:=[.int .i64 0,.int .i64 0,.int .i64 0,.int .i64 0,.int .i64 0,.int .i64 0]) T.sz148 ok (oneL rfl)) ?_;rintro η4 ⟨ok,cg⟩;refine .z .asI<|.nil ?_;refine .ret ⟨.tuple #[.agg #[.int .i64 0,.int .i64 0,.int .i64 0,.int .i64 0,.int .i64 0,.int .i64 0],.int .i64 8],Res.many (vs:=[.agg #[.int .i64 0,.int .i64 0,.int .i64 0,.int .i64 0,.int .i64 0,.int .i64 0],.int .i64 8]) rfl ⟨⟨_,rfl,load_ag T.ag148 ok.m0 T.sz148⟩,rfl,trivial⟩ rfl,⟨by rw [dec8 (by omega) C1];rfl,ok.chg⟩⟩
 refine .skip<|.seq<|.r<|.z (.mkf (vs:=[.pointer (some ⟨pb1,0,none⟩)]))<|.z .asF<|.nil ?_;refine .seq<|.r<|.z .mvF<|.k 17 .dyn (dfield_any (b:=pb1) (i:=0) (F:=(fun j=>F j∧j<h.size)) (E:=(fun j=>E j∧j<h.size)) (a:=a) (c:=c) (l:=l) ok.r1 ok.m1 (by omega))<|.z .mvF<|.k 19 .dyn (dfield_any (b:=pb1) (i:=1) (F:=(fun j=>F j∧j<h.size)) (E:=(fun j=>E j∧j<h.size)) (a:=a) (c:=c) (l:=l) ok.r1 ok.m1 (by omega))<|.z .mvF<|.k 21 .dyn (dfield_any (b:=pb1) (i:=2) (F:=(fun j=>F j∧j<h.size)) (E:=(fun j=>E j∧j<h.size)) (a:=a) (c:=c) (l:=l) ok.r1 ok.m1 (by omega))<|.z .mvF<|.k 23 .dyn (dfield_any (b:=pb1) (i:=3) (F:=(fun j=>F j∧j<h.size)) (E:=(fun j=>E j∧j<h.size)) (a:=a) (c:=c) (l:=l) ok.r1 ok.m1 (by omega))<|.z .mvF<|.k 25 .dyn (dfield_any (b:=pb1) (i:=4) (F:=(fun j=>F j∧j<h.size)) (E:=(fun j=>E j∧j<h.size)) (a:=a) (c:=c) (l:=l) ok.r1 ok.m1 (by omega))<|.z .mvF<|.k 27 .dyn (dfield_any (b:=pb1) (i:=5) (F:=(fun j=>F j∧j<h.size)) (E:=(fun j=>E j∧j<h.size)) (a:=a) (c:=c) (l:=l) ok.r1 ok.m1 (by omega))<|.z (.bd #[.int .i64 ((hdAt l 0:Nat):Int),.int .i64 ((hdAt l 1:Nat):Int),.int .i64 ((hdAt l 2:Nat):Int),.int .i64 ((hdAt l 3:Nat):Int),.int .i64 ((hdAt l 4:Nat):Int),.int .i64 ((hdAt l 5:Nat):Int)] T.zr148 T.pl148 (by kernel_rfl))<|.a' 5 (.alA T.zr148 ok) ?_;rintro _ η5 ⟨pb3,rfl,ok,xe⟩;refine .ur' (.stW (vs:=[.int .i64 ((hdAt l 0:Nat):Int),.int .i64 ((hdAt l 1:Nat):Int),.int .i64 ((hdAt l 2:Nat):Int),.int .i64 ((hdAt l 3:Nat):Int),.int .i64 ((hdAt l 4:Nat):Int),.int .i64 ((hdAt l 5:Nat):Int)]) T.sz148 ok (oneL rfl)) ?_;rintro η6 ⟨ok,cg⟩;refine .nil ?_;refine .seq<|.seq<|?_;have ok:=ok.d1 (rdI (fun j=>F j∧j<h.size) (fun j=>E j∧j<h.size) (a,(l.take 64).length,c) (l.take 64)) ((ok.r1).pre (l2:=l.take 64) (List.take_prefix _ _)) (fun _ h=>h);refine .a 17 (fun fl hh=>Hp h none_ [boxI pb3 148 [.int .i64 ((hdAt l 0:Nat):Int),.int .i64 ((hdAt l 1:Nat):Int),.int .i64 ((hdAt l 2:Nat):Int),.int .i64 ((hdAt l 3:Nat):Int),.int .i64 ((hdAt l 4:Nat):Int),.int .i64 ((hdAt l 5:Nat):Int)],boxI pb2 148 [.int .i64 0,.int .i64 0,.int .i64 0,.int .i64 0,.int .i64 0,.int .i64 0],boxI pb1 22 [.slice a l.length c]] [rdI (fun j=>F j∧j<h.size) (fun j=>E j∧j<h.size) (a,(l.take 64).length,c) (l.take 64),rdI (fun j=>F j∧j<h.size) (fun j=>E j∧j<h.size) (a,(l.take 16).length,c) (l.take 16),rdI (fun j=>F j∧j<h.size) (fun j=>E j∧j<h.size) (a,l.length,c) l] hh) mixed ?_;have hS:=ok;refine .lw 0 false rfl 29 hS (fun _ _ hS=>.ldb T.ag148 hS.m0 T.sz148)<|.g 1 false rfl 30 hS (fun _=>.bd #[.int .i64 0,.int .i64 0,.int .i64 0,.int .i64 0,.int .i64 0,.int .i64 0] T.zr148 T.pl148 (by kernel_rfl))<|.g 2 false rfl 31 hS (fun _=>.stE (k:=.i64) [((hdAt l 0:Nat):Int),((hdAt l 1:Nat):Int),((hdAt l 2:Nat):Int),((hdAt l 3:Nat):Int),((hdAt l 4:Nat):Int),((hdAt l 5:Nat):Int)] [0,0,0,0,0,0] T.ste148 T.in3 T.ag3 T.stg148 T.stp148)<|.g 3 false rfl 32 hS (fun _=>.mvB)<|.sd (fun G32=>?_) (fun G32=>?_)
 ·
  refine .x 4 false rfl 33 hS<|.x 5 false rfl 34 hS<|.x 6 false rfl 35 hS<|.g 7 false rfl 36 hS (fun _=>.pkt)<|.g 8 false rfl 37 hS (fun _=>.mvB)<|.x 9 false rfl 38 hS<|.x 10 false rfl 39 hS<|.x 11 false rfl 40 hS<|.x 12 false rfl 41 hS<|.x 13 false rfl 42 hS<|.x 14 false rfl 43 hS<|.x 15 false rfl 44 hS<|.g 16 false rfl 45 hS (fun _=>.pkt)<|.e ?_;refine .ct<|.seq<|.r<|.z (.bd #[.int .i64 0,.int .i64 0,.int .i64 0,.int .i64 0,.int .i64 0,.int .i64 0] T.zr148 T.pl148 (by kernel_rfl))<|.ur' (.stW (vs:=[.int .i64 0,.int .i64 0,.int .i64 0,.int .i64 0,.int .i64 0,.int .i64 0]) T.sz148 ok.n1 (oneL rfl)) ?_;rintro η7 ⟨ok,cg⟩;refine .z .asI<|.nil ?_;refine .ret ⟨.tuple #[.agg #[.int .i64 0,.int .i64 0,.int .i64 0,.int .i64 0,.int .i64 0,.int .i64 0],.int .i64 14],Res.many (vs:=[.agg #[.int .i64 0,.int .i64 0,.int .i64 0,.int .i64 0,.int .i64 0,.int .i64 0],.int .i64 14]) rfl ⟨⟨_,rfl,load_ag T.ag148 ok.m0 T.sz148⟩,rfl,trivial⟩ rfl,⟨by rw [dec14 (by omega) (by simpa using C1) (fun q=>by (simp only [List.cons.injEq] at G32;have h1:=q.1.1;simp [decH,okZ,G32.1] at h1))];rfl,ok.chg⟩⟩
 refine .lw 4 false rfl 33 hS (fun _ _ hS=>.ldb T.ag148 hS.m0 T.sz148)<|.o1 5<|.c' false rfl 34 .func (check_any (z0:=((hdAt l 0:Nat):Int)) (z1:=((hdAt l 1:Nat):Int)) (z2:=((hdAt l 2:Nat):Int)) (z3:=((hdAt l 3:Nat):Int)) (z4:=((hdAt l 4:Nat):Int)) (z5:=((hdAt l 5:Nat):Int)) (by omega) (by omega) (by omega) (by omega) (by omega) (by omega)) ?_;rintro _ η8 ⟨rfl,hx⟩;have ok:=ok.ext hx;refine ⟨ok,?_⟩;have hS:=ok;refine .g 6 false rfl 35 hS (fun _=>.neq)<|.g 7 false rfl 36 hS (fun _=>.pkf)<|.g 8 false rfl 37 hS (fun _=>.mvB)<|.sd (fun G37=>?_) (fun G37=>?_)
 ·
  refine .x 9 false rfl 38 hS<|.x 10 false rfl 39 hS<|.x 11 false rfl 40 hS<|.x 12 false rfl 41 hS<|.x 13 false rfl 42 hS<|.x 14 false rfl 43 hS<|.x 15 false rfl 44 hS<|.g 16 false rfl 45 hS (fun _=>.pkt)<|.e ?_;refine .ct<|.seq<|.r<|.z (.bd #[.int .i64 0,.int .i64 0,.int .i64 0,.int .i64 0,.int .i64 0,.int .i64 0] T.zr148 T.pl148 (by kernel_rfl))<|.ur' (.stW (vs:=[.int .i64 0,.int .i64 0,.int .i64 0,.int .i64 0,.int .i64 0,.int .i64 0]) T.sz148 ok.n1 (oneL rfl)) ?_;rintro η9 ⟨ok,cg⟩;refine .z .asI<|.nil ?_;refine .ret ⟨.tuple #[.agg #[.int .i64 0,.int .i64 0,.int .i64 0,.int .i64 0,.int .i64 0,.int .i64 0],.int .i64 14],Res.many (vs:=[.agg #[.int .i64 0,.int .i64 0,.int .i64 0,.int .i64 0,.int .i64 0,.int .i64 0],.int .i64 14]) rfl ⟨⟨_,rfl,load_ag T.ag148 ok.m0 T.sz148⟩,rfl,trivial⟩ rfl,⟨by rw [dec14 (by omega) (by simpa using C1) (fun q=>by (have h1:chkC (decH l)=0:=chk_y q.1;exact G37 (by rw [show chkC ⟨_,_,_,_,_,_⟩=0 from h1];rfl)))];rfl,ok.chg⟩⟩
 refine .lw 9 false rfl 38 hS (fun _ _ hS=>.ldb T.ag148 hS.m0 T.sz148)<|.lw 12 false rfl 41 hS (fun _ _ hS=>.ldx T.ag22 hS.m2)<|.g 13 false rfl 42 hS (fun _=>.sl_h ((l.take 64).length) T.el22 T.sz5 (hb:=by (simp;omega)))<|.lw 14 false rfl 43 hS (fun _ _ hS=>.bts T.el22 T.in5 T.st9 (hS.r0).by)<|.o1 10<|.c' false rfl 39 .func (hbytes_any (n0:=(hdAt l 0)) (n1:=(hdAt l 1)) (n2:=(hdAt l 2)) (n3:=(hdAt l 3)) (n4:=(hdAt l 4)) (n5:=(hdAt l 5)) (by omega) (by omega) (by omega) (by omega) (by omega) (by omega)) ?_;rintro _ η10 own;obtain ⟨ya1,yc1,rfl⟩:=own.formB;have ok:=ok.own own;refine ⟨ok.n3.n3.n3.k3,?_⟩;have hS:=ok.n3.n3.n3.k3;refine .str (fun _ hh=>Hp h none_ [capI 1 5 (ya1,(hdB [(hdAt l 0),(hdAt l 1),(hdAt l 2),(hdAt l 3),(hdAt l 4),(hdAt l 5)]).length,yc1) ((hdB [(hdAt l 0),(hdAt l 1),(hdAt l 2),(hdAt l 3),(hdAt l 4),(hdAt l 5)]).map bv),boxI pb3 148 [.int .i64 ((hdAt l 0:Nat):Int),.int .i64 ((hdAt l 1:Nat):Int),.int .i64 ((hdAt l 2:Nat):Int),.int .i64 ((hdAt l 3:Nat):Int),.int .i64 ((hdAt l 4:Nat):Int),.int .i64 ((hdAt l 5:Nat):Int)],boxI pb2 148 [.int .i64 0,.int .i64 0,.int .i64 0,.int .i64 0,.int .i64 0,.int .i64 0],boxI pb1 22 [.slice a l.length c]] [rdI (fun j=>F j∧j<h.size) (fun j=>E j∧j<h.size) (a,(l.take 64).length,c) (l.take 64),rdI (fun j=>F j∧j<h.size) (fun j=>E j∧j<h.size) (a,(l.take 16).length,c) (l.take 16),rdI (fun j=>F j∧j<h.size) (fun j=>E j∧j<h.size) (a,l.length,c) l] hh) (fun _ _ h=>h.tM) ?_;have hS:=ok;refine .lw 11 false rfl 40 hS (fun _ _ hS=>.bts T.el22 T.in5 T.st9 (hS.m0).sl)<|.g 15 false rfl 44 hS (fun _=>.tNeB)<|.g 16 false rfl 45 hS (fun _=>.pkf)<|.e ?_;refine .cd (fun C2=>?_) (fun C2=>?_)
 ·
  refine .seq<|.r<|.z (.bd #[.int .i64 0,.int .i64 0,.int .i64 0,.int .i64 0,.int .i64 0,.int .i64 0] T.zr148 T.pl148 (by kernel_rfl))<|.ur' (.stW (vs:=[.int .i64 0,.int .i64 0,.int .i64 0,.int .i64 0,.int .i64 0,.int .i64 0]) T.sz148 ok.n2 (oneL rfl)) ?_;rintro η11 ⟨ok,cg⟩;refine .z .asI<|.nil ?_;refine .ret ⟨.tuple #[.agg #[.int .i64 0,.int .i64 0,.int .i64 0,.int .i64 0,.int .i64 0,.int .i64 0],.int .i64 14],Res.many (vs:=[.agg #[.int .i64 0,.int .i64 0,.int .i64 0,.int .i64 0,.int .i64 0,.int .i64 0],.int .i64 14]) rfl ⟨⟨_,rfl,load_ag T.ag148 ok.m0 T.sz148⟩,rfl,trivial⟩ rfl,⟨by rw [dec14 (by omega) (by simpa using C1) (fun q=>C2 q.2)];rfl,ok.chg⟩⟩
 refine .skip<|.seq<|.r<|.z (.ldb T.ag148 ok.m1 T.sz148)<|.ur' (.stW (vs:=[.int .i64 ((hdAt l 0:Nat):Int),.int .i64 ((hdAt l 1:Nat):Int),.int .i64 ((hdAt l 2:Nat):Int),.int .i64 ((hdAt l 3:Nat):Int),.int .i64 ((hdAt l 4:Nat):Int),.int .i64 ((hdAt l 5:Nat):Int)]) T.sz148 ok.n2 (oneL rfl)) ?_;rintro η12 ⟨ok,cg⟩;refine .z .asI<|.nil ?_;refine .ret ⟨.tuple #[.agg #[.int .i64 ((hdAt l 0:Nat):Int),.int .i64 ((hdAt l 1:Nat):Int),.int .i64 ((hdAt l 2:Nat):Int),.int .i64 ((hdAt l 3:Nat):Int),.int .i64 ((hdAt l 4:Nat):Int),.int .i64 ((hdAt l 5:Nat):Int)],.int .i64 0],Res.many (vs:=[.agg #[.int .i64 ((hdAt l 0:Nat):Int),.int .i64 ((hdAt l 1:Nat):Int),.int .i64 ((hdAt l 2:Nat):Int),.int .i64 ((hdAt l 3:Nat):Int),.int .i64 ((hdAt l 4:Nat):Int),.int .i64 ((hdAt l 5:Nat):Int)],.int .i64 0]) rfl ⟨⟨_,rfl,load_ag T.ag148 ok.m0 T.sz148⟩,rfl,trivial⟩ rfl,⟨by rw [dec0 (by omega) (by simpa using C1) ⟨chk_o G37,by simpa using C2⟩];rfl,ok.chg⟩⟩
theorem RdL.isNone {α:Type} [Rep α] {h:Heap} {F E:Nat→Prop} {a:Option Addr} {n c:Nat} {l:List α} (r:RdL h F E (a,n,c) l) (ha:a.isNone=true):l=[]:=by
 rcases Nat.eq_zero_or_pos l.length with h0 | h0
 ·exact List.eq_nil_of_length_eq_zero h0
 ·obtain ⟨b,o,e,_⟩:=r.at' h0;simp only at e;subst e;cases ha
theorem bclone_any {h:Heap} {F E:Nat→Prop} {a:Option Addr} {c:Nat} {l:List UInt8} (hl:RdL h F E (a,l.length,c) l) (hN:l.length≤1000000000) :
  HC Tryz.prog 80 #[.slice a l.length c] h (fun v h'=>Own h h' 1 5 v (l.map bv)):=by
 have hc2:=hl.m;have hc1:l.length≤c:=hl.c;simp only at hc2;have ok:=(Hp.nil h none_).arg hl;refine HC.go Tryz.func80 8 ?_;refine .seq<|.r<|.z .asS<|.nil ?_;refine .seq<|.seq<|.r<|.z .mvS<|.z (.sEq T.el22)<|.nil ?_;refine .cond (fun C0=>?_) (fun C0=>?_)
 ·
  obtain rfl:=RdL.isNone hl C0;refine .seq<|.r<|.z .asS<|.nil ?_;refine .ret ⟨.slice none 0 0,Res.one rfl rfl,Own.nil ok.chg _ _⟩
 refine .skip<|.seq<|.r<|.a' 5 (.lit [] (cs:=[]) T.el22 T.sz5 T.zr5 ok trivial) ?_;rintro _ η1 ⟨pb1,rfl,ok,xe⟩;have ok:=ok.cx (ys:=([]:List UInt8).map bv) rfl;refine .z .mvS<|.a' 7 (.app (news:=l.map bv) T.el22 T.sz5 T.by5 T.zr5 ok (ok.r0).by bv_all (by simp only [List.length_map,List.length_append,List.length_take,List.length_cons,List.length_nil,List.length_replicate,List.length_range,fixedN_len,sealN_len];omega)) ?_;rintro _ η2 ⟨ya1,yn1,yc1,rfl,ok,ap⟩;have ok:=ok.cx (ys:=(l).map bv) (by simp [bv]);obtain rfl:yn1=(l).length:=ok.lenB;refine .z .asS<|.nil ?_;refine .ret ⟨.slice ya1 ((l).length) yc1,Res.one rfl rfl,ok.toOwn⟩
instance:Rep Fr where
 k:=3
 rd h F cs f:=∃x:SV,cs=[iv f.page,iv f.commit,sv x]∧RdL h F F x f.b
 kpos:=by omega
 len:=fun ⟨_,h,_⟩=>by rw [h];rfl
 one:=fun ⟨_,h,_⟩ u hu=>by
  rw [h] at hu;simp only [List.mem_cons,List.not_mem_nil,or_false] at hu;rcases hu with rfl | rfl | rfl<;>rfl
 st:=fun c d ⟨x,e,r⟩=>⟨x,e,r.st c d d⟩
 mono:=fun d ⟨x,e,r⟩=>⟨x,e,r.mono d d⟩
 lt:=fun ⟨x,e,r⟩=>⟨x,e,r.lt⟩
theorem Fr.rd_cap {h:Heap} {e:TypeId} {z1 z2:Int} {a:Option Addr} {n c:Nat} {l:List UInt8} (r:Cap h 1 e (.slice a n c) (l.map bv)):Rep.rd h (blkC (.slice a n c)) [.int .i64 z1,.int .i64 z2,.slice a n c] (⟨z1,z2,l⟩:Fr):=
 ⟨(a,n,c),rfl,RdL.of_cap1 (f:=bv) (x:=(a,n,c)) (l:=l) rfl (fun _ _ _=>rfl) r⟩
@[reducible] def frN (l:List Fr) (i:Nat):Fr:=l[i]?.getD ⟨0,0,[]⟩
@[reducible] def vfN (l:List Fr) (xa:Nat→Option Addr) (xc:Nat→Nat) (i:Nat):List Value:=[.int .i64 (frN l i).page,.int .i64 (frN l i).commit,.slice (xa i) (frN l i).b.length (xc i)]
theorem vfN_len (l:List Fr) (xa:Nat→Option Addr) (xc:Nat→Nat) (i:Nat):(vfN l xa xc i).length=3:=rfl
structure Frs (h:Heap) (F E:Nat→Prop) (x:SV) (l:List Fr) (xa:Nat→Option Addr) (xc:Nat→Nat):Prop where
 rd:RdL h F E x l
 sl:Sl h 3 (sv x) ((List.range l.length).flatMap (vfN l xa xc))
 b:∀i,i<l.length→RdL h E E (xa i,(frN l i).b.length,xc i) (frN l i).b
theorem Frs.st {G:Nat→Prop} {h h':Heap} {F E:Nat→Prop} {x:SV} {l:List Fr} {xa:Nat→Option Addr} {xc:Nat→Nat} (c:Chg G h h') (hF:∀j,F j→¬G j) (hE:∀j,E j→¬G j) (r:Frs h F E x l xa xc):Frs h' F E x l xa xc:=by
 refine ⟨r.rd.st c hF hE,?_,fun i hi=>(r.b i hi).st c hE hE⟩;obtain ⟨a,n,cc,hv,h1,h2,h3,h4⟩:=r.sl;refine ⟨a,n,cc,hv,h1,h2,h3,fun hn=>?_⟩;obtain ⟨b,o,e,hc⟩:=h4 hn;have hx:x=(a,n,cc):=by
  obtain ⟨x1,x2,x3⟩:=x;injection hv with g1 g2 g3;simp only at g1 g2 g3;rw [g1,g2,g3]
 have hl:0<l.length:=by have:=r.rd.n;rw [hx] at this;simp only at this;omega
 obtain ⟨b2,o2,e2,hb,_⟩:=r.rd.at' hl;rw [hx,e] at e2;injection e2 with e2;injection e2 with e2 e3;subst e2;exact ⟨b,o,e,fun i v hi=>c.cell (hc i v hi) (hF b hb)⟩
@[reducible] def frsI (F E:Nat→Prop) (x:SV) (l:List Fr) (xa:Nat→Option Addr) (xc:Nat→Nat):Itm:=⟨fun h=>Frs h F E x l xa xc,fun j=>F j∨E j,fun _ _ _ c d r=>r.st c (fun j hj=>d j (.inl hj)) (fun j hj=>d j (.inr hj))⟩
theorem RdL.frs {h:Heap} {F E:Nat→Prop} {x:SV} {l:List Fr} (r:RdL h F E x l):∃xa xc,Frs h F E x l xa xc:=by
 obtain ⟨css,h1,h2⟩:=r.cells;have hex:∀i,∃y:Option Addr × Nat,i<l.length→css[i]? = some [.int .i64 (frN l i).page,.int .i64 (frN l i).commit,.slice y.1 (frN l i).b.length y.2]∧RdL h E E (y.1,(frN l i).b.length,y.2) (frN l i).b:=by
  intro i;by_cases hi:i<l.length
  ·have hic:i<css.length:=by have:=h2.1;omega
   obtain ⟨y,e,hr⟩:=h2.2 i hic hi;obtain ⟨a,c,rfl,_⟩:=hr.form;have hf:frN l i=l[i]:=by simp [frN,hi]
   refine ⟨(a,c),fun _=>⟨?_,by rw [hf];exact hr⟩⟩;rw [List.getElem?_eq_getElem hic,e,hf];rfl
  ·exact ⟨(none,0),fun h=>absurd h hi⟩
 obtain ⟨y,hy⟩:=Classical.axiomOfChoice hex;refine ⟨fun i=>(y i).1,fun i=>(y i).2,r,?_,fun i hi=>(hy i hi).2⟩;have:css.flatten=(List.range l.length).flatMap (vfN l (fun i=>(y i).1) fun i=>(y i).2):=by
  rw [List.flatMap_def];congr 1;apply List.ext_getElem?;intro i;by_cases hi:i<l.length
  ·rw [(hy i hi).1];simp [hi,vfN]
  ·rw [List.getElem?_eq_none (by have:=h2.1;omega),List.getElem?_eq_none (by simp;omega)]
 rw [←this];exact h1
theorem frs_at {h:Heap} {l:List Fr} {xa:Nat→Option Addr} {xc:Nat→Nat} {b o n c:Nat} (r:Sl h 3 (.slice (some ⟨b,o,none⟩) n c) ((List.range l.length).flatMap (vfN l xa xc))) {i j:Nat} (hi:i<l.length) {v:Value} (hv:(vfN l xa xc i)[j]? = some v):cell h b (o+i*3+j)=some v:=
 sl_at (vfN_len l xa xc) r (i:=i) (by simpa using hi) (by simpa using hv)
theorem frs_ats {h:Heap} {l:List Fr} {xa:Nat→Option Addr} {xc:Nat→Nat} {b o n c:Nat} (r:Sl h 3 (.slice (some ⟨b,o,none⟩) n c) ((List.range l.length).flatMap (vfN l xa xc))) {i:Nat} (hi:i<l.length):∀j v,(vfN l xa xc i)[j]? = some v→cell h b (o+i*3+j)=some v:=fun _ _ hv=>frs_at r hi hv
theorem Frs.pos {h:Heap} {F E:Nat→Prop} {a:Option Addr} {n c:Nat} {l:List Fr} {xa:Nat→Option Addr} {xc:Nat→Nat} (r:Frs h F E (a,n,c) l xa xc) (hp:0<l.length):∃b o,a=some ⟨b,o,none⟩∧F b:=r.rd.pos hp
end Go.Proofs.YtpeaicddbnghfaaGreat
namespace Go.Proofs
open Go.Shelf
def Tryz.sortedA_ren:Go.Shelf.Ren:=⟨fun | 6=>212 | 8=>236 | 9=>169 | 11=>256 | 13=>199 | 12=>198 | 23=>229 | 24=>230 | 14=>220 | 15=>221 | 16=>222 | 17=>223 | 18=>224 | 19=>225 | 20=>226 | 21=>227 | 22=>228 | 25=>239 | 26=>240 | 27=>241 | 28=>242 | 29=>243 | 30=>244 | 31=>257 | n=>n,fun | 26=>3 | 28=>261 | 24=>167 | 0=>0 | 3=>3 | 37=>242 | 48=>243 | 50=>77 | 4=>4 | 40=>272 | 39=>271 | 45=>42 | 5=>5 | 9=>9 | 51=>283 | 55=>287 | 57=>298 | 58=>299 | 33=>108 | n=>n,fun | n=>n⟩
theorem Tryz.sortedA:Go.Proofs.SlLaysZI.n6 Tryz.prog Tryz.sortedA_ren:={
 mixed:=by kernel_rfl
 f6:=⟨Tryz.f212.name,by decide,Tryz.func212.trans (congrArg some (by kernel_rfl))⟩
 f8:=⟨Tryz.f236.name,by decide,Tryz.func236.trans (congrArg some (by kernel_rfl))⟩
 f11:=⟨Tryz.f256.name,by decide,Tryz.func256.trans (congrArg some (by kernel_rfl))⟩
 t0:=Tryz.underlying0
 a0:=Tryz.isAgg0
 z0:=Tryz.sizeOf0
 v0:=Tryz.zeroValue0
 t24:=Tryz.underlying167
 a24:=Tryz.isAgg167
 z24:=Tryz.sizeOf167
 v24:=Tryz.zeroValue167
 t26:=Tryz.underlying3
 a26:=Tryz.isAgg3
 z26:=Tryz.sizeOf3
 v26:=Tryz.zeroValue3
 t28:=Tryz.underlying261
 a28:=Tryz.isAgg261
 z28:=Tryz.sizeOf261
 v28:=Tryz.zeroValue261
 i26:=by kernel_rfl }
def Tryz.sortA_ren:Go.Shelf.Ren:=⟨fun | 5=>169 | 8=>199 | 7=>198 | 19=>229 | 20=>230 | 10=>220 | 11=>221 | 12=>222 | 13=>223 | 14=>224 | 15=>225 | 16=>226 | 17=>227 | 18=>228 | 30=>239 | 31=>240 | 32=>241 | 33=>242 | 34=>243 | 35=>244 | 40=>257 | n=>n,fun | 23=>167 | 25=>3 | 3=>3 | 32=>242 | 22=>167 | 0=>0 | 44=>243 | 46=>77 | 4=>4 | 36=>272 | 35=>271 | 41=>42 | 5=>5 | 9=>9 | 53=>283 | 57=>287 | 63=>298 | 64=>299 | n=>n,fun | n=>n⟩
theorem Tryz.sortA:Go.Proofs.SlLaysM.n5 Tryz.prog Tryz.sortA_ren:={
 mixed:=by kernel_rfl
 f5:=⟨Tryz.f169.name,by decide,Tryz.func169.trans (congrArg some (by kernel_rfl))⟩
 f7:=⟨Tryz.f198.name,by decide,Tryz.func198.trans (congrArg some (by kernel_rfl))⟩
 f8:=Tryz.func199.trans (congrArg some (by kernel_rfl))
 f10:=⟨Tryz.f220.name,by decide,Tryz.func220.trans (congrArg some (by kernel_rfl))⟩
 f11:=⟨Tryz.f221.name,by decide,Tryz.func221.trans (congrArg some (by kernel_rfl))⟩
 f12:=⟨Tryz.f222.name,by decide,Tryz.func222.trans (congrArg some (by kernel_rfl))⟩
 f13:=⟨Tryz.f223.name,by decide,Tryz.func223.trans (congrArg some (by kernel_rfl))⟩
 f14:=⟨Tryz.f224.name,by decide,Tryz.func224.trans (congrArg some (by kernel_rfl))⟩
 f15:=⟨Tryz.f225.name,by decide,Tryz.func225.trans (congrArg some (by kernel_rfl))⟩
 f16:=⟨Tryz.f226.name,by decide,Tryz.func226.trans (congrArg some (by kernel_rfl))⟩
 f17:=⟨Tryz.f227.name,by decide,Tryz.func227.trans (congrArg some (by kernel_rfl))⟩
 f18:=⟨Tryz.f228.name,by decide,Tryz.func228.trans (congrArg some (by kernel_rfl))⟩
 f19:=Tryz.func229.trans (congrArg some (by kernel_rfl))
 f20:=Tryz.func230.trans (congrArg some (by kernel_rfl))
 f30:=⟨Tryz.f239.name,by decide,Tryz.func239.trans (congrArg some (by kernel_rfl))⟩
 f31:=Tryz.func240.trans (congrArg some (by kernel_rfl))
 f32:=Tryz.func241.trans (congrArg some (by kernel_rfl))
 f33:=⟨Tryz.f242.name,by decide,Tryz.func242.trans (congrArg some (by kernel_rfl))⟩
 f34:=⟨Tryz.f243.name,by decide,Tryz.func243.trans (congrArg some (by kernel_rfl))⟩
 f35:=⟨Tryz.f244.name,by decide,Tryz.func244.trans (congrArg some (by kernel_rfl))⟩
 f40:=⟨Tryz.f257.name,by decide,Tryz.func257.trans (congrArg some (by kernel_rfl))⟩
 t0:=Tryz.underlying0
 a0:=Tryz.isAgg0
 z0:=Tryz.sizeOf0
 v0:=Tryz.zeroValue0
 t3:=Tryz.underlying3
 a3:=Tryz.isAgg3
 z3:=Tryz.sizeOf3
 v3:=Tryz.zeroValue3
 t4:=Tryz.underlying4
 a4:=Tryz.isAgg4
 z4:=Tryz.sizeOf4
 v4:=Tryz.zeroValue4
 t5:=Tryz.underlying5
 a5:=Tryz.isAgg5
 z5:=Tryz.sizeOf5
 v5:=Tryz.zeroValue5
 t9:=Tryz.underlying9
 a9:=Tryz.isAgg9
 z9:=Tryz.sizeOf9
 v9:=Tryz.zeroValue9
 t22:=Tryz.underlying167
 a22:=Tryz.isAgg167
 z22:=Tryz.sizeOf167
 v22:=Tryz.zeroValue167
 t23:=Tryz.underlying167
 a23:=Tryz.isAgg167
 z23:=Tryz.sizeOf167
 v23:=Tryz.zeroValue167
 t25:=Tryz.underlying3
 a25:=Tryz.isAgg3
 z25:=Tryz.sizeOf3
 v25:=Tryz.zeroValue3
 t32:=Tryz.underlying242
 a32:=Tryz.isAgg242
 z32:=Tryz.sizeOf242
 v32:=Tryz.zeroValue242
 t35:=Tryz.underlying271
 a35:=Tryz.isAgg271
 z35:=Tryz.sizeOf271
 v35:=Tryz.zeroValue271
 t36:=Tryz.underlying272
 a36:=Tryz.isAgg272
 z36:=Tryz.sizeOf272
 v36:=Tryz.zeroValue272
 t41:=Tryz.underlying42
 a41:=Tryz.isAgg42
 z41:=Tryz.sizeOf42
 v41:=Tryz.zeroValue42
 t44:=Tryz.underlying243
 a44:=Tryz.isAgg243
 z44:=Tryz.sizeOf243
 v44:=Tryz.zeroValue243
 t46:=Tryz.underlying77
 a46:=Tryz.isAgg77
 z46:=Tryz.sizeOf77
 v46:=Tryz.zeroValue77
 t53:=Tryz.underlying283
 a53:=Tryz.isAgg283
 z53:=Tryz.sizeOf283
 v53:=Tryz.zeroValue283
 t57:=Tryz.underlying287
 a57:=Tryz.isAgg287
 z57:=Tryz.sizeOf287
 v57:=Tryz.zeroValue287
 t63:=Tryz.underlying298
 a63:=Tryz.isAgg298
 z63:=Tryz.sizeOf298
 v63:=Tryz.zeroValue298
 t64:=Tryz.underlying299
 a64:=Tryz.isAgg299
 z64:=Tryz.sizeOf299
 v64:=Tryz.zeroValue299 }
end Go.Proofs
namespace Go.Proofs.YtpeaicddbnghfaaGreat
open Go Go.HL Go.RowKit Go.Maps Go.Sort Go.Shelf Go.MapKept
@[reducible] def ptr (b:Nat):Value:=.pointer (some ⟨b,0,none⟩)
theorem HC.of_calls {P:Program} {f:FuncId} {args:Array Value} {h:Heap} {R:Value→Heap→Prop} (hc:Callable P f) (hr:∀w:World,w.heap=h→Calls P f args w fun e w'=>∃v,e=.returned v∧RowKit.Below h.size w w'∧R v w'.heap):HC P f args h R:=
 ⟨hc,fun _ w at'=>(hr w at'.heap).mono fun _ w' ⟨v,e,b,r⟩=>⟨v,w'.heap,e,⟨rfl,b.os.trans at'.os,b.tape.trans at'.tape,b.output.trans at'.output⟩,r⟩⟩
theorem Ext.of_below {h:Heap} {w w':World} (hw:w.heap=h) (b:RowKit.Below h.size w w'):Ext h w'.heap:=⟨hw▸b.size,fun k hk _=>by rw [b.block k hk,hw]⟩
theorem sorts_in (m:Nat):AnyZI.SortsIn Tryz.prog Tryz.sortedA_ren Fence.wide m:=
  ⟨fun blk off cap ss W hH hblk hsz=>callsIn_wide.2 (AnyM.slices_Sort_int Tryz.sortA blk off cap ss W hH hblk hsz),
   fun p cap W=>callsIn_wide.2 (AnyM.slices_Sort_int_none Tryz.sortA p cap W)⟩
def noElem (_:Value):Option (DataW Unit × List MemPlace):=some (.nil,[])
theorem int_wf {k:Int} (h : -9223372036854775808≤k∧k≤9223372036854775807):(Lit.int .i64 k).wf=true:=by
 simpa [Lit.wf,IntKind.min,IntKind.max,IntKind.signed,IntKind.bits] using h
theorem insert_perm {H:Type} (x:Lit × DataW H):∀l:List (Lit × DataW H),(DataW.insert x l).Perm (x::l)
 | []=>by simp [DataW.insert]
 | y::l=>by
  unfold DataW.insert;split
  ·exact .refl _
  ·exact ((insert_perm x l).cons y).trans (.swap x y l)
theorem sorted_perm {H:Type} : ∀l:List (Lit × DataW H),(l.foldr DataW.insert []).Perm l
 | []=>.refl _
 | x::l=>(insert_perm x _).trans ((sorted_perm l).cons x)
theorem owns_keys {h:Heap} {mb:Nat} {ks:List Int} {f:Int→Value} (hm:MapT (Value.int .i64) h mb (ks.map fun k=>(k,f k))) (hr:∀k∈ks,-9223372036854775808≤k∧k≤9223372036854775807) (hl:ks.length≤1000000000000) {w:World} (hw:w.heap[mb]? = h[mb]?) :
  ∃(nn:Nat) (D:DataW Unit),w.ownsMap Tryz.prog 3 noElem mb nn D∧Maps.size D=ks.length∧(intKeys D).Perm ks:=by
 obtain ⟨es,cl,hb,he,hs⟩:=hm;have hlen:es.size=ks.length:=by
  have:=congrArg List.length he;simpa using this
 have hkeys:es.toList.map (fun e=>(e.key,e.val))=ks.map fun k=>(Value.int .i64 k,f k):=by rw [he,List.map_map];rfl
 have hrd:∀x∈es.toList,∃k∈ks,x.key=.int .i64 k∧WideElems.rd Tryz.prog 3 noElem x=some (.int .i64 k,.nil):=fun x hx=>by
  have h1:(x.key,x.val)∈es.toList.map fun e=>(e.key,e.val):=List.mem_map.2 ⟨x,hx,rfl⟩;rw [hkeys] at h1;obtain ⟨k,hk,e⟩:=List.mem_map.1 h1;injection e with e1 e2;refine ⟨k,hk,e1.symm,?_⟩;unfold WideElems.rd;rw [←e1,keyOf_int_mk Tryz.underlying3 (int_wf (hr k hk))];rfl
 have hrg:es.toList.map (WideElems.rg Tryz.prog 3 noElem)=ks.map fun k=>(Lit.int .i64 k,DataW.nil):=by
  have h1:es.toList.map (·.key)=ks.map (Value.int .i64):=by
   have:=congrArg (List.map Prod.fst) hkeys;rw [List.map_map,List.map_map] at this;exact this
  have h2:∀(l:List MapEntry) (s:List Int),l.map (·.key)=s.map (Value.int .i64)→(∀x∈l,∃k∈ks,x.key=.int .i64 k∧WideElems.rd Tryz.prog 3 noElem x=some (.int .i64 k,.nil))→l.map (WideElems.rg Tryz.prog 3 noElem)=s.map fun k=>(Lit.int .i64 k,DataW.nil):=by
   intro l;induction l with
   | nil=>intro s hs _;cases s with
    | nil=>rfl
    | cons a s=>simp at hs
   | cons x l ih=>
    intro s hs hx;cases s with
    | nil=>simp at hs
    | cons a s=>
     simp only [List.map_cons,List.cons.injEq] at hs⊢;obtain ⟨k,_,h3,h4⟩:=hx x List.mem_cons_self;have:a=k:=by
      have h5:=hs.1;rw [h3] at h5;exact (Value.int.inj h5).2.symm
     subst this;refine ⟨?_,ih s hs.2 fun y hy=>hx y (List.mem_cons_of_mem _ hy)⟩;unfold WideElems.rg;rw [h4];rfl
  exact h2 _ _ h1 hrd
 refine ⟨es.size,_,⟨es,cl,hw.trans hb,⟨by show _≤9223372036854775807;omega,hs,fun x hx=>let ⟨k,_,_,h⟩:=hrd x hx;⟨_,h⟩⟩,Nat.le_refl _,rfl⟩,?_,?_⟩
 ·show (List.foldr DataW.insert [] _).length=_;rw [(sorted_perm _).length_eq,List.length_map];simpa using hlen
 ·show ((List.foldr DataW.insert [] _).map fun p=>_root_.Go.intOf p.1).Perm ks;refine ((sorted_perm _).map _).trans ?_;rw [hrg,List.map_map];exact .of_eq (by rw [show ((fun p:Lit × DataW Unit=>_root_.Go.intOf p.1)∘fun k=>(Lit.int .i64 k,DataW.nil))=id from rfl,List.map_id])
def nT:List UInt8:=[116,111,109,101]
def nM:List UInt8:=[116,111,109,101,46,109,97,114,107]
def thenN (a:Dk × Nat) (f:Dk→Dk × Nat):Dk × Nat:=if a.2=0 then f a.1 else a
theorem thenN_0 {a:Dk × Nat} {f:Dk→Dk × Nat} (h:a.2=0):thenN a f=f a.1:=if_pos h
theorem thenN_e {a:Dk × Nat} {f:Dk→Dk × Nat} (h:a.2≠0):thenN a f=a:=if_neg h
def goneN (d:Dk) (n:List UInt8):Dk × Nat:=
 if (removeN d n).2=0 then syncN (removeN d n).1 n else if (removeN d n).2=4 then ((removeN d n).1,0) else removeN d n
def writesN (size:Nat):Dk→List Fr→Dk × Nat
 | d,[]=>(d,0)
 | d,f::l=>thenN (writeN d nT ((f.page-1)*size) f.b) fun d=>writesN size d l
theorem writesN_app {size:Nat} {d:Dk} {l l2:List Fr} : writesN size d (l++l2)=thenN (writesN size d l) fun d=>writesN size d l2:=by
 induction l generalizing d with
 | nil=>rfl
 | cons f l ih=>
  simp only [List.cons_append,writesN,thenN];split
  ·rw [ih];rfl
  ·rename_i h;rfl
theorem frN_mem {l:List Fr} {i:Nat} (hi:i<l.length):frN l i∈l:=by
 have:frN l i=l[i]:=by simp [frN,hi]
 rw [this];exact List.getElem_mem hi
section
variable {d:Dk} {n:List UInt8} {size:Nat}
theorem sizeN_lt (k:DkOk d):(sizeN d n).1≤16777216:=by
 unfold sizeN;split
 ·simp
 ·exact (k.getD n).1.now
theorem readN_len {p z:Int} (k:DkOk d):(readN d n p z).1.length≤16777216:=by
 unfold readN;split
 ·simp
 ·split
  ·simp
  ·rename_i f hf;split
   ·simp
   ·have:=(k.fs n f hf).1.now;simp only [List.length_take,List.length_drop];omega
theorem do_chgA {c:Chn} : (doN d n c).1.chg≤d.chg+1:=by
 unfold doN powerN
 repeat' split
 all_goals (simp only;omega)
theorem write_chg {z:Int} {l:List UInt8} : (writeN d n z l).1.chg≤d.chg+1:=by
 unfold writeN;repeat' split
 all_goals first | exact do_chgA | (simp only;omega)
theorem trunc_chg {z:Int} : (truncN d n z).1.chg≤d.chg+1:=by
 unfold truncN;repeat' split
 all_goals first | exact do_chgA | (simp only;omega)
theorem remove_chg:(removeN d n).1.chg≤d.chg+1:=by
 unfold removeN;repeat' split
 all_goals first | exact do_chgA | (simp only;omega)
theorem sync_chg:(syncN d n).1.chg≤d.chg+1:=by
 unfold syncN powerN;repeat' split
 all_goals (simp only;omega)
theorem gone_chg:(goneN d n).1.chg≤d.chg+2:=by
 have h1:=remove_chg (d:=d) (n:=n);have h2:=sync_chg (d:=(removeN d n).1) (n:=n);unfold goneN;repeat' split
 all_goals first | omega | (simp only;omega)
theorem DkOk.gone (k:DkOk d):DkOk (goneN d n).1:=by
 unfold goneN;repeat' split
 ·exact k.remove.sync
 ·exact k.remove
 ·exact k.remove
theorem then_chg {a:Dk × Nat} {f:Dk→Dk × Nat} {x y:Int} (h1:a.1.chg≤x) (h2:∀d,(f d).1.chg≤d.chg+y) (hy:0≤y):(thenN a f).1.chg≤x+y:=by
 unfold thenN;split
 ·have:=h2 a.1;omega
 ·omega
theorem DkOk.then {a:Dk × Nat} {f:Dk→Dk × Nat} (h1:DkOk a.1) (h2:∀d,DkOk d→DkOk (f d).1):DkOk (thenN a f).1:=by
 unfold thenN;split
 ·exact h2 _ h1
 ·exact h1
theorem writes_chg {l:List Fr} : (writesN size d l).1.chg≤d.chg+l.length:=by
 induction l generalizing d with
 | nil=>simp [writesN]
 | cons f l ih=>
  have:=then_chg (a:=writeN d nT ((f.page-1)*size) f.b) (f:=fun d=>writesN size d l) (y:=l.length) write_chg (fun d=>ih) (by omega);unfold writesN;simp only [List.length_cons];omega
theorem DkOk.writes (k:DkOk d) {l:List Fr} : DkOk (writesN size d l).1:=by
 induction l generalizing d with
 | nil=>exact k
 | cons f l ih=>exact DkOk.then (f:=fun d=>writesN size d l) k.write fun _ k=>ih k
section
variable {l:List Fr} {d1 d2:Dk} {i e2:Nat}
theorem pg_mul {x:Int} {s:Nat} (h1:0≤x) (h2:x≤1048576) (hs:s≤4096):0≤x*s∧x*s≤4294967296:=
 ⟨Int.mul_nonneg h1 (by omega),by have:=Int.mul_le_mul h2 (show (s:Int)≤4096 by omega) (by omega) (by omega);omega⟩
end
end
theorem rdN_take {b:List UInt8} {n p k:Nat} (h:p+k≤n):rdN (b.take n) p k=rdN b p k:=by
 unfold rdN;rw [List.drop_take,List.take_take,Nat.min_eq_left (by omega)]
theorem dec_sz {l:List UInt8} (h:(decN l).2=0):okZ (decN l).1.size=true:=by
 unfold decN at h⊢;split at h
 ·cases h
 ·split at h
  ·cases h
  ·split at h
   ·rename_i h1 h2 h3;rw [if_neg h1,if_neg h2,if_pos h3];exact h3.1.1
   ·cases h
open Go Go.HL
structure RC where
 kind:Nat
 pos:Nat
 ba:Option Addr
 bc:Nat
 bl:List UInt8
def RC.abs (c:RC):Chn:=⟨c.kind,c.pos,c.bl⟩
def RC.cells (c:RC):List Value:=[.int .i64 (c.kind:Int),.int .i64 (c.pos:Int),.slice c.ba c.bl.length c.bc]
theorem RC.cells_len (c:RC):c.cells.length=3:=rfl
structure RF where
 blk:Nat
 na:Option Addr
 nc:Nat
 nl:List UInt8
 sa:Option Addr
 sc:Nat
 sl:List UInt8
 here:Bool
 was:Bool
 oa:Option Addr
 oc:Nat
 ol:List RC
def RF.abs (f:RF):Fl:=⟨f.nl,f.sl,f.here,f.was,f.ol.map RC.abs⟩
@[reducible] def fboxI (f:RF):Itm:=boxI f.blk 127 [.slice f.na f.nl.length f.nc,.slice f.sa f.sl.length f.sc,.bool f.here,.bool f.was,.slice f.oa f.ol.length f.oc]
@[reducible] def fopnI (f:RF):Itm:=capI 3 175 (f.oa,f.ol.length,f.oc) (f.ol.flatMap RC.cells)
def fileI (f:RF):List Itm:=[fboxI f,fopnI f]
abbrev Fs:=List (List UInt8 × RF)
def flsI (fs:Fs):Itm:=starI (fs.flatMap fun p=>fileI p.2)
def ptrF (f:RF):Value:=.pointer (some ⟨f.blk,0,none⟩)
def ents (fs:Fs):List (List UInt8 × Value):=fs.map fun p=>(p.1,ptrF p.2)
def bget (fs:Fs) (n:List UInt8):Option RF:=(fs.find? fun p=>p.1=n).map (·.2)
def bput:Fs→List UInt8→RF→Fs
 | [],n,f=>[(n,f)]
 | p::l,n,f=>if p.1=n then (n,f)::l else p::bput l n f
def bdel (fs:Fs) (n:List UInt8):Fs:=fs.filter fun p=>decide (p.1≠n)
structure RD where
 m:Nat
 fs:Fs
 dark:Bool
 left:Int
 chg:Int
def RD.abs (r:RD):Dk:=⟨fun n=>(bget r.fs n).map RF.abs,r.dark,r.left,r.chg⟩
@[reducible] def dboxI (d:Nat) (r:RD):Itm:=boxI d 105 [.map (some r.m),.bool r.dark,.int .i64 r.left,.int .i64 r.chg]
def dskI (d:Nat) (r:RD):Itm:=starI (dboxI d r::mapI kvB r.m (ents r.fs)::r.fs.flatMap fun p=>fileI p.2)
section
variable {fs:Fs} {n m:List UInt8} {f g:RF}
theorem bget_mem:∀ {fs:Fs},bget fs n=some f→(n,f)∈fs
 | [],h=>by simp [bget] at h
 | p::l,h=>by
  by_cases hp:p.1=n
  ·subst hp;simp [bget] at h;subst h;exact List.mem_cons_self
  ·exact List.mem_cons_of_mem _ (bget_mem (fs:=l) (by simpa [bget,hp] using h))
theorem bget_of (hn:(fs.map (·.1)).Nodup) (h:(n,f)∈fs):bget fs n=some f:=by
 induction fs with
 | nil=>cases h
 | cons p l ih=>
  rcases List.mem_cons.1 h with rfl | h
  ·simp [bget]
  ·have h1:=List.nodup_cons.1 hn;have:p.1≠n:=fun e=>h1.1 (List.mem_map.2 ⟨_,h,e.symm⟩);simpa [bget,this] using ih h1.2 h
theorem bget_cons (p:List UInt8 × RF) (l:Fs) (n:List UInt8):bget (p::l) n=if p.1=n then some p.2 else bget l n:=by
 by_cases h:p.1=n<;>simp [bget,h]
theorem bput_cons (p:List UInt8 × RF) (l:Fs) (n:List UInt8) (f:RF):bput (p::l) n f=if p.1=n then (n,f)::l else p::bput l n f:=rfl
theorem bget_put:bget (bput fs n f) m=if m=n then some f else bget fs m:=by
 induction fs with
 | nil=>by_cases h:n=m<;>simp [bput,bget,h,eq_comm]
 | cons p l ih=>
  rw [bput_cons];split
  ·rename_i h;rw [bget_cons,bget_cons];by_cases h2:n=m
   ·subst h2;simp
   ·rw [if_neg h2,if_neg (by intro e;exact h2 e.symm),if_neg (by rw [h];exact h2)]
  ·rename_i h;rw [bget_cons,bget_cons,ih];by_cases h2:p.1=m
   ·rw [if_pos h2,if_pos h2,if_neg (by intro e;exact h (h2.trans e))]
   ·rw [if_neg h2,if_neg h2]
theorem bget_del:bget (bdel fs n) m=if m=n then none else bget fs m:=by
 induction fs with
 | nil=>simp [bdel,bget]
 | cons p l ih=>
  rw [bget_cons];unfold bdel at ih⊢;rw [List.filter_cons];by_cases h:p.1=n
  ·simp only [h,ne_eq,not_true,decide_false];by_cases h2:m=n
   ·subst h2;simpa using ih
   ·have h3:¬n=m:=fun e=>h2 e.symm;rw [if_neg h3];simpa using ih
  ·simp only [h,ne_eq,not_false_iff,decide_true,if_true];rw [bget_cons,ih];by_cases h2:p.1=m
   ·have h3:¬m=n:=fun e=>h (h2.trans e);simp [h2,h3]
   ·simp [h2]
theorem bget_none_iff:bget fs n=none↔∀p∈fs,p.1≠n:=by
 induction fs with
 | nil=>simp [bget]
 | cons p l ih=>
  rw [bget_cons];by_cases h:p.1=n
  ·simp [h]
  ·simp [h,ih]
theorem bdel_none (h:bget fs n=none):bdel fs n=fs:=by
 unfold bdel;rw [List.filter_eq_self];intro p hp;simpa using bget_none_iff.1 h p hp
theorem perm_get (hn:(fs.map (·.1)).Nodup) (h:bget fs n=some f):fs.Perm ((n,f)::bdel fs n):=by
 induction fs with
 | nil=>simp [bget] at h
 | cons p l ih=>
  have h1:=List.nodup_cons.1 hn;rw [bget_cons] at h;by_cases hp:p.1=n
  ·rw [if_pos hp] at h;injection h with h;have e:bdel (p::l) n=l:=by
    have:bget l n=none:=bget_none_iff.2 fun q hq e=>h1.1 (List.mem_map.2 ⟨q,hq,e.trans hp.symm⟩);have h2:=bdel_none this;unfold bdel at h2⊢;rw [List.filter_cons];simp [hp];simpa using h2
   rw [e,←h,←hp]
  ·rw [if_neg hp] at h;have e:bdel (p::l) n=p::bdel l n:=by unfold bdel;rw [List.filter_cons];simp [hp]
   rw [e];exact ((ih h1.2 h).cons p).trans (.swap _ _ _)
theorem bdel_put:bdel (bput fs n f) n=bdel fs n:=by
 induction fs with
 | nil=>simp [bput,bdel]
 | cons p l ih=>
  rw [bput_cons];split
  ·rename_i h;simp [bdel,h]
  ·rename_i h;unfold bdel at ih⊢;rw [List.filter_cons,List.filter_cons,ih]
theorem keys_put (f:RF) (h:bget fs n=some g):(bput fs n f).map (·.1)=fs.map (·.1):=by
 induction fs with
 | nil=>simp [bget] at h
 | cons p l ih=>
  rw [bput_cons];split
  ·rename_i hp;simp [hp]
  ·rename_i hp;rw [bget_cons,if_neg hp] at h;simp [ih h]
theorem bput_none (h:bget fs n=none):bput fs n f=fs++[(n,f)]:=by
 induction fs with
 | nil=>rfl
 | cons p l ih=>
  rw [bget_cons] at h;split at h
  ·cases h
  ·rename_i hp;rw [bput_cons,if_neg hp,ih h];rfl
theorem nodup_put (hn:(fs.map (·.1)).Nodup):((bput fs n f).map (·.1)).Nodup:=by
 cases h:bget fs n with
 | some g=>rw [keys_put f h];exact hn
 | none=>
  rw [bput_none h,List.map_append];refine List.nodup_append.2 ⟨hn,by simp,fun a ha b hb=>?_⟩;obtain ⟨p,hp,rfl⟩:=List.mem_map.1 ha;simp at hb;subst hb;exact bget_none_iff.1 h p hp
theorem perm_put (hn:(fs.map (·.1)).Nodup):(bput fs n f).Perm ((n,f)::bdel fs n):=by
 have h:=perm_get (fs:=bput fs n f) (n:=n) (f:=f) (nodup_put hn) (by rw [bget_put,if_pos rfl]);rwa [bdel_put] at h
theorem ents_keys:(ents fs).map (·.1)=fs.map (·.1):=by simp [ents,Function.comp_def]
theorem ents_get:aget (ents fs) n=(bget fs n).map ptrF:=by
 induction fs with
 | nil=>rfl
 | cons p l ih=>
  rw [bget_cons];by_cases h:p.1=n
  ·simp [ents,aget,h]
  ·simpa [ents,aget,h] using ih
theorem ents_put:aput (ents fs) n (ptrF f)=ents (bput fs n f):=by
 induction fs with
 | nil=>rfl
 | cons p l ih=>
  rw [bput_cons];by_cases h:p.1=n
  ·simp [ents,aput,h]
  ·simpa [ents,aput,h] using ih
theorem ents_same (h:bget fs n=some g) (hb:f.blk=g.blk):ents (bput fs n f)=ents fs:=by
 induction fs with
 | nil=>simp [bget] at h
 | cons p l ih=>
  rw [bput_cons];rw [bget_cons] at h;by_cases hp:p.1=n
  ·rw [if_pos hp] at h⊢;injection h with h;subst h;simp [ents,hp,ptrF,hb]
  ·rw [if_neg hp] at h⊢;simpa [ents] using ih h
theorem ents_del:adel (ents fs) n=ents (bdel fs n):=by simp [adel,ents,bdel,List.filter_map,Function.comp_def]
end
end Go.Proofs.YtpeaicddbnghfaaGreat
namespace Go.HL
open Go Go.Proofs.YtpeaicddbnghfaaGreat
section
variable {h0 h h':Heap} {D G:Nat→Prop} {M R:List Itm} {d:Nat} {r r':RD} {fs:Fs} {n:List UInt8} {f:RF} {E E':Nat→Prop}
theorem Hp.dopn (ok:Hp h0 D (dskI d r::M) R h):Hp h0 D (dboxI d r::mapI kvB r.m (ents r.fs)::flsI r.fs::M) R h:=Hp.star2 ok
theorem Hp.dcls (ok:Hp h0 D (dboxI d r::mapI kvB r.m (ents r.fs)::flsI r.fs::M) R h):Hp h0 D (dskI d r::M) R h:=Hp.unstar2 ok
theorem Hp.fopn (hn:(fs.map (·.1)).Nodup) (hg:bget fs n=some f) (ok:Hp h0 D (flsI fs::M) R h):Hp h0 D (fboxI f::fopnI f::flsI (bdel fs n)::M) R h:=
 Hp.star2 (Hp.starP (l':=((n,f)::bdel fs n).flatMap fun p:List UInt8 × RF=>fileI p.2) ok ((perm_get hn hg).flatMap_right _).symm)
theorem Hp.fcls (hn:(fs.map (·.1)).Nodup) (ok:Hp h0 D (fboxI f::fopnI f::flsI (bdel fs n)::M) R h):Hp h0 D (flsI (bput fs n f)::M) R h:=
 Hp.starP (l':=(bput fs n f).flatMap fun p:List UInt8 × RF=>fileI p.2) (Hp.unstar2 ok) ((perm_put hn).flatMap_right _)
structure ByF (h:Heap) (E:Nat→Prop) (f:RF):Prop where
 now:RdL h E E (f.na,f.nl.length,f.nc) f.nl
 safe:RdL h E E (f.sa,f.sl.length,f.sc) f.sl
 opn:∀c∈f.ol,RdL h E E (c.ba,c.bl.length,c.bc) c.bl
theorem ByF.st (c:Chg G h h') (hE:∀j,E j→¬G j) (b:ByF h E f):ByF h' E f:=⟨b.now.st c hE hE,b.safe.st c hE hE,fun x hx=>(b.opn x hx).st c hE hE⟩
theorem ByF.mono (hE:∀j,E j→E' j) (b:ByF h E f):ByF h E' f:=⟨b.now.mono hE hE,b.safe.mono hE hE,fun x hx=>(b.opn x hx).mono hE hE⟩
def Bys (h:Heap) (E:Nat→Prop) (fs:Fs):Prop:=∀p∈fs,ByF h E p.2
@[reducible] def bysI (E:Nat→Prop) (fs:Fs):Itm:=⟨fun h=>Bys h E fs,E,fun _ _ _ c d b p hp=>(b p hp).st c d⟩
theorem Bys.get (b:Bys h E fs) (hg:bget fs n=some f):ByF h E f:=b _ (bget_mem hg)
theorem Bys.mono (hE:∀j,E j→E' j) (b:Bys h E fs):Bys h E' fs:=fun p hp=>(b p hp).mono hE
theorem mem_bput {fs:Fs} {n:List UInt8} {f:RF} {p:List UInt8 × RF} (h:p∈bput fs n f):p=(n,f)∨p∈fs:=by
 induction fs with
 | nil=>simp [bput] at h;exact .inl h
 | cons q l ih=>
  rw [bput_cons] at h;split at h
  ·rcases List.mem_cons.1 h with h | h
   ·exact .inl h
   ·exact .inr (List.mem_cons_of_mem _ h)
  ·rcases List.mem_cons.1 h with h | h
   ·exact .inr (by rw [h];exact List.mem_cons_self)
   ·exact (ih h).imp id (List.mem_cons_of_mem _)
theorem Bys.put (b:Bys h E fs) (hf:ByF h E f):Bys h E (bput fs n f):=fun p hp=>by
 rcases mem_bput hp with rfl | hp
 ·exact hf
 ·exact b p hp
theorem Bys.del (b:Bys h E fs):Bys h E (bdel fs n):=fun p hp=>b p ((List.mem_filter.1 hp).1)
structure DUp (h h':Heap) (d:Nat) (r r':RD) (E E':Nat→Prop):Prop where
 hp:Hp h (dskI d r).F [dskI d r'] [bysI E' r'.fs] h'
 new:∀j,E' j→E j∨h.size≤j
theorem Hp.loc1 {a b:Itm} (ok:Hp h0 D (a::M) (b::R) h):Hp h a.F [a] [b] h:=
 ⟨Chg.refl _ _,fun i hi=>by
  rw [List.mem_singleton.1 hi];exact ⟨ok.m0,fun j hj=>⟨((ok.m a List.mem_cons_self).2 j hj).1,.inl hj⟩⟩,fun i hi=>by
  rw [List.mem_singleton.1 hi];exact ok.r b List.mem_cons_self,List.pairwise_singleton _ _,fun x hx y hy=>by
  rw [List.mem_singleton.1 hx,List.mem_singleton.1 hy];exact ok.mr a List.mem_cons_self b List.mem_cons_self⟩
theorem Hp.loc2 {a b c:Itm} (ok:Hp h0 D (a::M) (b::c::R) h):Hp h a.F [a] [b,c] h:=
 ⟨Chg.refl _ _,fun i hi=>by
  rw [List.mem_singleton.1 hi];exact ⟨ok.m0,fun j hj=>⟨((ok.m a List.mem_cons_self).2 j hj).1,.inl hj⟩⟩,fun i hi=>ok.r i (by simp at hi⊢;rcases hi with h | h<;>simp [h]),List.pairwise_singleton _ _,fun x hx y hy=>by
  rw [List.mem_singleton.1 hx];exact ok.mr a List.mem_cons_self y (by simp at hy⊢;rcases hy with h | h<;>simp [h])⟩
theorem Hp.rdo {a b:Itm} (ok:Hp h0 D (a::M) (b::R) h):Hp h none_ [] [a,b] h:=
 ⟨Chg.refl _ _,by simp,fun i hi=>by
  rcases List.mem_cons.1 hi with rfl | hi
  ·exact ⟨ok.m0,fun j hj=>((ok.m i List.mem_cons_self).2 j hj).1⟩
  ·rw [List.mem_singleton.1 hi];exact ok.r b List.mem_cons_self,.nil,by simp⟩
theorem Hp.dsk (ok:Hp h0 D (dskI d r::M) (bysI E r.fs::R) h) (q:DUp h h' d r r' E E'):Hp h0 D (dskI d r'::M) (bysI E' r'.fs::R) h':=by
 have o:=ok.upd q.hp.chg (fun _ x=>x) (dskI d r') q.hp.m0 fun j hj=>by
  have h1:=(q.hp.m _ List.mem_cons_self).2 j hj;exact h1.2.imp id fun h=>⟨h,h1.1⟩
 refine ⟨o.chg,o.m,fun i hi=>?_,o.mm,fun x hx y hy j hj hj2=>?_⟩
 ·rcases List.mem_cons.1 hi with rfl | hi
  ·exact q.hp.r _ List.mem_cons_self
  ·exact o.r i (List.mem_cons_of_mem _ hi)
 ·rcases List.mem_cons.1 hy with rfl | hy
  ·rcases List.mem_cons.1 hx with rfl | hx
   ·exact q.hp.mr _ List.mem_cons_self _ List.mem_cons_self j hj hj2
   ·rcases q.new j hj2 with h1 | h1
    ·exact ok.mr x (List.mem_cons_of_mem _ hx) _ List.mem_cons_self j hj h1
    ·have:=((ok.m x (List.mem_cons_of_mem _ hx)).2 j hj).1;omega
  ·exact o.mr x hx y (List.mem_cons_of_mem _ hy) j hj hj2
theorem Hp.up {R':List Itm} (q:Hp h (dskI d r).F [dskI d r'] (bysI E' r'.fs::R') h') (hE:∀j,E' j→E j∨h.size≤j):DUp h h' d r r' E E':=⟨q.sub (by simp),hE⟩
theorem Hp.lift1 {a b:Itm} (ok:Hp h0 D (a::M) R h) (q:Hp h a.F [b] [] h'):Hp h0 D (b::M) R h':=
 ok.upd q.chg (fun _ x=>x) b q.m0 fun j hj=>by
  have h1:=(q.m _ List.mem_cons_self).2 j hj;exact h1.2.imp id fun h=>⟨h,h1.1⟩
theorem Hp.loc0 {a:Itm} (ok:Hp h0 D (a::M) R h):Hp h a.F [a] [] h:=
 ⟨Chg.refl _ _,fun i hi=>by
  rw [List.mem_singleton.1 hi];exact ⟨ok.m0,fun j hj=>⟨((ok.m a List.mem_cons_self).2 j hj).1,.inl hj⟩⟩,by simp,List.pairwise_singleton _ _,by simp⟩
end
end Go.HL
namespace Go.Proofs.YtpeaicddbnghfaaGreat
open Go Go.HL
theorem long_cut {h0 h:Heap} {D:Nat→Prop} {M R:List Itm} {e:TypeId} {a:Option Addr} {c n:Nat} {l:List UInt8} (ok:Hp h0 D (capI 1 e (a,l.length,c) (l.map bv)::M) R h) (hn:n≤l.length):Hp h0 D (capI 1 e (a,(longN l n).length,n) ((longN l n).map bv)::M) R h:=by
 have h1:=Cap.clip (Cap.pre ok.m0 hn);rw [Nat.mul_one,←List.map_take,←longN_le hn] at h1;refine ok.re _ (by simp only [longN_len];exact h1) fun j hj=>?_;obtain ⟨o,n',c',hv⟩:=hj;injection hv with h1 h2 h3;exact ⟨o,_,_,by rw [←h1]⟩
theorem long_any {h:Heap} {n:Nat} {a:Option Addr} {c:Nat} {l:List UInt8} (ok:Hp h (blkC (sv (a,l.length,c))) [capI 1 5 (a,l.length,c) (l.map bv)] [] h) (hN:l.length≤100000000) (hn:n≤100000000) :
  HC Tryz.prog 174 #[.slice a l.length c,.int .i64 (n:Int)] h (fun v h'=>∃a' c',v=.slice a' (longN l n).length c'∧Hp h (blkC (sv (a,l.length,c))) [capI 1 5 (a',(longN l n).length,c') ((longN l n).map bv)] [] h'):=by
 have hle:l.length≤c:=Cap.le ok.m0;refine HC.go Tryz.func174 19 ?_;refine .seq<|.r<|.z .asS<|.nil ?_;refine .seq<|.seq<|.r<|.z .mvI<|.z .mvS<|.z (.len T.el22)<|.z .leq<|.nil ?_;refine .cd (fun C0=>?_) (fun C0=>?_)
 ·
  refine .seq<|.r<|.z .mvS<|.z .mvI<|.z .mvI<|.z (.slhm n n T.el22 T.sz5)<|.z .asS<|.nil ?_;refine .ret ⟨.slice a n n,Res.one rfl rfl,⟨a,n,by rw [longN_len],long_cut ok (by omega)⟩⟩
 refine .skip<|.seq<|.r<|.z .mvS<|.z .mvI<|.z .mvS<|.z (.len T.el22)<|.z .sub<|.a' 18 (.apz (z:=((n:Int)-(l.length:Int))) (n-l.length) T.el22 T.in3 T.sz5 T.by5 T.zr5 ok (by omega) (by omega)) ?_;rintro _ η1 ⟨ya1,yc1,rfl,ok⟩;refine .z .asS<|.nil ?_;refine .ret ⟨.slice ya1 ((l++List.replicate (n-l.length) 0).length) yc1,Res.one rfl rfl,⟨_,_,by rw [longN_ge (by omega)],by rw [longN_ge (by omega)];exact ok⟩⟩
theorem done0 {pos:Nat} {bl l:List UInt8} {here:Bool} : doneN ⟨0,pos,bl⟩ l here=(patchN (longN l (max l.length (pos+bl.length))) pos bl,true):=by simp [doneN]
theorem done1 {pos:Nat} {bl l:List UInt8} : doneN ⟨1,pos,bl⟩ l true=(longN l pos,true):=by simp [doneN]
theorem done2 {kind pos:Nat} {bl l:List UInt8} {here:Bool} (h1:kind≠0) (h2:kind=1→here=false):doneN ⟨kind,pos,bl⟩ l here=([],false):=by
 unfold doneN;rw [if_neg h1,if_neg];rintro ⟨h3,h4⟩;simp only at h3;rw [h2 h3] at h4;cases h4
theorem spl_patch {o b:List UInt8} {p:Nat} : spl (o.map bv) (p*1) (b.map bv)=(patchN o p b).map bv:=by simp [spl,patchN]
theorem done_any {h:Heap} {F E F2 E2:Nat→Prop} {kind pos:Nat} {ba a:Option Addr} {bc c:Nat} {bl l:List UInt8} {here:Bool} (hb:RdL h F2 E2 (ba,bl.length,bc) bl) (hl:RdL h F E (a,l.length,c) l) (hp:pos+bl.length≤16777216) (hL:l.length≤16777216) :
  HC Tryz.prog 125 #[.agg #[.int .i64 (kind:Int),.int .i64 (pos:Int),.slice ba bl.length bc],.slice a l.length c,.bool here] h (fun v h'=>∃w,v=.tuple #[w,.bool (doneN ⟨kind,pos,bl⟩ l here).2]∧Own h h' 1 5 w ((doneN ⟨kind,pos,bl⟩ l here).1.map bv)):=by
 have ok:=((Hp.nil h none_).arg hb).arg hl;refine HC.go Tryz.func125 45 ?_;refine .seq<|.r<|.a' 3 (.bxA (cs:=[.int .i64 (kind:Int),.int .i64 (pos:Int),.slice ba bl.length bc]) ok) ?_;rintro _ η1 ⟨pb1,rfl,ok,xe⟩;refine .z .asS<|.z .asB<|.nil ?_;refine .seq<|.block fun K0 hK0=>.seq<|.r<|.z (.fa T.fd175_0)<|.z (.ldx T.ag3 ok.m0)<|.z .eql<|.z .asB<|.nil ?_;refine .cd (fun C0=>?_) (fun C0=>?_)
 ·
  refine .seq<|.a 13 (fun fl hh=>Hp h none_ [boxI pb1 175 [.int .i64 (kind:Int),.int .i64 (pos:Int),.slice ba bl.length bc]] [rdI (fun j=>F j∧j<h.size) (fun j=>E j∧j<h.size) (a,l.length,c) l,rdI (fun j=>F2 j∧j<h.size) (fun j=>E2 j∧j<h.size) (ba,bl.length,bc) bl] hh) mixed ?_;have hS:=ok;refine .g 0 false rfl 13 hS (fun _=>.mvS)<|.g 2 false rfl 15 hS (fun _=>.mvS)<|.g 3 false rfl 16 hS (fun _=>.len T.el22)<|.g 4 false rfl 17 hS (fun _=>.fa T.fd175_1)<|.lw 5 false rfl 18 hS (fun _ _ hS=>.ldx T.ag3 hS.m0)<|.g 6 false rfl 19 hS (fun _=>.fa T.fd175_2)<|.lw 7 false rfl 20 hS (fun _ _ hS=>.ldx T.ag22 hS.m0)<|.g 8 false rfl 21 hS (fun _=>.len T.el22)<|.g 9 false rfl 22 hS (fun _=>.addI)<|.g 10 false rfl 23 hS (fun _=>.maxn)<|.o1 1<|.c' false rfl 14 .func (bclone_any (a:=a) (c:=c) (l:=l) ok.r0 (by omega)) ?_;rintro _ η2 own;obtain ⟨ya1,yc1,rfl⟩:=own.formB;have ok:=ok.own own;refine ⟨ok.n1.k1,?_⟩;have hS:=ok.n1.k1;refine .o1 11<|.c' false rfl 24 .func (long_any (n:=(max l.length (pos+bl.length))) (ok).loc0 (by omega) (by omega)) ?_;rintro _ η3 ⟨ya2,yc2,rfl,q⟩;have ok:=(ok).lift1 q;refine ⟨ok.n1.k1,?_⟩;have hS:=ok.n1.k1;refine .g 12 false rfl 8 hS (fun _=>.asS)<|.e ?_;refine .seq<|.t 6 mixed ?_;simp only [List.take_succ_cons,List.take_zero,List.drop_succ_cons,List.drop_zero];refine .z .mvS<|.z (.fa T.fd175_1)<|.z (.ldx T.ag3 ok.m1)<|.z (.sll pos T.el22 T.sz5 (hb:=by rw [longN_len];omega))<|.z (.fa T.fd175_2)<|.z (.ldx T.ag22 ok.m1)<|.nil ?_;refine .a' 31 (.cpyA (n:=(longN l (max l.length (pos+bl.length))).length) (ys:=bl.map bv) (m:=bl.length) pos T.el22 T.sz5 ok ok.r1.by bv_all rfl (him:=by rw [longN_len];omega)) ?_;rintro _ η4 ⟨rfl,ok,cg⟩;refine .nil ?_;refine .seq<|.r<|.z .mvS<|.z .asS<|.z .asB<|.nil ?_;refine .ret ⟨.tuple #[.slice ya2 ((longN l (max l.length (pos+bl.length))).length) yc2,.bool true],Res.two rfl rfl rfl,⟨_,by rw [show kind=0 from by omega,done0],by rw [show kind=0 from by omega,done0];have ok:=(ok).cx spl_patch;exact ok.toOwn⟩⟩
 refine .seq<|.r<|.z (.fa T.fd175_0)<|.z (.ldx T.ag3 ok.m0)<|.z .eql<|.z .mvB<|.sd (fun G37=>?_) (fun G37=>?_)
 ·
  refine .z .mvB<|.z .pkt<|.z .asB<|.nil ?_;refine .cond (fun C1=>?_) (fun C1=>?_)
  ·
   refine .seq<|.a 4 (fun fl hh=>cond fl True (Hp h none_ [boxI pb1 175 [.int .i64 (kind:Int),.int .i64 (pos:Int),.slice ba bl.length bc]] [rdI (fun j=>F j∧j<h.size) (fun j=>E j∧j<h.size) (a,l.length,c) l,rdI (fun j=>F2 j∧j<h.size) (fun j=>E2 j∧j<h.size) (ba,bl.length,bc) bl] hh)) mixed ?_;have hS:=ok;refine .g 0 false rfl 40 hS (fun _=>.mvS)<|.g 2 false rfl 42 hS (fun _=>.fa T.fd175_1)<|.l 3 false rfl 43 hS (fun _ hS=>.ldx T.ag3 hS.m0)<|.o1 1<|.c' false rfl 41 .func (bclone_any (a:=a) (c:=c) (l:=l) ok.r0 (by omega)) ?_;rintro _ η5 own;obtain ⟨ya3,yc3,rfl⟩:=own.formB;have ok:=ok.own own;refine ⟨ok.n1.k1,?_⟩;have hS:=ok.n1.k1;refine .o1 4<|.c' true rfl 44 .func (long_any (n:=pos) (ok).loc0 (by omega) (by omega)) ?_;rintro _ η6 ⟨ya4,yc4,rfl,q⟩;have ok:=(ok).lift1 q;refine ⟨trivial,?_⟩;refine .g 5 true rfl 6 trivial (fun _=>.asS)<|.g 6 true rfl 7 trivial (fun _=>.asB)<|.e ?_;refine .ret ⟨.tuple #[.slice ya4 ((longN l pos).length) yc4,.bool true],Res.two rfl rfl rfl,⟨_,by rw [show kind=1 from by omega,C1,done1],by rw [show kind=1 from by omega,C1,done1];exact (ok).toOwn⟩⟩
  refine .skip<|.end<|hK0 _ _<|.seq<|.r<|.z .asS<|.z .asB<|.nil ?_;refine .ret ⟨.tuple #[.slice none 0 0,.bool false],Res.two rfl rfl rfl,⟨_,by rw [done2 (by omega) (by intro h1;first | exact absurd h1 (by omega) | simpa using C1)],by rw [done2 (by omega) (by intro h1;first | exact absurd h1 (by omega) | simpa using C1)];exact ok.tM.nilC.toOwn⟩⟩
 refine .y<|.z .pkf<|.z .asB<|.nil ?_;refine .cf<|.skip<|.end<|hK0 _ _<|.seq<|.r<|.z .asS<|.z .asB<|.nil ?_;refine .ret ⟨.tuple #[.slice none 0 0,.bool false],Res.two rfl rfl rfl,⟨_,by rw [done2 (by omega) (by intro h1;first | exact absurd h1 (by omega) | simpa using C1)],by rw [done2 (by omega) (by intro h1;first | exact absurd h1 (by omega) | simpa using C1)];exact ok.tM.nilC.toOwn⟩⟩
theorem RdL.ofCapI {h:Heap} {e:TypeId} {v:SV} {l:List Int} (c:Cap h 1 e (sv v) (l.map iv)):RdL h any_ any_ v l:=(RdL.of_cap1 (E:=any_) (f:=iv) rfl (fun _ _ _=>rfl) c).mono (fun _ _=>trivial) (fun _ h=>h)
theorem wrong1 {d:Dk} {n:List UInt8} {zs:List Int} (h:n.length<1∨32<n.length∨∃z∈zs,z<0):wrongN d n zs=1:=by unfold wrongN;rw [if_pos h]
theorem wrong13 {d:Dk} {n:List UInt8} {zs:List Int} (h:¬(n.length<1∨32<n.length∨∃z∈zs,z<0)) (hd:d.dark=true):wrongN d n zs=13:=by unfold wrongN;rw [if_neg h,if_pos hd]
theorem wrong0 {d:Dk} {n:List UInt8} {zs:List Int} (h:¬(n.length<1∨32<n.length∨∃z∈zs,z<0)) (hd:¬d.dark=true):wrongN d n zs=0:=by unfold wrongN;rw [if_neg h,if_neg hd]
theorem neg_any {h:Heap} {z:Int} :
  HC Tryz.prog 137 #[.int .i64 z] h (fun v h'=>v=.bool (decide (z<0))∧h'=h):=by
 refine HC.go Tryz.func137 5 ?_;refine .seq<|.r<|.z .asB<|.nil ?_;refine .seq<|.r<|.z .mvI<|.z .lss<|.z .asB<|.nil ?_;refine .ret ⟨.bool (decide (z<0)),Res.one rfl rfl,⟨rfl,rfl⟩⟩
theorem ixf_any {h:Heap} {F E:Nat→Prop} {a:Option Addr} {c:Nat} {l:List Int} (hl:RdL h F E (a,l.length,c) l) :
  HC Tryz.prog 183 #[.slice a l.length c,.func (.func 137) #[] #[]] h (fun v h'=>∃i:Int,v=.int .i64 i∧((0≤i∧∃z∈l,z<0)∨(i<0∧¬ ∃z∈l,z<0))∧h'=h):=by
 have hc2:=hl.m;have hc1:l.length≤c:=hl.c;simp only at hc2;refine HC.go Tryz.func183 19 ?_;refine .seq<|.r<|.z .asI<|.nil ?_;refine .seq<|.seq<|.r<|.z .mvS<|.z (.len T.el167)<|.z .mvI<|.nil ?_;refine .block fun K0 hK0=>.loop (fun m s hh=>∃(i:Nat),Has s [(0,.slice a l.length c),(1,.func (.func 137) #[] #[]),(7,.int .i64 (l.length:Int)),(8,.int .i64 (i:Int))]∧h=hh∧i≤l.length∧(∀j (hj:j<l.length),j<i→¬l[j]<0)∧m=l.length-i) ?_ ?_
 ·exact ⟨_,0,⟨rfl,rfl,rfl,rfl,trivial⟩,rfl,Nat.zero_le _,fun _ _ h=>absurd h (by omega),rfl⟩
 rintro _ _ _ ⟨i,hs,rfl,hi,hz,rfl⟩ J0 hJ0;refine .frame hs fun τ=>?_;refine .seq<|.r<|.z .lss<|.nil ?_;refine .seq<|.cdr (fun C0=>?_) (fun C0=>?_)
 ·
  have hil:i=l.length:=by omega
  refine .exit<|hK0 _ _<|.seq<|.r<|.z .asI<|.nil ?_;refine .ret ⟨.int .i64 (-1),Res.one rfl rfl,⟨_,rfl,.inr ⟨by decide,fun ⟨z,hzm,hz0⟩=>(by obtain ⟨j,hj,rfl⟩:=List.mem_iff_getElem.1 hzm;exact hz j hj (by omega) hz0)⟩,rfl⟩⟩
 have hil:i<l.length:=by omega
 refine .skip<|.seq<|.block fun K1 hK1=>.seq<|.r<|.z .mvI<|.z .asI<|.nil ?_;refine .seq<|.r<|.z .mvF<|.z .mvS<|.z .mvI<|?_;obtain ⟨bb1,oo1,rfl,fb1⟩:=hl.pos (by omega);refine .z (.ix1 i T.el167 T.sz3)<|.z (.ld T.ag3 (hl.i64 (i:=i) (by omega)))<|.k 16 .dyn (neg_any (z:=l[i]))<|.nil ?_;refine .cd (fun C1=>?_) (fun C1=>?_)
 ·
  refine .seq<|.r<|.z .mvI<|.z .asI<|.nil ?_;refine .ret ⟨.int .i64 (i:Int),Res.one rfl rfl,⟨_,rfl,.inl ⟨by omega,_,List.getElem_mem hil,C1⟩,rfl⟩⟩
 refine .skip<|.end<|hK1 _ _<|.r<|.z (.addI (b:=1))<|.z .mvI<|.nil ?_;refine .end<|hJ0 _ _ _ ⟨i+1,⟨rfl,rfl,rfl,rfl,trivial⟩,rfl,by omega,fun j hj h=>(by by_cases hji:j=i;(subst hji;exact C1);exact hz j hj (by omega)),rfl⟩ (by omega)
theorem anyneg_any {h:Heap} {F E:Nat→Prop} {a:Option Addr} {c:Nat} {l:List Int} (hl:RdL h F E (a,l.length,c) l) :
  HC Tryz.prog 136 #[.slice a l.length c,.func (.func 137) #[] #[]] h (fun v h'=>v=.bool (decide (∃z∈l,z<0))∧h'=h):=by
 have hc2:=hl.m;have hc1:l.length≤c:=hl.c;simp only at hc2;refine HC.go Tryz.func136 9 ?_;refine .seq<|.r<|.z .asB<|.nil ?_;refine .seq<|.r<|.z .mvS<|.z .mvF<|.c' 7 .func (ixf_any (a:=a) (c:=c) (l:=l) hl) ?_;rintro _ _ ⟨ix1,rfl,hix1,heq⟩;obtain rfl:=heq.symm;refine .z .geq<|.z .asB<|.nil ?_;refine .ret ⟨.bool (decide (0≤ix1)),Res.one rfl rfl,⟨congrArg Value.bool (decide_eq_decide.2 ⟨fun h1=>hix1.elim (·.2) fun h2=>absurd h1 (by omega),fun h1=>hix1.elim (·.1) fun h2=>absurd h1 h2.2⟩),rfl⟩⟩
theorem wrong_any {h:Heap} {F E:Nat→Prop} {d:Nat} {r:RD} {n:List UInt8} {a:Option Addr} {c:Nat} {l:List Int} (hd:(dboxI d r).p h) (hl:RdL h F E (a,l.length,c) l) :
  HC Tryz.prog 78 #[.pointer (some ⟨d,0,none⟩),.string (BA n),.slice a l.length c] h (fun v h'=>v=.int .i64 (wrongN r.abs n l:Int)∧h'=h):=by
 have hc2:=hl.m;have hc1:l.length≤c:=hl.c;simp only at hc2;refine HC.go Tryz.func78 28 ?_;refine .seq<|.r<|.z .asI<|.nil ?_;refine .seq<|.block fun K0 hK0=>.seq<|.r<|.z .mvP<|.z (.pEqS T.pt30)<|.z .asB<|.nil ?_;refine .cf<|.seq<|.r<|.z .mvT<|.z (.lenT T.st9)<|.z .lss<|.z .mvB<|.sd (fun G14=>?_) (fun G14=>?_)
 ·
  refine .y<|.y<|.y<|.z .pkt<|.z .mvB<|.y<|.y<|.z .pkt<|.z .asB<|.nil ?_;refine .ct<|.seq<|.r<|.z .asI<|.nil ?_;refine .ret ⟨.int .i64 1,Res.one rfl rfl,⟨by rw [wrong1 (by first | exact .inl (by omega) | exact .inr (.inl (by omega)) | exact .inr (.inr C1))];rfl,rfl⟩⟩
 refine .z .mvT<|.z (.lenT T.st9)<|.z .gtr<|.z .pkf<|.z .mvB<|.sd (fun G19=>?_) (fun G19=>?_)
 ·
  refine .y<|.y<|.z .pkt<|.z .asB<|.nil ?_;refine .ct<|.seq<|.r<|.z .asI<|.nil ?_;refine .ret ⟨.int .i64 1,Res.one rfl rfl,⟨by rw [wrong1 (by first | exact .inl (by omega) | exact .inr (.inl (by omega)) | exact .inr (.inr C1))];rfl,rfl⟩⟩
 refine .z .mvS<|.k 21 .func (anyneg_any (a:=a) (c:=c) (l:=l) hl)<|.z .pkf<|.z .asB<|.nil ?_;refine .cd (fun C1=>?_) (fun C1=>?_)
 ·
  refine .seq<|.r<|.z .asI<|.nil ?_;refine .ret ⟨.int .i64 1,Res.one rfl rfl,⟨by rw [wrong1 (by first | exact .inl (by omega) | exact .inr (.inl (by omega)) | exact .inr (.inr C1))];rfl,rfl⟩⟩
 refine .seq<|.r<|.z .mvP<|.z .nil<|.z (.fa T.fd105_1)<|.z (.ldx T.ag4 hd)<|.z .asB<|.nil ?_;refine .cond (fun C2=>?_) (fun C2=>?_)
 ·
  refine .seq<|.r<|.z .asI<|.nil ?_;refine .ret ⟨.int .i64 13,Res.one rfl rfl,⟨by rw [wrong13 (by rintro (h1 | h1 | h1);(omega);(omega);exact absurd h1 C1) (by show r.dark=true;exact C2)];rfl,rfl⟩⟩
 refine .skip<|.end<|hK0 _ _<|.seq<|.r<|.z .asI<|.nil ?_;refine .ret ⟨.int .i64 0,Res.one rfl rfl,⟨by rw [wrong0 (by rintro (h1 | h1 | h1);(omega);(omega);exact absurd h1 C1) (by show ¬r.dark=true;rw [C2];decide)];rfl,rfl⟩⟩
end Go.Proofs.YtpeaicddbnghfaaGreat
