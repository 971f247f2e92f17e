/- Sums of bytes: sum.table, Sum, Next, foot, Seal, and the document's. Conditions: the slices are readable. Logs in plain terms: heads, frames, links, and how a log is scanned. Conditions: those that each fact names. Seals: sum.foot, Seal, and the document's Seal. Conditions: the slices are readable. A number from 256 to 4096 has no bit in common with its predecessor just if it is one of five. Conditions: none. Logs: Same, sizes, frames, heads, links and what is put, of the program and of the document. Conditions: the slices are readable, numbers in their ranges. The reader of a log: number, head. Conditions: the bytes are readable and no part of the reader. Heads of files: Check, bytes, Encode, Decode, of the program and of the document. Conditions: numbers in their ranges. Several items as one; what a call may turn alone, taken from and put back into what the caller has. Conditions: those that each fact names. The disk's files in plain terms, as the program has them. Conditions: those that each fact names. Copies of bytes and of slices; the reader of a log: frame. Conditions: the bytes are readable and no part of the reader. The program's Scan of a log. Conditions: the bytes are readable, at most 100000. The latest frames in plain terms: a map from pages, and a sorted row. Conditions: those that each fact names. Rows of frames that are read; the document's Same, and few. Conditions: the rows are readable. The contracts of maps.Keys, slices.Sorted and slices.Sort, laid at this program by the kit. Conditions: none. maps.Keys and slices.Sorted over a map of frames: its keys, sorted. Conditions: the keys are ints of 64 bits. Opening and carrying over, as the pager that logs ahead does them, on a disk in plain terms. Conditions: those that each fact names. The store in plain terms: the document's states, and a map of pages laid over others. Conditions: those that each fact names. The disk in memory: its box, its map, its files' boxes and changes as one item that turns; all bytes as one that is read. Conditions: those that each fact names. The disk's changes: long, done, kept, what is wrong with a call. Conditions: the bytes are readable, few. What is wrong with a call to a disk. Conditions: the disk's box is known, the numbers are readable. A disk's power, what is there, a change that is done, what is made safe. Conditions: the disk is in order, its changes few. -/
import Derived.Test.YtndlpekckpdncaaGreatPkN2
import Derived.Shelf.SlIterI.Nil
import Derived.Shelf.SortM.Plain
import Derived.Shelf.SortM.SortNone
import Derived.Ground.GgzProg
import Derived.Ground.SlgmProg
import Derived.Test.YtndlpekckpdncaaGreatProg
set_option maxRecDepth 100000
set_option maxHeartbeats 2000000
set_option linter.all false
namespace Go.Proofs.YtndlpekckpdncaaGreat
open Go Go.HL
def bitN (c:Nat):Nat:=if c%2=1 then c / 2 ^^^ 2197175160 else c / 2
def stN:Nat→Nat→Nat
 | 0,c=>c
 | k+1,c=>bitN (stN k c)
def crcN (c:Nat) (l:List UInt8):Nat:=l.foldl (fun c x=>stN 8 (c ^^^ x.toNat)) c
@[irreducible] def sumN (l:List UInt8):Nat:=4294967295-crcN 4294967295 l
theorem sumN_def (l:List UInt8):sumN l=4294967295-crcN 4294967295 l:=by unfold sumN;rfl
theorem bitN_lt {c:Nat} (h:c<4294967296):bitN c<4294967296:=by
 unfold bitN;split
 ·exact Nat.xor_lt_two_pow (n:=32) (by omega) (by omega)
 ·omega
theorem stN_lt {c:Nat} (h:c<4294967296):∀k,stN k c<4294967296
 | 0=>h
 | k+1=>bitN_lt (stN_lt h k)
theorem byte32 {c:Nat} (h:c<4294967296) (x:UInt8):c ^^^ x.toNat<4294967296:=Nat.xor_lt_two_pow (n:=32) h (Nat.lt_trans x.toNat_lt (by decide))
theorem crcN_lt:∀ {c:Nat} (_:c<4294967296) (l:List UInt8),crcN c l<4294967296
 | _,h,[]=>h
 | c,h,x::l=>crcN_lt (c:=stN 8 (c ^^^ x.toNat)) (stN_lt (byte32 h x) 8) l
theorem crcN_snoc (c:Nat) (l:List UInt8) (x:UInt8):crcN c (l++[x])=stN 8 (crcN c l ^^^ x.toNat):=by simp [crcN]
theorem bitN_xor (a b:Nat):bitN (a ^^^ b)=bitN a ^^^ bitN b:=by
 have h:=@Nat.xor_mod_two_eq_one a b;unfold bitN;rw [Nat.xor_div_two];by_cases ha:a%2=1<;>by_cases hb:b%2=1
 ·rw [if_neg (by rw [h];simp [ha,hb]),if_pos ha,if_pos hb,Nat.xor_assoc,Nat.xor_comm 2197175160,Nat.xor_assoc (b / 2),Nat.xor_self,Nat.xor_zero]
 ·rw [if_pos (by rw [h];simp [ha,hb]),if_pos ha,if_neg hb,Nat.xor_assoc,Nat.xor_assoc,Nat.xor_comm (b / 2)]
 ·rw [if_pos (by rw [h];simp [ha,hb]),if_neg ha,if_pos hb,Nat.xor_assoc]
 ·rw [if_neg (by rw [h];simp [ha,hb]),if_neg ha,if_neg hb]
theorem stN_xor (a b:Nat):∀k,stN k (a ^^^ b)=stN k a ^^^ stN k b
 | 0=>rfl
 | k+1=>by unfold stN;rw [stN_xor a b k,bitN_xor]
theorem stN_add (a c:Nat):∀b,stN (a+b) c=stN b (stN a c)
 | 0=>rfl
 | b+1=>by show bitN (stN (a+b) c)=bitN (stN b (stN a c));rw [stN_add a c b]
theorem bitN_even (q:Nat):bitN (2*q)=q:=by unfold bitN;rw [if_neg (by omega)];omega
theorem split16 (c:Nat):c=(c / 16*16) ^^^ (c%16):=by
 apply Nat.eq_of_testBit_eq;intro i;rw [Nat.testBit_xor];have h2:(c / 16*16).testBit i=(decide (4≤i) && (c / 16).testBit (i-4)):=by
  have:c / 16*16=(c / 16) <<< 4:=by rw [Nat.shiftLeft_eq]
  rw [this,Nat.testBit_shiftLeft]
 have h3:(c%16).testBit i=(decide (i<4) && c.testBit i):=by
  have:c%16=c%2 ^ 4:=by rfl
  rw [this,Nat.testBit_mod_two_pow]
 have h4:(c / 16).testBit (i-4)=c.testBit (4+(i-4)):=by
  have:c / 16=c >>> 4:=by rw [Nat.shiftRight_eq_div_pow]
  rw [this,Nat.testBit_shiftRight]
 rw [h2,h3,h4];by_cases hi:4≤i
 ·rw [show 4+(i-4)=i by omega];simp [hi,Nat.not_lt.2 hi]
 ·simp [hi,Nat.not_le.1 hi]
theorem stN_four (c:Nat):stN 4 c=c / 16 ^^^ stN 4 (c%16):=by
 have h:stN 4 (c / 16*16)=c / 16:=by
  show bitN (bitN (bitN (bitN (c / 16*16))))=_;rw [show c / 16*16=2*(2*(2*(2*(c / 16)))) by omega,bitN_even,bitN_even,bitN_even,bitN_even]
 conv=>lhs;rw [split16 c,stN_xor,h]
theorem and15 (c:Nat):c &&& 15=c%16:=Nat.and_two_pow_sub_one_eq_mod c 4
def tabN:List Nat:=(List.range 16).map (stN 4)
theorem tabN_at {i:Nat} (h:i<16):tabN[i]? = some (stN 4 i):=by unfold tabN;simp [h]
@[reducible] def w32 (n:Nat):Value:=.int .u32 ((n:Nat):Int)
theorem four_step {c:Nat} {q r:Nat} (hq:q=c / 2 ^ 4) (hr:r=stN 4 (c &&& 15)):q ^^^ r=stN 4 c:=by subst hq hr;rw [and15,←stN_four]
def sealN (l:List UInt8):List UInt8:=l++[UInt8.ofNat (sumN l),UInt8.ofNat (sumN l / 2 ^ 8),UInt8.ofNat (sumN l / 2 ^ 16),UInt8.ofNat (sumN l / 2 ^ 24)]
theorem table_any {h:Heap} :
  HC Tryz.prog 202 #[] h (fun v h'=>v=.agg (tabN.map w32).toArray∧Ext h h'):=by
 have ok:=Hp.nil h none_;refine HC.go Tryz.func202 26 ?_;refine .seq<|.r<|.a' 0 (.alA T.zr271 ok) ?_;rintro _ η1 ⟨pb1,rfl,ok,xe⟩;refine .nil ?_;refine .seq<|.r<|.a' 1 (.alA T.zr271 ok) ?_;rintro _ η2 ⟨pb2,rfl,ok,xe⟩;refine .nil ?_;refine .seq<|.seq<|.r<|.z .mvI<|.nil ?_;refine .block fun K0 hK0=>.loop (fun m s hh=>∃(i:Nat),Has s [(0,.pointer (some ⟨pb1,0,none⟩)),(1,.pointer (some ⟨pb2,0,none⟩)),(5,.int .i64 (i:Int))]∧Hp h none_ [boxI pb2 271 (((List.range i).map (stN 4)++List.replicate (16-i) 0).map w32),boxI pb1 271 [.int .u32 0,.int .u32 0,.int .u32 0,.int .u32 0,.int .u32 0,.int .u32 0,.int .u32 0,.int .u32 0,.int .u32 0,.int .u32 0,.int .u32 0,.int .u32 0,.int .u32 0,.int .u32 0,.int .u32 0,.int .u32 0]] [] hh∧i≤16∧m=16-i) ?_ ?_
 ·exact ⟨_,0,⟨rfl,rfl,rfl,trivial⟩,ok.n1.n1.bx (by rfl),Nat.zero_le _,rfl⟩
 rintro _ _ η3 ⟨i,hs,ok,hi,rfl⟩ J0 hJ0;refine .frame hs fun τ=>?_;refine .seq<|.r<|.z .lss<|.nil ?_;refine .seq<|.cdr (fun C0=>?_) (fun C0=>?_)
 ·
  have hi16:i=16:=by omega
  subst hi16;refine .exit<|hK0 _ _<|.seq<|.r<|.z (.ldb T.ag271 ok.m0 T.sz271)<|.ur' (.stW (vs:=tabN.map w32) T.sz271 ok.n1 (oneL rfl)) ?_;rintro η4 ⟨ok,cg⟩;refine .nil ?_;refine .ret ⟨.agg (tabN.map w32).toArray,Res.many (vs:=[.agg (tabN.map w32).toArray]) rfl ⟨⟨_,rfl,load_ag T.ag271 ok.m0 T.sz271⟩,trivial⟩ rfl,⟨rfl,ok.chg⟩⟩
 refine .skip<|.seq<|.block fun K1 hK1=>.seq<|.r<|.z .mvI<|.z .asI<|.nil ?_;refine .seq<|.r<|.z .mvI<|.z (.cvm T.in89 T.in3 (M:=4294967296) rfl rfl)<|.z .asI<|.nil ?_;refine .seq<|.seq<|.r<|.z .mvI<|.nil ?_;refine .block fun K2 hK2=>.loop (fun m s hh=>∃(k cc:Nat),Has s [(0,.pointer (some ⟨pb1,0,none⟩)),(1,.pointer (some ⟨pb2,0,none⟩)),(2,.int .i64 (i:Int)),(3,.int .u32 (cc:Int)),(5,.int .i64 (i:Int)),(10,.int .i64 (k:Int))]∧Hp h none_ [boxI pb2 271 (((List.range i).map (stN 4)++List.replicate (16-i) 0).map w32),boxI pb1 271 [.int .u32 0,.int .u32 0,.int .u32 0,.int .u32 0,.int .u32 0,.int .u32 0,.int .u32 0,.int .u32 0,.int .u32 0,.int .u32 0,.int .u32 0,.int .u32 0,.int .u32 0,.int .u32 0,.int .u32 0,.int .u32 0]] [] hh∧k≤4∧cc=stN k i∧m=4-k) ?_ ?_
 ·exact ⟨_,0,_,⟨rfl,rfl,rfl,rfl,rfl,rfl,trivial⟩,ok.n1.n1,Nat.zero_le _,Nat.mod_eq_of_lt (by omega),rfl⟩
 rintro _ _ η5 ⟨k,cc,hs,ok,hk,hcc,rfl⟩ J1 hJ1;refine .frame hs fun τ=>?_;refine .seq<|.r<|.z .lss<|.nil ?_;refine .seq<|.cdr (fun C1=>?_) (fun C1=>?_)
 ·
  have hk4:k=4:=by omega
  rw [hk4] at hcc;have hil:i<((List.range i).map (stN 4)++List.replicate (16-i) 0).length:=by simp;omega
  have hset:(((List.range i).map (stN 4)++List.replicate (16-i) 0).set i cc)=(List.range (i+1)).map (stN 4)++List.replicate (16-(i+1)) 0:=by
   rw [hcc,List.set_append_right _ _ (by simp),show 16-i=16-(i+1)+1 by omega,List.replicate_succ,List.range_succ];simp
  refine .exit<|hK2 _ _<|.r<|.z .mvI<|.z .mvI<|.z (.ixa i T.ar271 T.sz89)<|.ur' (.sa (f:=w32) cc T.sz89 ok (q:=i) hil) ?_;rintro η6 ⟨ok,cg⟩;refine .nil ?_;refine .end<|hK1 _ _<|.r<|.z .add<|.z .mvI<|.nil ?_;refine .end<|hJ0 _ _ _ ⟨i+1,⟨rfl,rfl,rfl,trivial⟩,ok.n1.n1.bx (by rw [hset]),by omega,rfl⟩ (by omega)
 have hcl:cc<4294967296:=by rw [hcc];exact stN_lt (by omega) k
 have ha1:cc &&& 1=cc%2:=Nat.and_one_is_mod cc;refine .skip<|.seq<|.block fun K3 hK3=>.seq<|.r<|.z .mvI<|.z (.band (M:=4294967296) rfl rfl (b:=1) (ha:=by omega))<|.z .asI<|.nil ?_;refine .seq<|.r<|.z .mvI<|.z (.shrn (M:=4294967296) rfl (b:=1))<|.z .asI<|.nil ?_;refine .seq<|.r<|.z .mvI<|.z .eql<|.nil ?_;refine .cd (fun C2=>?_) (fun C2=>?_)
 ·
  have hnx:cc / 2 ^ 1 ^^^ 2197175160=stN (k+1) i:=by show _=bitN (stN k i);rw [←hcc];unfold bitN;rw [if_pos (by omega)]
  refine .r<|.z .mvI<|.z (.bxor (M:=4294967296) rfl rfl (b:=2197175160))<|.z .asI<|.nil ?_;refine .end<|hK3 _ _<|.r<|.z .add<|.z .mvI<|.nil ?_;refine .end<|hJ1 _ _ _ ⟨k+1,_,⟨rfl,rfl,rfl,rfl,rfl,rfl,trivial⟩,ok.n1.n1,by omega,hnx,rfl⟩ (by omega)
 have hnx:cc / 2 ^ 1=stN (k+1) i:=by show _=bitN (stN k i);rw [←hcc];unfold bitN;rw [if_neg (by omega)]
 refine .skip<|.end<|hK3 _ _<|.r<|.z .add<|.z .mvI<|.nil ?_;refine .end<|hJ1 _ _ _ ⟨k+1,_,⟨rfl,rfl,rfl,rfl,rfl,rfl,trivial⟩,ok.n1.n1,by omega,hnx,rfl⟩ (by omega)
theorem and15_lt (c:Nat):c &&& 15<16:=by rw [and15];omega
theorem sum_any {h:Heap} {F E:Nat→Prop} {a:Option Addr} {c:Nat} {L:List (List UInt8)} (hl:RdL h F E (a,L.length,c) L) :
  HC Tryz.prog 173 #[.slice a L.length c] h (fun v h'=>v=.int .u32 ((sumN L.flatten:Nat):Int)∧Ext h h'):=by
 have hc2:=hl.m;have hc1:L.length≤c:=hl.c;simp only at hc2;have ok:=(Hp.nil h none_).arg hl;refine HC.go Tryz.func173 44 ?_;refine .seq<|.r<|.z .asI<|.nil ?_;refine .seq<|.r<|.c' 9 .func table_any ?_;rintro _ η1 ⟨rfl,hx⟩;have ok:=ok.ext hx;refine .a' 3 (.alA T.zr271 ok) ?_;rintro _ η2 ⟨pb1,rfl,ok,xe⟩;refine .ur' (.stW (vs:=tabN.map w32) T.sz271 ok (oneL rfl)) ?_;rintro η3 ⟨ok,cg⟩;refine .nil ?_;refine .seq<|.r<|.z .asI<|.nil ?_;refine .seq<|.seq<|.r<|.z .mvS<|.z (.len T.el28)<|.z .mvI<|.nil ?_;refine .block fun K0 hK0=>.loop (fun m s hh=>∃(i cc:Nat),Has s [(3,.pointer (some ⟨pb1,0,none⟩)),(4,.int .u32 (cc:Int)),(10,.slice a L.length c),(11,.int .i64 (L.length:Int)),(12,.int .i64 (i:Int))]∧Hp h none_ [boxI pb1 271 (tabN.map w32)] [rdI (fun j=>F j∧j<h.size) (fun j=>E j∧j<h.size) (a,L.length,c) L] hh∧i≤L.length∧cc=crcN 4294967295 (L.take i).flatten∧m=L.length-i) ?_ ?_
 ·exact ⟨_,0,4294967295,⟨rfl,rfl,rfl,rfl,rfl,trivial⟩,ok,Nat.zero_le _,rfl,rfl⟩
 rintro _ _ η4 ⟨i,cc,hs,ok,hi,hcc,rfl⟩ J0 hJ0;refine .frame hs fun τ=>?_;refine .seq<|.r<|.z .lss<|.nil ?_;refine .seq<|.cdr (fun C0=>?_) (fun C0=>?_)
 ·
  have hil:i=L.length:=by omega
  rw [hil,List.take_length] at hcc;have hcl:cc<4294967296:=by rw [hcc];exact crcN_lt (by decide) _
  refine .exit<|hK0 _ _<|.seq<|.r<|.z .mvI<|.z (.cpl (M:=4294967296) rfl rfl)<|.z .asI<|.nil ?_;refine .ret ⟨.int .u32 (((4294967295-cc):Nat):Int),Res.one rfl rfl,⟨by rw [hcc,sumN_def],ok.chg⟩⟩
 have hil:i<L.length:=by omega
 refine .skip<|.seq<|.block fun K1 hK1=>.seq<|.r<|?_;obtain ⟨bb1,oo1,rfl,fb1⟩:=ok.r0.pos (by omega);refine .z (.ix1 i T.el28 T.sz44)<|?_;obtain ⟨ya1,yc1,he1,hr1⟩:=ok.r0.row (i:=i) (by omega);have ok:=ok.d0 (rdI (fun j=>E j∧j<h.size) (fun j=>E j∧j<h.size) (ya1,L[i].length,yc1) (L[i])) hr1 (fun _ h=>.inr (h.elim id id));refine .z (.ld T.ag44 he1)<|.z .asS<|.nil ?_;refine .seq<|?_;have hrc:L[i].length≤_:=ok.r0.c;have hrm:=ok.r0.m;simp only at hrc hrm;refine .r<|.z .mvS<|.z (.len T.el44)<|.z .mvI<|.nil ?_;refine .block fun K2 hK2=>.loop (fun m s hh=>∃(j cc:Nat),Has s [(3,.pointer (some ⟨pb1,0,none⟩)),(4,.int .u32 (cc:Int)),(10,.slice (some ⟨bb1,oo1,none⟩) L.length c),(11,.int .i64 (L.length:Int)),(12,.int .i64 (i:Int)),(16,.slice ya1 (L[i].length) yc1),(17,.int .i64 ((L[i].length:Nat):Int)),(18,.int .i64 (j:Int))]∧Hp h none_ [boxI pb1 271 (tabN.map w32)] [rdI (fun j=>E j∧j<h.size) (fun j=>E j∧j<h.size) (ya1,L[i].length,yc1) (L[i]),rdI (fun j=>F j∧j<h.size) (fun j=>E j∧j<h.size) (some ⟨bb1,oo1,none⟩,L.length,c) L] hh∧j≤L[i].length∧cc=crcN 4294967295 ((L.take i).flatten++L[i].take j)∧m=L[i].length-j) ?_ ?_
 ·exact ⟨_,0,_,⟨rfl,rfl,rfl,rfl,rfl,rfl,rfl,rfl,trivial⟩,ok,Nat.zero_le _,by simp [hcc],rfl⟩
 rintro _ _ η5 ⟨j,cc,hs,ok,hj,hcc,rfl⟩ J1 hJ1;refine .frame hs fun τ=>?_;refine .seq<|.r<|.z .lss<|.nil ?_;refine .seq<|.cdr (fun C1=>?_) (fun C1=>?_)
 ·
  have hjl:j=L[i].length:=by omega
  rw [hjl,List.take_length,←flat_snoc hil] at hcc;refine .exit<|hK2 _ _<|.end<|hK1 _ _<|.r<|.z .add<|.z .mvI<|.nil ?_;refine .end<|hJ0 _ _ _ ⟨i+1,_,⟨rfl,rfl,rfl,rfl,rfl,trivial⟩,ok.tR,by omega,hcc,rfl⟩ (by omega)
 have hjl:j<L[i].length:=by omega
 have hcl:cc<4294967296:=by rw [hcc];exact crcN_lt (by decide) _
 have hxl:=byte_lt L[i][j];have hyl:=byte32 hcl L[i][j];have hs1:=four_step (c:=cc ^^^ L[i][j].toNat) rfl rfl;have hzl:=stN_lt hyl 4;have hs2:=four_step (c:=stN 4 (cc ^^^ L[i][j].toNat)) rfl rfl;have hw1:=stN_lt (c:=(cc ^^^ L[i][j].toNat) &&& 15) (by have:=and15_lt (cc ^^^ L[i][j].toNat);omega) 4;have hw2:=stN_lt (c:=stN 4 (cc ^^^ L[i][j].toNat) &&& 15) (by have:=and15_lt (stN 4 (cc ^^^ L[i][j].toNat));omega) 4;have hs3:stN 8 (cc ^^^ L[i][j].toNat)=stN 4 (stN 4 (cc ^^^ L[i][j].toNat)):=stN_add 4 _ 4;have hsn:crcN 4294967295 ((L.take i).flatten++L[i].take (j+1))=stN 4 (stN 4 (cc ^^^ L[i][j].toNat)):=by rw [take_next hjl,←List.append_assoc,crcN_snoc,←hcc,hs3]
 refine .skip<|.seq<|.block fun K3 hK3=>.seq<|.r<|?_;obtain ⟨bb2,oo2,rfl,fb2⟩:=ok.r0.pos (by omega);refine .z (.ix1 j T.el44 T.sz5)<|.z (.ld T.ag5 (ok.r0.u8 (i:=j) (by omega)))<|.z .asI<|.nil ?_;refine .seq<|.r<|.z .mvI<|.z .mvI<|.z (.cvs T.in89 T.in5 (M:=4294967296) rfl rfl)<|.z (.bxor (M:=4294967296) rfl rfl)<|.z .asI<|.nil ?_;refine .seq<|.r<|.z .mvI<|.z (.shrn (M:=4294967296) rfl (b:=4))<|.z .mvI<|.z (.band (M:=4294967296) rfl rfl (b:=15))<|.z (.ixa ((cc ^^^ (L[i])[j].toNat) &&& 15) T.ar271 T.sz89 (hi:=by (have:=and15_lt (cc ^^^ L[i][j].toNat);omega)))<|.z (.ldx (o:=0+((cc ^^^ (L[i])[j].toNat) &&& 15)) (v:=.int .u32 ((stN 4 ((cc ^^^ (L[i])[j].toNat) &&& 15):Nat):Int)) T.ag89 ok.m0 (hv:=by rw [Nat.zero_add,List.getElem?_map,tabN_at (and15_lt _)];rfl))<|.z (.bxor (M:=4294967296) rfl rfl (b:=(stN 4 ((cc ^^^ (L[i])[j].toNat) &&& 15))) (hb:=by exact hw1))<|?_;rw [show (((cc ^^^ (L[i])[j].toNat) / 2 ^ 4) ^^^ (stN 4 ((cc ^^^ (L[i])[j].toNat) &&& 15)))=stN 4 (cc ^^^ L[i][j].toNat) from hs1];refine .z .asI<|.nil ?_;refine .r<|.z .mvI<|.z (.shrn (M:=4294967296) rfl (b:=4))<|.z .mvI<|.z (.band (M:=4294967296) rfl rfl (b:=15))<|.z (.ixa (stN 4 (cc ^^^ L[i][j].toNat) &&& 15) T.ar271 T.sz89 (hi:=by (have:=and15_lt (stN 4 (cc ^^^ L[i][j].toNat));omega)))<|.z (.ldx (o:=0+(stN 4 (cc ^^^ L[i][j].toNat) &&& 15)) (v:=.int .u32 ((stN 4 (stN 4 (cc ^^^ L[i][j].toNat) &&& 15):Nat):Int)) T.ag89 ok.m0 (hv:=by rw [Nat.zero_add,List.getElem?_map,tabN_at (and15_lt _)];rfl))<|.z (.bxor (M:=4294967296) rfl rfl (b:=(stN 4 (stN 4 (cc ^^^ L[i][j].toNat) &&& 15))) (hb:=by exact hw2))<|?_;rw [show ((stN 4 (cc ^^^ L[i][j].toNat) / 2 ^ 4) ^^^ (stN 4 (stN 4 (cc ^^^ L[i][j].toNat) &&& 15)))=stN 4 (stN 4 (cc ^^^ L[i][j].toNat)) from hs2];refine .z .asI<|.nil ?_;refine .end<|hK3 _ _<|.r<|.z .add<|.z .mvI<|.nil ?_;refine .end<|hJ1 _ _ _ ⟨j+1,_,⟨rfl,rfl,rfl,rfl,rfl,rfl,rfl,rfl,trivial⟩,ok,by omega,hsn.symm,rfl⟩ (by omega)
structure Fr where
 page:Int
 commit:Int
 b:List UInt8
 deriving DecidableEq
def okSz (n:Nat):Bool:=n == 256 || n == 512 || n == 1024 || n == 2048 || n == 4096
theorem beN_lt4 (l:List UInt8) (h:l.length≤4):beN l<4294967296:=Nat.lt_of_lt_of_le (beN_lt l) (Nat.le_trans (pow256 h) (Nat.le_of_eq (by rfl)))
theorem rdN_lt4 (b:List UInt8) (p:Nat):rdN b p 4<4294967296:=beN_lt4 _ (by simp;omega)
theorem fixedN_succ (n k:Nat):fixedN n (k+1)=fixedN (n / 256) k++[UInt8.ofNat n]:=by
 unfold fixedN;rw [List.range_succ,List.map_append];congr 1
 ·apply List.map_congr_left;intro j hj;rw [List.mem_range] at hj;rw [Nat.div_div_eq_div_mul,←Nat.pow_succ'];congr 3;omega
 ·simp
theorem beN_fixedN:∀(k n:Nat),beN (fixedN n k)=n%256 ^ k
 | 0,n=>by simp [fixedN,beN,Nat.mod_one]
 | k+1,n=>by
  rw [fixedN_succ,beN_snoc,beN_fixedN k,Nat.pow_succ',Nat.mod_mul];simp;omega
theorem beN_fixed {k n:Nat} (h:n<256 ^ k):beN (fixedN n k)=n:=by rw [beN_fixedN,Nat.mod_eq_of_lt h]
theorem sealN_len (l:List UInt8):(sealN l).length=l.length+4:=by simp [sealN]
theorem rdN_app {x y z:List UInt8} {k:Nat} (h:y.length=k):rdN (x++(y++z)) x.length k=beN y:=by unfold rdN;rw [List.drop_left,List.take_left' h]
theorem sumN_lt (l:List UInt8):sumN l<4294967296:=by rw [sumN_def];omega
end Go.Proofs.YtndlpekckpdncaaGreat
namespace Go.Proofs.YtndlpekckpdncaaGreat
theorem and_pow:∀n,n<4097→256≤n→(n &&& (n-1)=0↔(n=256∨n=512∨n=1024∨n=2048∨n=4096)):=by decide +kernel
open Go Go.HL
def okZ (z:Int):Bool:=decide (z=256∨z=512∨z=1024∨z=2048∨z=4096)
theorem okZ_nat (n:Nat):okZ (n:Int)=okSz n:=by
 rw [Bool.eq_iff_iff];simp [okZ,okSz];omega
theorem tolist_eq (a b:List UInt8):((BA a).toList == (BA b).toList)=decide (a=b):=by rw [BA_toList,BA_toList];by_cases h:a=b<;>simp [h]
theorem equal_any {h:Heap} {F E F' E':Nat→Prop} {a b:Option Addr} {c d:Nat} {l l2:List UInt8} (hl:RdL h F E (a,l.length,c) l) (hm:RdL h F' E' (b,l2.length,d) l2) :
  HC Tryz.prog 146 #[.slice a l.length c,.slice b l2.length d] h (fun v h'=>v=.bool (decide (l=l2))∧h'=h):=by
 refine HC.go Tryz.func146 10 ?_;refine .seq<|.r<|.z .asB<|.nil ?_;refine .seq<|.r<|.z .mvS<|.z (.bts T.el44 T.in5 T.st9 (hl).by)<|.z .mvS<|.z (.bts T.el44 T.in5 T.st9 (hm).by)<|.z .tEq<|.z .asB<|.nil ?_;refine .ret ⟨.bool ((BA l).toList == (BA l2).toList),Res.one rfl rfl,⟨by rw [tolist_eq],rfl⟩⟩
structure Hd where
 size:Int
 pages:Int
 free:Int
 many:Int
 cookie:Int
 version:Int
 deriving DecidableEq
def ChkP (h:Hd):Prop:=okZ h.size=true∧(1≤h.pages∧h.pages≤1048576∧h.size*h.pages≤16777216)∧(0≤h.many∧h.many<h.pages∧(h.many=0→h.free=0)∧(0<h.many→2≤h.free∧h.free≤h.pages))∧(0≤h.cookie∧h.cookie≤2147483647)∧(0≤h.version∧h.version≤2147483647)
instance (h:Hd):Decidable (ChkP h):=by unfold ChkP;infer_instance
def chkC (h:Hd):Nat:=if ChkP h then 0 else 1
theorem chk_y {h:Hd} (p:ChkP h):chkC h=0:=if_pos p
theorem chk_n {h:Hd} (p:¬ChkP h):chkC h=1:=if_neg p
theorem chk_o {h:Hd} (p:¬(chkC h:Int)≠0):ChkP h:=by
 by_cases q:ChkP h
 ·exact q
 ·rw [chk_n q] at p;exact absurd (by decide) p
theorem okZ_cases {z:Int} (h:okZ z=true):z=256∨z=512∨z=1024∨z=2048∨z=4096:=of_decide_eq_true h
theorem hsize_any {h:Heap} {z:Int} (hz : -9223372036854775808≤z∧z≤9223372036854775807) :
  HC Tryz.prog 172 #[.int .i64 z] h (fun v h'=>v=.bool (okZ z)∧h'=h):=by
 refine HC.go Tryz.func172 16 ?_;refine .seq<|.r<|.z .asB<|.nil ?_;refine .seq<|.r<|.z .mvI<|.z .geq<|.z .mvB<|.sd (fun G5=>?_) (fun G5=>?_)
 ·
  refine .z .mvI<|.z .leq<|.z .pkt<|.z .mvB<|.sd (fun G9=>?_) (fun G9=>?_)
  ·
   obtain ⟨q,rfl⟩:∃q:Nat,z=(q:Int):=⟨z.toNat,by omega⟩;have hq:=and_pow q (by omega) (by omega);refine .z .mvI<|.z .mvI<|.z .sub<|.z (.bandI q (q-1))<|.z .eql<|.z .pkt<|.z .asB<|.nil ?_;refine .ret ⟨.bool (decide ((((q &&& (q-1)):Nat):Int)=0)),Res.one rfl rfl,⟨by first | exact congrArg _ (by unfold okZ;rw [decide_eq_decide];omega) | exact congrArg _ (by unfold okZ;exact (decide_eq_false (by omega)).symm) | exact congrArg _ (by unfold okZ;exact (decide_eq_true (by omega)).symm),rfl⟩⟩
  refine .y<|.y<|.y<|.y<|.y<|.z .pkf<|.z .asB<|.nil ?_;refine .ret ⟨.bool false,Res.one rfl rfl,⟨by first | exact congrArg _ (by unfold okZ;rw [decide_eq_decide];omega) | exact congrArg _ (by unfold okZ;exact (decide_eq_false (by omega)).symm) | exact congrArg _ (by unfold okZ;exact (decide_eq_true (by omega)).symm),rfl⟩⟩
 refine .y<|.y<|.z .pkf<|.z .mvB<|.y<|.y<|.y<|.y<|.y<|.z .pkf<|.z .asB<|.nil ?_;refine .ret ⟨.bool false,Res.one rfl rfl,⟨by first | exact congrArg _ (by unfold okZ;rw [decide_eq_decide];omega) | exact congrArg _ (by unfold okZ;exact (decide_eq_false (by omega)).symm) | exact congrArg _ (by unfold okZ;exact (decide_eq_true (by omega)).symm),rfl⟩⟩
theorem check_any {h:Heap} {z0 z1 z2 z3 z4 z5:Int} (h0 : -9223372036854775808≤z0∧z0≤9223372036854775807) (h1 : -9223372036854775808≤z1∧z1≤9223372036854775807) (h2 : -9223372036854775808≤z2∧z2≤9223372036854775807) (h3 : -9223372036854775808≤z3∧z3≤9223372036854775807) (h4 : -9223372036854775808≤z4∧z4≤9223372036854775807) (h5 : -9223372036854775808≤z5∧z5≤9223372036854775807):HC Tryz.prog 128 #[.agg #[.int .i64 z0,.int .i64 z1,.int .i64 z2,.int .i64 z3,.int .i64 z4,.int .i64 z5]] h (fun v h'=>v=.int .i64 (chkC ⟨z0,z1,z2,z3,z4,z5⟩:Int)∧Ext h h'):=by
 have ok:=Hp.nil h none_;refine HC.go Tryz.func128 80 ?_;refine .seq<|.r<|.a' 1 (.bxA (cs:=[.int .i64 z0,.int .i64 z1,.int .i64 z2,.int .i64 z3,.int .i64 z4,.int .i64 z5]) ok) ?_;rintro _ η1 ⟨pb1,rfl,ok,xe⟩;refine .z .asI<|.nil ?_;refine .seq<|.seq<|.r<|.z (.fa T.fd38_0)<|.z (.ldx T.ag3 ok.m0)<|.k 5 .func (hsize_any (z:=z0) (by omega))<|.z .not<|.z .mvB<|.spl (fun G7=>?_) (fun G7=>?_)
 ·
  refine .y<|.y<|.y<|.z .pkt<|.z .mvB<|.y<|.y<|.y<|.z .pkt<|.z .mvB<|.y<|.y<|.y<|.y<|.y<|.y<|.z .pkt<|.nil ?_;refine .ct<|.seq<|.r<|.z .asI<|.nil ?_;refine .ret ⟨.int .i64 1,Res.one rfl rfl,⟨by rw [chk_n (by rintro ⟨p1,⟨p2,p3,p4⟩,⟨p5,p6,p7,p8⟩,⟨p9,p10⟩,p11,p12⟩;simp only at p1 p2 p3 p4 p5 p6 p7 p8 p9 p10 p11 p12;first | omega | simp_all)]<;>rfl,ok.chg⟩⟩
 refine .z (.fa T.fd38_1)<|.z (.ldx T.ag3 ok.m0)<|.z .lss<|.z .pkf<|.z .mvB<|.sd (fun G12=>?_) (fun G12=>?_)
 ·
  refine .y<|.y<|.y<|.z .pkt<|.z .mvB<|.y<|.y<|.y<|.y<|.y<|.y<|.z .pkt<|.nil ?_;refine .ct<|.seq<|.r<|.z .asI<|.nil ?_;refine .ret ⟨.int .i64 1,Res.one rfl rfl,⟨by rw [chk_n (by rintro ⟨p1,⟨p2,p3,p4⟩,⟨p5,p6,p7,p8⟩,⟨p9,p10⟩,p11,p12⟩;simp only at p1 p2 p3 p4 p5 p6 p7 p8 p9 p10 p11 p12;first | omega | simp_all)]<;>rfl,ok.chg⟩⟩
 refine .z (.fa T.fd38_1)<|.z (.ldx T.ag3 ok.m0)<|.z .gtr<|.z .pkf<|.z .mvB<|.sd (fun G17=>?_) (fun G17=>?_)
 ·
  refine .y<|.y<|.y<|.y<|.y<|.y<|.z .pkt<|.nil ?_;refine .ct<|.seq<|.r<|.z .asI<|.nil ?_;refine .ret ⟨.int .i64 1,Res.one rfl rfl,⟨by rw [chk_n (by rintro ⟨p1,⟨p2,p3,p4⟩,⟨p5,p6,p7,p8⟩,⟨p9,p10⟩,p11,p12⟩;simp only at p1 p2 p3 p4 p5 p6 p7 p8 p9 p10 p11 p12;first | omega | simp_all)]<;>rfl,ok.chg⟩⟩
 have hoz:okZ z0=true:=by simpa using G7
 have hmul:z0*z1≤4096*z1∧0≤z0*z1:=by rcases okZ_cases hoz with e | e | e | e | e<;>rw [e]<;>constructor<;>omega
 refine .z (.fa T.fd38_0)<|.z (.ldx T.ag3 ok.m0)<|.z (.fa T.fd38_1)<|.z (.ldx T.ag3 ok.m0)<|.z (.mul (hr:=(by omega)))<|.z .gtr<|.z .pkf<|.nil ?_;refine .cd (fun C0=>?_) (fun C0=>?_)
 ·
  refine .seq<|.r<|.z .asI<|.nil ?_;refine .ret ⟨.int .i64 1,Res.one rfl rfl,⟨by rw [chk_n (by rintro ⟨p1,⟨p2,p3,p4⟩,⟨p5,p6,p7,p8⟩,⟨p9,p10⟩,p11,p12⟩;simp only at p1 p2 p3 p4 p5 p6 p7 p8 p9 p10 p11 p12;first | omega | simp_all)]<;>rfl,ok.chg⟩⟩
 refine .skip<|.seq<|.seq<|.r<|.z (.fa T.fd38_3)<|.z (.ldx T.ag3 ok.m0)<|.z .lss<|.z .mvB<|.sd (fun G28=>?_) (fun G28=>?_)
 ·
  refine .y<|.y<|.y<|.y<|.y<|.z .pkt<|.z .mvB<|.y<|.y<|.y<|.y<|.y<|.y<|.y<|.y<|.z .pkt<|.z .mvB<|.y<|.y<|.y<|.y<|.y<|.y<|.y<|.y<|.y<|.y<|.y<|.y<|.y<|.y<|.y<|.z .pkt<|.nil ?_;refine .ct<|.seq<|.r<|.z .asI<|.nil ?_;refine .ret ⟨.int .i64 1,Res.one rfl rfl,⟨by rw [chk_n (by rintro ⟨p1,⟨p2,p3,p4⟩,⟨p5,p6,p7,p8⟩,⟨p9,p10⟩,p11,p12⟩;simp only at p1 p2 p3 p4 p5 p6 p7 p8 p9 p10 p11 p12;first | omega | simp_all)]<;>rfl,ok.chg⟩⟩
 refine .z (.fa T.fd38_3)<|.z (.ldx T.ag3 ok.m0)<|.z (.fa T.fd38_1)<|.z (.ldx T.ag3 ok.m0)<|.z .geq<|.z .pkf<|.z .mvB<|.sd (fun G35=>?_) (fun G35=>?_)
 ·
  refine .y<|.y<|.y<|.y<|.y<|.y<|.y<|.y<|.z .pkt<|.z .mvB<|.y<|.y<|.y<|.y<|.y<|.y<|.y<|.y<|.y<|.y<|.y<|.y<|.y<|.y<|.y<|.z .pkt<|.nil ?_;refine .ct<|.seq<|.r<|.z .asI<|.nil ?_;refine .ret ⟨.int .i64 1,Res.one rfl rfl,⟨by rw [chk_n (by rintro ⟨p1,⟨p2,p3,p4⟩,⟨p5,p6,p7,p8⟩,⟨p9,p10⟩,p11,p12⟩;simp only at p1 p2 p3 p4 p5 p6 p7 p8 p9 p10 p11 p12;first | omega | simp_all)]<;>rfl,ok.chg⟩⟩
 refine .z (.fa T.fd38_3)<|.z (.ldx T.ag3 ok.m0)<|.z .eql<|.z .mvB<|.sd (fun G39=>?_) (fun G39=>?_)
 ·
  refine .z (.fa T.fd38_2)<|.z (.ldx T.ag3 ok.m0)<|.z .neq<|.z .pkt<|.z .pkf<|.z .mvB<|.sd (fun G45=>?_) (fun G45=>?_)
  ·
   refine .y<|.y<|.y<|.y<|.y<|.y<|.y<|.y<|.y<|.y<|.y<|.y<|.y<|.y<|.y<|.z .pkt<|.nil ?_;refine .ct<|.seq<|.r<|.z .asI<|.nil ?_;refine .ret ⟨.int .i64 1,Res.one rfl rfl,⟨by rw [chk_n (by rintro ⟨p1,⟨p2,p3,p4⟩,⟨p5,p6,p7,p8⟩,⟨p9,p10⟩,p11,p12⟩;simp only at p1 p2 p3 p4 p5 p6 p7 p8 p9 p10 p11 p12;first | omega | simp_all)]<;>rfl,ok.chg⟩⟩
  refine .z (.fa T.fd38_3)<|.z (.ldx T.ag3 ok.m0)<|.z .gtr<|.z .mvB<|.sd (fun G49=>?_) (fun G49=>?_)
  ·
   refine .z (.fa T.fd38_2)<|.z (.ldx T.ag3 ok.m0)<|.z .lss<|.z .mvB<|.sd (fun G53=>?_) (fun G53=>?_)
   ·
    refine .y<|.y<|.y<|.y<|.y<|.z .pkt<|.z .pkt<|.z .pkf<|.nil ?_;refine .ct<|.seq<|.r<|.z .asI<|.nil ?_;refine .ret ⟨.int .i64 1,Res.one rfl rfl,⟨by rw [chk_n (by rintro ⟨p1,⟨p2,p3,p4⟩,⟨p5,p6,p7,p8⟩,⟨p9,p10⟩,p11,p12⟩;simp only at p1 p2 p3 p4 p5 p6 p7 p8 p9 p10 p11 p12;first | omega | simp_all)]<;>rfl,ok.chg⟩⟩
   refine .z (.fa T.fd38_2)<|.z (.ldx T.ag3 ok.m0)<|.z (.fa T.fd38_1)<|.z (.ldx T.ag3 ok.m0)<|.z .gtr<|.z .pkf<|.z .pkt<|.z .pkf<|.nil ?_;refine .cd (fun C1=>?_) (fun C1=>?_)
   ·
    refine .seq<|.r<|.z .asI<|.nil ?_;refine .ret ⟨.int .i64 1,Res.one rfl rfl,⟨by rw [chk_n (by rintro ⟨p1,⟨p2,p3,p4⟩,⟨p5,p6,p7,p8⟩,⟨p9,p10⟩,p11,p12⟩;simp only at p1 p2 p3 p4 p5 p6 p7 p8 p9 p10 p11 p12;first | omega | simp_all)]<;>rfl,ok.chg⟩⟩
   refine .skip<|.seq<|.seq<|.r<|.z (.fa T.fd38_4)<|.z (.ldx T.ag3 ok.m0)<|.z .lss<|.z .mvB<|.sd (fun G65=>?_) (fun G65=>?_)
   ·
    refine .y<|.y<|.y<|.z .pkt<|.z .mvB<|.y<|.y<|.y<|.z .pkt<|.z .mvB<|.y<|.y<|.y<|.z .pkt<|.nil ?_;refine .ct<|.seq<|.r<|.z .asI<|.nil ?_;refine .ret ⟨.int .i64 1,Res.one rfl rfl,⟨by rw [chk_n (by rintro ⟨p1,⟨p2,p3,p4⟩,⟨p5,p6,p7,p8⟩,⟨p9,p10⟩,p11,p12⟩;simp only at p1 p2 p3 p4 p5 p6 p7 p8 p9 p10 p11 p12;first | omega | simp_all)]<;>rfl,ok.chg⟩⟩
   refine .z (.fa T.fd38_4)<|.z (.ldx T.ag3 ok.m0)<|.z .gtr<|.z .pkf<|.z .mvB<|.sd (fun G70=>?_) (fun G70=>?_)
   ·
    refine .y<|.y<|.y<|.z .pkt<|.z .mvB<|.y<|.y<|.y<|.z .pkt<|.nil ?_;refine .ct<|.seq<|.r<|.z .asI<|.nil ?_;refine .ret ⟨.int .i64 1,Res.one rfl rfl,⟨by rw [chk_n (by rintro ⟨p1,⟨p2,p3,p4⟩,⟨p5,p6,p7,p8⟩,⟨p9,p10⟩,p11,p12⟩;simp only at p1 p2 p3 p4 p5 p6 p7 p8 p9 p10 p11 p12;first | omega | simp_all)]<;>rfl,ok.chg⟩⟩
   refine .z (.fa T.fd38_5)<|.z (.ldx T.ag3 ok.m0)<|.z .lss<|.z .pkf<|.z .mvB<|.sd (fun G75=>?_) (fun G75=>?_)
   ·
    refine .y<|.y<|.y<|.z .pkt<|.nil ?_;refine .ct<|.seq<|.r<|.z .asI<|.nil ?_;refine .ret ⟨.int .i64 1,Res.one rfl rfl,⟨by rw [chk_n (by rintro ⟨p1,⟨p2,p3,p4⟩,⟨p5,p6,p7,p8⟩,⟨p9,p10⟩,p11,p12⟩;simp only at p1 p2 p3 p4 p5 p6 p7 p8 p9 p10 p11 p12;first | omega | simp_all)]<;>rfl,ok.chg⟩⟩
   refine .z (.fa T.fd38_5)<|.z (.ldx T.ag3 ok.m0)<|.z .gtr<|.z .pkf<|.nil ?_;refine .cd (fun C2=>?_) (fun C2=>?_)
   ·
    refine .seq<|.r<|.z .asI<|.nil ?_;refine .ret ⟨.int .i64 1,Res.one rfl rfl,⟨by rw [chk_n (by rintro ⟨p1,⟨p2,p3,p4⟩,⟨p5,p6,p7,p8⟩,⟨p9,p10⟩,p11,p12⟩;simp only at p1 p2 p3 p4 p5 p6 p7 p8 p9 p10 p11 p12;first | omega | simp_all)]<;>rfl,ok.chg⟩⟩
   refine .skip<|.seq<|.r<|.z .asI<|.nil ?_;refine .ret ⟨.int .i64 0,Res.one rfl rfl,⟨by rw [chk_y ⟨by assumption,⟨by simp only;omega,by simp only;omega,by simp only;omega⟩,⟨by simp only;omega,by simp only;omega,by simp only;omega,by simp only;omega⟩,⟨by simp only;omega,by simp only;omega⟩,by simp only;omega,by simp only;omega⟩]<;>rfl,ok.chg⟩⟩
  refine .y<|.y<|.y<|.y<|.y<|.y<|.y<|.y<|.y<|.y<|.z .pkf<|.z .pkf<|.nil ?_;refine .cf<|.skip<|.seq<|.seq<|.r<|.z (.fa T.fd38_4)<|.z (.ldx T.ag3 ok.m0)<|.z .lss<|.z .mvB<|.sd (fun G65=>?_) (fun G65=>?_)
  ·
   refine .y<|.y<|.y<|.z .pkt<|.z .mvB<|.y<|.y<|.y<|.z .pkt<|.z .mvB<|.y<|.y<|.y<|.z .pkt<|.nil ?_;refine .ct<|.seq<|.r<|.z .asI<|.nil ?_;refine .ret ⟨.int .i64 1,Res.one rfl rfl,⟨by rw [chk_n (by rintro ⟨p1,⟨p2,p3,p4⟩,⟨p5,p6,p7,p8⟩,⟨p9,p10⟩,p11,p12⟩;simp only at p1 p2 p3 p4 p5 p6 p7 p8 p9 p10 p11 p12;first | omega | simp_all)]<;>rfl,ok.chg⟩⟩
  refine .z (.fa T.fd38_4)<|.z (.ldx T.ag3 ok.m0)<|.z .gtr<|.z .pkf<|.z .mvB<|.sd (fun G70=>?_) (fun G70=>?_)
  ·
   refine .y<|.y<|.y<|.z .pkt<|.z .mvB<|.y<|.y<|.y<|.z .pkt<|.nil ?_;refine .ct<|.seq<|.r<|.z .asI<|.nil ?_;refine .ret ⟨.int .i64 1,Res.one rfl rfl,⟨by rw [chk_n (by rintro ⟨p1,⟨p2,p3,p4⟩,⟨p5,p6,p7,p8⟩,⟨p9,p10⟩,p11,p12⟩;simp only at p1 p2 p3 p4 p5 p6 p7 p8 p9 p10 p11 p12;first | omega | simp_all)]<;>rfl,ok.chg⟩⟩
  refine .z (.fa T.fd38_5)<|.z (.ldx T.ag3 ok.m0)<|.z .lss<|.z .pkf<|.z .mvB<|.sd (fun G75=>?_) (fun G75=>?_)
  ·
   refine .y<|.y<|.y<|.z .pkt<|.nil ?_;refine .ct<|.seq<|.r<|.z .asI<|.nil ?_;refine .ret ⟨.int .i64 1,Res.one rfl rfl,⟨by rw [chk_n (by rintro ⟨p1,⟨p2,p3,p4⟩,⟨p5,p6,p7,p8⟩,⟨p9,p10⟩,p11,p12⟩;simp only at p1 p2 p3 p4 p5 p6 p7 p8 p9 p10 p11 p12;first | omega | simp_all)]<;>rfl,ok.chg⟩⟩
  refine .z (.fa T.fd38_5)<|.z (.ldx T.ag3 ok.m0)<|.z .gtr<|.z .pkf<|.nil ?_;refine .cd (fun C2=>?_) (fun C2=>?_)
  ·
   refine .seq<|.r<|.z .asI<|.nil ?_;refine .ret ⟨.int .i64 1,Res.one rfl rfl,⟨by rw [chk_n (by rintro ⟨p1,⟨p2,p3,p4⟩,⟨p5,p6,p7,p8⟩,⟨p9,p10⟩,p11,p12⟩;simp only at p1 p2 p3 p4 p5 p6 p7 p8 p9 p10 p11 p12;first | omega | simp_all)]<;>rfl,ok.chg⟩⟩
  refine .skip<|.seq<|.r<|.z .asI<|.nil ?_;refine .ret ⟨.int .i64 0,Res.one rfl rfl,⟨by rw [chk_y ⟨by assumption,⟨by simp only;omega,by simp only;omega,by simp only;omega⟩,⟨by simp only;omega,by simp only;omega,by simp only;omega,by simp only;omega⟩,⟨by simp only;omega,by simp only;omega⟩,by simp only;omega,by simp only;omega⟩]<;>rfl,ok.chg⟩⟩
 refine .y<|.y<|.y<|.z .pkf<|.z .pkf<|.z .mvB<|.z (.fa T.fd38_3)<|.z (.ldx T.ag3 ok.m0)<|.z .gtr<|.z .mvB<|.sd (fun G49=>?_) (fun G49=>?_)
 ·
  refine .z (.fa T.fd38_2)<|.z (.ldx T.ag3 ok.m0)<|.z .lss<|.z .mvB<|.sd (fun G53=>?_) (fun G53=>?_)
  ·
   refine .y<|.y<|.y<|.y<|.y<|.z .pkt<|.z .pkt<|.z .pkf<|.nil ?_;refine .ct<|.seq<|.r<|.z .asI<|.nil ?_;refine .ret ⟨.int .i64 1,Res.one rfl rfl,⟨by rw [chk_n (by rintro ⟨p1,⟨p2,p3,p4⟩,⟨p5,p6,p7,p8⟩,⟨p9,p10⟩,p11,p12⟩;simp only at p1 p2 p3 p4 p5 p6 p7 p8 p9 p10 p11 p12;first | omega | simp_all)]<;>rfl,ok.chg⟩⟩
  refine .z (.fa T.fd38_2)<|.z (.ldx T.ag3 ok.m0)<|.z (.fa T.fd38_1)<|.z (.ldx T.ag3 ok.m0)<|.z .gtr<|.z .pkf<|.z .pkt<|.z .pkf<|.nil ?_;refine .cd (fun C1=>?_) (fun C1=>?_)
  ·
   refine .seq<|.r<|.z .asI<|.nil ?_;refine .ret ⟨.int .i64 1,Res.one rfl rfl,⟨by rw [chk_n (by rintro ⟨p1,⟨p2,p3,p4⟩,⟨p5,p6,p7,p8⟩,⟨p9,p10⟩,p11,p12⟩;simp only at p1 p2 p3 p4 p5 p6 p7 p8 p9 p10 p11 p12;first | omega | simp_all)]<;>rfl,ok.chg⟩⟩
  refine .skip<|.seq<|.seq<|.r<|.z (.fa T.fd38_4)<|.z (.ldx T.ag3 ok.m0)<|.z .lss<|.z .mvB<|.sd (fun G65=>?_) (fun G65=>?_)
  ·
   refine .y<|.y<|.y<|.z .pkt<|.z .mvB<|.y<|.y<|.y<|.z .pkt<|.z .mvB<|.y<|.y<|.y<|.z .pkt<|.nil ?_;refine .ct<|.seq<|.r<|.z .asI<|.nil ?_;refine .ret ⟨.int .i64 1,Res.one rfl rfl,⟨by rw [chk_n (by rintro ⟨p1,⟨p2,p3,p4⟩,⟨p5,p6,p7,p8⟩,⟨p9,p10⟩,p11,p12⟩;simp only at p1 p2 p3 p4 p5 p6 p7 p8 p9 p10 p11 p12;first | omega | simp_all)]<;>rfl,ok.chg⟩⟩
  refine .z (.fa T.fd38_4)<|.z (.ldx T.ag3 ok.m0)<|.z .gtr<|.z .pkf<|.z .mvB<|.sd (fun G70=>?_) (fun G70=>?_)
  ·
   refine .y<|.y<|.y<|.z .pkt<|.z .mvB<|.y<|.y<|.y<|.z .pkt<|.nil ?_;refine .ct<|.seq<|.r<|.z .asI<|.nil ?_;refine .ret ⟨.int .i64 1,Res.one rfl rfl,⟨by rw [chk_n (by rintro ⟨p1,⟨p2,p3,p4⟩,⟨p5,p6,p7,p8⟩,⟨p9,p10⟩,p11,p12⟩;simp only at p1 p2 p3 p4 p5 p6 p7 p8 p9 p10 p11 p12;first | omega | simp_all)]<;>rfl,ok.chg⟩⟩
  refine .z (.fa T.fd38_5)<|.z (.ldx T.ag3 ok.m0)<|.z .lss<|.z .pkf<|.z .mvB<|.sd (fun G75=>?_) (fun G75=>?_)
  ·
   refine .y<|.y<|.y<|.z .pkt<|.nil ?_;refine .ct<|.seq<|.r<|.z .asI<|.nil ?_;refine .ret ⟨.int .i64 1,Res.one rfl rfl,⟨by rw [chk_n (by rintro ⟨p1,⟨p2,p3,p4⟩,⟨p5,p6,p7,p8⟩,⟨p9,p10⟩,p11,p12⟩;simp only at p1 p2 p3 p4 p5 p6 p7 p8 p9 p10 p11 p12;first | omega | simp_all)]<;>rfl,ok.chg⟩⟩
  refine .z (.fa T.fd38_5)<|.z (.ldx T.ag3 ok.m0)<|.z .gtr<|.z .pkf<|.nil ?_;refine .cd (fun C2=>?_) (fun C2=>?_)
  ·
   refine .seq<|.r<|.z .asI<|.nil ?_;refine .ret ⟨.int .i64 1,Res.one rfl rfl,⟨by rw [chk_n (by rintro ⟨p1,⟨p2,p3,p4⟩,⟨p5,p6,p7,p8⟩,⟨p9,p10⟩,p11,p12⟩;simp only at p1 p2 p3 p4 p5 p6 p7 p8 p9 p10 p11 p12;first | omega | simp_all)]<;>rfl,ok.chg⟩⟩
  refine .skip<|.seq<|.r<|.z .asI<|.nil ?_;refine .ret ⟨.int .i64 0,Res.one rfl rfl,⟨by rw [chk_y ⟨by assumption,⟨by simp only;omega,by simp only;omega,by simp only;omega⟩,⟨by simp only;omega,by simp only;omega,by simp only;omega,by simp only;omega⟩,⟨by simp only;omega,by simp only;omega⟩,by simp only;omega,by simp only;omega⟩]<;>rfl,ok.chg⟩⟩
 refine .y<|.y<|.y<|.y<|.y<|.y<|.y<|.y<|.y<|.y<|.z .pkf<|.z .pkf<|.nil ?_;refine .cf<|.skip<|.seq<|.seq<|.r<|.z (.fa T.fd38_4)<|.z (.ldx T.ag3 ok.m0)<|.z .lss<|.z .mvB<|.sd (fun G65=>?_) (fun G65=>?_)
 ·
  refine .y<|.y<|.y<|.z .pkt<|.z .mvB<|.y<|.y<|.y<|.z .pkt<|.z .mvB<|.y<|.y<|.y<|.z .pkt<|.nil ?_;refine .ct<|.seq<|.r<|.z .asI<|.nil ?_;refine .ret ⟨.int .i64 1,Res.one rfl rfl,⟨by rw [chk_n (by rintro ⟨p1,⟨p2,p3,p4⟩,⟨p5,p6,p7,p8⟩,⟨p9,p10⟩,p11,p12⟩;simp only at p1 p2 p3 p4 p5 p6 p7 p8 p9 p10 p11 p12;first | omega | simp_all)]<;>rfl,ok.chg⟩⟩
 refine .z (.fa T.fd38_4)<|.z (.ldx T.ag3 ok.m0)<|.z .gtr<|.z .pkf<|.z .mvB<|.sd (fun G70=>?_) (fun G70=>?_)
 ·
  refine .y<|.y<|.y<|.z .pkt<|.z .mvB<|.y<|.y<|.y<|.z .pkt<|.nil ?_;refine .ct<|.seq<|.r<|.z .asI<|.nil ?_;refine .ret ⟨.int .i64 1,Res.one rfl rfl,⟨by rw [chk_n (by rintro ⟨p1,⟨p2,p3,p4⟩,⟨p5,p6,p7,p8⟩,⟨p9,p10⟩,p11,p12⟩;simp only at p1 p2 p3 p4 p5 p6 p7 p8 p9 p10 p11 p12;first | omega | simp_all)]<;>rfl,ok.chg⟩⟩
 refine .z (.fa T.fd38_5)<|.z (.ldx T.ag3 ok.m0)<|.z .lss<|.z .pkf<|.z .mvB<|.sd (fun G75=>?_) (fun G75=>?_)
 ·
  refine .y<|.y<|.y<|.z .pkt<|.nil ?_;refine .ct<|.seq<|.r<|.z .asI<|.nil ?_;refine .ret ⟨.int .i64 1,Res.one rfl rfl,⟨by rw [chk_n (by rintro ⟨p1,⟨p2,p3,p4⟩,⟨p5,p6,p7,p8⟩,⟨p9,p10⟩,p11,p12⟩;simp only at p1 p2 p3 p4 p5 p6 p7 p8 p9 p10 p11 p12;first | omega | simp_all)]<;>rfl,ok.chg⟩⟩
 refine .z (.fa T.fd38_5)<|.z (.ldx T.ag3 ok.m0)<|.z .gtr<|.z .pkf<|.nil ?_;refine .cd (fun C2=>?_) (fun C2=>?_)
 ·
  refine .seq<|.r<|.z .asI<|.nil ?_;refine .ret ⟨.int .i64 1,Res.one rfl rfl,⟨by rw [chk_n (by rintro ⟨p1,⟨p2,p3,p4⟩,⟨p5,p6,p7,p8⟩,⟨p9,p10⟩,p11,p12⟩;simp only at p1 p2 p3 p4 p5 p6 p7 p8 p9 p10 p11 p12;first | omega | simp_all)]<;>rfl,ok.chg⟩⟩
 refine .skip<|.seq<|.r<|.z .asI<|.nil ?_;refine .ret ⟨.int .i64 0,Res.one rfl rfl,⟨by rw [chk_y ⟨by assumption,⟨by simp only;omega,by simp only;omega,by simp only;omega⟩,⟨by simp only;omega,by simp only;omega,by simp only;omega,by simp only;omega⟩,⟨by simp only;omega,by simp only;omega⟩,by simp only;omega,by simp only;omega⟩]<;>rfl,ok.chg⟩⟩
@[reducible] def signL:List UInt8:=[116,111,109,101,32,102,105,108,101,32,49,0,0,0,0,0]
def hdF (N:List Nat):List UInt8:=(N.map fun n=>fixedN n 4).flatten
theorem hdF_take {N:List Nat} {i:Nat} (h:i<N.length):hdF (N.take (i+1))=hdF (N.take i)++fixedN N[i] 4:=by
 unfold hdF;rw [List.take_succ_eq_append_getElem h,List.map_append,List.flatten_append];simp
def hdT (N:List Nat):List UInt8:=signL++hdF N++List.replicate 20 0
def hdB (N:List Nat):List UInt8:=hdT N++fixedN (sumN (hdT N)) 4
theorem hbytes_any {h:Heap} {n0 n1 n2 n3 n4 n5:Nat} (h0:n0<4294967296) (h1:n1<4294967296) (h2:n2<4294967296) (h3:n3<4294967296) (h4:n4<4294967296) (h5:n5<4294967296):HC Tryz.prog 129 #[.agg #[.int .i64 (n0:Int),.int .i64 (n1:Int),.int .i64 (n2:Int),.int .i64 (n3:Int),.int .i64 (n4:Int),.int .i64 (n5:Int)]] h (fun v h'=>Own h h' 1 5 v ((hdB [n0,n1,n2,n3,n4,n5]).map bv)):=by
 have ok:=Hp.nil h none_;refine HC.go Tryz.func129 44 ?_;refine .seq<|.r<|.a' 1 (.bxA (cs:=[.int .i64 (n0:Int),.int .i64 (n1:Int),.int .i64 (n2:Int),.int .i64 (n3:Int),.int .i64 (n4:Int),.int .i64 (n5:Int)]) ok) ?_;rintro _ η1 ⟨pb1,rfl,ok,xe⟩;refine .z .asS<|.nil ?_;refine .seq<|.r<|.a' 6 (.lit [.const (.int .u8 116),.const (.int .u8 111),.const (.int .u8 109),.const (.int .u8 101),.const (.int .u8 32),.const (.int .u8 102),.const (.int .u8 105),.const (.int .u8 108),.const (.int .u8 101),.const (.int .u8 32),.const (.int .u8 49),.const (.int .u8 0),.const (.int .u8 0),.const (.int .u8 0),.const (.int .u8 0),.const (.int .u8 0)] (cs:=[.int .u8 116,.int .u8 111,.int .u8 109,.int .u8 101,.int .u8 32,.int .u8 102,.int .u8 105,.int .u8 108,.int .u8 101,.int .u8 32,.int .u8 49,.int .u8 0,.int .u8 0,.int .u8 0,.int .u8 0,.int .u8 0]) T.el44 T.sz5 T.zr5 ok ⟨rfl,rfl,rfl,rfl,rfl,rfl,rfl,rfl,rfl,rfl,rfl,rfl,rfl,rfl,rfl,rfl,trivial⟩) ?_;rintro _ η2 ⟨pb2,rfl,ok,xe⟩;have ok:=ok.cx (ys:=([116,111,109,101,32,102,105,108,101,32,49,0,0,0,0,0]:List UInt8).map bv) rfl;refine .a' 7 (.cvL T.el44 T.in5 ok) ?_;rintro _ η3 ⟨rfl,ok,cg⟩;refine .z .asS<|.nil ?_;refine .seq<|.seq<|.r<|.z (.fa T.fd38_0)<|.z (.ldx T.ag3 ok.m1)<|.z (.fa T.fd38_1)<|.z (.ldx T.ag3 ok.m1)<|.z (.fa T.fd38_2)<|.z (.ldx T.ag3 ok.m1)<|.z (.fa T.fd38_3)<|.z (.ldx T.ag3 ok.m1)<|.z (.fa T.fd38_4)<|.z (.ldx T.ag3 ok.m1)<|.z (.fa T.fd38_5)<|.z (.ldx T.ag3 ok.m1)<|.a' 20 (.lit [.tmp 9,.tmp 11,.tmp 13,.tmp 15,.tmp 17,.tmp 19] (cs:=[.int .i64 (n0:Int),.int .i64 (n1:Int),.int .i64 (n2:Int),.int .i64 (n3:Int),.int .i64 (n4:Int),.int .i64 (n5:Int)]) T.el24 T.sz3 T.zr3 ok ⟨rfl,rfl,rfl,rfl,rfl,rfl,trivial⟩) ?_;rintro _ η4 ⟨pb3,rfl,ok,xe⟩;obtain ⟨N,hN⟩:∃N:List Nat,N=[n0,n1,n2,n3,n4,n5]:=⟨_,rfl⟩;have hNl:N.length=6:=by rw [hN];rfl
 have hNb:∀j (hj:j<N.length),N[j]<4294967296:=by subst hN;intro j hj;match j,hj with | 0,_=>exact h0 | 1,_=>exact h1 | 2,_=>exact h2 | 3,_=>exact h3 | 4,_=>exact h4 | 5,_=>exact h5
 have hML:(N.map Int.ofNat).length=6:=by rw [List.length_map,hNl]
 have ok:=(ok.cx (ys:=(N.map Int.ofNat).map iv) (by rw [hN];rfl)).frzI rfl;refine .z (.len T.el24)<|.z .mvI<|.nil ?_;refine .block fun K0 hK0=>.loop (fun m s hh=>∃(i:Nat) (bs:List UInt8) (a3:Option Addr) (c3:Nat),Has s [(3,.slice a3 bs.length c3),(20,.slice (some ⟨pb3,0,none⟩) 6 6),(21,.int .i64 6),(22,.int .i64 (i:Int))]∧Hp h none_ [capI 1 5 (a3,bs.length,c3) (bs.map bv)] [rdI (blkC (sv (some ⟨pb3,0,none⟩,6,6))) none_ (some ⟨pb3,0,none⟩,6,6) (N.map Int.ofNat)] hh∧i≤6∧bs=signL++hdF (N.take i)∧bs.length=16+4*i∧m=6-i) ?_ ?_
 ·exact ⟨_,0,signL,(some ⟨pb2,0,none⟩),16,⟨rfl,rfl,rfl,rfl,trivial⟩,(ok).k1,Nat.zero_le _,rfl,rfl,rfl⟩
 rintro _ _ η5 ⟨i,bs,a3,c3,hs,ok,hi,hbs,hbl,rfl⟩ J0 hJ0;refine .frame hs fun τ=>?_;refine .seq<|.r<|.z .lss<|.nil ?_;refine .seq<|.cdr (fun C0=>?_) (fun C0=>?_)
 ·
  obtain rfl:i=6:=by omega
  rw [show N.take 6=N from by rw [←hNl,List.take_length]] at hbs;refine .exit<|hK0 _ _<|.seq<|.r<|.z .mvS<|.z .mvS<|.z (.len T.el44)<|.z .sub<|.a' 36 (.apz (z:=(60-(bs.length:Int))) 20 T.el44 T.in3 T.sz5 T.by5 T.zr5 ok (by omega) (by omega)) ?_;rintro _ η6 ⟨ya1,yc1,rfl,ok⟩;refine .z .asS<|.nil ?_;refine .seq<|.r<|.z .mvS<|.z .mvS<|.a' 39 (.lit [.tmp 38] (cs:=[.slice ya1 ((bs++List.replicate 20 0).length) yc1]) T.el28 T.sz44 T.zr44 ok ⟨rfl,trivial⟩) ?_;rintro _ η7 ⟨pb4,rfl,ok,xe⟩;refine .c' 40 .func (sum_any (a:=some ⟨pb4,0,none⟩) (c:=1) (L:=[(bs++List.replicate 20 0)]) (RdL.rows (v:=(some ⟨pb4,0,none⟩,1,1)) (xs:=[(ya1,(bs++List.replicate 20 0).length,yc1)]) (ls:=[(bs++List.replicate 20 0)]) ok.m0 ⟨⟨_,_,(RdL.ofCapB (v:=(ya1,(bs++List.replicate 20 0).length,yc1)) (l:=(bs++List.replicate 20 0)) ok.m1)⟩,trivial⟩)) ?_;rintro _ η8 ⟨rfl,hx⟩;have ok:=ok.ext hx;refine .z (.cvs T.in130 T.in89 (M:=18446744073709551616) rfl rfl (a:=(sumN ([(bs++List.replicate 20 0)]).flatten)) (ha:=by exact Nat.lt_of_lt_of_le (sumN_lt _) (by decide)))<|.c' 42 .func (fixed_any (n:=(sumN ([(bs++List.replicate 20 0)]).flatten)) (size:=4) (by first | omega | exact Nat.lt_of_lt_of_le (sumN_lt _) (by decide)) (by omega) (by omega)) ?_;rintro _ η9 own;obtain ⟨ya2,yc2,rfl⟩:=own.formB;have ok:=ok.own own;refine .a' 43 (.app (news:=(fixedN (sumN ([(bs++List.replicate 20 0)]).flatten) 4).map bv) T.el44 T.sz5 T.by5 T.zr5 ok.n2 (ok.n2.m1).sl bv_all (by simp only [List.length_map,List.length_append,List.length_take,List.length_cons,List.length_nil,List.length_replicate,List.length_range,fixedN_len,sealN_len];omega)) ?_;rintro _ η10 ⟨ya3,yn2,yc3,rfl,ok,ap⟩;have ok:=ok.cx (ys:=((bs++List.replicate 20 0)++(fixedN (sumN ([(bs++List.replicate 20 0)]).flatten) 4)).map bv) (by simp [bv]);obtain rfl:yn2=((bs++List.replicate 20 0)++(fixedN (sumN ([(bs++List.replicate 20 0)]).flatten) 4)).length:=ok.lenB;refine .z .asS<|.nil ?_;refine .ret ⟨.slice ya3 (((bs++List.replicate 20 0)++(fixedN (sumN ([(bs++List.replicate 20 0)]).flatten) 4)).length) yc3,Res.one rfl rfl,(by rw [show hdB [n0,n1,n2,n3,n4,n5]=(bs++List.replicate 20 0)++(fixedN (sumN ([(bs++List.replicate 20 0)]).flatten) 4) from by rw [←hN];unfold hdB hdT;rw [←hbs];simp];exact (ok).toOwn)⟩
 have hi6:i<6:=by omega
 refine .skip<|.seq<|.block fun K1 hK1=>.seq<|.r<|.z (.ix1 i T.el24 T.sz3)<|.z (.ld T.ag3 (ok.r0.i64 (i:=i) (by omega)))<|?_;have hiN:i<N.length:=by omega
 have hNi:=hNb i hiN;rw [show (N.map Int.ofNat)[i]=((N[i]:Nat):Int) from List.getElem_map _];refine .z .asI<|.nil ?_;refine .r<|.z .mvS<|.z .mvI<|.z (.cvs T.in130 T.in3 (M:=18446744073709551616) rfl rfl)<|.c' 29 .func (fixed_any (n:=N[i]) (size:=4) (by first | omega | exact Nat.lt_of_lt_of_le (sumN_lt _) (by decide)) (by omega) (by omega)) ?_;rintro _ η11 own;obtain ⟨ya4,yc4,rfl⟩:=own.formB;have ok:=ok.own own;refine .a' 30 (.app (news:=(fixedN (N[i]) 4).map bv) T.el44 T.sz5 T.by5 T.zr5 ok.n1 (ok.n1.m1).sl bv_all (by simp only [List.length_map,List.length_append,List.length_take,List.length_cons,List.length_nil,List.length_replicate,List.length_range,fixedN_len,sealN_len];omega)) ?_;rintro _ η12 ⟨ya5,yn4,yc5,rfl,ok,ap⟩;have ok:=ok.cx (ys:=(bs++(fixedN (N[i]) 4)).map bv) (by simp [bv]);obtain rfl:yn4=(bs++(fixedN (N[i]) 4)).length:=ok.lenB;refine .z .asS<|.nil ?_;refine .end<|hK1 _ _<|.r<|.z (.addI (b:=1))<|.z .mvI<|.nil ?_;refine .end<|hJ0 _ _ _ ⟨i+1,bs++fixedN N[i] 4,ya5,yc5,⟨rfl,rfl,rfl,rfl,trivial⟩,(ok).k1,by omega,by rw [hdF_take hiN,hbs,List.append_assoc],by rw [List.length_append,fixedN_len,hbl];omega,rfl⟩ (by omega)
def hdAt (l:List UInt8) (k:Nat):Nat:=rdN l (16+4*k) 4
theorem hdAt_lt (l:List UInt8) (k:Nat):hdAt l k<4294967296:=rdN_lt4 _ _
def hd0:Hd:=⟨0,0,0,0,0,0⟩
def decH (l:List UInt8):Hd:=⟨hdAt l 0,hdAt l 1,hdAt l 2,hdAt l 3,hdAt l 4,hdAt l 5⟩
def decY (l:List UInt8):Prop:=ChkP (decH l)∧hdB [hdAt l 0,hdAt l 1,hdAt l 2,hdAt l 3,hdAt l 4,hdAt l 5]=l.take 64
instance (l:List UInt8):Decidable (decY l):=by unfold decY;infer_instance
def decN (l:List UInt8):Hd × Nat:=if l.length<64 then (hd0,6) else if l.take 16≠signL then (hd0,8) else if decY l then (decH l,0) else (hd0,14)
theorem dec6 {l:List UInt8} (h:l.length<64):decN l=(hd0,6):=if_pos h
theorem dec8 {l:List UInt8} (h:¬l.length<64) (h2:l.take 16≠signL):decN l=(hd0,8):=by unfold decN;rw [if_neg h,if_pos h2]
theorem dec14 {l:List UInt8} (h:¬l.length<64) (h2:l.take 16=signL) (h3:¬decY l):decN l=(hd0,14):=by unfold decN;rw [if_neg h,if_neg (not_not_intro h2),if_neg h3]
theorem dec0 {l:List UInt8} (h:¬l.length<64) (h2:l.take 16=signL) (h3:decY l):decN l=(decH l,0):=by unfold decN;rw [if_neg h,if_neg (not_not_intro h2),if_pos h3]
def Hd.val (h:Hd):Value:=.agg #[.int .i64 h.size,.int .i64 h.pages,.int .i64 h.free,.int .i64 h.many,.int .i64 h.cookie,.int .i64 h.version]
theorem dfield_any {h:Heap} {F E:Nat→Prop} {a:Option Addr} {c b:Nat} {l:List UInt8} (hl:RdL h F E (a,l.length,c) l) (hb:(boxI b 44 [.slice a l.length c]).p h) {i:Nat} (hi:20+4*i≤l.length) :
  HC Tryz.prog 126 #[.int .i64 (i:Int),.pointer (some ⟨b,0,none⟩)] h (fun v h'=>v=.int .i64 ((hdAt l i:Nat):Int)∧h'=h):=by
 have hc2:=hl.m;have hc1:l.length≤c:=hl.c;simp only at hc2;have hrd:=rdN_lt4 l (16+(4*i));refine HC.go Tryz.func126 16 ?_;refine .seq<|.r<|.z .asI<|.nil ?_;refine .seq<|.r<|.z (.ldx T.ag44 hb)<|.z .mvI<|.z (.mulI (a:=4))<|.z (.addI (a:=16))<|.k 11 .func (read_any (p:=(16+(4*i))) (size:=4) (a:=a) (c:=c) (l:=l) hl (by omega) (by omega) (by omega))<|.z .mvU<|.z .ex<|.z .ex<|.z .asI<|.z .asI<|.nil ?_;refine .seq<|.r<|.z .mvI<|.z (.cvi T.in3 T.in130)<|.z .asI<|.nil ?_;refine .ret ⟨.int .i64 (((rdN l (16+(4*i)) 4):Nat):Int),Res.one rfl rfl,⟨by unfold hdAt;rfl,rfl⟩⟩
theorem dec_any {h:Heap} {F E:Nat→Prop} {a:Option Addr} {c:Nat} {l:List UInt8} (hl:RdL h F E (a,l.length,c) l) :
  HC Tryz.prog 72 #[.slice a l.length c] h (fun v h'=>v=.tuple #[(decN l).1.val,.int .i64 ((decN l).2:Int)]∧Ext h h'):=by
 have hc2:=hl.m;have hc1:l.length≤c:=hl.c;simp only at hc2;have ok:=(Hp.nil h none_).arg hl;have hf0:=hdAt_lt l 0;have hf1:=hdAt_lt l 1;have hf2:=hdAt_lt l 2;have hf3:=hdAt_lt l 3;have hf4:=hdAt_lt l 4;have hf5:=hdAt_lt l 5;refine HC.go Tryz.func72 48 ?_;refine .seq<|.r<|.a' 1 (.bxS ok) ?_;rintro _ η1 ⟨pb1,rfl,ok,xe⟩;refine .a' 2 (.alA T.zr38 ok) ?_;rintro _ η2 ⟨pb2,rfl,ok,xe⟩;refine .z .asI<|.nil ?_;refine .seq<|.seq<|.r<|.z (.ldx T.ag44 ok.m1)<|.z (.len T.el44)<|.z .lss<|.nil ?_;refine .cd (fun C0=>?_) (fun C0=>?_)
 ·
  refine .seq<|.r<|.z (.bd #[.int .i64 0,.int .i64 0,.int .i64 0,.int .i64 0,.int .i64 0,.int .i64 0] T.zr38 T.pl38 (by kernel_rfl))<|.ur' (.stW (vs:=[.int .i64 0,.int .i64 0,.int .i64 0,.int .i64 0,.int .i64 0,.int .i64 0]) T.sz38 ok (oneL rfl)) ?_;rintro η3 ⟨ok,cg⟩;refine .z .asI<|.nil ?_;refine .ret ⟨.tuple #[.agg #[.int .i64 0,.int .i64 0,.int .i64 0,.int .i64 0,.int .i64 0,.int .i64 0],.int .i64 6],Res.many (vs:=[.agg #[.int .i64 0,.int .i64 0,.int .i64 0,.int .i64 0,.int .i64 0,.int .i64 0],.int .i64 6]) rfl ⟨⟨_,rfl,load_ag T.ag38 ok.m0 T.sz38⟩,rfl,trivial⟩ rfl,⟨by rw [dec6 (by omega)];rfl,ok.chg⟩⟩
 refine .skip<|.seq<|.seq<|.r<|.z (.ldx T.ag44 ok.m1)<|.z (.sl_h ((l.take 16).length) T.el44 T.sz5 (hb:=by (simp;omega)))<|?_;have ok:=ok.d0 (rdI (fun j=>F j∧j<h.size) (fun j=>E j∧j<h.size) (a,(l.take 16).length,c) (l.take 16)) ((ok.r0).pre (l2:=l.take 16) (List.take_prefix _ _)) (fun _ h=>h);refine .z (.bts T.el44 T.in5 T.st9 (ok.r0).by)<|.z .tNeB<|.nil ?_;refine .cd (fun C1=>?_) (fun C1=>?_)
 ·
  refine .seq<|.r<|.z (.bd #[.int .i64 0,.int .i64 0,.int .i64 0,.int .i64 0,.int .i64 0,.int .i64 0] T.zr38 T.pl38 (by kernel_rfl))<|.ur' (.stW (vs:=[.int .i64 0,.int .i64 0,.int .i64 0,.int .i64 0,.int .i64 0,.int .i64 0]) T.sz38 ok (oneL rfl)) ?_;rintro η4 ⟨ok,cg⟩;refine .z .asI<|.nil ?_;refine .ret ⟨.tuple #[.agg #[.int .i64 0,.int .i64 0,.int .i64 0,.int .i64 0,.int .i64 0,.int .i64 0],.int .i64 8],Res.many (vs:=[.agg #[.int .i64 0,.int .i64 0,.int .i64 0,.int .i64 0,.int .i64 0,.int .i64 0],.int .i64 8]) rfl ⟨⟨_,rfl,load_ag T.ag38 ok.m0 T.sz38⟩,rfl,trivial⟩ rfl,⟨by rw [dec8 (by omega) C1];rfl,ok.chg⟩⟩
 refine .skip<|.seq<|.r<|.z (.mkf (vs:=[.pointer (some ⟨pb1,0,none⟩)]))<|.z .asF<|.nil ?_;refine .seq<|.r<|.z .mvF<|.k 17 .dyn (dfield_any (b:=pb1) (i:=0) (F:=(fun j=>F j∧j<h.size)) (E:=(fun j=>E j∧j<h.size)) (a:=a) (c:=c) (l:=l) ok.r1 ok.m1 (by omega))<|.z .mvF<|.k 19 .dyn (dfield_any (b:=pb1) (i:=1) (F:=(fun j=>F j∧j<h.size)) (E:=(fun j=>E j∧j<h.size)) (a:=a) (c:=c) (l:=l) ok.r1 ok.m1 (by omega))<|.z .mvF<|.k 21 .dyn (dfield_any (b:=pb1) (i:=2) (F:=(fun j=>F j∧j<h.size)) (E:=(fun j=>E j∧j<h.size)) (a:=a) (c:=c) (l:=l) ok.r1 ok.m1 (by omega))<|.z .mvF<|.k 23 .dyn (dfield_any (b:=pb1) (i:=3) (F:=(fun j=>F j∧j<h.size)) (E:=(fun j=>E j∧j<h.size)) (a:=a) (c:=c) (l:=l) ok.r1 ok.m1 (by omega))<|.z .mvF<|.k 25 .dyn (dfield_any (b:=pb1) (i:=4) (F:=(fun j=>F j∧j<h.size)) (E:=(fun j=>E j∧j<h.size)) (a:=a) (c:=c) (l:=l) ok.r1 ok.m1 (by omega))<|.z .mvF<|.k 27 .dyn (dfield_any (b:=pb1) (i:=5) (F:=(fun j=>F j∧j<h.size)) (E:=(fun j=>E j∧j<h.size)) (a:=a) (c:=c) (l:=l) ok.r1 ok.m1 (by omega))<|.z (.bd #[.int .i64 ((hdAt l 0:Nat):Int),.int .i64 ((hdAt l 1:Nat):Int),.int .i64 ((hdAt l 2:Nat):Int),.int .i64 ((hdAt l 3:Nat):Int),.int .i64 ((hdAt l 4:Nat):Int),.int .i64 ((hdAt l 5:Nat):Int)] T.zr38 T.pl38 (by kernel_rfl))<|.a' 5 (.alA T.zr38 ok) ?_;rintro _ η5 ⟨pb3,rfl,ok,xe⟩;refine .ur' (.stW (vs:=[.int .i64 ((hdAt l 0:Nat):Int),.int .i64 ((hdAt l 1:Nat):Int),.int .i64 ((hdAt l 2:Nat):Int),.int .i64 ((hdAt l 3:Nat):Int),.int .i64 ((hdAt l 4:Nat):Int),.int .i64 ((hdAt l 5:Nat):Int)]) T.sz38 ok (oneL rfl)) ?_;rintro η6 ⟨ok,cg⟩;refine .nil ?_;refine .seq<|.seq<|?_;have ok:=ok.d1 (rdI (fun j=>F j∧j<h.size) (fun j=>E j∧j<h.size) (a,(l.take 64).length,c) (l.take 64)) ((ok.r1).pre (l2:=l.take 64) (List.take_prefix _ _)) (fun _ h=>h);refine .a 17 (fun fl hh=>Hp h none_ [boxI pb3 38 [.int .i64 ((hdAt l 0:Nat):Int),.int .i64 ((hdAt l 1:Nat):Int),.int .i64 ((hdAt l 2:Nat):Int),.int .i64 ((hdAt l 3:Nat):Int),.int .i64 ((hdAt l 4:Nat):Int),.int .i64 ((hdAt l 5:Nat):Int)],boxI pb2 38 [.int .i64 0,.int .i64 0,.int .i64 0,.int .i64 0,.int .i64 0,.int .i64 0],boxI pb1 44 [.slice a l.length c]] [rdI (fun j=>F j∧j<h.size) (fun j=>E j∧j<h.size) (a,(l.take 64).length,c) (l.take 64),rdI (fun j=>F j∧j<h.size) (fun j=>E j∧j<h.size) (a,(l.take 16).length,c) (l.take 16),rdI (fun j=>F j∧j<h.size) (fun j=>E j∧j<h.size) (a,l.length,c) l] hh) mixed ?_;have hS:=ok;refine .lw 0 false rfl 29 hS (fun _ _ hS=>.ldb T.ag38 hS.m0 T.sz38)<|.g 1 false rfl 30 hS (fun _=>.bd #[.int .i64 0,.int .i64 0,.int .i64 0,.int .i64 0,.int .i64 0,.int .i64 0] T.zr38 T.pl38 (by kernel_rfl))<|.g 2 false rfl 31 hS (fun _=>.stE (k:=.i64) [((hdAt l 0:Nat):Int),((hdAt l 1:Nat):Int),((hdAt l 2:Nat):Int),((hdAt l 3:Nat):Int),((hdAt l 4:Nat):Int),((hdAt l 5:Nat):Int)] [0,0,0,0,0,0] T.ste38 T.in3 T.ag3 T.stg38 T.stp38)<|.g 3 false rfl 32 hS (fun _=>.mvB)<|.sd (fun G32=>?_) (fun G32=>?_)
 ·
  refine .x 4 false rfl 33 hS<|.x 5 false rfl 34 hS<|.x 6 false rfl 35 hS<|.g 7 false rfl 36 hS (fun _=>.pkt)<|.g 8 false rfl 37 hS (fun _=>.mvB)<|.x 9 false rfl 38 hS<|.x 10 false rfl 39 hS<|.x 11 false rfl 40 hS<|.x 12 false rfl 41 hS<|.x 13 false rfl 42 hS<|.x 14 false rfl 43 hS<|.x 15 false rfl 44 hS<|.g 16 false rfl 45 hS (fun _=>.pkt)<|.e ?_;refine .ct<|.seq<|.r<|.z (.bd #[.int .i64 0,.int .i64 0,.int .i64 0,.int .i64 0,.int .i64 0,.int .i64 0] T.zr38 T.pl38 (by kernel_rfl))<|.ur' (.stW (vs:=[.int .i64 0,.int .i64 0,.int .i64 0,.int .i64 0,.int .i64 0,.int .i64 0]) T.sz38 ok.n1 (oneL rfl)) ?_;rintro η7 ⟨ok,cg⟩;refine .z .asI<|.nil ?_;refine .ret ⟨.tuple #[.agg #[.int .i64 0,.int .i64 0,.int .i64 0,.int .i64 0,.int .i64 0,.int .i64 0],.int .i64 14],Res.many (vs:=[.agg #[.int .i64 0,.int .i64 0,.int .i64 0,.int .i64 0,.int .i64 0,.int .i64 0],.int .i64 14]) rfl ⟨⟨_,rfl,load_ag T.ag38 ok.m0 T.sz38⟩,rfl,trivial⟩ rfl,⟨by rw [dec14 (by omega) (by simpa using C1) (fun q=>by (simp only [List.cons.injEq] at G32;have h1:=q.1.1;simp [decH,okZ,G32.1] at h1))];rfl,ok.chg⟩⟩
 refine .lw 4 false rfl 33 hS (fun _ _ hS=>.ldb T.ag38 hS.m0 T.sz38)<|.o1 5<|.c' false rfl 34 .func (check_any (z0:=((hdAt l 0:Nat):Int)) (z1:=((hdAt l 1:Nat):Int)) (z2:=((hdAt l 2:Nat):Int)) (z3:=((hdAt l 3:Nat):Int)) (z4:=((hdAt l 4:Nat):Int)) (z5:=((hdAt l 5:Nat):Int)) (by omega) (by omega) (by omega) (by omega) (by omega) (by omega)) ?_;rintro _ η8 ⟨rfl,hx⟩;have ok:=ok.ext hx;refine ⟨ok,?_⟩;have hS:=ok;refine .g 6 false rfl 35 hS (fun _=>.neq)<|.g 7 false rfl 36 hS (fun _=>.pkf)<|.g 8 false rfl 37 hS (fun _=>.mvB)<|.sd (fun G37=>?_) (fun G37=>?_)
 ·
  refine .x 9 false rfl 38 hS<|.x 10 false rfl 39 hS<|.x 11 false rfl 40 hS<|.x 12 false rfl 41 hS<|.x 13 false rfl 42 hS<|.x 14 false rfl 43 hS<|.x 15 false rfl 44 hS<|.g 16 false rfl 45 hS (fun _=>.pkt)<|.e ?_;refine .ct<|.seq<|.r<|.z (.bd #[.int .i64 0,.int .i64 0,.int .i64 0,.int .i64 0,.int .i64 0,.int .i64 0] T.zr38 T.pl38 (by kernel_rfl))<|.ur' (.stW (vs:=[.int .i64 0,.int .i64 0,.int .i64 0,.int .i64 0,.int .i64 0,.int .i64 0]) T.sz38 ok.n1 (oneL rfl)) ?_;rintro η9 ⟨ok,cg⟩;refine .z .asI<|.nil ?_;refine .ret ⟨.tuple #[.agg #[.int .i64 0,.int .i64 0,.int .i64 0,.int .i64 0,.int .i64 0,.int .i64 0],.int .i64 14],Res.many (vs:=[.agg #[.int .i64 0,.int .i64 0,.int .i64 0,.int .i64 0,.int .i64 0,.int .i64 0],.int .i64 14]) rfl ⟨⟨_,rfl,load_ag T.ag38 ok.m0 T.sz38⟩,rfl,trivial⟩ rfl,⟨by rw [dec14 (by omega) (by simpa using C1) (fun q=>by (have h1:chkC (decH l)=0:=chk_y q.1;exact G37 (by rw [show chkC ⟨_,_,_,_,_,_⟩=0 from h1];rfl)))];rfl,ok.chg⟩⟩
 refine .lw 9 false rfl 38 hS (fun _ _ hS=>.ldb T.ag38 hS.m0 T.sz38)<|.lw 12 false rfl 41 hS (fun _ _ hS=>.ldx T.ag44 hS.m2)<|.g 13 false rfl 42 hS (fun _=>.sl_h ((l.take 64).length) T.el44 T.sz5 (hb:=by (simp;omega)))<|.lw 14 false rfl 43 hS (fun _ _ hS=>.bts T.el44 T.in5 T.st9 (hS.r0).by)<|.o1 10<|.c' false rfl 39 .func (hbytes_any (n0:=(hdAt l 0)) (n1:=(hdAt l 1)) (n2:=(hdAt l 2)) (n3:=(hdAt l 3)) (n4:=(hdAt l 4)) (n5:=(hdAt l 5)) (by omega) (by omega) (by omega) (by omega) (by omega) (by omega)) ?_;rintro _ η10 own;obtain ⟨ya1,yc1,rfl⟩:=own.formB;have ok:=ok.own own;refine ⟨ok.n3.n3.n3.k3,?_⟩;have hS:=ok.n3.n3.n3.k3;refine .str (fun _ hh=>Hp h none_ [capI 1 5 (ya1,(hdB [(hdAt l 0),(hdAt l 1),(hdAt l 2),(hdAt l 3),(hdAt l 4),(hdAt l 5)]).length,yc1) ((hdB [(hdAt l 0),(hdAt l 1),(hdAt l 2),(hdAt l 3),(hdAt l 4),(hdAt l 5)]).map bv),boxI pb3 38 [.int .i64 ((hdAt l 0:Nat):Int),.int .i64 ((hdAt l 1:Nat):Int),.int .i64 ((hdAt l 2:Nat):Int),.int .i64 ((hdAt l 3:Nat):Int),.int .i64 ((hdAt l 4:Nat):Int),.int .i64 ((hdAt l 5:Nat):Int)],boxI pb2 38 [.int .i64 0,.int .i64 0,.int .i64 0,.int .i64 0,.int .i64 0,.int .i64 0],boxI pb1 44 [.slice a l.length c]] [rdI (fun j=>F j∧j<h.size) (fun j=>E j∧j<h.size) (a,(l.take 64).length,c) (l.take 64),rdI (fun j=>F j∧j<h.size) (fun j=>E j∧j<h.size) (a,(l.take 16).length,c) (l.take 16),rdI (fun j=>F j∧j<h.size) (fun j=>E j∧j<h.size) (a,l.length,c) l] hh) (fun _ _ h=>h.tM) ?_;have hS:=ok;refine .lw 11 false rfl 40 hS (fun _ _ hS=>.bts T.el44 T.in5 T.st9 (hS.m0).sl)<|.g 15 false rfl 44 hS (fun _=>.tNeB)<|.g 16 false rfl 45 hS (fun _=>.pkf)<|.e ?_;refine .cd (fun C2=>?_) (fun C2=>?_)
 ·
  refine .seq<|.r<|.z (.bd #[.int .i64 0,.int .i64 0,.int .i64 0,.int .i64 0,.int .i64 0,.int .i64 0] T.zr38 T.pl38 (by kernel_rfl))<|.ur' (.stW (vs:=[.int .i64 0,.int .i64 0,.int .i64 0,.int .i64 0,.int .i64 0,.int .i64 0]) T.sz38 ok.n2 (oneL rfl)) ?_;rintro η11 ⟨ok,cg⟩;refine .z .asI<|.nil ?_;refine .ret ⟨.tuple #[.agg #[.int .i64 0,.int .i64 0,.int .i64 0,.int .i64 0,.int .i64 0,.int .i64 0],.int .i64 14],Res.many (vs:=[.agg #[.int .i64 0,.int .i64 0,.int .i64 0,.int .i64 0,.int .i64 0,.int .i64 0],.int .i64 14]) rfl ⟨⟨_,rfl,load_ag T.ag38 ok.m0 T.sz38⟩,rfl,trivial⟩ rfl,⟨by rw [dec14 (by omega) (by simpa using C1) (fun q=>C2 q.2)];rfl,ok.chg⟩⟩
 refine .skip<|.seq<|.r<|.z (.ldb T.ag38 ok.m1 T.sz38)<|.ur' (.stW (vs:=[.int .i64 ((hdAt l 0:Nat):Int),.int .i64 ((hdAt l 1:Nat):Int),.int .i64 ((hdAt l 2:Nat):Int),.int .i64 ((hdAt l 3:Nat):Int),.int .i64 ((hdAt l 4:Nat):Int),.int .i64 ((hdAt l 5:Nat):Int)]) T.sz38 ok.n2 (oneL rfl)) ?_;rintro η12 ⟨ok,cg⟩;refine .z .asI<|.nil ?_;refine .ret ⟨.tuple #[.agg #[.int .i64 ((hdAt l 0:Nat):Int),.int .i64 ((hdAt l 1:Nat):Int),.int .i64 ((hdAt l 2:Nat):Int),.int .i64 ((hdAt l 3:Nat):Int),.int .i64 ((hdAt l 4:Nat):Int),.int .i64 ((hdAt l 5:Nat):Int)],.int .i64 0],Res.many (vs:=[.agg #[.int .i64 ((hdAt l 0:Nat):Int),.int .i64 ((hdAt l 1:Nat):Int),.int .i64 ((hdAt l 2:Nat):Int),.int .i64 ((hdAt l 3:Nat):Int),.int .i64 ((hdAt l 4:Nat):Int),.int .i64 ((hdAt l 5:Nat):Int)],.int .i64 0]) rfl ⟨⟨_,rfl,load_ag T.ag38 ok.m0 T.sz38⟩,rfl,trivial⟩ rfl,⟨by rw [dec0 (by omega) (by simpa using C1) ⟨chk_o G37,by simpa using C2⟩];rfl,ok.chg⟩⟩
end Go.Proofs.YtndlpekckpdncaaGreat
namespace Go.HL
open Go
@[reducible] def apart (l:List Itm):Prop:=l.Pairwise fun (a b:Itm)=>∀j,a.F j→¬b.F j
@[reducible] def starI (l:List Itm):Itm:=⟨fun h=>(∀i∈l,i.p h)∧apart l,fun j=>∃i∈l,i.F j,fun _ _ _ c d hp=>⟨fun i hi=>i.st _ _ _ c (fun j hj=>d j ⟨i,hi,hj⟩) (hp.1 i hi),hp.2⟩⟩
section
variable {h0 h h' h1:Heap} {D G:Nat→Prop} {M R:List Itm} {a b c x y:Itm} {l l':List Itm}
theorem Hp.unstar (ok:Hp h0 D (starI l::M) R h):Hp h0 D (l++M) R h:=by
 have hs:=(ok.m _ List.mem_cons_self);have hmm:=List.pairwise_cons.1 ok.mm;refine ⟨ok.chg,fun i hi=>?_,ok.r,List.pairwise_append.2 ⟨hs.1.2,hmm.2,fun p hp q hq j hj hj2=>hmm.1 q hq j ⟨p,hp,hj⟩ hj2⟩,fun p hp q hq j hj hj2=>?_⟩
 ·rcases List.mem_append.1 hi with hi | hi
  ·exact ⟨hs.1.1 i hi,fun j hj=>hs.2 j ⟨i,hi,hj⟩⟩
  ·exact ok.m i (List.mem_cons_of_mem _ hi)
 ·rcases List.mem_append.1 hp with hp | hp
  ·exact ok.mr _ List.mem_cons_self q hq j ⟨p,hp,hj⟩ hj2
  ·exact ok.mr p (List.mem_cons_of_mem _ hp) q hq j hj hj2
theorem Hp.star (ok:Hp h0 D (l++M) R h):Hp h0 D (starI l::M) R h:=by
 have hmm:=List.pairwise_append.1 ok.mm;refine ⟨ok.chg,fun i hi=>?_,ok.r,List.pairwise_cons.2 ⟨fun q hq j ⟨p,hp,hj⟩ hj2=>hmm.2.2 p hp q hq j hj hj2,hmm.2.1⟩,fun p hp q hq j hj hj2=>?_⟩
 ·rcases List.mem_cons.1 hi with rfl | hi
  ·exact ⟨⟨fun i hi=>(ok.m i (List.mem_append_left _ hi)).1,hmm.1⟩,fun j ⟨i,hi,hj⟩=>(ok.m i (List.mem_append_left _ hi)).2 j hj⟩
  ·exact ok.m i (List.mem_append_right _ hi)
 ·rcases List.mem_cons.1 hp with rfl | hp
  ·obtain ⟨i,hi,hj⟩:=hj;exact ok.mr i (List.mem_append_left _ hi) q hq j hj hj2
  ·exact ok.mr p (List.mem_append_right _ hp) q hq j hj hj2
theorem Hp.starP (ok:Hp h0 D (starI l::M) R h) (p:l'.Perm l):Hp h0 D (starI l'::M) R h:=(ok.unstar.perm (p.append_right M)).star
theorem Hp.star2 (ok:Hp h0 D (starI (a::b::l)::M) R h):Hp h0 D (a::b::starI l::M) R h:=by
 have o:Hp h0 D (starI l::a::b::M) R h:=(ok.unstar.perm (M':=l++a::b::M) (by simpa using (List.perm_append_comm (l₁:=l) (l₂:=[a,b])).append_right M)).star;exact o.n2.n2
theorem Hp.unstar2 (ok:Hp h0 D (a::b::starI l::M) R h):Hp h0 D (starI (a::b::l)::M) R h:=
 Hp.star ((ok.n2.unstar).perm (M':=a::b::(l++M)) (by simpa using (List.perm_append_comm (l₁:=[a,b]) (l₂:=l)).append_right M))
end
end Go.HL
namespace Go.Proofs.YtndlpekckpdncaaGreat
open Go Go.HL
structure Chn where
 kind:Nat
 pos:Nat
 b:List UInt8
def longN (b:List UInt8) (n:Nat):List UInt8:=b.take n++List.replicate (n-b.length) 0
theorem longN_len (b:List UInt8) (n:Nat):(longN b n).length=n:=by simp [longN];omega
theorem longN_le {b:List UInt8} {n:Nat} (h:n≤b.length):longN b n=b.take n:=by simp [longN,Nat.sub_eq_zero_of_le h]
theorem longN_ge {b:List UInt8} {n:Nat} (h:b.length≤n):longN b n=b++List.replicate (n-b.length) 0:=by simp [longN,List.take_of_length_le h]
def patchN (o:List UInt8) (p:Nat) (b:List UInt8):List UInt8:=o.take p++b++o.drop (p+b.length)
theorem patchN_len {o:List UInt8} {p:Nat} {b:List UInt8} (h:p+b.length≤o.length):(patchN o p b).length=o.length:=by simp [patchN];omega
def doneN (c:Chn) (b:List UInt8) (here:Bool):List UInt8 × Bool:=
 if c.kind=0 then (patchN (longN b (max b.length (c.pos+c.b.length))) c.pos c.b,true) else if c.kind=1∧here=true then (longN b c.pos,true) else ([],false)
structure Fl where
 now:List UInt8
 safe:List UInt8
 here:Bool
 was:Bool
 opn:List Chn
structure Dk where
 fs:List UInt8→Option Fl
 dark:Bool
 left:Int
 chg:Int
def put1 (f:List UInt8→Option Fl) (n:List UInt8) (v:Option Fl):List UInt8→Option Fl:=fun m=>if m=n then v else f m
theorem put1_at (f:List UInt8→Option Fl) (n:List UInt8) (v:Option Fl):put1 f n v n=v:=by simp [put1]
theorem put1_ne {f:List UInt8→Option Fl} {n m:List UInt8} {v:Option Fl} (h:m≠n):put1 f n v m=f m:=by simp [put1,h]
def noF:Fl:=⟨[],[],false,false,[]⟩
def wrongN (d:Dk) (n:List UInt8) (zs:List Int):Nat:=if n.length<1∨32<n.length∨(∃z∈zs,z<0) then 1 else if d.dark=true then 13 else 0
def powerN (d:Dk):Dk × Nat:=if d.left=0 then (⟨d.fs,true,d.left,d.chg⟩,13) else (⟨d.fs,d.dark,if 0<d.left then d.left-1 else d.left,d.chg+1⟩,0)
def chgF (f:Fl) (c:Chn):Fl:=⟨(doneN c f.now f.here).1,f.safe,(doneN c f.now f.here).2,f.was,f.opn++[c]⟩
def doN (d:Dk) (n:List UInt8) (c:Chn):Dk × Nat:=
 if d.left=0 then powerN d else (⟨put1 d.fs n (some (chgF ((d.fs n).getD noF) c)),d.dark,if 0<d.left then d.left-1 else d.left,d.chg+1⟩,0)
def thereN (d:Dk) (n:List UInt8):Bool:=match d.fs n with | some f=>f.here | none=>false
def writeN (d:Dk) (n:List UInt8) (pos:Int) (b:List UInt8):Dk × Nat:=
 if wrongN d n [pos]≠0 then (d,wrongN d n [pos]) else if 16777216<pos∨16777216-pos<b.length then (d,5) else doN d n ⟨0,pos.toNat,b⟩
def truncN (d:Dk) (n:List UInt8) (z:Int):Dk × Nat:=
 if wrongN d n [z]≠0 then (d,wrongN d n [z]) else if thereN d n=false then (d,4) else if 16777216<z then (d,5) else doN d n ⟨1,z.toNat,[]⟩
def removeN (d:Dk) (n:List UInt8):Dk × Nat:=
 if wrongN d n []≠0 then (d,wrongN d n []) else if thereN d n=false then (d,4) else doN d n ⟨2,0,[]⟩
def settleF (f:Fl):Option Fl:=if f.here=true then some ⟨f.now,f.now,true,true,[]⟩ else none
def syncN (d:Dk) (n:List UInt8):Dk × Nat:=
 if wrongN d n []≠0 then (d,wrongN d n []) else match d.fs n with
  | none=>(d,4)
  | some f=>if f.here=false∧f.opn=[] then (d,4) else if d.left=0 then powerN d else (⟨put1 d.fs n (settleF f),d.dark,if 0<d.left then d.left-1 else d.left,d.chg+1⟩,0)
def readN (d:Dk) (n:List UInt8) (pos z:Int):List UInt8 × Nat:=
 if wrongN d n [pos,z]≠0 then ([],wrongN d n [pos,z]) else match d.fs n with
  | none=>([],4)
  | some f=>if f.here=false then ([],4) else ((f.now.drop pos.toNat).take z.toNat,0)
def sizeN (d:Dk) (n:List UInt8):Nat × Bool:=if d.dark=true∨thereN d n=false then (0,false) else (((d.fs n).getD noF).now.length,true)
structure ChOk (c:Chn):Prop where
 kind:c.kind≤2
 fit:c.pos+c.b.length≤16777216
structure FlOk (f:Fl):Prop where
 now:f.now.length≤16777216
 safe:f.safe.length≤16777216
 opn:∀c∈f.opn,ChOk c
structure DkOk (d:Dk):Prop where
 fs:∀n f,d.fs n=some f→FlOk f∧(f.opn.length:Int)≤d.chg
 chg:0≤d.chg
 left:d.left≤9223372036854775807
 cnt:∃ks:List (List UInt8),(ks.length:Int)≤d.chg∧∀n f,d.fs n=some f→n∈ks∧n.length≤32
theorem doneN_len {c:Chn} {b:List UInt8} {here:Bool} (hc:ChOk c) (hb:b.length≤16777216):(doneN c b here).1.length≤16777216:=by
 have h1:=hc.fit;unfold doneN;split
 ·rw [patchN_len (by rw [longN_len];omega),longN_len];omega
 ·split
  ·rw [longN_len];omega
  ·simp
theorem DkOk.power {d:Dk} (k:DkOk d):DkOk (powerN d).1:=by
 unfold powerN;split
 ·exact ⟨k.fs,k.chg,k.left,k.cnt⟩
 ·refine ⟨fun n f h=>⟨(k.fs n f h).1,?_⟩,?_,?_,let ⟨ks,h1,h2⟩:=k.cnt;⟨ks,(by simp only;omega),h2⟩⟩
  ·have:=(k.fs n f h).2;simp only;omega
  ·have:=k.chg;simp only;omega
  ·have:=k.left;simp only;split<;>omega
theorem wrongN_ok {d:Dk} {n:List UInt8} {zs:List Int} (h:wrongN d n zs=0):1≤n.length∧n.length≤32∧(∀z∈zs,0≤z)∧d.dark=false:=by
 unfold wrongN at h;split at h
 ·cases h
 ·rename_i h1;split at h
  ·cases h
  ·rename_i h2;refine ⟨by omega,by omega,fun z hz=>?_,by simpa using h2⟩;by_cases h3:z<0
   ·exact absurd (.inr (.inr ⟨z,hz,h3⟩)) h1
   ·omega
theorem noF_ok:FlOk noF:=⟨by simp [noF],by simp [noF],by simp [noF]⟩
theorem DkOk.getD {d:Dk} (k:DkOk d) (n:List UInt8):FlOk ((d.fs n).getD noF)∧((((d.fs n).getD noF).opn.length:Nat):Int)≤d.chg:=by
 cases h:d.fs n with
 | none=>exact ⟨noF_ok,by simpa [noF] using k.chg⟩
 | some f=>exact k.fs n f h
theorem DkOk.do {d:Dk} (k:DkOk d) {n:List UInt8} {c:Chn} (hc:ChOk c) (hn:n.length≤32):DkOk (doN d n c).1:=by
 unfold doN;split
 ·exact k.power
 ·have hg:=k.getD n;refine ⟨fun m f h=>?_,by have:=k.chg;simp only;omega,by have:=k.left;simp only;split<;>omega,let ⟨ks,h1,h2⟩:=k.cnt;⟨n::ks,(by simp only [List.length_cons];omega),fun m f h=>?_⟩⟩
  rotate_left
  ·simp only [put1] at h;split at h
   ·rename_i hm;subst hm;exact ⟨List.mem_cons_self,hn⟩
   ·exact ⟨List.mem_cons_of_mem _ (h2 m f h).1,(h2 m f h).2⟩
  simp only [put1] at h;split at h
  ·injection h with h;subst h;exact ⟨⟨doneN_len hc hg.1.now,hg.1.safe,fun x hx=>(List.mem_append.1 hx).elim (hg.1.opn x) fun h=>by rw [List.mem_singleton.1 h];exact hc⟩,by have:=hg.2;simp [chgF];omega⟩
  ·have:=(k.fs m f h).2;exact ⟨(k.fs m f h).1,by simp only;omega⟩
theorem settleF_ok {f g:Fl} (k:FlOk f) (h:settleF f=some g):FlOk g∧g.opn=[]:=by
 unfold settleF at h;split at h
 ·injection h with h;subst h;exact ⟨⟨k.now,k.now,by simp⟩,rfl⟩
 ·cases h
theorem DkOk.sync {d:Dk} (k:DkOk d) {n:List UInt8} : DkOk (syncN d n).1:=by
 unfold syncN;split
 ·exact k
 ·split
  ·exact k
  ·rename_i f hf;split
   ·exact k
   ·split
    ·exact k.power
    ·refine ⟨fun m g h=>?_,by have:=k.chg;simp only;omega,by have:=k.left;simp only;split<;>omega,let ⟨ks,h1,h2⟩:=k.cnt;⟨ks,(by simp only;omega),fun m g h=>?_⟩⟩
     rotate_left
     ·simp only [put1] at h;split at h
      ·rename_i hm;subst hm;exact h2 _ _ hf
      ·exact h2 m g h
     simp only [put1] at h;split at h
     ·have h1:=settleF_ok (k.fs n f hf).1 h;exact ⟨h1.1,by rw [h1.2];have:=k.chg;simp;omega⟩
     ·have:=(k.fs m g h).2;exact ⟨(k.fs m g h).1,by simp only;omega⟩
theorem DkOk.remove {d:Dk} (k:DkOk d) {n:List UInt8} : DkOk (removeN d n).1:=by
 unfold removeN;split
 ·exact k
 ·rename_i h0;have hn:=(wrongN_ok (d:=d) (n:=n) (zs:=[]) (by simpa using h0)).2.1;split
  ·exact k
  ·exact k.do ⟨by simp,by simp⟩ hn
def newN:Dk:=⟨fun _=>none,false,-1,0⟩
theorem newN_ok:DkOk newN:=⟨fun _ _ h=>(by cases h),by simp [newN],by simp [newN],⟨[],by simp [newN],fun _ _ h=>(by cases h)⟩⟩
theorem RdL.isNone {α:Type} [Rep α] {h:Heap} {F E:Nat→Prop} {a:Option Addr} {n c:Nat} {l:List α} (r:RdL h F E (a,n,c) l) (ha:a.isNone=true):l=[]:=by
 rcases Nat.eq_zero_or_pos l.length with h0 | h0
 ·exact List.eq_nil_of_length_eq_zero h0
 ·obtain ⟨b,o,e,_⟩:=r.at' h0;simp only at e;subst e;cases ha
theorem bclone_any {h:Heap} {F E:Nat→Prop} {a:Option Addr} {c:Nat} {l:List UInt8} (hl:RdL h F E (a,l.length,c) l) (hN:l.length≤1000000000) :
  HC Tryz.prog 84 #[.slice a l.length c] h (fun v h'=>Own h h' 1 5 v (l.map bv)):=by
 have hc2:=hl.m;have hc1:l.length≤c:=hl.c;simp only at hc2;have ok:=(Hp.nil h none_).arg hl;refine HC.go Tryz.func84 8 ?_;refine .seq<|.r<|.z .asS<|.nil ?_;refine .seq<|.seq<|.r<|.z .mvS<|.z (.sEq T.el44)<|.nil ?_;refine .cond (fun C0=>?_) (fun C0=>?_)
 ·
  obtain rfl:=RdL.isNone hl C0;refine .seq<|.r<|.z .asS<|.nil ?_;refine .ret ⟨.slice none 0 0,Res.one rfl rfl,Own.nil ok.chg _ _⟩
 refine .skip<|.seq<|.r<|.a' 5 (.lit [] (cs:=[]) T.el44 T.sz5 T.zr5 ok trivial) ?_;rintro _ η1 ⟨pb1,rfl,ok,xe⟩;have ok:=ok.cx (ys:=([]:List UInt8).map bv) rfl;refine .z .mvS<|.a' 7 (.app (news:=l.map bv) T.el44 T.sz5 T.by5 T.zr5 ok (ok.r0).by bv_all (by simp only [List.length_map,List.length_append,List.length_take,List.length_cons,List.length_nil,List.length_replicate,List.length_range,fixedN_len,sealN_len];omega)) ?_;rintro _ η2 ⟨ya1,yn1,yc1,rfl,ok,ap⟩;have ok:=ok.cx (ys:=(l).map bv) (by simp [bv]);obtain rfl:yn1=(l).length:=ok.lenB;refine .z .asS<|.nil ?_;refine .ret ⟨.slice ya1 ((l).length) yc1,Res.one rfl rfl,ok.toOwn⟩
instance:Rep Fr where
 k:=3
 rd h F cs f:=∃x:SV,cs=[iv f.page,iv f.commit,sv x]∧RdL h F F x f.b
 kpos:=by omega
 len:=fun ⟨_,h,_⟩=>by rw [h];rfl
 one:=fun ⟨_,h,_⟩ u hu=>by
  rw [h] at hu;simp only [List.mem_cons,List.not_mem_nil,or_false] at hu;rcases hu with rfl | rfl | rfl<;>rfl
 st:=fun c d ⟨x,e,r⟩=>⟨x,e,r.st c d d⟩
 mono:=fun d ⟨x,e,r⟩=>⟨x,e,r.mono d d⟩
 lt:=fun ⟨x,e,r⟩=>⟨x,e,r.lt⟩
@[reducible] def frN (l:List Fr) (i:Nat):Fr:=l[i]?.getD ⟨0,0,[]⟩
@[reducible] def vfN (l:List Fr) (xa:Nat→Option Addr) (xc:Nat→Nat) (i:Nat):List Value:=[.int .i64 (frN l i).page,.int .i64 (frN l i).commit,.slice (xa i) (frN l i).b.length (xc i)]
theorem vfN_len (l:List Fr) (xa:Nat→Option Addr) (xc:Nat→Nat) (i:Nat):(vfN l xa xc i).length=3:=rfl
structure Frs (h:Heap) (F E:Nat→Prop) (x:SV) (l:List Fr) (xa:Nat→Option Addr) (xc:Nat→Nat):Prop where
 rd:RdL h F E x l
 sl:Sl h 3 (sv x) ((List.range l.length).flatMap (vfN l xa xc))
 b:∀i,i<l.length→RdL h E E (xa i,(frN l i).b.length,xc i) (frN l i).b
theorem Frs.st {G:Nat→Prop} {h h':Heap} {F E:Nat→Prop} {x:SV} {l:List Fr} {xa:Nat→Option Addr} {xc:Nat→Nat} (c:Chg G h h') (hF:∀j,F j→¬G j) (hE:∀j,E j→¬G j) (r:Frs h F E x l xa xc):Frs h' F E x l xa xc:=by
 refine ⟨r.rd.st c hF hE,?_,fun i hi=>(r.b i hi).st c hE hE⟩;obtain ⟨a,n,cc,hv,h1,h2,h3,h4⟩:=r.sl;refine ⟨a,n,cc,hv,h1,h2,h3,fun hn=>?_⟩;obtain ⟨b,o,e,hc⟩:=h4 hn;have hx:x=(a,n,cc):=by
  obtain ⟨x1,x2,x3⟩:=x;injection hv with g1 g2 g3;simp only at g1 g2 g3;rw [g1,g2,g3]
 have hl:0<l.length:=by have:=r.rd.n;rw [hx] at this;simp only at this;omega
 obtain ⟨b2,o2,e2,hb,_⟩:=r.rd.at' hl;rw [hx,e] at e2;injection e2 with e2;injection e2 with e2 e3;subst e2;exact ⟨b,o,e,fun i v hi=>c.cell (hc i v hi) (hF b hb)⟩
@[reducible] def frsI (F E:Nat→Prop) (x:SV) (l:List Fr) (xa:Nat→Option Addr) (xc:Nat→Nat):Itm:=⟨fun h=>Frs h F E x l xa xc,fun j=>F j∨E j,fun _ _ _ c d r=>r.st c (fun j hj=>d j (.inl hj)) (fun j hj=>d j (.inr hj))⟩
theorem RdL.frs {h:Heap} {F E:Nat→Prop} {x:SV} {l:List Fr} (r:RdL h F E x l):∃xa xc,Frs h F E x l xa xc:=by
 obtain ⟨css,h1,h2⟩:=r.cells;have hex:∀i,∃y:Option Addr × Nat,i<l.length→css[i]? = some [.int .i64 (frN l i).page,.int .i64 (frN l i).commit,.slice y.1 (frN l i).b.length y.2]∧RdL h E E (y.1,(frN l i).b.length,y.2) (frN l i).b:=by
  intro i;by_cases hi:i<l.length
  ·have hic:i<css.length:=by have:=h2.1;omega
   obtain ⟨y,e,hr⟩:=h2.2 i hic hi;obtain ⟨a,c,rfl,_⟩:=hr.form;have hf:frN l i=l[i]:=by simp [frN,hi]
   refine ⟨(a,c),fun _=>⟨?_,by rw [hf];exact hr⟩⟩;rw [List.getElem?_eq_getElem hic,e,hf];rfl
  ·exact ⟨(none,0),fun h=>absurd h hi⟩
 obtain ⟨y,hy⟩:=Classical.axiomOfChoice hex;refine ⟨fun i=>(y i).1,fun i=>(y i).2,r,?_,fun i hi=>(hy i hi).2⟩;have:css.flatten=(List.range l.length).flatMap (vfN l (fun i=>(y i).1) fun i=>(y i).2):=by
  rw [List.flatMap_def];congr 1;apply List.ext_getElem?;intro i;by_cases hi:i<l.length
  ·rw [(hy i hi).1];simp [hi,vfN]
  ·rw [List.getElem?_eq_none (by have:=h2.1;omega),List.getElem?_eq_none (by simp;omega)]
 rw [←this];exact h1
theorem frs_at {h:Heap} {l:List Fr} {xa:Nat→Option Addr} {xc:Nat→Nat} {b o n c:Nat} (r:Sl h 3 (.slice (some ⟨b,o,none⟩) n c) ((List.range l.length).flatMap (vfN l xa xc))) {i j:Nat} (hi:i<l.length) {v:Value} (hv:(vfN l xa xc i)[j]? = some v):cell h b (o+i*3+j)=some v:=
 sl_at (vfN_len l xa xc) r (i:=i) (by simpa using hi) (by simpa using hv)
theorem frs_ats {h:Heap} {l:List Fr} {xa:Nat→Option Addr} {xc:Nat→Nat} {b o n c:Nat} (r:Sl h 3 (.slice (some ⟨b,o,none⟩) n c) ((List.range l.length).flatMap (vfN l xa xc))) {i:Nat} (hi:i<l.length):∀j v,(vfN l xa xc i)[j]? = some v→cell h b (o+i*3+j)=some v:=fun _ _ hv=>frs_at r hi hv
theorem Frs.pos {h:Heap} {F E:Nat→Prop} {a:Option Addr} {n c:Nat} {l:List Fr} {xa:Nat→Option Addr} {xc:Nat→Nat} (r:Frs h F E (a,n,c) l xa xc) (hp:0<l.length):∃b o,a=some ⟨b,o,none⟩∧F b:=r.rd.pos hp
end Go.Proofs.YtndlpekckpdncaaGreat
namespace Go.Proofs
open Go.Shelf
def Tryz.sortedA_ren:Go.Shelf.Ren:=⟨fun | 6=>144 | 8=>189 | 9=>68 | 11=>216 | 13=>125 | 12=>124 | 23=>170 | 24=>171 | 14=>161 | 15=>162 | 16=>163 | 17=>164 | 18=>165 | 19=>166 | 20=>167 | 21=>168 | 22=>169 | 25=>196 | 26=>197 | 27=>198 | 28=>199 | 29=>200 | 30=>201 | 31=>219 | n=>n,fun | 26=>3 | 28=>217 | 24=>24 | 0=>0 | 3=>3 | 37=>179 | 48=>89 | 50=>130 | 4=>4 | 40=>236 | 39=>235 | 45=>203 | 5=>5 | 9=>9 | 51=>265 | 55=>269 | 57=>293 | 58=>294 | 33=>49 | n=>n,fun | n=>n⟩
theorem Tryz.sortedA:Go.Proofs.SlLaysZI.n6 Tryz.prog Tryz.sortedA_ren:={
 mixed:=by kernel_rfl
 f6:=⟨Tryz.f144.name,by decide,Tryz.func144.trans (congrArg some (by kernel_rfl))⟩
 f8:=⟨Tryz.f189.name,by decide,Tryz.func189.trans (congrArg some (by kernel_rfl))⟩
 f11:=⟨Tryz.f216.name,by decide,Tryz.func216.trans (congrArg some (by kernel_rfl))⟩
 t0:=Tryz.underlying0
 a0:=Tryz.isAgg0
 z0:=Tryz.sizeOf0
 v0:=Tryz.zeroValue0
 t24:=Tryz.underlying24
 a24:=Tryz.isAgg24
 z24:=Tryz.sizeOf24
 v24:=Tryz.zeroValue24
 t26:=Tryz.underlying3
 a26:=Tryz.isAgg3
 z26:=Tryz.sizeOf3
 v26:=Tryz.zeroValue3
 t28:=Tryz.underlying217
 a28:=Tryz.isAgg217
 z28:=Tryz.sizeOf217
 v28:=Tryz.zeroValue217
 i26:=by kernel_rfl }
def Tryz.sortA_ren:Go.Shelf.Ren:=⟨fun | 5=>68 | 8=>125 | 7=>124 | 19=>170 | 20=>171 | 10=>161 | 11=>162 | 12=>163 | 13=>164 | 14=>165 | 15=>166 | 16=>167 | 17=>168 | 18=>169 | 30=>196 | 31=>197 | 32=>198 | 33=>199 | 34=>200 | 35=>201 | 40=>219 | n=>n,fun | 23=>24 | 25=>3 | 3=>3 | 32=>179 | 22=>24 | 0=>0 | 44=>89 | 46=>130 | 4=>4 | 36=>236 | 35=>235 | 41=>203 | 5=>5 | 9=>9 | 53=>265 | 57=>269 | 63=>293 | 64=>294 | n=>n,fun | n=>n⟩
theorem Tryz.sortA:Go.Proofs.SlLaysM.n5 Tryz.prog Tryz.sortA_ren:={
 mixed:=by kernel_rfl
 f5:=⟨Tryz.f68.name,by decide,Tryz.func68.trans (congrArg some (by kernel_rfl))⟩
 f7:=⟨Tryz.f124.name,by decide,Tryz.func124.trans (congrArg some (by kernel_rfl))⟩
 f8:=Tryz.func125.trans (congrArg some (by kernel_rfl))
 f10:=⟨Tryz.f161.name,by decide,Tryz.func161.trans (congrArg some (by kernel_rfl))⟩
 f11:=⟨Tryz.f162.name,by decide,Tryz.func162.trans (congrArg some (by kernel_rfl))⟩
 f12:=⟨Tryz.f163.name,by decide,Tryz.func163.trans (congrArg some (by kernel_rfl))⟩
 f13:=⟨Tryz.f164.name,by decide,Tryz.func164.trans (congrArg some (by kernel_rfl))⟩
 f14:=⟨Tryz.f165.name,by decide,Tryz.func165.trans (congrArg some (by kernel_rfl))⟩
 f15:=⟨Tryz.f166.name,by decide,Tryz.func166.trans (congrArg some (by kernel_rfl))⟩
 f16:=⟨Tryz.f167.name,by decide,Tryz.func167.trans (congrArg some (by kernel_rfl))⟩
 f17:=⟨Tryz.f168.name,by decide,Tryz.func168.trans (congrArg some (by kernel_rfl))⟩
 f18:=⟨Tryz.f169.name,by decide,Tryz.func169.trans (congrArg some (by kernel_rfl))⟩
 f19:=Tryz.func170.trans (congrArg some (by kernel_rfl))
 f20:=Tryz.func171.trans (congrArg some (by kernel_rfl))
 f30:=⟨Tryz.f196.name,by decide,Tryz.func196.trans (congrArg some (by kernel_rfl))⟩
 f31:=Tryz.func197.trans (congrArg some (by kernel_rfl))
 f32:=Tryz.func198.trans (congrArg some (by kernel_rfl))
 f33:=⟨Tryz.f199.name,by decide,Tryz.func199.trans (congrArg some (by kernel_rfl))⟩
 f34:=⟨Tryz.f200.name,by decide,Tryz.func200.trans (congrArg some (by kernel_rfl))⟩
 f35:=⟨Tryz.f201.name,by decide,Tryz.func201.trans (congrArg some (by kernel_rfl))⟩
 f40:=⟨Tryz.f219.name,by decide,Tryz.func219.trans (congrArg some (by kernel_rfl))⟩
 t0:=Tryz.underlying0
 a0:=Tryz.isAgg0
 z0:=Tryz.sizeOf0
 v0:=Tryz.zeroValue0
 t3:=Tryz.underlying3
 a3:=Tryz.isAgg3
 z3:=Tryz.sizeOf3
 v3:=Tryz.zeroValue3
 t4:=Tryz.underlying4
 a4:=Tryz.isAgg4
 z4:=Tryz.sizeOf4
 v4:=Tryz.zeroValue4
 t5:=Tryz.underlying5
 a5:=Tryz.isAgg5
 z5:=Tryz.sizeOf5
 v5:=Tryz.zeroValue5
 t9:=Tryz.underlying9
 a9:=Tryz.isAgg9
 z9:=Tryz.sizeOf9
 v9:=Tryz.zeroValue9
 t22:=Tryz.underlying24
 a22:=Tryz.isAgg24
 z22:=Tryz.sizeOf24
 v22:=Tryz.zeroValue24
 t23:=Tryz.underlying24
 a23:=Tryz.isAgg24
 z23:=Tryz.sizeOf24
 v23:=Tryz.zeroValue24
 t25:=Tryz.underlying3
 a25:=Tryz.isAgg3
 z25:=Tryz.sizeOf3
 v25:=Tryz.zeroValue3
 t32:=Tryz.underlying179
 a32:=Tryz.isAgg179
 z32:=Tryz.sizeOf179
 v32:=Tryz.zeroValue179
 t35:=Tryz.underlying235
 a35:=Tryz.isAgg235
 z35:=Tryz.sizeOf235
 v35:=Tryz.zeroValue235
 t36:=Tryz.underlying236
 a36:=Tryz.isAgg236
 z36:=Tryz.sizeOf236
 v36:=Tryz.zeroValue236
 t41:=Tryz.underlying203
 a41:=Tryz.isAgg203
 z41:=Tryz.sizeOf203
 v41:=Tryz.zeroValue203
 t44:=Tryz.underlying89
 a44:=Tryz.isAgg89
 z44:=Tryz.sizeOf89
 v44:=Tryz.zeroValue89
 t46:=Tryz.underlying130
 a46:=Tryz.isAgg130
 z46:=Tryz.sizeOf130
 v46:=Tryz.zeroValue130
 t53:=Tryz.underlying265
 a53:=Tryz.isAgg265
 z53:=Tryz.sizeOf265
 v53:=Tryz.zeroValue265
 t57:=Tryz.underlying269
 a57:=Tryz.isAgg269
 z57:=Tryz.sizeOf269
 v57:=Tryz.zeroValue269
 t63:=Tryz.underlying293
 a63:=Tryz.isAgg293
 z63:=Tryz.sizeOf293
 v63:=Tryz.zeroValue293
 t64:=Tryz.underlying294
 a64:=Tryz.isAgg294
 z64:=Tryz.sizeOf294
 v64:=Tryz.zeroValue294 }
end Go.Proofs
namespace Go.Proofs.YtndlpekckpdncaaGreat
open Go Go.HL Go.RowKit Go.Maps Go.Sort Go.Shelf Go.MapKept
@[reducible] def ptr (b:Nat):Value:=.pointer (some ⟨b,0,none⟩)
theorem HC.of_calls {P:Program} {f:FuncId} {args:Array Value} {h:Heap} {R:Value→Heap→Prop} (hc:Callable P f) (hr:∀w:World,w.heap=h→Calls P f args w fun e w'=>∃v,e=.returned v∧RowKit.Below h.size w w'∧R v w'.heap):HC P f args h R:=
 ⟨hc,fun _ w at'=>(hr w at'.heap).mono fun _ w' ⟨v,e,b,r⟩=>⟨v,w'.heap,e,⟨rfl,b.os.trans at'.os,b.tape.trans at'.tape,b.output.trans at'.output⟩,r⟩⟩
theorem Ext.of_below {h:Heap} {w w':World} (hw:w.heap=h) (b:RowKit.Below h.size w w'):Ext h w'.heap:=⟨hw▸b.size,fun k hk _=>by rw [b.block k hk,hw]⟩
theorem sorts_in (m:Nat):AnyZI.SortsIn Tryz.prog Tryz.sortedA_ren Fence.wide m:=
  ⟨fun blk off cap ss W hH hblk hsz=>callsIn_wide.2 (AnyM.slices_Sort_int Tryz.sortA blk off cap ss W hH hblk hsz),
   fun p cap W=>callsIn_wide.2 (AnyM.slices_Sort_int_none Tryz.sortA p cap W)⟩
def noElem (_:Value):Option (DataW Unit × List MemPlace):=some (.nil,[])
theorem int_wf {k:Int} (h : -9223372036854775808≤k∧k≤9223372036854775807):(Lit.int .i64 k).wf=true:=by
 simpa [Lit.wf,IntKind.min,IntKind.max,IntKind.signed,IntKind.bits] using h
theorem insert_perm {H:Type} (x:Lit × DataW H):∀l:List (Lit × DataW H),(DataW.insert x l).Perm (x::l)
 | []=>by simp [DataW.insert]
 | y::l=>by
  unfold DataW.insert;split
  ·exact .refl _
  ·exact ((insert_perm x l).cons y).trans (.swap x y l)
theorem sorted_perm {H:Type} : ∀l:List (Lit × DataW H),(l.foldr DataW.insert []).Perm l
 | []=>.refl _
 | x::l=>(insert_perm x _).trans ((sorted_perm l).cons x)
theorem owns_keys {h:Heap} {mb:Nat} {ks:List Int} {f:Int→Value} (hm:MapT (Value.int .i64) h mb (ks.map fun k=>(k,f k))) (hr:∀k∈ks,-9223372036854775808≤k∧k≤9223372036854775807) (hl:ks.length≤1000000000000) {w:World} (hw:w.heap[mb]? = h[mb]?) :
  ∃(nn:Nat) (D:DataW Unit),w.ownsMap Tryz.prog 3 noElem mb nn D∧Maps.size D=ks.length∧(intKeys D).Perm ks:=by
 obtain ⟨es,cl,hb,he,hs⟩:=hm;have hlen:es.size=ks.length:=by
  have:=congrArg List.length he;simpa using this
 have hkeys:es.toList.map (fun e=>(e.key,e.val))=ks.map fun k=>(Value.int .i64 k,f k):=by rw [he,List.map_map];rfl
 have hrd:∀x∈es.toList,∃k∈ks,x.key=.int .i64 k∧WideElems.rd Tryz.prog 3 noElem x=some (.int .i64 k,.nil):=fun x hx=>by
  have h1:(x.key,x.val)∈es.toList.map fun e=>(e.key,e.val):=List.mem_map.2 ⟨x,hx,rfl⟩;rw [hkeys] at h1;obtain ⟨k,hk,e⟩:=List.mem_map.1 h1;injection e with e1 e2;refine ⟨k,hk,e1.symm,?_⟩;unfold WideElems.rd;rw [←e1,keyOf_int_mk Tryz.underlying3 (int_wf (hr k hk))];rfl
 have hrg:es.toList.map (WideElems.rg Tryz.prog 3 noElem)=ks.map fun k=>(Lit.int .i64 k,DataW.nil):=by
  have h1:es.toList.map (·.key)=ks.map (Value.int .i64):=by
   have:=congrArg (List.map Prod.fst) hkeys;rw [List.map_map,List.map_map] at this;exact this
  have h2:∀(l:List MapEntry) (s:List Int),l.map (·.key)=s.map (Value.int .i64)→(∀x∈l,∃k∈ks,x.key=.int .i64 k∧WideElems.rd Tryz.prog 3 noElem x=some (.int .i64 k,.nil))→l.map (WideElems.rg Tryz.prog 3 noElem)=s.map fun k=>(Lit.int .i64 k,DataW.nil):=by
   intro l;induction l with
   | nil=>intro s hs _;cases s with
    | nil=>rfl
    | cons a s=>simp at hs
   | cons x l ih=>
    intro s hs hx;cases s with
    | nil=>simp at hs
    | cons a s=>
     simp only [List.map_cons,List.cons.injEq] at hs⊢;obtain ⟨k,_,h3,h4⟩:=hx x List.mem_cons_self;have:a=k:=by
      have h5:=hs.1;rw [h3] at h5;exact (Value.int.inj h5).2.symm
     subst this;refine ⟨?_,ih s hs.2 fun y hy=>hx y (List.mem_cons_of_mem _ hy)⟩;unfold WideElems.rg;rw [h4];rfl
  exact h2 _ _ h1 hrd
 refine ⟨es.size,_,⟨es,cl,hw.trans hb,⟨by show _≤9223372036854775807;omega,hs,fun x hx=>let ⟨k,_,_,h⟩:=hrd x hx;⟨_,h⟩⟩,Nat.le_refl _,rfl⟩,?_,?_⟩
 ·show (List.foldr DataW.insert [] _).length=_;rw [(sorted_perm _).length_eq,List.length_map];simpa using hlen
 ·show ((List.foldr DataW.insert [] _).map fun p=>_root_.Go.intOf p.1).Perm ks;refine ((sorted_perm _).map _).trans ?_;rw [hrg,List.map_map];exact .of_eq (by rw [show ((fun p:Lit × DataW Unit=>_root_.Go.intOf p.1)∘fun k=>(Lit.int .i64 k,DataW.nil))=id from rfl,List.map_id])
def nT:List UInt8:=[116,111,109,101]
def nM:List UInt8:=[116,111,109,101,46,109,97,114,107]
def goneN (d:Dk) (n:List UInt8):Dk × Nat:=
 if (removeN d n).2=0 then syncN (removeN d n).1 n else if (removeN d n).2=4 then ((removeN d n).1,0) else removeN d n
section
variable {κ β:Type} [DecidableEq κ]
def mget (l:List (κ × β)) (k:κ):Option β:=(l.find? fun p=>p.1=k).map (·.2)
def mput:List (κ × β)→κ→β→List (κ × β)
 | [],k,v=>[(k,v)]
 | p::l,k,v=>if p.1=k then (k,v)::l else p::mput l k v
def mdel (l:List (κ × β)) (k:κ):List (κ × β):=l.filter fun p=>decide (p.1≠k)
variable {l:List (κ × β)} {k k':κ} {v w:β} {f:β→Value}
theorem aget_mp:aget (l.map fun p=>(p.1,f p.2)) k=(mget l k).map f:=by
 induction l with
 | nil=>rfl
 | cons p l ih=>
  by_cases h:p.1=k
  ·simp [aget,mget,h]
  ·simpa [aget,mget,h] using ih
theorem adel_mp:adel (l.map fun p=>(p.1,f p.2)) k=(mdel l k).map fun p=>(p.1,f p.2):=by simp [adel,mdel,List.filter_map,Function.comp_def]
theorem aput_mp:aput (l.map fun p=>(p.1,f p.2)) k (f v)=(mput l k v).map fun p=>(p.1,f p.2):=by
 induction l with
 | nil=>rfl
 | cons p l ih=>
  by_cases h:p.1=k
  ·simp [aput,mput,h]
  ·simp [aput,mput,h,ih]
theorem mget_cons {p:κ × β} : mget (p::l) k=if p.1=k then some p.2 else mget l k:=by
 by_cases h:p.1=k<;>simp [mget,h]
theorem mget_mput:mget (mput l k v) k'=if k'=k then some v else mget l k':=by
 induction l with
 | nil=>
  by_cases h:k'=k
  ·subst h;simp [mput,mget]
  ·have h3:¬k=k':=fun e=>h e.symm;simp [mput,mget,h,h3]
 | cons p l ih=>
  unfold mput;split
  ·rename_i h;rw [mget_cons,mget_cons];by_cases h2:k'=k
   ·subst h2;simp
   ·have h3:¬k=k':=fun e=>h2 e.symm;have h4:¬p.1=k':=fun e=>h2 (e.symm.trans h);simp [h2,h3,h4]
  ·rename_i h;rw [mget_cons,mget_cons,ih];by_cases h2:p.1=k'
   ·have h3:¬k'=k:=fun e=>h (h2.trans e);simp [h2,h3]
   ·simp [h2]
theorem mget_mem (h:mget l k=some v):(k,v)∈l:=by
 induction l with
 | nil=>simp [mget] at h
 | cons p l ih=>
  rw [mget_cons] at h;split at h
  ·rename_i hp;injection h with h;subst h;rw [←hp];exact List.mem_cons_self
  ·exact List.mem_cons_of_mem _ (ih h)
theorem mem_mput {p:κ × β} (hp:p∈mput l k v):p=(k,v)∨p∈l:=by
 induction l with
 | nil=>simp [mput] at hp;exact .inl hp
 | cons q l ih=>
  unfold mput at hp;split at hp
  ·rcases List.mem_cons.1 hp with h | h
   ·exact .inl h
   ·exact .inr (List.mem_cons_of_mem _ h)
  ·rcases List.mem_cons.1 hp with h | h
   ·exact .inr (by rw [h];exact List.mem_cons_self)
   ·exact (ih h).imp id (List.mem_cons_of_mem _)
end
section
variable {d:Dk} {n:List UInt8} {size:Nat}
theorem do_chgA {c:Chn} : (doN d n c).1.chg≤d.chg+1:=by
 unfold doN powerN
 repeat' split
 all_goals (simp only;omega)
theorem remove_chg:(removeN d n).1.chg≤d.chg+1:=by
 unfold removeN;repeat' split
 all_goals first | exact do_chgA | (simp only;omega)
theorem sync_chg:(syncN d n).1.chg≤d.chg+1:=by
 unfold syncN powerN;repeat' split
 all_goals (simp only;omega)
section
variable {l:List Fr} {d1 d2:Dk} {i e2:Nat}
theorem pg_mul {x:Int} {s:Nat} (h1:0≤x) (h2:x≤1048576) (hs:s≤4096):0≤x*s∧x*s≤4294967296:=
 ⟨Int.mul_nonneg h1 (by omega),by have:=Int.mul_le_mul h2 (show (s:Int)≤4096 by omega) (by omega) (by omega);omega⟩
end
end
open Go Go.HL
structure St where
 z:Nat
 sure:List (List UInt8)
 in_:Bool
 now:List (List UInt8)
 saves:List (List (List UInt8))
def Hd.enc (H:Hd):List UInt8:=hdB [H.size.toNat,H.pages.toNat,H.free.toNat,H.many.toNat,H.cookie.toNat,H.version.toNat]
def wth (l:List (List UInt8)) (no:Nat) (b:List UInt8):List (List UInt8):=if l.length<no then l++[b] else l.set (no-1) b
def pg1 (z:Nat) (H:Hd):List UInt8:=H.enc++List.replicate (z-64) 0
namespace St
variable (w:St)
def pgs:List (List UInt8):=if w.in_=true then w.now else w.sure
def head:Hd:=if w.pgs=[] then hd0 else { (decN (w.pgs.headD [])).1 with size:=(w.z:Int),pages:=(w.pgs.length:Int) }
def begin_:St × Nat:=if w.in_=true then (w,10) else ({ w with in_:=true,now:=w.sure,saves:=[] },0)
def commit:St × Nat:=if w.in_=false then (w,10) else (⟨w.z,w.now,false,[],[]⟩,0)
def save:St × Nat:=if w.in_=false then (w,10) else if 16≤w.saves.length then (w,5) else ({ w with saves:=w.saves++[w.now] },0)
def back (n:Int):St × Nat:=if w.in_=false then (w,10) else if n<0∨(w.saves.length:Int)≤n then (w,1) else ({ w with now:=w.saves.getD n.toNat [],saves:=w.saves.take (n.toNat+1) },0)
def setHead (H:Hd):St × Nat:=if w.in_=false then (w,10) else if ¬ChkP H∨H.size≠(w.z:Int)∨(max 1 (w.now.length:Int))<H.pages then (w,1) else ({ w with now:=(wth w.now 1 (pg1 w.z H)).take H.pages.toNat },0)
def read (no:Int):List UInt8 × Nat:=if no<1∨(w.pgs.length:Int)<no then ([],1) else (w.pgs.getD (no-1).toNat [],0)
def write (no:Int) (b:List UInt8):St × Nat:=
 if w.in_=false then (w,10) else if no<2∨(w.now.length:Int)+1<no∨w.now=[]∨b.length≠w.z then (w,1) else if 1048576<no∨16777216<no*(w.z:Int) then (w,5) else ({ w with now:=wth w.now no.toNat b },0)
end St
def hok (b:List UInt8) (z:Nat):Prop:=(decN b).2=0∧(decN b).1.size=(z:Int)
structure PgsK (z:Nat) (l:List (List UInt8)):Prop where
 len:∀b∈l,b.length=z
 hd:l≠[]→hok (l.headD []) z
 many:l.length*z≤16777216
structure StOk (w:St):Prop where
 z:okSz w.z=true
 sure:PgsK w.z w.sure
 now:PgsK w.z w.now
 saves:∀l∈w.saves,PgsK w.z l
 few:w.saves.length≤16
 out:w.in_=false→w.now=[]∧w.saves=[]
theorem hdB_l6 {a b c d e f:Nat} : (hdB [a,b,c,d,e,f]).length=64:=by
 unfold hdB hdT hdF;simp [fixedN_len]
theorem enc_len {H:Hd} : H.enc.length=64:=hdB_l6
theorem okSz_c {n:Nat} (h:okSz n=true):n=256∨n=512∨n=1024∨n=2048∨n=4096:=by simpa [okSz,or_assoc] using h
theorem pg1_len {z:Nat} {H:Hd} (hz:okSz z=true):(pg1 z H).length=z:=by
 have:=okSz_c hz;unfold pg1;rw [List.length_append,enc_len,List.length_replicate];omega
theorem PgsK.nil {z:Nat} : PgsK z []:=⟨by simp,by simp,by simp⟩
theorem hdAt_enc {N:List Nat} {x:List UInt8} {k:Nat} (hk:k<N.length) (hN:N.length=6) (hb:N[k]<4294967296):hdAt (hdB N++x) k=N[k]:=by
 have e:hdB N++x=(signL++hdF (N.take k))++(fixedN N[k] 4++(hdF (N.drop (k+1))++(List.replicate 20 0++fixedN (sumN (hdT N)) 4++x))):=by
  have h1:hdF N=hdF (N.take k)++(fixedN N[k] 4++hdF (N.drop (k+1))):=by
   have h2:N=N.take k++N[k]::N.drop (k+1):=by rw [←List.drop_eq_getElem_cons hk,List.take_append_drop]
   have h3:hdF N=hdF (N.take k++N[k]::N.drop (k+1)):=congrArg hdF h2;rw [h3];unfold hdF;rw [List.map_append,List.flatten_append,List.map_cons,List.flatten_cons]
  unfold hdB;rw [show hdT N=signL++hdF N++List.replicate 20 0 from rfl,h1];simp only [List.append_assoc]
 have hl:(signL++hdF (N.take k)).length=16+4*k:=by
  have h1:∀(M:List Nat),(hdF M).length=4*M.length:=fun M=>by
   unfold hdF;induction M with
   | nil=>rfl
   | cons a M ih=>rw [List.map_cons,List.flatten_cons,List.length_append,fixedN_len,ih,List.length_cons];omega
  rw [List.length_append,h1,List.length_take];simp;omega
 unfold hdAt;rw [e,←hl,rdN_app (fixedN_len _ _),beN_fixed (by simpa using hb)]
theorem dec_encN {n0 n1 n2 n3 n4 n5:Nat} {x:List UInt8} (h0:n0<4294967296) (h1:n1<4294967296) (h2:n2<4294967296) (h3:n3<4294967296) (h4:n4<4294967296) (h5:n5<4294967296) (hc:ChkP ⟨(n0:Int),(n1:Int),(n2:Int),(n3:Int),(n4:Int),(n5:Int)⟩):decN (hdB [n0,n1,n2,n3,n4,n5]++x)=(⟨(n0:Int),(n1:Int),(n2:Int),(n3:Int),(n4:Int),(n5:Int)⟩,0):=by
 have a0:=hdAt_enc (N:=[n0,n1,n2,n3,n4,n5]) (x:=x) (k:=0) (by simp) rfl h0;have a1:=hdAt_enc (N:=[n0,n1,n2,n3,n4,n5]) (x:=x) (k:=1) (by simp) rfl h1;have a2:=hdAt_enc (N:=[n0,n1,n2,n3,n4,n5]) (x:=x) (k:=2) (by simp) rfl h2;have a3:=hdAt_enc (N:=[n0,n1,n2,n3,n4,n5]) (x:=x) (k:=3) (by simp) rfl h3;have a4:=hdAt_enc (N:=[n0,n1,n2,n3,n4,n5]) (x:=x) (k:=4) (by simp) rfl h4;have a5:=hdAt_enc (N:=[n0,n1,n2,n3,n4,n5]) (x:=x) (k:=5) (by simp) rfl h5;simp only [List.getElem_cons_zero,List.getElem_cons_succ] at a0 a1 a2 a3 a4 a5;have hl:(hdB [n0,n1,n2,n3,n4,n5]).length=64:=hdB_l6;have hd:decH (hdB [n0,n1,n2,n3,n4,n5]++x)=⟨(n0:Int),(n1:Int),(n2:Int),(n3:Int),(n4:Int),(n5:Int)⟩:=by unfold decH;rw [a0,a1,a2,a3,a4,a5]
 have hs:(hdB [n0,n1,n2,n3,n4,n5]++x).take 16=signL:=by
  unfold hdB hdT;simp only [List.append_assoc];exact List.take_left' rfl
 have hy:decY (hdB [n0,n1,n2,n3,n4,n5]++x):=by
  unfold decY;rw [hd,a0,a1,a2,a3,a4,a5];exact ⟨hc,(List.take_left' hl).symm⟩
 rw [dec0 (by rw [List.length_append];omega) hs hy,hd]
theorem dec_enc {H:Hd} (hc:ChkP H) (x:List UInt8):decN (H.enc++x)=(H,0):=by
 have h0:=okZ_cases hc.1;have h1:=hc.2.1;have h2:=hc.2.2.1;have h3:=hc.2.2.2;obtain ⟨a,b,c,d,e,f⟩:=H;simp only at h0 h1 h2 h3;obtain ⟨a,rfl⟩:∃n:Nat,a=(n:Int):=⟨a.toNat,by omega⟩;obtain ⟨b,rfl⟩:∃n:Nat,b=(n:Int):=⟨b.toNat,by omega⟩;obtain ⟨c,rfl⟩:∃n:Nat,c=(n:Int):=⟨c.toNat,by
  by_cases h:d=0
  ·have:=h2.2.2.1 h;omega
  ·have:=h2.2.2.2 (by omega);omega⟩
 obtain ⟨d,rfl⟩:∃n:Nat,d=(n:Int):=⟨d.toNat,by omega⟩;obtain ⟨e,rfl⟩:∃n:Nat,e=(n:Int):=⟨e.toNat,by omega⟩;obtain ⟨f,rfl⟩:∃n:Nat,f=(n:Int):=⟨f.toNat,by omega⟩;have hcb:c<4294967296:=by
  by_cases h:d=0
  ·have:=h2.2.2.1 (by omega);omega
  ·have:=h2.2.2.2 (by omega);omega
 have hdb:d<4294967296:=by have:=h1.2.1;have:=h2.2.1;omega
 have heb:e<4294967296:=by have:=h3.1.2;omega
 have hfb:f<4294967296:=by have:=h3.2.2;omega
 exact dec_encN (n0:=a) (n1:=b) (n2:=c) (n3:=d) (n4:=e) (n5:=f) (x:=x) (by omega) (by omega) hcb hdb heb hfb hc
theorem hok_pg1 {z:Nat} {H:Hd} (hc:ChkP H) (hz:H.size=(z:Int)):hok (pg1 z H) z:=by
 unfold hok pg1;rw [dec_enc hc];exact ⟨rfl,hz⟩
theorem wth_len {l:List (List UInt8)} {no:Nat} {b:List UInt8} (h2:no≤l.length+1):(wth l no b).length=max l.length no:=by
 unfold wth;split
 ·simp;omega
 ·simp;omega
theorem wth_get {l:List (List UInt8)} {no:Nat} {b:List UInt8} (h1:1≤no) (h2:no≤l.length+1) (i:Nat):(wth l no b)[i]? = if i+1=no then some b else l[i]?:=by
 unfold wth;split
 ·rename_i h;rw [List.getElem?_append];split
  ·rw [if_neg (by omega)]
  ·rename_i h3;by_cases h4:i+1=no
   ·rw [if_pos h4,show i-l.length=0 by omega];rfl
   ·rw [if_neg h4,List.getElem?_eq_none (l:=l) (by omega),List.getElem?_eq_none (by simp;omega)]
 ·rw [List.getElem?_set];by_cases h4:i+1=no
  ·rw [if_pos (by omega),if_pos h4,if_pos (by omega)]
  ·rw [if_neg (by omega),if_neg h4]
theorem wth_mem {l:List (List UInt8)} {no:Nat} {b x:List UInt8} (h:x∈wth l no b):x=b∨x∈l:=by
 unfold wth at h;split at h
 ·rcases List.mem_append.1 h with h | h
  ·exact .inr h
  ·exact .inl (List.mem_singleton.1 h)
 ·exact (List.mem_or_eq_of_mem_set h).symm
theorem headD_get (l:List (List UInt8)):l.headD []=(l[0]?).getD []:=by cases l<;>rfl
structure VW {β:Type} (f:β→List UInt8) (ov:List (Int × β)) (many:Nat) (S now:List (List UInt8)):Prop where
 len:now.length=many
 sm:∀(i:Nat) x,i<many→mget ov ((i:Int)+1)=some x→now[i]? = some (f x)
 nn:∀i:Nat,i<many→mget ov ((i:Int)+1)=none→i<S.length∧now[i]? = S[i]?
 key:∀p∈ov,1≤p.1∧p.1≤(many:Int)
section
variable {β:Type} {f:β→List UInt8} {ov:List (Int × β)} {many:Nat} {S now:List (List UInt8)}
theorem VW.begin:VW f ([]:List (Int × β)) S.length S S:=⟨rfl,fun _ _ _ h=>(by cases h),fun _ h _=>⟨h,rfl⟩,by simp⟩
theorem VW.put (v:VW f ov many S now) {no:Nat} {x:β} (h1:1≤no) (h2:no≤many+1):VW f (mput ov (no:Int) x) (max many no) S (wth now no (f x)):=by
 have hl:=v.len;refine ⟨by rw [wth_len (by omega),hl],fun i y hi hg=>?_,fun i hi hg=>?_,fun p hp=>?_⟩
 ·rw [mget_mput] at hg;rw [wth_get h1 (by omega)];split at hg
  ·injection hg with hg;subst hg;rw [if_pos (by omega)]
  ·rename_i h3;rw [if_neg (by omega)];exact v.sm i y (by omega) hg
 ·rw [mget_mput] at hg;rw [wth_get h1 (by omega)];split at hg
  ·cases hg
  ·rename_i h3;rw [if_neg (by omega)];exact v.nn i (by omega) hg
 ·rcases mem_mput hp with rfl | hp
  ·simp only;omega
  ·have:=v.key p hp;omega
theorem mget_filt (n:Int) (k:Int):mget (ov.filter fun p=>decide (p.1≤n)) k=if k≤n then mget ov k else none:=by
 induction ov with
 | nil=>simp [mget]
 | cons p l ih=>
  rw [List.filter_cons];by_cases h:p.1≤n
  ·rw [if_pos (by simpa using h),mget_cons,mget_cons,ih];by_cases h2:p.1=k
   ·rw [if_pos h2,if_pos h2,if_pos (by omega)]
   ·rw [if_neg h2,if_neg h2]
  ·rw [if_neg (by simpa using h),ih,mget_cons];by_cases h3:k≤n
   ·rw [if_pos h3,if_pos h3,if_neg (by omega)]
   ·rw [if_neg h3,if_neg h3]
theorem VW.cut (v:VW f ov many S now) {n:Nat} (hn:n≤many):VW f (ov.filter fun p=>decide (p.1≤(n:Int))) n S (now.take n):=by
 have hl:=v.len;refine ⟨by rw [List.length_take];omega,fun i y hi hg=>?_,fun i hi hg=>?_,fun p hp=>?_⟩
 ·rw [mget_filt,if_pos (by omega)] at hg;rw [List.getElem?_take_of_lt hi];exact v.sm i y (by omega) hg
 ·rw [mget_filt,if_pos (by omega)] at hg;rw [List.getElem?_take_of_lt hi];exact v.nn i (by omega) hg
 ·have:=List.mem_filter.1 hp;have h2:=v.key p this.1;have h3:p.1≤(n:Int):=by simpa using this.2
  exact ⟨h2.1,h3⟩
end
theorem PgsK.wth {z no:Nat} {l:List (List UInt8)} {b:List UInt8} (p:PgsK z l) (hb:b.length=z) (h1:1≤no) (h2:no≤l.length+1) (hm:no*z≤16777216) (hh:no=1∨l=[]→hok b z):PgsK z (wth l no b):=by
 refine ⟨fun x hx=>(wth_mem hx).elim (fun e=>e▸hb) (p.len x),fun _=>?_,?_⟩
 ·rw [headD_get,wth_get h1 h2];by_cases h3:0+1=no
  ·rw [if_pos h3];exact hh (.inl h3.symm)
  ·rw [if_neg h3];have:l≠[]:=fun e=>by subst e;simp at h2;omega
   rw [←headD_get];exact p.hd this
 ·rw [wth_len h2];have:=p.many;rcases Nat.le_total l.length no with h | h
  ·rw [Nat.max_eq_right h];exact hm
  ·rw [Nat.max_eq_left h];exact this
theorem PgsK.take {z:Nat} {l:List (List UInt8)} (p:PgsK z l) (n:Nat):PgsK z (l.take n):=by
 refine ⟨fun x hx=>p.len x (List.mem_of_mem_take hx),fun h=>?_,Nat.le_trans (Nat.mul_le_mul_right _ (by rw [List.length_take];omega)) p.many⟩;cases n with
 | zero=>simp at h
 | succ n=>
  cases l with
  | nil=>simp at h
  | cons a l=>exact p.hd (by simp)
open Go Go.HL
structure RC where
 kind:Nat
 pos:Nat
 ba:Option Addr
 bc:Nat
 bl:List UInt8
def RC.abs (c:RC):Chn:=⟨c.kind,c.pos,c.bl⟩
def RC.cells (c:RC):List Value:=[.int .i64 (c.kind:Int),.int .i64 (c.pos:Int),.slice c.ba c.bl.length c.bc]
theorem RC.cells_len (c:RC):c.cells.length=3:=rfl
structure RF where
 blk:Nat
 na:Option Addr
 nc:Nat
 nl:List UInt8
 sa:Option Addr
 sc:Nat
 sl:List UInt8
 here:Bool
 was:Bool
 oa:Option Addr
 oc:Nat
 ol:List RC
def RF.abs (f:RF):Fl:=⟨f.nl,f.sl,f.here,f.was,f.ol.map RC.abs⟩
@[reducible] def fboxI (f:RF):Itm:=boxI f.blk 156 [.slice f.na f.nl.length f.nc,.slice f.sa f.sl.length f.sc,.bool f.here,.bool f.was,.slice f.oa f.ol.length f.oc]
@[reducible] def fopnI (f:RF):Itm:=capI 3 158 (f.oa,f.ol.length,f.oc) (f.ol.flatMap RC.cells)
def fileI (f:RF):List Itm:=[fboxI f,fopnI f]
abbrev Fs:=List (List UInt8 × RF)
def flsI (fs:Fs):Itm:=starI (fs.flatMap fun p=>fileI p.2)
def ptrF (f:RF):Value:=.pointer (some ⟨f.blk,0,none⟩)
def ents (fs:Fs):List (List UInt8 × Value):=fs.map fun p=>(p.1,ptrF p.2)
def bget (fs:Fs) (n:List UInt8):Option RF:=(fs.find? fun p=>p.1=n).map (·.2)
def bput:Fs→List UInt8→RF→Fs
 | [],n,f=>[(n,f)]
 | p::l,n,f=>if p.1=n then (n,f)::l else p::bput l n f
def bdel (fs:Fs) (n:List UInt8):Fs:=fs.filter fun p=>decide (p.1≠n)
structure RD where
 m:Nat
 fs:Fs
 dark:Bool
 left:Int
 chg:Int
def RD.abs (r:RD):Dk:=⟨fun n=>(bget r.fs n).map RF.abs,r.dark,r.left,r.chg⟩
@[reducible] def dboxI (d:Nat) (r:RD):Itm:=boxI d 137 [.map (some r.m),.bool r.dark,.int .i64 r.left,.int .i64 r.chg]
def dskI (d:Nat) (r:RD):Itm:=starI (dboxI d r::mapI kvB r.m (ents r.fs)::r.fs.flatMap fun p=>fileI p.2)
section
variable {fs:Fs} {n m:List UInt8} {f g:RF}
theorem bget_mem:∀ {fs:Fs},bget fs n=some f→(n,f)∈fs
 | [],h=>by simp [bget] at h
 | p::l,h=>by
  by_cases hp:p.1=n
  ·subst hp;simp [bget] at h;subst h;exact List.mem_cons_self
  ·exact List.mem_cons_of_mem _ (bget_mem (fs:=l) (by simpa [bget,hp] using h))
theorem bget_cons (p:List UInt8 × RF) (l:Fs) (n:List UInt8):bget (p::l) n=if p.1=n then some p.2 else bget l n:=by
 by_cases h:p.1=n<;>simp [bget,h]
theorem bput_cons (p:List UInt8 × RF) (l:Fs) (n:List UInt8) (f:RF):bput (p::l) n f=if p.1=n then (n,f)::l else p::bput l n f:=rfl
theorem bget_put:bget (bput fs n f) m=if m=n then some f else bget fs m:=by
 induction fs with
 | nil=>by_cases h:n=m<;>simp [bput,bget,h,eq_comm]
 | cons p l ih=>
  rw [bput_cons];split
  ·rename_i h;rw [bget_cons,bget_cons];by_cases h2:n=m
   ·subst h2;simp
   ·rw [if_neg h2,if_neg (by intro e;exact h2 e.symm),if_neg (by rw [h];exact h2)]
  ·rename_i h;rw [bget_cons,bget_cons,ih];by_cases h2:p.1=m
   ·rw [if_pos h2,if_pos h2,if_neg (by intro e;exact h (h2.trans e))]
   ·rw [if_neg h2,if_neg h2]
theorem bget_del:bget (bdel fs n) m=if m=n then none else bget fs m:=by
 induction fs with
 | nil=>simp [bdel,bget]
 | cons p l ih=>
  rw [bget_cons];unfold bdel at ih⊢;rw [List.filter_cons];by_cases h:p.1=n
  ·simp only [h,ne_eq,not_true,decide_false];by_cases h2:m=n
   ·subst h2;simpa using ih
   ·have h3:¬n=m:=fun e=>h2 e.symm;rw [if_neg h3];simpa using ih
  ·simp only [h,ne_eq,not_false_iff,decide_true,if_true];rw [bget_cons,ih];by_cases h2:p.1=m
   ·have h3:¬m=n:=fun e=>h (h2.trans e);simp [h2,h3]
   ·simp [h2]
theorem bget_none_iff:bget fs n=none↔∀p∈fs,p.1≠n:=by
 induction fs with
 | nil=>simp [bget]
 | cons p l ih=>
  rw [bget_cons];by_cases h:p.1=n
  ·simp [h]
  ·simp [h,ih]
theorem bdel_none (h:bget fs n=none):bdel fs n=fs:=by
 unfold bdel;rw [List.filter_eq_self];intro p hp;simpa using bget_none_iff.1 h p hp
theorem perm_get (hn:(fs.map (·.1)).Nodup) (h:bget fs n=some f):fs.Perm ((n,f)::bdel fs n):=by
 induction fs with
 | nil=>simp [bget] at h
 | cons p l ih=>
  have h1:=List.nodup_cons.1 hn;rw [bget_cons] at h;by_cases hp:p.1=n
  ·rw [if_pos hp] at h;injection h with h;have e:bdel (p::l) n=l:=by
    have:bget l n=none:=bget_none_iff.2 fun q hq e=>h1.1 (List.mem_map.2 ⟨q,hq,e.trans hp.symm⟩);have h2:=bdel_none this;unfold bdel at h2⊢;rw [List.filter_cons];simp [hp];simpa using h2
   rw [e,←h,←hp]
  ·rw [if_neg hp] at h;have e:bdel (p::l) n=p::bdel l n:=by unfold bdel;rw [List.filter_cons];simp [hp]
   rw [e];exact ((ih h1.2 h).cons p).trans (.swap _ _ _)
theorem bdel_put:bdel (bput fs n f) n=bdel fs n:=by
 induction fs with
 | nil=>simp [bput,bdel]
 | cons p l ih=>
  rw [bput_cons];split
  ·rename_i h;simp [bdel,h]
  ·rename_i h;unfold bdel at ih⊢;rw [List.filter_cons,List.filter_cons,ih]
theorem keys_put (f:RF) (h:bget fs n=some g):(bput fs n f).map (·.1)=fs.map (·.1):=by
 induction fs with
 | nil=>simp [bget] at h
 | cons p l ih=>
  rw [bput_cons];split
  ·rename_i hp;simp [hp]
  ·rename_i hp;rw [bget_cons,if_neg hp] at h;simp [ih h]
theorem bput_none (h:bget fs n=none):bput fs n f=fs++[(n,f)]:=by
 induction fs with
 | nil=>rfl
 | cons p l ih=>
  rw [bget_cons] at h;split at h
  ·cases h
  ·rename_i hp;rw [bput_cons,if_neg hp,ih h];rfl
theorem nodup_put (hn:(fs.map (·.1)).Nodup):((bput fs n f).map (·.1)).Nodup:=by
 cases h:bget fs n with
 | some g=>rw [keys_put f h];exact hn
 | none=>
  rw [bput_none h,List.map_append];refine List.nodup_append.2 ⟨hn,by simp,fun a ha b hb=>?_⟩;obtain ⟨p,hp,rfl⟩:=List.mem_map.1 ha;simp at hb;subst hb;exact bget_none_iff.1 h p hp
theorem perm_put (hn:(fs.map (·.1)).Nodup):(bput fs n f).Perm ((n,f)::bdel fs n):=by
 have h:=perm_get (fs:=bput fs n f) (n:=n) (f:=f) (nodup_put hn) (by rw [bget_put,if_pos rfl]);rwa [bdel_put] at h
theorem ents_keys:(ents fs).map (·.1)=fs.map (·.1):=by simp [ents,Function.comp_def]
theorem ents_get:aget (ents fs) n=(bget fs n).map ptrF:=by
 induction fs with
 | nil=>rfl
 | cons p l ih=>
  rw [bget_cons];by_cases h:p.1=n
  ·simp [ents,aget,h]
  ·simpa [ents,aget,h] using ih
theorem ents_put:aput (ents fs) n (ptrF f)=ents (bput fs n f):=by
 induction fs with
 | nil=>rfl
 | cons p l ih=>
  rw [bput_cons];by_cases h:p.1=n
  ·simp [ents,aput,h]
  ·simpa [ents,aput,h] using ih
theorem ents_same (h:bget fs n=some g) (hb:f.blk=g.blk):ents (bput fs n f)=ents fs:=by
 induction fs with
 | nil=>simp [bget] at h
 | cons p l ih=>
  rw [bput_cons];rw [bget_cons] at h;by_cases hp:p.1=n
  ·rw [if_pos hp] at h⊢;injection h with h;subst h;simp [ents,hp,ptrF,hb]
  ·rw [if_neg hp] at h⊢;simpa [ents] using ih h
theorem ents_del:adel (ents fs) n=ents (bdel fs n):=by simp [adel,ents,bdel,List.filter_map,Function.comp_def]
end
end Go.Proofs.YtndlpekckpdncaaGreat
namespace Go.HL
open Go Go.Proofs.YtndlpekckpdncaaGreat
section
variable {h0 h h':Heap} {D G:Nat→Prop} {M R:List Itm} {d:Nat} {r r':RD} {fs:Fs} {n:List UInt8} {f:RF} {E E':Nat→Prop}
theorem Hp.dopn (ok:Hp h0 D (dskI d r::M) R h):Hp h0 D (dboxI d r::mapI kvB r.m (ents r.fs)::flsI r.fs::M) R h:=Hp.star2 ok
theorem Hp.dcls (ok:Hp h0 D (dboxI d r::mapI kvB r.m (ents r.fs)::flsI r.fs::M) R h):Hp h0 D (dskI d r::M) R h:=Hp.unstar2 ok
theorem Hp.fopn (hn:(fs.map (·.1)).Nodup) (hg:bget fs n=some f) (ok:Hp h0 D (flsI fs::M) R h):Hp h0 D (fboxI f::fopnI f::flsI (bdel fs n)::M) R h:=
 Hp.star2 (Hp.starP (l':=((n,f)::bdel fs n).flatMap fun p:List UInt8 × RF=>fileI p.2) ok ((perm_get hn hg).flatMap_right _).symm)
theorem Hp.fcls (hn:(fs.map (·.1)).Nodup) (ok:Hp h0 D (fboxI f::fopnI f::flsI (bdel fs n)::M) R h):Hp h0 D (flsI (bput fs n f)::M) R h:=
 Hp.starP (l':=(bput fs n f).flatMap fun p:List UInt8 × RF=>fileI p.2) (Hp.unstar2 ok) ((perm_put hn).flatMap_right _)
structure ByF (h:Heap) (E:Nat→Prop) (f:RF):Prop where
 now:RdL h E E (f.na,f.nl.length,f.nc) f.nl
 safe:RdL h E E (f.sa,f.sl.length,f.sc) f.sl
 opn:∀c∈f.ol,RdL h E E (c.ba,c.bl.length,c.bc) c.bl
theorem ByF.st (c:Chg G h h') (hE:∀j,E j→¬G j) (b:ByF h E f):ByF h' E f:=⟨b.now.st c hE hE,b.safe.st c hE hE,fun x hx=>(b.opn x hx).st c hE hE⟩
theorem ByF.mono (hE:∀j,E j→E' j) (b:ByF h E f):ByF h E' f:=⟨b.now.mono hE hE,b.safe.mono hE hE,fun x hx=>(b.opn x hx).mono hE hE⟩
def Bys (h:Heap) (E:Nat→Prop) (fs:Fs):Prop:=∀p∈fs,ByF h E p.2
@[reducible] def bysI (E:Nat→Prop) (fs:Fs):Itm:=⟨fun h=>Bys h E fs,E,fun _ _ _ c d b p hp=>(b p hp).st c d⟩
theorem Bys.get (b:Bys h E fs) (hg:bget fs n=some f):ByF h E f:=b _ (bget_mem hg)
theorem Bys.mono (hE:∀j,E j→E' j) (b:Bys h E fs):Bys h E' fs:=fun p hp=>(b p hp).mono hE
theorem mem_bput {fs:Fs} {n:List UInt8} {f:RF} {p:List UInt8 × RF} (h:p∈bput fs n f):p=(n,f)∨p∈fs:=by
 induction fs with
 | nil=>simp [bput] at h;exact .inl h
 | cons q l ih=>
  rw [bput_cons] at h;split at h
  ·rcases List.mem_cons.1 h with h | h
   ·exact .inl h
   ·exact .inr (List.mem_cons_of_mem _ h)
  ·rcases List.mem_cons.1 h with h | h
   ·exact .inr (by rw [h];exact List.mem_cons_self)
   ·exact (ih h).imp id (List.mem_cons_of_mem _)
theorem Bys.put (b:Bys h E fs) (hf:ByF h E f):Bys h E (bput fs n f):=fun p hp=>by
 rcases mem_bput hp with rfl | hp
 ·exact hf
 ·exact b p hp
theorem Bys.del (b:Bys h E fs):Bys h E (bdel fs n):=fun p hp=>b p ((List.mem_filter.1 hp).1)
structure DUp (h h':Heap) (d:Nat) (r r':RD) (E E':Nat→Prop):Prop where
 hp:Hp h (dskI d r).F [dskI d r'] [bysI E' r'.fs] h'
 new:∀j,E' j→E j∨h.size≤j
theorem Hp.loc1 {a b:Itm} (ok:Hp h0 D (a::M) (b::R) h):Hp h a.F [a] [b] h:=
 ⟨Chg.refl _ _,fun i hi=>by
  rw [List.mem_singleton.1 hi];exact ⟨ok.m0,fun j hj=>⟨((ok.m a List.mem_cons_self).2 j hj).1,.inl hj⟩⟩,fun i hi=>by
  rw [List.mem_singleton.1 hi];exact ok.r b List.mem_cons_self,List.pairwise_singleton _ _,fun x hx y hy=>by
  rw [List.mem_singleton.1 hx,List.mem_singleton.1 hy];exact ok.mr a List.mem_cons_self b List.mem_cons_self⟩
theorem Hp.rdo {a b:Itm} (ok:Hp h0 D (a::M) (b::R) h):Hp h none_ [] [a,b] h:=
 ⟨Chg.refl _ _,by simp,fun i hi=>by
  rcases List.mem_cons.1 hi with rfl | hi
  ·exact ⟨ok.m0,fun j hj=>((ok.m i List.mem_cons_self).2 j hj).1⟩
  ·rw [List.mem_singleton.1 hi];exact ok.r b List.mem_cons_self,.nil,by simp⟩
theorem Hp.dsk (ok:Hp h0 D (dskI d r::M) (bysI E r.fs::R) h) (q:DUp h h' d r r' E E'):Hp h0 D (dskI d r'::M) (bysI E' r'.fs::R) h':=by
 have o:=ok.upd q.hp.chg (fun _ x=>x) (dskI d r') q.hp.m0 fun j hj=>by
  have h1:=(q.hp.m _ List.mem_cons_self).2 j hj;exact h1.2.imp id fun h=>⟨h,h1.1⟩
 refine ⟨o.chg,o.m,fun i hi=>?_,o.mm,fun x hx y hy j hj hj2=>?_⟩
 ·rcases List.mem_cons.1 hi with rfl | hi
  ·exact q.hp.r _ List.mem_cons_self
  ·exact o.r i (List.mem_cons_of_mem _ hi)
 ·rcases List.mem_cons.1 hy with rfl | hy
  ·rcases List.mem_cons.1 hx with rfl | hx
   ·exact q.hp.mr _ List.mem_cons_self _ List.mem_cons_self j hj hj2
   ·rcases q.new j hj2 with h1 | h1
    ·exact ok.mr x (List.mem_cons_of_mem _ hx) _ List.mem_cons_self j hj h1
    ·have:=((ok.m x (List.mem_cons_of_mem _ hx)).2 j hj).1;omega
  ·exact o.mr x hx y (List.mem_cons_of_mem _ hy) j hj hj2
theorem Hp.up {R':List Itm} (q:Hp h (dskI d r).F [dskI d r'] (bysI E' r'.fs::R') h') (hE:∀j,E' j→E j∨h.size≤j):DUp h h' d r r' E E':=⟨q.sub (by simp),hE⟩
theorem Hp.lift1 {a b:Itm} (ok:Hp h0 D (a::M) R h) (q:Hp h a.F [b] [] h'):Hp h0 D (b::M) R h':=
 ok.upd q.chg (fun _ x=>x) b q.m0 fun j hj=>by
  have h1:=(q.m _ List.mem_cons_self).2 j hj;exact h1.2.imp id fun h=>⟨h,h1.1⟩
theorem Hp.loc0 {a:Itm} (ok:Hp h0 D (a::M) R h):Hp h a.F [a] [] h:=
 ⟨Chg.refl _ _,fun i hi=>by
  rw [List.mem_singleton.1 hi];exact ⟨ok.m0,fun j hj=>⟨((ok.m a List.mem_cons_self).2 j hj).1,.inl hj⟩⟩,by simp,List.pairwise_singleton _ _,by simp⟩
end
end Go.HL
namespace Go.Proofs.YtndlpekckpdncaaGreat
open Go Go.HL
theorem long_cut {h0 h:Heap} {D:Nat→Prop} {M R:List Itm} {e:TypeId} {a:Option Addr} {c n:Nat} {l:List UInt8} (ok:Hp h0 D (capI 1 e (a,l.length,c) (l.map bv)::M) R h) (hn:n≤l.length):Hp h0 D (capI 1 e (a,(longN l n).length,n) ((longN l n).map bv)::M) R h:=by
 have h1:=Cap.clip (Cap.pre ok.m0 hn);rw [Nat.mul_one,←List.map_take,←longN_le hn] at h1;refine ok.re _ (by simp only [longN_len];exact h1) fun j hj=>?_;obtain ⟨o,n',c',hv⟩:=hj;injection hv with h1 h2 h3;exact ⟨o,_,_,by rw [←h1]⟩
theorem long_any {h:Heap} {n:Nat} {a:Option Addr} {c:Nat} {l:List UInt8} (ok:Hp h (blkC (sv (a,l.length,c))) [capI 1 5 (a,l.length,c) (l.map bv)] [] h) (hN:l.length≤100000000) (hn:n≤100000000) :
  HC Tryz.prog 150 #[.slice a l.length c,.int .i64 (n:Int)] h (fun v h'=>∃a' c',v=.slice a' (longN l n).length c'∧Hp h (blkC (sv (a,l.length,c))) [capI 1 5 (a',(longN l n).length,c') ((longN l n).map bv)] [] h'):=by
 have hle:l.length≤c:=Cap.le ok.m0;refine HC.go Tryz.func150 19 ?_;refine .seq<|.r<|.z .asS<|.nil ?_;refine .seq<|.seq<|.r<|.z .mvI<|.z .mvS<|.z (.len T.el44)<|.z .leq<|.nil ?_;refine .cd (fun C0=>?_) (fun C0=>?_)
 ·
  refine .seq<|.r<|.z .mvS<|.z .mvI<|.z .mvI<|.z (.slhm n n T.el44 T.sz5)<|.z .asS<|.nil ?_;refine .ret ⟨.slice a n n,Res.one rfl rfl,⟨a,n,by rw [longN_len],long_cut ok (by omega)⟩⟩
 refine .skip<|.seq<|.r<|.z .mvS<|.z .mvI<|.z .mvS<|.z (.len T.el44)<|.z .sub<|.a' 18 (.apz (z:=((n:Int)-(l.length:Int))) (n-l.length) T.el44 T.in3 T.sz5 T.by5 T.zr5 ok (by omega) (by omega)) ?_;rintro _ η1 ⟨ya1,yc1,rfl,ok⟩;refine .z .asS<|.nil ?_;refine .ret ⟨.slice ya1 ((l++List.replicate (n-l.length) 0).length) yc1,Res.one rfl rfl,⟨_,_,by rw [longN_ge (by omega)],by rw [longN_ge (by omega)];exact ok⟩⟩
theorem done0 {pos:Nat} {bl l:List UInt8} {here:Bool} : doneN ⟨0,pos,bl⟩ l here=(patchN (longN l (max l.length (pos+bl.length))) pos bl,true):=by simp [doneN]
theorem done1 {pos:Nat} {bl l:List UInt8} : doneN ⟨1,pos,bl⟩ l true=(longN l pos,true):=by simp [doneN]
theorem done2 {kind pos:Nat} {bl l:List UInt8} {here:Bool} (h1:kind≠0) (h2:kind=1→here=false):doneN ⟨kind,pos,bl⟩ l here=([],false):=by
 unfold doneN;rw [if_neg h1,if_neg];rintro ⟨h3,h4⟩;simp only at h3;rw [h2 h3] at h4;cases h4
theorem spl_patch {o b:List UInt8} {p:Nat} : spl (o.map bv) (p*1) (b.map bv)=(patchN o p b).map bv:=by simp [spl,patchN]
theorem done_any {h:Heap} {F E F2 E2:Nat→Prop} {kind pos:Nat} {ba a:Option Addr} {bc c:Nat} {bl l:List UInt8} {here:Bool} (hb:RdL h F2 E2 (ba,bl.length,bc) bl) (hl:RdL h F E (a,l.length,c) l) (hp:pos+bl.length≤16777216) (hL:l.length≤16777216) :
  HC Tryz.prog 108 #[.agg #[.int .i64 (kind:Int),.int .i64 (pos:Int),.slice ba bl.length bc],.slice a l.length c,.bool here] h (fun v h'=>∃w,v=.tuple #[w,.bool (doneN ⟨kind,pos,bl⟩ l here).2]∧Own h h' 1 5 w ((doneN ⟨kind,pos,bl⟩ l here).1.map bv)):=by
 have ok:=((Hp.nil h none_).arg hb).arg hl;refine HC.go Tryz.func108 45 ?_;refine .seq<|.r<|.a' 3 (.bxA (cs:=[.int .i64 (kind:Int),.int .i64 (pos:Int),.slice ba bl.length bc]) ok) ?_;rintro _ η1 ⟨pb1,rfl,ok,xe⟩;refine .z .asS<|.z .asB<|.nil ?_;refine .seq<|.block fun K0 hK0=>.seq<|.r<|.z (.fa T.fd158_0)<|.z (.ldx T.ag3 ok.m0)<|.z .eql<|.z .asB<|.nil ?_;refine .cd (fun C0=>?_) (fun C0=>?_)
 ·
  refine .seq<|.a 13 (fun fl hh=>Hp h none_ [boxI pb1 158 [.int .i64 (kind:Int),.int .i64 (pos:Int),.slice ba bl.length bc]] [rdI (fun j=>F j∧j<h.size) (fun j=>E j∧j<h.size) (a,l.length,c) l,rdI (fun j=>F2 j∧j<h.size) (fun j=>E2 j∧j<h.size) (ba,bl.length,bc) bl] hh) mixed ?_;have hS:=ok;refine .g 0 false rfl 13 hS (fun _=>.mvS)<|.g 2 false rfl 15 hS (fun _=>.mvS)<|.g 3 false rfl 16 hS (fun _=>.len T.el44)<|.g 4 false rfl 17 hS (fun _=>.fa T.fd158_1)<|.lw 5 false rfl 18 hS (fun _ _ hS=>.ldx T.ag3 hS.m0)<|.g 6 false rfl 19 hS (fun _=>.fa T.fd158_2)<|.lw 7 false rfl 20 hS (fun _ _ hS=>.ldx T.ag44 hS.m0)<|.g 8 false rfl 21 hS (fun _=>.len T.el44)<|.g 9 false rfl 22 hS (fun _=>.addI)<|.g 10 false rfl 23 hS (fun _=>.maxn)<|.o1 1<|.c' false rfl 14 .func (bclone_any (a:=a) (c:=c) (l:=l) ok.r0 (by omega)) ?_;rintro _ η2 own;obtain ⟨ya1,yc1,rfl⟩:=own.formB;have ok:=ok.own own;refine ⟨ok.n1.k1,?_⟩;have hS:=ok.n1.k1;refine .o1 11<|.c' false rfl 24 .func (long_any (n:=(max l.length (pos+bl.length))) (ok).loc0 (by omega) (by omega)) ?_;rintro _ η3 ⟨ya2,yc2,rfl,q⟩;have ok:=(ok).lift1 q;refine ⟨ok.n1.k1,?_⟩;have hS:=ok.n1.k1;refine .g 12 false rfl 8 hS (fun _=>.asS)<|.e ?_;refine .seq<|.t 6 mixed ?_;simp only [List.take_succ_cons,List.take_zero,List.drop_succ_cons,List.drop_zero];refine .z .mvS<|.z (.fa T.fd158_1)<|.z (.ldx T.ag3 ok.m1)<|.z (.sll pos T.el44 T.sz5 (hb:=by rw [longN_len];omega))<|.z (.fa T.fd158_2)<|.z (.ldx T.ag44 ok.m1)<|.nil ?_;refine .a' 31 (.cpyA (n:=(longN l (max l.length (pos+bl.length))).length) (ys:=bl.map bv) (m:=bl.length) pos T.el44 T.sz5 ok ok.r1.by bv_all rfl (him:=by rw [longN_len];omega)) ?_;rintro _ η4 ⟨rfl,ok,cg⟩;refine .nil ?_;refine .seq<|.r<|.z .mvS<|.z .asS<|.z .asB<|.nil ?_;refine .ret ⟨.tuple #[.slice ya2 ((longN l (max l.length (pos+bl.length))).length) yc2,.bool true],Res.two rfl rfl rfl,⟨_,by rw [show kind=0 from by omega,done0],by rw [show kind=0 from by omega,done0];have ok:=(ok).cx spl_patch;exact ok.toOwn⟩⟩
 refine .seq<|.r<|.z (.fa T.fd158_0)<|.z (.ldx T.ag3 ok.m0)<|.z .eql<|.z .mvB<|.sd (fun G37=>?_) (fun G37=>?_)
 ·
  refine .z .mvB<|.z .pkt<|.z .asB<|.nil ?_;refine .cond (fun C1=>?_) (fun C1=>?_)
  ·
   refine .seq<|.a 4 (fun fl hh=>cond fl True (Hp h none_ [boxI pb1 158 [.int .i64 (kind:Int),.int .i64 (pos:Int),.slice ba bl.length bc]] [rdI (fun j=>F j∧j<h.size) (fun j=>E j∧j<h.size) (a,l.length,c) l,rdI (fun j=>F2 j∧j<h.size) (fun j=>E2 j∧j<h.size) (ba,bl.length,bc) bl] hh)) mixed ?_;have hS:=ok;refine .g 0 false rfl 40 hS (fun _=>.mvS)<|.g 2 false rfl 42 hS (fun _=>.fa T.fd158_1)<|.l 3 false rfl 43 hS (fun _ hS=>.ldx T.ag3 hS.m0)<|.o1 1<|.c' false rfl 41 .func (bclone_any (a:=a) (c:=c) (l:=l) ok.r0 (by omega)) ?_;rintro _ η5 own;obtain ⟨ya3,yc3,rfl⟩:=own.formB;have ok:=ok.own own;refine ⟨ok.n1.k1,?_⟩;have hS:=ok.n1.k1;refine .o1 4<|.c' true rfl 44 .func (long_any (n:=pos) (ok).loc0 (by omega) (by omega)) ?_;rintro _ η6 ⟨ya4,yc4,rfl,q⟩;have ok:=(ok).lift1 q;refine ⟨trivial,?_⟩;refine .g 5 true rfl 6 trivial (fun _=>.asS)<|.g 6 true rfl 7 trivial (fun _=>.asB)<|.e ?_;refine .ret ⟨.tuple #[.slice ya4 ((longN l pos).length) yc4,.bool true],Res.two rfl rfl rfl,⟨_,by rw [show kind=1 from by omega,C1,done1],by rw [show kind=1 from by omega,C1,done1];exact (ok).toOwn⟩⟩
  refine .skip<|.end<|hK0 _ _<|.seq<|.r<|.z .asS<|.z .asB<|.nil ?_;refine .ret ⟨.tuple #[.slice none 0 0,.bool false],Res.two rfl rfl rfl,⟨_,by rw [done2 (by omega) (by intro h1;first | exact absurd h1 (by omega) | simpa using C1)],by rw [done2 (by omega) (by intro h1;first | exact absurd h1 (by omega) | simpa using C1)];exact ok.tM.nilC.toOwn⟩⟩
 refine .y<|.z .pkf<|.z .asB<|.nil ?_;refine .cf<|.skip<|.end<|hK0 _ _<|.seq<|.r<|.z .asS<|.z .asB<|.nil ?_;refine .ret ⟨.tuple #[.slice none 0 0,.bool false],Res.two rfl rfl rfl,⟨_,by rw [done2 (by omega) (by intro h1;first | exact absurd h1 (by omega) | simpa using C1)],by rw [done2 (by omega) (by intro h1;first | exact absurd h1 (by omega) | simpa using C1)];exact ok.tM.nilC.toOwn⟩⟩
theorem RdL.ofCapI {h:Heap} {e:TypeId} {v:SV} {l:List Int} (c:Cap h 1 e (sv v) (l.map iv)):RdL h any_ any_ v l:=(RdL.of_cap1 (E:=any_) (f:=iv) rfl (fun _ _ _=>rfl) c).mono (fun _ _=>trivial) (fun _ h=>h)
theorem wrong1 {d:Dk} {n:List UInt8} {zs:List Int} (h:n.length<1∨32<n.length∨∃z∈zs,z<0):wrongN d n zs=1:=by unfold wrongN;rw [if_pos h]
theorem wrong13 {d:Dk} {n:List UInt8} {zs:List Int} (h:¬(n.length<1∨32<n.length∨∃z∈zs,z<0)) (hd:d.dark=true):wrongN d n zs=13:=by unfold wrongN;rw [if_neg h,if_pos hd]
theorem wrong0 {d:Dk} {n:List UInt8} {zs:List Int} (h:¬(n.length<1∨32<n.length∨∃z∈zs,z<0)) (hd:¬d.dark=true):wrongN d n zs=0:=by unfold wrongN;rw [if_neg h,if_neg hd]
theorem neg_any {h:Heap} {z:Int} :
  HC Tryz.prog 230 #[.int .i64 z] h (fun v h'=>v=.bool (decide (z<0))∧h'=h):=by
 refine HC.go Tryz.func230 5 ?_;refine .seq<|.r<|.z .asB<|.nil ?_;refine .seq<|.r<|.z .mvI<|.z .lss<|.z .asB<|.nil ?_;refine .ret ⟨.bool (decide (z<0)),Res.one rfl rfl,⟨rfl,rfl⟩⟩
theorem ixf_any {h:Heap} {F E:Nat→Prop} {a:Option Addr} {c:Nat} {l:List Int} (hl:RdL h F E (a,l.length,c) l) :
  HC Tryz.prog 246 #[.slice a l.length c,.func (.func 230) #[] #[]] h (fun v h'=>∃i:Int,v=.int .i64 i∧((0≤i∧∃z∈l,z<0)∨(i<0∧¬ ∃z∈l,z<0))∧h'=h):=by
 have hc2:=hl.m;have hc1:l.length≤c:=hl.c;simp only at hc2;refine HC.go Tryz.func246 19 ?_;refine .seq<|.r<|.z .asI<|.nil ?_;refine .seq<|.seq<|.r<|.z .mvS<|.z (.len T.el24)<|.z .mvI<|.nil ?_;refine .block fun K0 hK0=>.loop (fun m s hh=>∃(i:Nat),Has s [(0,.slice a l.length c),(1,.func (.func 230) #[] #[]),(7,.int .i64 (l.length:Int)),(8,.int .i64 (i:Int))]∧h=hh∧i≤l.length∧(∀j (hj:j<l.length),j<i→¬l[j]<0)∧m=l.length-i) ?_ ?_
 ·exact ⟨_,0,⟨rfl,rfl,rfl,rfl,trivial⟩,rfl,Nat.zero_le _,fun _ _ h=>absurd h (by omega),rfl⟩
 rintro _ _ _ ⟨i,hs,rfl,hi,hz,rfl⟩ J0 hJ0;refine .frame hs fun τ=>?_;refine .seq<|.r<|.z .lss<|.nil ?_;refine .seq<|.cdr (fun C0=>?_) (fun C0=>?_)
 ·
  have hil:i=l.length:=by omega
  refine .exit<|hK0 _ _<|.seq<|.r<|.z .asI<|.nil ?_;refine .ret ⟨.int .i64 (-1),Res.one rfl rfl,⟨_,rfl,.inr ⟨by decide,fun ⟨z,hzm,hz0⟩=>(by obtain ⟨j,hj,rfl⟩:=List.mem_iff_getElem.1 hzm;exact hz j hj (by omega) hz0)⟩,rfl⟩⟩
 have hil:i<l.length:=by omega
 refine .skip<|.seq<|.block fun K1 hK1=>.seq<|.r<|.z .mvI<|.z .asI<|.nil ?_;refine .seq<|.r<|.z .mvF<|.z .mvS<|.z .mvI<|?_;obtain ⟨bb1,oo1,rfl,fb1⟩:=hl.pos (by omega);refine .z (.ix1 i T.el24 T.sz3)<|.z (.ld T.ag3 (hl.i64 (i:=i) (by omega)))<|.k 16 .dyn (neg_any (z:=l[i]))<|.nil ?_;refine .cd (fun C1=>?_) (fun C1=>?_)
 ·
  refine .seq<|.r<|.z .mvI<|.z .asI<|.nil ?_;refine .ret ⟨.int .i64 (i:Int),Res.one rfl rfl,⟨_,rfl,.inl ⟨by omega,_,List.getElem_mem hil,C1⟩,rfl⟩⟩
 refine .skip<|.end<|hK1 _ _<|.r<|.z (.addI (b:=1))<|.z .mvI<|.nil ?_;refine .end<|hJ0 _ _ _ ⟨i+1,⟨rfl,rfl,rfl,rfl,trivial⟩,rfl,by omega,fun j hj h=>(by by_cases hji:j=i;(subst hji;exact C1);exact hz j hj (by omega)),rfl⟩ (by omega)
theorem anyneg_any {h:Heap} {F E:Nat→Prop} {a:Option Addr} {c:Nat} {l:List Int} (hl:RdL h F E (a,l.length,c) l) :
  HC Tryz.prog 229 #[.slice a l.length c,.func (.func 230) #[] #[]] h (fun v h'=>v=.bool (decide (∃z∈l,z<0))∧h'=h):=by
 have hc2:=hl.m;have hc1:l.length≤c:=hl.c;simp only at hc2;refine HC.go Tryz.func229 9 ?_;refine .seq<|.r<|.z .asB<|.nil ?_;refine .seq<|.r<|.z .mvS<|.z .mvF<|.c' 7 .func (ixf_any (a:=a) (c:=c) (l:=l) hl) ?_;rintro _ _ ⟨ix1,rfl,hix1,heq⟩;obtain rfl:=heq.symm;refine .z .geq<|.z .asB<|.nil ?_;refine .ret ⟨.bool (decide (0≤ix1)),Res.one rfl rfl,⟨congrArg Value.bool (decide_eq_decide.2 ⟨fun h1=>hix1.elim (·.2) fun h2=>absurd h1 (by omega),fun h1=>hix1.elim (·.1) fun h2=>absurd h1 h2.2⟩),rfl⟩⟩
theorem wrong_any {h:Heap} {F E:Nat→Prop} {d:Nat} {r:RD} {n:List UInt8} {a:Option Addr} {c:Nat} {l:List Int} (hd:(dboxI d r).p h) (hl:RdL h F E (a,l.length,c) l) :
  HC Tryz.prog 211 #[.pointer (some ⟨d,0,none⟩),.string (BA n),.slice a l.length c] h (fun v h'=>v=.int .i64 (wrongN r.abs n l:Int)∧h'=h):=by
 have hc2:=hl.m;have hc1:l.length≤c:=hl.c;simp only at hc2;refine HC.go Tryz.func211 28 ?_;refine .seq<|.r<|.z .asI<|.nil ?_;refine .seq<|.block fun K0 hK0=>.seq<|.r<|.z .mvP<|.z (.pEqS T.pt63)<|.z .asB<|.nil ?_;refine .cf<|.seq<|.r<|.z .mvT<|.z (.lenT T.st9)<|.z .lss<|.z .mvB<|.sd (fun G14=>?_) (fun G14=>?_)
 ·
  refine .y<|.y<|.y<|.z .pkt<|.z .mvB<|.y<|.y<|.z .pkt<|.z .asB<|.nil ?_;refine .ct<|.seq<|.r<|.z .asI<|.nil ?_;refine .ret ⟨.int .i64 1,Res.one rfl rfl,⟨by rw [wrong1 (by first | exact .inl (by omega) | exact .inr (.inl (by omega)) | exact .inr (.inr C1))];rfl,rfl⟩⟩
 refine .z .mvT<|.z (.lenT T.st9)<|.z .gtr<|.z .pkf<|.z .mvB<|.sd (fun G19=>?_) (fun G19=>?_)
 ·
  refine .y<|.y<|.z .pkt<|.z .asB<|.nil ?_;refine .ct<|.seq<|.r<|.z .asI<|.nil ?_;refine .ret ⟨.int .i64 1,Res.one rfl rfl,⟨by rw [wrong1 (by first | exact .inl (by omega) | exact .inr (.inl (by omega)) | exact .inr (.inr C1))];rfl,rfl⟩⟩
 refine .z .mvS<|.k 21 .func (anyneg_any (a:=a) (c:=c) (l:=l) hl)<|.z .pkf<|.z .asB<|.nil ?_;refine .cd (fun C1=>?_) (fun C1=>?_)
 ·
  refine .seq<|.r<|.z .asI<|.nil ?_;refine .ret ⟨.int .i64 1,Res.one rfl rfl,⟨by rw [wrong1 (by first | exact .inl (by omega) | exact .inr (.inl (by omega)) | exact .inr (.inr C1))];rfl,rfl⟩⟩
 refine .seq<|.r<|.z .mvP<|.z .nil<|.z (.fa T.fd137_1)<|.z (.ldx T.ag4 hd)<|.z .asB<|.nil ?_;refine .cond (fun C2=>?_) (fun C2=>?_)
 ·
  refine .seq<|.r<|.z .asI<|.nil ?_;refine .ret ⟨.int .i64 13,Res.one rfl rfl,⟨by rw [wrong13 (by rintro (h1 | h1 | h1);(omega);(omega);exact absurd h1 C1) (by show r.dark=true;exact C2)];rfl,rfl⟩⟩
 refine .skip<|.end<|hK0 _ _<|.seq<|.r<|.z .asI<|.nil ?_;refine .ret ⟨.int .i64 0,Res.one rfl rfl,⟨by rw [wrong0 (by rintro (h1 | h1 | h1);(omega);(omega);exact absurd h1 C1) (by show ¬r.dark=true;rw [C2];decide)];rfl,rfl⟩⟩
def lfR (r:RD):Int:=if 0<r.left then r.left-1 else r.left
def powerR (r:RD):RD × Nat:=if r.left=0 then (⟨r.m,r.fs,true,r.left,r.chg⟩,13) else (⟨r.m,r.fs,r.dark,lfR r,r.chg+1⟩,0)
theorem powerR_0 {r:RD} (h:r.left=0):powerR r=(⟨r.m,r.fs,true,r.left,r.chg⟩,13):=by unfold powerR;rw [if_pos h]
theorem powerR_1 {r:RD} (h:¬r.left=0):powerR r=(⟨r.m,r.fs,r.dark,lfR r,r.chg+1⟩,0):=by unfold powerR;rw [if_neg h]
theorem powerR_abs (r:RD):(powerR r).1.abs=(powerN r.abs).1∧(powerR r).2=(powerN r.abs).2:=by
 by_cases h:r.left=0
 ·rw [powerR_0 h];unfold powerN;rw [if_pos (by exact h)];exact ⟨rfl,rfl⟩
 ·rw [powerR_1 h];unfold powerN;rw [if_neg (by exact h)];exact ⟨rfl,rfl⟩
theorem powerR_fs (r:RD):(powerR r).1.fs=r.fs:=by unfold powerR;split<;>rfl
theorem lfR_1 {r:RD} (h:0<r.left):lfR r=r.left-1:=by unfold lfR;rw [if_pos h]
theorem lfR_0 {r:RD} (h:¬0<r.left):lfR r=r.left:=by unfold lfR;rw [if_neg h]
theorem power_any {h:Heap} {d:Nat} {r:RD} (ok:Hp h (dskI d r).F [dskI d r] [] h) (hk:DkOk r.abs) (hcg:r.chg<1000000000) :
  HC Tryz.prog 228 #[.pointer (some ⟨d,0,none⟩)] h (fun v h'=>v=.int .i64 ((powerR r).2:Int)∧Hp h (dskI d r).F [dskI d (powerR r).1] [] h'):=by
 have hl:r.left≤9223372036854775807:=hk.left;have hc0:0≤r.chg:=hk.chg;have ok:=ok.dopn;refine HC.go Tryz.func228 30 ?_;refine .seq<|.r<|.z .asI<|.nil ?_;refine .seq<|.seq<|.r<|.z .mvP<|.z .nil<|.z (.fa T.fd137_2)<|.z (.ldx T.ag3 ok.m0)<|.z .eql<|.nil ?_;refine .cd (fun C0=>?_) (fun C0=>?_)
 ·
  refine .seq<|.r<|.z .mvP<|.z .nil<|.z (.fa T.fd137_1)<|.ur' (.stB T.sz4 ok) ?_;rintro η1 ⟨ok,cg⟩;refine .nil ?_;refine .seq<|.r<|.z .asI<|.nil ?_;refine .ret ⟨.int .i64 13,Res.one rfl rfl,(by rw [powerR_0 C0];exact ⟨rfl,Hp.dcls (r:=⟨r.m,r.fs,true,r.left,r.chg⟩) ok⟩)⟩
 refine .skip<|.seq<|.seq<|.r<|.z .mvP<|.z .nil<|.z (.fa T.fd137_2)<|.z (.ldx T.ag3 ok.m0)<|.z .gtr<|.nil ?_;refine .cd (fun C1=>?_) (fun C1=>?_)
 ·
  refine .r<|.z .mvP<|.z .nil<|.z (.fa T.fd137_2)<|.z (.ldx T.ag3 ok.m0)<|.z .sub<|.z .nil<|.z (.fa T.fd137_2)<|.ur' (.stI T.sz3 ok) ?_;rintro η2 ⟨ok,cg⟩;refine .nil ?_;refine .seq<|.r<|.z .mvP<|.z .nil<|.z (.fa T.fd137_3)<|.z (.ldx T.ag3 ok.m0)<|.z .add<|.z .nil<|.z (.fa T.fd137_3)<|.ur' (.stI T.sz3 ok) ?_;rintro η3 ⟨ok,cg⟩;refine .nil ?_;refine .seq<|.r<|.z .asI<|.nil ?_;refine .ret ⟨.int .i64 0,Res.one rfl rfl,(by rw [powerR_1 C0];refine ⟨rfl,Hp.dcls (r:=⟨r.m,r.fs,r.dark,lfR r,r.chg+1⟩) ?_⟩;show Hp _ _ (boxI d _ [_,_,.int .i64 (lfR r),_]::_) _ _;rw [lfR_1 C1];exact ok)⟩
 refine .skip<|.seq<|.r<|.z .mvP<|.z .nil<|.z (.fa T.fd137_3)<|.z (.ldx T.ag3 ok.m0)<|.z .add<|.z .nil<|.z (.fa T.fd137_3)<|.ur' (.stI T.sz3 ok) ?_;rintro η4 ⟨ok,cg⟩;refine .nil ?_;refine .seq<|.r<|.z .asI<|.nil ?_;refine .ret ⟨.int .i64 0,Res.one rfl rfl,(by rw [powerR_1 C0];refine ⟨rfl,Hp.dcls (r:=⟨r.m,r.fs,r.dark,lfR r,r.chg+1⟩) ?_⟩;show Hp _ _ (boxI d _ [_,_,.int .i64 (lfR r),_]::_) _ _;rw [lfR_0 C1];exact ok)⟩
theorem dsk_parts {h:Heap} {d:Nat} {r:RD} (hd:(dskI d r).p h):(dboxI d r).p h∧MapT kvB h r.m (ents r.fs)∧(r.fs.map (·.1)).Nodup∧∀n f,bget r.fs n=some f→(fboxI f).p h:=by
 have h1:=hd.1 _ List.mem_cons_self;have h2:MapT kvB h r.m (ents r.fs):=hd.1 _ (List.mem_cons_of_mem _ List.mem_cons_self);refine ⟨h1,h2,by have:=h2.nodup;rwa [ents_keys] at this,fun n f hg=>hd.1 _ (List.mem_cons_of_mem _ (List.mem_cons_of_mem _ (List.mem_flatMap.2 ⟨_,bget_mem hg,?_⟩)))⟩;simp [fileI]
def ptrN (f:Option RF):Option Addr:=f.map fun f=>⟨f.blk,0,none⟩
theorem ents_getD {fs:Fs} {n:List UInt8} : (aget (ents fs) n).getD (.pointer none)=.pointer (ptrN (bget fs n)):=by
 rw [ents_get];cases bget fs n<;>rfl
theorem there_no {r:RD} {n:List UInt8} (h:bget r.fs n=none):thereN r.abs n=false:=by simp [thereN,RD.abs,h]
theorem there_f {r:RD} {n:List UInt8} {f:RF} (h:bget r.fs n=some f):thereN r.abs n=f.here:=by simp [thereN,RD.abs,h,RF.abs]
theorem there_any {h:Heap} {d:Nat} {r:RD} {n:List UInt8} (hd:(dskI d r).p h) :
  HC Tryz.prog 175 #[.pointer (some ⟨d,0,none⟩),.string (BA n)] h (fun v h'=>((thereN r.abs n=false∧v=.pointer none)∨∃f,bget r.fs n=some f∧f.here=true∧v=.pointer (some ⟨f.blk,0,none⟩))∧h'=h):=by
 obtain ⟨hd1,hd2,hd3,hd4⟩:=dsk_parts hd;refine HC.go Tryz.func175 21 ?_;refine .seq<|.r<|.z .asP<|.nil ?_;refine .seq<|.seq<|.r<|.z .mvP<|.z .nil<|.z (.fa T.fd137_0)<|.z (.ldx T.ag135 hd1)<|.z .mvT<|.z (.lk KV.ba n (v:=.pointer (ptrN (bget r.fs n))) T.mp135 (stB_iff T.st9) T.zr153 hd2 (by exact ents_getD))<|.z .asP<|.nil ?_;refine .seq<|.r<|.z .mvP<|.z (.pNe T.pt153)<|.z .mvB<|.spl (fun G14=>?_) (fun G14=>?_)
 ·
  obtain ⟨f,hg⟩:∃f0,bget r.fs n=some f0:=by (cases hb:bget r.fs n with | none=>(rw [hb] at G14;simp [ptrN] at G14) | some x=>exact ⟨x,rfl⟩)
  rw [hg];simp only [ptrN,Option.map_some];have hfb:=hd4 n f hg;refine .z .mvP<|.z .nil<|.z (.fa T.fd156_2)<|.z (.ldx T.ag4 hfb)<|.z .pkt<|.nil ?_;refine .cond (fun C0=>?_) (fun C0=>?_)
  ·
   refine .seq<|.r<|.z .mvP<|.z .asP<|.nil ?_;refine .ret ⟨.pointer (some ⟨f.blk,0,none⟩),Res.one rfl rfl,⟨.inr ⟨f,(by first | exact hg | rfl),C0,rfl⟩,rfl⟩⟩
  refine .skip<|.seq<|.r<|.z .asP<|.nil ?_;refine .ret ⟨.pointer none,Res.one rfl rfl,⟨.inl ⟨by rw [there_f hg];exact C0,rfl⟩,rfl⟩⟩
 refine .y<|.y<|.y<|.y<|.z .pkf<|.nil ?_;refine .cf<|.skip<|.seq<|.r<|.z .asP<|.nil ?_;refine .ret ⟨.pointer none,Res.one rfl rfl,⟨.inl ⟨there_no (by cases hb:bget r.fs n with | none=>rfl | some x=>(rw [hb] at G14;simp [ptrN] at G14)),rfl⟩,rfl⟩⟩
theorem box_cell {h:Heap} {b o:Nat} {t:TypeId} {cs:List Value} {v:Value} (hb:(boxI b t cs).p h) (hv:cs[o]? = some v):cell h b o=some v:=by rw [cell_of hb];simpa using hv
def settleR (r:RD) (n:List UInt8) (f:RF):RD:=if f.here=true then ⟨r.m,bput r.fs n ⟨f.blk,f.na,f.nc,f.nl,f.na,f.nc,f.nl,true,true,none,0,[]⟩,r.dark,r.left,r.chg⟩ else ⟨r.m,bdel r.fs n,r.dark,r.left,r.chg⟩
theorem settleR_abs {r:RD} {n:List UInt8} {f:RF} : (settleR r n f).abs=⟨put1 r.abs.fs n (settleF f.abs),r.dark,r.left,r.chg⟩:=by
 unfold settleR settleF;by_cases h:f.here=true
 ·rw [if_pos h,if_pos (by exact h)];simp only [RD.abs];congr 1;funext m;rw [bget_put];by_cases hm:m=n
  ·simp [put1,hm,RF.abs]
  ·simp [put1,hm]
 ·rw [if_neg h,if_neg (by exact h)];simp only [RD.abs];congr 1;funext m;rw [bget_del];by_cases hm:m=n
  ·simp [put1,hm]
  ·simp [put1,hm]
theorem settle_end {h0 h:Heap} {D E:Nat→Prop} {M:List Itm} {d:Nat} {r:RD} {n:List UInt8} {f:RF} (hn:(r.fs.map (·.1)).Nodup) (hg:bget r.fs n=some f) (hh:f.here=true)
  (ok:Hp h0 D (boxI f.blk 156 [.slice f.na f.nl.length f.nc,.slice f.na f.nl.length f.nc,.bool f.here,.bool f.here,.slice none 0 0]::flsI (bdel r.fs n)::dboxI d r::mapI kvB r.m (ents r.fs)::M) [bysI E r.fs] h) :
  Hp h0 D (dskI d (settleR r n f)::M) [bysI E (settleR r n f).fs] h:=by
 have he:settleR r n f=⟨r.m,bput r.fs n ⟨f.blk,f.na,f.nc,f.nl,f.na,f.nc,f.nl,true,true,none,0,[]⟩,r.dark,r.left,r.chg⟩:=by unfold settleR;rw [if_pos hh]
 rw [he];have hb:=(Bys.get ok.r0 hg);rw [hh] at ok;have o1:=(ok.nilC (k:=3) (e:=158)).n1;have o2:=Hp.fcls (n:=n) (f:=⟨f.blk,f.na,f.nc,f.nl,f.na,f.nc,f.nl,true,true,none,0,[]⟩) hn o1;have o3:=Hp.dcls (r:=⟨r.m,bput r.fs n ⟨f.blk,f.na,f.nc,f.nl,f.na,f.nc,f.nl,true,true,none,0,[]⟩,r.dark,r.left,r.chg⟩) (d:=d) (M:=M) (by
  have o4:=o2.n2.n2;simp only;rw [ents_same hg (by rfl)];exact o4)
 exact (o3.d0 (bysI E (bput r.fs n ⟨f.blk,f.na,f.nc,f.nl,f.na,f.nc,f.nl,true,true,none,0,[]⟩)) (Bys.put ok.r0 ⟨hb.now,hb.now,fun c hc=>by cases hc⟩) (fun _ h=>h)).e1
theorem settle_end0 {h0 h:Heap} {D E:Nat→Prop} {M:List Itm} {d:Nat} {r:RD} {n:List UInt8} {f:RF} (hh:f.here=false)
  (ok:Hp h0 D (flsI (bdel r.fs n)::dboxI d r::mapI kvB r.m (adel (ents r.fs) n)::M) [bysI E r.fs] h) :
  Hp h0 D (dskI d (settleR r n f)::M) [bysI E (settleR r n f).fs] h:=by
 have he:settleR r n f=⟨r.m,bdel r.fs n,r.dark,r.left,r.chg⟩:=by unfold settleR;rw [if_neg (by rw [hh];decide)]
 rw [he];have o3:=Hp.dcls (r:=⟨r.m,bdel r.fs n,r.dark,r.left,r.chg⟩) (d:=d) (M:=M) (by
  have o4:=ok.n2.n2;simp only;rw [←ents_del];exact o4)
 exact (o3.d0 (bysI E (bdel r.fs n)) (Bys.del ok.r0) (fun _ h=>h)).e1
theorem settle_any {h:Heap} {d:Nat} {r:RD} {E:Nat→Prop} {n:List UInt8} {f:RF} (ok:Hp h (dskI d r).F [dskI d r] [bysI E r.fs] h) (hg:bget r.fs n=some f) :
  HC Tryz.prog 109 #[.pointer (some ⟨d,0,none⟩),.string (BA n),.pointer (some ⟨f.blk,0,none⟩)] h (fun v h'=>v=.tuple #[]∧Hp h (dskI d r).F [dskI d (settleR r n f)] [bysI E (settleR r n f).fs] h'):=by
 refine HC.go Tryz.func109 33 ?_;have hnd:(r.fs.map (·.1)).Nodup:=(dsk_parts ok.m0).2.2.1;have ok:=ok.dopn;have ok:=Hp.fopn hnd hg ok.n2;refine .seq<|.join (fun s hh=>Has s [(0,.pointer (some ⟨d,0,none⟩)),(1,.string (BA n)),(2,.pointer (some ⟨f.blk,0,none⟩))]∧Hp h (dskI d r).F [boxI f.blk 156 [.slice f.na f.nl.length f.nc,.slice f.na f.nl.length f.nc,.bool f.here,.bool f.here,.slice none 0 0],flsI (bdel r.fs n),boxI d 137 [.map (some r.m),.bool r.dark,.int .i64 r.left,.int .i64 r.chg],mapI kvB r.m (ents r.fs)] [bysI E r.fs] hh) ?_ ?_
 ·
  refine .a 13 (fun fl hh=>cond fl True (cell hh f.blk 0=some (.slice f.na f.nl.length f.nc)∧cell hh f.blk 2=some (.bool f.here))) mixed ?_;have hS:=(And.intro (box_cell (o:=0) (v:=.slice f.na f.nl.length f.nc) ok.m0 rfl) (box_cell (o:=2) (v:=.bool f.here) ok.m0 rfl));refine .g 0 false rfl 6 hS (fun _=>.mvP)<|.g 1 false rfl 7 hS (fun _=>.mvP)<|.g 2 false rfl 8 hS (fun _=>.mvP)<|.g 3 false rfl 9 hS (fun _=>.mvP)<|.g 4 false rfl 10 hS (fun _=>.nil)<|.g 5 false rfl 11 hS (fun _=>.fa T.fd156_0)<|.l 6 false rfl 12 hS (fun _ hS=>.ld T.ag44 hS.1)<|.g 7 false rfl 13 hS (fun _=>.mvP)<|.g 8 false rfl 14 hS (fun _=>.nil)<|.g 9 false rfl 15 hS (fun _=>.fa T.fd156_2)<|.l 10 false rfl 16 hS (fun _ hS=>.ld T.ag4 hS.2)<|.g 11 false rfl 17 hS (fun _=>.nil)<|.g 12 false rfl 18 hS (fun _=>.fa T.fd156_1)<|.o1 13<|.ur' true rfl (.stS T.sz44 ok) ?_;rintro η1 ⟨ok,cg⟩;refine ⟨trivial,?_⟩;refine .g 14 true rfl 19 trivial (fun _=>.nil)<|.g 15 true rfl 20 trivial (fun _=>.fa T.fd156_3)<|.o1 16<|.ur' true rfl (.stB T.sz4 ok) ?_;rintro η2 ⟨ok,cg⟩;refine ⟨trivial,?_⟩;refine .g 17 true rfl 21 trivial (fun _=>.nil)<|.g 18 true rfl 22 trivial (fun _=>.fa T.fd156_4)<|.o1 19<|.ur' true rfl (.stS T.sz154 ok) ?_;rintro η3 ⟨ok,cg⟩;refine ⟨trivial,?_⟩;refine .e ?_;refine .end<|⟨⟨rfl,rfl,rfl,trivial⟩,ok.n4.n4.n4.n3.k4⟩
 rintro s η4 ⟨hs,ok⟩;refine .frame hs fun τ=>?_;refine .seq<|.r<|.z .mvP<|.z .nil<|.z (.fa T.fd156_2)<|.z (.ldx T.ag4 ok.m0)<|.z .not<|.nil ?_;refine .cond (fun C0=>?_) (fun C0=>?_)
 ·
  refine .r<|.z .mvP<|.z .nil<|.z (.fa T.fd137_0)<|.z (.ldx T.ag135 ok.m2)<|.z .mvT<|.a0' (.del KV.ba n T.mp135 (stB_iff T.st9) ok.n3) ?_;rintro _ η5 ⟨rfl,ok⟩;refine .nil ?_;refine .end<|⟨.tuple #[],Res.none rfl,⟨rfl,settle_end0 (by simpa using C0) (ok.n3.n3.k3)⟩⟩
 refine .skip<|.end<|⟨.tuple #[],Res.none rfl,⟨rfl,settle_end hnd hg (by simpa using C0) (ok.n3.n3.n3.n3)⟩⟩
@[reducible] def byfI (E:Nat→Prop) (f:RF):Itm:=⟨fun h=>ByF h E f,E,fun _ _ _ c d b=>b.st c d⟩
def chgR (f:RF) (c:RC) (ya:Option Addr) (yc:Nat) (oa:Option Addr) (oc:Nat):RF:=⟨f.blk,ya,yc,(doneN c.abs f.nl f.here).1,f.sa,f.sc,f.sl,(doneN c.abs f.nl f.here).2,f.was,oa,oc,f.ol++[c]⟩
theorem chgR_abs {f:RF} {c:RC} {ya yc oa oc} : (chgR f c ya yc oa oc).abs=chgF f.abs c.abs:=by simp [chgR,RF.abs,chgF]
def newF (b:Nat):RF:=⟨b,none,0,[],none,0,[],false,false,none,0,[]⟩
def FileAt (r:RD) (n:List UInt8) (f:RF):Prop:=f.abs=((r.abs.fs n).getD noF)
theorem fileAt_some {r:RD} {n:List UInt8} {f:RF} (h:bget r.fs n=some f):FileAt r n f:=by simp [FileAt,RD.abs,h]
theorem fileAt_new {r:RD} {n:List UInt8} {b:Nat} (h:bget r.fs n=none):FileAt r n (newF b):=by simp [FileAt,RD.abs,h,newF,RF.abs,noF]
theorem ents_blk {fs:Fs} {n:List UInt8} {f g:RF} (h:f.blk=g.blk):ents (bput fs n f)=ents (bput fs n g):=by rw [←ents_put,←ents_put,ptrF,ptrF,h]
theorem do_end {h0 h:Heap} {D E:Nat→Prop} {M R:List Itm} {d:Nat} {r:RD} {n:List UInt8} {f:RF} {c:RC} {ya oa:Option Addr} {yc oc:Nat} (hl:¬r.left=0) (hn:(r.fs.map (·.1)).Nodup) (hf:FileAt r n f)
  (ok:Hp h0 D (boxI f.blk 156 [.slice ya (doneN c.abs f.nl f.here).1.length yc,.slice f.sa f.sl.length f.sc,.bool (doneN c.abs f.nl f.here).2,.bool f.was,.slice oa (f.ol++[c]).length oc]::capI 3 158 (oa,(f.ol++[c]).length,oc) ((f.ol++[c]).flatMap RC.cells)::flsI (bdel r.fs n)::boxI d 137 [.map (some r.m),.bool r.dark,.int .i64 (lfR r),.int .i64 (r.chg+1)]::mapI kvB r.m (ents (bput r.fs n f))::capI 1 5 (ya,(doneN c.abs f.nl f.here).1.length,yc) ((doneN c.abs f.nl f.here).1.map bv)::M)
   (byfI E f::bysI E r.fs::rdI E E (c.ba,c.bl.length,c.bc) c.bl::R) h) :
  ∃(r':RD) (E':Nat→Prop),r'.abs=(doN r.abs n c.abs).1∧Hp h0 D (dskI d r'::M) (bysI E' r'.fs::R) h∧∀j,E' j→E j∨blkC (sv (ya,(doneN c.abs f.nl f.here).1.length,yc)) j:=by
 refine ⟨⟨r.m,bput r.fs n (chgR f c ya yc oa oc),r.dark,lfR r,r.chg+1⟩,fun j=>E j∨blkC (sv (ya,(doneN c.abs f.nl f.here).1.length,yc)) j,?_,?_,fun _ h=>h⟩
 ·unfold doN;rw [if_neg (by exact hl)];simp only [RD.abs];congr 1
  ·funext m;rw [bget_put];by_cases hm:m=n
   ·subst hm;have:=hf;unfold FileAt at this;simp only [RD.abs] at this;rw [if_pos rfl,Option.map_some,chgR_abs,this];simp [put1]
   ·simp [put1,hm]
 ·have o1:=Hp.frzB (l:=(doneN c.abs f.nl f.here).1) (Hp.n5 ok) rfl;have o2:=Hp.fcls (n:=n) (f:=chgR f c ya yc oa oc) hn o1;have o3:=Hp.dcls (r:=⟨r.m,bput r.fs n (chgR f c ya yc oa oc),r.dark,lfR r,r.chg+1⟩) (d:=d) (M:=M) (by
   have o4:=o2.n2.n2;simp only;rw [ents_blk (f:=chgR f c ya yc oa oc) (g:=f) rfl];exact o4)
  have hby:Bys h (fun j=>E j∨blkC (sv (ya,(doneN c.abs f.nl f.here).1.length,yc)) j) (bput r.fs n (chgR f c ya yc oa oc)):=by
   refine Bys.put (Bys.mono (fun _ h=>.inl h) o3.r2) ⟨?_,?_,fun x hx=>?_⟩
   ·exact RdL.mono (fun _ h=>.inr h) (fun _ f=>f.elim) o3.r0
   ·exact RdL.mono (fun _ h=>.inl h) (fun _ h=>.inl h) o3.r1.safe
   ·rcases List.mem_append.1 hx with hx | hx
    ·exact RdL.mono (fun _ h=>.inl h) (fun _ h=>.inl h) (o3.r1.opn x hx)
    ·rw [List.mem_singleton.1 hx];exact RdL.mono (fun _ h=>.inl h) (fun _ h=>.inl h) o3.r3
  exact ((o3.or (r:=rdI (blkC (sv (ya,(doneN c.abs f.nl f.here).1.length,yc))) none_ (ya,(doneN c.abs f.nl f.here).1.length,yc) (doneN c.abs f.nl f.here).1) (r':=byfI E f) (by simp) (by simp) (bysI _ _) hby (fun j hj=>hj.elim .inr fun h=>.inl (.inl h))).sub (by
   intro i hi;simp only [List.mem_cons] at hi⊢;rcases hi with h | h
   ·exact .inl h
   ·exact .inr (.inr (.inr (.inr (.inr h))))))
theorem byfI_new {h:Heap} {E:Nat→Prop} {b:Nat} : ByF h E (newF b):=⟨RdL.nil _ _ _,RdL.nil _ _ _,fun _ h=>by cases h⟩
theorem do_any {h:Heap} {d:Nat} {r:RD} {E:Nat→Prop} {n:List UInt8} {kind pos:Nat} {ba:Option Addr} {bc:Nat} {bl:List UInt8} (ok:Hp h (dskI d r).F [dskI d r] [bysI E r.fs] h) (hk:DkOk r.abs) (hcg:r.chg<1000000000) (hb:RdL h E E (ba,bl.length,bc) bl) (hc:ChOk ⟨kind,pos,bl⟩) :
  HC Tryz.prog 227 #[.pointer (some ⟨d,0,none⟩),.string (BA n),.agg #[.int .i64 (kind:Int),.int .i64 (pos:Int),.slice ba bl.length bc]] h (fun v h'=>∃r' E',v=.int .i64 ((doN r.abs n ⟨kind,pos,bl⟩).2:Int)∧r'.abs=(doN r.abs n ⟨kind,pos,bl⟩).1∧DUp h h' d r r' E E'):=by
 have ok:=ok.d0 (rdI E E (ba,bl.length,bc) bl) hb (fun _ h=>h.elim id id);have hc0:0≤r.chg:=hk.chg;have hfit:pos+bl.length≤16777216:=hc.fit;refine HC.go Tryz.func227 59 ?_;refine .seq<|.r<|.a' 5 (.bxA (cs:=[.int .i64 (kind:Int),.int .i64 (pos:Int),.slice ba bl.length bc]) ok) ?_;rintro _ η1 ⟨pb1,rfl,ok,xe⟩;refine .z .asI<|.nil ?_;refine .seq<|.seq<|.r<|.z .mvP<|.c' 10 .func (power_any (ok.n1).loc0 hk hcg) ?_;rintro _ η2 ⟨rfl,q⟩;have ok:=(ok.n1).lift1 q;refine .z .asI<|.nil ?_;refine .seq<|.r<|.z .mvI<|.z .neq<|.nil ?_;refine .cd (fun C0=>?_) (fun C0=>?_)
 ·
  have hp0:r.left=0:=by by_cases h:r.left=0;exact h;exact absurd (by rw [powerR_1 h];rfl) C0
  refine .seq<|.r<|.z .mvI<|.z .asI<|.nil ?_;refine .ret ⟨.int .i64 ((powerR r).2:Int),Res.one rfl rfl,⟨(powerR r).1,E,by unfold doN powerN;rw [if_pos (by exact hp0),if_pos (by exact hp0),powerR_0 hp0],by unfold doN;rw [if_pos (by exact hp0),(powerR_abs r).1],⟨by rw [powerR_fs];exact ok.k1.tR,fun _ h=>.inl h⟩⟩⟩
 have hpl:¬r.left=0:=fun h=>by rw [powerR_0 h] at C0;exact C0 (by simp)
 have hnd:(r.fs.map (·.1)).Nodup:=by have:=(dsk_parts (ok).m0).2.2.1;rwa [powerR_fs] at this
 have ok:=ok;rw [powerR_1 hpl] at ok;have ok:=ok.dopn;refine .skip<|.seq<|.r<|.z .mvP<|.z .nil<|.z (.fa T.fd137_0)<|.z (.ldx T.ag135 ok.m0)<|.z .mvT<|.z (.lk KV.ba n (v:=.pointer (ptrN (bget r.fs n))) T.mp135 (stB_iff T.st9) T.zr153 ok.m1 (by exact ents_getD))<|.z .asP<|.nil ?_;refine .seq<|.seq<|.r<|.z .mvP<|.z (.pEq T.pt153)<|.nil ?_;refine .join (fun s hh=>∃(f:RF),Has s [(5,.pointer (some ⟨pb1,0,none⟩)),(8,.pointer (some ⟨f.blk,0,none⟩))]∧Hp h (dskI d r).F [boxI f.blk 156 [.slice f.na f.nl.length f.nc,.slice f.sa f.sl.length f.sc,.bool f.here,.bool f.was,.slice f.oa f.ol.length f.oc],capI 3 158 (f.oa,f.ol.length,f.oc) (f.ol.flatMap RC.cells),flsI (bdel r.fs n),boxI d 137 [.map (some r.m),.bool r.dark,.int .i64 (lfR r),.int .i64 (r.chg+1)],mapI kvB r.m (ents (bput r.fs n f)),boxI pb1 158 [.int .i64 (kind:Int),.int .i64 (pos:Int),.slice ba bl.length bc]] [byfI E f,rdI E E (ba,bl.length,bc) bl,bysI E r.fs] hh∧FileAt r n f) ?_ ?_
 ·
  refine .cond (fun C1=>?_) (fun C1=>?_)
  ·
   have hg:bget r.fs n=none:=by (cases hb:bget r.fs n with | none=>rfl | some x=>(rw [hb] at C1;simp [ptrN] at C1))
   refine .seq<|.r<|.z (.bd #[.slice none 0 0,.slice none 0 0,.bool false,.bool false,.slice none 0 0] T.zr156 T.pl156 rfl)<|.a' 23 (.bxA (cs:=[.slice none 0 0,.slice none 0 0,.bool false,.bool false,.slice none 0 0]) ok) ?_;rintro _ η3 ⟨pb2,rfl,ok,xe⟩;refine .z .asP<|.nil ?_;refine .r<|.z .mvP<|.z .nil<|.z (.fa T.fd137_0)<|.z (.ldx T.ag135 ok.m1)<|.z .mvT<|.z .mvP<|.ur' (.mpu KV.ba sbB n (v:=(ptrF (newF pb2))) T.mp135 (stB_iff T.st9) ok.n2) ?_;rintro η4 ok;refine .nil ?_;refine .end<|⟨(newF pb2),⟨rfl,rfl,trivial⟩,(by rw [show ents (bput r.fs n (newF pb2))=aput (ents r.fs) n (ptrF (newF pb2)) from ents_put.symm,bdel_none hg];exact (Hp.n1 (Hp.nilC (k:=3) (e:=158) (ok.n4.n1.n3.n4.n4))).d1 (byfI E (newF pb2)) byfI_new (fun _ h=>h)),fileAt_new hg⟩
  obtain ⟨f,hg⟩:∃f0,bget r.fs n=some f0:=by (cases hb:bget r.fs n with | none=>(rw [hb] at C1;simp [ptrN] at C1) | some x=>exact ⟨x,rfl⟩)
  rw [hg];simp only [ptrN,Option.map_some];have ok:=Hp.fopn hnd hg (ok.n2);have ok:=ok.d1 (byfI E f) (Bys.get ok.r1 hg) (fun _ h=>h);refine .skip<|.end<|⟨f,⟨rfl,rfl,trivial⟩,(by rw [show ents (bput r.fs n f)=ents r.fs from ents_same hg rfl];exact ok.n5.n5.n5.n5.n5.n5),fileAt_some hg⟩
 rintro s η5 ⟨f,hs,ok,hfa⟩;refine .frame hs fun τ=>?_;have hnl:f.nl.length≤16777216:=by have:=(hk.getD n).1.now;rw [←hfa] at this;exact this
 have hol:(f.ol.flatMap RC.cells).length=f.ol.length*3:=flat_len RC.cells_len _;have hoc:(f.ol.length:Int)≤r.chg:=by have h9:=(hk.getD n).2;rw [←hfa] at h9;simpa [RF.abs] using (show _≤r.chg from h9)
 refine .seq<|?_;have ok:=ok.d0 (rdI E E (f.na,f.nl.length,f.nc) f.nl) (ok.r0).now (fun _ h=>h.elim id id);refine .a 11 (fun fl hh=>cond fl True (Hp h (dskI d r).F [boxI f.blk 156 [.slice f.na f.nl.length f.nc,.slice f.sa f.sl.length f.sc,.bool f.here,.bool f.was,.slice f.oa f.ol.length f.oc],capI 3 158 (f.oa,f.ol.length,f.oc) (f.ol.flatMap RC.cells),flsI (bdel r.fs n),boxI d 137 [.map (some r.m),.bool r.dark,.int .i64 (lfR r),.int .i64 (r.chg+1)],mapI kvB r.m (ents (bput r.fs n f)),boxI pb1 158 [.int .i64 (kind:Int),.int .i64 (pos:Int),.slice ba bl.length bc]] [rdI E E (f.na,f.nl.length,f.nc) f.nl,byfI E f,rdI E E (ba,bl.length,bc) bl,bysI E r.fs] hh)) mixed ?_;have hS:=ok;refine .g 0 false rfl 31 hS (fun _=>.mvP)<|.g 1 false rfl 32 hS (fun _=>.mvP)<|.l 2 false rfl 33 hS (fun _ hS=>.ldb T.ag158 hS.m5 T.sz158)<|.g 3 false rfl 34 hS (fun _=>.mvP)<|.g 4 false rfl 35 hS (fun _=>.nil)<|.g 5 false rfl 36 hS (fun _=>.fa T.fd156_0)<|.l 6 false rfl 37 hS (fun _ hS=>.ldx T.ag44 hS.m0)<|.g 7 false rfl 38 hS (fun _=>.mvP)<|.g 8 false rfl 39 hS (fun _=>.nil)<|.g 9 false rfl 40 hS (fun _=>.fa T.fd156_2)<|.l 10 false rfl 41 hS (fun _ hS=>.ldx T.ag4 hS.m0)<|.o1 11<|.c' true rfl 42 .func (done_any (kind:=kind) (pos:=pos) (ba:=ba) (bc:=bc) (bl:=bl) (a:=f.na) (c:=f.nc) (l:=f.nl) (here:=f.here) ok.r2 ok.r0 (by omega) (by omega)) ?_;rintro _ η6 ⟨_,rfl,own⟩;obtain ⟨ya1,yc1,rfl⟩:=own.formB;have hyf:=fun j hj=>Nat.le_trans ok.chg.size (own.fresh j hj);have ok:=ok.own own;refine ⟨trivial,?_⟩;refine .g 12 true rfl 30 trivial (fun _=>.mvU)<|.g 13 true rfl 43 trivial (fun _=>.ex)<|.g 14 true rfl 44 trivial (fun _=>.ex)<|.g 15 true rfl 45 trivial (fun _=>.nil)<|.g 16 true rfl 46 trivial (fun _=>.fa T.fd156_0)<|.o1 17<|.ur' true rfl (.stS T.sz44 ok.n1) ?_;rintro η7 ⟨ok,cg⟩;refine ⟨trivial,?_⟩;refine .g 18 true rfl 47 trivial (fun _=>.nil)<|.g 19 true rfl 48 trivial (fun _=>.fa T.fd156_2)<|.o1 20<|.ur' true rfl (.stB T.sz4 ok) ?_;rintro η8 ⟨ok,cg⟩;refine ⟨trivial,?_⟩;refine .e ?_;refine .seq<|.a 10 (fun fl hh=>cond fl True (Hp h (dskI d r).F [boxI f.blk 156 [.slice ya1 ((doneN ⟨kind,pos,bl⟩ f.nl f.here).1.length) yc1,.slice f.sa f.sl.length f.sc,.bool ((doneN ⟨kind,pos,bl⟩ f.nl f.here).2),.bool f.was,.slice f.oa f.ol.length f.oc],capI 1 5 (ya1,(doneN ⟨kind,pos,bl⟩ f.nl f.here).1.length,yc1) ((doneN ⟨kind,pos,bl⟩ f.nl f.here).1.map bv),flsI (bdel r.fs n),boxI d 137 [.map (some r.m),.bool r.dark,.int .i64 (lfR r),.int .i64 (r.chg+1)],mapI kvB r.m (ents (bput r.fs n f)),boxI pb1 158 [.int .i64 (kind:Int),.int .i64 (pos:Int),.slice ba bl.length bc]] [rdI E E (f.na,f.nl.length,f.nc) f.nl,byfI E f,rdI E E (ba,bl.length,bc) bl,bysI E r.fs] hh)) mixed ?_;have hS:=ok.n6.n6.n6.n6.n5.n5.k6;refine .g 0 false rfl 49 hS (fun _=>.mvP)<|.g 1 false rfl 50 hS (fun _=>.mvP)<|.g 2 false rfl 51 hS (fun _=>.nil)<|.g 3 false rfl 52 hS (fun _=>.fa T.fd156_4)<|.l 4 false rfl 53 hS (fun _ hS=>.ldx T.ag154 hS.m0)<|.l 5 false rfl 54 hS (fun _ hS=>.ldb T.ag158 hS.m5 T.sz158)<|.o1 6<|.a' false rfl 55 (.lit [.tmp 54] (cs:=[.int .i64 (kind:Int),.int .i64 (pos:Int),.slice ba bl.length bc]) T.el154 T.sz158 T.zr158 ok ⟨rfl,trivial⟩) ?_;rintro _ η9 ⟨pb3,rfl,ok,xe⟩;refine ⟨ok.n7.n7.n7.n7.n6.n6.k6,?_⟩;have hS:=ok.n7.n7.n7.n7.n6.n6.k6;refine .o1 7<|.a' false rfl 56 (.app (news:=[.int .i64 (kind:Int),.int .i64 (pos:Int),.slice ba bl.length bc]) T.el154 T.sz158 T.by158 T.zr158 ok.n3 (ok.n3.m1).sl (oneL rfl) (by rw [hol];simp only [List.length_cons,List.length_nil];omega)) ?_;rintro _ η10 ⟨ya2,yn1,yc2,rfl,ok,ap⟩;refine ⟨ok.n7.n7.n7.n7.n7.n7.k6,?_⟩;have hS:=ok.n7.n7.n7.n7.n7.n7.k6;refine .g 8 false rfl 57 hS (fun _=>.nil)<|.g 9 false rfl 58 hS (fun _=>.fa T.fd156_4)<|.o1 10<|.ur' true rfl (.stS T.sz154 ok.n2) ?_;rintro η11 ⟨ok,cg⟩;refine ⟨trivial,?_⟩;refine .e ?_;refine .seq<|.r<|.z .asI<|.nil ?_;have ok:=(ok.n1).cx (ys:=(f.ol++[(⟨kind,pos,ba,bc,bl⟩:RC)]).flatMap RC.cells) (by simp [RC.cells]);obtain rfl:yn1=(f.ol++[(⟨kind,pos,ba,bc,bl⟩:RC)]).length:=(Sl.sz (Cap.sl ok.m0) RC.cells_len (by decide)).1.symm;refine .ret ⟨.int .i64 0,Res.one rfl rfl,(by obtain ⟨r2,E2,h1,h2,h3⟩:=do_end (n:=n) (f:=f) (c:=⟨kind,pos,ba,bc,bl⟩) hpl hnd hfa (ok.n3.n6.n6.n6.n4.n5.f2.f3.f3);exact ⟨r2,E2,by unfold doN;rw [if_neg (by exact hpl)];rfl,h1,h2.k1.up fun j hj=>(h3 j hj).imp id (fun h9=>hyf j h9)⟩)⟩
end Go.Proofs.YtndlpekckpdncaaGreat
