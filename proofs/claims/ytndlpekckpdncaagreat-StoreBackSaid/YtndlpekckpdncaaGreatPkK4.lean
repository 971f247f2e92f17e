/- Copies of bytes and of slices; the reader of a log: frame. Conditions: the bytes are readable and no part of the reader. The program's Scan of a log. Conditions: the bytes are readable, at most 100000. The latest frames in plain terms: a map from pages, and a sorted row. Conditions: those that each fact names. Rows of frames that are read; the document's Same, and few. Conditions: the rows are readable. The contracts of maps.Keys, slices.Sorted and slices.Sort, laid at this program by the kit. Conditions: none. maps.Keys and slices.Sorted over a map of frames: its keys, sorted. Conditions: the keys are ints of 64 bits. The program's Latest: the latest frame of each page. Conditions: the row is readable, its pages are numbers of 64 bits. The document's Latest. Conditions: the row is readable. Opening and carrying over, as the pager that logs ahead does them, on a disk in plain terms. Conditions: those that each fact names. The store in plain terms: the document's states, and a map of pages laid over others. Conditions: those that each fact names. The disk in memory: its box, its map, its files' boxes and changes as one item that turns; all bytes as one that is read. Conditions: those that each fact names. The disk's changes: long, done, kept, what is wrong with a call. Conditions: the bytes are readable, few. What is wrong with a call to a disk. Conditions: the disk's box is known, the numbers are readable. -/
import Derived.Test.YtndlpekckpdncaaGreatPkK3
import Derived.Shelf.SlIterI.Nil
import Derived.Shelf.SortM.Plain
import Derived.Shelf.SortM.SortNone
import Derived.Ground.GgzProg
import Derived.Ground.SlgmProg
import Derived.Test.YtndlpekckpdncaaGreatProg
set_option maxRecDepth 100000
set_option maxHeartbeats 2000000
set_option linter.all false
namespace Go.Proofs.YtndlpekckpdncaaGreat
open Go Go.HL
theorem RdL.isNone {α:Type} [Rep α] {h:Heap} {F E:Nat→Prop} {a:Option Addr} {n c:Nat} {l:List α} (r:RdL h F E (a,n,c) l) (ha:a.isNone=true):l=[]:=by
 rcases Nat.eq_zero_or_pos l.length with h0 | h0
 ·exact List.eq_nil_of_length_eq_zero h0
 ·obtain ⟨b,o,e,_⟩:=r.at' h0;simp only at e;subst e;cases ha
theorem sclone_any {h:Heap} {F E:Nat→Prop} {a:Option Addr} {c:Nat} {l:List UInt8} (hl:RdL h F E (a,l.length,c) l) (hN:l.length≤1000000000) :
  HC Tryz.prog 223 #[.slice a l.length c] h (fun v h'=>Own h h' 1 5 v (l.map bv)):=by
 have hc2:=hl.m;have hc1:l.length≤c:=hl.c;simp only at hc2;have ok:=(Hp.nil h none_).arg hl;refine HC.go Tryz.func223 8 ?_;refine .seq<|.r<|.z .asS<|.nil ?_;refine .seq<|.seq<|.r<|.z .mvS<|.z (.sEq T.el44)<|.nil ?_;refine .cond (fun C0=>?_) (fun C0=>?_)
 ·
  obtain rfl:=RdL.isNone hl C0;refine .seq<|.r<|.z .asS<|.nil ?_;refine .ret ⟨.slice none 0 0,Res.one rfl rfl,Own.nil ok.chg _ _⟩
 refine .skip<|.seq<|.r<|.a' 5 (.lit [] (cs:=[]) T.el44 T.sz5 T.zr5 ok trivial) ?_;rintro _ η1 ⟨pb1,rfl,ok,xe⟩;have ok:=ok.cx (ys:=([]:List UInt8).map bv) rfl;refine .z .mvS<|.a' 7 (.app (news:=l.map bv) T.el44 T.sz5 T.by5 T.zr5 ok (ok.r0).by bv_all (by simp only [List.length_map,List.length_append,List.length_take,List.length_cons,List.length_nil,List.length_replicate,List.length_range,fixedN_len,sealN_len];omega)) ?_;rintro _ η2 ⟨ya1,yn1,yc1,rfl,ok,ap⟩;have ok:=ok.cx (ys:=(l).map bv) (by simp [bv]);obtain rfl:yn1=(l).length:=ok.lenB;refine .z .asS<|.nil ?_;refine .ret ⟨.slice ya1 ((l).length) yc1,Res.one rfl rfl,ok.toOwn⟩
theorem bclone_any {h:Heap} {F E:Nat→Prop} {a:Option Addr} {c:Nat} {l:List UInt8} (hl:RdL h F E (a,l.length,c) l) (hN:l.length≤1000000000) :
  HC Tryz.prog 84 #[.slice a l.length c] h (fun v h'=>Own h h' 1 5 v (l.map bv)):=by
 have hc2:=hl.m;have hc1:l.length≤c:=hl.c;simp only at hc2;have ok:=(Hp.nil h none_).arg hl;refine HC.go Tryz.func84 8 ?_;refine .seq<|.r<|.z .asS<|.nil ?_;refine .seq<|.seq<|.r<|.z .mvS<|.z (.sEq T.el44)<|.nil ?_;refine .cond (fun C0=>?_) (fun C0=>?_)
 ·
  obtain rfl:=RdL.isNone hl C0;refine .seq<|.r<|.z .asS<|.nil ?_;refine .ret ⟨.slice none 0 0,Res.one rfl rfl,Own.nil ok.chg _ _⟩
 refine .skip<|.seq<|.r<|.a' 5 (.lit [] (cs:=[]) T.el44 T.sz5 T.zr5 ok trivial) ?_;rintro _ η1 ⟨pb1,rfl,ok,xe⟩;have ok:=ok.cx (ys:=([]:List UInt8).map bv) rfl;refine .z .mvS<|.a' 7 (.app (news:=l.map bv) T.el44 T.sz5 T.by5 T.zr5 ok (ok.r0).by bv_all (by simp only [List.length_map,List.length_append,List.length_take,List.length_cons,List.length_nil,List.length_replicate,List.length_range,fixedN_len,sealN_len];omega)) ?_;rintro _ η2 ⟨ya1,yn1,yc1,rfl,ok,ap⟩;have ok:=ok.cx (ys:=(l).map bv) (by simp [bv]);obtain rfl:yn1=(l).length:=ok.lenB;refine .z .asS<|.nil ?_;refine .ret ⟨.slice ya1 ((l).length) yc1,Res.one rfl rfl,ok.toOwn⟩
theorem frame_no {h:Heap} {F E:Nat→Prop} {r c pos size prev salt:Nat} {a:Option Addr} {l:List UInt8} (hl:RdL h F E (a,l.length,c) l) (hb:(boxI r 275 [.slice a l.length c,.int .i64 (pos:Int),.int .i64 (size:Int),.int .u64 (prev:Int),.int .u64 (salt:Int)]).p h) (hd:∀j,F j∨E j→j≠r) (hpos:pos≤l.length) (hsz:size<4294967296) (hpv:prev<18446744073709551616) (hN:l.length≤17000000) (hn:¬fits l size pos prev) :
  HC Tryz.prog 204 #[.pointer (some ⟨r,0,none⟩)] h (fun v h'=>v=.tuple #[.agg #[.int .i64 0,.int .i64 0,.slice none 0 0],.bool false]∧Chg (fun j=>j=r) h h'∧(boxI r 275 [.slice a l.length c,.int .i64 (pos:Int),.int .i64 (size:Int),.int .u64 (prev:Int),.int .u64 (salt:Int)]).p h'):=by
 have hc2:=hl.m;have hc1:l.length≤c:=hl.c;simp only at hc2;have ok:=((Hp.nil h (fun j=>j=r)).arg hl).obj (boxI r 275 [.slice a l.length c,.int .i64 (pos:Int),.int .i64 (size:Int),.int .u64 (prev:Int),.int .u64 (salt:Int)]) hb (fun j e=>⟨e▸block_lt hb,e⟩) (by simp) (by
  intro b hm j e hj;rcases List.mem_cons.1 hm with rfl | hm
  ·exact hd j (hj.imp And.left And.left) e
  ·cases hm)
 have h81:=rdN_lt8 l (pos+8);have h41:=rdN_lt4 l pos;have h42:=rdN_lt4 l (pos+4);refine HC.go Tryz.func204 83 ?_;refine .seq<|.r<|.a' 2 (.alA T.zr277 ok) ?_;rintro _ η1 ⟨pb1,rfl,ok,xe⟩;refine .z .asB<|.nil ?_;refine .seq<|.q (hm:=mixed)<|.z .mvP<|.z .nil<|.z (.fa T.fd275_1)<|.z (.ldx T.ag3 ok.m1)<|.z (.addI (b:=16))<|.z .mvP<|.z .nil<|.z (.fa T.fd275_2)<|.z (.ldx T.ag3 ok.m1)<|.z .addI<|.z .asI<|.nil ?_;refine .seq<|.seq<|.r<|.z .mvI<|.z .mvP<|.z .nil<|.z (.fa T.fd275_0)<|.z (.ldx T.ag44 ok.m1)<|.z (.len T.el44)<|.z .gtr<|.nil ?_;refine .cd (fun C0=>?_) (fun C0=>?_)
 ·
  refine .seq<|.r<|.z (.bd #[.int .i64 0,.int .i64 0,.slice none 0 0] T.zr277 T.pl277 rfl)<|.ur' (.stW (vs:=[.int .i64 0,.int .i64 0,.slice none 0 0]) T.sz277 ok (oneL rfl)) ?_;rintro η2 ⟨ok,cg⟩;refine .z .asB<|.nil ?_;refine .ret ⟨.tuple #[.agg #[.int .i64 0,.int .i64 0,.slice none 0 0],.bool false],Res.many (vs:=[.agg #[.int .i64 0,.int .i64 0,.slice none 0 0],.bool false]) rfl ⟨⟨_,rfl,load_ag T.ag277 ok.m0 T.sz277⟩,rfl,trivial⟩ rfl,⟨rfl,ok.chg,ok.m1⟩⟩
 have hfit:pos+16+size≤l.length:=by omega
 refine .skip<|.seq<|.join (fun s hh=>∃(b5:Nat) (a1:Option Addr) (c1:Nat),Has s [(0,.pointer (some ⟨r,0,none⟩)),(2,.pointer (some ⟨pb1,0,none⟩)),(4,.int .i64 (((pos+16)+size:Nat):Int)),(5,.pointer (some ⟨b5,0,none⟩))]∧Hp h (fun j=>j=r) [boxI b5 277 [.int .i64 ((rdN l pos 4:Nat):Int),.int .i64 ((rdN l (pos+4) 4:Nat):Int),.slice a1 (((l.drop (pos+16)).take size).length) c1],capI 1 5 (a1,((l.drop (pos+16)).take size).length,c1) (((l.drop (pos+16)).take size).map bv),boxI pb1 277 [.int .i64 0,.int .i64 0,.slice none 0 0],boxI r 275 [.slice a l.length c,.int .i64 (pos:Int),.int .i64 (size:Int),.int .u64 (prev:Int),.int .u64 (salt:Int)]] [rdI (fun j=>F j∧j<h.size) (fun j=>E j∧j<h.size) (a,l.length,c) l] hh) ?_ ?_
 ·
  refine .a 29 (fun fl hh=>cond fl True (Hp h (fun j=>j=r) [boxI pb1 277 [.int .i64 0,.int .i64 0,.slice none 0 0],boxI r 275 [.slice a l.length c,.int .i64 (pos:Int),.int .i64 (size:Int),.int .u64 (prev:Int),.int .u64 (salt:Int)]] [rdI (fun j=>F j∧j<h.size) (fun j=>E j∧j<h.size) (a,l.length,c) l] hh)) mixed ?_;have hS:=ok;refine .g 0 false rfl 25 hS (fun _=>.mvP)<|.g 1 false rfl 26 hS (fun _=>.mvP)<|.g 2 false rfl 27 hS (fun _=>.nil)<|.g 3 false rfl 28 hS (fun _=>.fa T.fd275_1)<|.l 4 false rfl 29 hS (fun _ hS=>.ldx T.ag3 hS.m1)<|.g 7 false rfl 32 hS (fun _=>.mvP)<|.g 8 false rfl 33 hS (fun _=>.mvP)<|.g 9 false rfl 34 hS (fun _=>.nil)<|.g 10 false rfl 35 hS (fun _=>.fa T.fd275_1)<|.l 11 false rfl 36 hS (fun _ hS=>.ldx T.ag3 hS.m1)<|.g 12 false rfl 37 hS (fun _=>.addI (b:=4))<|.g 15 false rfl 40 hS (fun _=>.mvP)<|.g 16 false rfl 41 hS (fun _=>.nil)<|.g 17 false rfl 42 hS (fun _=>.fa T.fd275_0)<|.l 18 false rfl 43 hS (fun _ hS=>.ldx T.ag44 hS.m1)<|.g 19 false rfl 44 hS (fun _=>.mvP)<|.g 20 false rfl 45 hS (fun _=>.nil)<|.g 21 false rfl 46 hS (fun _=>.fa T.fd275_1)<|.l 22 false rfl 47 hS (fun _ hS=>.ldx T.ag3 hS.m1)<|.g 23 false rfl 48 hS (fun _=>.addI (b:=16))<|.g 24 false rfl 49 hS (fun _=>.mvI)<|.g 25 false rfl 50 hS (fun _=>.slh (pos+16) (pos+16+size) T.el44 T.sz5)<|?_;generalize hc1:cutA a (pos+16) c 1=ca1;generalize hn1:(pos+16+size)-(pos+16)=cn1;obtain rfl:cn1=((l.drop (pos+16)).take size).length:=by rw [←hn1];simp<;>omega
  have ok:=ok.d0 (rdI (fun j=>F j∧j<h.size) (fun j=>E j∧j<h.size) (ca1,((l.drop (pos+16)).take size).length,c-(pos+16)) ((l.drop (pos+16)).take size)) (by have h1:=ok.r0.cut (i:=(pos+16)) (j:=(pos+16+size)) (by omega) (by omega);rw [show ((l).drop (pos+16)).take ((pos+16+size)-(pos+16))=(l.drop (pos+16)).take size from by congr 1;omega] at h1;rw [←hc1,←hn1];exact h1) (fun _ h=>h);refine .o2 5 28 ?_ ?_
  ·
   refine .k false rfl 30 .func (number_any (p:=pos) (k:=4) (l:=l) ok.r1 ok.m1 (by omega) (by omega) (by omega)) hS<|.g 6 false rfl 31 hS (fun _=>.cvi T.in3 T.in130)<|.o2 13 28 ?_ ?_
   ·
    refine .k false rfl 38 .func (number_any (p:=(pos+4)) (k:=4) (l:=l) ok.r1 ok.m1 (by omega) (by omega) (by omega)) hS<|.g 14 false rfl 39 hS (fun _=>.cvi T.in3 T.in130)<|.o2 26 28 ?_ ?_
    ·
     refine .c' false rfl 51 .func (sclone_any (a:=ca1) (c:=c-(pos+16)) (l:=(l.drop (pos+16)).take size) ok.r0 (by simp;omega)) ?_;rintro _ η3 own;obtain ⟨ya1,yc1,rfl⟩:=own.formB;have ok:=ok.own own;refine ⟨ok.n2.n2.k2.tR,?_⟩;have hS:=ok.n2.n2.k2.tR;refine .g 27 false rfl 52 hS (fun _=>.bd #[.int .i64 (((rdN l pos 4):Nat):Int),.int .i64 (((rdN l (pos+4) 4):Nat):Int),.slice ya1 (((l.drop (pos+16)).take size).length) yc1] T.zr277 T.pl277 rfl)<|.o1 28<|.a' false rfl 5 (.alA T.zr277 ok) ?_;rintro _ η4 ⟨pb2,rfl,ok,xe⟩;refine ⟨ok.n3.n3.k2.tR,?_⟩;have hS:=ok.n3.n3.k2.tR;refine .o1 29<|.ur' true rfl (.stW (vs:=[.int .i64 (((rdN l pos 4):Nat):Int),.int .i64 (((rdN l (pos+4) 4):Nat):Int),.slice ya1 (((l.drop (pos+16)).take size).length) yc1]) T.sz277 ok (oneL rfl)) ?_;rintro η5 ⟨ok,cg⟩;refine ⟨trivial,?_⟩;refine .e ?_;refine .end<|⟨pb2,ya1,yc1,⟨rfl,rfl,rfl,rfl,trivial⟩,ok.n3.n3.n3.n3.tR⟩
    ·
     refine .a' false rfl 5 (.alA T.zr277 ok) ?_;rintro _ η6 ⟨pb3,rfl,ok,xe⟩;refine ⟨ok.n2.n2.k2.tR,?_⟩;have hS:=ok.n2.n2.k2.tR;refine .o1 26<|.c' false rfl 51 .func (sclone_any (a:=ca1) (c:=c-(pos+16)) (l:=(l.drop (pos+16)).take size) ok.r0 (by simp;omega)) ?_;rintro _ η7 own;obtain ⟨ya2,yc2,rfl⟩:=own.formB;have ok:=ok.own own;refine ⟨ok.n3.n3.k2.tR,?_⟩;have hS:=ok.n3.n3.k2.tR;refine .g 27 false rfl 52 hS (fun _=>.bd #[.int .i64 (((rdN l pos 4):Nat):Int),.int .i64 (((rdN l (pos+4) 4):Nat):Int),.slice ya2 (((l.drop (pos+16)).take size).length) yc2] T.zr277 T.pl277 rfl)<|.o1 29<|.ur' true rfl (.stW (vs:=[.int .i64 (((rdN l pos 4):Nat):Int),.int .i64 (((rdN l (pos+4) 4):Nat):Int),.slice ya2 (((l.drop (pos+16)).take size).length) yc2]) T.sz277 ok.n1 (oneL rfl)) ?_;rintro η8 ⟨ok,cg⟩;refine ⟨trivial,?_⟩;refine .e ?_;refine .end<|⟨pb3,ya2,yc2,⟨rfl,rfl,rfl,rfl,trivial⟩,ok.n3.n3.n3.n3.tR⟩
   ·
    refine .a' false rfl 5 (.alA T.zr277 ok) ?_;rintro _ η9 ⟨pb4,rfl,ok,xe⟩;refine ⟨ok.n2.n2.k2.tR,?_⟩;have hS:=ok.n2.n2.k2.tR;refine .o1 13<|.k false rfl 38 .func (number_any (p:=(pos+4)) (k:=4) (l:=l) ok.r1 ok.m2 (by omega) (by omega) (by omega)) hS<|.g 14 false rfl 39 hS (fun _=>.cvi T.in3 T.in130)<|.o1 26<|.c' false rfl 51 .func (sclone_any (a:=ca1) (c:=c-(pos+16)) (l:=(l.drop (pos+16)).take size) ok.r0 (by simp;omega)) ?_;rintro _ η10 own;obtain ⟨ya3,yc3,rfl⟩:=own.formB;have ok:=ok.own own;refine ⟨ok.n3.n3.k2.tR,?_⟩;have hS:=ok.n3.n3.k2.tR;refine .g 27 false rfl 52 hS (fun _=>.bd #[.int .i64 (((rdN l pos 4):Nat):Int),.int .i64 (((rdN l (pos+4) 4):Nat):Int),.slice ya3 (((l.drop (pos+16)).take size).length) yc3] T.zr277 T.pl277 rfl)<|.o1 29<|.ur' true rfl (.stW (vs:=[.int .i64 (((rdN l pos 4):Nat):Int),.int .i64 (((rdN l (pos+4) 4):Nat):Int),.slice ya3 (((l.drop (pos+16)).take size).length) yc3]) T.sz277 ok.n1 (oneL rfl)) ?_;rintro η11 ⟨ok,cg⟩;refine ⟨trivial,?_⟩;refine .e ?_;refine .end<|⟨pb4,ya3,yc3,⟨rfl,rfl,rfl,rfl,trivial⟩,ok.n3.n3.n3.n3.tR⟩
  ·
   refine .a' false rfl 5 (.alA T.zr277 ok) ?_;rintro _ η12 ⟨pb5,rfl,ok,xe⟩;refine ⟨ok.n2.n2.k2.tR,?_⟩;have hS:=ok.n2.n2.k2.tR;refine .o1 5<|.k false rfl 30 .func (number_any (p:=pos) (k:=4) (l:=l) ok.r1 ok.m2 (by omega) (by omega) (by omega)) hS<|.g 6 false rfl 31 hS (fun _=>.cvi T.in3 T.in130)<|.o1 13<|.k false rfl 38 .func (number_any (p:=(pos+4)) (k:=4) (l:=l) ok.r1 ok.m2 (by omega) (by omega) (by omega)) hS<|.g 14 false rfl 39 hS (fun _=>.cvi T.in3 T.in130)<|.o1 26<|.c' false rfl 51 .func (sclone_any (a:=ca1) (c:=c-(pos+16)) (l:=(l.drop (pos+16)).take size) ok.r0 (by simp;omega)) ?_;rintro _ η13 own;obtain ⟨ya4,yc4,rfl⟩:=own.formB;have ok:=ok.own own;refine ⟨ok.n3.n3.k2.tR,?_⟩;have hS:=ok.n3.n3.k2.tR;refine .g 27 false rfl 52 hS (fun _=>.bd #[.int .i64 (((rdN l pos 4):Nat):Int),.int .i64 (((rdN l (pos+4) 4):Nat):Int),.slice ya4 (((l.drop (pos+16)).take size).length) yc4] T.zr277 T.pl277 rfl)<|.o1 29<|.ur' true rfl (.stW (vs:=[.int .i64 (((rdN l pos 4):Nat):Int),.int .i64 (((rdN l (pos+4) 4):Nat):Int),.slice ya4 (((l.drop (pos+16)).take size).length) yc4]) T.sz277 ok.n1 (oneL rfl)) ?_;rintro η14 ⟨ok,cg⟩;refine ⟨trivial,?_⟩;refine .e ?_;refine .end<|⟨pb5,ya4,yc4,⟨rfl,rfl,rfl,rfl,trivial⟩,ok.n3.n3.n3.n3.tR⟩
 rintro s η15 ⟨b5,a1,c1,hs,ok⟩;refine .frame hs fun τ=>?_;refine .seq<|.t 5 mixed ?_;simp only [List.take_succ_cons,List.take_zero,List.drop_succ_cons,List.drop_zero];refine .z .mvP<|.z .nil<|.z (.fa T.fd275_3)<|.z (.ldx T.ag130 ok.m3)<|.z (.ldb T.ag277 ok.m0 T.sz277)<|.nil ?_;refine .c' 58 .func (link_any (p:=(rdN l pos 4)) (q:=(rdN l (pos+4) 4)) (r:=prev) (by omega) (by omega) (by omega) (by simp;omega) (a:=a1) (c:=c1) (l:=((l.drop (pos+16)).take size)) (RdL.ofCapB (v:=(a1,((l.drop (pos+16)).take size).length,c1)) (l:=((l.drop (pos+16)).take size)) ok.m1)) ?_;rintro _ η16 ⟨rfl,hx⟩;have ok:=ok.ext hx;refine .z .asI<|.nil ?_;refine .seq<|.seq<|.r<|.z (.ldb T.ag277 ok.m0 T.sz277)<|.c' 60 .func (isframe_any (z1:=((rdN l pos 4:Nat):Int)) (z2:=((rdN l (pos+4) 4:Nat):Int)) (a:=a1) (c:=c1) (l:=((l.drop (pos+16)).take size)) (RdL.ofCapB (v:=(a1,((l.drop (pos+16)).take size).length,c1)) (l:=((l.drop (pos+16)).take size)) ok.m1)) ?_;rintro _ η17 ⟨rfl,hx⟩;have ok:=ok.ext hx;refine .z .not<|.z .mvB<|.spl (fun G62=>?_) (fun G62=>?_)
 ·
  refine .y<|.y<|.y<|.y<|.y<|.y<|.y<|.y<|.y<|.z .pkt<|.nil ?_;refine .ct<|.seq<|.r<|.z (.bd #[.int .i64 0,.int .i64 0,.slice none 0 0] T.zr277 T.pl277 rfl)<|.ur' (.stW (vs:=[.int .i64 0,.int .i64 0,.slice none 0 0]) T.sz277 ok.n2 (oneL rfl)) ?_;rintro η18 ⟨ok,cg⟩;refine .z .asB<|.nil ?_;refine .ret ⟨.tuple #[.agg #[.int .i64 0,.int .i64 0,.slice none 0 0],.bool false],Res.many (vs:=[.agg #[.int .i64 0,.int .i64 0,.slice none 0 0],.bool false]) rfl ⟨⟨_,rfl,load_ag T.ag277 ok.m0 T.sz277⟩,rfl,trivial⟩ rfl,⟨rfl,ok.chg,ok.m3⟩⟩
 refine .z .mvI<|.z .mvP<|.z .mvP<|.z .nil<|.z (.fa T.fd275_1)<|.z (.ldx T.ag3 ok.m3)<|.z (.addI (b:=8))<|.k 70 .func (number_any (p:=(pos+8)) (k:=8) (l:=l) ok.r0 ok.m3 (by omega) (by omega) (by omega))<|.z .neq<|.z .pkf<|.nil ?_;refine .cd (fun C1=>?_) (fun C1=>?_)
 ·
  refine .seq<|.r<|.z (.bd #[.int .i64 0,.int .i64 0,.slice none 0 0] T.zr277 T.pl277 rfl)<|.ur' (.stW (vs:=[.int .i64 0,.int .i64 0,.slice none 0 0]) T.sz277 ok.n2 (oneL rfl)) ?_;rintro η19 ⟨ok,cg⟩;refine .z .asB<|.nil ?_;refine .ret ⟨.tuple #[.agg #[.int .i64 0,.int .i64 0,.slice none 0 0],.bool false],Res.many (vs:=[.agg #[.int .i64 0,.int .i64 0,.slice none 0 0],.bool false]) rfl ⟨⟨_,rfl,load_ag T.ag277 ok.m0 T.sz277⟩,rfl,trivial⟩ rfl,⟨rfl,ok.chg,ok.m3⟩⟩
 exact absurd ⟨hfit,by simpa [rawF] using G62,by simp only [rawF];omega⟩ hn
theorem frame_ok {h:Heap} {F E:Nat→Prop} {r c pos size prev salt:Nat} {a:Option Addr} {l:List UInt8} (hl:RdL h F E (a,l.length,c) l) (hb:(boxI r 275 [.slice a l.length c,.int .i64 (pos:Int),.int .i64 (size:Int),.int .u64 (prev:Int),.int .u64 (salt:Int)]).p h) (hd:∀j,F j∨E j→j≠r) (hpos:pos≤l.length) (hsz:size<4294967296) (hpv:prev<18446744073709551616) (hN:l.length≤17000000) (hf:fits l size pos prev) :
  HC Tryz.prog 204 #[.pointer (some ⟨r,0,none⟩)] h (fun v h'=>∃a' c',v=.tuple #[.agg #[.int .i64 (rawF l size pos).page,.int .i64 (rawF l size pos).commit,.slice a' (rawF l size pos).b.length c'],.bool true]∧Chg (fun j=>j=r) h h'∧
   (boxI r 275 [.slice a l.length c,.int .i64 ((pos+16+size:Nat):Int),.int .i64 (size:Int),.int .u64 ((linkN prev (rawF l size pos):Nat):Int),.int .u64 (salt:Int)]).p h'∧Cap h' 1 5 (.slice a' (rawF l size pos).b.length c') ((rawF l size pos).b.map bv)∧∀j,blkC (.slice a' (rawF l size pos).b.length c') j→h.size≤j):=by
 have hc2:=hl.m;have hc1:l.length≤c:=hl.c;simp only at hc2;have ok:=((Hp.nil h (fun j=>j=r)).arg hl).obj (boxI r 275 [.slice a l.length c,.int .i64 (pos:Int),.int .i64 (size:Int),.int .u64 (prev:Int),.int .u64 (salt:Int)]) hb (fun j e=>⟨e▸block_lt hb,e⟩) (by simp) (by
  intro b hm j e hj;rcases List.mem_cons.1 hm with rfl | hm
  ·exact hd j (hj.imp And.left And.left) e
  ·cases hm)
 have h81:=rdN_lt8 l (pos+8);have h41:=rdN_lt4 l pos;have h42:=rdN_lt4 l (pos+4);refine HC.go Tryz.func204 83 ?_;refine .seq<|.r<|.a' 2 (.alA T.zr277 ok) ?_;rintro _ η1 ⟨pb1,rfl,ok,xe⟩;refine .z .asB<|.nil ?_;refine .seq<|.q (hm:=mixed)<|.z .mvP<|.z .nil<|.z (.fa T.fd275_1)<|.z (.ldx T.ag3 ok.m1)<|.z (.addI (b:=16))<|.z .mvP<|.z .nil<|.z (.fa T.fd275_2)<|.z (.ldx T.ag3 ok.m1)<|.z .addI<|.z .asI<|.nil ?_;refine .seq<|.seq<|.r<|.z .mvI<|.z .mvP<|.z .nil<|.z (.fa T.fd275_0)<|.z (.ldx T.ag44 ok.m1)<|.z (.len T.el44)<|.z .gtr<|.nil ?_;refine .cd (fun C0=>?_) (fun C0=>?_)
 ·
  have:=hf.1;omega
 have hfit:pos+16+size≤l.length:=by omega
 refine .skip<|.seq<|.join (fun s hh=>∃(b5:Nat) (a1:Option Addr) (c1:Nat),Has s [(0,.pointer (some ⟨r,0,none⟩)),(2,.pointer (some ⟨pb1,0,none⟩)),(4,.int .i64 (((pos+16)+size:Nat):Int)),(5,.pointer (some ⟨b5,0,none⟩))]∧Hp h (fun j=>j=r) [boxI b5 277 [.int .i64 ((rdN l pos 4:Nat):Int),.int .i64 ((rdN l (pos+4) 4:Nat):Int),.slice a1 (((l.drop (pos+16)).take size).length) c1],capI 1 5 (a1,((l.drop (pos+16)).take size).length,c1) (((l.drop (pos+16)).take size).map bv),boxI pb1 277 [.int .i64 0,.int .i64 0,.slice none 0 0],boxI r 275 [.slice a l.length c,.int .i64 (pos:Int),.int .i64 (size:Int),.int .u64 (prev:Int),.int .u64 (salt:Int)]] [rdI (fun j=>F j∧j<h.size) (fun j=>E j∧j<h.size) (a,l.length,c) l] hh) ?_ ?_
 ·
  refine .a 29 (fun fl hh=>cond fl True (Hp h (fun j=>j=r) [boxI pb1 277 [.int .i64 0,.int .i64 0,.slice none 0 0],boxI r 275 [.slice a l.length c,.int .i64 (pos:Int),.int .i64 (size:Int),.int .u64 (prev:Int),.int .u64 (salt:Int)]] [rdI (fun j=>F j∧j<h.size) (fun j=>E j∧j<h.size) (a,l.length,c) l] hh)) mixed ?_;have hS:=ok;refine .g 0 false rfl 25 hS (fun _=>.mvP)<|.g 1 false rfl 26 hS (fun _=>.mvP)<|.g 2 false rfl 27 hS (fun _=>.nil)<|.g 3 false rfl 28 hS (fun _=>.fa T.fd275_1)<|.l 4 false rfl 29 hS (fun _ hS=>.ldx T.ag3 hS.m1)<|.g 7 false rfl 32 hS (fun _=>.mvP)<|.g 8 false rfl 33 hS (fun _=>.mvP)<|.g 9 false rfl 34 hS (fun _=>.nil)<|.g 10 false rfl 35 hS (fun _=>.fa T.fd275_1)<|.l 11 false rfl 36 hS (fun _ hS=>.ldx T.ag3 hS.m1)<|.g 12 false rfl 37 hS (fun _=>.addI (b:=4))<|.g 15 false rfl 40 hS (fun _=>.mvP)<|.g 16 false rfl 41 hS (fun _=>.nil)<|.g 17 false rfl 42 hS (fun _=>.fa T.fd275_0)<|.l 18 false rfl 43 hS (fun _ hS=>.ldx T.ag44 hS.m1)<|.g 19 false rfl 44 hS (fun _=>.mvP)<|.g 20 false rfl 45 hS (fun _=>.nil)<|.g 21 false rfl 46 hS (fun _=>.fa T.fd275_1)<|.l 22 false rfl 47 hS (fun _ hS=>.ldx T.ag3 hS.m1)<|.g 23 false rfl 48 hS (fun _=>.addI (b:=16))<|.g 24 false rfl 49 hS (fun _=>.mvI)<|.g 25 false rfl 50 hS (fun _=>.slh (pos+16) (pos+16+size) T.el44 T.sz5)<|?_;generalize hc1:cutA a (pos+16) c 1=ca1;generalize hn1:(pos+16+size)-(pos+16)=cn1;obtain rfl:cn1=((l.drop (pos+16)).take size).length:=by rw [←hn1];simp<;>omega
  have ok:=ok.d0 (rdI (fun j=>F j∧j<h.size) (fun j=>E j∧j<h.size) (ca1,((l.drop (pos+16)).take size).length,c-(pos+16)) ((l.drop (pos+16)).take size)) (by have h1:=ok.r0.cut (i:=(pos+16)) (j:=(pos+16+size)) (by omega) (by omega);rw [show ((l).drop (pos+16)).take ((pos+16+size)-(pos+16))=(l.drop (pos+16)).take size from by congr 1;omega] at h1;rw [←hc1,←hn1];exact h1) (fun _ h=>h);refine .o2 5 28 ?_ ?_
  ·
   refine .k false rfl 30 .func (number_any (p:=pos) (k:=4) (l:=l) ok.r1 ok.m1 (by omega) (by omega) (by omega)) hS<|.g 6 false rfl 31 hS (fun _=>.cvi T.in3 T.in130)<|.o2 13 28 ?_ ?_
   ·
    refine .k false rfl 38 .func (number_any (p:=(pos+4)) (k:=4) (l:=l) ok.r1 ok.m1 (by omega) (by omega) (by omega)) hS<|.g 14 false rfl 39 hS (fun _=>.cvi T.in3 T.in130)<|.o2 26 28 ?_ ?_
    ·
     refine .c' false rfl 51 .func (sclone_any (a:=ca1) (c:=c-(pos+16)) (l:=(l.drop (pos+16)).take size) ok.r0 (by simp;omega)) ?_;rintro _ η2 own;obtain ⟨ya1,yc1,rfl⟩:=own.formB;have ok:=ok.own own;refine ⟨ok.n2.n2.k2.tR,?_⟩;have hS:=ok.n2.n2.k2.tR;refine .g 27 false rfl 52 hS (fun _=>.bd #[.int .i64 (((rdN l pos 4):Nat):Int),.int .i64 (((rdN l (pos+4) 4):Nat):Int),.slice ya1 (((l.drop (pos+16)).take size).length) yc1] T.zr277 T.pl277 rfl)<|.o1 28<|.a' false rfl 5 (.alA T.zr277 ok) ?_;rintro _ η3 ⟨pb2,rfl,ok,xe⟩;refine ⟨ok.n3.n3.k2.tR,?_⟩;have hS:=ok.n3.n3.k2.tR;refine .o1 29<|.ur' true rfl (.stW (vs:=[.int .i64 (((rdN l pos 4):Nat):Int),.int .i64 (((rdN l (pos+4) 4):Nat):Int),.slice ya1 (((l.drop (pos+16)).take size).length) yc1]) T.sz277 ok (oneL rfl)) ?_;rintro η4 ⟨ok,cg⟩;refine ⟨trivial,?_⟩;refine .e ?_;refine .end<|⟨pb2,ya1,yc1,⟨rfl,rfl,rfl,rfl,trivial⟩,ok.n3.n3.n3.n3.tR⟩
    ·
     refine .a' false rfl 5 (.alA T.zr277 ok) ?_;rintro _ η5 ⟨pb3,rfl,ok,xe⟩;refine ⟨ok.n2.n2.k2.tR,?_⟩;have hS:=ok.n2.n2.k2.tR;refine .o1 26<|.c' false rfl 51 .func (sclone_any (a:=ca1) (c:=c-(pos+16)) (l:=(l.drop (pos+16)).take size) ok.r0 (by simp;omega)) ?_;rintro _ η6 own;obtain ⟨ya2,yc2,rfl⟩:=own.formB;have ok:=ok.own own;refine ⟨ok.n3.n3.k2.tR,?_⟩;have hS:=ok.n3.n3.k2.tR;refine .g 27 false rfl 52 hS (fun _=>.bd #[.int .i64 (((rdN l pos 4):Nat):Int),.int .i64 (((rdN l (pos+4) 4):Nat):Int),.slice ya2 (((l.drop (pos+16)).take size).length) yc2] T.zr277 T.pl277 rfl)<|.o1 29<|.ur' true rfl (.stW (vs:=[.int .i64 (((rdN l pos 4):Nat):Int),.int .i64 (((rdN l (pos+4) 4):Nat):Int),.slice ya2 (((l.drop (pos+16)).take size).length) yc2]) T.sz277 ok.n1 (oneL rfl)) ?_;rintro η7 ⟨ok,cg⟩;refine ⟨trivial,?_⟩;refine .e ?_;refine .end<|⟨pb3,ya2,yc2,⟨rfl,rfl,rfl,rfl,trivial⟩,ok.n3.n3.n3.n3.tR⟩
   ·
    refine .a' false rfl 5 (.alA T.zr277 ok) ?_;rintro _ η8 ⟨pb4,rfl,ok,xe⟩;refine ⟨ok.n2.n2.k2.tR,?_⟩;have hS:=ok.n2.n2.k2.tR;refine .o1 13<|.k false rfl 38 .func (number_any (p:=(pos+4)) (k:=4) (l:=l) ok.r1 ok.m2 (by omega) (by omega) (by omega)) hS<|.g 14 false rfl 39 hS (fun _=>.cvi T.in3 T.in130)<|.o1 26<|.c' false rfl 51 .func (sclone_any (a:=ca1) (c:=c-(pos+16)) (l:=(l.drop (pos+16)).take size) ok.r0 (by simp;omega)) ?_;rintro _ η9 own;obtain ⟨ya3,yc3,rfl⟩:=own.formB;have ok:=ok.own own;refine ⟨ok.n3.n3.k2.tR,?_⟩;have hS:=ok.n3.n3.k2.tR;refine .g 27 false rfl 52 hS (fun _=>.bd #[.int .i64 (((rdN l pos 4):Nat):Int),.int .i64 (((rdN l (pos+4) 4):Nat):Int),.slice ya3 (((l.drop (pos+16)).take size).length) yc3] T.zr277 T.pl277 rfl)<|.o1 29<|.ur' true rfl (.stW (vs:=[.int .i64 (((rdN l pos 4):Nat):Int),.int .i64 (((rdN l (pos+4) 4):Nat):Int),.slice ya3 (((l.drop (pos+16)).take size).length) yc3]) T.sz277 ok.n1 (oneL rfl)) ?_;rintro η10 ⟨ok,cg⟩;refine ⟨trivial,?_⟩;refine .e ?_;refine .end<|⟨pb4,ya3,yc3,⟨rfl,rfl,rfl,rfl,trivial⟩,ok.n3.n3.n3.n3.tR⟩
  ·
   refine .a' false rfl 5 (.alA T.zr277 ok) ?_;rintro _ η11 ⟨pb5,rfl,ok,xe⟩;refine ⟨ok.n2.n2.k2.tR,?_⟩;have hS:=ok.n2.n2.k2.tR;refine .o1 5<|.k false rfl 30 .func (number_any (p:=pos) (k:=4) (l:=l) ok.r1 ok.m2 (by omega) (by omega) (by omega)) hS<|.g 6 false rfl 31 hS (fun _=>.cvi T.in3 T.in130)<|.o1 13<|.k false rfl 38 .func (number_any (p:=(pos+4)) (k:=4) (l:=l) ok.r1 ok.m2 (by omega) (by omega) (by omega)) hS<|.g 14 false rfl 39 hS (fun _=>.cvi T.in3 T.in130)<|.o1 26<|.c' false rfl 51 .func (sclone_any (a:=ca1) (c:=c-(pos+16)) (l:=(l.drop (pos+16)).take size) ok.r0 (by simp;omega)) ?_;rintro _ η12 own;obtain ⟨ya4,yc4,rfl⟩:=own.formB;have ok:=ok.own own;refine ⟨ok.n3.n3.k2.tR,?_⟩;have hS:=ok.n3.n3.k2.tR;refine .g 27 false rfl 52 hS (fun _=>.bd #[.int .i64 (((rdN l pos 4):Nat):Int),.int .i64 (((rdN l (pos+4) 4):Nat):Int),.slice ya4 (((l.drop (pos+16)).take size).length) yc4] T.zr277 T.pl277 rfl)<|.o1 29<|.ur' true rfl (.stW (vs:=[.int .i64 (((rdN l pos 4):Nat):Int),.int .i64 (((rdN l (pos+4) 4):Nat):Int),.slice ya4 (((l.drop (pos+16)).take size).length) yc4]) T.sz277 ok.n1 (oneL rfl)) ?_;rintro η13 ⟨ok,cg⟩;refine ⟨trivial,?_⟩;refine .e ?_;refine .end<|⟨pb5,ya4,yc4,⟨rfl,rfl,rfl,rfl,trivial⟩,ok.n3.n3.n3.n3.tR⟩
 rintro s η14 ⟨b5,a1,c1,hs,ok⟩;refine .frame hs fun τ=>?_;refine .seq<|.t 5 mixed ?_;simp only [List.take_succ_cons,List.take_zero,List.drop_succ_cons,List.drop_zero];refine .z .mvP<|.z .nil<|.z (.fa T.fd275_3)<|.z (.ldx T.ag130 ok.m3)<|.z (.ldb T.ag277 ok.m0 T.sz277)<|.nil ?_;refine .c' 58 .func (link_any (p:=(rdN l pos 4)) (q:=(rdN l (pos+4) 4)) (r:=prev) (by omega) (by omega) (by omega) (by simp;omega) (a:=a1) (c:=c1) (l:=((l.drop (pos+16)).take size)) (RdL.ofCapB (v:=(a1,((l.drop (pos+16)).take size).length,c1)) (l:=((l.drop (pos+16)).take size)) ok.m1)) ?_;rintro _ η15 ⟨rfl,hx⟩;have ok:=ok.ext hx;refine .z .asI<|.nil ?_;refine .seq<|.seq<|.r<|.z (.ldb T.ag277 ok.m0 T.sz277)<|.c' 60 .func (isframe_any (z1:=((rdN l pos 4:Nat):Int)) (z2:=((rdN l (pos+4) 4:Nat):Int)) (a:=a1) (c:=c1) (l:=((l.drop (pos+16)).take size)) (RdL.ofCapB (v:=(a1,((l.drop (pos+16)).take size).length,c1)) (l:=((l.drop (pos+16)).take size)) ok.m1)) ?_;rintro _ η16 ⟨rfl,hx⟩;have ok:=ok.ext hx;refine .z .not<|.z .mvB<|.spl (fun G62=>?_) (fun G62=>?_)
 ·
  have h9:=hf.2.1;simp only [rawF] at h9;rw [h9] at G62;cases G62
 refine .z .mvI<|.z .mvP<|.z .mvP<|.z .nil<|.z (.fa T.fd275_1)<|.z (.ldx T.ag3 ok.m3)<|.z (.addI (b:=8))<|.k 70 .func (number_any (p:=(pos+8)) (k:=8) (l:=l) ok.r0 ok.m3 (by omega) (by omega) (by omega))<|.z .neq<|.z .pkf<|.nil ?_;refine .cd (fun C1=>?_) (fun C1=>?_)
 ·
  have h9:=hf.2.2;simp only [rawF] at h9;exact absurd (by rw [h9]) C1
 refine .skip<|.seq<|.r<|.z .mvP<|.z .mvP<|.z .mvI<|.z .mvI<|.z .nil<|.z (.fa T.fd275_1)<|.ur' (.stI T.sz3 ok.n3) ?_;rintro η17 ⟨ok,cg⟩;refine .z .nil<|.z (.fa T.fd275_3)<|.ur' (.stI T.sz130 ok) ?_;rintro η18 ⟨ok,cg⟩;refine .nil ?_;refine .seq<|.r<|.z (.ldb T.ag277 ok.m1 T.sz277)<|.ur' (.stW (vs:=[.int .i64 ((rdN l pos 4:Nat):Int),.int .i64 ((rdN l (pos+4) 4:Nat):Int),.slice a1 (((l.drop (pos+16)).take size).length) c1]) T.sz277 ok.n3 (oneL rfl)) ?_;rintro η19 ⟨ok,cg⟩;refine .z .asB<|.nil ?_;refine .ret ⟨.tuple #[.agg #[.int .i64 ((rdN l pos 4:Nat):Int),.int .i64 ((rdN l (pos+4) 4:Nat):Int),.slice a1 (((l.drop (pos+16)).take size).length) c1],.bool true],Res.many (vs:=[.agg #[.int .i64 ((rdN l pos 4:Nat):Int),.int .i64 ((rdN l (pos+4) 4:Nat):Int),.slice a1 (((l.drop (pos+16)).take size).length) c1],.bool true]) rfl ⟨⟨_,rfl,load_ag T.ag277 ok.m0 T.sz277⟩,rfl,trivial⟩ rfl,⟨_,_,rfl,ok.chg,ok.m1,ok.m3,(ok.n1.n3).freshD⟩⟩
instance:Rep Fr where
 k:=3
 rd h F cs f:=∃x:SV,cs=[iv f.page,iv f.commit,sv x]∧RdL h F F x f.b
 kpos:=by omega
 len:=fun ⟨_,h,_⟩=>by rw [h];rfl
 one:=fun ⟨_,h,_⟩ u hu=>by
  rw [h] at hu;simp only [List.mem_cons,List.not_mem_nil,or_false] at hu;rcases hu with rfl | rfl | rfl<;>rfl
 st:=fun c d ⟨x,e,r⟩=>⟨x,e,r.st c d d⟩
 mono:=fun d ⟨x,e,r⟩=>⟨x,e,r.mono d d⟩
 lt:=fun ⟨x,e,r⟩=>⟨x,e,r.lt⟩
theorem Fr.rd_cap {h:Heap} {e:TypeId} {z1 z2:Int} {a:Option Addr} {n c:Nat} {l:List UInt8} (r:Cap h 1 e (.slice a n c) (l.map bv)):Rep.rd h (blkC (.slice a n c)) [.int .i64 z1,.int .i64 z2,.slice a n c] (⟨z1,z2,l⟩:Fr):=
 ⟨(a,n,c),rfl,RdL.of_cap1 (f:=bv) (x:=(a,n,c)) (l:=l) rfl (fun _ _ _=>rfl) r⟩
theorem frame_any {h:Heap} {F E:Nat→Prop} {r c pos size prev salt:Nat} {a:Option Addr} {l:List UInt8} (hl:RdL h F E (a,l.length,c) l) (hb:(boxI r 275 [.slice a l.length c,.int .i64 (pos:Int),.int .i64 (size:Int),.int .u64 (prev:Int),.int .u64 (salt:Int)]).p h) (hd:∀j,F j∨E j→j≠r) (hpos:pos≤l.length) (hsz:size<4294967296) (hpv:prev<18446744073709551616) (hN:l.length≤17000000) :
  HC Tryz.prog 204 #[.pointer (some ⟨r,0,none⟩)] h (fun v h'=>(fits l size pos prev∧∃a' c',v=.tuple #[.agg #[.int .i64 (rawF l size pos).page,.int .i64 (rawF l size pos).commit,.slice a' (rawF l size pos).b.length c'],.bool true]∧Chg (fun j=>j=r) h h'∧
   (boxI r 275 [.slice a l.length c,.int .i64 ((pos+16+size:Nat):Int),.int .i64 (size:Int),.int .u64 ((linkN prev (rawF l size pos):Nat):Int),.int .u64 (salt:Int)]).p h'∧Cap h' 1 5 (.slice a' (rawF l size pos).b.length c') ((rawF l size pos).b.map bv)∧∀j,blkC (.slice a' (rawF l size pos).b.length c') j→h.size≤j)∨
   (¬fits l size pos prev∧v=.tuple #[.agg #[.int .i64 0,.int .i64 0,.slice none 0 0],.bool false]∧Chg (fun j=>j=r) h h'∧(boxI r 275 [.slice a l.length c,.int .i64 (pos:Int),.int .i64 (size:Int),.int .u64 (prev:Int),.int .u64 (salt:Int)]).p h')):=by
 by_cases hf:fits l size pos prev
 ·exact (frame_ok hl hb hd hpos hsz hpv hN hf).mono fun v h' q=>.inl ⟨hf,q⟩
 ·exact (frame_no hl hb hd hpos hsz hpv hN hf).mono fun v h' q=>.inr ⟨hf,q⟩
theorem head_any {h:Heap} {F E:Nat→Prop} {r c:Nat} {a:Option Addr} {l:List UInt8} (hl:RdL h F E (a,l.length,c) l) (hb:(boxI r 275 [.slice a l.length c,.int .i64 0,.int .i64 0,.int .u64 0,.int .u64 0]).p h) (hd:∀j,F j∨E j→j≠r) :
  HC Tryz.prog 203 #[.pointer (some ⟨r,0,none⟩)] h (fun v h'=>(l.length<20∧v=.int .i64 6∧∃cs,Chg (fun j=>j=r) h h'∧(boxI r 275 cs).p h')∨(20≤l.length∧headOk l=false∧v=.int .i64 8∧∃cs,Chg (fun j=>j=r) h h'∧(boxI r 275 cs).p h')∨
   (20≤l.length∧headOk l=true∧v=.int .i64 0∧Chg (fun j=>j=r) h h'∧(boxI r 275 [.slice a l.length c,.int .i64 20,.int .i64 ((rdN l 4 4:Nat):Int),.int .u64 ((firstN l:Nat):Int),.int .u64 ((rdN l 8 8:Nat):Int)]).p h')):=by
 rcases Nat.lt_or_ge l.length 20 with h1 | h1
 ·exact (head_short hl hb hd h1).mono fun v h' q=>.inl ⟨h1,q⟩
 ·cases h2:okSz (rdN l 4 4) with
  | false=>exact (head_form1 hl hb hd h1 (by rw [okZ_nat];exact h2)).mono fun v h' q=>.inr (.inl ⟨h1,by simp [headOk,h2],q⟩)
  | true=>
   by_cases h3:headN (rdN l 4 4) (rdN l 8 8)=l.take 20
   ·exact (head_ok hl hb hd h1 (by rw [okZ_nat];exact h2) h3).mono fun v h' q=>.inr (.inr ⟨h1,by simp [headOk,h2,h3],q⟩)
   ·exact (head_form2 hl hb hd h1 (by rw [okZ_nat];exact h2) h3).mono fun v h' q=>.inr (.inl ⟨h1,by simp [headOk,h2,h3],q⟩)
theorem clip_any {h:Heap} {a:Option Addr} {n c:Nat} (h1:n≤c) (h2:c≤9223372036854775807) :
  HC Tryz.prog 205 #[.slice a n c] h (fun v h'=>v=.slice a n n∧h'=h):=by
 refine HC.go Tryz.func205 9 ?_;refine .seq<|.r<|.z .asS<|.nil ?_;refine .seq<|.r<|.z .mvS<|.z .mvS<|.z (.len T.el252)<|.z .mvS<|.z (.len T.el252)<|.z (.slhm n n T.el252 T.sz277)<|.z .asS<|.nil ?_;refine .ret ⟨.slice a n n,Res.one rfl rfl,⟨rfl,rfl⟩⟩
theorem scan_any {h:Heap} {F E:Nat→Prop} {a:Option Addr} {c:Nat} {l:List UInt8} (hl:RdL h F E (a,l.length,c) l) (hN:l.length≤17000000) :
  HC Tryz.prog 177 #[.slice a l.length c] h (fun v h'=>(l.length<20∧v=.tuple #[.int .i64 0,.slice none 0 0,.int .u64 0,.int .i64 0,.int .i64 6]∧Ext h h')∨(20≤l.length∧headOk l=false∧v=.tuple #[.int .i64 0,.slice none 0 0,.int .u64 0,.int .i64 0,.int .i64 8]∧Ext h h')∨
   (20≤l.length∧headOk l=true∧∃s x,ScanE l s∧v=.tuple #[.int .i64 ((rdN l 4 4:Nat):Int),sv x,.int .u64 ((s.sure:Nat):Int),.int .i64 ((s.fin:Nat):Int),.int .i64 0]∧Ext h h'∧RdL h' (Nw h h') (Nw h h') x s.l)):=by
 have hc2:=hl.m;have hc1:l.length≤c:=hl.c;simp only at hc2;have ok:=(Hp.nil h none_).arg hl;have h41:=rdN_lt4 l 4;have hfl:=firstN_lt l;refine HC.go Tryz.func177 63 ?_;refine .seq<|.r<|.z .asI<|.z .asS<|.z .asI<|.z .asI<|.z .asI<|.nil ?_;refine .seq<|.r<|.z .mvS<|.z (.bd #[.slice a l.length c,.int .i64 0,.int .i64 0,.int .u64 0,.int .u64 0] T.zr275 T.pl275 rfl)<|.a' 13 (.bxA (cs:=[.slice a l.length c,.int .i64 0,.int .i64 0,.int .u64 0,.int .u64 0]) ok) ?_;rintro _ η1 ⟨pb1,rfl,ok,xe⟩;refine .z .asP<|.nil ?_;refine .seq<|.seq<|.r<|.z .mvP<|.c' 15 .func (head_any ok.r0 ok.m0 (fun j hj e=>(ok).mr _ List.mem_cons_self _ List.mem_cons_self j e hj)) ?_;rintro _ η2 (⟨hlt,rfl,cs1,cg,hbx⟩ | ⟨hge,hhd,rfl,cs1,cg,hbx⟩ | ⟨hge,hhd,rfl,cg,hbx⟩)
 ·
  have ok:=(ok).boxUp cg hbx;refine .z .asI<|.nil ?_;refine .seq<|.r<|.z .mvI<|.z .neq<|.nil ?_;refine .ct<|.seq<|.r<|.z .mvI<|.z .asI<|.z .asS<|.z .asI<|.z .asI<|.z .asI<|.nil ?_;refine .ret ⟨.tuple #[.int .i64 0,.slice none 0 0,.int .u64 0,.int .i64 0,.int .i64 6],Res.many (vs:=[.int .i64 0,.slice none 0 0,.int .u64 0,.int .i64 0,.int .i64 6]) rfl ⟨rfl,rfl,rfl,rfl,rfl,trivial⟩ rfl,.inl ⟨hlt,rfl,ok.chg⟩⟩
 ·
  have ok:=(ok).boxUp cg hbx;refine .z .asI<|.nil ?_;refine .seq<|.r<|.z .mvI<|.z .neq<|.nil ?_;refine .ct<|.seq<|.r<|.z .mvI<|.z .asI<|.z .asS<|.z .asI<|.z .asI<|.z .asI<|.nil ?_;refine .ret ⟨.tuple #[.int .i64 0,.slice none 0 0,.int .u64 0,.int .i64 0,.int .i64 8],Res.many (vs:=[.int .i64 0,.slice none 0 0,.int .u64 0,.int .i64 0,.int .i64 8]) rfl ⟨rfl,rfl,rfl,rfl,rfl,trivial⟩ rfl,.inr (.inl ⟨hge,hhd,rfl,ok.chg⟩)⟩
 have ok:=(ok).boxUp cg hbx;refine .z .asI<|.nil ?_;refine .seq<|.r<|.z .mvI<|.z .neq<|.nil ?_;refine .cf<|.skip<|.seq<|.q (hm:=mixed)<|.z .mvP<|.z .nil<|.z (.fa T.fd275_3)<|.z (.ldx T.ag130 ok.m0)<|.z .mvP<|.z .nil<|.z (.fa T.fd275_1)<|.z (.ldx T.ag3 ok.m0)<|.z .asI<|.z .asI<|.nil ?_;refine .seq<|.r<|.z .asS<|?_;have ok:=ok.accNil 277 Fr;refine .nil ?_;refine .seq<|.seq<|.join (fun s hh=>∃(g:Fr) (okb:Bool) (b9:Nat) (a1:Option Addr) (c1:Nat) (pp:Nat) (vv:Nat),Has s [(3,.slice none 0 0),(4,.int .u64 ((firstN l:Nat):Int)),(5,.int .i64 20),(7,.pointer (some ⟨pb1,0,none⟩)),(8,.slice none 0 0),(9,.pointer (some ⟨b9,0,none⟩)),(10,.bool okb)]∧Hp h none_ [accI 277 (none,0,0) (none,0,0) none_ ([]:List Fr) [],boxI b9 277 [.int .i64 g.page,.int .i64 g.commit,.slice a1 g.b.length c1],capI 1 5 (a1,g.b.length,c1) (g.b.map bv),boxI pb1 275 [.slice a l.length c,.int .i64 (pp:Int),.int .i64 ((rdN l 4 4:Nat):Int),.int .u64 (vv:Int),.int .u64 ((rdN l 8 8:Nat):Int)]] [rdI (fun j=>F j∧j<h.size) (fun j=>E j∧j<h.size) (a,l.length,c) l] hh∧(okb=true→fits l (rdN l 4 4) 20 (firstN l)∧g=rawF l (rdN l 4 4) 20∧pp=20+16+(rdN l 4 4)∧vv=linkN (firstN l) g)∧(okb=false→¬fits l (rdN l 4 4) 20 (firstN l))∧pp≤l.length∧vv<18446744073709551616) ?_ ?_
 ·
  refine .r<|.z .mvP<|.c' 29 .func (frame_any (pos:=20) (size:=(rdN l 4 4)) (prev:=(firstN l)) (salt:=(rdN l 8 8)) ok.r0 ok.m1 (fun j hj e=>(ok.n1).mr _ List.mem_cons_self _ List.mem_cons_self j e hj) (by omega) (by omega) (by omega) hN) ?_;rintro _ η3 (⟨hft,aw1,cw1,rfl,cg,hbx,hcap,hfr⟩ | ⟨hft,rfl,cg,hbx⟩)
  ·
   have ok:=(ok.n1).boxNew (x:=(aw1,(rawF l (rdN l 4 4) 20).b.length,cw1)) cg hbx hcap hfr;refine .z .mvU<|.z .ex<|.z .ex<|.a' 9 (.alA T.zr277 ok) ?_;rintro _ η4 ⟨pb2,rfl,ok,xe⟩;refine .ur' (.stW (vs:=[.int .i64 ((rawF l (rdN l 4 4) 20).page),.int .i64 ((rawF l (rdN l 4 4) 20).commit),.slice aw1 ((rawF l (rdN l 4 4) 20).b.length) cw1]) T.sz277 ok (oneL rfl)) ?_;rintro η5 ⟨ok,cg⟩;refine .z .asB<|.nil ?_;refine .end<|⟨(rawF l (rdN l 4 4) 20),true,pb2,aw1,cw1,(20+16+(rdN l 4 4)),(linkN (firstN l) (rawF l (rdN l 4 4) 20)),⟨rfl,rfl,rfl,rfl,rfl,rfl,rfl,trivial⟩,ok.n2.n2.n2.n3.cx2 (by simp),⟨fun _=>⟨hft,rfl,rfl,rfl⟩,fun h=>(by cases h),hft.1,nextN_lt (firstN_lt l) _⟩⟩
  have ok:=(ok.n1).boxUp cg hbx;have ok:=ok.nilC (k:=1) (e:=5);refine .z .mvU<|.z .ex<|.z .ex<|.a' 9 (.alA T.zr277 ok) ?_;rintro _ η6 ⟨pb3,rfl,ok,xe⟩;refine .ur' (.stW (vs:=[.int .i64 0,.int .i64 0,.slice none 0 0]) T.sz277 ok (oneL rfl)) ?_;rintro η7 ⟨ok,cg⟩;refine .z .asB<|.nil ?_;refine .end<|⟨(⟨0,0,[]⟩:Fr),false,pb3,none,0,20,(firstN l),⟨rfl,rfl,rfl,rfl,rfl,rfl,rfl,trivial⟩,ok.n2.n2.n2.n3.cx2 (by simp),⟨fun h=>(by cases h),fun _=>hft,hge,firstN_lt l⟩⟩
 rintro s η8 ⟨g,okb,b9,a1,c1,pp,vv,hs,ok,hI⟩;refine .frame hs fun τ=>?_;refine .block fun K0 hK0=>.loop (fun m s hh=>∃(sc:Sc) (g:Fr) (okb:Bool) (b9:Nat) (a1:Option Addr) (c1 pp vv:Nat) (a8:Option Addr) (n8 c8:Nat) (a3:Option Addr) (n3 c3:Nat) (E2:Nat→Prop),Has s [(3,.slice a3 n3 c3),(4,.int .u64 (sc.sure:Int)),(5,.int .i64 (sc.fin:Int)),(7,.pointer (some ⟨pb1,0,none⟩)),(8,.slice a8 n8 c8),(9,.pointer (some ⟨b9,0,none⟩)),(10,.bool okb)]∧Hp h none_ [accI 277 (a8,n8,c8) (a3,n3,c3) E2 sc.all sc.l,boxI b9 277 [.int .i64 g.page,.int .i64 g.commit,.slice a1 g.b.length c1],capI 1 5 (a1,g.b.length,c1) (g.b.map bv),boxI pb1 275 [.slice a l.length c,.int .i64 (pp:Int),.int .i64 ((rdN l 4 4:Nat):Int),.int .u64 (vv:Int),.int .u64 ((rdN l 8 8:Nat):Int)]] [rdI (fun j=>F j∧j<h.size) (fun j=>E j∧j<h.size) (a,l.length,c) l] hh∧Reach l (rdN l 4 4) (scan0 l) sc∧sc.all.length≤sc.pos∧sc.pos≤l.length∧sc.prev<18446744073709551616∧(okb=true→fits l (rdN l 4 4) sc.pos sc.prev∧g=rawF l (rdN l 4 4) sc.pos∧pp=sc.pos+16+(rdN l 4 4)∧vv=linkN sc.prev g)∧(okb=false→¬fits l (rdN l 4 4) sc.pos sc.prev)∧pp≤l.length∧vv<18446744073709551616∧m=l.length-sc.pos) ?_ ?_
 ·exact ⟨_,scan0 l,g,okb,b9,a1,c1,pp,vv,none,0,0,none,0,0,none_,⟨rfl,rfl,rfl,rfl,rfl,rfl,rfl,trivial⟩,ok.n3.n3.n3.n3,.refl _,Nat.zero_le _,hge,firstN_lt l,hI.1,hI.2.1,hI.2.2.1,hI.2.2.2,rfl⟩
 rintro _ _ η9 ⟨sc,g,okb,b9,a1,c1,pp,vv,a8,n8,c8,a3,n3,c3,E2,hs,ok,hR,hal,hps,hpr,hT,hF,hpl,hvl,rfl⟩ J0 hJ0;refine .frame hs fun τ=>?_;refine .seq<|.seq<|.r<|.z .mvB<|.nil ?_;refine .condr (fun C1=>?_) (fun C1=>?_)
 ·
  refine .exit<|hK0 _ _<|.seq<|.r<|.z .mvP<|.z .nil<|.z (.fa T.fd275_2)<|.z (.ldx T.ag3 ok.m3)<|.z .mvS<|.z .mvI<|.z .mvI<|.z .asI<|.z .asS<|.z .asI<|.z .asI<|.z .asI<|.nil ?_;refine .ret ⟨.tuple #[.int .i64 ((rdN l 4 4:Nat):Int),.slice a3 n3 c3,.int .u64 (sc.sure:Int),.int .i64 (sc.fin:Int),.int .i64 0],Res.many (vs:=[.int .i64 ((rdN l 4 4:Nat):Int),.slice a3 n3 c3,.int .u64 (sc.sure:Int),.int .i64 (sc.fin:Int),.int .i64 0]) rfl ⟨rfl,rfl,rfl,rfl,rfl,trivial⟩ rfl,.inr (.inr ⟨hge,hhd,sc,(a3,n3,c3),⟨hR,hF C1⟩,rfl,ok.chg,(ok).m0.l3.mono (fun j hj=>(ok).fresh j (.inr (.inl hj))) (fun j hj=>(ok).fresh j (.inr (.inr hj)))⟩)⟩
 obtain ⟨hfit,hg,hpp2,hvv2⟩:=hT C1;have hfit1:=hfit.1;refine .skip<|.seq<|.block fun K1 hK1=>.seq<|.r<|.z .mvS<|.z (.ldb T.ag277 ok.m1 T.sz277)<|.a' 40 (.lit [.tmp 39] (cs:=[.int .i64 g.page,.int .i64 g.commit,.slice a1 g.b.length c1]) T.el252 T.sz277 T.zr277 ok ⟨rfl,trivial⟩) ?_;rintro _ η10 ⟨pb4,rfl,ok,xe⟩;refine .a' 41 (.appA g T.el252 T.sz277 T.by277 T.zr277 (ok.n3.n2) ((ok.n3.n2.m2).sl) (Fr.rd_cap (ok.n3.n2).m1) (by omega)) ?_;rintro _ η11 ⟨az1,nz1,cz1,rfl,ok⟩;refine .z .asS<|.nil ?_;refine .seq<|.r<|.z (.fa T.fd277_1)<|.z (.ldx T.ag3 ok.m2)<|.z .neq<|.nil ?_;refine .cd (fun C2=>?_) (fun C2=>?_)
 ·
  have hst:stepF (rdN l 4 4) sc (rawF l (rdN l 4 4) sc.pos)=⟨pp,vv,sc.all++[g],sc.all++[g],vv,pp⟩:=by rw [←hg];simp only [stepF,if_pos C2,←hpp2,←hvv2]
  refine .seq<|.r<|.z .mvS<|?_;have hrd:=(ok).m0.rd;have hrc:=hrd.c;have hrm:=hrd.m;simp only at hrc hrm;refine .c' 46 .func (clip_any hrc hrm) ?_;rintro _ _ ⟨rfl,rfl⟩;have ok:=(ok).accClip;refine .z .asS<|.nil ?_;refine .q (hm:=mixed)<|.z .mvP<|.z .nil<|.z (.fa T.fd275_3)<|.z (.ldx T.ag130 ok.m3)<|.z .mvP<|.z .nil<|.z (.fa T.fd275_1)<|.z (.ldx T.ag3 ok.m3)<|.z .asI<|.z .asI<|.nil ?_;refine .end<|hK1 _ _<|.seq<|.seq<|.r<|.z (.ldb T.ag277 ok.m2 T.sz277)<|.nil ?_;refine .r<|.a' 9 (.alA T.zr277 ok) ?_;rintro _ η12 ⟨pb5,rfl,ok,xe⟩;refine .ur' (.stW (vs:=[.int .i64 g.page,.int .i64 g.commit,.slice a1 g.b.length c1]) T.sz277 ok (oneL rfl)) ?_;rintro η13 ⟨ok,cg⟩;refine .nil ?_;refine .r<|.z .mvP<|.c' 35 .func (frame_any (pos:=pp) (size:=(rdN l 4 4)) (prev:=vv) (salt:=(rdN l 8 8)) ok.r0 ok.m4 (fun j hj e=>(ok.n4).mr _ List.mem_cons_self _ List.mem_cons_self j e hj) (by omega) (by omega) (by omega) hN) ?_;rintro _ η14 (⟨hft,aw2,cw2,rfl,cg,hbx,hcap,hfr⟩ | ⟨hft,rfl,cg,hbx⟩)
  ·
   have ok:=(ok.n4).boxNew (x:=(aw2,(rawF l (rdN l 4 4) pp).b.length,cw2)) cg hbx hcap hfr;refine .z .mvU<|.z .ex<|.z .ex<|.ur' (.stW (vs:=[.int .i64 ((rawF l (rdN l 4 4) pp).page),.int .i64 ((rawF l (rdN l 4 4) pp).commit),.slice aw2 ((rawF l (rdN l 4 4) pp).b.length) cw2]) T.sz277 ok.n2 (oneL rfl)) ?_;rintro η15 ⟨ok,cg⟩;refine .z .asB<|.nil ?_;refine .end<|hJ0 _ _ _ ⟨⟨pp,vv,sc.all++[g],sc.all++[g],vv,pp⟩,(rawF l (rdN l 4 4) pp),true,pb5,aw2,cw2,(pp+16+(rdN l 4 4)),(linkN vv (rawF l (rdN l 4 4) pp)),az1,nz1,cz1,az1,nz1,nz1,_,⟨rfl,rfl,rfl,rfl,rfl,rfl,rfl,trivial⟩,ok.n2.n2.n2.n3.k4.cx2 (by simp),hst▸hR.step hfit,(by simp only [List.length_append,List.length_singleton];omega),hpl,hvl,fun _=>⟨hft,rfl,rfl,rfl⟩,fun h=>(by cases h),hft.1,nextN_lt hvl _,rfl⟩ (by simp only;omega)
  have ok:=(ok.n4).boxUp cg hbx;have ok:=ok.nilC (k:=1) (e:=5);refine .z .mvU<|.z .ex<|.z .ex<|.ur' (.stW (vs:=[.int .i64 0,.int .i64 0,.slice none 0 0]) T.sz277 ok.n2 (oneL rfl)) ?_;rintro η16 ⟨ok,cg⟩;refine .z .asB<|.nil ?_;refine .end<|hJ0 _ _ _ ⟨⟨pp,vv,sc.all++[g],sc.all++[g],vv,pp⟩,(⟨0,0,[]⟩:Fr),false,pb5,none,0,pp,vv,az1,nz1,cz1,az1,nz1,nz1,_,⟨rfl,rfl,rfl,rfl,rfl,rfl,rfl,trivial⟩,ok.n2.n2.n2.n3.k4.cx2 (by simp),hst▸hR.step hfit,(by simp only [List.length_append,List.length_singleton];omega),hpl,hvl,fun h=>(by cases h),fun _=>hft,hpl,hvl,rfl⟩ (by simp only;omega)
 have hst:stepF (rdN l 4 4) sc (rawF l (rdN l 4 4) sc.pos)=⟨pp,vv,sc.all++[g],sc.l,sc.sure,sc.fin⟩:=by rw [←hg];simp only [stepF,if_neg C2,←hpp2,←hvv2]
 refine .skip<|.end<|hK1 _ _<|.seq<|.seq<|.r<|.z (.ldb T.ag277 ok.m2 T.sz277)<|.nil ?_;refine .r<|.a' 9 (.alA T.zr277 ok) ?_;rintro _ η17 ⟨pb6,rfl,ok,xe⟩;refine .ur' (.stW (vs:=[.int .i64 g.page,.int .i64 g.commit,.slice a1 g.b.length c1]) T.sz277 ok (oneL rfl)) ?_;rintro η18 ⟨ok,cg⟩;refine .nil ?_;refine .r<|.z .mvP<|.c' 35 .func (frame_any (pos:=pp) (size:=(rdN l 4 4)) (prev:=vv) (salt:=(rdN l 8 8)) ok.r0 ok.m4 (fun j hj e=>(ok.n4).mr _ List.mem_cons_self _ List.mem_cons_self j e hj) (by omega) (by omega) (by omega) hN) ?_;rintro _ η19 (⟨hft,aw3,cw3,rfl,cg,hbx,hcap,hfr⟩ | ⟨hft,rfl,cg,hbx⟩)
 ·
  have ok:=(ok.n4).boxNew (x:=(aw3,(rawF l (rdN l 4 4) pp).b.length,cw3)) cg hbx hcap hfr;refine .z .mvU<|.z .ex<|.z .ex<|.ur' (.stW (vs:=[.int .i64 ((rawF l (rdN l 4 4) pp).page),.int .i64 ((rawF l (rdN l 4 4) pp).commit),.slice aw3 ((rawF l (rdN l 4 4) pp).b.length) cw3]) T.sz277 ok.n2 (oneL rfl)) ?_;rintro η20 ⟨ok,cg⟩;refine .z .asB<|.nil ?_;refine .end<|hJ0 _ _ _ ⟨⟨pp,vv,sc.all++[g],sc.l,sc.sure,sc.fin⟩,(rawF l (rdN l 4 4) pp),true,pb6,aw3,cw3,(pp+16+(rdN l 4 4)),(linkN vv (rawF l (rdN l 4 4) pp)),az1,nz1,cz1,a3,n3,c3,_,⟨rfl,rfl,rfl,rfl,rfl,rfl,rfl,trivial⟩,ok.n2.n2.n2.n3.k4.cx2 (by simp),hst▸hR.step hfit,(by simp only [List.length_append,List.length_singleton];omega),hpl,hvl,fun _=>⟨hft,rfl,rfl,rfl⟩,fun h=>(by cases h),hft.1,nextN_lt hvl _,rfl⟩ (by simp only;omega)
 have ok:=(ok.n4).boxUp cg hbx;have ok:=ok.nilC (k:=1) (e:=5);refine .z .mvU<|.z .ex<|.z .ex<|.ur' (.stW (vs:=[.int .i64 0,.int .i64 0,.slice none 0 0]) T.sz277 ok.n2 (oneL rfl)) ?_;rintro η21 ⟨ok,cg⟩;refine .z .asB<|.nil ?_;refine .end<|hJ0 _ _ _ ⟨⟨pp,vv,sc.all++[g],sc.l,sc.sure,sc.fin⟩,(⟨0,0,[]⟩:Fr),false,pb6,none,0,pp,vv,az1,nz1,cz1,a3,n3,c3,_,⟨rfl,rfl,rfl,rfl,rfl,rfl,rfl,trivial⟩,ok.n2.n2.n2.n3.k4.cx2 (by simp),hst▸hR.step hfit,(by simp only [List.length_append,List.length_singleton];omega),hpl,hvl,fun h=>(by cases h),fun _=>hft,hpl,hvl,rfl⟩ (by simp only;omega)
@[reducible] def frN (l:List Fr) (i:Nat):Fr:=l[i]?.getD ⟨0,0,[]⟩
def iput:List (Int × Nat)→Int→Nat→List (Int × Nat)
 | [],k,v=>[(k,v)]
 | p::l,k,v=>if p.1=k then (k,v)::l else p::iput l k v
theorem aput_map (g:Nat→Value) (k:Int) (i:Nat):∀m:List (Int × Nat),aput (m.map fun p=>(p.1,g p.2)) k (g i)=(iput m k i).map fun p=>(p.1,g p.2)
 | []=>rfl
 | p::m=>by
  simp only [List.map_cons,aput,iput];split
  ·rfl
  ·rw [aput_map g k i m];rfl
theorem iput_keys (k:Int) (i:Nat):∀m:List (Int × Nat),(iput m k i).map (·.1)=if k∈m.map (·.1) then m.map (·.1) else m.map (·.1)++[k]
 | []=>by simp [iput]
 | p::m=>by
  have ih:=iput_keys k i m;unfold iput;by_cases h:p.1=k
  ·simp [h]
  ·rw [if_neg h,List.map_cons,ih];have h2:¬k=p.1:=fun e=>h e.symm;by_cases h3:k∈m.map (·.1)
   ·rw [if_pos h3,if_pos (by simp only [List.map_cons,List.mem_cons];exact .inr h3)];rfl
   ·rw [if_neg h3,if_neg (by simp only [List.map_cons,List.mem_cons,not_or];exact ⟨h2,h3⟩)];rfl
theorem iput_nodup {m:List (Int × Nat)} (h:(m.map (·.1)).Nodup) (k:Int) (i:Nat):((iput m k i).map (·.1)).Nodup:=by
 rw [iput_keys];split
 ·exact h
 ·rename_i h2;exact List.nodup_append.2 ⟨h,by simp,fun a ha b hb=>by
   rw [List.mem_singleton] at hb;subst hb;rintro rfl;exact h2 ha⟩
theorem mem_iput {m:List (Int × Nat)} (h:(m.map (·.1)).Nodup) {k:Int} {i:Nat} {p:Int × Nat} : p∈iput m k i↔p=(k,i)∨(p∈m∧p.1≠k):=by
 induction m with
 | nil=>simp [iput]
 | cons q m ih=>
  rw [List.map_cons,List.nodup_cons] at h;unfold iput;split
  ·rename_i hq;simp only [List.mem_cons];constructor
   ·rintro (h1 | h1)
    ·exact .inl h1
    ·refine .inr ⟨.inr h1,fun e=>h.1 ?_⟩;rw [hq,←e];exact List.mem_map.2 ⟨p,h1,rfl⟩
   ·rintro (h1 | ⟨h1 | h1,h2⟩)
    ·exact .inl h1
    ·subst h1;exact absurd hq h2
    ·exact .inr h1
  ·rename_i hq;simp only [List.mem_cons,ih h.2];constructor
   ·rintro (h1 | h1 | h1)
    ·subst h1;exact .inr ⟨.inl rfl,hq⟩
    ·exact .inl h1
    ·exact .inr ⟨.inr h1.1,h1.2⟩
   ·rintro (h1 | ⟨h1 | h1,h2⟩)
    ·exact .inr (.inl h1)
    ·exact .inl h1
    ·exact .inr (.inr ⟨h1,h2⟩)
section
variable (l:List Fr)
def stepM (m:List (Int × Nat)) (i:Nat):List (Int × Nat):=
 if (frN l i).commit=0 then iput m (frN l i).page i else (iput m (frN l i).page i).filter fun p=>decide (p.1≤(frN l i).commit)
def stepC (c:Int) (i:Nat):Int:=if (frN l i).commit=0 then c else (frN l i).commit
def latM (k:Nat):List (Int × Nat):=(List.range k).foldl (stepM l) []
def latC (k:Nat):Int:=(List.range k).foldl (stepC l) 0
theorem latM_succ (k:Nat):latM l (k+1)=stepM l (latM l k) k:=by simp [latM,List.range_succ]
theorem latC_succ (k:Nat):latC l (k+1)=stepC l (latC l k) k:=by simp [latC,List.range_succ]
def stepI (i:Nat) (st:List Nat × Bool) (k:Nat):List Nat × Bool:=
 let s1:=if st.2=false∧(frN l i).page≤(frN l k).page then (st.1++[i],true) else st
 if (frN l k).page≠(frN l i).page then (s1.1++[k],s1.2) else s1
def insI (out:List Nat) (i:Nat):List Nat:=let st:=out.foldl (stepI l i) ([],false);if st.2 then st.1 else st.1++[i]
def stepO (out:List Nat) (i:Nat):List Nat:=
 if (frN l i).commit=0 then insI l out i else (insI l out i).filter fun k=>decide ((frN l k).page≤(frN l i).commit)
def latO (k:Nat):List Nat:=(List.range k).foldl (stepO l) []
theorem latO_succ (k:Nat):latO l (k+1)=stepO l (latO l k) k:=by simp [latO,List.range_succ]
def ins (i:Nat):List Nat→List Nat
 | []=>[i]
 | k::r=>if (frN l k).page<(frN l i).page then k::ins i r else if (frN l k).page=(frN l i).page then i::r else i::k::r
abbrev Sorted (out:List Nat):Prop:=out.Pairwise fun a b=>(frN l a).page<(frN l b).page
theorem fold_true (i:Nat):∀(r:List Nat) (acc:List Nat),r.foldl (stepI l i) (acc,true)=(acc++r.filter fun k=>decide ((frN l k).page≠(frN l i).page),true)
 | [],acc=>by simp
 | k::r,acc=>by
  have h1:stepI l i (acc,true) k=if (frN l k).page≠(frN l i).page then (acc++[k],true) else (acc,true):=by simp [stepI]
  rw [List.foldl_cons,h1,List.filter_cons];by_cases h:(frN l k).page=(frN l i).page
  ·rw [if_neg (by simpa using h),fold_true i r];simp [h]
  ·rw [if_pos h,fold_true i r];simp [h]
theorem fold_false (i:Nat):∀(r:List Nat) (acc:List Nat),Sorted l r→(let st:=r.foldl (stepI l i) (acc,false);if st.2 then st.1 else st.1++[i])=acc++ins l i r
 | [],acc,_=>by simp [ins]
 | k::r,acc,hs=>by
  have hs':=List.pairwise_cons.1 hs;rw [List.foldl_cons];rcases Int.lt_trichotomy (frN l k).page (frN l i).page with h | h | h
  ·have h1:stepI l i (acc,false) k=(acc++[k],false):=by
    have:¬(frN l i).page≤(frN l k).page:=by omega
    simp only [stepI,this,and_false,if_false];rw [if_pos (by omega)]
   rw [h1];have:=fold_false i r (acc++[k]) hs'.2;rw [this,ins,if_pos h];simp
  ·have h1:stepI l i (acc,false) k=(acc++[i],true):=by
    have:(frN l i).page≤(frN l k).page:=by omega
    simp only [stepI,this,and_self,if_true];rw [if_neg (by omega)]
   rw [h1,fold_true];have h2:(r.filter fun k=>decide ((frN l k).page≠(frN l i).page))=r:=by
    rw [List.filter_eq_self];intro a ha;have:=hs'.1 a ha;simp;omega
   rw [h2];show acc++[i]++r=acc++ins l i (k::r);rw [ins,if_neg (by omega),if_pos h];simp
  ·have h1:stepI l i (acc,false) k=(acc++[i]++[k],true):=by
    have:(frN l i).page≤(frN l k).page:=by omega
    simp only [stepI,this,and_self,if_true];rw [if_pos (by omega)]
   rw [h1,fold_true];have h2:(r.filter fun k=>decide ((frN l k).page≠(frN l i).page))=r:=by
    rw [List.filter_eq_self];intro a ha;have:=hs'.1 a ha;simp;omega
   rw [h2];show acc++[i]++[k]++r=acc++ins l i (k::r);rw [ins,if_neg (by omega),if_neg (by omega)];simp
theorem insI_eq {out:List Nat} (hs:Sorted l out) (i:Nat):insI l out i=ins l i out:=by
 have:=fold_false l i out [] hs;simpa [insI] using this
theorem mem_ins {i:Nat} : ∀ {out:List Nat},Sorted l out→∀ {k:Nat},k∈ins l i out↔k=i∨(k∈out∧(frN l k).page≠(frN l i).page)
 | [],_,k=>by simp [ins]
 | a::r,hs,k=>by
  have hs':=List.pairwise_cons.1 hs;unfold ins;split
  ·rename_i h;rw [List.mem_cons,mem_ins hs'.2,List.mem_cons];constructor
   ·rintro (h1 | h1 | h1)
    ·subst h1;exact .inr ⟨.inl rfl,by omega⟩
    ·exact .inl h1
    ·exact .inr ⟨.inr h1.1,h1.2⟩
   ·rintro (h1 | ⟨h1 | h1,h2⟩)
    ·exact .inr (.inl h1)
    ·exact .inl h1
    ·exact .inr (.inr ⟨h1,h2⟩)
  ·split
   ·rename_i h1 h2;simp only [List.mem_cons];constructor
    ·rintro (h3 | h3)
     ·exact .inl h3
     ·have:=hs'.1 k h3;exact .inr ⟨.inr h3,by omega⟩
    ·rintro (h3 | ⟨h3 | h3,h4⟩)
     ·exact .inl h3
     ·subst h3;exact absurd h2 h4
     ·exact .inr h3
   ·rename_i h1 h2;simp only [List.mem_cons];constructor
    ·rintro (h3 | h3 | h3)
     ·exact .inl h3
     ·subst h3;exact .inr ⟨.inl rfl,by omega⟩
     ·have:=hs'.1 k h3;exact .inr ⟨.inr h3,by omega⟩
    ·rintro (h3 | ⟨h3 | h3,h4⟩)
     ·exact .inl h3
     ·exact .inr (.inl h3)
     ·exact .inr (.inr h3)
theorem sorted_ins {i:Nat} : ∀ {out:List Nat},Sorted l out→Sorted l (ins l i out)
 | [],_=>by simp [ins]
 | a::r,hs=>by
  have hs':=List.pairwise_cons.1 hs;unfold ins;split
  ·rename_i h;refine List.pairwise_cons.2 ⟨fun b hb=>?_,sorted_ins hs'.2⟩;rcases (mem_ins l hs'.2).1 hb with rfl | h1
   ·exact h
   ·exact hs'.1 b h1.1
  ·split
   ·rename_i h1 h2;exact List.pairwise_cons.2 ⟨fun b hb=>by have:=hs'.1 b hb;omega,hs'.2⟩
   ·rename_i h1 h2;refine List.pairwise_cons.2 ⟨fun b hb=>?_,hs⟩;rcases List.mem_cons.1 hb with rfl | hb
    ·omega
    ·have:=hs'.1 b hb;omega
structure Lat (m:List (Int × Nat)) (out:List Nat):Prop where
 srt:Sorted l out
 mem:∀k,k∈out↔((frN l k).page,k)∈m
 key:∀p∈m,p.1=(frN l p.2).page
 nod:(m.map (·.1)).Nodup
theorem Lat.step {m:List (Int × Nat)} {out:List Nat} (h:Lat l m out) (i:Nat):Lat l (stepM l m i) (stepO l out i):=by
 have h1:Lat l (iput m (frN l i).page i) (insI l out i):=by
  rw [insI_eq l h.srt];refine ⟨sorted_ins l h.srt,fun k=>?_,fun p hp=>?_,iput_nodup h.nod _ _⟩
  ·rw [mem_ins l h.srt,mem_iput h.nod,h.mem];constructor
   ·rintro (rfl | h1)
    ·exact .inl rfl
    ·exact .inr h1
   ·rintro (h1 | h1)
    ·injection h1 with _ h1;exact .inl h1
    ·exact .inr h1
  ·rcases (mem_iput h.nod).1 hp with rfl | h1
   ·rfl
   ·exact h.key p h1.1
 unfold stepM stepO;split
 ·exact h1
 ·refine ⟨h1.srt.sublist List.filter_sublist,fun k=>?_,fun p hp=>h1.key p ((List.mem_filter.1 hp).1),h1.nod.sublist (List.filter_sublist.map _)⟩;rw [List.mem_filter,List.mem_filter,h1.mem]
theorem lat (k:Nat):Lat l (latM l k) (latO l k):=by
 induction k with
 | zero=>exact ⟨by simp [latO],by simp [latM,latO],by simp [latM],by simp [latM]⟩
 | succ k ih=>rw [latM_succ,latO_succ];exact ih.step l k
theorem latO_lt (k:Nat):∀i∈latO l k,i<k:=by
 induction k with
 | zero=>simp [latO]
 | succ k ih=>
  intro i hi;rw [latO_succ] at hi;have h2:i∈insI l (latO l k) k:=by
   unfold stepO at hi;split at hi
   ·exact hi
   ·exact (List.mem_filter.1 hi).1
  rw [insI_eq l (lat l k).srt,mem_ins l (lat l k).srt] at h2;rcases h2 with rfl | h2
  ·omega
  ·have:=ih i h2.1;omega
theorem latM_lt {k:Nat} {p:Int × Nat} (hp:p∈latM l k):p.2<k:=latO_lt l k _ (((lat l k).mem p.2).2 (by rw [←(lat l k).key p hp];exact hp))
theorem sorted_uniq:∀ {a b:List Nat},Sorted l a→Sorted l b→(∀k,k∈a↔k∈b)→a=b
 | [],[],_,_,_=>rfl
 | [],y::b,_,_,h=>by have:=(h y).2 List.mem_cons_self;cases this
 | x::a,[],_,_,h=>by have:=(h x).1 List.mem_cons_self;cases this
 | x::a,y::b,ha,hb,h=>by
  have ha':=List.pairwise_cons.1 ha;have hb':=List.pairwise_cons.1 hb;have hxy:x=y:=by
   rcases List.mem_cons.1 ((h x).1 List.mem_cons_self) with e | e
   ·exact e
   ·rcases List.mem_cons.1 ((h y).2 List.mem_cons_self) with e2 | e2
    ·exact e2.symm
    ·have:=ha'.1 y e2;have:=hb'.1 x e;omega
  subst hxy;congr 1;refine sorted_uniq ha'.2 hb'.2 fun k=>?_;constructor
  ·intro hk;rcases List.mem_cons.1 ((h k).1 (List.mem_cons_of_mem _ hk)) with e | e
   ·subst e;have:=ha'.1 k hk;omega
   ·exact e
  ·intro hk;rcases List.mem_cons.1 ((h k).2 (List.mem_cons_of_mem _ hk)) with e | e
   ·subst e;have:=hb'.1 k hk;omega
   ·exact e
def lkM (m:List (Int × Nat)) (k:Int):Nat:=((m.find? fun p=>p.1=k).map (·.2)).getD 0
theorem lkM_mem {m:List (Int × Nat)} {k:Int} (h:k∈m.map (·.1)):(k,lkM m k)∈m:=by
 obtain ⟨p,hp,rfl⟩:=List.mem_map.1 h;unfold lkM;cases hf:m.find? fun q=>q.1=p.1 with
 | none=>rw [List.find?_eq_none] at hf;exact absurd (by simp) (hf p hp)
 | some q=>
  have h1:=List.mem_of_find?_eq_some hf;have h2:=List.find?_some hf;simp at h2;simp only [Option.map_some,Option.getD_some];rw [←h2];exact h1
theorem lat_sorted {k:Nat} {S:List Int} (hp:S.Perm ((latM l k).map (·.1))) (hs:S.Pairwise (·≤·)):S.map (lkM (latM l k))=latO l k:=by
 have h:=lat l k;have hnod:S.Nodup:=hp.nodup_iff.2 h.nod;have hmem:∀z∈S,(z,lkM (latM l k) z)∈latM l k:=fun z hz=>lkM_mem (hp.mem_iff.1 hz);have hpg:∀z∈S,(frN l (lkM (latM l k) z)).page=z:=fun z hz=>(h.key _ (hmem z hz)).symm;refine sorted_uniq l ?_ h.srt fun i=>?_
 ·unfold Sorted;rw [List.pairwise_map];have h2:S.Pairwise fun a b=>a≤b∧a≠b:=hs.and hnod;refine (List.Pairwise.imp_of_mem ?_ h2);intro a b ha hb hab;rw [hpg a ha,hpg b hb];omega
 ·rw [h.mem,List.mem_map];constructor
  ·rintro ⟨z,hz,rfl⟩;rw [hpg z hz];exact hmem z hz
  ·intro hi;have hz:(frN l i).page∈S:=hp.mem_iff.2 (List.mem_map.2 ⟨_,hi,rfl⟩);refine ⟨_,hz,?_⟩;have h3:=hmem _ hz;have hinj:∀ {a b:Int × Nat},a∈latM l k→b∈latM l k→a.1=b.1→a=b:=by
    intro a b ha hb hab;obtain ⟨x,hx⟩:=List.mem_iff_getElem?.1 ha;obtain ⟨y,hy⟩:=List.mem_iff_getElem?.1 hb;have hxy:x=y:=by
     have a1:((latM l k).map (·.1))[x]? = some a.1:=by rw [List.getElem?_map,hx];rfl
     have a2:((latM l k).map (·.1))[y]? = some a.1:=by rw [List.getElem?_map,hy,hab];rfl
     exact (List.getElem?_inj (List.getElem?_eq_some_iff.1 a1).1 h.nod).1 (by rw [a1,a2])
    subst hxy;rw [hx] at hy;injection hy
   have:=hinj h3 hi rfl;injection this
end
open Go Go.HL
@[reducible] def vfN (l:List Fr) (xa:Nat→Option Addr) (xc:Nat→Nat) (i:Nat):List Value:=[.int .i64 (frN l i).page,.int .i64 (frN l i).commit,.slice (xa i) (frN l i).b.length (xc i)]
theorem vfN_len (l:List Fr) (xa:Nat→Option Addr) (xc:Nat→Nat) (i:Nat):(vfN l xa xc i).length=3:=rfl
structure Frs (h:Heap) (F E:Nat→Prop) (x:SV) (l:List Fr) (xa:Nat→Option Addr) (xc:Nat→Nat):Prop where
 rd:RdL h F E x l
 sl:Sl h 3 (sv x) ((List.range l.length).flatMap (vfN l xa xc))
 b:∀i,i<l.length→RdL h E E (xa i,(frN l i).b.length,xc i) (frN l i).b
theorem Frs.st {G:Nat→Prop} {h h':Heap} {F E:Nat→Prop} {x:SV} {l:List Fr} {xa:Nat→Option Addr} {xc:Nat→Nat} (c:Chg G h h') (hF:∀j,F j→¬G j) (hE:∀j,E j→¬G j) (r:Frs h F E x l xa xc):Frs h' F E x l xa xc:=by
 refine ⟨r.rd.st c hF hE,?_,fun i hi=>(r.b i hi).st c hE hE⟩;obtain ⟨a,n,cc,hv,h1,h2,h3,h4⟩:=r.sl;refine ⟨a,n,cc,hv,h1,h2,h3,fun hn=>?_⟩;obtain ⟨b,o,e,hc⟩:=h4 hn;have hx:x=(a,n,cc):=by
  obtain ⟨x1,x2,x3⟩:=x;injection hv with g1 g2 g3;simp only at g1 g2 g3;rw [g1,g2,g3]
 have hl:0<l.length:=by have:=r.rd.n;rw [hx] at this;simp only at this;omega
 obtain ⟨b2,o2,e2,hb,_⟩:=r.rd.at' hl;rw [hx,e] at e2;injection e2 with e2;injection e2 with e2 e3;subst e2;exact ⟨b,o,e,fun i v hi=>c.cell (hc i v hi) (hF b hb)⟩
@[reducible] def frsI (F E:Nat→Prop) (x:SV) (l:List Fr) (xa:Nat→Option Addr) (xc:Nat→Nat):Itm:=⟨fun h=>Frs h F E x l xa xc,fun j=>F j∨E j,fun _ _ _ c d r=>r.st c (fun j hj=>d j (.inl hj)) (fun j hj=>d j (.inr hj))⟩
theorem RdL.frs {h:Heap} {F E:Nat→Prop} {x:SV} {l:List Fr} (r:RdL h F E x l):∃xa xc,Frs h F E x l xa xc:=by
 obtain ⟨css,h1,h2⟩:=r.cells;have hex:∀i,∃y:Option Addr × Nat,i<l.length→css[i]? = some [.int .i64 (frN l i).page,.int .i64 (frN l i).commit,.slice y.1 (frN l i).b.length y.2]∧RdL h E E (y.1,(frN l i).b.length,y.2) (frN l i).b:=by
  intro i;by_cases hi:i<l.length
  ·have hic:i<css.length:=by have:=h2.1;omega
   obtain ⟨y,e,hr⟩:=h2.2 i hic hi;obtain ⟨a,c,rfl,_⟩:=hr.form;have hf:frN l i=l[i]:=by simp [frN,hi]
   refine ⟨(a,c),fun _=>⟨?_,by rw [hf];exact hr⟩⟩;rw [List.getElem?_eq_getElem hic,e,hf];rfl
  ·exact ⟨(none,0),fun h=>absurd h hi⟩
 obtain ⟨y,hy⟩:=Classical.axiomOfChoice hex;refine ⟨fun i=>(y i).1,fun i=>(y i).2,r,?_,fun i hi=>(hy i hi).2⟩;have:css.flatten=(List.range l.length).flatMap (vfN l (fun i=>(y i).1) fun i=>(y i).2):=by
  rw [List.flatMap_def];congr 1;apply List.ext_getElem?;intro i;by_cases hi:i<l.length
  ·rw [(hy i hi).1];simp [hi,vfN]
  ·rw [List.getElem?_eq_none (by have:=h2.1;omega),List.getElem?_eq_none (by simp;omega)]
 rw [←this];exact h1
theorem frs_at {h:Heap} {l:List Fr} {xa:Nat→Option Addr} {xc:Nat→Nat} {b o n c:Nat} (r:Sl h 3 (.slice (some ⟨b,o,none⟩) n c) ((List.range l.length).flatMap (vfN l xa xc))) {i j:Nat} (hi:i<l.length) {v:Value} (hv:(vfN l xa xc i)[j]? = some v):cell h b (o+i*3+j)=some v:=
 sl_at (vfN_len l xa xc) r (i:=i) (by simpa using hi) (by simpa using hv)
theorem frs_ats {h:Heap} {l:List Fr} {xa:Nat→Option Addr} {xc:Nat→Nat} {b o n c:Nat} (r:Sl h 3 (.slice (some ⟨b,o,none⟩) n c) ((List.range l.length).flatMap (vfN l xa xc))) {i:Nat} (hi:i<l.length):∀j v,(vfN l xa xc i)[j]? = some v→cell h b (o+i*3+j)=some v:=fun _ _ hv=>frs_at r hi hv
theorem Frs.pos {h:Heap} {F E:Nat→Prop} {a:Option Addr} {n c:Nat} {l:List Fr} {xa:Nat→Option Addr} {xc:Nat→Nat} (r:Frs h F E (a,n,c) l xa xc) (hp:0<l.length):∃b o,a=some ⟨b,o,none⟩∧F b:=r.rd.pos hp
end Go.Proofs.YtndlpekckpdncaaGreat
namespace Go.Proofs
open Go.Shelf
def Tryz.keysA_ren:Go.Shelf.Ren:=⟨fun | 7=>226 | 10=>245 | n=>n,fun | 23=>301 | 26=>3 | 3=>277 | 28=>217 | 0=>0 | 27=>216 | 33=>49 | 4=>4 | n=>n,fun | n=>n⟩
theorem Tryz.keysA:Go.Proofs.SlLaysZI.n7 Tryz.prog Tryz.keysA_ren:={
 mixed:=by kernel_rfl
 f7:=⟨Tryz.f226.name,by decide,Tryz.func226.trans (congrArg some (by kernel_rfl))⟩
 f10:=⟨Tryz.f245.name,by decide,Tryz.func245.trans (congrArg some (by kernel_rfl))⟩
 t0:=Tryz.underlying0
 a0:=Tryz.isAgg0
 z0:=Tryz.sizeOf0
 v0:=Tryz.zeroValue0
 t4:=Tryz.underlying4
 a4:=Tryz.isAgg4
 z4:=Tryz.sizeOf4
 v4:=Tryz.zeroValue4
 t23:=Tryz.underlying301
 a23:=Tryz.isAgg301
 z23:=Tryz.sizeOf301
 v23:=Tryz.zeroValue301
 t26:=Tryz.underlying3
 a26:=Tryz.isAgg3
 z26:=Tryz.sizeOf3
 v26:=Tryz.zeroValue3
 t27:=Tryz.underlying216
 a27:=Tryz.isAgg216
 z27:=Tryz.sizeOf216
 v27:=Tryz.zeroValue216
 t28:=Tryz.underlying217
 a28:=Tryz.isAgg217
 z28:=Tryz.sizeOf217
 v28:=Tryz.zeroValue217
 t33:=Tryz.underlying49
 a33:=Tryz.isAgg49
 z33:=Tryz.sizeOf49
 v33:=Tryz.zeroValue49 }
def Tryz.sortedA_ren:Go.Shelf.Ren:=⟨fun | 6=>144 | 8=>189 | 9=>68 | 11=>216 | 13=>125 | 12=>124 | 23=>170 | 24=>171 | 14=>161 | 15=>162 | 16=>163 | 17=>164 | 18=>165 | 19=>166 | 20=>167 | 21=>168 | 22=>169 | 25=>196 | 26=>197 | 27=>198 | 28=>199 | 29=>200 | 30=>201 | 31=>219 | n=>n,fun | 26=>3 | 28=>217 | 24=>24 | 0=>0 | 3=>3 | 37=>179 | 48=>89 | 50=>130 | 4=>4 | 40=>236 | 39=>235 | 45=>203 | 5=>5 | 9=>9 | 51=>265 | 55=>269 | 57=>293 | 58=>294 | 33=>49 | n=>n,fun | n=>n⟩
theorem Tryz.sortedA:Go.Proofs.SlLaysZI.n6 Tryz.prog Tryz.sortedA_ren:={
 mixed:=by kernel_rfl
 f6:=⟨Tryz.f144.name,by decide,Tryz.func144.trans (congrArg some (by kernel_rfl))⟩
 f8:=⟨Tryz.f189.name,by decide,Tryz.func189.trans (congrArg some (by kernel_rfl))⟩
 f11:=⟨Tryz.f216.name,by decide,Tryz.func216.trans (congrArg some (by kernel_rfl))⟩
 t0:=Tryz.underlying0
 a0:=Tryz.isAgg0
 z0:=Tryz.sizeOf0
 v0:=Tryz.zeroValue0
 t24:=Tryz.underlying24
 a24:=Tryz.isAgg24
 z24:=Tryz.sizeOf24
 v24:=Tryz.zeroValue24
 t26:=Tryz.underlying3
 a26:=Tryz.isAgg3
 z26:=Tryz.sizeOf3
 v26:=Tryz.zeroValue3
 t28:=Tryz.underlying217
 a28:=Tryz.isAgg217
 z28:=Tryz.sizeOf217
 v28:=Tryz.zeroValue217
 i26:=by kernel_rfl }
def Tryz.sortA_ren:Go.Shelf.Ren:=⟨fun | 5=>68 | 8=>125 | 7=>124 | 19=>170 | 20=>171 | 10=>161 | 11=>162 | 12=>163 | 13=>164 | 14=>165 | 15=>166 | 16=>167 | 17=>168 | 18=>169 | 30=>196 | 31=>197 | 32=>198 | 33=>199 | 34=>200 | 35=>201 | 40=>219 | n=>n,fun | 23=>24 | 25=>3 | 3=>3 | 32=>179 | 22=>24 | 0=>0 | 44=>89 | 46=>130 | 4=>4 | 36=>236 | 35=>235 | 41=>203 | 5=>5 | 9=>9 | 53=>265 | 57=>269 | 63=>293 | 64=>294 | n=>n,fun | n=>n⟩
theorem Tryz.sortA:Go.Proofs.SlLaysM.n5 Tryz.prog Tryz.sortA_ren:={
 mixed:=by kernel_rfl
 f5:=⟨Tryz.f68.name,by decide,Tryz.func68.trans (congrArg some (by kernel_rfl))⟩
 f7:=⟨Tryz.f124.name,by decide,Tryz.func124.trans (congrArg some (by kernel_rfl))⟩
 f8:=Tryz.func125.trans (congrArg some (by kernel_rfl))
 f10:=⟨Tryz.f161.name,by decide,Tryz.func161.trans (congrArg some (by kernel_rfl))⟩
 f11:=⟨Tryz.f162.name,by decide,Tryz.func162.trans (congrArg some (by kernel_rfl))⟩
 f12:=⟨Tryz.f163.name,by decide,Tryz.func163.trans (congrArg some (by kernel_rfl))⟩
 f13:=⟨Tryz.f164.name,by decide,Tryz.func164.trans (congrArg some (by kernel_rfl))⟩
 f14:=⟨Tryz.f165.name,by decide,Tryz.func165.trans (congrArg some (by kernel_rfl))⟩
 f15:=⟨Tryz.f166.name,by decide,Tryz.func166.trans (congrArg some (by kernel_rfl))⟩
 f16:=⟨Tryz.f167.name,by decide,Tryz.func167.trans (congrArg some (by kernel_rfl))⟩
 f17:=⟨Tryz.f168.name,by decide,Tryz.func168.trans (congrArg some (by kernel_rfl))⟩
 f18:=⟨Tryz.f169.name,by decide,Tryz.func169.trans (congrArg some (by kernel_rfl))⟩
 f19:=Tryz.func170.trans (congrArg some (by kernel_rfl))
 f20:=Tryz.func171.trans (congrArg some (by kernel_rfl))
 f30:=⟨Tryz.f196.name,by decide,Tryz.func196.trans (congrArg some (by kernel_rfl))⟩
 f31:=Tryz.func197.trans (congrArg some (by kernel_rfl))
 f32:=Tryz.func198.trans (congrArg some (by kernel_rfl))
 f33:=⟨Tryz.f199.name,by decide,Tryz.func199.trans (congrArg some (by kernel_rfl))⟩
 f34:=⟨Tryz.f200.name,by decide,Tryz.func200.trans (congrArg some (by kernel_rfl))⟩
 f35:=⟨Tryz.f201.name,by decide,Tryz.func201.trans (congrArg some (by kernel_rfl))⟩
 f40:=⟨Tryz.f219.name,by decide,Tryz.func219.trans (congrArg some (by kernel_rfl))⟩
 t0:=Tryz.underlying0
 a0:=Tryz.isAgg0
 z0:=Tryz.sizeOf0
 v0:=Tryz.zeroValue0
 t3:=Tryz.underlying3
 a3:=Tryz.isAgg3
 z3:=Tryz.sizeOf3
 v3:=Tryz.zeroValue3
 t4:=Tryz.underlying4
 a4:=Tryz.isAgg4
 z4:=Tryz.sizeOf4
 v4:=Tryz.zeroValue4
 t5:=Tryz.underlying5
 a5:=Tryz.isAgg5
 z5:=Tryz.sizeOf5
 v5:=Tryz.zeroValue5
 t9:=Tryz.underlying9
 a9:=Tryz.isAgg9
 z9:=Tryz.sizeOf9
 v9:=Tryz.zeroValue9
 t22:=Tryz.underlying24
 a22:=Tryz.isAgg24
 z22:=Tryz.sizeOf24
 v22:=Tryz.zeroValue24
 t23:=Tryz.underlying24
 a23:=Tryz.isAgg24
 z23:=Tryz.sizeOf24
 v23:=Tryz.zeroValue24
 t25:=Tryz.underlying3
 a25:=Tryz.isAgg3
 z25:=Tryz.sizeOf3
 v25:=Tryz.zeroValue3
 t32:=Tryz.underlying179
 a32:=Tryz.isAgg179
 z32:=Tryz.sizeOf179
 v32:=Tryz.zeroValue179
 t35:=Tryz.underlying235
 a35:=Tryz.isAgg235
 z35:=Tryz.sizeOf235
 v35:=Tryz.zeroValue235
 t36:=Tryz.underlying236
 a36:=Tryz.isAgg236
 z36:=Tryz.sizeOf236
 v36:=Tryz.zeroValue236
 t41:=Tryz.underlying203
 a41:=Tryz.isAgg203
 z41:=Tryz.sizeOf203
 v41:=Tryz.zeroValue203
 t44:=Tryz.underlying89
 a44:=Tryz.isAgg89
 z44:=Tryz.sizeOf89
 v44:=Tryz.zeroValue89
 t46:=Tryz.underlying130
 a46:=Tryz.isAgg130
 z46:=Tryz.sizeOf130
 v46:=Tryz.zeroValue130
 t53:=Tryz.underlying265
 a53:=Tryz.isAgg265
 z53:=Tryz.sizeOf265
 v53:=Tryz.zeroValue265
 t57:=Tryz.underlying269
 a57:=Tryz.isAgg269
 z57:=Tryz.sizeOf269
 v57:=Tryz.zeroValue269
 t63:=Tryz.underlying293
 a63:=Tryz.isAgg293
 z63:=Tryz.sizeOf293
 v63:=Tryz.zeroValue293
 t64:=Tryz.underlying294
 a64:=Tryz.isAgg294
 z64:=Tryz.sizeOf294
 v64:=Tryz.zeroValue294 }
end Go.Proofs
namespace Go.Proofs.YtndlpekckpdncaaGreat
open Go Go.HL Go.RowKit Go.Maps Go.Sort Go.Shelf Go.MapKept
@[reducible] def ptr (b:Nat):Value:=.pointer (some ⟨b,0,none⟩)
theorem HC.of_calls {P:Program} {f:FuncId} {args:Array Value} {h:Heap} {R:Value→Heap→Prop} (hc:Callable P f) (hr:∀w:World,w.heap=h→Calls P f args w fun e w'=>∃v,e=.returned v∧RowKit.Below h.size w w'∧R v w'.heap):HC P f args h R:=
 ⟨hc,fun _ w at'=>(hr w at'.heap).mono fun _ w' ⟨v,e,b,r⟩=>⟨v,w'.heap,e,⟨rfl,b.os.trans at'.os,b.tape.trans at'.tape,b.output.trans at'.output⟩,r⟩⟩
theorem Ext.of_below {h:Heap} {w w':World} (hw:w.heap=h) (b:RowKit.Below h.size w w'):Ext h w'.heap:=⟨hw▸b.size,fun k hk _=>by rw [b.block k hk,hw]⟩
theorem sorts_in (m:Nat):AnyZI.SortsIn Tryz.prog Tryz.sortedA_ren Fence.wide m:=
  ⟨fun blk off cap ss W hH hblk hsz=>callsIn_wide.2 (AnyM.slices_Sort_int Tryz.sortA blk off cap ss W hH hblk hsz),
   fun p cap W=>callsIn_wide.2 (AnyM.slices_Sort_int_none Tryz.sortA p cap W)⟩
def noElem (_:Value):Option (DataW Unit × List MemPlace):=some (.nil,[])
theorem int_wf {k:Int} (h : -9223372036854775808≤k∧k≤9223372036854775807):(Lit.int .i64 k).wf=true:=by
 simpa [Lit.wf,IntKind.min,IntKind.max,IntKind.signed,IntKind.bits] using h
theorem insert_perm {H:Type} (x:Lit × DataW H):∀l:List (Lit × DataW H),(DataW.insert x l).Perm (x::l)
 | []=>by simp [DataW.insert]
 | y::l=>by
  unfold DataW.insert;split
  ·exact .refl _
  ·exact ((insert_perm x l).cons y).trans (.swap x y l)
theorem sorted_perm {H:Type} : ∀l:List (Lit × DataW H),(l.foldr DataW.insert []).Perm l
 | []=>.refl _
 | x::l=>(insert_perm x _).trans ((sorted_perm l).cons x)
theorem owns_keys {h:Heap} {mb:Nat} {ks:List Int} {f:Int→Value} (hm:MapT (Value.int .i64) h mb (ks.map fun k=>(k,f k))) (hr:∀k∈ks,-9223372036854775808≤k∧k≤9223372036854775807) (hl:ks.length≤1000000000000) {w:World} (hw:w.heap[mb]? = h[mb]?) :
  ∃(nn:Nat) (D:DataW Unit),w.ownsMap Tryz.prog 3 noElem mb nn D∧Maps.size D=ks.length∧(intKeys D).Perm ks:=by
 obtain ⟨es,cl,hb,he,hs⟩:=hm;have hlen:es.size=ks.length:=by
  have:=congrArg List.length he;simpa using this
 have hkeys:es.toList.map (fun e=>(e.key,e.val))=ks.map fun k=>(Value.int .i64 k,f k):=by rw [he,List.map_map];rfl
 have hrd:∀x∈es.toList,∃k∈ks,x.key=.int .i64 k∧WideElems.rd Tryz.prog 3 noElem x=some (.int .i64 k,.nil):=fun x hx=>by
  have h1:(x.key,x.val)∈es.toList.map fun e=>(e.key,e.val):=List.mem_map.2 ⟨x,hx,rfl⟩;rw [hkeys] at h1;obtain ⟨k,hk,e⟩:=List.mem_map.1 h1;injection e with e1 e2;refine ⟨k,hk,e1.symm,?_⟩;unfold WideElems.rd;rw [←e1,keyOf_int_mk Tryz.underlying3 (int_wf (hr k hk))];rfl
 have hrg:es.toList.map (WideElems.rg Tryz.prog 3 noElem)=ks.map fun k=>(Lit.int .i64 k,DataW.nil):=by
  have h1:es.toList.map (·.key)=ks.map (Value.int .i64):=by
   have:=congrArg (List.map Prod.fst) hkeys;rw [List.map_map,List.map_map] at this;exact this
  have h2:∀(l:List MapEntry) (s:List Int),l.map (·.key)=s.map (Value.int .i64)→(∀x∈l,∃k∈ks,x.key=.int .i64 k∧WideElems.rd Tryz.prog 3 noElem x=some (.int .i64 k,.nil))→l.map (WideElems.rg Tryz.prog 3 noElem)=s.map fun k=>(Lit.int .i64 k,DataW.nil):=by
   intro l;induction l with
   | nil=>intro s hs _;cases s with
    | nil=>rfl
    | cons a s=>simp at hs
   | cons x l ih=>
    intro s hs hx;cases s with
    | nil=>simp at hs
    | cons a s=>
     simp only [List.map_cons,List.cons.injEq] at hs⊢;obtain ⟨k,_,h3,h4⟩:=hx x List.mem_cons_self;have:a=k:=by
      have h5:=hs.1;rw [h3] at h5;exact (Value.int.inj h5).2.symm
     subst this;refine ⟨?_,ih s hs.2 fun y hy=>hx y (List.mem_cons_of_mem _ hy)⟩;unfold WideElems.rg;rw [h4];rfl
  exact h2 _ _ h1 hrd
 refine ⟨es.size,_,⟨es,cl,hw.trans hb,⟨by show _≤9223372036854775807;omega,hs,fun x hx=>let ⟨k,_,_,h⟩:=hrd x hx;⟨_,h⟩⟩,Nat.le_refl _,rfl⟩,?_,?_⟩
 ·show (List.foldr DataW.insert [] _).length=_;rw [(sorted_perm _).length_eq,List.length_map];simpa using hlen
 ·show ((List.foldr DataW.insert [] _).map fun p=>_root_.Go.intOf p.1).Perm ks;refine ((sorted_perm _).map _).trans ?_;rw [hrg,List.map_map];exact .of_eq (by rw [show ((fun p:Lit × DataW Unit=>_root_.Go.intOf p.1)∘fun k=>(Lit.int .i64 k,DataW.nil))=id from rfl,List.map_id])
theorem keys_any {h:Heap} {mb:Nat} : HC Tryz.prog 226 #[.map (some mb)] h (fun v h'=>v=.func (.func 245) #[] #[ptr h.size]∧h'=h.push (.cells #[.map (some mb)] 301 (0,0))):=
 HC.of_calls ⟨_,Tryz.func226,by decide,rfl⟩ fun w hw=>(callsIn_wide.1 (AnyZI.keys_in Tryz.keysA Fence.wide 5 trivial rfl (some mb) w)).mono fun e w' ⟨h1,h2⟩=>by
  subst h2 hw;exact ⟨_,h1,(RowKit.Below.refl _ w).alloc (Nat.le_refl _) _,rfl,rfl⟩
theorem sorted_any {h:Heap} {mb:Nat} {ks:List Int} {f:Int→Value} (hm:MapT (Value.int .i64) h mb (ks.map fun k=>(k,f k))) (hr:∀k∈ks,-9223372036854775808≤k∧k≤9223372036854775807) (hl:ks.length≤1000000000000) :
  HC Tryz.prog 144 #[.func (.func 245) #[] #[ptr h.size]] (h.push (.cells #[.map (some mb)] 301 (0,0)))
   (fun v h'=>∃S:List Int,S.Perm ks∧S.Pairwise (·≤·)∧Own (h.push (.cells #[.map (some mb)] 301 (0,0))) h' 1 3 v (S.map iv)):=
 HC.of_calls ⟨_,Tryz.func144,by decide,rfl⟩ fun w hw=>by
  have hsz:w.heap.size=h.size+1:=by rw [hw];simp
  obtain ⟨nn,D,hown,hD,hK⟩:=owns_keys hm hr hl (w:=w) (by rw [hw,Array.getElem?_push,if_neg (by have:=hm.lt;omega)]);have hseq:SeqGives Fence.wide 2 Tryz.prog 245 #[.pointer (some ⟨h.size,0,none⟩)] encZ (fun ss=>ss.Perm (intKeys D)) (Maps.size D) w:=
   AnyZI.keys_gives (ρ:=Tryz.keysA_ren) { Tryz.keysA with } Fence.wide _ trivial rfl (by omega) h.size mb nn D w (by omega) (by rw [cell?_eq,hw];exact cell_of (push_same _ _) 0) hown
  have cS:=AnyZI.sorted_in Tryz.sortedA Fence.wide 5 trivial trivial trivial trivial rfl (by omega) (sorts_in _) (enters_of Tryz.func68 (by kernel_rfl) rfl) 245 #[.pointer (some ⟨h.size,0,none⟩)] trivial (enters_of Tryz.func245 (by kernel_rfl) rfl) _ (Maps.size D) (by show _≤9223372036854775807;omega) (by omega) w hseq;refine (callsIn_wide.1 cS).mono fun e w' ⟨v,ss,h1,h2,h3,h4,h5⟩=>⟨v,h1,by rw [←hw];exact h5,ss.mergeSort (fun x y=>decide (x≤y)),?_,?_,?_⟩
  ·exact (List.mergeSort_perm _ _).trans (h2.trans hK)
  ·have:=List.pairwise_mergeSort (le:=fun x y:Int=>decide (x≤y)) (fun a b c h1 h2=>by simp at h1 h2⊢;omega) (fun a b=>by simp;omega) ss;exact this.imp fun h=>by simpa using h
  ·have hx:Ext w.heap w'.heap:=Ext.of_below rfl h5;rw [←hw];have hml:(ss.mergeSort fun x y=>decide (x≤y)).length=ss.length:=List.length_mergeSort _;rcases h3.2 with ⟨rfl,hz⟩ | ⟨g,cap,cur,rfl,hg,hgb,hnc,hcm,hcs,hct⟩
   ·have hs0:ss=[]:=List.length_eq_zero_iff.1 hz;subst hs0;rw [List.mergeSort_nil];exact Own.nil hx _ _
   ·refine ⟨⟨_,_,_,rfl,hnc,hcm,by simp,.inr ⟨g,0,cur,(0,0),rfl,hgb,by simp;omega,fzOk_zero _,?_⟩⟩,hx,fun b hb=>?_⟩
    ·rw [List.drop_zero];exact hct
    ·obtain ⟨o,n,c,e⟩:=hb;injection e with e;injection e with e;injection e with e;subst e;exact hg
@[reducible] def gvN (l:List Fr) (xa:Nat→Option Addr) (xc:Nat→Nat) (p:Int × Nat):Int × Value:=(p.1,.agg (vfN l xa xc p.2).toArray)
def latF (l:List Fr):List Fr:=(latO l l.length).map (frN l)
theorem map_some {α β:Type} {f:α→β} {l:List α} {i:Nat} {p:β} (h:(l.map f)[i]? = some p):∃q,l[i]? = some q∧f q=p:=by
 rw [List.getElem?_map] at h;cases hq:l[i]? with
 | none=>rw [hq] at h;cases h
 | some q=>rw [hq] at h;injection h with h;exact ⟨q,rfl,h⟩
structure FrO where
 f:Fr
instance:Rep FrO where
 k:=3
 rd h F cs a:=∃x:SV,cs=[iv a.f.page,iv a.f.commit,sv x]∧Cap h 1 5 (sv x) (a.f.b.map bv)∧∀j,blkC (sv x) j→F j
 kpos:=by omega
 len:=fun ⟨_,h,_⟩=>by rw [h];rfl
 one:=fun ⟨_,h,_⟩ u hu=>by
  rw [h] at hu;simp only [List.mem_cons,List.not_mem_nil,or_false] at hu;rcases hu with rfl | rfl | rfl<;>rfl
 st:=fun c d ⟨x,e,r,hF⟩=>⟨x,e,r.chg c (fun j hj=>d j (hF j hj)),hF⟩
 mono:=fun d ⟨x,e,r,hF⟩=>⟨x,e,r,fun j hj=>d j (hF j hj)⟩
 lt:=fun ⟨x,e,r,hF⟩=>⟨x,e,r,fun j hj=>⟨hF j hj,r.lt hj⟩⟩
theorem FrO.rd_cap {h:Heap} {z1 z2:Int} {a:Option Addr} {n c:Nat} {l:List UInt8} (r:Cap h 1 5 (.slice a n c) (l.map bv)):Rep.rd h (blkC (.slice a n c)) [.int .i64 z1,.int .i64 z2,.slice a n c] (⟨⟨z1,z2,l⟩⟩:FrO):=⟨(a,n,c),rfl,r,fun _ h=>h⟩
theorem FrO.toFr {h:Heap} {E:Nat→Prop} {cs:List Value} {a:FrO} (r:Rep.rd h E cs a):Rep.rd h E cs a.f:=by
 obtain ⟨x,e,c,hF⟩:=r;exact ⟨x,e,(RdL.of_cap1 (f:=bv) (x:=x) (l:=a.f.b) rfl (fun _ _ _=>rfl) c).mono hF (fun _ h=>h)⟩
theorem Acc.toFr {h:Heap} {e:TypeId} {x:SV} {E:Nat→Prop} {l:List FrO} (a:Acc h e x (none,0,0) E l []):Acc h e x (none,0,0) E (l.map FrO.f) []:=by
 obtain ⟨css,h1,h2⟩:=a.cap;exact ⟨⟨css,h1,⟨by rw [List.length_map];exact h2.1,fun i g1 g2=>by
  rw [List.getElem_map];exact FrO.toFr (h2.2 i g1 (by simpa using g2))⟩⟩,RdL.nil _ _ _,fun _ _ _ _ _ _ _ e=>(by cases e),a.apart⟩
section
variable {l:List Fr} {xa:Nat→Option Addr} {xc:Nat→Nat}
theorem aput_gv (m:List (Int × Nat)) (k:Int) (i:Nat):aput (m.map (gvN l xa xc)) k (.agg (vfN l xa xc i).toArray)=(iput m k i).map (gvN l xa xc):=aput_map (fun i=>.agg (vfN l xa xc i).toArray) k i m
theorem adel_gv (m:List (Int × Nat)) (k:Int):adel (m.map (gvN l xa xc)) k=(m.filter fun p=>decide (p.1≠k)).map (gvN l xa xc):=by
 unfold adel;rw [List.filter_map];rfl
theorem lkM_eq {m:List (Int × Nat)} (hn:(m.map (·.1)).Nodup) {p:Int × Nat} (hp:p∈m):lkM m p.1=p.2:=by
 have h3:=lkM_mem (m:=m) (k:=p.1) (List.mem_map.2 ⟨p,hp,rfl⟩);obtain ⟨x,hx⟩:=List.mem_iff_getElem?.1 h3;obtain ⟨y,hy⟩:=List.mem_iff_getElem?.1 hp;have hxy:x=y:=by
  have a1:(m.map (·.1))[x]? = some p.1:=by rw [List.getElem?_map,hx];rfl
  have a2:(m.map (·.1))[y]? = some p.1:=by rw [List.getElem?_map,hy];rfl
  exact (List.getElem?_inj (List.getElem?_eq_some_iff.1 a1).1 hn).1 (by rw [a1,a2])
 subst hxy;rw [hx] at hy;injection hy with hy;rw [←hy]
theorem gv_keys {m:List (Int × Nat)} (hn:(m.map (·.1)).Nodup):m.map (gvN l xa xc)=(m.map (·.1)).map fun k=>(k,.agg (vfN l xa xc (lkM m k)).toArray):=by
 rw [List.map_map];refine List.map_congr_left fun p hp=>?_;simp only [Function.comp,lkM_eq hn hp]
theorem aget_gv {m:List (Int × Nat)} {k:Int} (h:k∈m.map (·.1)):aget (m.map (gvN l xa xc)) k=some (.agg (vfN l xa xc (lkM m k)).toArray):=by
 unfold aget lkM;rw [List.find?_map];have:((fun p:Int × Value=>decide (p.1=k))∘gvN l xa xc)=fun p:Int × Nat=>decide (p.1=k):=rfl;rw [this];cases hf:m.find? fun p=>decide (p.1=k) with
 | none=>
  obtain ⟨p,hp,rfl⟩:=List.mem_map.1 h;rw [List.find?_eq_none] at hf;exact absurd (by simp) (hf p hp)
 | some q=>rfl
theorem erase_mem {td:List (Int × Nat)} {i:Nat} {p q:Int × Nat} (hp:p∈td) (hq:td[i]? = some q) (hne:p≠q):p∈td.eraseIdx i:=by
 rw [List.mem_eraseIdx_iff_getElem?];obtain ⟨j,hj⟩:=List.mem_iff_getElem?.1 hp;refine ⟨j,fun e=>?_,hj⟩;subst e;rw [hj] at hq;injection hq with hq;exact hne hq
theorem filt2 {L:List (Int × Nat)} {c k:Int} (h:c<k):(L.filter fun p=>decide (p.1≠k)).filter (fun p=>decide (p.1≤c))=L.filter fun p=>decide (p.1≤c):=by
 rw [List.filter_filter];refine List.filter_congr fun p _=>?_;by_cases h1:p.1≤c
 ·have:p.1≠k:=by omega
  simp [h1,this]
 ·simp [h1]
theorem latM_len (l:List Fr) (k:Nat):(latM l k).length≤k:=by
 induction k with
 | zero=>simp [latM]
 | succ k ih=>
  have h:(iput (latM l k) (frN l k).page k).length≤k+1:=by
   have:=congrArg List.length (iput_keys (frN l k).page k (latM l k));rw [List.length_map] at this;rw [this];split<;>simp<;>omega
  rw [latM_succ];unfold stepM;split
  ·exact h
  ·exact Nat.le_trans (List.length_filter_le _ _) h
end
theorem _root_.Go.HL.Hp.accL {α:Type} [Rep α] {h0 h:Heap} {D:Nat→Prop} {M R:List Itm} {e:TypeId} {x8 x3:SV} {E:Nat→Prop} {all all2 l:List α} (ok:Hp h0 D (accI e x8 x3 E all l::M) R h) (q:all=all2):Hp h0 D (accI e x8 x3 E all2 l::M) R h:=q▸ok
theorem latestO_any {h:Heap} {F E:Nat→Prop} {a:Option Addr} {c:Nat} {l:List Fr} (hl:RdL h F E (a,l.length,c) l) (hN:l.length≤100000) (hB:∀i,i<l.length→(frN l i).b.length≤1000000) (hpr:∀i,i<l.length→-9223372036854775808≤(frN l i).page∧(frN l i).page≤9223372036854775807) :
  HC Tryz.prog 206 #[.slice a l.length c] h (fun v h'=>∃x E',v=.tuple #[sv x,.int .i64 (latC l l.length)]∧Ext h h'∧Acc h' 277 x (none,0,0) E' ((latF l).map FrO.mk) []∧∀j,(blkC (sv x) j∨E' j)→Nw h h' j):=by
 have hc2:=hl.m;have hc1:l.length≤c:=hl.c;simp only at hc2;obtain ⟨xa,xc,hf⟩:=RdL.frs hl.lt;have ok:=(Hp.nil h none_).old (frsI (fun j=>F j∧j<h.size) (fun j=>E j∧j<h.size) (a,l.length,c) l xa xc) hf (fun _ hj=>hj.elim (·.2) (·.2));refine HC.go Tryz.func206 63 ?_;refine .seq<|.r<|.z .asS<|.z .asI<|.nil ?_;refine .seq<|.r<|.a' 13 (.mkm (Value.int .i64) ok) ?_;rintro _ η1 ⟨mb1,rfl,ok⟩;refine .z .asM<|.nil ?_;refine .seq<|.r<|.z .asI<|.nil ?_;refine .seq<|.seq<|.r<|.z .mvS<|.z (.len T.el252)<|.z .mvI<|.nil ?_;refine .block fun K0 hK0=>.loop (fun m s hh=>∃(i:Nat) (mm:List (Int × Nat)) (cc:Int),Has s [(4,.map (some mb1)),(5,.int .i64 cc),(14,.slice a l.length c),(15,.int .i64 (l.length:Int)),(16,.int .i64 (i:Int))]∧Hp h none_ [mapI (Value.int .i64) mb1 (mm.map (gvN l xa xc))] [frsI (fun j=>F j∧j<h.size) (fun j=>E j∧j<h.size) (a,l.length,c) l xa xc] hh∧i≤l.length∧mm=latM l i∧cc=latC l i∧m=l.length-i) ?_ ?_
 ·exact ⟨_,0,[],0,⟨rfl,rfl,rfl,rfl,rfl,trivial⟩,ok,Nat.zero_le _,rfl,rfl,rfl⟩
 rintro _ _ η2 ⟨i,mm,cc,hs,ok,hi,hmm,hcc,rfl⟩ J0 hJ0;refine .frame hs fun τ=>?_;refine .seq<|.r<|.z .lss<|.nil ?_;refine .seq<|.cdr (fun C0=>?_) (fun C0=>?_)
 ·
  obtain rfl:i=l.length:=by omega
  have hlat:=lat l l.length;have hnod:(mm.map (·.1)).Nodup:=by rw [hmm];exact hlat.nod
  have hkr:∀k∈mm.map (·.1),-9223372036854775808≤k∧k≤9223372036854775807:=fun k hk=>by
   obtain ⟨p,hp,rfl⟩:=List.mem_map.1 hk;rw [hmm] at hp;rw [hlat.key p hp];exact hpr _ (latM_lt l hp)
  have hkl:(mm.map (·.1)).length≤1000000000000:=by rw [List.length_map,hmm];have:=latM_len l l.length;omega
  refine .exit<|hK0 _ _<|.seq<|.r<|.z .asS<|?_;have ok:=ok.accNil 277 FrO;refine .nil ?_;refine .seq<|.seq<|.r<|.z .mvM<|.c' 42 .func keys_any ?_;rintro _ _ ⟨rfl,rfl⟩;have hmt:=ok.m1;rw [gv_keys hnod] at hmt;have ok:=ok.ext (Ext.push _ (.cells #[.map (some mb1)] 301 (0,0)));refine .c' 43 .func (sorted_any hmt hkr hkl) ?_;rintro _ η3 ⟨S,hSp,hSs,own⟩;obtain ⟨aS,nS,cS,rfl⟩:=own.form3;have ok:=(ok.own own).frzI rfl;obtain rfl:nS=S.length:=ok.r0.n;have hSm:=ok.r0.m;have hSc:=ok.r0.c;simp only at hSm hSc;refine .z (.len T.el24)<|.z .mvI<|.nil ?_;refine .block fun K4 hK4=>.loop (fun m s hh=>∃(j:Nat) (a9:Option Addr) (n9 c9:Nat) (E2:Nat→Prop),Has s [(4,.map (some mb1)),(5,.int .i64 cc),(9,.slice a9 n9 c9),(43,.slice aS S.length cS),(44,.int .i64 (S.length:Int)),(45,.int .i64 (j:Int))]∧Hp h none_ [accI 277 (a9,n9,c9) (none,0,0) E2 ((S.take j).map fun k=>FrO.mk (frN l (lkM mm k))) ([]:List FrO),mapI (Value.int .i64) mb1 (mm.map (gvN l xa xc))] [rdI (blkC (sv (aS,S.length,cS))) none_ (aS,S.length,cS) S,frsI (fun j=>F j∧j<h.size) (fun j=>E j∧j<h.size) (a,l.length,c) l xa xc] hh∧j≤S.length∧m=S.length-j) ?_ ?_
  ·exact ⟨_,0,none,0,0,none_,⟨rfl,rfl,rfl,rfl,rfl,rfl,trivial⟩,ok.n1.n1,Nat.zero_le _,rfl⟩
  rintro _ _ η4 ⟨j,a9,n9,c9,E2,hs,ok,hj,rfl⟩ J2 hJ2;refine .frame hs fun τ=>?_;refine .seq<|.r<|.z .lss<|.nil ?_;refine .seq<|.cdr (fun C4=>?_) (fun C4=>?_)
  ·
   obtain rfl:j=S.length:=by omega
   rw [List.take_length] at ok;have hfin:(S.map fun k=>FrO.mk (frN l (lkM mm k)))=(latF l).map FrO.mk:=by
    rw [hmm] at hSp;rw [latF,←lat_sorted l hSp hSs,List.map_map,List.map_map,hmm];rfl
   rw [hfin] at ok;refine .exit<|hK4 _ _<|.seq<|.r<|.z .mvS<|.z .mvI<|.z .asS<|.z .asI<|.nil ?_;refine .ret ⟨.tuple #[.slice a9 n9 c9,.int .i64 cc],Res.two rfl rfl rfl,(a9,n9,c9),E2,by rw [hcc],ok.chg,ok.m0,fun j hj=>ok.fresh j (hj.elim .inl fun h=>.inr (.inr h))⟩
  have hjS:j<S.length:=by omega
  have hSk:S[j]∈mm.map (·.1):=hSp.mem_iff.1 (List.getElem_mem hjS);have hSl:lkM mm S[j]<l.length:=latM_lt l (by rw [←hmm];exact lkM_mem hSk);have hSn:S.length≤100000:=by rw [hSp.length_eq,List.length_map,hmm];have:=latM_len l l.length;omega
  refine .skip<|.seq<|.block fun K5 hK5=>.seq<|.r<|?_;obtain ⟨bb1,oo1,rfl,fb1⟩:=ok.r0.pos (by omega);refine .z (.ix1 j T.el24 T.sz3)<|.z (.ld T.ag3 (ok.r0.i64 (i:=j) (by omega)))<|.z .asI<|.nil ?_;refine .seq<|.r<|.z .mvM<|.z .mvI<|.z (.lk (KV.int .i64) (S[j]) (v:=.agg #[.int .i64 ((frN l (lkM mm S[j])).page),.int .i64 ((frN l (lkM mm S[j])).commit),.slice (xa (lkM mm S[j])) ((frN l (lkM mm S[j])).b.length) (xc (lkM mm S[j]))]) T.mp301 (inB_iff T.in3) T.zr277 ok.m1 (by rw [aget_gv hSk];rfl))<|?_;have ok:=ok.d1 (rdI (fun j=>E j∧j<h.size) (fun j=>E j∧j<h.size) ((xa (lkM mm S[j])),(frN l (lkM mm S[j])).b.length,(xc (lkM mm S[j]))) ((frN l (lkM mm S[j])).b)) ((ok.r1).b (lkM mm S[j]) hSl) (fun _ h=>.inr (h.elim id id));refine .a' 12 (.alA T.zr277 ok) ?_;rintro _ η5 ⟨pb1,rfl,ok,xe⟩;refine .ur' (.stW (vs:=[.int .i64 ((frN l (lkM mm S[j])).page),.int .i64 ((frN l (lkM mm S[j])).commit),.slice (xa (lkM mm S[j])) ((frN l (lkM mm S[j])).b.length) (xc (lkM mm S[j]))]) T.sz277 ok (oneL rfl)) ?_;rintro η6 ⟨ok,cg⟩;refine .nil ?_;refine .seq<|.r<|.z (.fa T.fd277_2)<|.z (.ldx T.ag44 ok.m0)<|.c' 54 .func (sclone_any (a:=(xa (lkM mm S[j]))) (c:=(xc (lkM mm S[j]))) (l:=(frN l (lkM mm S[j])).b) ok.r0 (by have:=hB _ hSl;omega)) ?_;rintro _ η7 own;obtain ⟨ya1,yc1,rfl⟩:=own.formB;have ok:=ok.own own;refine .z (.fa T.fd277_2)<|.ur' (.stS T.sz44 ok.n1) ?_;rintro η8 ⟨ok,cg⟩;refine .nil ?_;refine .r<|.z .mvS<|.z (.ldb T.ag277 ok.m0 T.sz277)<|.a' 58 (.lit [.tmp 57] (cs:=[.int .i64 ((frN l (lkM mm S[j])).page),.int .i64 ((frN l (lkM mm S[j])).commit),.slice ya1 (((frN l (lkM mm S[j])).b).length) yc1]) T.el252 T.sz277 T.zr277 ok ⟨rfl,trivial⟩) ?_;rintro _ η9 ⟨pb2,rfl,ok,xe⟩;refine .a' 59 (.appA (FrO.mk (frN l (lkM mm S[j]))) T.el252 T.sz277 T.by277 T.zr277 (ok.n2.n3) ((ok.n2.n3.m2).sl) (FrO.rd_cap (ok.n2.n3).m1) (by simp;omega)) ?_;rintro _ η10 ⟨az1,nz1,cz1,rfl,ok⟩;have ok:=ok.accL (all2:=(S.take (j+1)).map fun k=>FrO.mk (frN l (lkM mm k))) (by rw [take_next hjS,List.map_append];rfl);refine .z .asS<|.nil ?_;refine .end<|hK5 _ _<|.r<|.z (.addI (b:=1))<|.z .mvI<|.nil ?_;refine .end<|hJ2 _ _ _ ⟨j+1,az1,nz1,cz1,_,⟨rfl,rfl,rfl,rfl,rfl,rfl,trivial⟩,ok.n3.n1.k2.tR,by omega,rfl⟩ (by omega)
 have hil:i<l.length:=by omega
 refine .skip<|.seq<|.join (fun s hh=>∃(m2:List (Int × Nat)) (c2:Int),Has s [(4,.map (some mb1)),(5,.int .i64 c2),(14,.slice a l.length c),(15,.int .i64 (l.length:Int)),(16,.int .i64 (i:Int))]∧Hp h none_ [mapI (Value.int .i64) mb1 (m2.map (gvN l xa xc))] [frsI (fun j=>F j∧j<h.size) (fun j=>E j∧j<h.size) (a,l.length,c) l xa xc] hh∧m2=latM l (i+1)∧c2=latC l (i+1)) ?_ ?_
 ·
  refine .block fun K1 hK1=>.seq<|.r<|?_;obtain ⟨bb2,oo2,rfl,fb2⟩:=ok.r0.pos (by omega);refine .z (.ix i T.el252 T.sz277)<|?_;have ok:=ok.d0 (rdI (fun j=>E j∧j<h.size) (fun j=>E j∧j<h.size) ((xa i),(frN l i).b.length,(xc i)) ((frN l i).b)) ((ok.r0).b i (by omega)) (fun _ h=>.inr (h.elim id id));refine .z (.ldc (vs:=vfN l xa xc i) T.ag277 (frs_ats (ok.r1).sl (i:=i) (by omega)) T.sz277)<|.a' 7 (.alA T.zr277 ok) ?_;rintro _ η11 ⟨pb3,rfl,ok,xe⟩;refine .ur' (.stW (vs:=[.int .i64 ((frN l i).page),.int .i64 ((frN l i).commit),.slice (xa i) ((frN l i).b.length) (xc i)]) T.sz277 ok (oneL rfl)) ?_;rintro η12 ⟨ok,cg⟩;refine .nil ?_;refine .seq<|.r<|.z .mvM<|.z (.fa T.fd277_0)<|.z (.ldx T.ag3 ok.m0)<|.z (.ldb T.ag277 ok.m0 T.sz277)<|.ur' (.mpu (KV.int .i64) V.sbI ((frN l i).page) (v:=.agg (vfN l xa xc i).toArray) T.mp301 (inB_iff T.in3) ok.n1) ?_;rintro η13 ok;rw [aput_gv] at ok;refine .nil ?_;refine .seq<|.seq<|.r<|.z (.fa T.fd277_1)<|.z (.ldx T.ag3 ok.m1)<|.z .eql<|.nil ?_;refine .cd (fun C1=>?_) (fun C1=>?_)
  ·
   refine .exit<|hK1 _ _<|.end<|⟨(iput mm (frN l i).page i),cc,⟨rfl,rfl,rfl,rfl,rfl,trivial⟩,ok.k1.tR,by rw [latM_succ,←hmm];exact (if_pos C1).symm,by rw [latC_succ,←hcc];exact (if_pos C1).symm⟩
  refine .skip<|.seq<|.r<|.z (.fa T.fd277_1)<|.z (.ldx T.ag3 ok.m1)<|.z .asI<|.nil ?_;refine .seq<|.r<|.z .mvM<|.a' 30 (.rng T.mp301 ok) ?_;rintro _ η14 ⟨ib1,rfl,ok⟩;refine .nil ?_;refine .block fun K2 hK2=>.loop (fun m s hh=>∃(L td:List (Int × Nat)),Has s [(4,.map (some mb1)),(5,.int .i64 ((frN l i).commit)),(14,.slice (some ⟨bb2,oo2,none⟩) l.length c),(15,.int .i64 (l.length:Int)),(16,.int .i64 (i:Int)),(30,.pointer (some ⟨ib1,0,none⟩))]∧Hp h none_ [itI (Value.int .i64) ib1 mb1 (L.map (gvN l xa xc)) (td.map (gvN l xa xc)),boxI pb3 277 [.int .i64 ((frN l i).page),.int .i64 ((frN l i).commit),.slice (xa i) ((frN l i).b.length) (xc i)]] [rdI (fun j=>E j∧j<h.size) (fun j=>E j∧j<h.size) ((xa i),(frN l i).b.length,(xc i)) ((frN l i).b),frsI (fun j=>F j∧j<h.size) (fun j=>E j∧j<h.size) (some ⟨bb2,oo2,none⟩,l.length,c) l xa xc] hh∧L.filter (fun p=>decide (p.1≤(frN l i).commit))=(iput mm (frN l i).page i).filter (fun p=>decide (p.1≤(frN l i).commit))∧(∀p∈L,p.1≤(frN l i).commit∨p∈td)∧m=td.length) ?_ ?_
  ·exact ⟨_,(iput mm (frN l i).page i),(iput mm (frN l i).page i),⟨rfl,rfl,rfl,rfl,rfl,rfl,trivial⟩,ok.n1.n1,rfl,fun p h=>.inr h,rfl⟩
  rintro _ _ η15 ⟨L,td,hs,ok,hLf,hLt,rfl⟩ J1 hJ1;refine .frame hs fun τ=>?_;refine .seq<|.r<|.a' 31 (.nxt ok) ?_;rintro _ η16 (⟨hnil,rfl,ok⟩ | ⟨ipq1,pq1,hpq1,rfl,ok⟩)
  ·
   have htd:td=[]:=by simpa using hnil
   have hLe:L.filter (fun p=>decide (p.1≤(frN l i).commit))=L:=List.filter_eq_self.2 fun p hp=>decide_eq_true ((hLt p hp).resolve_right (by rw [htd];simp));have ok:=ok.itm;refine .z .ex<|.nil ?_;refine .seq<|.cf<|.exit<|hK2 _ _<|.end<|hK1 _ _<|.end<|⟨L,((frN l i).commit),⟨rfl,rfl,rfl,rfl,rfl,trivial⟩,ok.k1.tR,by rw [latM_succ,←hmm];unfold stepM;rw [if_neg C1,←hLf];exact hLe.symm,by rw [latC_succ,←hcc];exact (if_neg C1).symm⟩
  obtain ⟨q,hq,hpe⟩:=map_some hpq1;have hk1:pq1.1=q.1:=by rw [←hpe]
  rw [←map_erase] at ok;refine .z .ex<|.nil ?_;refine .seq<|.ct<|.skip<|.block fun K3 hK3=>.seq<|.r<|.z (.ent (ok.m0).2)<|.z .ex<|.z .asI<|.nil ?_;refine .seq<|.r<|.z .mvI<|.z .mvI<|.z .gtr<|.nil ?_;refine .cd (fun C3=>?_) (fun C3=>?_)
  ·
   refine .r<|.z .mvM<|.z .mvI<|.a0' (.delC (KV.int .i64) T.mp301 (inB_iff T.in3) ok) ?_;rintro _ η17 ⟨rfl,ok⟩;rw [adel_gv,hk1] at ok;refine .nil ?_;refine .end<|hK3 _ _<|.end<|hJ1 _ _ _ ⟨L.filter (fun p=>decide (p.1≠q.1)),td.eraseIdx ipq1,⟨rfl,rfl,rfl,rfl,rfl,rfl,trivial⟩,ok.n1.n1,by rw [filt2 (by omega)];exact hLf,fun p hp=>(hLt p (List.mem_filter.1 hp).1).imp id fun h=>erase_mem h hq (fun e=>by have:=(List.mem_filter.1 hp).2;rw [e] at this;simp at this),rfl⟩ (by rw [List.length_eraseIdx_of_lt (List.getElem?_eq_some_iff.1 hq).1];have:=(List.getElem?_eq_some_iff.1 hq).1;omega)
  have ok:=(ok).itc;refine .skip<|.end<|hK3 _ _<|.end<|hJ1 _ _ _ ⟨L,td.eraseIdx ipq1,⟨rfl,rfl,rfl,rfl,rfl,rfl,trivial⟩,ok.n1.n1,hLf,fun p hp=>(hLt p hp).elim .inl fun h=>if e:p=q then .inl (by rw [e];omega) else .inr (erase_mem h hq e),rfl⟩ (by rw [List.length_eraseIdx_of_lt (List.getElem?_eq_some_iff.1 hq).1];have:=(List.getElem?_eq_some_iff.1 hq).1;omega)
 rintro s η18 ⟨m2,c2,hs,ok,hm2,hc2x⟩;refine .frame hs fun τ=>?_;refine .r<|.z (.addI (b:=1))<|.z .mvI<|.nil ?_;refine .end<|hJ0 _ _ _ ⟨i+1,m2,c2,⟨rfl,rfl,rfl,rfl,rfl,trivial⟩,ok,by omega,hm2,hc2x,rfl⟩ (by omega)
theorem latest_any {h:Heap} {F E:Nat→Prop} {a:Option Addr} {c:Nat} {l:List Fr} (hl:RdL h F E (a,l.length,c) l) (hN:l.length≤100000) (hB:∀i,i<l.length→(frN l i).b.length≤1000000) (hpr:∀i,i<l.length→-9223372036854775808≤(frN l i).page∧(frN l i).page≤9223372036854775807) :
  HC Tryz.prog 206 #[.slice a l.length c] h (fun v h'=>∃x E',v=.tuple #[sv x,.int .i64 (latC l l.length)]∧Ext h h'∧Acc h' 277 x (none,0,0) E' (latF l) []∧∀j,(blkC (sv x) j∨E' j)→Nw h h' j):=
 (latestO_any hl hN hB hpr).mono fun v h' ⟨x,E',e,hx,ha,hn⟩=>⟨x,E',e,hx,by have:=Acc.toFr ha;rwa [List.map_map,show FrO.f∘FrO.mk=id from rfl,List.map_id] at this,hn⟩
open Go Go.HL
theorem ins_len (l:List Fr) (i:Nat):∀r:List Nat,(ins l i r).length≤r.length+1
 | []=>by simp [ins]
 | k::r=>by
  have:=ins_len l i r;unfold ins;split
  ·simp;omega
  ·split<;>simp
theorem latO_len (l:List Fr) (k:Nat):(latO l k).length≤k:=by
 induction k with
 | zero=>simp [latO]
 | succ k ih=>
  have h:(insI l (latO l k) k).length≤k+1:=by rw [insI_eq l (lat l k).srt];have:=ins_len l k (latO l k);omega
  rw [latO_succ];unfold stepO;split
  ·exact h
  ·exact Nat.le_trans (List.length_filter_le _ _) h
def nT:List UInt8:=[116,111,109,101]
def nL:List UInt8:=[116,111,109,101,46,108,111,103]
def nM:List UInt8:=[116,111,109,101,46,109,97,114,107]
def goneN (d:Dk) (n:List UInt8):Dk × Nat:=
 if (removeN d n).2=0 then syncN (removeN d n).1 n else if (removeN d n).2=4 then ((removeN d n).1,0) else removeN d n
noncomputable def scanF (b:List UInt8):List Fr:=by
 classical exact if h:∃s,ScanE b s then (Classical.choose h).l else []
theorem scanF_of {b:List UInt8} {s:Sc} (h:ScanE b s):scanF b=s.l:=by
 unfold scanF;rw [dif_pos ⟨s,h⟩];exact congrArg Sc.l ((Classical.choose_spec (⟨s,h⟩:∃s,ScanE b s)).uniq h)
section
variable {κ β:Type} [DecidableEq κ]
def mget (l:List (κ × β)) (k:κ):Option β:=(l.find? fun p=>p.1=k).map (·.2)
def mput:List (κ × β)→κ→β→List (κ × β)
 | [],k,v=>[(k,v)]
 | p::l,k,v=>if p.1=k then (k,v)::l else p::mput l k v
def mdel (l:List (κ × β)) (k:κ):List (κ × β):=l.filter fun p=>decide (p.1≠k)
variable {l:List (κ × β)} {k k':κ} {v w:β} {f:β→Value}
theorem aget_mp:aget (l.map fun p=>(p.1,f p.2)) k=(mget l k).map f:=by
 induction l with
 | nil=>rfl
 | cons p l ih=>
  by_cases h:p.1=k
  ·simp [aget,mget,h]
  ·simpa [aget,mget,h] using ih
theorem adel_mp:adel (l.map fun p=>(p.1,f p.2)) k=(mdel l k).map fun p=>(p.1,f p.2):=by simp [adel,mdel,List.filter_map,Function.comp_def]
theorem aput_mp:aput (l.map fun p=>(p.1,f p.2)) k (f v)=(mput l k v).map fun p=>(p.1,f p.2):=by
 induction l with
 | nil=>rfl
 | cons p l ih=>
  by_cases h:p.1=k
  ·simp [aput,mput,h]
  ·simp [aput,mput,h,ih]
theorem mget_cons {p:κ × β} : mget (p::l) k=if p.1=k then some p.2 else mget l k:=by
 by_cases h:p.1=k<;>simp [mget,h]
theorem mget_mput:mget (mput l k v) k'=if k'=k then some v else mget l k':=by
 induction l with
 | nil=>
  by_cases h:k'=k
  ·subst h;simp [mput,mget]
  ·have h3:¬k=k':=fun e=>h e.symm;simp [mput,mget,h,h3]
 | cons p l ih=>
  unfold mput;split
  ·rename_i h;rw [mget_cons,mget_cons];by_cases h2:k'=k
   ·subst h2;simp
   ·have h3:¬k=k':=fun e=>h2 e.symm;have h4:¬p.1=k':=fun e=>h2 (e.symm.trans h);simp [h2,h3,h4]
  ·rename_i h;rw [mget_cons,mget_cons,ih];by_cases h2:p.1=k'
   ·have h3:¬k'=k:=fun e=>h (h2.trans e);simp [h2,h3]
   ·simp [h2]
theorem mget_mem (h:mget l k=some v):(k,v)∈l:=by
 induction l with
 | nil=>simp [mget] at h
 | cons p l ih=>
  rw [mget_cons] at h;split at h
  ·rename_i hp;injection h with h;subst h;rw [←hp];exact List.mem_cons_self
  ·exact List.mem_cons_of_mem _ (ih h)
theorem mget_of_mem (hn:(l.map (·.1)).Nodup) (h:(k,v)∈l):mget l k=some v:=by
 induction l with
 | nil=>cases h
 | cons p l ih=>
  simp only [List.map_cons,List.nodup_cons] at hn;rw [mget_cons];rcases List.mem_cons.1 h with rfl | h
  ·simp
  ·rw [if_neg,ih hn.2 h];intro e;exact hn.1 (e▸List.mem_map.2 ⟨_,h,rfl⟩)
theorem mem_mput {p:κ × β} (hp:p∈mput l k v):p=(k,v)∨p∈l:=by
 induction l with
 | nil=>simp [mput] at hp;exact .inl hp
 | cons q l ih=>
  unfold mput at hp;split at hp
  ·rcases List.mem_cons.1 hp with h | h
   ·exact .inl h
   ·exact .inr (List.mem_cons_of_mem _ h)
  ·rcases List.mem_cons.1 hp with h | h
   ·exact .inr (by rw [h];exact List.mem_cons_self)
   ·exact (ih h).imp id (List.mem_cons_of_mem _)
end
theorem take_headN {n salt:Nat} {z:List UInt8} : (headN n salt++z).take 20=headN n salt:=List.take_left' (headN_len n salt)
theorem rd4_headN {n salt:Nat} (hn:n<4294967296) (z:List UInt8):rdN (headN n salt++z) 4 4=n:=by
 have e:headN n salt++z=[116,111,109,101]++(fixedN n 4++(fixedN salt 8++(sealN ([116,111,109,101]++fixedN n 4++fixedN salt 8)).drop 16++z)):=by
  have hd:(sealN ([116,111,109,101]++fixedN n 4++fixedN salt 8)).drop 16=footN ([116,111,109,101]++fixedN n 4++fixedN salt 8):=List.drop_left' (by simp [fixedN_len]);rw [hd];simp [headN,sealN,footN]
 rw [e];have:=rdN_app (x:=[116,111,109,101]) (y:=fixedN n 4) (z:=fixedN salt 8++(sealN ([116,111,109,101]++fixedN n 4++fixedN salt 8)).drop 16++z) (k:=4) (fixedN_len n 4);rw [show ([116,111,109,101]:List UInt8).length=4 from rfl] at this;rw [this,beN_fixed (by simpa using hn)]
theorem rd8_headN {n salt:Nat} (hs:salt<18446744073709551616) (z:List UInt8):rdN (headN n salt++z) 8 8=salt:=by
 have e:headN n salt++z=([116,111,109,101]++fixedN n 4)++(fixedN salt 8++((sealN ([116,111,109,101]++fixedN n 4++fixedN salt 8)).drop 16++z)):=by
  have hd:(sealN ([116,111,109,101]++fixedN n 4++fixedN salt 8)).drop 16=footN ([116,111,109,101]++fixedN n 4++fixedN salt 8):=List.drop_left' (by simp [fixedN_len]);rw [hd];simp [headN,sealN,footN]
 rw [e];have:=rdN_app (x:=[116,111,109,101]++fixedN n 4) (y:=fixedN salt 8) (z:=(sealN ([116,111,109,101]++fixedN n 4++fixedN salt 8)).drop 16++z) (k:=8) (fixedN_len salt 8);rw [show ([116,111,109,101]++fixedN n 4:List UInt8).length=8 by simp [fixedN_len]] at this;rw [this,beN_fixed (by simpa using hs)]
theorem headOk_headN {n salt:Nat} (hn:n<4294967296) (hs:salt<18446744073709551616) (hk:okSz n=true) (z:List UInt8):headOk (headN n salt++z)=true:=by
 unfold headOk;rw [rd4_headN hn,rd8_headN hs,take_headN,hk];simp
theorem firstN_headN {n salt:Nat} (hs:salt<18446744073709551616) (z:List UInt8):firstN (headN n salt++z)=nextN salt (headN n salt):=by
 unfold firstN;rw [rd8_headN hs,take_headN]
theorem scan_short {b:List UInt8} {s:Sc} (hb:b.length≤20) (h:ScanE b s):s=scan0 b:=
 h.uniq ⟨.refl _,fun hf=>by have h1:20+16+rdN b 4 4≤b.length:=hf.1;omega⟩
theorem latF_mem {l:List Fr} {f:Fr} (hf:f∈latF l):∃i,i<l.length∧f=frN l i:=by
 obtain ⟨i,hi,rfl⟩:=List.mem_map.1 hf;exact ⟨i,latO_lt l _ i hi,rfl⟩
theorem frN_mem {l:List Fr} {i:Nat} (hi:i<l.length):frN l i∈l:=by
 have:frN l i=l[i]:=by simp [frN,hi]
 rw [this];exact List.getElem_mem hi
theorem latF_len (l:List Fr):(latF l).length≤l.length:=by rw [latF,List.length_map];exact latO_len l _
theorem latC_le {l:List Fr} (h:∀f∈l,okF f=true) {k:Nat} (hk:k≤l.length):0≤latC l k∧latC l k≤1048576:=by
 induction k with
 | zero=>simp [latC]
 | succ k ih=>
  rw [latC_succ];unfold stepC;split
  ·exact ih (by omega)
  ·have:=(okF_iff.1 (h _ (frN_mem (l:=l) (i:=k) (by omega)))).1;omega
theorem latF_ok {l:List Fr} (h:∀f∈l,okF f=true) {i:Nat} (hi:i<(latF l).length):1≤(frN (latF l) i).page∧(frN (latF l) i).page≤1048576∧(frN (latF l) i).b.length≤4096:=by
 obtain ⟨k,hk,e⟩:=latF_mem (frN_mem hi);have h1:=okF_iff.1 (h _ (frN_mem hk));rw [←e] at h1;exact ⟨h1.1.1,h1.1.2.1,by have:=h1.2;unfold okSz at this;simp at this;omega⟩
section
variable {d:Dk} {n:List UInt8} {size:Nat}
theorem do_chgA {c:Chn} : (doN d n c).1.chg≤d.chg+1:=by
 unfold doN powerN
 repeat' split
 all_goals (simp only;omega)
theorem remove_chg:(removeN d n).1.chg≤d.chg+1:=by
 unfold removeN;repeat' split
 all_goals first | exact do_chgA | (simp only;omega)
theorem sync_chg:(syncN d n).1.chg≤d.chg+1:=by
 unfold syncN powerN;repeat' split
 all_goals (simp only;omega)
section
variable {l:List Fr} {d1 d2:Dk} {i e2:Nat}
theorem pg_mul {x:Int} {s:Nat} (h1:0≤x) (h2:x≤1048576) (hs:s≤4096):0≤x*s∧x*s≤4294967296:=
 ⟨Int.mul_nonneg h1 (by omega),by have:=Int.mul_le_mul h2 (show (s:Int)≤4096 by omega) (by omega) (by omega);omega⟩
theorem frN_at (hi:i<(latF l).length):frN (latF l) i=(latF l)[i]:=by simp [frN,hi]
end
end
structure Ah where
 dk:Dk
 fr:Nat
 nd:Nat
 link:Nat
 in_:Bool
 now:List (List UInt8)
 sure:List (List UInt8)
 size:Nat
 dark:Bool
def unlN (now sure:List (List UInt8)):List Nat:=(List.range now.length).filter fun i=>decide (now[i]?≠sure[i]?)
def listN (now sure:List (List UInt8)):List Nat:=if unlN now sure=[]∧now.length≠sure.length then [0] else unlN now sure
def frmN (now:List (List UInt8)) (last:Bool) (i:Nat):Fr:=⟨(i:Int)+1,if last then (now.length:Int) else 0,now.getD i []⟩
def frmsN (now:List (List UInt8)):List Nat→List Fr
 | []=>[]
 | i::l=>frmN now (decide (l=[])) i::frmsN now l
theorem frmsN_len {now:List (List UInt8)} {l:List Nat} : (frmsN now l).length=l.length:=by
 induction l with
 | nil=>rfl
 | cons i l ih=>simp [frmsN,ih]
theorem frmsN_at {now:List (List UInt8)} {l:List Nat} {k:Nat} (hk:k<l.length):(frmsN now l)[k]'(by rw [frmsN_len];exact hk)=frmN now (decide (k+1=l.length)) l[k]:=by
 induction l generalizing k with
 | nil=>simp at hk
 | cons i l ih=>
  cases k with
  | zero=>
   have e:(decide (l=[]))=decide (0+1=(i::l).length):=decide_eq_decide.2 ⟨fun h=>by simp [h],fun h=>List.eq_nil_of_length_eq_zero (by rw [List.length_cons] at h;omega)⟩;simp [frmsN,←e]
  | succ k=>
   have h1:k<l.length:=by simpa using hk
   have e:decide (k+1=l.length)=decide (k+1+1=(i::l).length):=decide_eq_decide.2 (by rw [List.length_cons];omega);simp only [frmsN,List.getElem_cons_succ,ih h1,e]
def atsN (size:Nat):List (Int × Nat)→Nat→List Nat→List (Int × Nat)
 | m,_,[]=>m
 | m,e,i::l=>atsN size (mput m ((i:Int)+1) (e+16)) (e+(16+size)) l
theorem atsN_app {size:Nat} {m:List (Int × Nat)} {e:Nat} {l l2:List Nat} : atsN size m e (l++l2)=atsN size (atsN size m e l) (e+l.length*(16+size)) l2:=by
 induction l generalizing m e with
 | nil=>simp [atsN]
 | cons i l ih=>rw [List.cons_append,atsN,atsN,ih,List.length_cons];congr 1;rw [Nat.add_mul];omega
theorem atsN_snoc {size:Nat} {m:List (Int × Nat)} {e k:Nat} {l:List Nat} (hk:k<l.length):atsN size m e (l.take (k+1))=mput (atsN size m e (l.take k)) ((l[k]:Int)+1) (e+k*(16+size)+16):=by
 rw [List.take_succ_eq_append_getElem hk,atsN_app];simp only [atsN,List.length_take,Nat.min_eq_left (Nat.le_of_lt hk)]
open Go Go.HL
structure St where
 z:Nat
 sure:List (List UInt8)
 in_:Bool
 now:List (List UInt8)
 saves:List (List (List UInt8))
def Hd.enc (H:Hd):List UInt8:=hdB [H.size.toNat,H.pages.toNat,H.free.toNat,H.many.toNat,H.cookie.toNat,H.version.toNat]
def wth (l:List (List UInt8)) (no:Nat) (b:List UInt8):List (List UInt8):=if l.length<no then l++[b] else l.set (no-1) b
def pg1 (z:Nat) (H:Hd):List UInt8:=H.enc++List.replicate (z-64) 0
namespace St
variable (w:St)
def pgs:List (List UInt8):=if w.in_=true then w.now else w.sure
def head:Hd:=if w.pgs=[] then hd0 else { (decN (w.pgs.headD [])).1 with size:=(w.z:Int),pages:=(w.pgs.length:Int) }
def begin_:St × Nat:=if w.in_=true then (w,10) else ({ w with in_:=true,now:=w.sure,saves:=[] },0)
def commit:St × Nat:=if w.in_=false then (w,10) else (⟨w.z,w.now,false,[],[]⟩,0)
def rollback:St × Nat:=if w.in_=false then (w,10) else (⟨w.z,w.sure,false,[],[]⟩,0)
def save:St × Nat:=if w.in_=false then (w,10) else if 16≤w.saves.length then (w,5) else ({ w with saves:=w.saves++[w.now] },0)
def back (n:Int):St × Nat:=if w.in_=false then (w,10) else if n<0∨(w.saves.length:Int)≤n then (w,1) else ({ w with now:=w.saves.getD n.toNat [],saves:=w.saves.take (n.toNat+1) },0)
def release (n:Int):St × Nat:=if w.in_=false then (w,10) else if n<0∨(w.saves.length:Int)≤n then (w,1) else ({ w with saves:=w.saves.take n.toNat },0)
def setHead (H:Hd):St × Nat:=if w.in_=false then (w,10) else if ¬ChkP H∨H.size≠(w.z:Int)∨(max 1 (w.now.length:Int))<H.pages then (w,1) else ({ w with now:=(wth w.now 1 (pg1 w.z H)).take H.pages.toNat },0)
def read (no:Int):List UInt8 × Nat:=if no<1∨(w.pgs.length:Int)<no then ([],1) else (w.pgs.getD (no-1).toNat [],0)
def write (no:Int) (b:List UInt8):St × Nat:=
 if w.in_=false then (w,10) else if no<2∨(w.now.length:Int)+1<no∨w.now=[]∨b.length≠w.z then (w,1) else if 1048576<no∨16777216<no*(w.z:Int) then (w,5) else ({ w with now:=wth w.now no.toNat b },0)
end St
def hok (b:List UInt8) (z:Nat):Prop:=(decN b).2=0∧(decN b).1.size=(z:Int)
structure PgsK (z:Nat) (l:List (List UInt8)):Prop where
 len:∀b∈l,b.length=z
 hd:l≠[]→hok (l.headD []) z
 many:l.length*z≤16777216
structure StOk (w:St):Prop where
 z:okSz w.z=true
 sure:PgsK w.z w.sure
 now:PgsK w.z w.now
 saves:∀l∈w.saves,PgsK w.z l
 few:w.saves.length≤16
 out:w.in_=false→w.now=[]∧w.saves=[]
theorem hdB_l6 {a b c d e f:Nat} : (hdB [a,b,c,d,e,f]).length=64:=by
 unfold hdB hdT hdF;simp [fixedN_len]
theorem enc_len {H:Hd} : H.enc.length=64:=hdB_l6
theorem okSz_c {n:Nat} (h:okSz n=true):n=256∨n=512∨n=1024∨n=2048∨n=4096:=by simpa [okSz,or_assoc] using h
theorem pg1_len {z:Nat} {H:Hd} (hz:okSz z=true):(pg1 z H).length=z:=by
 have:=okSz_c hz;unfold pg1;rw [List.length_append,enc_len,List.length_replicate];omega
theorem PgsK.nil {z:Nat} : PgsK z []:=⟨by simp,by simp,by simp⟩
theorem hdAt_enc {N:List Nat} {x:List UInt8} {k:Nat} (hk:k<N.length) (hN:N.length=6) (hb:N[k]<4294967296):hdAt (hdB N++x) k=N[k]:=by
 have e:hdB N++x=(signL++hdF (N.take k))++(fixedN N[k] 4++(hdF (N.drop (k+1))++(List.replicate 20 0++fixedN (sumN (hdT N)) 4++x))):=by
  have h1:hdF N=hdF (N.take k)++(fixedN N[k] 4++hdF (N.drop (k+1))):=by
   have h2:N=N.take k++N[k]::N.drop (k+1):=by rw [←List.drop_eq_getElem_cons hk,List.take_append_drop]
   have h3:hdF N=hdF (N.take k++N[k]::N.drop (k+1)):=congrArg hdF h2;rw [h3];unfold hdF;rw [List.map_append,List.flatten_append,List.map_cons,List.flatten_cons]
  unfold hdB;rw [show hdT N=signL++hdF N++List.replicate 20 0 from rfl,h1];simp only [List.append_assoc]
 have hl:(signL++hdF (N.take k)).length=16+4*k:=by
  have h1:∀(M:List Nat),(hdF M).length=4*M.length:=fun M=>by
   unfold hdF;induction M with
   | nil=>rfl
   | cons a M ih=>rw [List.map_cons,List.flatten_cons,List.length_append,fixedN_len,ih,List.length_cons];omega
  rw [List.length_append,h1,List.length_take];simp;omega
 unfold hdAt;rw [e,←hl,rdN_app (fixedN_len _ _),beN_fixed (by simpa using hb)]
theorem dec_encN {n0 n1 n2 n3 n4 n5:Nat} {x:List UInt8} (h0:n0<4294967296) (h1:n1<4294967296) (h2:n2<4294967296) (h3:n3<4294967296) (h4:n4<4294967296) (h5:n5<4294967296) (hc:ChkP ⟨(n0:Int),(n1:Int),(n2:Int),(n3:Int),(n4:Int),(n5:Int)⟩):decN (hdB [n0,n1,n2,n3,n4,n5]++x)=(⟨(n0:Int),(n1:Int),(n2:Int),(n3:Int),(n4:Int),(n5:Int)⟩,0):=by
 have a0:=hdAt_enc (N:=[n0,n1,n2,n3,n4,n5]) (x:=x) (k:=0) (by simp) rfl h0;have a1:=hdAt_enc (N:=[n0,n1,n2,n3,n4,n5]) (x:=x) (k:=1) (by simp) rfl h1;have a2:=hdAt_enc (N:=[n0,n1,n2,n3,n4,n5]) (x:=x) (k:=2) (by simp) rfl h2;have a3:=hdAt_enc (N:=[n0,n1,n2,n3,n4,n5]) (x:=x) (k:=3) (by simp) rfl h3;have a4:=hdAt_enc (N:=[n0,n1,n2,n3,n4,n5]) (x:=x) (k:=4) (by simp) rfl h4;have a5:=hdAt_enc (N:=[n0,n1,n2,n3,n4,n5]) (x:=x) (k:=5) (by simp) rfl h5;simp only [List.getElem_cons_zero,List.getElem_cons_succ] at a0 a1 a2 a3 a4 a5;have hl:(hdB [n0,n1,n2,n3,n4,n5]).length=64:=hdB_l6;have hd:decH (hdB [n0,n1,n2,n3,n4,n5]++x)=⟨(n0:Int),(n1:Int),(n2:Int),(n3:Int),(n4:Int),(n5:Int)⟩:=by unfold decH;rw [a0,a1,a2,a3,a4,a5]
 have hs:(hdB [n0,n1,n2,n3,n4,n5]++x).take 16=signL:=by
  unfold hdB hdT;simp only [List.append_assoc];exact List.take_left' rfl
 have hy:decY (hdB [n0,n1,n2,n3,n4,n5]++x):=by
  unfold decY;rw [hd,a0,a1,a2,a3,a4,a5];exact ⟨hc,(List.take_left' hl).symm⟩
 rw [dec0 (by rw [List.length_append];omega) hs hy,hd]
theorem dec_enc {H:Hd} (hc:ChkP H) (x:List UInt8):decN (H.enc++x)=(H,0):=by
 have h0:=okZ_cases hc.1;have h1:=hc.2.1;have h2:=hc.2.2.1;have h3:=hc.2.2.2;obtain ⟨a,b,c,d,e,f⟩:=H;simp only at h0 h1 h2 h3;obtain ⟨a,rfl⟩:∃n:Nat,a=(n:Int):=⟨a.toNat,by omega⟩;obtain ⟨b,rfl⟩:∃n:Nat,b=(n:Int):=⟨b.toNat,by omega⟩;obtain ⟨c,rfl⟩:∃n:Nat,c=(n:Int):=⟨c.toNat,by
  by_cases h:d=0
  ·have:=h2.2.2.1 h;omega
  ·have:=h2.2.2.2 (by omega);omega⟩
 obtain ⟨d,rfl⟩:∃n:Nat,d=(n:Int):=⟨d.toNat,by omega⟩;obtain ⟨e,rfl⟩:∃n:Nat,e=(n:Int):=⟨e.toNat,by omega⟩;obtain ⟨f,rfl⟩:∃n:Nat,f=(n:Int):=⟨f.toNat,by omega⟩;have hcb:c<4294967296:=by
  by_cases h:d=0
  ·have:=h2.2.2.1 (by omega);omega
  ·have:=h2.2.2.2 (by omega);omega
 have hdb:d<4294967296:=by have:=h1.2.1;have:=h2.2.1;omega
 have heb:e<4294967296:=by have:=h3.1.2;omega
 have hfb:f<4294967296:=by have:=h3.2.2;omega
 exact dec_encN (n0:=a) (n1:=b) (n2:=c) (n3:=d) (n4:=e) (n5:=f) (x:=x) (by omega) (by omega) hcb hdb heb hfb hc
theorem hok_pg1 {z:Nat} {H:Hd} (hc:ChkP H) (hz:H.size=(z:Int)):hok (pg1 z H) z:=by
 unfold hok pg1;rw [dec_enc hc];exact ⟨rfl,hz⟩
theorem wth_len {l:List (List UInt8)} {no:Nat} {b:List UInt8} (h2:no≤l.length+1):(wth l no b).length=max l.length no:=by
 unfold wth;split
 ·simp;omega
 ·simp;omega
theorem wth_get {l:List (List UInt8)} {no:Nat} {b:List UInt8} (h1:1≤no) (h2:no≤l.length+1) (i:Nat):(wth l no b)[i]? = if i+1=no then some b else l[i]?:=by
 unfold wth;split
 ·rename_i h;rw [List.getElem?_append];split
  ·rw [if_neg (by omega)]
  ·rename_i h3;by_cases h4:i+1=no
   ·rw [if_pos h4,show i-l.length=0 by omega];rfl
   ·rw [if_neg h4,List.getElem?_eq_none (l:=l) (by omega),List.getElem?_eq_none (by simp;omega)]
 ·rw [List.getElem?_set];by_cases h4:i+1=no
  ·rw [if_pos (by omega),if_pos h4,if_pos (by omega)]
  ·rw [if_neg (by omega),if_neg h4]
theorem wth_mem {l:List (List UInt8)} {no:Nat} {b x:List UInt8} (h:x∈wth l no b):x=b∨x∈l:=by
 unfold wth at h;split at h
 ·rcases List.mem_append.1 h with h | h
  ·exact .inr h
  ·exact .inl (List.mem_singleton.1 h)
 ·exact (List.mem_or_eq_of_mem_set h).symm
theorem headD_get (l:List (List UInt8)):l.headD []=(l[0]?).getD []:=by cases l<;>rfl
structure VW {β:Type} (f:β→List UInt8) (ov:List (Int × β)) (many:Nat) (S now:List (List UInt8)):Prop where
 len:now.length=many
 sm:∀(i:Nat) x,i<many→mget ov ((i:Int)+1)=some x→now[i]? = some (f x)
 nn:∀i:Nat,i<many→mget ov ((i:Int)+1)=none→i<S.length∧now[i]? = S[i]?
 key:∀p∈ov,1≤p.1∧p.1≤(many:Int)
section
variable {β:Type} {f:β→List UInt8} {ov:List (Int × β)} {many:Nat} {S now:List (List UInt8)}
theorem VW.begin:VW f ([]:List (Int × β)) S.length S S:=⟨rfl,fun _ _ _ h=>(by cases h),fun _ h _=>⟨h,rfl⟩,by simp⟩
theorem VW.put (v:VW f ov many S now) {no:Nat} {x:β} (h1:1≤no) (h2:no≤many+1):VW f (mput ov (no:Int) x) (max many no) S (wth now no (f x)):=by
 have hl:=v.len;refine ⟨by rw [wth_len (by omega),hl],fun i y hi hg=>?_,fun i hi hg=>?_,fun p hp=>?_⟩
 ·rw [mget_mput] at hg;rw [wth_get h1 (by omega)];split at hg
  ·injection hg with hg;subst hg;rw [if_pos (by omega)]
  ·rename_i h3;rw [if_neg (by omega)];exact v.sm i y (by omega) hg
 ·rw [mget_mput] at hg;rw [wth_get h1 (by omega)];split at hg
  ·cases hg
  ·rename_i h3;rw [if_neg (by omega)];exact v.nn i (by omega) hg
 ·rcases mem_mput hp with rfl | hp
  ·simp only;omega
  ·have:=v.key p hp;omega
theorem mget_filt (n:Int) (k:Int):mget (ov.filter fun p=>decide (p.1≤n)) k=if k≤n then mget ov k else none:=by
 induction ov with
 | nil=>simp [mget]
 | cons p l ih=>
  rw [List.filter_cons];by_cases h:p.1≤n
  ·rw [if_pos (by simpa using h),mget_cons,mget_cons,ih];by_cases h2:p.1=k
   ·rw [if_pos h2,if_pos h2,if_pos (by omega)]
   ·rw [if_neg h2,if_neg h2]
  ·rw [if_neg (by simpa using h),ih,mget_cons];by_cases h3:k≤n
   ·rw [if_pos h3,if_pos h3,if_neg (by omega)]
   ·rw [if_neg h3,if_neg h3]
theorem VW.cut (v:VW f ov many S now) {n:Nat} (hn:n≤many):VW f (ov.filter fun p=>decide (p.1≤(n:Int))) n S (now.take n):=by
 have hl:=v.len;refine ⟨by rw [List.length_take];omega,fun i y hi hg=>?_,fun i hi hg=>?_,fun p hp=>?_⟩
 ·rw [mget_filt,if_pos (by omega)] at hg;rw [List.getElem?_take_of_lt hi];exact v.sm i y (by omega) hg
 ·rw [mget_filt,if_pos (by omega)] at hg;rw [List.getElem?_take_of_lt hi];exact v.nn i (by omega) hg
 ·have:=List.mem_filter.1 hp;have h2:=v.key p this.1;have h3:p.1≤(n:Int):=by simpa using this.2
  exact ⟨h2.1,h3⟩
end
theorem PgsK.wth {z no:Nat} {l:List (List UInt8)} {b:List UInt8} (p:PgsK z l) (hb:b.length=z) (h1:1≤no) (h2:no≤l.length+1) (hm:no*z≤16777216) (hh:no=1∨l=[]→hok b z):PgsK z (wth l no b):=by
 refine ⟨fun x hx=>(wth_mem hx).elim (fun e=>e▸hb) (p.len x),fun _=>?_,?_⟩
 ·rw [headD_get,wth_get h1 h2];by_cases h3:0+1=no
  ·rw [if_pos h3];exact hh (.inl h3.symm)
  ·rw [if_neg h3];have:l≠[]:=fun e=>by subst e;simp at h2;omega
   rw [←headD_get];exact p.hd this
 ·rw [wth_len h2];have:=p.many;rcases Nat.le_total l.length no with h | h
  ·rw [Nat.max_eq_right h];exact hm
  ·rw [Nat.max_eq_left h];exact this
theorem PgsK.take {z:Nat} {l:List (List UInt8)} (p:PgsK z l) (n:Nat):PgsK z (l.take n):=by
 refine ⟨fun x hx=>p.len x (List.mem_of_mem_take hx),fun h=>?_,Nat.le_trans (Nat.mul_le_mul_right _ (by rw [List.length_take];omega)) p.many⟩;cases n with
 | zero=>simp at h
 | succ n=>
  cases l with
  | nil=>simp at h
  | cons a l=>exact p.hd (by simp)
open Go Go.HL
structure RC where
 kind:Nat
 pos:Nat
 ba:Option Addr
 bc:Nat
 bl:List UInt8
def RC.abs (c:RC):Chn:=⟨c.kind,c.pos,c.bl⟩
def RC.cells (c:RC):List Value:=[.int .i64 (c.kind:Int),.int .i64 (c.pos:Int),.slice c.ba c.bl.length c.bc]
theorem RC.cells_len (c:RC):c.cells.length=3:=rfl
structure RF where
 blk:Nat
 na:Option Addr
 nc:Nat
 nl:List UInt8
 sa:Option Addr
 sc:Nat
 sl:List UInt8
 here:Bool
 was:Bool
 oa:Option Addr
 oc:Nat
 ol:List RC
def RF.abs (f:RF):Fl:=⟨f.nl,f.sl,f.here,f.was,f.ol.map RC.abs⟩
@[reducible] def fboxI (f:RF):Itm:=boxI f.blk 156 [.slice f.na f.nl.length f.nc,.slice f.sa f.sl.length f.sc,.bool f.here,.bool f.was,.slice f.oa f.ol.length f.oc]
@[reducible] def fopnI (f:RF):Itm:=capI 3 158 (f.oa,f.ol.length,f.oc) (f.ol.flatMap RC.cells)
def fileI (f:RF):List Itm:=[fboxI f,fopnI f]
abbrev Fs:=List (List UInt8 × RF)
def flsI (fs:Fs):Itm:=starI (fs.flatMap fun p=>fileI p.2)
def ptrF (f:RF):Value:=.pointer (some ⟨f.blk,0,none⟩)
def ents (fs:Fs):List (List UInt8 × Value):=fs.map fun p=>(p.1,ptrF p.2)
def bget (fs:Fs) (n:List UInt8):Option RF:=(fs.find? fun p=>p.1=n).map (·.2)
def bput:Fs→List UInt8→RF→Fs
 | [],n,f=>[(n,f)]
 | p::l,n,f=>if p.1=n then (n,f)::l else p::bput l n f
def bdel (fs:Fs) (n:List UInt8):Fs:=fs.filter fun p=>decide (p.1≠n)
structure RD where
 m:Nat
 fs:Fs
 dark:Bool
 left:Int
 chg:Int
def RD.abs (r:RD):Dk:=⟨fun n=>(bget r.fs n).map RF.abs,r.dark,r.left,r.chg⟩
@[reducible] def dboxI (d:Nat) (r:RD):Itm:=boxI d 137 [.map (some r.m),.bool r.dark,.int .i64 r.left,.int .i64 r.chg]
def dskI (d:Nat) (r:RD):Itm:=starI (dboxI d r::mapI kvB r.m (ents r.fs)::r.fs.flatMap fun p=>fileI p.2)
section
variable {fs:Fs} {n m:List UInt8} {f g:RF}
theorem bget_mem:∀ {fs:Fs},bget fs n=some f→(n,f)∈fs
 | [],h=>by simp [bget] at h
 | p::l,h=>by
  by_cases hp:p.1=n
  ·subst hp;simp [bget] at h;subst h;exact List.mem_cons_self
  ·exact List.mem_cons_of_mem _ (bget_mem (fs:=l) (by simpa [bget,hp] using h))
theorem bget_cons (p:List UInt8 × RF) (l:Fs) (n:List UInt8):bget (p::l) n=if p.1=n then some p.2 else bget l n:=by
 by_cases h:p.1=n<;>simp [bget,h]
theorem bput_cons (p:List UInt8 × RF) (l:Fs) (n:List UInt8) (f:RF):bput (p::l) n f=if p.1=n then (n,f)::l else p::bput l n f:=rfl
theorem bget_put:bget (bput fs n f) m=if m=n then some f else bget fs m:=by
 induction fs with
 | nil=>by_cases h:n=m<;>simp [bput,bget,h,eq_comm]
 | cons p l ih=>
  rw [bput_cons];split
  ·rename_i h;rw [bget_cons,bget_cons];by_cases h2:n=m
   ·subst h2;simp
   ·rw [if_neg h2,if_neg (by intro e;exact h2 e.symm),if_neg (by rw [h];exact h2)]
  ·rename_i h;rw [bget_cons,bget_cons,ih];by_cases h2:p.1=m
   ·rw [if_pos h2,if_pos h2,if_neg (by intro e;exact h (h2.trans e))]
   ·rw [if_neg h2,if_neg h2]
theorem bget_del:bget (bdel fs n) m=if m=n then none else bget fs m:=by
 induction fs with
 | nil=>simp [bdel,bget]
 | cons p l ih=>
  rw [bget_cons];unfold bdel at ih⊢;rw [List.filter_cons];by_cases h:p.1=n
  ·simp only [h,ne_eq,not_true,decide_false];by_cases h2:m=n
   ·subst h2;simpa using ih
   ·have h3:¬n=m:=fun e=>h2 e.symm;rw [if_neg h3];simpa using ih
  ·simp only [h,ne_eq,not_false_iff,decide_true,if_true];rw [bget_cons,ih];by_cases h2:p.1=m
   ·have h3:¬m=n:=fun e=>h (h2.trans e);simp [h2,h3]
   ·simp [h2]
theorem bget_none_iff:bget fs n=none↔∀p∈fs,p.1≠n:=by
 induction fs with
 | nil=>simp [bget]
 | cons p l ih=>
  rw [bget_cons];by_cases h:p.1=n
  ·simp [h]
  ·simp [h,ih]
theorem bdel_none (h:bget fs n=none):bdel fs n=fs:=by
 unfold bdel;rw [List.filter_eq_self];intro p hp;simpa using bget_none_iff.1 h p hp
theorem perm_get (hn:(fs.map (·.1)).Nodup) (h:bget fs n=some f):fs.Perm ((n,f)::bdel fs n):=by
 induction fs with
 | nil=>simp [bget] at h
 | cons p l ih=>
  have h1:=List.nodup_cons.1 hn;rw [bget_cons] at h;by_cases hp:p.1=n
  ·rw [if_pos hp] at h;injection h with h;have e:bdel (p::l) n=l:=by
    have:bget l n=none:=bget_none_iff.2 fun q hq e=>h1.1 (List.mem_map.2 ⟨q,hq,e.trans hp.symm⟩);have h2:=bdel_none this;unfold bdel at h2⊢;rw [List.filter_cons];simp [hp];simpa using h2
   rw [e,←h,←hp]
  ·rw [if_neg hp] at h;have e:bdel (p::l) n=p::bdel l n:=by unfold bdel;rw [List.filter_cons];simp [hp]
   rw [e];exact ((ih h1.2 h).cons p).trans (.swap _ _ _)
theorem bdel_put:bdel (bput fs n f) n=bdel fs n:=by
 induction fs with
 | nil=>simp [bput,bdel]
 | cons p l ih=>
  rw [bput_cons];split
  ·rename_i h;simp [bdel,h]
  ·rename_i h;unfold bdel at ih⊢;rw [List.filter_cons,List.filter_cons,ih]
theorem keys_put (f:RF) (h:bget fs n=some g):(bput fs n f).map (·.1)=fs.map (·.1):=by
 induction fs with
 | nil=>simp [bget] at h
 | cons p l ih=>
  rw [bput_cons];split
  ·rename_i hp;simp [hp]
  ·rename_i hp;rw [bget_cons,if_neg hp] at h;simp [ih h]
theorem bput_none (h:bget fs n=none):bput fs n f=fs++[(n,f)]:=by
 induction fs with
 | nil=>rfl
 | cons p l ih=>
  rw [bget_cons] at h;split at h
  ·cases h
  ·rename_i hp;rw [bput_cons,if_neg hp,ih h];rfl
theorem nodup_put (hn:(fs.map (·.1)).Nodup):((bput fs n f).map (·.1)).Nodup:=by
 cases h:bget fs n with
 | some g=>rw [keys_put f h];exact hn
 | none=>
  rw [bput_none h,List.map_append];refine List.nodup_append.2 ⟨hn,by simp,fun a ha b hb=>?_⟩;obtain ⟨p,hp,rfl⟩:=List.mem_map.1 ha;simp at hb;subst hb;exact bget_none_iff.1 h p hp
theorem perm_put (hn:(fs.map (·.1)).Nodup):(bput fs n f).Perm ((n,f)::bdel fs n):=by
 have h:=perm_get (fs:=bput fs n f) (n:=n) (f:=f) (nodup_put hn) (by rw [bget_put,if_pos rfl]);rwa [bdel_put] at h
theorem ents_keys:(ents fs).map (·.1)=fs.map (·.1):=by simp [ents,Function.comp_def]
theorem ents_get:aget (ents fs) n=(bget fs n).map ptrF:=by
 induction fs with
 | nil=>rfl
 | cons p l ih=>
  rw [bget_cons];by_cases h:p.1=n
  ·simp [ents,aget,h]
  ·simpa [ents,aget,h] using ih
theorem ents_put:aput (ents fs) n (ptrF f)=ents (bput fs n f):=by
 induction fs with
 | nil=>rfl
 | cons p l ih=>
  rw [bput_cons];by_cases h:p.1=n
  ·simp [ents,aput,h]
  ·simpa [ents,aput,h] using ih
theorem ents_same (h:bget fs n=some g) (hb:f.blk=g.blk):ents (bput fs n f)=ents fs:=by
 induction fs with
 | nil=>simp [bget] at h
 | cons p l ih=>
  rw [bput_cons];rw [bget_cons] at h;by_cases hp:p.1=n
  ·rw [if_pos hp] at h⊢;injection h with h;subst h;simp [ents,hp,ptrF,hb]
  ·rw [if_neg hp] at h⊢;simpa [ents] using ih h
theorem ents_del:adel (ents fs) n=ents (bdel fs n):=by simp [adel,ents,bdel,List.filter_map,Function.comp_def]
end
end Go.Proofs.YtndlpekckpdncaaGreat
namespace Go.HL
open Go Go.Proofs.YtndlpekckpdncaaGreat
section
variable {h0 h h':Heap} {D G:Nat→Prop} {M R:List Itm} {d:Nat} {r r':RD} {fs:Fs} {n:List UInt8} {f:RF} {E E':Nat→Prop}
theorem Hp.dopn (ok:Hp h0 D (dskI d r::M) R h):Hp h0 D (dboxI d r::mapI kvB r.m (ents r.fs)::flsI r.fs::M) R h:=Hp.star2 ok
theorem Hp.dcls (ok:Hp h0 D (dboxI d r::mapI kvB r.m (ents r.fs)::flsI r.fs::M) R h):Hp h0 D (dskI d r::M) R h:=Hp.unstar2 ok
theorem Hp.fopn (hn:(fs.map (·.1)).Nodup) (hg:bget fs n=some f) (ok:Hp h0 D (flsI fs::M) R h):Hp h0 D (fboxI f::fopnI f::flsI (bdel fs n)::M) R h:=
 Hp.star2 (Hp.starP (l':=((n,f)::bdel fs n).flatMap fun p:List UInt8 × RF=>fileI p.2) ok ((perm_get hn hg).flatMap_right _).symm)
theorem Hp.fcls (hn:(fs.map (·.1)).Nodup) (ok:Hp h0 D (fboxI f::fopnI f::flsI (bdel fs n)::M) R h):Hp h0 D (flsI (bput fs n f)::M) R h:=
 Hp.starP (l':=(bput fs n f).flatMap fun p:List UInt8 × RF=>fileI p.2) (Hp.unstar2 ok) ((perm_put hn).flatMap_right _)
structure ByF (h:Heap) (E:Nat→Prop) (f:RF):Prop where
 now:RdL h E E (f.na,f.nl.length,f.nc) f.nl
 safe:RdL h E E (f.sa,f.sl.length,f.sc) f.sl
 opn:∀c∈f.ol,RdL h E E (c.ba,c.bl.length,c.bc) c.bl
theorem ByF.st (c:Chg G h h') (hE:∀j,E j→¬G j) (b:ByF h E f):ByF h' E f:=⟨b.now.st c hE hE,b.safe.st c hE hE,fun x hx=>(b.opn x hx).st c hE hE⟩
theorem ByF.mono (hE:∀j,E j→E' j) (b:ByF h E f):ByF h E' f:=⟨b.now.mono hE hE,b.safe.mono hE hE,fun x hx=>(b.opn x hx).mono hE hE⟩
def Bys (h:Heap) (E:Nat→Prop) (fs:Fs):Prop:=∀p∈fs,ByF h E p.2
@[reducible] def bysI (E:Nat→Prop) (fs:Fs):Itm:=⟨fun h=>Bys h E fs,E,fun _ _ _ c d b p hp=>(b p hp).st c d⟩
theorem Bys.get (b:Bys h E fs) (hg:bget fs n=some f):ByF h E f:=b _ (bget_mem hg)
theorem Bys.mono (hE:∀j,E j→E' j) (b:Bys h E fs):Bys h E' fs:=fun p hp=>(b p hp).mono hE
theorem mem_bput {fs:Fs} {n:List UInt8} {f:RF} {p:List UInt8 × RF} (h:p∈bput fs n f):p=(n,f)∨p∈fs:=by
 induction fs with
 | nil=>simp [bput] at h;exact .inl h
 | cons q l ih=>
  rw [bput_cons] at h;split at h
  ·rcases List.mem_cons.1 h with h | h
   ·exact .inl h
   ·exact .inr (List.mem_cons_of_mem _ h)
  ·rcases List.mem_cons.1 h with h | h
   ·exact .inr (by rw [h];exact List.mem_cons_self)
   ·exact (ih h).imp id (List.mem_cons_of_mem _)
theorem Bys.put (b:Bys h E fs) (hf:ByF h E f):Bys h E (bput fs n f):=fun p hp=>by
 rcases mem_bput hp with rfl | hp
 ·exact hf
 ·exact b p hp
theorem Bys.del (b:Bys h E fs):Bys h E (bdel fs n):=fun p hp=>b p ((List.mem_filter.1 hp).1)
structure DUp (h h':Heap) (d:Nat) (r r':RD) (E E':Nat→Prop):Prop where
 hp:Hp h (dskI d r).F [dskI d r'] [bysI E' r'.fs] h'
 new:∀j,E' j→E j∨h.size≤j
theorem Hp.loc1 {a b:Itm} (ok:Hp h0 D (a::M) (b::R) h):Hp h a.F [a] [b] h:=
 ⟨Chg.refl _ _,fun i hi=>by
  rw [List.mem_singleton.1 hi];exact ⟨ok.m0,fun j hj=>⟨((ok.m a List.mem_cons_self).2 j hj).1,.inl hj⟩⟩,fun i hi=>by
  rw [List.mem_singleton.1 hi];exact ok.r b List.mem_cons_self,List.pairwise_singleton _ _,fun x hx y hy=>by
  rw [List.mem_singleton.1 hx,List.mem_singleton.1 hy];exact ok.mr a List.mem_cons_self b List.mem_cons_self⟩
theorem Hp.rdo {a b:Itm} (ok:Hp h0 D (a::M) (b::R) h):Hp h none_ [] [a,b] h:=
 ⟨Chg.refl _ _,by simp,fun i hi=>by
  rcases List.mem_cons.1 hi with rfl | hi
  ·exact ⟨ok.m0,fun j hj=>((ok.m i List.mem_cons_self).2 j hj).1⟩
  ·rw [List.mem_singleton.1 hi];exact ok.r b List.mem_cons_self,.nil,by simp⟩
theorem Hp.dsk (ok:Hp h0 D (dskI d r::M) (bysI E r.fs::R) h) (q:DUp h h' d r r' E E'):Hp h0 D (dskI d r'::M) (bysI E' r'.fs::R) h':=by
 have o:=ok.upd q.hp.chg (fun _ x=>x) (dskI d r') q.hp.m0 fun j hj=>by
  have h1:=(q.hp.m _ List.mem_cons_self).2 j hj;exact h1.2.imp id fun h=>⟨h,h1.1⟩
 refine ⟨o.chg,o.m,fun i hi=>?_,o.mm,fun x hx y hy j hj hj2=>?_⟩
 ·rcases List.mem_cons.1 hi with rfl | hi
  ·exact q.hp.r _ List.mem_cons_self
  ·exact o.r i (List.mem_cons_of_mem _ hi)
 ·rcases List.mem_cons.1 hy with rfl | hy
  ·rcases List.mem_cons.1 hx with rfl | hx
   ·exact q.hp.mr _ List.mem_cons_self _ List.mem_cons_self j hj hj2
   ·rcases q.new j hj2 with h1 | h1
    ·exact ok.mr x (List.mem_cons_of_mem _ hx) _ List.mem_cons_self j hj h1
    ·have:=((ok.m x (List.mem_cons_of_mem _ hx)).2 j hj).1;omega
  ·exact o.mr x hx y (List.mem_cons_of_mem _ hy) j hj hj2
theorem Hp.up {R':List Itm} (q:Hp h (dskI d r).F [dskI d r'] (bysI E' r'.fs::R') h') (hE:∀j,E' j→E j∨h.size≤j):DUp h h' d r r' E E':=⟨q.sub (by simp),hE⟩
theorem Hp.lift1 {a b:Itm} (ok:Hp h0 D (a::M) R h) (q:Hp h a.F [b] [] h'):Hp h0 D (b::M) R h':=
 ok.upd q.chg (fun _ x=>x) b q.m0 fun j hj=>by
  have h1:=(q.m _ List.mem_cons_self).2 j hj;exact h1.2.imp id fun h=>⟨h,h1.1⟩
theorem Hp.loc0 {a:Itm} (ok:Hp h0 D (a::M) R h):Hp h a.F [a] [] h:=
 ⟨Chg.refl _ _,fun i hi=>by
  rw [List.mem_singleton.1 hi];exact ⟨ok.m0,fun j hj=>⟨((ok.m a List.mem_cons_self).2 j hj).1,.inl hj⟩⟩,by simp,List.pairwise_singleton _ _,by simp⟩
end
end Go.HL
namespace Go.Proofs.YtndlpekckpdncaaGreat
open Go Go.HL
theorem long_cut {h0 h:Heap} {D:Nat→Prop} {M R:List Itm} {e:TypeId} {a:Option Addr} {c n:Nat} {l:List UInt8} (ok:Hp h0 D (capI 1 e (a,l.length,c) (l.map bv)::M) R h) (hn:n≤l.length):Hp h0 D (capI 1 e (a,(longN l n).length,n) ((longN l n).map bv)::M) R h:=by
 have h1:=Cap.clip (Cap.pre ok.m0 hn);rw [Nat.mul_one,←List.map_take,←longN_le hn] at h1;refine ok.re _ (by simp only [longN_len];exact h1) fun j hj=>?_;obtain ⟨o,n',c',hv⟩:=hj;injection hv with h1 h2 h3;exact ⟨o,_,_,by rw [←h1]⟩
theorem long_any {h:Heap} {n:Nat} {a:Option Addr} {c:Nat} {l:List UInt8} (ok:Hp h (blkC (sv (a,l.length,c))) [capI 1 5 (a,l.length,c) (l.map bv)] [] h) (hN:l.length≤100000000) (hn:n≤100000000) :
  HC Tryz.prog 150 #[.slice a l.length c,.int .i64 (n:Int)] h (fun v h'=>∃a' c',v=.slice a' (longN l n).length c'∧Hp h (blkC (sv (a,l.length,c))) [capI 1 5 (a',(longN l n).length,c') ((longN l n).map bv)] [] h'):=by
 have hle:l.length≤c:=Cap.le ok.m0;refine HC.go Tryz.func150 19 ?_;refine .seq<|.r<|.z .asS<|.nil ?_;refine .seq<|.seq<|.r<|.z .mvI<|.z .mvS<|.z (.len T.el44)<|.z .leq<|.nil ?_;refine .cd (fun C0=>?_) (fun C0=>?_)
 ·
  refine .seq<|.r<|.z .mvS<|.z .mvI<|.z .mvI<|.z (.slhm n n T.el44 T.sz5)<|.z .asS<|.nil ?_;refine .ret ⟨.slice a n n,Res.one rfl rfl,⟨a,n,by rw [longN_len],long_cut ok (by omega)⟩⟩
 refine .skip<|.seq<|.r<|.z .mvS<|.z .mvI<|.z .mvS<|.z (.len T.el44)<|.z .sub<|.a' 18 (.apz (z:=((n:Int)-(l.length:Int))) (n-l.length) T.el44 T.in3 T.sz5 T.by5 T.zr5 ok (by omega) (by omega)) ?_;rintro _ η1 ⟨ya1,yc1,rfl,ok⟩;refine .z .asS<|.nil ?_;refine .ret ⟨.slice ya1 ((l++List.replicate (n-l.length) 0).length) yc1,Res.one rfl rfl,⟨_,_,by rw [longN_ge (by omega)],by rw [longN_ge (by omega)];exact ok⟩⟩
theorem done0 {pos:Nat} {bl l:List UInt8} {here:Bool} : doneN ⟨0,pos,bl⟩ l here=(patchN (longN l (max l.length (pos+bl.length))) pos bl,true):=by simp [doneN]
theorem done1 {pos:Nat} {bl l:List UInt8} : doneN ⟨1,pos,bl⟩ l true=(longN l pos,true):=by simp [doneN]
theorem done2 {kind pos:Nat} {bl l:List UInt8} {here:Bool} (h1:kind≠0) (h2:kind=1→here=false):doneN ⟨kind,pos,bl⟩ l here=([],false):=by
 unfold doneN;rw [if_neg h1,if_neg];rintro ⟨h3,h4⟩;simp only at h3;rw [h2 h3] at h4;cases h4
theorem spl_patch {o b:List UInt8} {p:Nat} : spl (o.map bv) (p*1) (b.map bv)=(patchN o p b).map bv:=by simp [spl,patchN]
theorem done_any {h:Heap} {F E F2 E2:Nat→Prop} {kind pos:Nat} {ba a:Option Addr} {bc c:Nat} {bl l:List UInt8} {here:Bool} (hb:RdL h F2 E2 (ba,bl.length,bc) bl) (hl:RdL h F E (a,l.length,c) l) (hp:pos+bl.length≤16777216) (hL:l.length≤16777216) :
  HC Tryz.prog 108 #[.agg #[.int .i64 (kind:Int),.int .i64 (pos:Int),.slice ba bl.length bc],.slice a l.length c,.bool here] h (fun v h'=>∃w,v=.tuple #[w,.bool (doneN ⟨kind,pos,bl⟩ l here).2]∧Own h h' 1 5 w ((doneN ⟨kind,pos,bl⟩ l here).1.map bv)):=by
 have ok:=((Hp.nil h none_).arg hb).arg hl;refine HC.go Tryz.func108 45 ?_;refine .seq<|.r<|.a' 3 (.bxA (cs:=[.int .i64 (kind:Int),.int .i64 (pos:Int),.slice ba bl.length bc]) ok) ?_;rintro _ η1 ⟨pb1,rfl,ok,xe⟩;refine .z .asS<|.z .asB<|.nil ?_;refine .seq<|.block fun K0 hK0=>.seq<|.r<|.z (.fa T.fd158_0)<|.z (.ldx T.ag3 ok.m0)<|.z .eql<|.z .asB<|.nil ?_;refine .cd (fun C0=>?_) (fun C0=>?_)
 ·
  refine .seq<|.a 13 (fun fl hh=>Hp h none_ [boxI pb1 158 [.int .i64 (kind:Int),.int .i64 (pos:Int),.slice ba bl.length bc]] [rdI (fun j=>F j∧j<h.size) (fun j=>E j∧j<h.size) (a,l.length,c) l,rdI (fun j=>F2 j∧j<h.size) (fun j=>E2 j∧j<h.size) (ba,bl.length,bc) bl] hh) mixed ?_;have hS:=ok;refine .g 0 false rfl 13 hS (fun _=>.mvS)<|.g 2 false rfl 15 hS (fun _=>.mvS)<|.g 3 false rfl 16 hS (fun _=>.len T.el44)<|.g 4 false rfl 17 hS (fun _=>.fa T.fd158_1)<|.lw 5 false rfl 18 hS (fun _ _ hS=>.ldx T.ag3 hS.m0)<|.g 6 false rfl 19 hS (fun _=>.fa T.fd158_2)<|.lw 7 false rfl 20 hS (fun _ _ hS=>.ldx T.ag44 hS.m0)<|.g 8 false rfl 21 hS (fun _=>.len T.el44)<|.g 9 false rfl 22 hS (fun _=>.addI)<|.g 10 false rfl 23 hS (fun _=>.maxn)<|.o1 1<|.c' false rfl 14 .func (bclone_any (a:=a) (c:=c) (l:=l) ok.r0 (by omega)) ?_;rintro _ η2 own;obtain ⟨ya1,yc1,rfl⟩:=own.formB;have ok:=ok.own own;refine ⟨ok.n1.k1,?_⟩;have hS:=ok.n1.k1;refine .o1 11<|.c' false rfl 24 .func (long_any (n:=(max l.length (pos+bl.length))) (ok).loc0 (by omega) (by omega)) ?_;rintro _ η3 ⟨ya2,yc2,rfl,q⟩;have ok:=(ok).lift1 q;refine ⟨ok.n1.k1,?_⟩;have hS:=ok.n1.k1;refine .g 12 false rfl 8 hS (fun _=>.asS)<|.e ?_;refine .seq<|.t 6 mixed ?_;simp only [List.take_succ_cons,List.take_zero,List.drop_succ_cons,List.drop_zero];refine .z .mvS<|.z (.fa T.fd158_1)<|.z (.ldx T.ag3 ok.m1)<|.z (.sll pos T.el44 T.sz5 (hb:=by rw [longN_len];omega))<|.z (.fa T.fd158_2)<|.z (.ldx T.ag44 ok.m1)<|.nil ?_;refine .a' 31 (.cpyA (n:=(longN l (max l.length (pos+bl.length))).length) (ys:=bl.map bv) (m:=bl.length) pos T.el44 T.sz5 ok ok.r1.by bv_all rfl (him:=by rw [longN_len];omega)) ?_;rintro _ η4 ⟨rfl,ok,cg⟩;refine .nil ?_;refine .seq<|.r<|.z .mvS<|.z .asS<|.z .asB<|.nil ?_;refine .ret ⟨.tuple #[.slice ya2 ((longN l (max l.length (pos+bl.length))).length) yc2,.bool true],Res.two rfl rfl rfl,⟨_,by rw [show kind=0 from by omega,done0],by rw [show kind=0 from by omega,done0];have ok:=(ok).cx spl_patch;exact ok.toOwn⟩⟩
 refine .seq<|.r<|.z (.fa T.fd158_0)<|.z (.ldx T.ag3 ok.m0)<|.z .eql<|.z .mvB<|.sd (fun G37=>?_) (fun G37=>?_)
 ·
  refine .z .mvB<|.z .pkt<|.z .asB<|.nil ?_;refine .cond (fun C1=>?_) (fun C1=>?_)
  ·
   refine .seq<|.a 4 (fun fl hh=>cond fl True (Hp h none_ [boxI pb1 158 [.int .i64 (kind:Int),.int .i64 (pos:Int),.slice ba bl.length bc]] [rdI (fun j=>F j∧j<h.size) (fun j=>E j∧j<h.size) (a,l.length,c) l,rdI (fun j=>F2 j∧j<h.size) (fun j=>E2 j∧j<h.size) (ba,bl.length,bc) bl] hh)) mixed ?_;have hS:=ok;refine .g 0 false rfl 40 hS (fun _=>.mvS)<|.g 2 false rfl 42 hS (fun _=>.fa T.fd158_1)<|.l 3 false rfl 43 hS (fun _ hS=>.ldx T.ag3 hS.m0)<|.o1 1<|.c' false rfl 41 .func (bclone_any (a:=a) (c:=c) (l:=l) ok.r0 (by omega)) ?_;rintro _ η5 own;obtain ⟨ya3,yc3,rfl⟩:=own.formB;have ok:=ok.own own;refine ⟨ok.n1.k1,?_⟩;have hS:=ok.n1.k1;refine .o1 4<|.c' true rfl 44 .func (long_any (n:=pos) (ok).loc0 (by omega) (by omega)) ?_;rintro _ η6 ⟨ya4,yc4,rfl,q⟩;have ok:=(ok).lift1 q;refine ⟨trivial,?_⟩;refine .g 5 true rfl 6 trivial (fun _=>.asS)<|.g 6 true rfl 7 trivial (fun _=>.asB)<|.e ?_;refine .ret ⟨.tuple #[.slice ya4 ((longN l pos).length) yc4,.bool true],Res.two rfl rfl rfl,⟨_,by rw [show kind=1 from by omega,C1,done1],by rw [show kind=1 from by omega,C1,done1];exact (ok).toOwn⟩⟩
  refine .skip<|.end<|hK0 _ _<|.seq<|.r<|.z .asS<|.z .asB<|.nil ?_;refine .ret ⟨.tuple #[.slice none 0 0,.bool false],Res.two rfl rfl rfl,⟨_,by rw [done2 (by omega) (by intro h1;first | exact absurd h1 (by omega) | simpa using C1)],by rw [done2 (by omega) (by intro h1;first | exact absurd h1 (by omega) | simpa using C1)];exact ok.tM.nilC.toOwn⟩⟩
 refine .y<|.z .pkf<|.z .asB<|.nil ?_;refine .cf<|.skip<|.end<|hK0 _ _<|.seq<|.r<|.z .asS<|.z .asB<|.nil ?_;refine .ret ⟨.tuple #[.slice none 0 0,.bool false],Res.two rfl rfl rfl,⟨_,by rw [done2 (by omega) (by intro h1;first | exact absurd h1 (by omega) | simpa using C1)],by rw [done2 (by omega) (by intro h1;first | exact absurd h1 (by omega) | simpa using C1)];exact ok.tM.nilC.toOwn⟩⟩
theorem RdL.ofCapI {h:Heap} {e:TypeId} {v:SV} {l:List Int} (c:Cap h 1 e (sv v) (l.map iv)):RdL h any_ any_ v l:=(RdL.of_cap1 (E:=any_) (f:=iv) rfl (fun _ _ _=>rfl) c).mono (fun _ _=>trivial) (fun _ h=>h)
theorem wrong1 {d:Dk} {n:List UInt8} {zs:List Int} (h:n.length<1∨32<n.length∨∃z∈zs,z<0):wrongN d n zs=1:=by unfold wrongN;rw [if_pos h]
theorem wrong13 {d:Dk} {n:List UInt8} {zs:List Int} (h:¬(n.length<1∨32<n.length∨∃z∈zs,z<0)) (hd:d.dark=true):wrongN d n zs=13:=by unfold wrongN;rw [if_neg h,if_pos hd]
theorem wrong0 {d:Dk} {n:List UInt8} {zs:List Int} (h:¬(n.length<1∨32<n.length∨∃z∈zs,z<0)) (hd:¬d.dark=true):wrongN d n zs=0:=by unfold wrongN;rw [if_neg h,if_neg hd]
theorem neg_any {h:Heap} {z:Int} :
  HC Tryz.prog 230 #[.int .i64 z] h (fun v h'=>v=.bool (decide (z<0))∧h'=h):=by
 refine HC.go Tryz.func230 5 ?_;refine .seq<|.r<|.z .asB<|.nil ?_;refine .seq<|.r<|.z .mvI<|.z .lss<|.z .asB<|.nil ?_;refine .ret ⟨.bool (decide (z<0)),Res.one rfl rfl,⟨rfl,rfl⟩⟩
theorem ixf_any {h:Heap} {F E:Nat→Prop} {a:Option Addr} {c:Nat} {l:List Int} (hl:RdL h F E (a,l.length,c) l) :
  HC Tryz.prog 246 #[.slice a l.length c,.func (.func 230) #[] #[]] h (fun v h'=>∃i:Int,v=.int .i64 i∧((0≤i∧∃z∈l,z<0)∨(i<0∧¬ ∃z∈l,z<0))∧h'=h):=by
 have hc2:=hl.m;have hc1:l.length≤c:=hl.c;simp only at hc2;refine HC.go Tryz.func246 19 ?_;refine .seq<|.r<|.z .asI<|.nil ?_;refine .seq<|.seq<|.r<|.z .mvS<|.z (.len T.el24)<|.z .mvI<|.nil ?_;refine .block fun K0 hK0=>.loop (fun m s hh=>∃(i:Nat),Has s [(0,.slice a l.length c),(1,.func (.func 230) #[] #[]),(7,.int .i64 (l.length:Int)),(8,.int .i64 (i:Int))]∧h=hh∧i≤l.length∧(∀j (hj:j<l.length),j<i→¬l[j]<0)∧m=l.length-i) ?_ ?_
 ·exact ⟨_,0,⟨rfl,rfl,rfl,rfl,trivial⟩,rfl,Nat.zero_le _,fun _ _ h=>absurd h (by omega),rfl⟩
 rintro _ _ _ ⟨i,hs,rfl,hi,hz,rfl⟩ J0 hJ0;refine .frame hs fun τ=>?_;refine .seq<|.r<|.z .lss<|.nil ?_;refine .seq<|.cdr (fun C0=>?_) (fun C0=>?_)
 ·
  have hil:i=l.length:=by omega
  refine .exit<|hK0 _ _<|.seq<|.r<|.z .asI<|.nil ?_;refine .ret ⟨.int .i64 (-1),Res.one rfl rfl,⟨_,rfl,.inr ⟨by decide,fun ⟨z,hzm,hz0⟩=>(by obtain ⟨j,hj,rfl⟩:=List.mem_iff_getElem.1 hzm;exact hz j hj (by omega) hz0)⟩,rfl⟩⟩
 have hil:i<l.length:=by omega
 refine .skip<|.seq<|.block fun K1 hK1=>.seq<|.r<|.z .mvI<|.z .asI<|.nil ?_;refine .seq<|.r<|.z .mvF<|.z .mvS<|.z .mvI<|?_;obtain ⟨bb1,oo1,rfl,fb1⟩:=hl.pos (by omega);refine .z (.ix1 i T.el24 T.sz3)<|.z (.ld T.ag3 (hl.i64 (i:=i) (by omega)))<|.k 16 .dyn (neg_any (z:=l[i]))<|.nil ?_;refine .cd (fun C1=>?_) (fun C1=>?_)
 ·
  refine .seq<|.r<|.z .mvI<|.z .asI<|.nil ?_;refine .ret ⟨.int .i64 (i:Int),Res.one rfl rfl,⟨_,rfl,.inl ⟨by omega,_,List.getElem_mem hil,C1⟩,rfl⟩⟩
 refine .skip<|.end<|hK1 _ _<|.r<|.z (.addI (b:=1))<|.z .mvI<|.nil ?_;refine .end<|hJ0 _ _ _ ⟨i+1,⟨rfl,rfl,rfl,rfl,trivial⟩,rfl,by omega,fun j hj h=>(by by_cases hji:j=i;(subst hji;exact C1);exact hz j hj (by omega)),rfl⟩ (by omega)
theorem anyneg_any {h:Heap} {F E:Nat→Prop} {a:Option Addr} {c:Nat} {l:List Int} (hl:RdL h F E (a,l.length,c) l) :
  HC Tryz.prog 229 #[.slice a l.length c,.func (.func 230) #[] #[]] h (fun v h'=>v=.bool (decide (∃z∈l,z<0))∧h'=h):=by
 have hc2:=hl.m;have hc1:l.length≤c:=hl.c;simp only at hc2;refine HC.go Tryz.func229 9 ?_;refine .seq<|.r<|.z .asB<|.nil ?_;refine .seq<|.r<|.z .mvS<|.z .mvF<|.c' 7 .func (ixf_any (a:=a) (c:=c) (l:=l) hl) ?_;rintro _ _ ⟨ix1,rfl,hix1,heq⟩;obtain rfl:=heq.symm;refine .z .geq<|.z .asB<|.nil ?_;refine .ret ⟨.bool (decide (0≤ix1)),Res.one rfl rfl,⟨congrArg Value.bool (decide_eq_decide.2 ⟨fun h1=>hix1.elim (·.2) fun h2=>absurd h1 (by omega),fun h1=>hix1.elim (·.1) fun h2=>absurd h1 h2.2⟩),rfl⟩⟩
theorem wrong_any {h:Heap} {F E:Nat→Prop} {d:Nat} {r:RD} {n:List UInt8} {a:Option Addr} {c:Nat} {l:List Int} (hd:(dboxI d r).p h) (hl:RdL h F E (a,l.length,c) l) :
  HC Tryz.prog 211 #[.pointer (some ⟨d,0,none⟩),.string (BA n),.slice a l.length c] h (fun v h'=>v=.int .i64 (wrongN r.abs n l:Int)∧h'=h):=by
 have hc2:=hl.m;have hc1:l.length≤c:=hl.c;simp only at hc2;refine HC.go Tryz.func211 28 ?_;refine .seq<|.r<|.z .asI<|.nil ?_;refine .seq<|.block fun K0 hK0=>.seq<|.r<|.z .mvP<|.z (.pEqS T.pt63)<|.z .asB<|.nil ?_;refine .cf<|.seq<|.r<|.z .mvT<|.z (.lenT T.st9)<|.z .lss<|.z .mvB<|.sd (fun G14=>?_) (fun G14=>?_)
 ·
  refine .y<|.y<|.y<|.z .pkt<|.z .mvB<|.y<|.y<|.z .pkt<|.z .asB<|.nil ?_;refine .ct<|.seq<|.r<|.z .asI<|.nil ?_;refine .ret ⟨.int .i64 1,Res.one rfl rfl,⟨by rw [wrong1 (by first | exact .inl (by omega) | exact .inr (.inl (by omega)) | exact .inr (.inr C1))];rfl,rfl⟩⟩
 refine .z .mvT<|.z (.lenT T.st9)<|.z .gtr<|.z .pkf<|.z .mvB<|.sd (fun G19=>?_) (fun G19=>?_)
 ·
  refine .y<|.y<|.z .pkt<|.z .asB<|.nil ?_;refine .ct<|.seq<|.r<|.z .asI<|.nil ?_;refine .ret ⟨.int .i64 1,Res.one rfl rfl,⟨by rw [wrong1 (by first | exact .inl (by omega) | exact .inr (.inl (by omega)) | exact .inr (.inr C1))];rfl,rfl⟩⟩
 refine .z .mvS<|.k 21 .func (anyneg_any (a:=a) (c:=c) (l:=l) hl)<|.z .pkf<|.z .asB<|.nil ?_;refine .cd (fun C1=>?_) (fun C1=>?_)
 ·
  refine .seq<|.r<|.z .asI<|.nil ?_;refine .ret ⟨.int .i64 1,Res.one rfl rfl,⟨by rw [wrong1 (by first | exact .inl (by omega) | exact .inr (.inl (by omega)) | exact .inr (.inr C1))];rfl,rfl⟩⟩
 refine .seq<|.r<|.z .mvP<|.z .nil<|.z (.fa T.fd137_1)<|.z (.ldx T.ag4 hd)<|.z .asB<|.nil ?_;refine .cond (fun C2=>?_) (fun C2=>?_)
 ·
  refine .seq<|.r<|.z .asI<|.nil ?_;refine .ret ⟨.int .i64 13,Res.one rfl rfl,⟨by rw [wrong13 (by rintro (h1 | h1 | h1);(omega);(omega);exact absurd h1 C1) (by show r.dark=true;exact C2)];rfl,rfl⟩⟩
 refine .skip<|.end<|hK0 _ _<|.seq<|.r<|.z .asI<|.nil ?_;refine .ret ⟨.int .i64 0,Res.one rfl rfl,⟨by rw [wrong0 (by rintro (h1 | h1 | h1);(omega);(omega);exact absurd h1 C1) (by show ¬r.dark=true;rw [C2];decide)];rfl,rfl⟩⟩
end Go.Proofs.YtndlpekckpdncaaGreat
