/- A disk's calls: Write, Truncate, Remove, Sync, Size, Dark, Changes, Cut, New. Conditions: the disk is in order, its changes few. A disk's calls: Read, Size, Dark, Changes, Cut, New, and the calls to no disk. Conditions: the disk is in order. tomeref10.SameInts, in and find answer as their plain lists say. Conditions: the slices are readable. tomeref10.SameFrames and front answer as their plain lists say. Conditions: the slices are readable. slices.Index, slices.Clone, bytes.Clone and slices.Delete over the types that the cache uses. Conditions: lengths below a bound. The order of a cache: forget and touch. Conditions: lengths below a bound. A cache in memory, and the method drop. Conditions: the cache is well laid. cache.New and the method Get. Conditions: the cache is well laid. The method Put of a cache. Conditions: the cache is well laid, lengths below a bound. slices.Reverse over ints and the method Pages of a cache. Conditions: the cache is well laid. The method Clean of a cache. Conditions: the cache is well laid, lengths below a bound. The method Drop of a cache, and what the methods answer for a nil cache. Conditions: the cache is well laid, lengths below a bound. The pager that logs ahead, in memory: its box, its maps, its cache and its disk as one item that turns; what is told of its cache alone. Conditions: those that each fact names. Calls through an interface, interface values, and closures, in few words. Conditions: those that each fact names. A store in memory: its box, its map of pages, its savepoints, and a pager of whatever make, as one item that is told by the document's state. Conditions: those that each fact names. The pager that logs ahead in plain terms: its calls, and what ties it to memory. Conditions: those that each fact names. The store's inner functions: what is wrong with it, how many pages there are, a page is read, put, cut off. Conditions: those that each names. Any head is encoded. Conditions: numbers of 64 bits. What a store's functions make of the document's state. Conditions: those that each fact names. -/
import Derived.Test.YtndlpekckpdncaaGreatPkN3
set_option maxRecDepth 100000
set_option maxHeartbeats 2000000
set_option linter.all false
namespace Go.HL
open Go Go.Proofs.YtndlpekckpdncaaGreat
theorem Hp.byX {h0 h:Heap} {D E F2:Nat→Prop} {M R:List Itm} {fs:Fs} {a:Option Addr} {c:Nat} {l:List UInt8} (ok:Hp h0 D M (rdI F2 none_ (a,l.length,c) l::bysI E fs::R) h):Hp h0 D M (bysI (fun j=>E j∨F2 j) fs::rdI (fun j=>E j∨F2 j) (fun j=>E j∨F2 j) (a,l.length,c) l::R) h:=by
 have o1:=ok.or (r:=rdI F2 none_ (a,l.length,c) l) (r':=bysI E fs) (by simp) (by simp) (rdI (fun j=>E j∨F2 j) (fun j=>E j∨F2 j) (a,l.length,c) l) (RdL.mono (fun _ h=>.inr h) (fun _ f=>f.elim) ok.r0) (fun j hj=>(hj.elim id id).elim .inr (fun h=>.inl (.inl h)));have o2:=o1.or (r:=rdI F2 none_ (a,l.length,c) l) (r':=bysI E fs) (by simp) (by simp) (bysI (fun j=>E j∨F2 j) fs) (Bys.mono (fun _ h=>.inl h) ok.r1) (fun j hj=>hj.elim .inr (fun h=>.inl (.inl h)));exact o2.sub (by
  intro i hi;simp only [List.mem_cons] at hi⊢;rcases hi with h | h | h
  ·exact .inl h
  ·exact .inr (.inl h)
  ·exact .inr (.inr (.inr (.inr h))))
end Go.HL
namespace Go.Proofs.YtndlpekckpdncaaGreat
open Go Go.HL
theorem write_w {d:Dk} {n:List UInt8} {z:Int} {l:List UInt8} (h:¬(wrongN d n [z]:Int)=0):writeN d n z l=(d,wrongN d n [z]):=by unfold writeN;rw [if_pos (by omega)]
theorem write_f {d:Dk} {n:List UInt8} {z:Int} {l:List UInt8} (h:wrongN d n [z]=0) (h2:16777216<z∨16777216-z<l.length):writeN d n z l=(d,5):=by unfold writeN;rw [if_neg (by omega),if_pos h2]
theorem write_d {d:Dk} {n:List UInt8} {p:Nat} {l:List UInt8} (h:wrongN d n [(p:Int)]=0) (h2:¬(16777216<(p:Int)∨16777216-(p:Int)<l.length)):writeN d n (p:Int) l=doN d n ⟨0,p,l⟩:=by unfold writeN;rw [if_neg (by omega),if_neg h2];rfl
theorem write_any {h:Heap} {d:Nat} {r:RD} {E:Nat→Prop} {n:List UInt8} {F2 E2:Nat→Prop} {z:Int} {a:Option Addr} {c:Nat} {l:List UInt8} (ok:Hp h (dskI d r).F [dskI d r] [bysI E r.fs,rdI F2 E2 (a,l.length,c) l] h) (hk:DkOk r.abs) (hcg:r.chg<1000000000) (hz : -9223372036854775808≤z∧z≤9223372036854775807) :
  HC Tryz.prog 207 #[.pointer (some ⟨d,0,none⟩),.string (BA n),.int .i64 z,.slice a l.length c] h (fun v h'=>∃r' E',v=.int .i64 ((writeN r.abs n z l).2:Int)∧r'.abs=(writeN r.abs n z l).1∧DUp h h' d r r' E E'):=by
 refine HC.go Tryz.func207 34 ?_;refine .seq<|.r<|.z .asI<|.nil ?_;refine .seq<|.seq<|.r<|.z .mvP<|.z .mvT<|.z .mvI<|.a' 13 (.lit [.tmp 12] (cs:=[.int .i64 z]) T.el24 T.sz3 T.zr3 ok ⟨rfl,trivial⟩) ?_;rintro _ η1 ⟨pb1,rfl,ok,xe⟩;refine .k 14 .func (wrong_any (d:=d) (r:=r) (n:=n) (dsk_parts (ok.m1)).1 (a:=some ⟨pb1,0,none⟩) (c:=1) (l:=[z]) (RdL.ofCapI ok.m0))<|.z .asI<|.nil ?_;refine .seq<|.r<|.z .mvI<|.z .neq<|.nil ?_;refine .cd (fun C0=>?_) (fun C0=>?_)
 ·
  refine .seq<|.r<|.z .mvI<|.z .asI<|.nil ?_;refine .ret ⟨.int .i64 (wrongN r.abs n [z]:Int),Res.one rfl rfl,⟨r,E,(by rw [write_w C0]<;>rfl),(by rw [write_w C0]<;>rfl),(ok.n1).k1.up fun _ h=>.inl h⟩⟩
 have hw0:wrongN r.abs n [z]=0:=by omega
 obtain ⟨p,rfl⟩:∃p:Nat,z=(p:Int):=⟨z.toNat,by have:=(wrongN_ok hw0).2.2.1 z (by simp);omega⟩;have ok:=(ok).tM;refine .skip<|.seq<|.seq<|.r<|.z .mvI<|.z .gtr<|.z .mvB<|.sd (fun G20=>?_) (fun G20=>?_)
 ·
  refine .y<|.y<|.y<|.y<|.y<|.z .pkt<|.nil ?_;refine .ct<|.seq<|.r<|.z .asI<|.nil ?_;refine .ret ⟨.int .i64 5,Res.one rfl rfl,⟨r,E,(by rw [write_f hw0 (by omega)]<;>rfl),(by rw [write_f hw0 (by omega)]<;>rfl),(ok).k1.up fun _ h=>.inl h⟩⟩
 refine .z .mvS<|.z (.len T.el44)<|.z .mvI<|.z .sub<|.z .gtr<|.z .pkf<|.nil ?_;refine .cd (fun C1=>?_) (fun C1=>?_)
 ·
  refine .seq<|.r<|.z .asI<|.nil ?_;refine .ret ⟨.int .i64 5,Res.one rfl rfl,⟨r,E,(by rw [write_f hw0 (by omega)]<;>rfl),(by rw [write_f hw0 (by omega)]<;>rfl),(ok).k1.up fun _ h=>.inl h⟩⟩
 refine .skip<|.seq<|.r<|.z .mvP<|.z .mvT<|.z .mvI<|.z .mvS<|?_;have hsy:=ok.chg.size;refine .c' 31 .func (bclone_any (a:=a) (c:=c) (l:=l) ok.r1 (by omega)) ?_;rintro _ η2 own;obtain ⟨ya1,yc1,rfl⟩:=own.formB;have ok:=ok.own own;have hyf:=own.fresh;have ok:=(ok.frzB rfl).f1.f1.byX;refine .z (.bd #[.int .i64 0,.int .i64 (p:Int),.slice ya1 ((l).length) yc1] T.zr158 T.pl158 rfl)<|.c' 33 .func (do_any (d:=d) (r:=r) (E:=fun j=>E j∨blkC (sv (ya1,(l).length,yc1)) j) (n:=n) (kind:=0) (pos:=p) (ba:=ya1) (bc:=yc1) (bl:=l) (ok).loc1 hk hcg ok.r1 ⟨by simp,by simp only;omega⟩) ?_;rintro _ η3 ⟨rdk1,Edk1,rfl,hadk1,updk1⟩;have hszdk1:=ok.chg.size;have ok:=(ok).dsk (d:=d) (r:=r) updk1;refine .z .asI<|.nil ?_;refine .ret ⟨.int .i64 ((doN r.abs n ⟨0,p,l⟩).2:Int),Res.one rfl rfl,⟨rdk1,Edk1,by rw [write_d hw0 (by omega)],by rw [write_d hw0 (by omega)];exact hadk1,(ok).k1.up fun j hj=>(updk1.new j hj).elim (fun h=>h.imp id fun h=>Nat.le_trans hsy (hyf j h)) fun h=>.inr (Nat.le_trans hszdk1 h)⟩⟩
theorem trunc_w {d:Dk} {n:List UInt8} {z:Int} (h:¬(wrongN d n [z]:Int)=0):truncN d n z=(d,wrongN d n [z]):=by unfold truncN;rw [if_pos (by omega)]
theorem trunc_n {d:Dk} {n:List UInt8} {z:Int} (h:wrongN d n [z]=0) (h1:thereN d n=false):truncN d n z=(d,4):=by unfold truncN;rw [if_neg (by omega),if_pos h1]
theorem trunc_f {d:Dk} {n:List UInt8} {z:Int} (h:wrongN d n [z]=0) (h1:thereN d n=true) (h2:16777216<z):truncN d n z=(d,5):=by unfold truncN;rw [if_neg (by omega),if_neg (by rw [h1];decide),if_pos h2]
theorem trunc_d {d:Dk} {n:List UInt8} {p:Nat} (h:wrongN d n [(p:Int)]=0) (h1:thereN d n=true) (h2:¬16777216<(p:Int)):truncN d n (p:Int)=doN d n ⟨1,p,[]⟩:=by unfold truncN;rw [if_neg (by omega),if_neg (by rw [h1];decide),if_neg h2];rfl
theorem rem_w {d:Dk} {n:List UInt8} (h:¬(wrongN d n []:Int)=0):removeN d n=(d,wrongN d n []):=by unfold removeN;rw [if_pos (by omega)]
theorem rem_n {d:Dk} {n:List UInt8} (h:wrongN d n []=0) (h1:thereN d n=false):removeN d n=(d,4):=by unfold removeN;rw [if_neg (by omega),if_pos h1]
theorem rem_d {d:Dk} {n:List UInt8} (h:wrongN d n []=0) (h1:thereN d n=true):removeN d n=doN d n ⟨2,0,[]⟩:=by unfold removeN;rw [if_neg (by omega),if_neg (by rw [h1];decide)]
theorem sync_w {d:Dk} {n:List UInt8} (h:¬(wrongN d n []:Int)=0):syncN d n=(d,wrongN d n []):=by unfold syncN;rw [if_pos (by omega)]
theorem sync_n {d:Dk} {n:List UInt8} (h:wrongN d n []=0) (h1:d.fs n=none):syncN d n=(d,4):=by unfold syncN;rw [if_neg (by omega),h1]
theorem sync_0 {d:Dk} {n:List UInt8} {f:Fl} (h:wrongN d n []=0) (h1:d.fs n=some f) (h2:f.here=false∧f.opn=[]):syncN d n=(d,4):=by unfold syncN;rw [if_neg (by omega),h1];simp only;rw [if_pos h2]
theorem sync_p {d:Dk} {n:List UInt8} {f:Fl} (h:wrongN d n []=0) (h1:d.fs n=some f) (h2:¬(f.here=false∧f.opn=[])) (h3:d.left=0):syncN d n=powerN d:=by unfold syncN;rw [if_neg (by omega),h1];simp only;rw [if_neg h2,if_pos h3]
theorem sync_d {d:Dk} {n:List UInt8} {f:Fl} (h:wrongN d n []=0) (h1:d.fs n=some f) (h2:¬(f.here=false∧f.opn=[])) (h3:¬d.left=0):syncN d n=(⟨put1 d.fs n (settleF f),d.dark,if 0<d.left then d.left-1 else d.left,d.chg+1⟩,0):=by unfold syncN;rw [if_neg (by omega),h1];simp only;rw [if_neg h2,if_neg h3]
theorem trunc_any {h:Heap} {d:Nat} {r:RD} {E:Nat→Prop} {n:List UInt8} {z:Int} (ok:Hp h (dskI d r).F [dskI d r] [bysI E r.fs] h) (hk:DkOk r.abs) (hcg:r.chg<1000000000) (hz : -9223372036854775808≤z∧z≤9223372036854775807) :
  HC Tryz.prog 208 #[.pointer (some ⟨d,0,none⟩),.string (BA n),.int .i64 z] h (fun v h'=>∃r' E',v=.int .i64 ((truncN r.abs n z).2:Int)∧r'.abs=(truncN r.abs n z).1∧DUp h h' d r r' E E'):=by
 refine HC.go Tryz.func208 29 ?_;refine .seq<|.r<|.z .asI<|.nil ?_;refine .seq<|.seq<|.r<|.z .mvP<|.z .mvT<|.z .mvI<|.a' 11 (.lit [.tmp 10] (cs:=[.int .i64 z]) T.el24 T.sz3 T.zr3 ok ⟨rfl,trivial⟩) ?_;rintro _ η1 ⟨pb1,rfl,ok,xe⟩;refine .k 12 .func (wrong_any (d:=d) (r:=r) (n:=n) (dsk_parts (ok.m1)).1 (a:=some ⟨pb1,0,none⟩) (c:=1) (l:=[z]) (RdL.ofCapI ok.m0))<|.z .asI<|.nil ?_;refine .seq<|.r<|.z .mvI<|.z .neq<|.nil ?_;refine .cd (fun C0=>?_) (fun C0=>?_)
 ·
  refine .seq<|.r<|.z .mvI<|.z .asI<|.nil ?_;refine .ret ⟨.int .i64 (wrongN r.abs n [z]:Int),Res.one rfl rfl,⟨r,E,(by rw [trunc_w C0]<;>rfl),(by rw [trunc_w C0]<;>rfl),(ok.n1).k1.up fun _ h=>.inl h⟩⟩
 have hw0:wrongN r.abs n [z]=0:=by omega
 obtain ⟨p,rfl⟩:∃p:Nat,z=(p:Int):=⟨z.toNat,by have:=(wrongN_ok hw0).2.2.1 z (by simp);omega⟩;have ok:=(ok).tM;refine .skip<|.seq<|.block fun K0 hK0=>.seq<|.r<|.z .mvP<|.z .mvT<|.c' 19 .func (there_any (d:=d) (r:=r) (n:=n) (ok.m0)) ?_;rintro _ _ ⟨(⟨hnotf1,rfl⟩ | ⟨tf1,hgtf1,hhtf1,rfl⟩),heq⟩
 ·
  obtain rfl:=heq.symm;refine .z (.pEqN T.pt153)<|.z .asB<|.nil ?_;refine .ct<|.seq<|.r<|.z .asI<|.nil ?_;refine .ret ⟨.int .i64 4,Res.one rfl rfl,⟨r,E,(by rw [trunc_n hw0 hnotf1]<;>rfl),(by rw [trunc_n hw0 hnotf1]<;>rfl),(ok).k1.up fun _ h=>.inl h⟩⟩
 obtain rfl:=heq.symm;refine .z (.pEqS T.pt153)<|.z .asB<|.nil ?_;refine .cf<|.seq<|.r<|.z .mvI<|.z .gtr<|.z .asB<|.nil ?_;refine .cd (fun C2=>?_) (fun C2=>?_)
 ·
  refine .seq<|.r<|.z .asI<|.nil ?_;refine .ret ⟨.int .i64 5,Res.one rfl rfl,⟨r,E,(by rw [trunc_f hw0 (by rw [there_f hgtf1];exact hhtf1) C2]<;>rfl),(by rw [trunc_f hw0 (by rw [there_f hgtf1];exact hhtf1) C2]<;>rfl),(ok).k1.up fun _ h=>.inl h⟩⟩
 refine .skip<|.end<|hK0 _ _<|.seq<|.r<|.z .mvP<|.z .mvT<|.z .mvI<|.z (.bd #[.int .i64 1,.int .i64 (p:Int),.slice none 0 0] T.zr158 T.pl158 rfl)<|.c' 28 .func (do_any (d:=d) (r:=r) (E:=E) (n:=n) (kind:=1) (pos:=p) (ba:=none) (bc:=0) (bl:=([]:List UInt8)) (ok).loc1 hk hcg (RdL.nil _ _ _) ⟨by simp,by simp only [List.length_nil];omega⟩) ?_;rintro _ η2 ⟨rdk1,Edk1,rfl,hadk1,updk1⟩;have hszdk1:=ok.chg.size;have ok:=(ok).dsk (d:=d) (r:=r) updk1;refine .z .asI<|.nil ?_;refine .ret ⟨.int .i64 ((doN r.abs n ⟨1,p,([]:List UInt8)⟩).2:Int),Res.one rfl rfl,⟨rdk1,Edk1,(by rw [trunc_d hw0 (by rw [there_f hgtf1];exact hhtf1) C2]<;>rfl),(by rw [trunc_d hw0 (by rw [there_f hgtf1];exact hhtf1) C2];exact hadk1),(ok).k1.up fun j hj=>(updk1.new j hj).elim .inl fun h=>.inr (Nat.le_trans hszdk1 h)⟩⟩
theorem remove_any {h:Heap} {d:Nat} {r:RD} {E:Nat→Prop} {n:List UInt8} (ok:Hp h (dskI d r).F [dskI d r] [bysI E r.fs] h) (hk:DkOk r.abs) (hcg:r.chg<1000000000) :
  HC Tryz.prog 210 #[.pointer (some ⟨d,0,none⟩),.string (BA n)] h (fun v h'=>∃r' E',v=.int .i64 ((removeN r.abs n).2:Int)∧r'.abs=(removeN r.abs n).1∧DUp h h' d r r' E E'):=by
 refine HC.go Tryz.func210 20 ?_;refine .seq<|.r<|.z .asI<|.nil ?_;refine .seq<|.seq<|.r<|.z .mvP<|.z .mvT<|.k 8 .func (wrong_any (d:=d) (r:=r) (n:=n) (dsk_parts (ok.m0)).1 (a:=none) (c:=0) (l:=([]:List Int)) (RdL.nil _ none_ none_))<|.z .asI<|.nil ?_;refine .seq<|.r<|.z .mvI<|.z .neq<|.nil ?_;refine .cd (fun C0=>?_) (fun C0=>?_)
 ·
  refine .seq<|.r<|.z .mvI<|.z .asI<|.nil ?_;refine .ret ⟨.int .i64 (wrongN r.abs n ([]:List Int):Int),Res.one rfl rfl,⟨r,E,(by rw [rem_w C0]<;>rfl),(by rw [rem_w C0]<;>rfl),(ok).k1.up fun _ h=>.inl h⟩⟩
 have hw0:wrongN r.abs n []=0:=by omega
 refine .skip<|.seq<|.seq<|.r<|.z .mvP<|.z .mvT<|.c' 14 .func (there_any (d:=d) (r:=r) (n:=n) (ok.m0)) ?_;rintro _ _ ⟨(⟨hnotf1,rfl⟩ | ⟨tf1,hgtf1,hhtf1,rfl⟩),heq⟩
 ·
  obtain rfl:=heq.symm;refine .z (.pEqN T.pt153)<|.nil ?_;refine .ct<|.seq<|.r<|.z .asI<|.nil ?_;refine .ret ⟨.int .i64 4,Res.one rfl rfl,⟨r,E,(by rw [rem_n hw0 hnotf1]<;>rfl),(by rw [rem_n hw0 hnotf1]<;>rfl),(ok).k1.up fun _ h=>.inl h⟩⟩
 obtain rfl:=heq.symm;refine .z (.pEqS T.pt153)<|.nil ?_;refine .cf<|.skip<|.seq<|.r<|.z .mvP<|.z .mvT<|.z (.bd #[.int .i64 2,.int .i64 0,.slice none 0 0] T.zr158 T.pl158 rfl)<|.c' 19 .func (do_any (d:=d) (r:=r) (E:=E) (n:=n) (kind:=2) (pos:=0) (ba:=none) (bc:=0) (bl:=([]:List UInt8)) (ok).loc1 hk hcg (RdL.nil _ _ _) ⟨by simp,by simp⟩) ?_;rintro _ η1 ⟨rdk1,Edk1,rfl,hadk1,updk1⟩;have hszdk1:=ok.chg.size;have ok:=(ok).dsk (d:=d) (r:=r) updk1;refine .z .asI<|.nil ?_;refine .ret ⟨.int .i64 ((doN r.abs n ⟨2,0,([]:List UInt8)⟩).2:Int),Res.one rfl rfl,⟨rdk1,Edk1,(by rw [rem_d hw0 (by rw [there_f hgtf1];exact hhtf1)]<;>rfl),(by rw [rem_d hw0 (by rw [there_f hgtf1];exact hhtf1)];exact hadk1),(ok).k1.up fun j hj=>(updk1.new j hj).elim .inl fun h=>.inr (Nat.le_trans hszdk1 h)⟩⟩
theorem sync_any {h:Heap} {d:Nat} {r:RD} {E:Nat→Prop} {n:List UInt8} (ok:Hp h (dskI d r).F [dskI d r] [bysI E r.fs] h) (hk:DkOk r.abs) (hcg:r.chg<1000000000) :
  HC Tryz.prog 209 #[.pointer (some ⟨d,0,none⟩),.string (BA n)] h (fun v h'=>∃r' E',v=.int .i64 ((syncN r.abs n).2:Int)∧r'.abs=(syncN r.abs n).1∧DUp h h' d r r' E E'):=by
 refine HC.go Tryz.func209 46 ?_;refine .seq<|.r<|.z .asI<|.nil ?_;refine .seq<|.seq<|.r<|.z .mvP<|.z .mvT<|.k 10 .func (wrong_any (d:=d) (r:=r) (n:=n) (dsk_parts (ok.m0)).1 (a:=none) (c:=0) (l:=([]:List Int)) (RdL.nil _ none_ none_))<|.z .asI<|.nil ?_;refine .seq<|.r<|.z .mvI<|.z .neq<|.nil ?_;refine .cd (fun C0=>?_) (fun C0=>?_)
 ·
  refine .seq<|.r<|.z .mvI<|.z .asI<|.nil ?_;refine .ret ⟨.int .i64 (wrongN r.abs n ([]:List Int):Int),Res.one rfl rfl,⟨r,E,(by rw [sync_w C0]<;>rfl),(by rw [sync_w C0]<;>rfl),(ok).k1.up fun _ h=>.inl h⟩⟩
 have hw0:wrongN r.abs n []=0:=by omega
 refine .skip<|.seq<|?_;obtain ⟨hd1,hd2,hd3,hd4⟩:=dsk_parts (ok.m0);refine .r<|.z .mvP<|.z .nil<|.z (.fa T.fd137_0)<|.z (.ldx T.ag135 hd1)<|.z .mvT<|.z (.lk KV.ba n (v:=.pointer (ptrN (bget r.fs n))) T.mp135 (stB_iff T.st9) T.zr153 hd2 (by exact ents_getD))<|.z .asP<|.nil ?_;refine .seq<|.seq<|.r<|.z .mvP<|.z (.pEq T.pt153)<|.z .mvB<|.spl (fun G22=>?_) (fun G22=>?_)
 ·
  refine .y<|.y<|.y<|.y<|.y<|.y<|.y<|.y<|.y<|.y<|.y<|.y<|.y<|.z .pkt<|.nil ?_;refine .ct<|.seq<|.r<|.z .asI<|.nil ?_;refine .ret ⟨.int .i64 4,Res.one rfl rfl,⟨r,E,(by rw [sync_n hw0 (by simp only [RD.abs];cases hb:bget r.fs n with | none=>rfl | some x=>(rw [hb] at G22;simp [ptrN] at G22))]<;>rfl),(by rw [sync_n hw0 (by simp only [RD.abs];cases hb:bget r.fs n with | none=>rfl | some x=>(rw [hb] at G22;simp [ptrN] at G22))]<;>rfl),(ok).k1.up fun _ h=>.inl h⟩⟩
 obtain ⟨f,hg⟩:∃f0,bget r.fs n=some f0:=by (cases hb:bget r.fs n with | none=>(rw [hb] at G22;simp [ptrN] at G22) | some x=>exact ⟨x,rfl⟩)
 rw [hg];simp only [ptrN,Option.map_some];have hfb:=hd4 n f hg;refine .z .mvP<|.z .nil<|.z (.fa T.fd156_2)<|.z (.ldx T.ag4 hfb)<|.z .not<|.z .mvB<|.spl (fun G28=>?_) (fun G28=>?_)
 ·
  refine .z .mvP<|.z .nil<|.z (.fa T.fd156_4)<|.z (.ldx T.ag154 hfb)<|.z (.len T.el154)<|.z .eql<|.z .pkt<|.z .pkf<|.nil ?_;refine .cd (fun C1=>?_) (fun C1=>?_)
  ·
   refine .seq<|.r<|.z .asI<|.nil ?_;refine .ret ⟨.int .i64 4,Res.one rfl rfl,⟨r,E,(by rw [sync_0 hw0 (show r.abs.fs n=some f.abs by simp [RD.abs,hg]) ⟨by show f.here=false;simpa using G28,by have h2:f.ol=[]:=List.eq_nil_of_length_eq_zero (by omega);simp [RF.abs,h2]⟩]<;>rfl),(by rw [sync_0 hw0 (show r.abs.fs n=some f.abs by simp [RD.abs,hg]) ⟨by show f.here=false;simpa using G28,by have h2:f.ol=[]:=List.eq_nil_of_length_eq_zero (by omega);simp [RF.abs,h2]⟩]<;>rfl),(ok).k1.up fun _ h=>.inl h⟩⟩
  have hne:¬(f.abs.here=false∧f.abs.opn=[]):=by rintro ⟨_,h1⟩;exact absurd (show f.ol=[] by simpa [RF.abs] using h1) (fun h2=>C1 (by rw [h2];rfl))
  refine .skip<|.seq<|.seq<|.r<|.z .mvP<|.c' 38 .func (power_any (ok).loc0 hk hcg) ?_;rintro _ η1 ⟨rfl,q⟩;have ok:=(ok).lift1 q;refine .z .asI<|.nil ?_;refine .seq<|.r<|.z .mvI<|.z .neq<|.nil ?_;refine .cd (fun C2=>?_) (fun C2=>?_)
  ·
   have hp0:r.left=0:=by by_cases h:r.left=0;exact h;exact absurd (by rw [powerR_1 h];rfl) C2
   refine .seq<|.r<|.z .mvI<|.z .asI<|.nil ?_;refine .ret ⟨.int .i64 ((powerR r).2:Int),Res.one rfl rfl,⟨(powerR r).1,E,(by rw [sync_p hw0 (show r.abs.fs n=some f.abs by simp [RD.abs,hg]) hne hp0,(powerR_abs r).2]),(by rw [sync_p hw0 (show r.abs.fs n=some f.abs by simp [RD.abs,hg]) hne hp0,(powerR_abs r).1]),(by rw [powerR_fs];exact ok.k1:Hp _ _ [dskI d (powerR r).1] [bysI E (powerR r).1.fs] _).up fun _ h=>.inl h⟩⟩
  have hpl:¬r.left=0:=fun h=>by rw [powerR_0 h] at C2;exact C2 (by simp)
  have ok:=ok;rw [powerR_1 hpl] at ok;refine .skip<|.seq<|.r<|.z .mvP<|.z .mvT<|.z .mvP<|.c' 45 .func (settle_any (d:=d) (r:=⟨r.m,r.fs,r.dark,lfR r,r.chg+1⟩) (E:=E) (f:=f) (ok).loc1 hg) ?_;rintro _ η2 ⟨rfl,q⟩;have ok:=(ok).dsk (d:=d) (r:=⟨r.m,r.fs,r.dark,lfR r,r.chg+1⟩) (r':=(settleR ⟨r.m,r.fs,r.dark,lfR r,r.chg+1⟩ n f)) (E':=E) ⟨q,fun _ h=>.inl h⟩;refine .nil ?_;refine .seq<|.r<|.z .asI<|.nil ?_;refine .ret ⟨.int .i64 0,Res.one rfl rfl,⟨settleR ⟨r.m,r.fs,r.dark,lfR r,r.chg+1⟩ n f,E,(by rw [sync_d hw0 (show r.abs.fs n=some f.abs by simp [RD.abs,hg]) hne (by exact hpl)];rfl),(by rw [sync_d hw0 (show r.abs.fs n=some f.abs by simp [RD.abs,hg]) hne (by exact hpl),settleR_abs];rfl),ok.k1.up fun _ h=>.inl h⟩⟩
 have hne:¬(f.abs.here=false∧f.abs.opn=[]):=by rintro ⟨h1,_⟩;have h2:f.here=false:=h1;rw [h2] at G28;cases G28
 refine .y<|.y<|.y<|.y<|.y<|.y<|.z .pkf<|.z .pkf<|.nil ?_;refine .cf<|.skip<|.seq<|.seq<|.r<|.z .mvP<|.c' 38 .func (power_any (ok).loc0 hk hcg) ?_;rintro _ η3 ⟨rfl,q⟩;have ok:=(ok).lift1 q;refine .z .asI<|.nil ?_;refine .seq<|.r<|.z .mvI<|.z .neq<|.nil ?_;refine .cd (fun C2=>?_) (fun C2=>?_)
 ·
  have hp0:r.left=0:=by by_cases h:r.left=0;exact h;exact absurd (by rw [powerR_1 h];rfl) C2
  refine .seq<|.r<|.z .mvI<|.z .asI<|.nil ?_;refine .ret ⟨.int .i64 ((powerR r).2:Int),Res.one rfl rfl,⟨(powerR r).1,E,(by rw [sync_p hw0 (show r.abs.fs n=some f.abs by simp [RD.abs,hg]) hne hp0,(powerR_abs r).2]),(by rw [sync_p hw0 (show r.abs.fs n=some f.abs by simp [RD.abs,hg]) hne hp0,(powerR_abs r).1]),(by rw [powerR_fs];exact ok.k1:Hp _ _ [dskI d (powerR r).1] [bysI E (powerR r).1.fs] _).up fun _ h=>.inl h⟩⟩
 have hpl:¬r.left=0:=fun h=>by rw [powerR_0 h] at C2;exact C2 (by simp)
 have ok:=ok;rw [powerR_1 hpl] at ok;refine .skip<|.seq<|.r<|.z .mvP<|.z .mvT<|.z .mvP<|.c' 45 .func (settle_any (d:=d) (r:=⟨r.m,r.fs,r.dark,lfR r,r.chg+1⟩) (E:=E) (f:=f) (ok).loc1 hg) ?_;rintro _ η4 ⟨rfl,q⟩;have ok:=(ok).dsk (d:=d) (r:=⟨r.m,r.fs,r.dark,lfR r,r.chg+1⟩) (r':=(settleR ⟨r.m,r.fs,r.dark,lfR r,r.chg+1⟩ n f)) (E':=E) ⟨q,fun _ h=>.inl h⟩;refine .nil ?_;refine .seq<|.r<|.z .asI<|.nil ?_;refine .ret ⟨.int .i64 0,Res.one rfl rfl,⟨settleR ⟨r.m,r.fs,r.dark,lfR r,r.chg+1⟩ n f,E,(by rw [sync_d hw0 (show r.abs.fs n=some f.abs by simp [RD.abs,hg]) hne (by exact hpl)];rfl),(by rw [sync_d hw0 (show r.abs.fs n=some f.abs by simp [RD.abs,hg]) hne (by exact hpl),settleR_abs];rfl),ok.k1.up fun _ h=>.inl h⟩⟩
theorem take_min {α:Type} (l:List α) (q:Nat):l.take (min q l.length)=l.take q:=by
 rw [List.take_eq_take_iff];omega
theorem size_0 {r:RD} {n:List UInt8} (h:r.dark=true∨thereN r.abs n=false):sizeN r.abs n=(0,false):=by unfold sizeN;rw [if_pos (by exact h)]
theorem size_1 {r:RD} {n:List UInt8} {f:RF} (h:¬r.dark=true) (hg:bget r.fs n=some f) (hh:f.here=true):sizeN r.abs n=(f.nl.length,true):=by
 unfold sizeN;rw [if_neg]
 ·simp [RD.abs,hg,RF.abs]
 ·rintro (h1 | h1)
  ·exact h h1
  ·rw [there_f hg,hh] at h1;cases h1
theorem read_w {d:Dk} {n:List UInt8} {y z:Int} (h:¬(wrongN d n [y,z]:Int)=0):readN d n y z=([],wrongN d n [y,z]):=by unfold readN;rw [if_pos (by omega)]
theorem read_n {r:RD} {n:List UInt8} {y z:Int} (h:wrongN r.abs n [y,z]=0) (h1:thereN r.abs n=false):readN r.abs n y z=([],4):=by
 unfold readN thereN at *;rw [if_neg (by omega)];cases hf:r.abs.fs n with
 | none=>rfl
 | some f=>rw [hf] at h1;simp only at h1⊢;rw [if_pos h1]
theorem read_f {r:RD} {n:List UInt8} {p q:Nat} {f:RF} (h:wrongN r.abs n [(p:Int),(q:Int)]=0) (hg:bget r.fs n=some f) (hh:f.here=true):readN r.abs n p q=((f.nl.drop p).take q,0):=by
 unfold readN;rw [if_neg (by omega)];simp only [RD.abs,hg,Option.map_some];rw [if_neg (by show ¬f.here=false;rw [hh];decide)];rfl
theorem flsNil {h0 h:Heap} {D:Nat→Prop} {M R:List Itm} (ok:Hp h0 D M R h):Hp h0 D (flsI []::M) R h:=Hp.star (l:=[]) ok
theorem size_anyD {h:Heap} {d:Nat} {r:RD} (hd:(dskI d r).p h) {n:List UInt8} :
  HC Tryz.prog 136 #[.pointer (some ⟨d,0,none⟩),.string (BA n)] h (fun v h'=>v=.tuple #[.int .i64 ((sizeN r.abs n).1:Int),.bool (sizeN r.abs n).2]∧h'=h):=by
 obtain ⟨hd1,hd2,hd3,hd4⟩:=dsk_parts hd;refine HC.go Tryz.func136 30 ?_;refine .seq<|.r<|.z .asI<|.z .asB<|.nil ?_;refine .seq<|.seq<|.r<|.z .mvP<|.z (.pEqS T.pt63)<|.z .mvB<|.z .mvP<|.z .nil<|.z (.fa T.fd137_1)<|.z (.ldx T.ag4 hd1)<|.z .pkf<|.z .mvB<|.spl (fun G14=>?_) (fun G14=>?_)
 ·
  refine .y<|.y<|.y<|.y<|.z .pkt<|.nil ?_;refine .ct<|.seq<|.r<|.z .asI<|.z .asB<|.nil ?_;refine .ret ⟨.tuple #[.int .i64 0,.bool false],Res.two rfl rfl rfl,⟨by first | rw [size_0 (.inl (by assumption))];rfl | rw [size_0 (.inr hnotf1)];rfl,rfl⟩⟩
 refine .z .mvP<|.z .mvT<|.c' 17 .func (there_any (d:=d) (r:=r) (n:=n) hd) ?_;rintro _ _ ⟨(⟨hnotf1,rfl⟩ | ⟨tf1,hgtf1,hhtf1,rfl⟩),heq⟩
 ·
  obtain rfl:=heq.symm;refine .z (.pEqN T.pt153)<|.z .pkf<|.nil ?_;refine .ct<|.seq<|.r<|.z .asI<|.z .asB<|.nil ?_;refine .ret ⟨.tuple #[.int .i64 0,.bool false],Res.two rfl rfl rfl,⟨by first | rw [size_0 (.inl (by assumption))];rfl | rw [size_0 (.inr hnotf1)];rfl,rfl⟩⟩
 obtain rfl:=heq.symm;refine .z (.pEqS T.pt153)<|.z .pkf<|.nil ?_;refine .cf<|.skip<|.seq<|?_;have hfb:=hd4 n tf1 hgtf1;refine .r<|.z .mvP<|.z .nil<|.z (.fa T.fd137_0)<|.z (.ldx T.ag135 hd1)<|.z .mvT<|.z (.lk KV.ba n (v:=.pointer (some ⟨tf1.blk,0,none⟩)) T.mp135 (stB_iff T.st9) T.zr153 hd2 (by rw [ents_get,hgtf1];rfl))<|.z .nil<|.z (.fa T.fd156_0)<|.z (.ldx T.ag44 hfb)<|.z (.len T.el44)<|.z .asI<|.z .asB<|.nil ?_;refine .ret ⟨.tuple #[.int .i64 (tf1.nl.length:Int),.bool true],Res.two rfl rfl rfl,⟨by rw [size_1 (by intro h9;simp [h9] at *) hgtf1 hhtf1],rfl⟩⟩
theorem read_anyD {h:Heap} {d:Nat} {r:RD} {E:Nat→Prop} {n:List UInt8} {y z:Int} (ok:Hp h none_ [] [dskI d r,bysI E r.fs] h) (hk:DkOk r.abs) (hy : -9223372036854775808≤y∧y≤9223372036854775807) (hz : -9223372036854775808≤z∧z≤9223372036854775807) :
  HC Tryz.prog 180 #[.pointer (some ⟨d,0,none⟩),.string (BA n),.int .i64 y,.int .i64 z] h (fun v h'=>∃w,v=.tuple #[w,.int .i64 ((readN r.abs n y z).2:Int)]∧Own h h' 1 5 w ((readN r.abs n y z).1.map bv)):=by
 refine HC.go Tryz.func180 53 ?_;refine .seq<|.r<|.z .asS<|.z .asI<|.nil ?_;refine .seq<|.seq<|.r<|.z .mvP<|.z .mvT<|.z .mvI<|.z .mvI<|.a' 16 (.lit [.tmp 14,.tmp 15] (cs:=[.int .i64 y,.int .i64 z]) T.el24 T.sz3 T.zr3 ok ⟨rfl,rfl,trivial⟩) ?_;rintro _ η1 ⟨pb1,rfl,ok,xe⟩;refine .k 17 .func (wrong_any (d:=d) (r:=r) (n:=n) (dsk_parts (ok.r0)).1 (a:=some ⟨pb1,0,none⟩) (c:=2) (l:=[y,z]) (RdL.ofCapI ok.m0))<|.z .asI<|.nil ?_;refine .seq<|.r<|.z .mvI<|.z .neq<|.nil ?_;refine .cd (fun C0=>?_) (fun C0=>?_)
 ·
  refine .seq<|.r<|.z .mvI<|.z .asS<|.z .asI<|.nil ?_;refine .ret ⟨.tuple #[.slice none 0 0,.int .i64 (wrongN r.abs n [y,z]:Int)],Res.two rfl rfl rfl,⟨_,(by rw [read_w C0]<;>rfl),by rw [read_w C0];exact (ok.nilC (k:=1) (e:=5)).toOwn⟩⟩
 have hw0:wrongN r.abs n [y,z]=0:=by omega
 obtain ⟨p,rfl⟩:∃p:Nat,y=(p:Int):=⟨y.toNat,by have:=(wrongN_ok hw0).2.2.1 y (by simp);omega⟩;obtain ⟨q,rfl⟩:∃q:Nat,z=(q:Int):=⟨z.toNat,by have:=(wrongN_ok hw0).2.2.1 z (by simp);omega⟩;have ok:=(ok).tM;refine .skip<|.seq<|.r<|.z .mvP<|.z .mvT<|.c' 23 .func (there_any (d:=d) (r:=r) (n:=n) (ok.r0)) ?_;rintro _ _ ⟨(⟨hnotf1,rfl⟩ | ⟨tf1,hgtf1,hhtf1,rfl⟩),heq⟩
 ·
  obtain rfl:=heq.symm;refine .z .asP<|.nil ?_;refine .seq<|.block fun K0 hK0=>.seq<|.r<|.z .mvP<|.z (.pEqN T.pt153)<|.z .asB<|.nil ?_;refine .ct<|.seq<|.r<|.z .asS<|.z .asI<|.nil ?_;refine .ret ⟨.tuple #[.slice none 0 0,.int .i64 4],Res.two rfl rfl rfl,⟨_,(by rw [read_n hw0 hnotf1]<;>rfl),by rw [read_n hw0 hnotf1];exact (ok.nilC (k:=1) (e:=5)).toOwn⟩⟩
 obtain rfl:=heq.symm;refine .z .asP<|.nil ?_;refine .seq<|.block fun K0 hK0=>.seq<|?_;obtain ⟨hd1,hd2,hd3,hd4⟩:=dsk_parts (ok.r0);have hfb:=hd4 n tf1 hgtf1;have hnl:tf1.nl.length≤16777216:=(hk.fs n tf1.abs (by simp [RD.abs,hgtf1])).1.now;have ok:=ok.d1 (rdI E E (tf1.na,tf1.nl.length,tf1.nc) tf1.nl) (Bys.get ok.r1 hgtf1).now (fun _ h=>h.elim id id);have hnc:tf1.nl.length≤tf1.nc:=ok.r0.c;refine .r<|.z .mvP<|.z (.pEqS T.pt153)<|.z .asB<|.nil ?_;refine .cf<|.seq<|.r<|.z .mvI<|.z .mvP<|.z .nil<|.z (.fa T.fd156_0)<|.z (.ldx T.ag44 hfb)<|.z (.len T.el44)<|.z .geq<|.z .asB<|.nil ?_;refine .cd (fun C2=>?_) (fun C2=>?_)
 ·
  refine .seq<|.r<|.z .asS<|.z .asI<|.nil ?_;refine .ret ⟨.tuple #[.slice none 0 0,.int .i64 0],Res.two rfl rfl rfl,⟨_,(by rw [show readN r.abs n p q=([],0) from by rw [read_f hw0 hgtf1 hhtf1,List.drop_eq_nil_of_le (by omega),List.take_nil]]<;>rfl),by rw [show readN r.abs n p q=([],0) from by rw [read_f hw0 hgtf1 hhtf1,List.drop_eq_nil_of_le (by omega),List.take_nil]];exact (ok.nilC (k:=1) (e:=5)).toOwn⟩⟩
 refine .skip<|.end<|hK0 _ _<|.seq<|.t 17 mixed ?_;simp only [List.take_succ_cons,List.take_zero,List.drop_succ_cons,List.drop_zero];refine .z .mvP<|.z .nil<|.z (.fa T.fd156_0)<|.z (.ldx T.ag44 hfb)<|.z .mvI<|.z .mvI<|.z .mvI<|.z .mvP<|.z .nil<|.z (.fa T.fd156_0)<|.z (.ldx T.ag44 hfb)<|.z (.len T.el44)<|.z .mvI<|.z .sub<|.z .min2<|.z .add<|?_;rw [show ((p:Int)+(min (q:Int) ((tf1.nl.length:Int)-(p:Int))))=(((p+min q (tf1.nl.length-p)):Nat):Int) from by omega];refine .z (.slh p (p+min q (tf1.nl.length-p)) T.el44 T.sz5)<|?_;generalize hc1:cutA tf1.na p tf1.nc 1=ca1;generalize hn1:(p+min q (tf1.nl.length-p))-p=cn1;obtain rfl:cn1=((tf1.nl.drop p).take q).length:=by rw [←hn1];rw [List.length_take,List.length_drop];omega
 have ok:=ok.d0 (rdI E E (ca1,((tf1.nl.drop p).take q).length,tf1.nc-p) ((tf1.nl.drop p).take q)) (by have h1:=ok.r0.cut (i:=p) (j:=(p+min q (tf1.nl.length-p))) (by omega) (by omega);rw [show ((tf1.nl).drop p).take ((p+min q (tf1.nl.length-p))-p)=(tf1.nl.drop p).take q from by rw [Nat.add_sub_cancel_left,←List.length_drop,take_min]] at h1;rw [←hc1,←hn1];exact h1) (fun _ h=>h);refine .nil ?_;refine .c' 52 .func (bclone_any (a:=ca1) (c:=tf1.nc-p) (l:=(tf1.nl.drop p).take q) ok.r0 (by simp;omega)) ?_;rintro _ η2 own;obtain ⟨ya1,yc1,rfl⟩:=own.formB;have ok:=ok.own own;refine .z .asS<|.z .asI<|.nil ?_;refine .ret ⟨.tuple #[.slice ya1 (((tf1.nl.drop p).take q).length) yc1,.int .i64 0],Res.two rfl rfl rfl,⟨_,(by rw [read_f hw0 hgtf1 hhtf1]<;>rfl),by rw [read_f hw0 hgtf1 hhtf1];exact (ok).toOwn⟩⟩
theorem dark_any {h:Heap} {d:Nat} {r:RD} (hd:(dboxI d r).p h) :
  HC Tryz.prog 135 #[.pointer (some ⟨d,0,none⟩)] h (fun v h'=>v=.bool r.dark∧h'=h):=by
 have hd1:=hd;refine HC.go Tryz.func135 11 ?_;refine .seq<|.r<|.z .asB<|.nil ?_;refine .seq<|.r<|.z .mvP<|.z (.pNeS T.pt63)<|.z .mvB<|.z .mvP<|.z .nil<|.z (.fa T.fd137_1)<|.z (.ldx T.ag4 hd1)<|.z .pkt<|.z .asB<|.nil ?_;refine .ret ⟨.bool r.dark,Res.one rfl rfl,⟨rfl,rfl⟩⟩
theorem changes_any {h:Heap} {d:Nat} {r:RD} (hd:(dboxI d r).p h) :
  HC Tryz.prog 268 #[.pointer (some ⟨d,0,none⟩)] h (fun v h'=>v=.int .i64 r.chg∧h'=h):=by
 have hd1:=hd;refine HC.go Tryz.func268 9 ?_;refine .seq<|.r<|.z .asI<|.nil ?_;refine .seq<|.seq<|.r<|.z .mvP<|.z (.pEqS T.pt63)<|.nil ?_;refine .cf<|.skip<|.seq<|.r<|.z .mvP<|.z .nil<|.z (.fa T.fd137_3)<|.z (.ldx T.ag3 hd1)<|.z .asI<|.nil ?_;refine .ret ⟨.int .i64 r.chg,Res.one rfl rfl,⟨rfl,rfl⟩⟩
theorem new_any {h:Heap} :
  HC Tryz.prog 35 #[] h (fun v h'=>∃d r,v=.pointer (some ⟨d,0,none⟩)∧r.abs=newN∧Hp h none_ [dskI d r] [bysI none_ r.fs] h'):=by
 have ok:=Hp.nil h none_;refine HC.go Tryz.func35 4 ?_;refine .seq<|.r<|.z .asP<|.nil ?_;refine .seq<|.r<|.a' 1 (.mkm kvB ok) ?_;rintro _ η1 ⟨mb1,rfl,ok⟩;refine .z (.bd #[.map (some mb1),.bool false,.int .i64 (-1),.int .i64 0] T.zr137 T.pl137 rfl)<|.a' 3 (.bxA (cs:=[.map (some mb1),.bool false,.int .i64 (-1),.int .i64 0]) ok) ?_;rintro _ η2 ⟨pb1,rfl,ok,xe⟩;refine .z .asP<|.nil ?_;refine .ret ⟨.pointer (some ⟨pb1,0,none⟩),Res.one rfl rfl,⟨pb1,⟨mb1,[],false,-1,0⟩,rfl,rfl,((Hp.dcls (r:=⟨mb1,[],false,-1,0⟩) (flsNil ok).n2.n2).dE (bysI none_ []) (fun _ h=>by cases h) (fun _ f=>f))⟩⟩
theorem iv_one (x:Int):∀u∈[iv x],u.oneCell'=true:=by
 intro u hu;simp at hu;subst hu;rfl
structure CFr where
 page:Int
 commit:Int
 b:SV
@[reducible] def fr (f:CFr):List Value:=[.int .i64 f.page,.int .i64 f.commit,sv f.b]
theorem fr_len (f:CFr):(fr f).length=3:=rfl
theorem fr_one (f:CFr):∀u∈fr f,u.oneCell'=true:=by
 intro u hu;simp [fr] at hu;rcases hu with rfl | rfl | rfl<;>rfl
structure AFr where
 page:Int
 commit:Int
 b:List UInt8
 deriving DecidableEq
def ixOf (v:Int):List Int→Int
 | []=>-1
 | x::l=>if x=v then 0 else (if ixOf v l<0 then -1 else ixOf v l+1)
theorem ixOf_none {v:Int} : ∀ {l:List Int},v∉l→ixOf v l = -1
 | [],_=>rfl
 | x::l,h=>by
  simp only [List.mem_cons,not_or] at h;unfold ixOf;rw [if_neg (fun e=>h.1 e.symm),ixOf_none h.2];rfl
theorem ixOf_some {v:Int} : ∀ {l:List Int} {k:Nat} (hk:k<l.length),v∉l.take k→l[k]=v→ixOf v l=k
 | x::l,0,_,_,h=>by simp at h;simp [ixOf,h]
 | x::l,k+1,hk,ha,h=>by
  simp only [List.take_succ_cons,List.mem_cons,not_or] at ha;have:=ixOf_some (l:=l) (k:=k) (by simpa using hk) ha.2 (by simpa using h);unfold ixOf;rw [if_neg (fun e=>ha.1 e.symm),this,if_neg (by omega)];omega
theorem zc_int {n:Nat} : ∀u∈(Builtin.zeroCells (Value.cells (.int .i64 0)) n).toList,u=.int .i64 0:=by
 intro u hu;simp [Builtin.zeroCells,Value.cells] at hu;obtain ⟨i,_,hi⟩:=hu;rw [←hi];simp [Nat.mod_one]
theorem iv_ones (l:List Int):∀u∈l.map iv,u.oneCell'=true:=by
 intro u hu;obtain ⟨x,_,rfl⟩:=List.mem_map.1 hu;rfl
theorem bv_ones (l:List UInt8):∀u∈l.map bv,u.oneCell'=true:=by
 intro u hu;obtain ⟨x,_,rfl⟩:=List.mem_map.1 hu;rfl
theorem index_any {h:Heap} {a:Option Addr} {n c:Nat} {v:Int} {l:List Int} (hl:Sl h 1 (.slice a n c) (l.map iv)) :
  HC Tryz.prog 130 #[.slice a n c,.int .i64 v] h (fun r h'=>r=.int .i64 (ixOf v l)∧h'=h):=by
 have hra:=hl.cells;have hcm:=hl.bd;have hla:l.length=n:=by simpa using hra.len
 refine HC.body Tryz.func130 rfl (by kernel_rfl) 19 rfl rfl ?_;refine HW.seq fun K1 hK1=>?_;refine HW.region ?_;refine HO.v (V.asI rfl) rfl 4 rfl rfl ?_;refine HO.nil ?_;refine hK1 _ _ ?_;refine HW.seq fun K2 hK2=>?_;refine HW.seq fun K3 hK3=>?_;refine HW.region ?_;refine HO.v (V.mvS rfl) rfl 6 rfl rfl ?_;refine HO.v (V.len rfl T.el24) rfl 7 rfl rfl ?_;refine HO.v (V.mvI rfl) rfl 8 rfl rfl ?_;refine HO.nil ?_;refine hK3 _ _ ?_;refine HW.block ?_;refine HW.loopm (fun m s hh=>∃k:Nat,Has s [(0,.slice a n c),(1,.int .i64 v),(7,.int .i64 n),(8,.int .i64 k)]∧hh=h∧k≤n∧m=n-k∧v∉l.take k) ?_ ?_
 ·exact ⟨_,0,⟨rfl,rfl,rfl,rfl,trivial⟩,rfl,Nat.zero_le _,rfl,by simp⟩
 rintro m s hh ⟨k,hs,rfl,hk,rfl,hp⟩ J4 hJ4;refine HW.frame hs fun τ=>?_;refine HW.seq fun K5 hK5=>?_;refine HW.region ?_;refine HO.v (V.lss rfl rfl rfl) rfl 9 rfl rfl ?_;refine HO.nil ?_;refine hK5 _ _ ?_;refine HW.seq fun K6 hK6=>?_;refine HW.condr rfl (fun hc=>?_) (fun hc=>?_)
 ·
  have hkn:=of_decide_eq_false hc;refine HW.exit ?_;have hkn:=of_decide_eq_false hc;refine hK2 _ _ ?_;refine HW.seq fun K7 hK7=>?_;refine HW.region ?_;refine HO.v (V.asI rfl) rfl 4 rfl rfl ?_;refine HO.nil ?_;refine hK7 _ _ ?_;refine HW.ret ?_;refine ⟨.int .i64 (-1),Res.one rfl rfl,(by have h1:k=n:=(by omega);rw [h1,List.take_of_length_le (by omega)] at hp;rw [ixOf_none hp]),rfl⟩
 refine HW.skip ?_;refine hK6 _ _ ?_;refine HW.seq fun K8 hK8=>?_;have hkn:=of_decide_eq_true hc;have hkl:k<l.length:=by omega
 obtain ⟨b,o,rfl,hcell⟩:=hra.pos (by omega);refine HW.block ?_;refine HW.seq fun K9 hK9=>?_;refine HW.region ?_;refine HO.v (V.mvI rfl) rfl 10 rfl rfl ?_;refine HO.v (V.asI rfl) rfl 5 rfl rfl ?_;refine HO.nil ?_;refine hK9 _ _ ?_;refine HW.seq fun K10 hK10=>?_;refine HW.region ?_;refine HO.v (V.mvI rfl) rfl 11 rfl rfl ?_;refine HO.v (V.mvS rfl) rfl 12 rfl rfl ?_;refine HO.v (V.mvI rfl) rfl 13 rfl rfl ?_;refine HO.v (V.indexAddr1 rfl rfl T.el24 T.sz3 (by omega)) rfl 14 rfl rfl ?_;refine HO.v (V.load rfl (load_one T.ag3 (v:=iv l[k]) (hcell _ _ (map_at (by omega))))) rfl 15 rfl rfl ?_;refine HO.v (V.eql rfl rfl rfl) rfl 16 rfl rfl ?_;refine HO.nil ?_;refine hK10 _ _ ?_;refine HW.cond rfl (fun hc=>?_) (fun hc=>?_)
 ·
  refine HW.seq fun K11 hK11=>?_;refine HW.region ?_;refine HO.v (V.mvI rfl) rfl 17 rfl rfl ?_;refine HO.v (V.asI rfl) rfl 4 rfl rfl ?_;refine HO.nil ?_;refine hK11 _ _ ?_;refine HW.ret ?_;refine ⟨.int .i64 k,Res.one rfl rfl,(by rw [ixOf_some (k:=k) (by omega) hp (of_decide_eq_true hc).symm]),rfl⟩
 refine HW.skip ?_;refine hK8 _ _ ?_;refine HW.region ?_;refine HO.v (V.add rfl rfl (by omega)) rfl 18 rfl rfl ?_;refine HO.v (V.mvI rfl) rfl 8 rfl rfl ?_;refine HO.nil ?_;refine hJ4 _ _ _ ⟨k+1,⟨rfl,rfl,rfl,rfl,trivial⟩,rfl,by omega,rfl,(by rw [take_next (by omega)];have:=of_decide_eq_false hc;simp only [List.mem_append,List.mem_singleton,not_or];exact ⟨hp,this⟩)⟩ (by omega)
theorem cloneI_any {h:Heap} {a:Option Addr} {n c:Nat} {l:List Int} (hl:Sl h 1 (.slice a n c) (l.map iv)) (hN:l.length≤1000000000000) :
  HC Tryz.prog 289 #[.slice a n c] h (fun r h'=>Own h h' 1 3 r (l.map iv)):=by
 have hra:=hl.cells;have hla:l.length=n:=by simpa using hra.len
 have hown:Own h (h.push (.cells #[] 3 (0,0))) 1 3 (.slice (some ⟨h.size,0,none⟩) 0 0) []:=Own.new (cs:=#[]) (Ext.refl h) rfl (by omega);refine HC.body Tryz.func289 rfl (by kernel_rfl) 8 rfl rfl ?_;refine HW.seq fun K1 hK1=>?_;refine HW.region ?_;refine HO.v (V.asS rfl) rfl 2 rfl rfl ?_;refine HO.nil ?_;refine hK1 _ _ ?_;refine HW.seq fun K2 hK2=>?_;refine HW.seq fun K3 hK3=>?_;refine HW.region ?_;refine HO.v (V.mvS rfl) rfl 3 rfl rfl ?_;refine HO.v (V.slEqNil rfl rfl T.el24) rfl 4 rfl rfl ?_;refine HO.nil ?_;refine hK3 _ _ ?_;refine HW.cond rfl (fun hc=>?_) (fun hc=>?_)
 ·
  refine HW.seq fun K4 hK4=>?_;refine HW.region ?_;refine HO.v (V.asS rfl) rfl 2 rfl rfl ?_;refine HO.nil ?_;refine hK4 _ _ ?_;refine HW.ret ?_;refine ⟨.slice none 0 0,Res.one rfl rfl,(by cases a with | none=>(have:n=0:=(by cases Nat.eq_zero_or_pos n with | inl e=>exact e | inr e=>(obtain ⟨b,o,hb,_⟩:=hra.pos e;cases hb));have:l=[]:=List.eq_nil_of_length_eq_zero (by omega);subst this;exact Own.nil (Ext.refl h) _ _) | some _=>cases hc)⟩
 refine HW.skip ?_;refine hK2 _ _ ?_;refine HW.seq fun K5 hK5=>?_;refine HW.region ?_;refine HO.e (V.buildSlice [] (cs:=#[]) T.el24 T.sz3 T.zr3 rfl rfl rfl trivial rfl) rfl 5 rfl rfl ?_;refine HO.v (V.mvS rfl) rfl 6 rfl rfl ?_;refine HO.a (V.append rfl rfl T.el24 T.sz3 T.by3 T.zr3 rfl hown.cap (hl.ext (Ext.push _ _)) (iv_ones l) (by simp;omega)) rfl 7 rfl rfl ?_;rintro _ _ hap;obtain ⟨ov,rfl⟩:=hap.cap.form;refine HO.v (V.asS rfl) rfl 2 rfl rfl ?_;refine HO.nil ?_;refine hK5 _ _ ?_;refine HW.ret ?_;refine ⟨sv ov,Res.one rfl rfl,(by have:=hown.app hap;simpa using this)⟩
theorem cloneB_any {h:Heap} {a:Option Addr} {n c:Nat} {l:List UInt8} (hl:Sl h 1 (.slice a n c) (l.map bv)) (hN:l.length≤1000000000000) :
  HC Tryz.prog 84 #[.slice a n c] h (fun r h'=>Own h h' 1 5 r (l.map bv)):=by
 have hra:=hl.cells;have hla:l.length=n:=by simpa using hra.len
 have hown:Own h (h.push (.cells #[] 5 (0,0))) 1 5 (.slice (some ⟨h.size,0,none⟩) 0 0) []:=Own.new (cs:=#[]) (Ext.refl h) rfl (by omega);refine HC.body Tryz.func84 rfl (by kernel_rfl) 8 rfl rfl ?_;refine HW.seq fun K1 hK1=>?_;refine HW.region ?_;refine HO.v (V.asS rfl) rfl 2 rfl rfl ?_;refine HO.nil ?_;refine hK1 _ _ ?_;refine HW.seq fun K2 hK2=>?_;refine HW.seq fun K3 hK3=>?_;refine HW.region ?_;refine HO.v (V.mvS rfl) rfl 3 rfl rfl ?_;refine HO.v (V.slEqNil rfl rfl T.el44) rfl 4 rfl rfl ?_;refine HO.nil ?_;refine hK3 _ _ ?_;refine HW.cond rfl (fun hc=>?_) (fun hc=>?_)
 ·
  refine HW.seq fun K4 hK4=>?_;refine HW.region ?_;refine HO.v (V.asS rfl) rfl 2 rfl rfl ?_;refine HO.nil ?_;refine hK4 _ _ ?_;refine HW.ret ?_;refine ⟨.slice none 0 0,Res.one rfl rfl,(by cases a with | none=>(have:n=0:=(by cases Nat.eq_zero_or_pos n with | inl e=>exact e | inr e=>(obtain ⟨b,o,hb,_⟩:=hra.pos e;cases hb));have:l=[]:=List.eq_nil_of_length_eq_zero (by omega);subst this;exact Own.nil (Ext.refl h) _ _) | some _=>cases hc)⟩
 refine HW.skip ?_;refine hK2 _ _ ?_;refine HW.seq fun K5 hK5=>?_;refine HW.region ?_;refine HO.e (V.buildSlice [] (cs:=#[]) T.el44 T.sz5 T.zr5 rfl rfl rfl trivial rfl) rfl 5 rfl rfl ?_;refine HO.v (V.mvS rfl) rfl 6 rfl rfl ?_;refine HO.a (V.append rfl rfl T.el44 T.sz5 T.by5 T.zr5 rfl hown.cap (hl.ext (Ext.push _ _)) (bv_ones l) (by simp;omega)) rfl 7 rfl rfl ?_;rintro _ _ hap;obtain ⟨ov,rfl⟩:=hap.cap.form;refine HO.v (V.asS rfl) rfl 2 rfl rfl ?_;refine HO.nil ?_;refine hK5 _ _ ?_;refine HW.ret ?_;refine ⟨sv ov,Res.one rfl rfl,(by have:=hown.app hap;simpa using this)⟩
theorem delete_any {h:Heap} {a:Option Addr} {n c i j:Nat} {l:List Int} (hcap:Cap h 1 3 (.slice a n c) (l.map iv)) (hij:i≤j) (hj:j≤n) (hN:l.length≤1000000000000) :
  HC Tryz.prog 293 #[.slice a n c,.int .i64 i,.int .i64 j] h (fun r h'=>r=.slice a (n-(j-i)) c∧Cap h' 1 3 (.slice a (n-(j-i)) c) ((l.take i++l.drop j).map iv)∧Chg (blkC (.slice a n c)) h h'):=by
 have hsl:=hcap.sl;have hra:=hsl.cells;have hcm:=hsl.bd;have hla:l.length=n:=by simpa using hra.len
 have hnc:n≤c:=hcap.le;refine HC.body Tryz.func293 rfl (by kernel_rfl) 33 rfl rfl ?_;refine HW.seq fun K1 hK1=>?_;refine HW.region ?_;refine HO.v (V.asS rfl) rfl 6 rfl rfl ?_;refine HO.nil ?_;refine hK1 _ _ ?_;refine HW.seq fun K2 hK2=>?_;refine HW.region ?_;refine HO.v (V.mvS rfl) rfl 8 rfl rfl ?_;refine HO.v (V.mvI rfl) rfl 9 rfl rfl ?_;refine HO.v (V.mvI rfl) rfl 10 rfl rfl ?_;refine HO.v (V.mvS rfl) rfl 11 rfl rfl ?_;refine HO.v (V.len rfl T.el24) rfl 12 rfl rfl ?_;refine HO.v (V.slice_lhm rfl rfl rfl rfl T.el24 T.sz3 (by omega) (by omega) (by omega)) rfl 13 rfl rfl ?_;refine HO.nil ?_;refine hK2 _ _ ?_;refine HW.seq fun K3 hK3=>?_;refine HW.seq fun K4 hK4=>?_;refine HW.region ?_;refine HO.v (V.mvI rfl) rfl 14 rfl rfl ?_;refine HO.v (V.mvI rfl) rfl 15 rfl rfl ?_;refine HO.v (V.eql rfl rfl rfl) rfl 16 rfl rfl ?_;refine HO.nil ?_;refine hK4 _ _ ?_;refine HW.cond rfl (fun hc=>?_) (fun hc=>?_)
 ·
  refine HW.seq fun K5 hK5=>?_;refine HW.region ?_;refine HO.v (V.mvS rfl) rfl 17 rfl rfl ?_;refine HO.v (V.asS rfl) rfl 6 rfl rfl ?_;refine HO.nil ?_;refine hK5 _ _ ?_;refine HW.ret ?_;refine ⟨.slice a n c,Res.one rfl rfl,(by have:=of_decide_eq_true hc;have e:i=j:=(by omega);subst e;simp),(by have:=of_decide_eq_true hc;have e:i=j:=(by omega);subst e;simpa using hcap),Chg.refl _ _⟩
 refine HW.skip ?_;refine hK3 _ _ ?_;refine HW.seq fun K6 hK6=>?_;refine HW.region ?_;refine HO.v (V.mvS rfl) rfl 18 rfl rfl ?_;refine HO.v (V.len rfl T.el24) rfl 19 rfl rfl ?_;refine HO.v (V.asI rfl) rfl 7 rfl rfl ?_;refine HO.nil ?_;refine hK6 _ _ ?_;refine HW.seq fun K7 hK7=>?_;have hne:=of_decide_eq_false hc;obtain ⟨b,o,rfl,_⟩:=hra.pos (by omega);have hcut:=hsl.cut (l:=j) (q:=n-j) (by omega);have hij2:i<j:=by omega
 refine HW.tail 6 mixed (by kernel_rfl) ?_;simp only [List.take_succ_cons,List.take_zero,List.drop_succ_cons,List.drop_zero];refine HT.v (V.mvS rfl) rfl 20 rfl rfl ?_;refine HT.v (V.mvI rfl) rfl 21 rfl rfl ?_;refine HT.v (V.slice_h rfl rfl T.el24 T.sz3 (by omega)) rfl 22 rfl rfl ?_;refine HT.v (V.mvS rfl) rfl 23 rfl rfl ?_;refine HT.v (V.mvI rfl) rfl 24 rfl rfl ?_;refine HT.v (V.slice_l rfl rfl T.el24 T.sz3 (by omega)) rfl 25 rfl rfl ?_;refine HT.nil ?_;refine HO.a (V.append rfl rfl T.el24 T.sz3 T.by3 T.zr3 rfl (hcap.pre (by omega)) hcut (fun u hu=>iv_ones l u (List.mem_of_mem_drop (List.mem_of_mem_take hu))) (by simp;omega)) rfl 26 rfl rfl ?_;rintro _ _ hap;obtain rfl:=hap.inplace (some ⟨b,o,none⟩) i c (n-(j-i)) rfl (by simp;omega) (by omega);obtain ⟨zs,hsub⟩:=hap.cap.sub (l:=n-(j-i)) (q:=j-i) (by omega) (by omega);rw [cutA_some (by omega),show j-i=(j-i-1)+1 by omega] at hsub;refine HO.v (V.asS rfl) rfl 0 rfl rfl ?_;refine HO.nil ?_;refine hK7 _ _ ?_;refine HW.seq fun K8 hK8=>?_;refine HW.region ?_;refine HO.v (V.mvS rfl) rfl 27 rfl rfl ?_;refine HO.v (V.mvS rfl) rfl 28 rfl rfl ?_;refine HO.v (V.len rfl T.el24) rfl 29 rfl rfl ?_;refine HO.v (V.mvI rfl) rfl 30 rfl rfl ?_;refine HO.v (V.slice_lh rfl rfl rfl T.el24 T.sz3 (by omega) (by omega)) rfl 31 rfl rfl ?_;have hx31:Value.slice (cutA (some ⟨b,o,none⟩) (n-(j-i)) c 1) (n-(n-(j-i))) (c-(n-(j-i)))=.slice (some ⟨b,o+(n-(j-i-1+1))*1,none⟩) (j-i-1+1) (c-(n-(j-i-1+1))):=by rw [cutA_some (by omega)];congr<;>omega
 refine HO.a0 (V.clear hx31 T.el24 T.zr3 rfl (fun u hu=>by have:u=.int .i64 0:=zc_int u hu;subst this;rfl) hsub) rfl rfl ?_;rintro _ _ ⟨_,ys,hst⟩;refine HO.nil ?_;refine hK8 _ _ ?_;refine HW.seq fun K9 hK9=>?_;refine HW.region ?_;refine HO.v (V.mvS rfl) rfl 32 rfl rfl ?_;refine HO.v (V.asS rfl) rfl 6 rfl rfl ?_;refine HO.nil ?_;refine hK9 _ _ ?_;refine HW.ret ?_;refine ⟨.slice (some ⟨b,o,none⟩) (n-(j-i)) c,Res.one rfl rfl,rfl,?_,?_⟩
 ·have h1:=hap.cap.re hst.shape (fun b' o' j' v hb' hj' hv=>hst.kept b' (o'+j') v hv (fun o2 n2 c2 e2=>by
   injection hb' with e;injection e with e3 e4;injection e2 with e5 e6 e7;injection e5 with e5;injection e5 with e8 e9;left;omega))
  have e:(List.map iv l).take (i*1)++List.take ((n-j)*1) (List.drop (j*1) (List.map iv l))=(l.take i++l.drop j).map iv:=by
   rw [Nat.mul_one,Nat.mul_one,Nat.mul_one,List.map_append,←List.map_take,←List.map_drop];congr 1;exact List.take_of_length_le (by simp;omega)
  rw [e] at h1;exact h1
 ·refine (hap.chg.mono fun x _ hx=>?_).trans (hst.chg.mono fun x _ hx=>?_)
  ·obtain ⟨o2,n2,c2,e2⟩:=hx;injection e2 with e5;injection e5 with e5;injection e5 with e8;subst e8;exact ⟨_,_,_,rfl⟩
  ·obtain ⟨o2,n2,c2,e2⟩:=hx;injection e2 with e5;injection e5 with e5;injection e5 with e8;subst e8;exact ⟨_,_,_,rfl⟩
theorem index_is {h:Heap} {a:Option Addr} {n c:Nat} {v z:Int} {l:List Int} (hz:z=ixOf v l) (hl:Sl h 1 (.slice a n c) (l.map iv)) :
  HC Tryz.prog 130 #[.slice a n c,.int .i64 v] h (fun r h'=>r=.int .i64 z∧h'=h):=by
 subst hz;exact index_any hl
theorem ixOf_ge {v:Int} : ∀ {l:List Int},0≤ixOf v l→∃k:Nat,ixOf v l=(k:Int)∧k<l.length∧l.take k++l.drop (k+1)=l.erase v
 | [],h=>by simp [ixOf] at h
 | x::l,h=>by
  unfold ixOf at h⊢;by_cases hx:x=v
  ·subst hx;rw [if_pos rfl];exact ⟨0,rfl,by simp,by simp⟩
  ·rw [if_neg hx] at h⊢;by_cases hn:ixOf v l<0
   ·rw [if_pos hn] at h;omega
   ·rw [if_neg hn] at h⊢;obtain ⟨k,h1,h2,h3⟩:=ixOf_ge (v:=v) (l:=l) (by omega);refine ⟨k+1,by omega,by simpa using h2,?_⟩;rw [List.take_succ_cons,List.drop_succ_cons,List.cons_append,h3,List.erase_cons_tail (by simpa using hx)]
theorem ixOf_lt {v:Int} {l:List Int} (h:ixOf v l<0):v∉l:=by
 intro hm;obtain ⟨k,hk,hl⟩:=List.mem_iff_getElem.1 hm;have:∃k,∃(hk:k<l.length),l[k]=v∧v∉l.take k:=by
  obtain ⟨m,hm1,hm2⟩:=exists_least (p:=fun k=>∃(hk:k<l.length),l[k]=v) ⟨k,hk,hl⟩;obtain ⟨h1,h2⟩:=hm1;refine ⟨m,h1,h2,fun hx=>?_⟩;obtain ⟨j,hj,hj2⟩:=List.mem_iff_getElem.1 hx;simp at hj hj2;exact absurd (hm2 j ⟨by omega,hj2⟩) (by omega)
 obtain ⟨k,hk,h1,h2⟩:=this;rw [ixOf_some hk h2 h1] at h;omega
structure Ordr (h:Heap) (p:Nat) (rm mp:Value) (ov:SV) (xs:List Int):Prop where
 hp:h[p]? = some (.cells #[sv ov,rm,mp] 249 (0,0))
 ord:Cap h 1 3 (sv ov) (xs.map iv)
theorem Ordr.ne {h:Heap} {p:Nat} {rm mp:Value} {ov:SV} {xs:List Int} (r:Ordr h p rm mp ov xs):∀b,blkC (sv ov) b→b≠p:=fun b hb e=>by
 subst e;obtain ⟨cs,fz,h1⟩:=r.ord.blk hb;rw [r.hp] at h1;injection h1 with h1;injection h1 with _ h1;cases h1
theorem Ordr.lt {h:Heap} {p:Nat} {rm mp:Value} {ov:SV} {xs:List Int} (r:Ordr h p rm mp ov xs):p<h.size:=block_lt r.hp
structure Turned (h:Heap) (p:Nat) (rm mp:Value) (ov:SV) (ys:List Int) (h':Heap) (ov':SV):Prop where
 ordr:Ordr h' p rm mp ov' ys
 chg:Chg (fun b=>b=p∨blkC (sv ov) b) h h'
 place:∀b,blkC (sv ov') b→blkC (sv ov) b∨h.size≤b
theorem forget_any {h:Heap} {p:Nat} {rm mp:Value} {ov:SV} {xs:List Int} {no:Int} (r:Ordr h p rm mp ov xs) (hN:xs.length≤1000000000000) :
  HC Tryz.prog 292 #[.pointer (some ⟨p,0,none⟩),.int .i64 no] h (fun v h'=>∃ov',v=.tuple #[]∧Turned h p rm mp ov (xs.erase no) h' ov'):=by
 obtain ⟨a,n,c⟩:=ov;obtain ⟨z,hz⟩:∃z,z=ixOf no xs:=⟨_,rfl⟩;have hord:Cap h 1 3 (.slice a n c) (xs.map iv):=r.ord;have hla:xs.length=n:=by simpa using hord.sl.cells.len
 have hnc:n≤c:=hord.le;have hbd:c≤9223372036854775807:=hord.bd;refine HC.body Tryz.func292 rfl (by kernel_rfl) 24 rfl rfl ?_;refine HW.seq fun K1 hK1=>?_;refine HW.region ?_;refine HO.v (V.mvP rfl) rfl 5 rfl rfl ?_;refine HO.v (V.nilCheck rfl) rfl 6 rfl rfl ?_;refine HO.v (V.fieldAddr rfl T.fd247_0) rfl 7 rfl rfl ?_;refine HO.v (V.load rfl (load_one T.ag24 (v:=sv (a,n,c)) (cell_of r.hp 0))) rfl 8 rfl rfl ?_;refine HO.v (V.mvI rfl) rfl 9 rfl rfl ?_;refine HO.c OpC.func rfl 10 rfl rfl (index_is hz hord.sl) ?_;rintro _ _ ⟨rfl,rfl⟩;refine HO.v (V.asI rfl) rfl 4 rfl rfl ?_;refine HO.nil ?_;refine hK1 _ _ ?_;refine HW.seq fun K2 hK2=>?_;refine HW.region ?_;refine HO.v (V.mvI rfl) rfl 11 rfl rfl ?_;refine HO.v (V.geq rfl rfl rfl) rfl 12 rfl rfl ?_;refine HO.nil ?_;refine hK2 _ _ ?_;refine HW.condr rfl (fun hc=>?_) (fun hc=>?_)
 ·
  refine HW.skip ?_;refine ⟨.tuple #[],Res.none rfl,(a,n,c),rfl,⟨(by have h1:=of_decide_eq_false hc;rw [List.erase_of_not_mem (ixOf_lt (by omega))];exact r),Chg.refl _ _,fun b hb=>.inl hb⟩⟩
 have hge:=of_decide_eq_true hc;obtain ⟨k,hk1,hk2,hk3⟩:=ixOf_ge (v:=no) (l:=xs) (by omega);obtain rfl:z=(k:Int):=by omega
 refine HW.region ?_;refine HO.v (V.mvP rfl) rfl 13 rfl rfl ?_;refine HO.v (V.mvP rfl) rfl 14 rfl rfl ?_;refine HO.v (V.nilCheck rfl) rfl 15 rfl rfl ?_;refine HO.v (V.fieldAddr rfl T.fd247_0) rfl 16 rfl rfl ?_;refine HO.v (V.load rfl (load_one T.ag24 (v:=sv (a,n,c)) (cell_of r.hp 0))) rfl 17 rfl rfl ?_;refine HO.v (V.mvI rfl) rfl 18 rfl rfl ?_;refine HO.v (V.mvI rfl) rfl 19 rfl rfl ?_;refine HO.v (V.add rfl rfl (by omega)) rfl 20 rfl rfl ?_;refine HO.c OpC.func rfl 21 rfl rfl (delete_any (n:=n) (c:=c) (i:=k) (j:=k+1) hord (by omega) (by omega) hN) ?_;rintro _ h2 ⟨rfl,hcap,hchg⟩;refine HO.v (V.nilCheck rfl) rfl 22 rfl rfl ?_;refine HO.v (V.fieldAddr rfl T.fd247_0) rfl 23 rfl rfl ?_;have hb2:h2[p]? = some (.cells #[sv (a,n,c),rm,mp] 249 (0,0)):=hchg.block r.hp (fun hb=>r.ne _ hb rfl);refine HO.u (V.storeS (cs':=#[sv (a,n-(k+1-k),c),rm,mp]) rfl rfl T.sz24 hb2 (by simp) (by simp) rfl) rfl rfl ?_;refine HO.nil ?_;refine ⟨.tuple #[],Res.none rfl,(a,n-(k+1-k),c),rfl,⟨?_,?_,?_⟩⟩
 ·refine ⟨hput_same hb2,?_⟩;rw [←hk3];exact hcap.chg (hput_chg _ _ _) (fun b hb e=>r.ne b (by obtain ⟨o,n',c',hv⟩:=hb;injection hv with h1 h2 h3;subst h1;exact ⟨_,_,_,rfl⟩) e)
 ·exact (hchg.mono fun x _ hx=>.inr hx).trans ((hput_chg _ _ _).mono fun x _ hx=>.inl hx)
 ·intro b hb;left;obtain ⟨o,n',c',hv⟩:=hb;injection hv with h1 h2 h3;subst h1;exact ⟨_,_,_,rfl⟩
theorem touch_any {h:Heap} {p:Nat} {rm mp:Value} {ov:SV} {xs:List Int} {no:Int} (r:Ordr h p rm mp ov xs) (hN:xs.length≤1000000000) :
  HC Tryz.prog 291 #[.pointer (some ⟨p,0,none⟩),.int .i64 no] h (fun v h'=>∃ov',v=.tuple #[]∧Turned h p rm mp ov (xs.erase no++[no]) h' ov'):=by
 refine HC.body Tryz.func291 rfl (by kernel_rfl) 17 rfl rfl ?_;refine HW.seq fun K1 hK1=>?_;refine HW.region ?_;refine HO.v (V.mvP rfl) rfl 4 rfl rfl ?_;refine HO.v (V.mvI rfl) rfl 5 rfl rfl ?_;refine HO.c OpC.func rfl 6 rfl rfl (forget_any r (by omega)) ?_;rintro _ h1 ⟨ov1,rfl,t1⟩;refine HO.nil ?_;refine hK1 _ _ ?_;refine HW.region ?_;refine HO.v (V.mvP rfl) rfl 7 rfl rfl ?_;refine HO.v (V.mvP rfl) rfl 8 rfl rfl ?_;refine HO.v (V.nilCheck rfl) rfl 9 rfl rfl ?_;refine HO.v (V.fieldAddr rfl T.fd247_0) rfl 10 rfl rfl ?_;refine HO.v (V.load rfl (load_one T.ag24 (v:=sv ov1) (cell_of t1.ordr.hp 0))) rfl 11 rfl rfl ?_;refine HO.v (V.mvI rfl) rfl 12 rfl rfl ?_;refine HO.e (V.buildSlice [.tmp 12] (cs:=#[.int .i64 no]) T.el24 T.sz3 T.zr3 rfl rfl rfl ⟨rfl,trivial⟩ rfl) rfl 13 rfl rfl ?_;refine HO.a (V.append rfl rfl T.el24 T.sz3 T.by3 T.zr3 rfl (t1.ordr.ord.ext (Ext.push _ _)) (sl_new (n:=1) rfl (by omega)) (iv_one no) (by have:=List.length_erase_le (a:=no) (l:=xs);simp;omega)) rfl 14 rfl rfl ?_;rintro _ h2 hap;obtain ⟨ov2,rfl⟩:=hap.cap.form;have hb2:=hap.chg.block (push_other t1.ordr.hp) (fun hb=>t1.ordr.ne _ hb rfl);refine HO.v (V.nilCheck rfl) rfl 15 rfl rfl ?_;refine HO.v (V.fieldAddr rfl T.fd247_0) rfl 16 rfl rfl ?_;refine HO.u (V.storeS (cs':=#[sv ov2,rm,mp]) rfl rfl T.sz24 hb2 (by simp) (by simp) rfl) rfl rfl ?_;refine HO.nil ?_;refine ⟨.tuple #[],Res.none rfl,ov2,rfl,⟨?_,?_,?_⟩⟩
 ·refine ⟨hput_same hb2,?_⟩;have:=hap.cap.chg (hput_chg _ p #[sv ov2,rm,mp]) (fun b hb e=>by
   subst e;obtain ⟨cs,fz,h1⟩:=hap.cap.blk hb;rw [hb2] at h1;injection h1 with h1;injection h1 with _ h1;cases h1)
  simpa [iv] using this
 ·have c1:Chg (fun b=>b=p∨blkC (sv ov) b) h h2:=(t1.chg.trans (Ext.push h1 _).to).trans' hap.chg (fun b hb hk=>by
   rcases t1.place b hk with hk | hk
   ·exact .inr hk
   ·omega)
  exact c1.trans ((hput_chg _ _ _).mono fun x _ hx=>.inl hx)
 ·intro b hb;rcases hap.place b hb with hb | hb
  ·exact t1.place b hb
  ·right;have:=t1.chg.size;simp at hb;omega
structure AP where
 no:Int
 b:List UInt8
 d:Bool
 deriving DecidableEq
def nos (L:List AP):List Int:=L.map fun x=>x.no
def rid (no:Int) (L:List AP):List AP:=L.filter fun x=>decide (x.no≠no)
def hit (no:Int) (L:List AP):Option AP:=L.find? fun x=>decide (x.no=no)
theorem nos_rid (no:Int) (L:List AP):nos (rid no L)=(nos L).filter fun k=>decide (k≠no):=by
 unfold nos rid;rw [List.filter_map];rfl
theorem mem_rid {no:Int} {L:List AP} {x:AP} : x∈rid no L↔x∈L∧x.no≠no:=by simp [rid]
theorem rid_len (no:Int) (L:List AP):(rid no L).length≤L.length:=List.length_filter_le _ _
theorem hit_some {no:Int} {L:List AP} {x:AP} (h:hit no L=some x):x∈L∧x.no=no:=
 ⟨List.mem_of_find?_eq_some h,by have:=List.find?_some h;simpa using this⟩
theorem hit_none {no:Int} {L:List AP} (h:hit no L=none):∀x∈L,x.no≠no:=fun x hx=>by
 have:=List.find?_eq_none.1 h x hx;simpa using this
theorem hit_mem {no:Int} {L:List AP} (h:no∈nos L):∃x,hit no L=some x:=by
 cases e:hit no L with
 | some x=>exact ⟨x,rfl⟩
 | none=>
  obtain ⟨x,hx,hxn⟩:=List.mem_map.1 h;exact absurd hxn (hit_none e x hx)
theorem hit_not {no:Int} {L:List AP} (h:no∉nos L):hit no L=none:=by
 cases e:hit no L with
 | none=>rfl
 | some x=>exact absurd (List.mem_map.2 ⟨x,(hit_some e).1,(hit_some e).2⟩) h
theorem order_drop {no:Int} {L:List AP} (hn:(nos L).Nodup):(nos L).reverse.erase no=(nos (rid no L)).reverse:=by
 have hr:(nos L).reverse.Nodup:=by
  unfold List.Nodup;rw [List.pairwise_reverse];exact hn.imp fun h=>Ne.symm h
 rw [nos_rid,←List.filter_reverse,List.Nodup.erase_eq_filter hr];apply List.filter_congr;intro x _;by_cases e:x=no<;>simp [e]
theorem order_touch {x:AP} {L:List AP} (hn:(nos L).Nodup):(nos L).reverse.erase x.no++[x.no]=(nos (x::rid x.no L)).reverse:=by
 rw [order_drop hn];simp [nos]
theorem nd_rid {no:Int} {L:List AP} (hn:(nos L).Nodup):(nos (rid no L)).Nodup:=by rw [nos_rid];exact hn.filter _
theorem nd_touch {x:AP} {L:List AP} (hn:(nos L).Nodup):(nos (x::rid x.no L)).Nodup:=by
 have:nos (x::rid x.no L)=x.no::nos (rid x.no L):=rfl;rw [this,List.nodup_cons];exact ⟨by rw [nos_rid];simp,nd_rid hn⟩
def isT (h:Heap) (b:Nat) (t:TypeId):Prop:=∃cs fz,h[b]? = some (.cells cs t fz)
theorem isT.eq {h:Heap} {b:Nat} {t u:TypeId} (x:isT h b t) (y:isT h b u):t=u:=by
 obtain ⟨_,_,x⟩:=x;obtain ⟨_,_,y⟩:=y;rw [x] at y;injection y with y;injection y
def wd (F:Nat→Prop) (a z:Nat) (b:Nat):Prop:=F b∨(a≤b∧b<z)
structure PgAt (h:Heap) (F:Nat→Prop) (q:Nat) (x:AP):Prop where
 cells:∃b:SV,h[q]? = some (.cells #[sv b,.bool x.d] 341 (0,0))∧Cap h 1 5 (sv b) (x.b.map bv)∧∀j,blkC (sv b) j→F j
 own:F q
theorem PgAt.chg {h h':Heap} {F F' G:Nat→Prop} {q:Nat} {x:AP} (r:PgAt h F q x) (c:Chg G h h') (hg:∀b,G b→F b→isT h b 341∨isT h b 5→False) (hF:∀b,F b→F' b):PgAt h' F' q x:=by
 obtain ⟨⟨b,hq,hb,hf⟩,ho⟩:=r;refine ⟨⟨b,c.block hq fun g=>hg _ g ho (.inl ⟨_,_,hq⟩),hb.chg c fun j hj g=>?_,fun j hj=>hF _ (hf j hj)⟩,hF _ ho⟩;obtain ⟨cs,fz,h1⟩:=hb.blk hj;exact hg j g (hf j hj) (.inr ⟨cs,fz,h1⟩)
structure CMap (h:Heap) (F:Nat→Prop) (m:Nat) (L:List AP) (ks:List Int) (q:Int→Nat):Prop where
 map:MapT (Value.int .i64) h m (ks.map fun k=>(k,ptr (q k)))
 mem:∀k,k∈ks↔k∈nos L
 nd:(nos L).Nodup
 pg:∀x∈L,PgAt h F (q x.no) x
 inj:∀x∈L,∀y∈L,q x.no=q y.no→x.no=y.no
 own:F m
theorem CMap.chg {h h':Heap} {F F' G:Nat→Prop} {m:Nat} {L:List AP} {ks:List Int} {q:Int→Nat} (r:CMap h F m L ks q) (c:Chg G h h') (hg:∀b,G b→F b→isT h b 249∨isT h b 3) (hF:∀b,F b→F' b):CMap h' F' m L ks q:=by
 refine ⟨r.map.chg c fun g=>?_,r.mem,r.nd,fun x hx=>(r.pg x hx).chg c (fun b g f t=>?_) hF,r.inj,hF _ r.own⟩
 ·obtain ⟨es,cl,hb,_⟩:=r.map;rcases hg _ g r.own with ⟨cs,fz,h1⟩ | ⟨cs,fz,h1⟩<;>(rw [hb] at h1;injection h1 with h1;cases h1)
 ·rcases hg _ g f with h1 | h1<;>rcases t with h2 | h2<;>exact absurd (h1.eq h2) (by decide)
theorem CMap.keys {h:Heap} {F:Nat→Prop} {m:Nat} {L:List AP} {ks:List Int} {q:Int→Nat} (r:CMap h F m L ks q):ks.Nodup:=by
 have h1:=r.map.nodup;rw [List.map_map] at h1;have h2:((fun x:Int × Value=>x.1)∘fun k=>(k,ptr (q k)))=id:=rfl;rwa [h2,List.map_id] at h1
theorem aget_map {f:Int→Value} {ks:List Int} {k:Int} (h:k∈ks):aget (ks.map fun k=>(k,f k)) k=some (f k):=by
 induction ks with
 | nil=>simp at h
 | cons a l ih=>
  unfold aget;rw [List.map_cons,List.find?_cons];by_cases e:a=k
  ·subst e;simp
  ·have hm:k∈l:=by rcases List.mem_cons.1 h with h | h;exact absurd h.symm e;exact h
   have:=ih hm;unfold aget at this;simpa [e] using this
theorem aget_not {f:Int→Value} {ks:List Int} {k:Int} (h:k∉ks):aget (ks.map fun k=>(k,f k)) k=none:=by
 refine aget_none fun p hp=>?_;obtain ⟨j,hj,rfl⟩:=List.mem_map.1 hp;rintro rfl;exact h hj
theorem adel_map {f:Int→Value} {ks:List Int} {k:Int} : adel (ks.map fun k=>(k,f k)) k=(ks.filter fun j=>decide (j≠k)).map fun k=>(k,f k):=by
 unfold adel;rw [List.filter_map];rfl
def kput (ks:List Int) (k:Int):List Int:=if k∈ks then ks else ks++[k]
theorem mem_kput {ks:List Int} {k j:Int} : j∈kput ks k↔j=k∨j∈ks:=by
 unfold kput;by_cases h:k∈ks
 ·rw [if_pos h];constructor
  ·exact .inr
  ·rintro (rfl | hj)
   ·exact h
   ·exact hj
 ·rw [if_neg h];simp [or_comm]
def fput (q:Int→Nat) (k:Int) (n:Nat) (j:Int):Nat:=if j=k then n else q j
theorem caput_map {q:Int→Nat} {ks:List Int} {k:Int} {n:Nat} (hn:ks.Nodup):aput (ks.map fun k=>(k,ptr (q k))) k (ptr n)=(kput ks k).map fun j=>(j,ptr (fput q k n j)):=by
 unfold kput;by_cases h:k∈ks
 ·rw [if_pos h];induction ks with
  | nil=>simp at h
  | cons a l ih=>
   rw [List.nodup_cons] at hn;by_cases e:a=k
   ·subst e;simp only [List.map_cons,aput,if_pos,fput];congr 1;apply List.map_congr_left;intro j hj;rw [if_neg (by rintro rfl;exact hn.1 hj)]
   ·have hm:k∈l:=by rcases List.mem_cons.1 h with h | h;exact absurd h.symm e;exact h
    simp only [List.map_cons,aput,if_neg e,ih hn.2 hm,fput]
 ·rw [if_neg h,aput_none]
  ·rw [List.map_append];congr 1
   ·apply List.map_congr_left;intro j hj;unfold fput;rw [if_neg (by rintro rfl;exact h hj)]
   ·simp [fput]
  ·intro p hp;obtain ⟨j,hj,rfl⟩:=List.mem_map.1 hp;rintro rfl;exact h hj
theorem CMap.get {h:Heap} {F:Nat→Prop} {m:Nat} {L:List AP} {ks:List Int} {q:Int→Nat} (r:CMap h F m L ks q) (no:Int) :
  (aget (ks.map fun k=>(k,ptr (q k))) no).getD (.pointer none)=.pointer ((hit no L).map fun _=>⟨q no,0,none⟩):=by
 by_cases hm:no∈nos L
 ·obtain ⟨x,hx⟩:=hit_mem hm;rw [aget_map ((r.mem no).2 hm),hx];rfl
 ·rw [aget_not (fun k=>hm ((r.mem no).1 k)),hit_not hm];rfl
theorem CMap.drop {h:Heap} {F:Nat→Prop} {m:Nat} {L:List AP} {ks:List Int} {q:Int→Nat} (r:CMap h F m L ks q) {no:Int} {h':Heap} (p:V.Put (Value.int .i64) h m (adel (ks.map fun k=>(k,ptr (q k))) no) h') :
  CMap h' F m (rid no L) (ks.filter fun j=>decide (j≠no)) q:=by
 refine ⟨by have:=p.map;rwa [adel_map] at this,fun k=>?_,nd_rid r.nd,fun x hx=>(r.pg x (mem_rid.1 hx).1).chg p.chg ?_ (fun _ f=>f),fun x hx y hy=>r.inj x (mem_rid.1 hx).1 y (mem_rid.1 hy).1,r.own⟩
 ·rw [nos_rid,List.mem_filter,List.mem_filter,r.mem]
 ·rintro b rfl _ t;obtain ⟨es,cl,hb,_⟩:=r.map;rcases t with ⟨cs,fz,h1⟩ | ⟨cs,fz,h1⟩<;>(rw [hb] at h1;injection h1 with h1;cases h1)
theorem CMap.put {h:Heap} {F:Nat→Prop} {m:Nat} {L:List AP} {ks:List Int} {q:Int→Nat} (r:CMap h F m L ks q) {x:AP} {n:Nat} {h':Heap} {F':Nat→Prop} (hn:PgAt h F' n x) (hnew:∀y∈L,q y.no≠n) (hFF:∀b,F b→F' b)
  (p:V.Put (Value.int .i64) h m (aput (ks.map fun k=>(k,ptr (q k))) x.no (ptr n)) h') :
  CMap h' F' m (x::rid x.no L) (kput ks x.no) (fput q x.no n):=by
 have hmp:∀b,b=m→F' b→isT h b 341∨isT h b 5→False:=by
  rintro b rfl _ t;obtain ⟨es,cl,hb,_⟩:=r.map;rcases t with ⟨cs,fz,h1⟩ | ⟨cs,fz,h1⟩<;>(rw [hb] at h1;injection h1 with h1;cases h1)
 refine ⟨by have:=p.map;rwa [caput_map r.keys] at this,fun k=>?_,nd_touch r.nd,?_,?_,hFF _ r.own⟩
 ·rw [mem_kput,r.mem];have:nos (x::rid x.no L)=x.no::nos (rid x.no L):=rfl;rw [this,nos_rid,List.mem_cons,List.mem_filter];by_cases e:k=x.no<;>simp [e]
 ·intro y hy;rcases List.mem_cons.1 hy with rfl | hy
  ·simp only [fput,if_pos];exact hn.chg p.chg hmp (fun _ f=>f)
  ·obtain ⟨h1,h2⟩:=mem_rid.1 hy;simp only [fput,if_neg h2];exact ((r.pg y h1).chg (Chg.refl none_ h) (fun _ g _ _=>g) hFF).chg p.chg hmp (fun _ f=>f)
 ·intro y hy z hz e;unfold fput at e;rcases List.mem_cons.1 hy with rfl | hy<;>rcases List.mem_cons.1 hz with rfl | hz
  ·rfl
  ·obtain ⟨h1,h2⟩:=mem_rid.1 hz;rw [if_pos rfl,if_neg h2] at e;exact absurd e.symm (hnew z h1)
  ·obtain ⟨h1,h2⟩:=mem_rid.1 hy;rw [if_neg h2,if_pos rfl] at e;exact absurd e (hnew y h1)
  ·obtain ⟨h1,h2⟩:=mem_rid.1 hy;obtain ⟨h3,h4⟩:=mem_rid.1 hz;rw [if_neg h2,if_neg h4] at e;exact r.inj y h1 z h3 e
theorem Ordr.chg {h h':Heap} {G:Nat→Prop} {p:Nat} {rm mp:Value} {ov:SV} {xs:List Int} (r:Ordr h p rm mp ov xs) (c:Chg G h h') (hp:¬G p) (hb:∀b,blkC (sv ov) b→¬G b):Ordr h' p rm mp ov xs:=
 ⟨c.block r.hp hp,r.ord.chg c hb⟩
structure CIn (h:Heap) (F:Nat→Prop) (p m:Nat) (ov:SV) (room:Int) (L:List AP) (ks:List Int) (q:Int→Nat):Prop where
 mp:CMap h F m L ks q
 od:Ordr h p (.int .i64 room) (.map (some m)) ov (nos L).reverse
 fp:F p
 fo:∀b,blkC (sv ov) b→F b
 lt:∀b,F b→b<h.size
 len:L.length≤100000001
 sm:∀x∈L,x.b.length≤1000000
def CRep (h:Heap) (F:Nat→Prop) (p:Nat) (room:Int) (L:List AP):Prop:=∃m ov ks q,CIn h F p m ov room L ks q
structure Step (F:Nat→Prop) (h:Heap) (F':Nat→Prop) (h':Heap):Prop where
 chg:Chg F h h'
 place:∀b,F' b→F b∨h.size≤b
theorem CIn.hp {h:Heap} {F:Nat→Prop} {p m:Nat} {ov:SV} {room:Int} {L:List AP} {ks:List Int} {q:Int→Nat} (r:CIn h F p m ov room L ks q):h[p]? = some (.cells #[sv ov,.int .i64 room,.map (some m)] 249 (0,0)):=r.od.hp
theorem CIn.kind {h:Heap} {F:Nat→Prop} {p m:Nat} {ov:SV} {room:Int} {L:List AP} {ks:List Int} {q:Int→Nat} (r:CIn h F p m ov room L ks q):∀b,(b=p∨blkC (sv ov) b)→isT h b 249∨isT h b 3:=by
 rintro b (rfl | hb)
 ·exact .inl ⟨_,_,r.hp⟩
 ·exact .inr (r.od.ord.blk hb)
theorem CIn.ne_p {h:Heap} {F:Nat→Prop} {p m:Nat} {ov:SV} {room:Int} {L:List AP} {ks:List Int} {q:Int→Nat} (r:CIn h F p m ov room L ks q):p≠m:=fun e=>by
 obtain ⟨es,cl,hb,_⟩:=r.mp.map;have:=r.hp;rw [e,hb] at this;injection this with this;cases this
theorem CIn.ne_o {h:Heap} {F:Nat→Prop} {p m:Nat} {ov:SV} {room:Int} {L:List AP} {ks:List Int} {q:Int→Nat} (r:CIn h F p m ov room L ks q):∀b,blkC (sv ov) b→b≠m:=fun b hb e=>by
 subst e;obtain ⟨es,cl,h1,_⟩:=r.mp.map;obtain ⟨cs,fz,h2⟩:=r.od.ord.blk hb;rw [h1] at h2;injection h2 with h2;cases h2
theorem drop_in {h:Heap} {F:Nat→Prop} {p m:Nat} {ov:SV} {room:Int} {L:List AP} {ks:List Int} {q:Int→Nat} (r:CIn h F p m ov room L ks q) (no:Int) :
  HC Tryz.prog 290 #[ptr p,.int .i64 no] h (fun v h'=>∃ov',v=.tuple #[]∧CIn h' (wd F h.size h'.size) p m ov' room (rid no L) (ks.filter fun j=>decide (j≠no)) q∧Chg (fun b=>b=m∨b=p∨blkC (sv ov) b) h h'):=by
 refine HC.body Tryz.func290 rfl (by kernel_rfl) 14 rfl rfl ?_;refine HW.seq fun K1 hK1=>?_;refine HW.region ?_;refine HO.v (V.mvP rfl) rfl 4 rfl rfl ?_;refine HO.v (V.nilCheck rfl) rfl 5 rfl rfl ?_;refine HO.v (V.fieldAddr rfl T.fd249_2) rfl 6 rfl rfl ?_;refine HO.v (V.load rfl (load_one T.ag245 (v:=.map (some m)) (cell_of r.hp 2))) rfl 7 rfl rfl ?_;refine HO.v (V.mvI rfl) rfl 8 rfl rfl ?_;refine HO.a0 (V.delete (KV.int .i64) rfl rfl r.mp.map T.mp245 (inB_iff T.in3)) rfl rfl ?_;rintro _ h1 ⟨rfl,pu⟩;refine HO.nil ?_;refine hK1 _ _ ?_;refine HW.region ?_;refine HO.v (V.mvP rfl) rfl 9 rfl rfl ?_;refine HO.v (V.nilCheck rfl) rfl 10 rfl rfl ?_;refine HO.v (V.fieldAddr rfl T.fd249_0) rfl 11 rfl rfl ?_;refine HO.v (V.mvI rfl) rfl 12 rfl rfl ?_;have o1:Ordr h1 p (.int .i64 room) (.map (some m)) ov (nos L).reverse:=r.od.chg pu.chg r.ne_p r.ne_o;refine HO.c OpC.func rfl 13 rfl rfl (forget_any o1 (by have:=r.len;simp [nos];omega)) ?_;rintro _ h2 ⟨ov2,rfl,t⟩;refine HO.nil ?_;refine ⟨.tuple #[],Res.none rfl,ov2,rfl,⟨?_,?_,?_,?_,?_,?_,?_⟩,?_⟩
 ·have c1:=r.mp.drop pu;refine c1.chg t.chg (fun b g _=>?_) fun b f=>.inl f;rcases g with rfl | hb
  ·exact .inl ⟨_,_,o1.hp⟩
  ·exact .inr (o1.ord.blk hb)
 ·have:=t.ordr;rwa [order_drop r.mp.nd] at this
 ·exact .inl r.fp
 ·intro b hb;have h1:=t.ordr.ord.lt hb;rcases t.place b hb with hb | hb
  ·exact .inl (r.fo b hb)
  ·have:=pu.size;exact .inr ⟨by omega,h1⟩
 ·have h1:=t.chg.size;have h2:=pu.size;rintro b (hb | hb)
  ·have:=r.lt b hb;omega
  ·exact hb.2
 ·have:=rid_len no L;have:=r.len;omega
 ·exact fun x hx=>r.sm x (mem_rid.1 hx).1
 ·refine (pu.chg.mono fun b _ hb=>.inl hb).trans' t.chg fun b _ hb=>.inr hb
theorem CMap.bound {h:Heap} {F:Nat→Prop} {m:Nat} {L:List AP} {ks:List Int} {q:Int→Nat} (r:CMap h F m L ks q):CMap h (fun b=>F b∧b<h.size) m L ks q:=
 ⟨r.map,r.mem,r.nd,fun x hx=>by
  obtain ⟨⟨b,h1,h2,h3⟩,h4⟩:=r.pg x hx;exact ⟨⟨b,h1,h2,fun j hj=>⟨h3 j hj,h2.lt hj⟩⟩,h4,block_lt h1⟩,r.inj,r.own,r.map.lt⟩
theorem CMap.same {h:Heap} {F:Nat→Prop} {m:Nat} {L M:List AP} {ks:List Int} {q:Int→Nat} (r:CMap h F m L ks q) (hm:∀x,x∈M↔x∈L) (hn:(nos M).Nodup):CMap h F m M ks q:=
 ⟨r.map,fun k=>by
  rw [r.mem];unfold nos;simp only [List.mem_map,hm],hn,fun x hx=>r.pg x ((hm x).1 hx),fun x hx y hy=>r.inj x ((hm x).1 hx) y ((hm y).1 hy),r.own⟩
theorem nos_inj {L:List AP} (hn:(nos L).Nodup):∀ {x y:AP},x∈L→y∈L→x.no=y.no→x=y:=by
 induction L with
 | nil=>intro x y hx;simp at hx
 | cons a l ih=>
  have hn':(a.no::nos l).Nodup:=hn;rw [List.nodup_cons] at hn';intro x y hx0 hy0 e;rcases List.mem_cons.1 hx0 with rfl | hx<;>rcases List.mem_cons.1 hy0 with rfl | hy
  ·rfl
  ·exact absurd (List.mem_map.2 ⟨y,hy,e.symm⟩:x.no∈nos l) hn'.1
  ·exact absurd (List.mem_map.2 ⟨x,hx,e⟩:y.no∈nos l) hn'.1
  ·exact ih hn'.2 hx hy e
theorem touch_mem {L:List AP} (hn:(nos L).Nodup) {x:AP} (hx:x∈L):∀y,y∈x::rid x.no L↔y∈L:=fun y=>by
 rw [List.mem_cons,mem_rid];constructor
 ·rintro (rfl | h)
  ·exact hx
  ·exact h.1
 ·intro hy;by_cases e:y.no=x.no
  ·exact .inl (nos_inj hn hy hx e)
  ·exact .inr ⟨hy,e⟩
theorem CIn.mk' {h:Heap} {F:Nat→Prop} {p m:Nat} {ov:SV} {room:Int} {L:List AP} {ks:List Int} {q:Int→Nat} (mp:CMap h F m L ks q) (od:Ordr h p (.int .i64 room) (.map (some m)) ov (nos L).reverse) (fp:F p) (fo:∀b,blkC (sv ov) b→F b) (len:L.length≤100000001) (sm:∀x∈L,x.b.length≤1000000) :
  CIn h (fun b=>F b∧b<h.size) p m ov room L ks q:=
 ⟨mp.bound,od,⟨fp,od.lt⟩,fun b hb=>⟨fo b hb,od.ord.lt hb⟩,fun _ hb=>hb.2,len,sm⟩
theorem CIn.chg {h h':Heap} {F G:Nat→Prop} {p m:Nat} {ov:SV} {room:Int} {L:List AP} {ks:List Int} {q:Int→Nat} (r:CIn h F p m ov room L ks q) (c:Chg G h h') (hg:∀b,F b→¬G b):CIn h' F p m ov room L ks q:=
 ⟨r.mp.chg c (fun b g f=>absurd g (hg b f)) (fun _ f=>f),r.od.chg c (hg _ r.fp) (fun b hb=>hg _ (r.fo b hb)),r.fp,r.fo,fun b hb=>Nat.lt_of_lt_of_le (r.lt b hb) c.size,r.len,r.sm⟩
theorem CRep.chg {h h':Heap} {F G:Nat→Prop} {p:Nat} {room:Int} {L:List AP} (r:CRep h F p room L) (c:Chg G h h') (hg:∀b,F b→¬G b):CRep h' F p room L:=
 let ⟨m,ov,ks,q,r⟩:=r;⟨m,ov,ks,q,r.chg c hg⟩
theorem CRep.lt {h:Heap} {F:Nat→Prop} {p:Nat} {room:Int} {L:List AP} (r:CRep h F p room L):∀b,F b→b<h.size:=let ⟨_,_,_,_,r⟩:=r;r.lt
def getL (no:Int) (L:List AP):List AP:=match hit no L with
 | some x=>x::rid no L
 | none=>L
def gotL (no:Int) (L:List AP):List UInt8:=((hit no L).map fun x=>x.b).getD []
def wasD (no:Int) (L:List AP):Bool:=((hit no L).map fun x=>x.d).getD false
def putL1 (no:Int) (b:List UInt8) (d:Bool) (L:List AP):List AP:=⟨no,b,d || wasD no L⟩::rid no L
def toldL (x:Option AP):List AFr:=match x with
 | some x=>if x.d then [⟨x.no,0,x.b⟩] else []
 | none=>[]
def putL (room no:Int) (b:List UInt8) (d:Bool) (L:List AP):List AP:=
 if no<1 then L else if ((putL1 no b d L).length:Int)≤room then putL1 no b d L else (putL1 no b d L).dropLast
def putA (room no:Int) (b:List UInt8) (d:Bool) (L:List AP):List AFr:=
 if no<1 then [] else if ((putL1 no b d L).length:Int)≤room then [] else toldL (putL1 no b d L).getLast?
theorem drop_last {L:List AP} {x:AP} (hn:(nos L).Nodup) (hx:L.getLast? = some x):rid x.no L=L.dropLast:=by
 obtain ⟨M,rfl⟩:=List.getLast?_eq_some_iff.1 hx;have h1:nos (M++[x])=nos M++[x.no]:=by simp [nos]
 rw [h1,List.nodup_append] at hn;unfold rid;rw [List.filter_append,List.dropLast_concat];have h2:List.filter (fun y=>decide (y.no≠x.no)) M=M:=by
  rw [List.filter_eq_self];intro y hy;simp only [decide_eq_true_eq];exact fun e=>hn.2.2 y.no (List.mem_map.2 ⟨y,hy,rfl⟩) x.no (by simp) e
 rw [h2];simp
theorem cnew_any {h:Heap} {room:Int} :
  HC Tryz.prog 133 #[.int .i64 room] h (fun v h'=>(¬(1≤room∧room≤1048576)∧v=.tuple #[.pointer none,.int .i64 1]∧h'=h)∨
   ((1≤room∧room≤1048576)∧∃p F,v=.tuple #[ptr p,.int .i64 0]∧CRep h' F p room []∧Ext h h'∧∀b,F b→h.size≤b)):=by
 refine HC.body Tryz.func133 rfl (by kernel_rfl) 14 rfl rfl ?_;refine HW.seq fun K1 hK1=>?_;refine HW.region ?_;refine HO.v (V.asP rfl) rfl 2 rfl rfl ?_;refine HO.v (V.asI rfl) rfl 3 rfl rfl ?_;refine HO.nil ?_;refine hK1 _ _ ?_;refine HW.seq fun K2 hK2=>?_;refine HW.seq fun K3 hK3=>?_;refine HW.region ?_;refine HO.v (V.mvI rfl) rfl 4 rfl rfl ?_;refine HO.v (V.lss rfl rfl rfl) rfl 5 rfl rfl ?_;refine HO.v (V.mvB rfl) rfl 6 rfl rfl ?_;refine HO.spl (fun hb2=>?_) (fun hb2=>?_)
 ·
  refine HO.no rfl 7 rfl rfl ?_;refine HO.no rfl 8 rfl rfl ?_;refine HO.v (V.pick_t rfl rfl) rfl 9 rfl rfl ?_;refine HO.nil ?_;refine hK3 _ _ ?_;refine HW.cond_t rfl ?_;refine HW.seq fun K4 hK4=>?_;refine HW.region ?_;refine HO.v (V.asP rfl) rfl 2 rfl rfl ?_;refine HO.v (V.asI rfl) rfl 3 rfl rfl ?_;refine HO.nil ?_;refine hK4 _ _ ?_;refine HW.ret ?_;refine ⟨.tuple #[.pointer none,.int .i64 1],Res.two rfl rfl rfl,.inl ⟨(by have:=of_decide_eq_true hb2;omega),rfl,rfl⟩⟩
 ·
  refine HO.v (V.mvI rfl) rfl 7 rfl rfl ?_;refine HO.v (V.gtr rfl rfl rfl) rfl 8 rfl rfl ?_;refine HO.v (V.pick_f rfl rfl) rfl 9 rfl rfl ?_;refine HO.nil ?_;refine hK3 _ _ ?_;refine HW.cond rfl (fun hc=>?_) (fun hc=>?_)
  ·
   refine HW.seq fun K5 hK5=>?_;refine HW.region ?_;refine HO.v (V.asP rfl) rfl 2 rfl rfl ?_;refine HO.v (V.asI rfl) rfl 3 rfl rfl ?_;refine HO.nil ?_;refine hK5 _ _ ?_;refine HW.ret ?_;refine ⟨.tuple #[.pointer none,.int .i64 1],Res.two rfl rfl rfl,.inl ⟨(by have:=of_decide_eq_true hc;omega),rfl,rfl⟩⟩
  refine HW.skip ?_;refine hK2 _ _ ?_;refine HW.seq fun K6 hK6=>?_;refine HW.region ?_;refine HO.v (V.mvI rfl) rfl 10 rfl rfl ?_;refine HO.e (V.makeMap) rfl 11 rfl rfl ?_;refine HO.v (V.build (cs:=#[.slice none 0 0,.int .i64 room,.map (some h.size)]) T.zr249 T.pl249 rfl) rfl 12 rfl rfl ?_;refine HO.e (V.boxA rfl) rfl 13 rfl rfl ?_;refine HO.v (V.asP rfl) rfl 2 rfl rfl ?_;refine HO.v (V.asI rfl) rfl 3 rfl rfl ?_;refine HO.nil ?_;refine hK6 _ _ ?_;refine HW.ret ?_;refine ⟨.tuple #[ptr (h.push (.map #[] 0)).size,.int .i64 0],Res.two rfl rfl rfl,.inr ⟨(by have:=of_decide_eq_false hc;have:=of_decide_eq_false hb2;omega),_,(fun b=>b=h.size∨b=(h.push (.map #[] 0)).size),rfl,⟨h.size,(none,0,0),[],fun _=>0,?_⟩,(Ext.push _ _).trans (Ext.push _ _),?_⟩⟩
  ·refine ⟨⟨MapT.new (push_other (push_same _ _)),fun k=>by simp [nos],by simp [nos],fun x hx=>by simp at hx,fun x hx=>by simp at hx,.inl rfl⟩,⟨push_same _ _,Cap.nil _ _ _⟩,.inr rfl,fun b hb=>?_,?_,by simp,fun x hx=>by simp at hx⟩
   ·obtain ⟨o,n,c,hv⟩:=hb;cases hv
   ·rintro b (rfl | rfl)<;>simp<;>omega
  ·rintro b (rfl | rfl)<;>simp
theorem get_any {h:Heap} {F:Nat→Prop} {p:Nat} {room:Int} {L:List AP} (r:CRep h F p room L) (no:Int) :
  HC Tryz.prog 287 #[ptr p,.int .i64 no] h (fun v h'=>∃(g:SV) (F':Nat→Prop),v=.tuple #[sv g,.bool (hit no L).isSome]∧CRep h' F' p room (getL no L)∧Step F h F' h'∧
   Cap h' 1 5 (sv g) ((gotL no L).map bv)∧∀b,blkC (sv g) b→h.size≤b∧¬F' b):=by
 obtain ⟨m,ov,ks,q,r⟩:=r;refine HC.body Tryz.func287 rfl (by kernel_rfl) 32 rfl rfl ?_;refine HW.seq fun K1 hK1=>?_;refine HW.region ?_;refine HO.v (V.asS rfl) rfl 4 rfl rfl ?_;refine HO.v (V.asB rfl) rfl 5 rfl rfl ?_;refine HO.nil ?_;refine hK1 _ _ ?_;refine HW.seq fun K2 hK2=>?_;refine HW.seq fun K3 hK3=>?_;refine HW.region ?_;refine HO.v (V.mvP rfl) rfl 6 rfl rfl ?_;refine HO.v (V.ptrEqNil rfl rfl T.pt194) rfl 7 rfl rfl ?_;refine HO.v (V.mvB rfl) rfl 8 rfl rfl ?_;refine HO.spl (fun hb2=>?_) (fun hb2=>?_)
 ·
  refine HO.no rfl 9 rfl rfl ?_;refine HO.no rfl 10 rfl rfl ?_;refine HO.no rfl 11 rfl rfl ?_;refine HO.no rfl 12 rfl rfl ?_;refine HO.no rfl 13 rfl rfl ?_;refine HO.no rfl 14 rfl rfl ?_;refine HO.no rfl 15 rfl rfl ?_;refine HO.v (V.pick_t rfl rfl) rfl 16 rfl rfl ?_;refine HO.nil ?_;refine hK3 _ _ ?_;refine HW.cond_t rfl ?_;refine HW.seq fun K4 hK4=>?_;refine HW.region ?_;refine HO.v (V.asS rfl) rfl 4 rfl rfl ?_;refine HO.v (V.asB rfl) rfl 5 rfl rfl ?_;refine HO.nil ?_;refine hK4 _ _ ?_;refine HW.ret ?_;refine ⟨.tuple #[.slice none 0 0,.bool false],Res.two rfl rfl rfl,(by simp at hb2)⟩
 ·
  refine HO.v (V.mvP rfl) rfl 9 rfl rfl ?_;refine HO.v (V.nilCheck rfl) rfl 10 rfl rfl ?_;refine HO.v (V.fieldAddr rfl T.fd249_2) rfl 11 rfl rfl ?_;refine HO.v (V.load rfl (load_one T.ag245 (v:=.map (some m)) (cell_of r.hp 2))) rfl 12 rfl rfl ?_;refine HO.v (V.mvI rfl) rfl 13 rfl rfl ?_;refine HO.v (V.lookupE (KV.int .i64) rfl rfl r.mp.map T.mp245 (inB_iff T.in3) T.zr339 (r.mp.get no)) rfl 14 rfl rfl ?_;refine HO.v (V.ptrEqNil rfl rfl T.pt339) rfl 15 rfl rfl ?_;refine HO.v (V.pick_f rfl rfl) rfl 16 rfl rfl ?_;refine HO.nil ?_;refine hK3 _ _ ?_;refine HW.cond rfl (fun hc=>?_) (fun hc=>?_)
  ·
   refine HW.seq fun K5 hK5=>?_;have hx:hit no L=none:=by simpa using hc
   refine HW.region ?_;refine HO.v (V.asS rfl) rfl 4 rfl rfl ?_;refine HO.v (V.asB rfl) rfl 5 rfl rfl ?_;refine HO.nil ?_;refine hK5 _ _ ?_;refine HW.ret ?_;refine ⟨.tuple #[.slice none 0 0,.bool false],Res.two rfl rfl rfl,(none,0,0),F,(by rw [hx];rfl),(by unfold getL;rw [hx];exact ⟨m,ov,ks,q,r⟩),⟨Chg.refl _ _,fun b hb=>.inl hb⟩,(by unfold gotL;rw [hx];exact Cap.nil _ _ _),(fun b hb=>by obtain ⟨o,n,c,hv⟩:=hb;cases hv)⟩
  refine HW.skip ?_;refine hK2 _ _ ?_;refine HW.seq fun K6 hK6=>?_;have hx:∃x,hit no L=some x:=by
   cases e:hit no L with
   | some x=>exact ⟨x,rfl⟩
   | none=>rw [e] at hc;simp at hc
  obtain ⟨x,hx⟩:=hx;refine HW.region ?_;refine HO.v (V.mvP rfl) rfl 17 rfl rfl ?_;refine HO.v (V.nilCheck rfl) rfl 18 rfl rfl ?_;refine HO.v (V.fieldAddr rfl T.fd249_0) rfl 19 rfl rfl ?_;refine HO.v (V.mvI rfl) rfl 20 rfl rfl ?_;refine HO.c OpC.func rfl 21 rfl rfl (touch_any r.od (by have:=r.len;simp [nos];omega)) ?_;rintro _ h1 ⟨ov1,rfl,t⟩;refine HO.nil ?_;refine hK6 _ _ ?_;refine HW.seq fun K7 hK7=>?_;obtain ⟨hxm,hxn⟩:=hit_some hx;have c1:CMap h1 (fun b=>F b∨h.size≤b) m L ks q:=r.mp.chg t.chg (fun b g _=>r.kind b g) fun b f=>.inl f;obtain ⟨⟨pb,hq,hb,hf⟩,ho⟩:=c1.pg x hxm;rw [hxn] at hq ho;refine HW.region ?_;refine HO.v (V.mvP rfl) rfl 22 rfl rfl ?_;refine HO.v (V.nilCheck rfl) rfl 23 rfl rfl ?_;refine HO.v (V.fieldAddr rfl T.fd249_2) rfl 24 rfl rfl ?_;refine HO.v (V.load rfl (load_one T.ag245 (v:=.map (some m)) (cell_of t.ordr.hp 2))) rfl 25 rfl rfl ?_;refine HO.v (V.mvI rfl) rfl 26 rfl rfl ?_;refine HO.v (V.lookupE (KV.int .i64) rfl rfl c1.map (v:=ptr (q no)) T.mp245 (inB_iff T.in3) T.zr339 ((c1.get no).trans (by rw [hx];rfl))) rfl 27 rfl rfl ?_;refine HO.v (V.nilCheck rfl) rfl 28 rfl rfl ?_;refine HO.v (V.fieldAddr rfl T.fd341_0) rfl 29 rfl rfl ?_;refine HO.v (V.load rfl (load_one T.ag44 (v:=sv pb) (cell_of hq 0))) rfl 30 rfl rfl ?_;refine HO.c OpC.func rfl 31 rfl rfl (cloneB_any hb.sl (by have:=r.sm x hxm;omega)) ?_;rintro _ h2 ow;obtain ⟨g,rfl⟩:=ow.cap.form;refine HO.v (V.asS rfl) rfl 4 rfl rfl ?_;refine HO.v (V.asB rfl) rfl 5 rfl rfl ?_;refine HO.nil ?_;refine hK7 _ _ ?_;refine HW.ret ?_;refine ⟨.tuple #[sv g,.bool true],Res.two rfl rfl rfl,g,(fun b=>(F b∨h.size≤b)∧b<h1.size),?_,⟨m,ov1,ks,q,?_⟩,⟨?_,?_⟩,?_,?_⟩
  ·rw [hx];rfl
  ·have e:getL no L=x::rid x.no L:=by unfold getL;rw [hx,hxn]
   rw [e];have hnd:=nd_touch (x:=x) r.mp.nd;have o1:Ordr h1 p (.int .i64 room) (.map (some m)) ov1 (nos (x::rid x.no L)).reverse:=by
    have:=t.ordr;rw [←hxn,order_touch r.mp.nd] at this;exact this
   have hmem:=touch_mem r.mp.nd hxm;have:=CIn.mk' (c1.same hmem hnd) o1 (.inl r.fp) (fun b hb=>(t.place b hb).imp (r.fo b) id) ?_ (fun y hy=>r.sm y ((hmem y).1 hy))
   ·exact this.chg ow.ext fun _ _ f=>f
   ·have h1:rid x.no L≠L:=fun e=>(mem_rid.1 (show x∈rid x.no L by rw [e];exact hxm)).2 rfl;have h2:=rid_len x.no L;have h3:(rid x.no L).length≠L.length:=fun e=>h1 ((List.filter_sublist (l:=L)).eq_of_length e);have:=r.len;simp only [List.length_cons];omega
  ·refine (t.chg.mono fun b _ hb=>?_).trans' ow.ext fun _ _ f=>f.elim;rcases hb with rfl | hb
   ·exact r.fp
   ·exact r.fo b hb
  ·exact fun b hb=>hb.1
  ·have e:gotL no L=x.b:=by unfold gotL;rw [hx];rfl
   rw [e];exact ow.cap
  ·intro b hb;have h1:=ow.fresh b hb;have h2:=t.chg.size;exact ⟨by omega,fun h=>by omega⟩
theorem Step.trans {F F1 F2:Nat→Prop} {h h1 h2:Heap} (x:Step F h F1 h1) (y:Step F1 h1 F2 h2):Step F h F2 h2:=
 ⟨x.chg.trans' y.chg fun b hb hk=>by
  rcases x.place b hk with hk | hk
  ·exact hk
  ·omega,fun b hb=>by
  rcases y.place b hb with hk | hk
  ·exact x.place b hk
  ·exact .inr (Nat.le_trans x.chg.size hk)⟩
theorem CIn.hpage {h:Heap} {F:Nat→Prop} {p m:Nat} {ov:SV} {room:Int} {L:List AP} {ks:List Int} {q:Int→Nat} (r:CIn h F p m ov room L ks q) {x:AP} (hx:x∈L) :
  ∃b:SV,h[q x.no]? = some (.cells #[sv b,.bool x.d] 341 (0,0))∧Cap h 1 5 (sv b) (x.b.map bv)∧∀j,blkC (sv b) j→F j:=(r.mp.pg x hx).cells
theorem told_no {x:AP} (h:x.d=false):toldL (some x)=[]:=by simp [toldL,h]
theorem told_yes {x:AP} (h:x.d=true):toldL (some x)=[⟨x.no,0,x.b⟩]:=by simp [toldL,h]
theorem putL1_len (no:Int) (b:List UInt8) (d:Bool) (L:List AP):(putL1 no b d L).length≤L.length+1:=by
 have:=rid_len no L;simp [putL1];omega
theorem Cap.at1 {h:Heap} {e:TypeId} {b o n c:Nat} {xs:List Int} (r:Cap h 1 e (.slice (some ⟨b,o,none⟩) n c) (xs.map iv)) {i:Nat} (hi:i<xs.length):cell h b (o+i)=some (.int .i64 xs[i]):=by
 have hl:=r.sl.cells.len;obtain ⟨b',o',he,hc⟩:=r.sl.cells.pos (by simp at hl;omega);injection he with he;injection he with h1 h2;subst h1 h2;exact hc i _ (by simp [hi,iv])
structure Rv (l zs:List Int) (k:Nat):Prop where
 len:zs.length=l.length
 two:2*k≤l.length
 out:∀t,t<l.length→(t<k∨l.length-1-k<t)→zs[t]? = l[l.length-1-t]?
 mid:∀t,k≤t→t≤l.length-1-k→zs[t]? = l[t]?
theorem Rv.zero (l:List Int):Rv l l 0:=⟨rfl,by omega,fun t h1 h2=>by omega,fun _ _ _=>rfl⟩
theorem Rv.next {l zs:List Int} {k:Nat} (r:Rv l zs k) {j:Nat} (hj:j+1+k=l.length) (hk:k<j) (h1:k<zs.length) (h2:j<zs.length):Rv l ((zs.set k zs[j]).set j zs[k]) (k+1):=by
 have hl:=r.len;have e1:some zs[j]=l[l.length-1-k]?:=by rw [show l.length-1-k=j by omega,←r.mid j (by omega) (by omega)];simp [h2]
 have e2:some zs[k]=l[l.length-1-j]?:=by rw [show l.length-1-j=k by omega,←r.mid k (by omega) (by omega)];simp [h1]
 refine ⟨by simp [hl],by omega,fun t ht ho=>?_,fun t h3 h4=>?_⟩
 ·rw [List.getElem?_set,List.getElem?_set];by_cases hjt:j=t
  ·subst hjt;rw [if_pos rfl,if_pos (by simp;omega),e2]
  ·rw [if_neg hjt];by_cases hkt:k=t
   ·subst hkt;rw [if_pos rfl,if_pos h1,e1]
   ·rw [if_neg hkt,r.out t ht (by omega)]
 ·rw [List.getElem?_set,List.getElem?_set,if_neg (by omega),if_neg (by omega)];exact r.mid t (by omega) (by omega)
theorem Rv.done {l zs:List Int} {k:Nat} (r:Rv l zs k) (h:l.length≤2*k+1):zs=l.reverse:=by
 have hl:=r.len;apply List.ext_getElem?;intro t;by_cases ht:t<l.length
 ·rw [List.getElem?_reverse ht];by_cases ho:t<k∨l.length-1-k<t
  ·exact r.out t ht ho
  ·have:=r.two;rw [r.mid t (by omega) (by omega)];congr 1;omega
 ·rw [List.getElem?_eq_none (by omega),List.getElem?_eq_none (by simp;omega)]
theorem reverse_any {h:Heap} {a:Option Addr} {n c:Nat} {l:List Int} (hcap:Cap h 1 3 (.slice a n c) (l.map iv)) :
  HC Tryz.prog 315 #[.slice a n c] h (fun r h'=>r=.tuple #[]∧Cap h' 1 3 (.slice a n c) (l.reverse.map iv)∧Chg (blkC (.slice a n c)) h h'):=by
 have hle:=hcap.le;have hbd:=hcap.bd;have hln:l.length=n:=by simpa using hcap.sl.cells.len
 refine HC.body Tryz.func315 rfl (by kernel_rfl) 28 rfl rfl ?_;refine HW.seq fun K1 hK1=>?_;refine HW.region ?_;refine HO.v (V.mvS rfl) rfl 4 rfl rfl ?_;refine HO.v (V.len rfl T.el24) rfl 5 rfl rfl ?_;refine HO.v (V.sub rfl rfl (by omega)) rfl 6 rfl rfl ?_;refine HO.v (V.asI rfl) rfl 2 rfl rfl ?_;refine HO.v (V.asI rfl) rfl 3 rfl rfl ?_;refine HO.nil ?_;refine hK1 _ _ ?_;refine HW.block ?_;have htwo0:=hln;refine HW.loopm (fun m s hh=>∃k:Nat,Has s [(0,.slice a n c),(2,.int .i64 k),(3,.int .i64 ((n:Int)-1-k))]∧(∃zs:List Int,Cap hh 1 3 (.slice a n c) (zs.map iv)∧Chg (blkC (.slice a n c)) h hh∧Rv l zs k)∧m=n-k) ?_ ?_
 ·exact ⟨_,0,⟨rfl,rfl,(by show Value.int _ _=Value.int _ _;congr 1;omega),trivial⟩,⟨l,hcap,Chg.refl _ _,Rv.zero l⟩,rfl⟩
 rintro m s hh ⟨k,hs,⟨zs,hz,hch,hrv⟩,rfl⟩ J2 hJ2;refine HW.frame hs fun τ=>?_;refine HW.seq fun K3 hK3=>?_;refine HW.seq fun K4 hK4=>?_;refine HW.region ?_;refine HO.v (V.mvI rfl) rfl 7 rfl rfl ?_;refine HO.v (V.mvI rfl) rfl 8 rfl rfl ?_;refine HO.v (V.lss rfl rfl rfl) rfl 9 rfl rfl ?_;refine HO.nil ?_;refine hK4 _ _ ?_;refine HW.condr rfl (fun hc=>?_) (fun hc=>?_)
 ·
  refine HW.exit ?_;refine ⟨.tuple #[],Res.none rfl,rfl,(by have h1:=of_decide_eq_false hc;rw [←hrv.done (by omega)];exact hz),hch⟩
 refine HW.skip ?_;refine hK3 _ _ ?_;refine HW.seq fun K5 hK5=>?_;have hlt:=of_decide_eq_true hc;have htwo:=hrv.two;have hzl:=hrv.len;obtain ⟨j,hj⟩:∃j:Nat,(n:Int)-1-k=j:=⟨n-1-k,by omega⟩;have hj1:j+1+k=l.length:=by omega
 have hkj:k<j:=by omega
 have hk2:k<zs.length:=by omega
 have hj2:j<zs.length:=by omega
 obtain ⟨b,o,rfl,_⟩:=hz.sl.cells.pos (by omega);rw [hj];refine HW.block ?_;refine HW.any 13 (fun fl h=>cond fl True (Cap h 1 3 (.slice (some ⟨b,o,none⟩) n c) (zs.map iv))) mixed ?_;have hS:Cap hh 1 3 (.slice (some ⟨b,o,none⟩) n c) (zs.map iv):=hz;refine HA.p 0 rfl (by kernel_rfl) (by kernel_rfl) (by kernel_rfl) rfl rfl 14 rfl rfl (fl:=false) (by kernel_rfl) hS (fun _=>V.mvS rfl) ?_;refine HA.p 1 rfl (by kernel_rfl) (by kernel_rfl) (by kernel_rfl) rfl rfl 15 rfl rfl (fl:=false) (by kernel_rfl) hS (fun _=>V.mvI rfl) ?_;refine HA.p 2 rfl (by kernel_rfl) (by kernel_rfl) (by kernel_rfl) rfl rfl 16 rfl rfl (fl:=false) (by kernel_rfl) hS (fun _=>V.mvS rfl) ?_;refine HA.p 3 rfl (by kernel_rfl) (by kernel_rfl) (by kernel_rfl) rfl rfl 17 rfl rfl (fl:=false) (by kernel_rfl) hS (fun _=>V.mvI rfl) ?_;refine HA.p 4 rfl (by kernel_rfl) (by kernel_rfl) (by kernel_rfl) rfl rfl 18 rfl rfl (fl:=false) (by kernel_rfl) hS (fun _=>V.mvS rfl) ?_;refine HA.p 5 rfl (by kernel_rfl) (by kernel_rfl) (by kernel_rfl) rfl rfl 19 rfl rfl (fl:=false) (by kernel_rfl) hS (fun _=>V.mvI rfl) ?_;refine HA.p 6 rfl (by kernel_rfl) (by kernel_rfl) (by kernel_rfl) rfl rfl 20 rfl rfl (fl:=false) (by kernel_rfl) hS (fun _=>V.indexAddr1 rfl rfl T.el24 T.sz3 (by omega)) ?_;have hg:∀h',Cap h' 1 3 (.slice (some ⟨b,o,none⟩) n c) (zs.map iv)→LoadIs Tryz.prog h' 3 ⟨b,o+(j:Int).toNat,none⟩ (.int .i64 (zs[j]'hj2)):=fun h' hS=>load_one T.ag3 (Cap.at1 hS hj2);have hg2:∀h',Cap h' 1 3 (.slice (some ⟨b,o,none⟩) n c) (zs.map iv)→LoadIs Tryz.prog h' 3 ⟨b,o+(k:Int).toNat,none⟩ (.int .i64 (zs[k]'hk2)):=fun h' hS=>load_one T.ag3 (Cap.at1 hS hk2);refine HA.v 7 (v:=.int .i64 (zs[j]'hj2)) rfl (by kernel_rfl) (by kernel_rfl) (by kernel_rfl) rfl rfl 21 rfl rfl (fl:=false) (by kernel_rfl) hS (by kernel_rfl) (fun h' hS=>V.load rfl (hg h' hS)) ?_;refine HA.p 8 rfl (by kernel_rfl) (by kernel_rfl) (by kernel_rfl) rfl rfl 22 rfl rfl (fl:=false) (by kernel_rfl) hS (fun _=>V.mvS rfl) ?_;refine HA.p 9 rfl (by kernel_rfl) (by kernel_rfl) (by kernel_rfl) rfl rfl 23 rfl rfl (fl:=false) (by kernel_rfl) hS (fun _=>V.mvI rfl) ?_;refine HA.p 10 rfl (by kernel_rfl) (by kernel_rfl) (by kernel_rfl) rfl rfl 24 rfl rfl (fl:=false) (by kernel_rfl) hS (fun _=>V.indexAddr1 rfl rfl T.el24 T.sz3 (by omega)) ?_;refine HA.v 11 (v:=.int .i64 (zs[k]'hk2)) rfl (by kernel_rfl) (by kernel_rfl) (by kernel_rfl) rfl rfl 25 rfl rfl (fl:=false) (by kernel_rfl) hS (by kernel_rfl) (fun h' hS=>V.load rfl (hg2 h' hS)) ?_;refine HA.p 12 rfl (by kernel_rfl) (by kernel_rfl) (by kernel_rfl) rfl rfl 26 rfl rfl (fl:=false) (by kernel_rfl) hS (fun _=>V.indexAddr1 rfl rfl T.el24 T.sz3 (by omega)) ?_;refine HA.one 13 (by kernel_rfl) ?_;refine Up.ur rfl rfl rfl (V.storeCI rfl rfl T.sz3 hS (by omega)) (fl:=true) (by kernel_rfl) ?_;rintro h1 s1;refine ⟨trivial,?_⟩;refine HA.p 14 rfl (by kernel_rfl) (by kernel_rfl) (by kernel_rfl) rfl rfl 27 rfl rfl (fl:=true) (by kernel_rfl) trivial (fun _=>V.indexAddr1 rfl rfl T.el24 T.sz3 (by omega)) ?_;refine HA.one 15 (by kernel_rfl) ?_;refine Up.ur rfl rfl rfl (V.storeCI rfl rfl T.sz3 s1.cap (by omega)) (fl:=true) (by kernel_rfl) ?_;rintro h2 s2;refine ⟨trivial,?_⟩;refine HA.done (by kernel_rfl) ?_;refine hK5 _ _ ?_;refine HW.region ?_;refine HO.v (V.mvI rfl) rfl 10 rfl rfl ?_;refine HO.v (V.add rfl rfl (by omega)) rfl 11 rfl rfl ?_;refine HO.v (V.mvI rfl) rfl 12 rfl rfl ?_;refine HO.v (V.sub rfl rfl (by omega)) rfl 13 rfl rfl ?_;refine HO.v (V.asI rfl) rfl 2 rfl rfl ?_;refine HO.v (V.asI rfl) rfl 3 rfl rfl ?_;refine HO.nil ?_;refine hJ2 _ _ _ ⟨k+1,⟨rfl,rfl,(by show Value.int _ _=Value.int _ _;congr 1;omega),trivial⟩,⟨_,?_,?_,hrv.next hj1 hkj hk2 hj2⟩,rfl⟩ (by omega)
 ·have:=s2.cap;simpa [List.map_set,iv] using this
 ·refine hch.trans ((s1.chg.trans s2.chg).mono fun x _ hx=>?_);subst hx;exact ⟨o,n,c,rfl⟩
theorem pages_any {h:Heap} {F:Nat→Prop} {p:Nat} {room:Int} {L:List AP} (r:CRep h F p room L) :
  HC Tryz.prog 309 #[ptr p] h (fun v h'=>Own h h' 1 3 v ((nos L).map iv)):=by
 obtain ⟨m,ov,ks,q,r⟩:=r;refine HC.body Tryz.func309 rfl (by kernel_rfl) 15 rfl rfl ?_;refine HW.seq fun K1 hK1=>?_;refine HW.region ?_;refine HO.v (V.asS rfl) rfl 2 rfl rfl ?_;refine HO.nil ?_;refine hK1 _ _ ?_;refine HW.seq fun K2 hK2=>?_;refine HW.seq fun K3 hK3=>?_;refine HW.region ?_;refine HO.v (V.mvP rfl) rfl 4 rfl rfl ?_;refine HO.v (V.ptrEqNil rfl rfl T.pt194) rfl 5 rfl rfl ?_;refine HO.nil ?_;refine hK3 _ _ ?_;refine HW.cond rfl (fun hc=>?_) (fun hc=>?_)
 ·
  refine HW.seq fun K4 hK4=>?_;refine HW.region ?_;refine HO.v (V.asS rfl) rfl 2 rfl rfl ?_;refine HO.nil ?_;refine hK4 _ _ ?_;refine HW.ret ?_;refine ⟨.slice none 0 0,Res.one rfl rfl,(by simp at hc)⟩
 refine HW.skip ?_;refine hK2 _ _ ?_;refine HW.seq fun K5 hK5=>?_;refine HW.region ?_;refine HO.v (V.mvP rfl) rfl 6 rfl rfl ?_;refine HO.v (V.nilCheck rfl) rfl 7 rfl rfl ?_;refine HO.v (V.fieldAddr rfl T.fd249_0) rfl 8 rfl rfl ?_;refine HO.v (V.fieldAddr rfl T.fd247_0) rfl 9 rfl rfl ?_;refine HO.v (V.load rfl (load_one T.ag24 (v:=sv ov) (cell_of r.hp 0))) rfl 10 rfl rfl ?_;refine HO.c OpC.func rfl 11 rfl rfl (cloneI_any r.od.ord.sl (by have:=r.len;simp [nos];omega)) ?_;rintro _ h1 ow;obtain ⟨rb,rfl⟩:=ow.cap.form;refine HO.v (V.asS rfl) rfl 3 rfl rfl ?_;refine HO.nil ?_;refine hK5 _ _ ?_;refine HW.seq fun K6 hK6=>?_;refine HW.region ?_;refine HO.v (V.mvS rfl) rfl 12 rfl rfl ?_;refine HO.c OpC.func rfl 13 rfl rfl (reverse_any ow.cap) ?_;rintro _ h2 ⟨rfl,hcap,hchg⟩;refine HO.nil ?_;refine hK6 _ _ ?_;refine HW.seq fun K7 hK7=>?_;refine HW.region ?_;refine HO.v (V.mvS rfl) rfl 14 rfl rfl ?_;refine HO.v (V.asS rfl) rfl 2 rfl rfl ?_;refine HO.nil ?_;refine hK7 _ _ ?_;refine HW.ret ?_;refine ⟨sv rb,Res.one rfl rfl,?_⟩;rw [List.reverse_reverse] at hcap;exact ⟨hcap,ow.ext.trans' hchg fun b hb hk=>absurd (ow.fresh b hk) (by omega),ow.fresh⟩
def cl (s:List Int) (L:List AP):List AP:=L.map fun x=>if x.no∈s then ⟨x.no,x.b,false⟩ else x
theorem cl_no {s:List Int} {x:AP} : (if x.no∈s then ⟨x.no,x.b,false⟩ else x:AP).no=x.no:=by by_cases h:x.no∈s<;>simp [h]
theorem cl_b {s:List Int} {x:AP} : (if x.no∈s then ⟨x.no,x.b,false⟩ else x:AP).b=x.b:=by by_cases h:x.no∈s<;>simp [h]
theorem nos_cl (s:List Int) (L:List AP):nos (cl s L)=nos L:=by
 unfold nos cl;rw [List.map_map];exact List.map_congr_left fun x _=>cl_no
theorem cl_nil (L:List AP):cl [] L=L:=by unfold cl;simp
theorem cl_app (s t:List Int) (L:List AP):cl t (cl s L)=cl (s++t) L:=by
 unfold cl;rw [List.map_map];refine List.map_congr_left fun x _=>?_;by_cases h1:x.no∈s<;>by_cases h2:x.no∈t<;>simp [h1,h2]
theorem cl_not {no:Int} {L:List AP} (h:no∉nos L):cl [no] L=L:=by
 unfold cl;have:∀x∈L,(if x.no∈[no] then ⟨x.no,x.b,false⟩ else x:AP)=id x:=fun x hx=>by
  rw [if_neg];rfl;simp only [List.mem_singleton];exact fun e=>h (List.mem_map.2 ⟨x,hx,e⟩)
 rw [List.map_congr_left this,List.map_id]
theorem mem_cl {s:List Int} {L:List AP} {y:AP} : y∈cl s L↔∃x∈L,(if x.no∈s then ⟨x.no,x.b,false⟩ else x:AP)=y:=by unfold cl;simp
theorem CIn.clean {h:Heap} {F:Nat→Prop} {p m:Nat} {ov:SV} {room:Int} {L:List AP} {ks:List Int} {q:Int→Nat} (r:CIn h F p m ov room L ks q) {x:AP} (hx:x∈L) {pb:SV} (hq:h[q x.no]? = some (.cells #[sv pb,.bool x.d] 341 (0,0))) :
  CIn (hput h (q x.no) #[sv pb,.bool false]) F p m ov room (cl [x.no] L) ks q:=by
 have hch:Chg (fun b=>b=q x.no) h (hput h (q x.no) #[sv pb,.bool false]):=hput_chg _ _ _;have hT:isT h (q x.no) 341:=⟨_,_,hq⟩;have hbytes:∀ {b:SV} {l:List UInt8},Cap h 1 5 (sv b) (l.map bv)→Cap (hput h (q x.no) #[sv pb,.bool false]) 1 5 (sv b) (l.map bv):=fun hb=>hb.chg hch fun j hj e=>by
  subst e;exact absurd (hT.eq (hb.blk hj)) (by decide)
 refine ⟨⟨r.mp.map.chg hch fun e=>?_,fun k=>by rw [nos_cl];exact r.mp.mem k,by rw [nos_cl];exact r.mp.nd,fun y hy=>?_,fun y hy z hz e=>?_,r.mp.own⟩,?_,r.fp,r.fo,fun b hb=>by rw [hput_size];exact r.lt b hb,by unfold cl;rw [List.length_map];exact r.len,fun y hy=>?_⟩
 ·obtain ⟨es,c,h1,_⟩:=r.mp.map;rw [e,hq] at h1;injection h1 with h1;cases h1
 ·obtain ⟨z,hz,rfl⟩:=mem_cl.1 hy;obtain ⟨⟨b,h1,h2,h3⟩,h4⟩:=r.mp.pg z hz;by_cases e:z.no=x.no
  ·obtain rfl:=nos_inj r.mp.nd hz hx e;rw [if_pos (by simp)];rw [h1] at hq;injection hq with hq;injection hq with hq;injection hq with hq;simp at hq;have hqb:b=pb:=Prod.ext hq.1 (Prod.ext hq.2.1 hq.2.2);subst hqb;exact ⟨⟨b,hput_same h1,hbytes h2,h3⟩,h4⟩
  ·rw [if_neg (by simpa using e)];refine ⟨⟨b,hch.block h1 fun e2=>e (r.mp.inj z hz x hx e2),hbytes h2,h3⟩,h4⟩
 ·obtain ⟨y',hy',rfl⟩:=mem_cl.1 hy;obtain ⟨z',hz',rfl⟩:=mem_cl.1 hz;rw [cl_no,cl_no] at *;exact r.mp.inj y' hy' z' hz' e
 ·rw [nos_cl];refine r.od.chg hch (fun e=>?_) fun b hb e=>?_
  ·rw [←e] at hT;have h1:isT h p 249:=⟨_,_,r.hp⟩;exact absurd (h1.eq hT) (by decide)
  ·subst e;exact absurd (hT.eq (r.od.ord.blk hb)) (by decide)
 ·obtain ⟨z,hz,rfl⟩:=mem_cl.1 hy;rw [cl_b];exact r.sm z hz
theorem ints_page {h:Heap} {v:Value} {l:List Int} (hl:Sl h 1 v (l.map iv)) {q:Nat} {pb:SV} {d:Bool} (hq:h[q]? = some (.cells #[sv pb,.bool d] 341 (0,0))):∀b,blk v b→b≠q:=fun b hb e=>by
 subst e;obtain ⟨o,n,c,rfl,hn⟩:=hb;have hll:=hl.cells.len;obtain ⟨b',o',he,hc⟩:=hl.cells.pos hn;injection he with he;injection he with e1 e2;subst e1 e2;have hl0:0<l.length:=by simp at hll;omega
 have:=hc 0 (iv l[0]) (by simp [hl0]);rw [cell_of hq] at this;rcases o with _ | _ | o
 ·simp [iv] at this
 ·simp [iv] at this
 ·simp at this
theorem clean_any {h:Heap} {F:Nat→Prop} {p:Nat} {room:Int} {L:List AP} (r:CRep h F p room L) {lv:SV} {l:List Int} (hl:Sl h 1 (sv lv) (l.map iv)) (hN:l.length≤1000000000) :
  HC Tryz.prog 306 #[ptr p,sv lv] h (fun v h'=>v=.tuple #[]∧CRep h' F p room (cl (if l=[] then (nos L).reverse else l) L)∧Chg F h h'):=by
 obtain ⟨mb,ov,ks,q,r⟩:=r;obtain ⟨ll,hll⟩:∃ll,ll=if l=[] then (nos L).reverse else l:=⟨_,rfl⟩
 have hln:l.length=lv.2.1:=by
  obtain ⟨a,n,c⟩:=lv;have hl':Sl h 1 (.slice a n c) (l.map iv):=hl;simpa using hl'.cells.len
 have hlb:ll.length≤1000000000:=by
  subst hll;by_cases e:l=[]
  ·rw [if_pos e];have:=r.len;simp [nos];omega
  ·rw [if_neg e];exact hN
 rw [←hll];refine HC.body Tryz.func306 rfl (by kernel_rfl) 35 rfl rfl ?_;refine HW.seq fun K1 hK1=>?_;refine HW.seq fun K2 hK2=>?_;refine HW.region ?_;refine HO.v (V.mvP rfl) rfl 7 rfl rfl ?_;refine HO.v (V.ptrEqNil rfl rfl T.pt194) rfl 8 rfl rfl ?_;refine HO.nil ?_;refine hK2 _ _ ?_;refine HW.cond rfl (fun hc=>?_) (fun hc=>?_)
 ·
  refine HW.ret ?_;refine ⟨.tuple #[],Res.none rfl,(by simp at hc)⟩
 refine HW.skip ?_;refine hK1 _ _ ?_;refine HW.seqc (fun s hh=>∃lv2:SV,Has s [(0,ptr p),(1,sv lv2)]∧h=hh∧Sl h 1 (sv lv2) (ll.map iv)) ?_ ?_
 ·
  refine HW.seq fun K4 hK4=>?_;refine HW.region ?_;refine HO.v (V.mvS rfl) rfl 9 rfl rfl ?_;refine HO.v (V.len rfl T.el24) rfl 10 rfl rfl ?_;refine HO.v (V.eql rfl rfl rfl) rfl 11 rfl rfl ?_;refine HO.nil ?_;refine hK4 _ _ ?_;refine HW.condr rfl (fun hc=>?_) (fun hc=>?_)
  ·
   refine HW.skip ?_;refine ⟨lv,⟨rfl,rfl,trivial⟩,rfl,by rw [hll,if_neg (fun e=>by have h1:=of_decide_eq_false hc;rw [e] at hln;simp at hln;omega)];exact hl⟩
  refine HW.region ?_;refine HO.v (V.mvP rfl) rfl 12 rfl rfl ?_;refine HO.v (V.nilCheck rfl) rfl 13 rfl rfl ?_;refine HO.v (V.fieldAddr rfl T.fd249_0) rfl 14 rfl rfl ?_;refine HO.v (V.fieldAddr rfl T.fd247_0) rfl 15 rfl rfl ?_;refine HO.v (V.load rfl (load_one T.ag24 (v:=sv ov) (cell_of r.hp 0))) rfl 16 rfl rfl ?_;refine HO.v (V.asS rfl) rfl 1 rfl rfl ?_;refine HO.nil ?_;refine ⟨ov,⟨rfl,rfl,trivial⟩,rfl,by rw [hll,if_pos (List.length_eq_zero_iff.1 (by have h1:=of_decide_eq_true hc;omega))];exact r.od.ord.sl⟩
 rintro s hh ⟨⟨a,n,c⟩,hs,rfl,hl2⟩;have hl3:Sl h 1 (.slice a n c) (ll.map iv):=hl2;have hnl:ll.length=n:=by simpa using hl3.cells.len
 refine HW.frame hs fun τ=>?_;refine HW.seq fun K5 hK5=>?_;refine HW.region ?_;refine HO.v (V.mvS rfl) rfl 17 rfl rfl ?_;refine HO.v (V.len rfl T.el24) rfl 18 rfl rfl ?_;refine HO.v (V.mvI rfl) rfl 19 rfl rfl ?_;refine HO.nil ?_;refine hK5 _ _ ?_;refine HW.block ?_;refine HW.loopm (fun m s hh=>∃k:Nat,Has s [(0,ptr p),(17,.slice a n c),(18,.int .i64 n),(19,.int .i64 k)]∧CIn hh F p mb ov room (cl (ll.take k) L) ks q∧Sl hh 1 (.slice a n c) (ll.map iv)∧Chg F h hh∧k≤n∧m=n-k) ?_ ?_
 ·exact ⟨_,0,⟨rfl,rfl,rfl,rfl,trivial⟩,(by rw [List.take_zero,cl_nil];exact r),hl2,Chg.refl _ _,by omega,rfl⟩
 rintro m s hh ⟨k,hs,rk,hlk,chk,hkn,rfl⟩ J6 hJ6;refine HW.frame hs fun τ=>?_;refine HW.seq fun K7 hK7=>?_;refine HW.region ?_;refine HO.v (V.lss rfl rfl rfl) rfl 20 rfl rfl ?_;refine HO.nil ?_;refine hK7 _ _ ?_;refine HW.seq fun K8 hK8=>?_;refine HW.condr rfl (fun hc=>?_) (fun hc=>?_)
 ·
  refine HW.exit ?_;refine ⟨.tuple #[],Res.none rfl,rfl,⟨mb,ov,ks,q,(by have h1:=of_decide_eq_false hc;rw [List.take_of_length_le (by omega)] at rk;exact rk)⟩,chk⟩
 refine HW.skip ?_;refine hK8 _ _ ?_;refine HW.seq fun K9 hK9=>?_;have hkn':=of_decide_eq_true hc;have hk2:k<ll.length:=by omega
 have htk:ll.take (k+1)=ll.take k++[ll[k]]:=take_next hk2;obtain ⟨b,o,rfl,hcell⟩:=hlk.cells.pos (by omega);refine HW.block ?_;refine HW.seq fun K10 hK10=>?_;refine HW.region ?_;refine HO.v (V.indexAddr1 rfl rfl T.el24 T.sz3 (by omega)) rfl 21 rfl rfl ?_;refine HO.v (V.load rfl (load_one T.ag3 (v:=iv ll[k]) (hcell k _ (by simp [hk2])))) rfl 22 rfl rfl ?_;refine HO.v (V.asI rfl) rfl 5 rfl rfl ?_;refine HO.nil ?_;refine hK10 _ _ ?_;refine HW.seq fun K11 hK11=>?_;refine HW.region ?_;refine HO.v (V.mvP rfl) rfl 23 rfl rfl ?_;refine HO.v (V.nilCheck rfl) rfl 24 rfl rfl ?_;refine HO.v (V.fieldAddr rfl T.fd249_2) rfl 25 rfl rfl ?_;refine HO.v (V.load rfl (load_one T.ag245 (v:=.map (some mb)) (cell_of rk.hp 2))) rfl 26 rfl rfl ?_;refine HO.v (V.mvI rfl) rfl 27 rfl rfl ?_;refine HO.v (V.lookupE (KV.int .i64) rfl rfl rk.mp.map T.mp245 (inB_iff T.in3) T.zr339 (rk.mp.get ll[k])) rfl 28 rfl rfl ?_;refine HO.v (V.asP rfl) rfl 6 rfl rfl ?_;refine HO.nil ?_;refine hK11 _ _ ?_;refine HW.seq fun K12 hK12=>?_;refine HW.region ?_;refine HO.v (V.mvP rfl) rfl 29 rfl rfl ?_;refine HO.v (V.ptrNeNil rfl rfl T.pt339) rfl 30 rfl rfl ?_;refine HO.nil ?_;refine hK12 _ _ ?_;refine HW.condr rfl (fun hc=>?_) (fun hc=>?_)
 ·
  refine HW.skip ?_;refine hK9 _ _ ?_;refine HW.region ?_;refine HO.v (V.add rfl rfl (by omega)) rfl 34 rfl rfl ?_;refine HO.v (V.mvI rfl) rfl 19 rfl rfl ?_;refine HO.nil ?_;refine hJ6 _ _ _ ⟨k+1,⟨rfl,rfl,rfl,rfl,trivial⟩,(by rw [htk,←cl_app,cl_not (fun hm=>by obtain ⟨x,hx⟩:=hit_mem hm;rw [hx] at hc;simp at hc)];exact rk),hlk,chk,by omega,rfl⟩ (by omega)
 have hx:∃x,hit ll[k] (cl (ll.take k) L)=some x:=by
  cases e:hit ll[k] (cl (ll.take k) L) with
  | some x=>exact ⟨x,rfl⟩
  | none=>rw [e] at hc;simp at hc
 obtain ⟨x,hx⟩:=hx;obtain ⟨hxm,hxn⟩:=hit_some hx;obtain ⟨pb,hq',_⟩:=rk.hpage hxm;have hq:=hq';rw [hxn] at hq;rw [hx];refine HW.region ?_;refine HO.v (V.mvP rfl) rfl 31 rfl rfl ?_;refine HO.v (V.nilCheck rfl) rfl 32 rfl rfl ?_;refine HO.v (V.fieldAddr rfl T.fd341_1) rfl 33 rfl rfl ?_;refine HO.u (V.storeB (cs':=#[sv pb,.bool false]) rfl rfl T.sz4 hq (by simp) (by simp) rfl) rfl rfl ?_;refine HO.nil ?_;refine hK9 _ _ ?_;refine HW.region ?_;refine HO.v (V.add rfl rfl (by omega)) rfl 34 rfl rfl ?_;refine HO.v (V.mvI rfl) rfl 19 rfl rfl ?_;refine HO.nil ?_;refine hJ6 _ _ _ ⟨k+1,⟨rfl,rfl,rfl,rfl,trivial⟩,(by rw [htk,←cl_app,←hxn];exact rk.clean hxm hq'),hlk.chg (hput_chg _ _ _) (ints_page hlk hq),chk.trans ((hput_chg _ _ _).mono fun b _ hb=>by rw [hb,←hxn];exact (rk.mp.pg x hxm).own),by omega,rfl⟩ (by omega)
def dr (s:List Int) (L:List AP):List AP:=L.filter fun x=>decide (x.no∉s)
theorem dr_nil (L:List AP):dr [] L=L:=by unfold dr;simp
theorem dr_app (s:List Int) (no:Int) (L:List AP):rid no (dr s L)=dr (s++[no]) L:=by
 unfold rid dr;rw [List.filter_filter];apply List.filter_congr;intro x _;by_cases h1:x.no∈s<;>by_cases h2:x.no=no<;>simp [h1,h2]
theorem ints_lt {h:Heap} {v:Value} {l:List Int} (hl:Sl h 1 v (l.map iv)):∀b,blk v b→b<h.size:=fun b hb=>by
 obtain ⟨o,n,c,rfl,hn⟩:=hb;have hll:=hl.cells.len;obtain ⟨b',o',he,hc⟩:=hl.cells.pos hn;injection he with he;injection he with e1 e2;subst e1 e2;have hl0:0<l.length:=by simp at hll;omega
 exact cell_lt (hc 0 (iv l[0]) (by simp [hl0]))
theorem Step.refl (F:Nat→Prop) (h:Heap):Step F h F h:=⟨Chg.refl _ _,fun _ hb=>.inl hb⟩
theorem Step.ext {F F':Nat→Prop} {h h1 h2:Heap} (e:Ext h h1) (s:Step F h1 F' h2):Step F h F' h2:=
 ⟨e.to.trans s.chg,fun b hb=>(s.place b hb).imp id fun k=>Nat.le_trans e.size k⟩
theorem blk_blkC {v:Value} {b:Nat} (h:blk v b):blkC v b:=let ⟨o,n,c,e,_⟩:=h;⟨o,n,c,e⟩
theorem dropl_any {h:Heap} {F:Nat→Prop} {p:Nat} {room:Int} {L:List AP} (r:CRep h F p room L) {lv:SV} {l:List Int} (hl:Sl h 1 (sv lv) (l.map iv)) (hN:l.length≤1000000000) (hd:∀b,blk (sv lv) b→¬F b) :
  HC Tryz.prog 286 #[ptr p,sv lv] h (fun v h'=>∃F',v=.tuple #[]∧CRep h' F' p room (dr (if l=[] then (nos L).reverse else l) L)∧Step F h F' h'):=by
 obtain ⟨mb,ov,ks,q,r⟩:=r;obtain ⟨ll,hll⟩:∃ll,ll=if l=[] then (nos L).reverse else l:=⟨_,rfl⟩
 have hln:l.length=lv.2.1:=by
  obtain ⟨a,n,c⟩:=lv;have hl':Sl h 1 (.slice a n c) (l.map iv):=hl;simpa using hl'.cells.len
 have hlb:ll.length≤1000000000:=by
  subst hll;by_cases e:l=[]
  ·rw [if_pos e];have:=r.len;simp [nos];omega
  ·rw [if_neg e];exact hN
 rw [←hll];refine HC.body Tryz.func286 rfl (by kernel_rfl) 27 rfl rfl ?_;refine HW.seq fun K1 hK1=>?_;refine HW.seq fun K2 hK2=>?_;refine HW.region ?_;refine HO.v (V.mvP rfl) rfl 6 rfl rfl ?_;refine HO.v (V.ptrEqNil rfl rfl T.pt194) rfl 7 rfl rfl ?_;refine HO.nil ?_;refine hK2 _ _ ?_;refine HW.cond rfl (fun hc=>?_) (fun hc=>?_)
 ·
  refine HW.ret ?_;refine ⟨.tuple #[],Res.none rfl,(by simp at hc)⟩
 refine HW.skip ?_;refine hK1 _ _ ?_;refine HW.seqc (fun s hh=>∃lv2:SV,Has s [(0,ptr p),(1,sv lv2)]∧Ext h hh∧Sl hh 1 (sv lv2) (ll.map iv)∧∀b,blk (sv lv2) b→¬F b) ?_ ?_
 ·
  refine HW.seq fun K4 hK4=>?_;refine HW.region ?_;refine HO.v (V.mvS rfl) rfl 8 rfl rfl ?_;refine HO.v (V.len rfl T.el24) rfl 9 rfl rfl ?_;refine HO.v (V.eql rfl rfl rfl) rfl 10 rfl rfl ?_;refine HO.nil ?_;refine hK4 _ _ ?_;refine HW.condr rfl (fun hc=>?_) (fun hc=>?_)
  ·
   refine HW.skip ?_;refine ⟨lv,⟨rfl,rfl,trivial⟩,Ext.refl _,(by rw [hll,if_neg (fun e=>by have h1:=of_decide_eq_false hc;rw [e] at hln;simp at hln;omega)];exact hl),hd⟩
  refine HW.region ?_;refine HO.v (V.mvP rfl) rfl 11 rfl rfl ?_;refine HO.v (V.nilCheck rfl) rfl 12 rfl rfl ?_;refine HO.v (V.fieldAddr rfl T.fd249_0) rfl 13 rfl rfl ?_;refine HO.v (V.fieldAddr rfl T.fd247_0) rfl 14 rfl rfl ?_;refine HO.v (V.load rfl (load_one T.ag24 (v:=sv ov) (cell_of r.hp 0))) rfl 15 rfl rfl ?_;refine HO.c OpC.func rfl 16 rfl rfl (cloneI_any r.od.ord.sl (by have:=r.len;simp [nos];omega)) ?_;rintro _ h1 ow;obtain ⟨g,rfl⟩:=ow.cap.form;refine HO.v (V.asS rfl) rfl 1 rfl rfl ?_;refine HO.nil ?_;refine ⟨g,⟨rfl,rfl,trivial⟩,ow.ext,(by rw [hll,if_pos (List.length_eq_zero_iff.1 (by have h1:=of_decide_eq_true hc;omega))];exact ow.sl),fun b hb f=>by have h2:=ow.fresh b (blk_blkC hb);have:=r.lt b f;omega⟩
 rintro s hh1 ⟨⟨a,n,c⟩,hs,x1,hl2,hd2⟩;have hl3:Sl hh1 1 (.slice a n c) (ll.map iv):=hl2;have hnl:ll.length=n:=by simpa using hl3.cells.len
 refine HW.frame hs fun τ=>?_;refine HW.seq fun K5 hK5=>?_;refine HW.region ?_;refine HO.v (V.mvS rfl) rfl 17 rfl rfl ?_;refine HO.v (V.len rfl T.el24) rfl 18 rfl rfl ?_;refine HO.v (V.mvI rfl) rfl 19 rfl rfl ?_;refine HO.nil ?_;refine hK5 _ _ ?_;refine HW.block ?_;refine HW.loopm (fun m s hh=>∃k:Nat,Has s [(0,ptr p),(17,.slice a n c),(18,.int .i64 n),(19,.int .i64 k)]∧∃Fk,CRep hh Fk p room (dr (ll.take k) L)∧Sl hh 1 (.slice a n c) (ll.map iv)∧Step F hh1 Fk hh∧(∀b,blk (.slice a n c) b→¬Fk b)∧k≤n∧m=n-k) ?_ ?_
 ·exact ⟨_,0,⟨rfl,rfl,rfl,rfl,trivial⟩,F,⟨mb,ov,ks,q,(by rw [List.take_zero,dr_nil];exact r.chg x1 fun _ _ f=>f)⟩,hl2,Step.refl _ _,hd2,by omega,rfl⟩
 rintro m s hh ⟨k,hs,Fk,⟨mk,ovk,ksk,qk,rk⟩,hlk,stk,hdk,hkn,rfl⟩ J6 hJ6;refine HW.frame hs fun τ=>?_;refine HW.seq fun K7 hK7=>?_;refine HW.region ?_;refine HO.v (V.lss rfl rfl rfl) rfl 20 rfl rfl ?_;refine HO.nil ?_;refine hK7 _ _ ?_;refine HW.seq fun K8 hK8=>?_;refine HW.condr rfl (fun hc=>?_) (fun hc=>?_)
 ·
  refine HW.exit ?_;refine ⟨.tuple #[],Res.none rfl,Fk,rfl,⟨mk,ovk,ksk,qk,(by have h1:=of_decide_eq_false hc;rw [List.take_of_length_le (by omega)] at rk;exact rk)⟩,Step.ext x1 stk⟩
 refine HW.skip ?_;refine hK8 _ _ ?_;refine HW.seq fun K9 hK9=>?_;have hkn':=of_decide_eq_true hc;have hk2:k<ll.length:=by omega
 have htk:ll.take (k+1)=ll.take k++[ll[k]]:=take_next hk2;obtain ⟨b,o,rfl,hcell⟩:=hlk.cells.pos (by omega);refine HW.block ?_;refine HW.seq fun K10 hK10=>?_;refine HW.region ?_;refine HO.v (V.indexAddr1 rfl rfl T.el24 T.sz3 (by omega)) rfl 21 rfl rfl ?_;refine HO.v (V.load rfl (load_one T.ag3 (v:=iv ll[k]) (hcell k _ (by simp [hk2])))) rfl 22 rfl rfl ?_;refine HO.v (V.asI rfl) rfl 5 rfl rfl ?_;refine HO.nil ?_;refine hK10 _ _ ?_;refine HW.region ?_;refine HO.v (V.mvP rfl) rfl 23 rfl rfl ?_;refine HO.v (V.mvI rfl) rfl 24 rfl rfl ?_;refine HO.c OpC.func rfl 25 rfl rfl (drop_in rk ll[k]) ?_;rintro _ h3 ⟨ov3,rfl,r3,ch3⟩;refine HO.nil ?_;refine hK9 _ _ ?_;refine HW.region ?_;refine HO.v (V.add rfl rfl (by omega)) rfl 26 rfl rfl ?_;refine HO.v (V.mvI rfl) rfl 19 rfl rfl ?_;refine HO.nil ?_;refine hJ6 _ _ _ ⟨k+1,⟨rfl,rfl,rfl,rfl,trivial⟩,wd Fk hh.size h3.size,⟨mk,ov3,_,qk,(by rw [htk,←dr_app];exact r3)⟩,?_,?_,?_,by omega,rfl⟩ (by omega)
 ·refine hlk.chg ch3 fun b hb g=>hdk b hb ?_;rcases g with rfl | rfl | g
  ·exact rk.mp.own
  ·exact rk.fp
  ·exact rk.fo b g
 ·refine stk.trans ⟨ch3.mono fun b _ g=>?_,fun b hb=>hb.imp id fun h=>h.1⟩;rcases g with rfl | rfl | g
  ·exact rk.mp.own
  ·exact rk.fp
  ·exact rk.fo b g
 ·rintro b hb (g | g)
  ·exact hdk b hb g
  ·have:=ints_lt hlk b hb;omega
theorem Step.hp {h h':Heap} {F F':Nat→Prop} {it:Itm} {x:Itm} (hx:x.p h) (hlt:∀j,x.F j→j<h.size) (hF:x.F=F) (s:Step F h F' h') (hp:it.p h') (hit:∀j,it.F j→j<h'.size) (hF':it.F=F'):Hp h x.F [it] [] h':=
 ⟨by rw [hF];exact s.chg,fun i hi=>by
  rw [List.mem_singleton.1 hi];refine ⟨hp,fun j hj=>⟨hit j hj,?_⟩⟩;rw [hF] at *;exact s.place j (by rw [←hF'];exact hj),by simp,List.pairwise_singleton _ _,by simp⟩
section
variable {h:Heap} {c:Nat} {F:Nat→Prop} {S S':Nat→Option (List UInt8)} {no:Int} {l:List UInt8}
theorem getL_len {L:List AP} (hn:(nos L).Nodup):(getL no L).length≤L.length:=by
 unfold getL;split
 ·rename_i y hy;have h1:=hit_some hy;have h2:=order_touch (x:=y) hn;have h3:=congrArg List.length h2;have h4:y.no∈(nos L).reverse:=by rw [List.mem_reverse];exact List.mem_map.2 ⟨y,h1.1,rfl⟩
  rw [List.length_append,List.length_erase_of_mem h4,List.length_reverse,List.length_reverse] at h3;have h5:0<(nos L).length:=List.length_pos_of_mem (List.mem_reverse.1 h4);simp only [nos,List.length_map,List.length_cons,List.length_nil] at h3 h5;rw [h1.2] at h3;simp only [List.length_cons];omega
 ·exact Nat.le_refl _
end
structure RB where
 a:Option Addr
 c:Nat
 l:List UInt8
structure RA where
 fr:Nat
 nd:Nat
 link:Nat
 am:Nat
 at_:List (Int × Nat)
 in_:Bool
 many:Nat
 bm:Option Nat
 bs:List (Int × RB)
 d:Nat
 rd:RD
 size:Nat
 sure:Nat
 c:Nat
 cF:Nat→Prop
 S:Nat→Option (List UInt8)
 dark:Bool
def bsV (x:RB):Value:=.slice x.a x.l.length x.c
def bsE (l:List (Int × RB)):List (Int × Value):=l.map fun p=>(p.1,bsV p.2)
def nowI (bm:Option Nat) (bs:List (Int × RB)):Itm:=match bm with
 | none=>anyI none_ (fun _=>True) (fun _ _ _ _ _ _=>trivial)
 | some m=>mapI (Value.int .i64) m (bsE bs)
def Pbs (h:Heap) (E:Nat→Prop) (bs:List (Int × RB)):Prop:=∀x∈bs,RdL h E E (x.2.a,x.2.l.length,x.2.c) x.2.l
@[reducible] def pbsI (E:Nat→Prop) (bs:List (Int × RB)):Itm:=⟨fun h=>Pbs h E bs,E,fun _ _ _ c d b x hx=>(b x hx).st c d d⟩
section
variable {h h':Heap} {E E':Nat→Prop} {bs:List (Int × RB)} {k:Int} {x:RB}
theorem Pbs.get (b:Pbs h E bs) (hg:mget bs k=some x):RdL h E E (x.a,x.l.length,x.c) x.l:=b _ (mget_mem hg)
theorem Pbs.mono (hE:∀j,E j→E' j) (b:Pbs h E bs):Pbs h E' bs:=fun x hx=>(b x hx).mono hE hE
theorem Pbs.nil:Pbs h E []:=fun x hx=>by cases hx
theorem Pbs.put (b:Pbs h E bs) (hx:RdL h E E (x.a,x.l.length,x.c) x.l):Pbs h E (mput bs k x):=fun y hy=>by
 rcases mem_mput hy with rfl | hy
 ·exact hx
 ·exact b y hy
end
end Go.Proofs.YtndlpekckpdncaaGreat
namespace Go.HL
open Go Go.Proofs.YtndlpekckpdncaaGreat
section
variable {h0 h h':Heap} {D G:Nat→Prop} {M R:List Itm} {p:Nat} {r r':RA} {E E':Nat→Prop}
theorem Hp.nowNil {bs:List (Int × RB)} (ok:Hp h0 D M R h):Hp h0 D (nowI none bs::M) R h:=ok.newM (Ext.refl _) _ trivial (fun _ f=>f.elim)
theorem Hp.pbsPut {Q:Nat→Prop} {bs:List (Int × RB)} {k:Int} {a:Option Addr} {c:Nat} {l:List UInt8} (ok:Hp h0 D (capI 1 5 (a,l.length,c) (l.map bv)::M) (pbsI Q bs::R) h):Hp h0 D M (pbsI (fun j=>Q j∨blkC (sv (a,l.length,c)) j) (mput bs k ⟨a,c,l⟩)::R) h:=by
 have o:Hp h0 D M (rdI (blkC (sv (a,l.length,c))) none_ (a,l.length,c) l::pbsI Q bs::R) h:=ok.frzB rfl;have o2:=o.or (r:=pbsI Q bs) (r':=rdI (blkC (sv (a,l.length,c))) none_ (a,l.length,c) l) (by simp) (by simp) (pbsI (fun j=>Q j∨blkC (sv (a,l.length,c)) j) (mput bs k ⟨a,c,l⟩))
  (Pbs.put (Pbs.mono (fun j h=>.inl h) o.r1) ((show RdL h (blkC (sv (a,l.length,c))) none_ (a,l.length,c) l from o.r0).mono (fun j h=>.inr h) (fun j f=>f.elim))) (fun j h=>h.imp id .inl)
 exact o2.sub (by simp;intro a h;exact .inr (.inr (.inr h)))
theorem Hp.pbsNil {Q:Nat→Prop} {bs:List (Int × RB)} (ok:Hp h0 D M (pbsI Q bs::R) h):Hp h0 D M (pbsI Q []::R) h:=(ok.d0 (pbsI Q []) Pbs.nil).sub (by simp;intro a h;exact .inr (.inr h))
theorem Hp.nowSome {m:Nat} {bs:List (Int × RB)} (ok:Hp h0 D (nowI (some m) bs::M) R h):Hp h0 D (mapI (Value.int .i64) m (bsE bs)::M) R h:=ok
theorem Hp.liftN {a:Itm} {l:List Itm} (ok:Hp h0 D (a::M) R h) (q:Hp h a.F l [] h'):Hp h0 D (l++M) R h':=
 Hp.unstar (ok.lift1 (b:=starI l) (Hp.star (M:=[]) (by simpa using q)))
theorem Hp.lift2 {a b c:Itm} (ok:Hp h0 D (a::M) R h) (q:Hp h a.F [b,c] [] h'):Hp h0 D (b::c::M) R h':=ok.liftN q
end
open Go
theorem OpC.inv {P:Program} {s:Slots} {h:Heap} {d:Option Tmp} {ty t:TypeId} {pos name:String} {af:Array Edge} {g:Option (Nat × Bool)} {x:Operand} {xs:Array Operand} {ts:Array TypeId} {f:FuncId} {v rv:Value} {args:List Value} (hm:∀w:World,(method (P.types.size+Made.depth) t v name).run P w=.ok (f,rv) w) (hx:ev s x=.iface t v:=by exact rfl) (ha:rv::xs.toList.map (ev s)=args:=by exact rfl) :
  OpC P ⟨d,.call ⟨.invoke x name,xs,ts⟩,ty,pos,af,g⟩ s h f args.toArray:=fun w _ hc=>by
 subst ha;obtain ⟨fn,h1,h2,h3⟩:=hc;have h2' : ¬ fn.name = "runtime.NumGoroutine" := by simpa using h2
 have h3':¬fn.body=none:=by intro e;simp [e] at h3
 have hm':=hm w;have h0:((#[Value.iface t v]:Array Value)++xs.map (ev s))[0]? = some (.iface t v):=by simp [Array.getElem?_append]
 have e0:(xs.map (ev s)).extract 0 xs.size=xs.map (ev s):=by simp
 have ea:(#[rv]:Array Value)++xs.map (ev s)=(rv::xs.toList.map (ev s)).toArray:=by apply Array.ext';simp
 simp [execOp,resolve,invoke,callMethod,hx,h0,e0,hm',callFunc,h1,h2',h3',ea]
def ifB (P:Program) (t:TypeId):Option Bool:=(P.underlying t).map fun | .interface _=>true | _=>false
theorem OpV.mkI {P:Program} {s:Slots} {h:Heap} {d:Option Tmp} {ty t:TypeId} {pos:String} {af:Array Edge} {g:Option (Nat × Bool)} {x:Operand} {v:Value} (ht:ifB P t=some false) (hx:ev s x=v:=by exact rfl):OpV P ⟨d,.makeInterface t x,ty,pos,af,g⟩ s h (.iface t v):=fun w _=>by
 unfold ifB at ht;cases hu:P.underlying t with
 | none=>rw [hu] at ht;cases ht
 | some u=>
  rw [hu] at ht;cases u<;>first | (simp at ht;done) | simp [execOp,Instr.makeInterface,run_underlying hu,hx]
theorem OpV.mvIf {P:Program} {s:Slots} {h:Heap} {d:Option Tmp} {ty t:TypeId} {pos:String} {af:Array Edge} {g:Option (Nat × Bool)} {x:Operand} {v:Value} (hx:ev s x=.iface t v:=by exact rfl):OpV P ⟨d,.move x,ty,pos,af,g⟩ s h (.iface t v):=V.mvv hx
open Go.Proofs.YtndlpekckpdncaaGreat
section
variable {h0 h h':Heap} {D:Nat→Prop} {M R:List Itm}
theorem Hp.locL (l:List Itm) (ok:Hp h0 D (l++M) R h):Hp h (starI l).F l R h:=by
 have o:=Hp.star ok;refine ⟨Chg.refl _ _,fun i hi=>⟨(ok.m i (List.mem_append_left _ hi)).1,fun j hj=>⟨((ok.m i (List.mem_append_left _ hi)).2 j hj).1,.inl ⟨i,hi,hj⟩⟩⟩,ok.r,(List.pairwise_append.1 ok.mm).1,fun a ha b hb=>ok.mr a (List.mem_append_left _ ha) b hb⟩
theorem Hp.liftL (l:List Itm) {l':List Itm} (ok:Hp h0 D (l++M) R h) (q:Hp h (starI l).F l' [] h'):Hp h0 D (l'++M) R h':=
 Hp.unstar ((Hp.star ok).lift1 (b:=starI l') (Hp.star (M:=[]) (by simpa using q)))
end
end Go.HL
namespace Go.Proofs.YtndlpekckpdncaaGreat
open Go Go.HL
@[reducible] def pv (p:Nat):Value:=.pointer (some ⟨p,0,none⟩)
structure Pgr where
 α:Type
 it:Nat→(Nat→Prop)→α→Itm
 sure:α→List (List UInt8)
 tid:TypeId
 fPages:FuncId
 fRead:FuncId
 mPages : ∀ (p : Nat) (w : World), (method (Tryz.prog.types.size + Made.depth) tid (pv p) "Pages").run Tryz.prog w = .ok (fPages, pv p) w
 mRead : ∀ (p : Nat) (w : World), (method (Tryz.prog.types.size + Made.depth) tid (pv p) "Read").run Tryz.prog w = .ok (fRead, pv p) w
 cPages:∀ {h:Heap} {p:Nat} {F:Nat→Prop} {a:α},(it p F a).p h→HC Tryz.prog fPages #[pv p] h (fun v h'=>v=.int .i64 ((sure a).length:Int)∧h'=h)
 cRead:∀ {h:Heap} {p:Nat} {F:Nat→Prop} {a:α} {no:Int} {b:List UInt8},Hp h (it p F a).F [it p F a] [] h→1≤no→(sure a)[(no-1).toNat]? = some b→
  HC Tryz.prog fRead #[pv p,.int .i64 no] h (fun v h'=>∃F' a' x c,v=.tuple #[.slice x b.length c,.int .i64 0]∧sure a'=sure a∧Hp h (it p F a).F [capI 1 5 (x,b.length,c) (b.map bv),it p F' a'] [] h')
structure RSv where
 many:Nat
 m:Nat
 ov:List (Int × RB)
def RSv.cells (x:RSv):List Value:=[.int .i64 (x.many:Int),.map (some x.m)]
theorem RSv.cells_len (x:RSv):x.cells.length=2:=rfl
structure RS (α:Type) where
 p:Nat
 lg:Option Addr
 z:Nat
 in_:Bool
 many:Nat
 om:Option Nat
 ov:List (Int × RB)
 sa:Option Addr
 sc:Nat
 sv:List RSv
 pF:Nat→Prop
 a:α
@[reducible] def sboxI (G:Pgr) (s:Nat) (r:RS G.α):Itm:=boxI s 123 [.iface G.tid (pv r.p),.pointer r.lg,.int .i64 (r.z:Int),.bool r.in_,.int .i64 (r.many:Int),.map r.om,.slice r.sa r.sv.length r.sc,.bool false]
@[reducible] def scapI {α:Type} (r:RS α):Itm:=capI 2 120 (r.sa,r.sv.length,r.sc) (r.sv.flatMap RSv.cells)
def Svs (h:Heap) (E:Nat→Prop) (sv:List RSv):Prop:=∀x∈sv,MapT (Value.int .i64) h x.m (bsE x.ov)∧E x.m∧Pbs h E x.ov
@[reducible] def svsI (E:Nat→Prop) (sv:List RSv):Itm:=⟨fun h=>Svs h E sv,E,fun _ _ _ c d b x hx=>⟨(b x hx).1.chg c (d _ (b x hx).2.1),(b x hx).2.1,fun y hy=>((b x hx).2.2 y hy).st c d d⟩⟩
def stL (G:Pgr) (s:Nat) (r:RS G.α):List Itm:=[sboxI G s r,nowI r.om r.ov,scapI r,G.it r.p r.pF r.a]
def stF (G:Pgr) (s:Nat) (r:RS G.α):Nat→Prop:=(starI (stL G s r)).F
structure SVw (G:Pgr) (r:RS G.α) (w:St):Prop where
 z:r.z=w.z
 in_:r.in_=w.in_
 sure:G.sure r.a=w.sure
 now:w.in_=true→(∃m,r.om=some m)∧VW RB.l r.ov r.many w.sure w.now
 out:w.in_=false→r.om=none∧r.many=0∧r.ov=[]∧r.sv=[]
 sv:All2 (fun (x:RSv) S=>VW RB.l x.ov x.many w.sure S) r.sv w.saves
 ok:StOk w
structure DsP (G:Pgr) (h:Heap) (s:Nat) (F:Nat→Prop) (w:St) (r:RS G.α) (E:Nat→Prop):Prop where
 co:(starI (stL G s r)).p h
 b:Pbs h E r.ov
 v:Svs h E r.sv
 f:∀j,stF G s r j→F j
 e:∀j,E j→F j
 ne:∀j,stF G s r j→¬E j
 V:SVw G r w
@[reducible] def dsI (G:Pgr) (s:Nat) (F:Nat→Prop) (w:St):Itm:=⟨fun h=>∃r E,DsP G h s F w r E,F,fun _ _ _ c g ⟨r,E,q⟩=>⟨r,E,(starI (stL G s r)).st _ _ _ c (fun j hj=>g j (q.f j hj)) q.co,(pbsI E r.ov).st _ _ _ c (fun j hj=>g j (q.e j hj)) q.b,(svsI E r.sv).st _ _ _ c (fun j hj=>g j (q.e j hj)) q.v,q.f,q.e,q.ne,q.V⟩⟩
section
variable {G:Pgr} {h h' h0:Heap} {s:Nat} {F D E E':Nat→Prop} {w w':St} {r r':RS G.α} {M R:List Itm}
theorem ds_ok (ok:(dsI G s F w).p h):StOk w:=let ⟨_,_,q⟩:=ok;q.V.ok
theorem ds_box (ok:(dsI G s F w).p h):∃r:RS G.α,SVw G r w∧(sboxI G s r).p h∧(G.it r.p r.pF r.a).p h:=by
 obtain ⟨r,E,q⟩:=ok;exact ⟨r,q.V,q.co.1 (sboxI G s r) (by simp [stL]),q.co.1 (G.it r.p r.pF r.a) (by simp [stL])⟩
theorem ds_open (ok:Hp h F [dsI G s F w] R h):∃r E,SVw G r w∧Hp h (stF G s r) [sboxI G s r,nowI r.om r.ov,scapI r,G.it r.p r.pF r.a] (pbsI E r.ov::svsI E r.sv::R) h∧(∀j,stF G s r j→F j)∧∀j,E j→F j:=by
 obtain ⟨r,E,q⟩:=ok.m0;have hl:=(ok.m (dsI G s F w) (by simp)).2;have o:Hp h (stF G s r) [starI (stL G s r)] (pbsI E r.ov::svsI E r.sv::R) h:=by
  refine ⟨Chg.refl _ _,fun i hi=>by rw [List.mem_singleton.1 hi];exact ⟨q.co,fun j hj=>⟨(hl j (q.f j hj)).1,.inl hj⟩⟩,fun i hi=>?_,List.pairwise_singleton _ _,fun a ha b hb=>?_⟩
  ·rcases List.mem_cons.1 hi with rfl | hi
   ·exact ⟨q.b,fun j hj=>(hl j (q.e j hj)).1⟩
   rcases List.mem_cons.1 hi with rfl | hi
   ·exact ⟨q.v,fun j hj=>(hl j (q.e j hj)).1⟩
   ·exact ok.r i hi
  ·rw [List.mem_singleton.1 ha];rcases List.mem_cons.1 hb with rfl | hb
   ·exact q.ne
   rcases List.mem_cons.1 hb with rfl | hb
   ·exact q.ne
   ·exact fun j hj=>ok.mr (dsI G s F w) (by simp) b hb j (q.f j hj)
 exact ⟨r,E,q.V,Hp.unstar o,q.f,q.e⟩
theorem ds_close (q:Hp h D (sboxI G s r'::nowI r'.om r'.ov::scapI r'::G.it r'.p r'.pF r'.a::M) (pbsI E' r'.ov::svsI E' r'.sv::R) h') (hD:∀j,D j→F j) (hE:∀j,E' j→F j∨h.size≤j) (V:SVw G r' w'):Hp h F (dsI G s (fun j=>stF G s r' j∨E' j) w'::M) [] h':=by
 have q:Hp h D (starI (stL G s r')::M) (pbsI E' r'.ov::svsI E' r'.sv::R) h':=Hp.star (l:=stL G s r') q;have hm:=List.pairwise_cons.1 q.mm;refine ⟨q.chg.mono fun j _=>hD j,fun i hi=>?_,by simp,List.pairwise_cons.2 ⟨fun b hb j hj hb2=>?_,hm.2⟩,by simp⟩
 ·rcases List.mem_cons.1 hi with rfl | hi
  ·refine ⟨⟨r',E',q.m0,(q.r (pbsI E' r'.ov) (by simp)).1,(q.r (svsI E' r'.sv) (by simp)).1,fun j hj=>.inl hj,fun j hj=>.inr hj,q.mr (starI (stL G s r')) (by simp) (pbsI E' r'.ov) (by simp),V⟩,fun j hj=>?_⟩;rcases hj with hj | hj
   ·have:=(q.m _ List.mem_cons_self).2 j hj;exact ⟨this.1,this.2.imp (hD j) id⟩
   ·exact ⟨(q.r _ List.mem_cons_self).2 j hj,hE j hj⟩
  ·have:=q.m i (List.mem_cons_of_mem _ hi);exact ⟨this.1,fun j hj=>⟨(this.2 j hj).1,(this.2 j hj).2.imp (hD j) id⟩⟩
 ·rcases hj with hj | hj
  ·exact hm.1 b hb j hj hb2
  ·exact q.mr b (List.mem_cons_of_mem _ hb) _ List.mem_cons_self j hb2 hj
end
open Go Go.HL
theorem Pbs.rd {h:Heap} {Q:Nat→Prop} {bs:List (Int × RB)} {k:Int} {x:RB} {l:List UInt8} (b:Pbs h Q bs) (hg:mget bs k=some x) (hl:x.l=l):RdL h Q Q (match mget bs k with | some x=>x.a | none=>none,match mget bs k with | some x=>x.l.length | none=>0,match mget bs k with | some x=>x.c | none=>0) l:=by
 rw [hg];subst hl;exact b.get hg
def bsA (bs:List (Int × RB)) (k:Int):Option Addr:=match mget bs k with | some x=>x.a | none=>none
def bsN (bs:List (Int × RB)) (k:Int):Nat:=match mget bs k with | some x=>x.l.length | none=>0
def bsC (bs:List (Int × RB)) (k:Int):Nat:=match mget bs k with | some x=>x.c | none=>0
theorem bs_get {bs:List (Int × RB)} {k:Int} : (aget (bsE bs) k).getD (.slice none 0 0)=.slice (bsA bs k) (bsN bs k) (bsC bs k):=by
 unfold bsE;rw [aget_mp (f:=bsV)];unfold bsA bsN bsC bsV;cases mget bs k<;>rfl
theorem bs_is {bs:List (Int × RB)} {k:Int} : (aget (bsE bs) k).isSome=(mget bs k).isSome:=by
 unfold bsE;rw [aget_mp (f:=bsV)];cases mget bs k<;>rfl
theorem okSz_cases {n:Nat} (h:okSz n=true):n=256∨n=512∨n=1024∨n=2048∨n=4096:=by
 unfold okSz at h;simp at h;omega
end Go.Proofs.YtndlpekckpdncaaGreat
namespace Go.HL
open Go
theorem OpV.quoI {P:Program} {s:Slots} {h:Heap} {d:Option Tmp} {t u ty:TypeId} {x y:Operand} {pos:String} {af:Array Edge} {g:Option (Nat × Bool)} {a b:Nat} (hx:ev s x=.int .i64 (a:Nat):=by exact rfl) (hy:ev s y=.int .i64 (b:Nat):=by exact rfl) (hr:a≤9223372036854775807∧1≤b:=by omega):OpV P ⟨d,.binOp .quo t x y u,ty,pos,af,g⟩ s h (.int .i64 ((a / b:Nat):Int)):=by
 rw [Int.natCast_ediv];exact OpV.quo hx hy (by omega)
end Go.HL
namespace Go.Proofs.YtndlpekckpdncaaGreat
open Go Go.HL
def wthE (b:Bool):Nat:=if b=true then 0 else 10
theorem wthE_t {b:Bool} (h:b=true):wthE b=0:=if_pos h
theorem wthE_f {b:Bool} (h:¬b=true):wthE b=10:=if_neg h
theorem wthE_n {b:Bool} (h:¬(wthE b:Int)≠0):b=true:=by
 cases b
 ·exact absurd (by decide) h
 ·rfl
theorem wthE_y {b:Bool} (h:(wthE b:Int)≠0):b=false:=by
 cases b
 ·rfl
 ·exact absurd rfl h
theorem bsE_put {ov:List (Int × RB)} {k:Int} {x:RB} : aput (bsE ov) k (bsV x)=bsE (mput ov k x):=aput_mp
theorem bsE_del {ov:List (Int × RB)} {k:Int} : adel (bsE ov) k=bsE (mdel ov k):=adel_mp
theorem susable_any {G:Pgr} {h:Heap} {so:Nat} {r:RS G.α} (hb:(sboxI G so r).p h) :
  HC Tryz.prog 69 #[.pointer (some ⟨so,0,none⟩)] h (fun v h'=>v=.int .i64 0∧h'=h):=by
 refine HC.go Tryz.func69 11 ?_;refine .seq<|.r<|.z .asI<|.nil ?_;refine .seq<|.block fun K0 hK0=>.seq<|.r<|.z .mvP<|.z (.pEqS T.pt27)<|.z .asB<|.nil ?_;refine .cf<|.seq<|.r<|.z .mvP<|.z .nil<|.z (.fa T.fd123_6)<|.z (.ldx T.ag4 hb)<|.z .asB<|.nil ?_;refine .cf<|.skip<|.end<|hK0 _ _<|.seq<|.r<|.z .asI<|.nil ?_;refine .ret ⟨.int .i64 0,Res.one rfl rfl,⟨rfl,rfl⟩⟩
theorem susableNil_any {h:Heap} :
  HC Tryz.prog 69 #[.pointer none] h (fun v h'=>v=.int .i64 2∧h'=h):=by
 refine HC.go Tryz.func69 11 ?_;refine .seq<|.r<|.z .asI<|.nil ?_;refine .seq<|.block fun K0 hK0=>.seq<|.r<|.z .mvP<|.z (.pEqN T.pt27)<|.z .asB<|.nil ?_;refine .ct<|.seq<|.r<|.z .asI<|.nil ?_;refine .ret ⟨.int .i64 2,Res.one rfl rfl,⟨rfl,rfl⟩⟩
theorem swithin_any {G:Pgr} {h:Heap} {so:Nat} {r:RS G.α} {i:Bool} (hb:(sboxI G so r).p h) (hi:r.in_=i) :
  HC Tryz.prog 82 #[.pointer (some ⟨so,0,none⟩)] h (fun v h'=>v=.int .i64 (wthE i:Int)∧h'=h):=by
 refine HC.go Tryz.func82 14 ?_;refine .seq<|.r<|.z .asI<|.nil ?_;refine .seq<|.seq<|.r<|.z .mvP<|.k 5 .func (susable_any (G:=G) (r:=r) hb)<|.z .asI<|.nil ?_;refine .seq<|.r<|.z .mvI<|.z .neq<|.nil ?_;refine .cf<|.skip<|.seq<|.seq<|.r<|.z .mvP<|.z .nil<|.z (.fa T.fd123_3)<|.z (.ldx T.ag4 hb)<|.z .not<|.nil ?_;refine .cond (fun C1=>?_) (fun C1=>?_)
 ·
  refine .seq<|.r<|.z .asI<|.nil ?_;refine .ret ⟨.int .i64 10,Res.one rfl rfl,⟨by rw [wthE_f (by rw [←hi];simpa using C1)];rfl,rfl⟩⟩
 refine .skip<|.seq<|.r<|.z .asI<|.nil ?_;refine .ret ⟨.int .i64 0,Res.one rfl rfl,⟨by rw [wthE_t (by rw [←hi];simpa using C1)];rfl,rfl⟩⟩
theorem swithinNil_any {h:Heap} :
  HC Tryz.prog 82 #[.pointer none] h (fun v h'=>v=.int .i64 2∧h'=h):=by
 refine HC.go Tryz.func82 14 ?_;refine .seq<|.r<|.z .asI<|.nil ?_;refine .seq<|.seq<|.r<|.z .mvP<|.k 5 .func susableNil_any<|.z .asI<|.nil ?_;refine .seq<|.r<|.z .mvI<|.z .neq<|.nil ?_;refine .ct<|.seq<|.r<|.z .mvI<|.z .asI<|.nil ?_;refine .ret ⟨.int .i64 2,Res.one rfl rfl,⟨rfl,rfl⟩⟩
theorem spages_any {G:Pgr} {h:Heap} {so:Nat} {r:RS G.α} {i:Bool} {m k:Nat} (hb:(sboxI G so r).p h) (hp:(G.it r.p r.pF r.a).p h) (h1:r.in_=i) (h2:r.many=m) (h3:(G.sure r.a).length=k) :
  HC Tryz.prog 70 #[.pointer (some ⟨so,0,none⟩)] h (fun v h'=>v=.int .i64 ((if i=true then m else k:Nat):Int)∧h'=h):=by
 refine HC.go Tryz.func70 17 ?_;refine .seq<|.r<|.z .asI<|.nil ?_;refine .seq<|.seq<|.r<|.z .mvP<|.z .nil<|.z (.fa T.fd123_3)<|.z (.ldx T.ag4 hb)<|.nil ?_;refine .cond (fun C0=>?_) (fun C0=>?_)
 ·
  refine .seq<|.r<|.z .mvP<|.z .nil<|.z (.fa T.fd123_4)<|.z (.fa T.fd120_0)<|.z (.ldx T.ag3 hb)<|.z .asI<|.nil ?_;refine .ret ⟨.int .i64 (r.many:Int),Res.one rfl rfl,⟨by rw [if_pos (h1▸C0),h2],rfl⟩⟩
 refine .skip<|.seq<|.r<|.z .mvP<|.z .nil<|.z (.fa T.fd123_0)<|.z (.ldx T.ag116 hb)<|.k 16 (.inv (G.mPages _)) (G.cPages (F:=r.pF) (a:=r.a) hp)<|.z .asI<|.nil ?_;refine .ret ⟨.int .i64 ((G.sure r.a).length:Int),Res.one rfl rfl,⟨by rw [if_neg (by rw [←h1,C0];decide),h3],rfl⟩⟩
theorem stold_any {G:Pgr} {h:Heap} {so:Nat} {r:RS G.α} (hb:(sboxI G so r).p h) :
  HC Tryz.prog 101 #[.pointer (some ⟨so,0,none⟩),.int .i64 0] h (fun v h'=>v=.int .i64 0∧h'=h):=by
 refine HC.go Tryz.func101 11 ?_;refine .seq<|.r<|.z .asI<|.nil ?_;refine .seq<|.seq<|.r<|.z .mvI<|.z .eql<|.nil ?_;refine .cf<|.skip<|.seq<|.r<|.z .mvI<|.z .asI<|.nil ?_;refine .ret ⟨.int .i64 0,Res.one rfl rfl,⟨rfl,rfl⟩⟩
theorem sread_any {G:Pgr} {h:Heap} {so:Nat} {r:RS G.α} {E:Nat→Prop} {no:Int} {b:List UInt8} (ok:Hp h (starI [G.it r.p r.pF r.a,sboxI G so r,nowI r.om r.ov]).F [G.it r.p r.pF r.a,sboxI G so r,nowI r.om r.ov] [pbsI E r.ov] h) (hno:1≤no) (hbl:b.length≤1000000) (hb:r.in_=true→∃mb,r.om=some mb) (h1:r.in_=true→∀x,mget r.ov no=some x→x.l=b) (h2:r.in_=false∨mget r.ov no=none→(G.sure r.a)[(no-1).toNat]? = some b) :
  HC Tryz.prog 71 #[.pointer (some ⟨so,0,none⟩),.int .i64 no] h (fun v h'=>∃F' a' x c,v=.tuple #[.slice x b.length c,.int .i64 0]∧G.sure a'=G.sure r.a∧Hp h (starI [G.it r.p r.pF r.a,sboxI G so r,nowI r.om r.ov]).F [capI 1 5 (x,b.length,c) (b.map bv),G.it r.p F' a',sboxI G so r,nowI r.om r.ov] [] h'):=by
 obtain ⟨p,lg,z,in_,many,om,ov,sa,sc,svl,pF,ga⟩:=r;dsimp only at ok hb h1 h2⊢;refine HC.go Tryz.func71 40 ?_;refine .seq<|.r<|.z .asS<|.z .asI<|.nil ?_;refine .seq<|.seq<|.r<|.z .mvP<|.z .nil<|.z (.fa T.fd123_3)<|.z (.ldx T.ag4 ok.m1)<|.nil ?_;refine .cond (fun C0=>?_) (fun C0=>?_)
 ·
  obtain ⟨m,rfl⟩:=hb C0;have ok:=Hp.nowSome (ok.n2);refine .seq<|.r<|.z .mvP<|.z .nil<|.z (.fa T.fd123_4)<|.z (.fa T.fd120_1)<|.z (.ldx T.ag118 ok.m2)<|.z .mvI<|.z (.lk2 (KV.int .i64) no (v:=.slice (bsA ov no) (bsN ov no) (bsC ov no)) T.mp118 (inB_iff T.in3) T.zr44 ok.m0 (by exact bs_get) (by exact bs_is))<|.z .mvU<|.z .ex<|.z .ex<|.z .asS<|.z .asB<|.nil ?_;refine .seq<|.r<|.z .mvB<|.nil ?_;refine .cond (fun C1=>?_) (fun C1=>?_)
  ·
   obtain ⟨x,hx⟩:=Option.isSome_iff_exists.1 C1;have hxl:=h1 C0 x hx;have ok:=ok.d0 (rdI E E (bsA ov no,bsN ov no,bsC ov no) b) (Pbs.rd ok.r0 hx hxl) (fun _ h=>h.elim id id);obtain hbn:bsN ov no=b.length:=ok.r0.n;rw [hbn] at ok⊢;refine .seq<|.r<|.z .mvS<|.c' 26 .func (bclone_any (a:=(bsA ov no)) (c:=(bsC ov no)) (l:=b) ok.r0 (by omega)) ?_;rintro _ η1 own;obtain ⟨ya1,yc1,rfl⟩:=own.formB;have ok:=ok.own own;refine .z .asS<|.z .asI<|.nil ?_;refine .ret ⟨.tuple #[.slice ya1 ((b).length) yc1,.int .i64 0],Res.two rfl rfl rfl,⟨pF,ga,ya1,yc1,rfl,rfl,(ok.n1.n3.n3.n3).e0⟩⟩
  have h3:=h2 (.inr (by simpa using C1));refine .skip<|.seq<|.r<|.z .mvP<|.z .nil<|.z (.fa T.fd123_0)<|.z (.ldx T.ag116 ok.m2)<|.z .mvI<|.c' 33 (.inv (G.mRead _)) (G.cRead (p:=p) (F:=pF) (a:=ga) (no:=no) (b:=b) (ok.n1).loc0 hno h3) ?_;rintro _ η2 ⟨Fg1,ag1,xg1,cg1,rfl,hsg1,q⟩;have ok:=(ok.n1).lift2 q;refine .z .mvU<|.z .ex<|.z .ex<|.z .asS<|.z .asI<|.nil ?_;refine .seq<|.r<|.z .mvS<|.z .mvP<|.z .mvI<|.k 39 .func (stold_any (G:=G) (r:=(⟨p,lg,z,in_,many,(some m),ov,sa,sc,svl,Fg1,ag1⟩:RS G.α)) ok.m3)<|.z .asS<|.z .asI<|.nil ?_;refine .ret ⟨.tuple #[.slice xg1 b.length cg1,.int .i64 0],Res.two rfl rfl rfl,⟨Fg1,ag1,xg1,cg1,rfl,hsg1,(ok.n2.n3.n3.n3).e0⟩⟩
 have h3:=h2 (.inl (by simpa using C0));refine .skip<|.seq<|.r<|.z .mvP<|.z .nil<|.z (.fa T.fd123_0)<|.z (.ldx T.ag116 ok.m1)<|.z .mvI<|.c' 33 (.inv (G.mRead _)) (G.cRead (p:=p) (F:=pF) (a:=ga) (no:=no) (b:=b) (ok).loc0 hno h3) ?_;rintro _ η3 ⟨Fg2,ag2,xg2,cg2,rfl,hsg2,q⟩;have ok:=(ok).lift2 q;refine .z .mvU<|.z .ex<|.z .ex<|.z .asS<|.z .asI<|.nil ?_;refine .seq<|.r<|.z .mvS<|.z .mvP<|.z .mvI<|.k 39 .func (stold_any (G:=G) (r:=(⟨p,lg,z,in_,many,om,ov,sa,sc,svl,Fg2,ag2⟩:RS G.α)) ok.m2)<|.z .asS<|.z .asI<|.nil ?_;refine .ret ⟨.tuple #[.slice xg2 b.length cg2,.int .i64 0],Res.two rfl rfl rfl,⟨Fg2,ag2,xg2,cg2,rfl,hsg2,(ok).e0⟩⟩
theorem sput_any {G:Pgr} {h:Heap} {so mb:Nat} {r:RS G.α} {a:Option Addr} {c:Nat} {l:List UInt8} {no:Nat} (ok:Hp h (starI [sboxI G so r,mapI (Value.int .i64) mb (bsE r.ov)]).F [sboxI G so r,mapI (Value.int .i64) mb (bsE r.ov)] [] h) (hm:r.om=some mb) :
  HC Tryz.prog 83 #[.pointer (some ⟨so,4,none⟩),.int .i64 (no:Int),.slice a l.length c] h (fun v h'=>v=.tuple #[]∧Hp h (starI [sboxI G so r,mapI (Value.int .i64) mb (bsE r.ov)]).F [sboxI G so ({ r with many:=max r.many no,ov:=mput r.ov (no:Int) ⟨a,c,l⟩ }),mapI (Value.int .i64) mb (bsE (mput r.ov (no:Int) ⟨a,c,l⟩))] [] h'):=by
 obtain ⟨p,lg,z,in_,many,om,ov,sa,sc,svl,pF,ga⟩:=r;dsimp only at ok hm⊢;subst hm;refine HC.go Tryz.func83 21 ?_;refine .seq<|.r<|.z .mvP<|.z .nil<|.z (.fa T.fd120_1)<|.z (.ldx T.ag118 ok.m0)<|.z .mvI<|.z .mvS<|.ur' (.mpu (KV.int .i64) V.sbI (no:Int) (v:=.slice a l.length c) T.mp118 (inB_iff T.in3) ok.n1) ?_;rintro η1 ok;rw [show (Value.slice a l.length c:Value)=bsV ⟨a,c,l⟩ from rfl,bsE_put] at ok;refine .nil ?_;refine .r<|.z .mvP<|.z .mvP<|.z .nil<|.z (.fa T.fd120_0)<|.z (.ldx T.ag3 ok.m1)<|.z .mvI<|.z .maxn<|.z .nil<|.z (.fa T.fd120_0)<|.ur' (.stI T.sz3 ok.n1) ?_;rintro η2 ⟨ok,cg⟩;refine .nil ?_;refine .end<|⟨.tuple #[],Res.none rfl,⟨rfl,ok⟩⟩
theorem bsE_some {l:List (Int × RB)} {i:Nat} {p:Int × Value} (h:(bsE l)[i]? = some p):∃q,l[i]? = some q∧(q.1,bsV q.2)=p:=by
 unfold bsE at h;rw [List.getElem?_map] at h;cases hq:l[i]? with
 | none=>rw [hq] at h;cases h
 | some q=>rw [hq] at h;injection h with h;exact ⟨q,rfl,h⟩
theorem bsE_erase {l:List (Int × RB)} {i:Nat} : (bsE l).eraseIdx i=bsE (l.eraseIdx i):=(map_erase _ _ _).symm
theorem erase_memR {td:List (Int × RB)} {i:Nat} {p q:Int × RB} (hp:p∈td) (hq:td[i]? = some q) (hne:p≠q):p∈td.eraseIdx i:=by
 rw [List.mem_eraseIdx_iff_getElem?];obtain ⟨j,hj⟩:=List.mem_iff_getElem?.1 hp;refine ⟨j,fun e=>?_,hj⟩;subst e;rw [hj] at hq;injection hq with hq;exact hne hq
theorem filt_del {L:List (Int × RB)} {c k:Int} (h:c<k):(mdel L k).filter (fun p=>decide (p.1≤c))=L.filter fun p=>decide (p.1≤c):=by
 unfold mdel;rw [List.filter_filter];refine List.filter_congr fun p _=>?_;by_cases h1:p.1≤c
 ·have:p.1≠k:=by omega
  simp [h1,this]
 ·simp [h1]
theorem scut_any {G:Pgr} {h:Heap} {so mb n:Nat} {r:RS G.α} (ok:Hp h (starI [sboxI G so r,mapI (Value.int .i64) mb (bsE r.ov)]).F [sboxI G so r,mapI (Value.int .i64) mb (bsE r.ov)] [] h) (hm:r.om=some mb) :
  HC Tryz.prog 99 #[.pointer (some ⟨so,4,none⟩),.int .i64 (n:Int)] h (fun v h'=>v=.tuple #[]∧Hp h (starI [sboxI G so r,mapI (Value.int .i64) mb (bsE r.ov)]).F [sboxI G so ({ r with many:=n,ov:=r.ov.filter fun p=>decide (p.1≤(n:Int)) }),mapI (Value.int .i64) mb (bsE (r.ov.filter fun p=>decide (p.1≤(n:Int))))] [] h'):=by
 obtain ⟨p,lg,z,in_,many,om,ov,sa,sc,svl,pF,ga⟩:=r;dsimp only at ok hm⊢;subst hm;refine HC.go Tryz.func99 26 ?_;refine .seq<|.seq<|.r<|.z .mvP<|.z .nil<|.z (.fa T.fd120_1)<|.z (.ldx T.ag118 ok.m0)<|.a' 9 (.rng T.mp118 ok.n1) ?_;rintro _ η1 ⟨ib1,rfl,ok⟩;refine .nil ?_;refine .block fun K0 hK0=>.loop (fun m s hh=>∃(L td:List (Int × RB)),Has s [(0,.pointer (some ⟨so,4,none⟩)),(1,.int .i64 (n:Int)),(9,.pointer (some ⟨ib1,0,none⟩))]∧Hp h (starI [sboxI G so ((⟨p,lg,z,in_,many,some mb,ov,sa,sc,svl,pF,ga⟩:RS G.α)),mapI (Value.int .i64) mb (bsE ov)]).F [itI (Value.int .i64) ib1 mb (bsE L) (bsE td),boxI so 123 [.iface G.tid (.pointer (some ⟨p,0,none⟩)),.pointer lg,.int .i64 (z:Int),.bool in_,.int .i64 (many:Int),.map (some mb),.slice sa svl.length sc,.bool false]] [] hh∧L.filter (fun p:Int × RB=>decide (p.1≤(n:Int)))=ov.filter (fun p:Int × RB=>decide (p.1≤(n:Int)))∧(∀p∈L,p.1≤(n:Int)∨p∈td)∧m=td.length) ?_ ?_
 ·exact ⟨_,ov,ov,⟨rfl,rfl,rfl,trivial⟩,ok.n1.n1,rfl,fun p h=>.inr h,rfl⟩
 rintro _ _ η2 ⟨L,td,hs,ok,hLf,hLt,rfl⟩ J0 hJ0;refine .frame hs fun τ=>?_;refine .seq<|.r<|.a' 10 (.nxt ok) ?_;rintro _ η3 (⟨hnil,rfl,ok⟩ | ⟨ipq1,pq1,hpq1,rfl,ok⟩)
 ·
  have htd:td=[]:=by simpa [bsE] using hnil
  have hLe:L=ov.filter (fun p:Int × RB=>decide (p.1≤(n:Int))):=by rw [←hLf];exact (List.filter_eq_self.2 fun p hp=>decide_eq_true ((hLt p hp).resolve_right (by rw [htd];simp))).symm
  have ok:=ok.itm;rw [hLe] at ok;refine .z .ex<|.nil ?_;refine .seq<|.cf<|.exit<|hK0 _ _<|.r<|.z .mvP<|.z .mvI<|.z .nil<|.z (.fa T.fd120_0)<|.ur' (.stI T.sz3 ok.n1) ?_;rintro η4 ⟨ok,cg⟩;refine .nil ?_;refine .end<|⟨.tuple #[],Res.none rfl,⟨rfl,ok⟩⟩
 obtain ⟨q,hq,hpe⟩:=bsE_some hpq1;have hk1:pq1.1=q.1:=by rw [←hpe]
 rw [bsE_erase] at ok;refine .z .ex<|.nil ?_;refine .seq<|.ct<|.skip<|.block fun K1 hK1=>.seq<|.r<|.z (.ent (ok.m0).2)<|.z .ex<|.z .asI<|.nil ?_;refine .seq<|.r<|.z .mvI<|.z .mvI<|.z .gtr<|.nil ?_;refine .cd (fun C1=>?_) (fun C1=>?_)
 ·
  refine .r<|.z .mvP<|.z .nil<|.z (.fa T.fd120_1)<|.z (.ldx T.ag118 ok.m1)<|.z .mvI<|.a0' (.delC (KV.int .i64) T.mp118 (inB_iff T.in3) ok) ?_;rintro _ η5 ⟨rfl,ok⟩;rw [hk1,bsE_del] at ok;refine .nil ?_;refine .end<|hK1 _ _<|.end<|hJ0 _ _ _ ⟨mdel L q.1,td.eraseIdx ipq1,⟨rfl,rfl,rfl,trivial⟩,ok.n1.n1,by rw [filt_del (by omega)];exact hLf,fun p hp=>(hLt p (List.mem_filter.1 hp).1).imp id fun h=>erase_memR h hq (fun e=>by have:=(List.mem_filter.1 hp).2;rw [e] at this;simp at this),rfl⟩ (by rw [List.length_eraseIdx_of_lt (List.getElem?_eq_some_iff.1 hq).1];have:=(List.getElem?_eq_some_iff.1 hq).1;omega)
 have ok:=(ok).itc;refine .skip<|.end<|hK1 _ _<|.end<|hJ0 _ _ _ ⟨L,td.eraseIdx ipq1,⟨rfl,rfl,rfl,trivial⟩,ok.n1.n1,hLf,fun p hp=>(hLt p hp).elim .inl fun h=>(Classical.em (p=q)).elim (fun e=>.inl (by rw [e];omega)) fun e=>.inr (erase_memR h hq e),rfl⟩ (by rw [List.length_eraseIdx_of_lt (List.getElem?_eq_some_iff.1 hq).1];have:=(List.getElem?_eq_some_iff.1 hq).1;omega)
def i64N (z:Int):Prop:=-9223372036854775808≤z∧z≤9223372036854775807
structure HdIn (H:Hd):Prop where
 a:i64N H.size
 b:i64N H.pages
 c:i64N H.free
 d:i64N H.many
 e:i64N H.cookie
 f:i64N H.version
theorem encB_any {h:Heap} {z0 z1 z2 z3 z4 z5:Int} (h0:i64N z0) (h1:i64N z1) (h2:i64N z2) (h3:i64N z3) (h4:i64N z4) (h5:i64N z5) (hc:¬ChkP ⟨z0,z1,z2,z3,z4,z5⟩):HC Tryz.prog 98 #[.agg #[.int .i64 z0,.int .i64 z1,.int .i64 z2,.int .i64 z3,.int .i64 z4,.int .i64 z5]] h (fun v h'=>v=.tuple #[.slice none 0 0,.int .i64 1]∧Ext h h'):=by
 have ok:=Hp.nil h none_;refine HC.go Tryz.func98 12 ?_;refine .seq<|.r<|.a' 1 (.bxA (cs:=[.int .i64 z0,.int .i64 z1,.int .i64 z2,.int .i64 z3,.int .i64 z4,.int .i64 z5]) ok) ?_;rintro _ η1 ⟨pb1,rfl,ok,xe⟩;refine .z .asS<|.z .asI<|.nil ?_;refine .seq<|.seq<|.r<|.z (.ldb T.ag38 ok.m0 T.sz38)<|.c' 6 .func (check_any (z0:=z0) (z1:=z1) (z2:=z2) (z3:=z3) (z4:=z4) (z5:=z5) h0 h1 h2 h3 h4 h5) ?_;rintro _ η2 ⟨rfl,hx⟩;have ok:=ok.ext hx;refine .z .asI<|.nil ?_;refine .seq<|.r<|.z .mvI<|.z .neq<|.nil ?_;refine .cd (fun C0=>?_) (fun C0=>?_)
 ·
  refine .seq<|.r<|.z .mvI<|.z .asS<|.z .asI<|.nil ?_;refine .ret ⟨.tuple #[.slice none 0 0,.int .i64 (chkC ⟨z0,z1,z2,z3,z4,z5⟩:Int)],Res.two rfl rfl rfl,⟨by rw [chk_n hc];rfl,ok.chg⟩⟩
 exact absurd (by rw [chk_n hc];decide) C0
theorem encG_any {h:Heap} {n0 n1 n2 n3 n4 n5:Nat} (h0:n0<4294967296) (h1:n1<4294967296) (h2:n2<4294967296) (h3:n3<4294967296) (h4:n4<4294967296) (h5:n5<4294967296) (hc:ChkP ⟨((n0:Nat):Int),((n1:Nat):Int),((n2:Nat):Int),((n3:Nat):Int),((n4:Nat):Int),((n5:Nat):Int)⟩):HC Tryz.prog 98 #[.agg #[.int .i64 (n0:Int),.int .i64 (n1:Int),.int .i64 (n2:Int),.int .i64 (n3:Int),.int .i64 (n4:Int),.int .i64 (n5:Int)]] h (fun v h'=>∃w,v=.tuple #[w,.int .i64 0]∧Own h h' 1 5 w ((hdB [n0,n1,n2,n3,n4,n5]).map bv)):=by
 have ok:=Hp.nil h none_;refine HC.go Tryz.func98 12 ?_;refine .seq<|.r<|.a' 1 (.bxA (cs:=[.int .i64 (n0:Int),.int .i64 (n1:Int),.int .i64 (n2:Int),.int .i64 (n3:Int),.int .i64 (n4:Int),.int .i64 (n5:Int)]) ok) ?_;rintro _ η1 ⟨pb1,rfl,ok,xe⟩;refine .z .asS<|.z .asI<|.nil ?_;refine .seq<|.seq<|.r<|.z (.ldb T.ag38 ok.m0 T.sz38)<|.c' 6 .func (check_any (z0:=(n0:Int)) (z1:=(n1:Int)) (z2:=(n2:Int)) (z3:=(n3:Int)) (z4:=(n4:Int)) (z5:=(n5:Int)) (by omega) (by omega) (by omega) (by omega) (by omega) (by omega)) ?_;rintro _ η2 ⟨rfl,hx⟩;have ok:=ok.ext hx;refine .z .asI<|.nil ?_;refine .seq<|.r<|.z .mvI<|.z .neq<|.nil ?_;refine .cd (fun C0=>?_) (fun C0=>?_)
 ·
  exact absurd (by rw [chk_y hc];rfl) C0
 refine .skip<|.seq<|.r<|.z (.ldb T.ag38 ok.m0 T.sz38)<|.c' 11 .func (hbytes_any (n0:=n0) (n1:=n1) (n2:=n2) (n3:=n3) (n4:=n4) (n5:=n5) (by omega) (by omega) (by omega) (by omega) (by omega) (by omega)) ?_;rintro _ η3 own;obtain ⟨ya1,yc1,rfl⟩:=own.formB;have ok:=ok.own own;refine .z .asS<|.z .asI<|.nil ?_;refine .ret ⟨.tuple #[.slice ya1 ((hdB [n0,n1,n2,n3,n4,n5]).length) yc1,.int .i64 0],Res.two rfl rfl rfl,⟨_,rfl,(ok).toOwn⟩⟩
theorem encN_any {h:Heap} {H:Hd} (hr:HdIn H):HC Tryz.prog 98 #[H.val] h (fun v h'=>(¬ChkP H∧v=.tuple #[.slice none 0 0,.int .i64 1]∧Ext h h')∨(ChkP H∧∃w,v=.tuple #[w,.int .i64 0]∧Own h h' 1 5 w (H.enc.map bv))):=by
 by_cases hc:ChkP H
 ·have h0:=okZ_cases hc.1;have h1:=hc.2.1;have h2:=hc.2.2.1;have h3:=hc.2.2.2;obtain ⟨a,b,c,d,e,f⟩:=H;simp only at h0 h1 h2 h3;obtain ⟨a,rfl⟩:∃n:Nat,a=(n:Int):=⟨a.toNat,by omega⟩;obtain ⟨b,rfl⟩:∃n:Nat,b=(n:Int):=⟨b.toNat,by omega⟩;have hcb:0≤c∧c<4294967296:=by
   by_cases h:d=0
   ·have:=h2.2.2.1 h;omega
   ·have:=h2.2.2.2 (by omega);omega
  obtain ⟨c,rfl⟩:∃n:Nat,c=(n:Int):=⟨c.toNat,by omega⟩;obtain ⟨d,rfl⟩:∃n:Nat,d=(n:Int):=⟨d.toNat,by omega⟩;obtain ⟨e,rfl⟩:∃n:Nat,e=(n:Int):=⟨e.toNat,by omega⟩;obtain ⟨f,rfl⟩:∃n:Nat,f=(n:Int):=⟨f.toNat,by omega⟩;have hdb:d<4294967296:=by have:=h1.2.1;have:=h2.2.1;omega
  have heb:e<4294967296:=by have:=h3.1.2;omega
  have hfb:f<4294967296:=by have:=h3.2.2;omega
  exact (encG_any (n0:=a) (n1:=b) (n2:=c) (n3:=d) (n4:=e) (n5:=f) (by omega) (by omega) (by omega) hdb heb hfb hc).mono fun v h' q=>.inr ⟨hc,q⟩
 ·exact (encB_any hr.a hr.b hr.c hr.d hr.e hr.f hc).mono fun v h' q=>.inl ⟨hc,q⟩
section
variable {G:Pgr} {r:RS G.α} {w:St} (V:SVw G r w)
include V
theorem SVw.pgs:(if r.in_=true then r.many else (G.sure r.a).length)=w.pgs.length:=by
 unfold St.pgs;rw [V.in_];split
 ·rename_i h;exact (V.now h).2.len.symm
 ·rw [V.sure]
theorem SVw.pgk:PgsK w.z w.pgs:=by
 unfold St.pgs;split
 ·exact V.ok.now
 ·exact V.ok.sure
theorem SVw.zc:w.z=256∨w.z=512∨w.z=1024∨w.z=2048∨w.z=4096:=okSz_c V.ok.z
theorem SVw.few:w.pgs.length≤65536:=by
 have h1:=V.pgk.many;have h2:=V.zc;have h3:w.pgs.length*256≤w.pgs.length*w.z:=Nat.mul_le_mul_left _ (by omega);omega
theorem SVw.nowfew:w.now.length≤65536:=by
 have h1:=V.ok.now.many;have h2:=V.zc;have h3:w.now.length*256≤w.now.length*w.z:=Nat.mul_le_mul_left _ (by omega);omega
theorem SVw.many (h:w.in_=true):r.many=w.now.length:=(V.now h).2.len.symm
theorem SVw.page {no:Int} (h1:1≤no) (h2:no≤(w.pgs.length:Int)):(w.pgs.getD (no-1).toNat []).length=w.z∧(r.in_=true→∃mb,r.om=some mb)∧(r.in_=true→∀x,mget r.ov no=some x→x.l=w.pgs.getD (no-1).toNat [])∧(r.in_=false∨mget r.ov no=none→(G.sure r.a)[(no-1).toNat]? = some (w.pgs.getD (no-1).toNat [])):=by
 have hi:(no-1).toNat<w.pgs.length:=by omega
 have hk:(((no-1).toNat:Nat):Int)+1=no:=by omega
 have hg:w.pgs[(no-1).toNat]? = some (w.pgs.getD (no-1).toNat []):=by rw [List.getD_eq_getElem?_getD,List.getElem?_eq_getElem hi];rfl
 have hin:=V.in_;refine ⟨V.pgk.len _ (List.mem_of_getElem? hg),fun h=>(V.now (by rw [←hin];exact h)).1,fun h x hx=>?_,fun h=>?_⟩
 ·have hw:w.in_=true:=by rw [←hin];exact h
  have hn:=(V.now hw).2;have hp:w.pgs=w.now:=by unfold St.pgs;rw [if_pos hw]
  rw [hp] at hg hi⊢;have:=hn.sm (no-1).toNat x (by rw [←hn.len];exact hi) (by rw [hk];exact hx);rw [hg] at this;injection this with this;exact this.symm
 ·rw [V.sure];cases hw:w.in_ with
  | false=>
   have hp:w.pgs=w.sure:=by unfold St.pgs;rw [if_neg (by rw [hw];decide)]
   rw [hp] at hg⊢;exact hg
  | true=>
   have hn:=(V.now hw).2;have hp:w.pgs=w.now:=by unfold St.pgs;rw [if_pos hw]
   rw [hp] at hg hi⊢;have:=hn.nn (no-1).toNat (by rw [←hn.len];exact hi) (by rw [hk];exact h.elim (fun h=>by rw [hin,hw] at h;cases h) id);rw [←this.2];exact hg
theorem SVw.pg {F:Nat→Prop} {a:G.α} (h:G.sure a=G.sure r.a):SVw G { r with pF:=F,a:=a } w:=⟨V.z,V.in_,h.trans V.sure,V.now,V.out,V.sv,V.ok⟩
theorem SVw.begin (hi:w.in_=false) {m:Nat} : SVw G { r with in_:=true,many:=(G.sure r.a).length,om:=some m,ov:=[] } { w with in_:=true,now:=w.sure,saves:=[] }:=by
 have ho:=V.out hi;refine ⟨V.z,rfl,V.sure,fun _=>⟨⟨m,rfl⟩,by rw [V.sure];exact VW.begin⟩,fun h=>(by cases h),?_,⟨V.ok.z,V.ok.sure,V.ok.sure,by simp,by simp,fun h=>by cases h⟩⟩;show All2 _ r.sv [];rw [ho.2.2.2];exact All2.nil
theorem SVw.put (hi:w.in_=true) {no:Nat} {x:RB} {now':List (List UInt8)} {many':Nat} {ov':List (Int × RB)} (hv:VW RB.l ov' many' w.sure now') (hk:PgsK w.z now'):SVw G { r with many:=many',ov:=ov' } { w with now:=now' }:=
 ⟨V.z,V.in_,V.sure,fun h=>⟨(V.now h).1,hv⟩,fun h=>(by rw [hi] at h;cases h),V.sv,⟨V.ok.z,V.ok.sure,hk,V.ok.saves,V.ok.few,fun h=>by rw [hi] at h;cases h⟩⟩
theorem SVw.write (hi:w.in_=true) {no:Nat} {x:RB} (h2:2≤no) (h3:no≤w.now.length+1) (h4:w.now≠[]) (h5:x.l.length=w.z) (h6:no*w.z≤16777216):SVw G { r with many:=max r.many no,ov:=mput r.ov (no:Int) x } { w with now:=wth w.now no x.l }:=by
 have hn:=(V.now hi).2;exact V.put hi (no:=no) (x:=x) (hn.put (by omega) (by rw [←hn.len];exact h3)) (V.ok.now.wth h5 (by omega) h3 h6 (fun h=>h.elim (fun h=>by omega) fun h=>absurd h h4))
theorem SVw.setHead (hi:w.in_=true) {H:Hd} {x:RB} {n:Nat} (hc:ChkP H) (hz:H.size=(w.z:Int)) (hn:H.pages=(n:Int)) (hp:n≤max 1 w.now.length) (hx:x.l=pg1 w.z H):SVw G { r with many:=n,ov:=(mput r.ov 1 x).filter fun p=>decide (p.1≤(n:Int)) } { w with now:=(Go.Proofs.YtndlpekckpdncaaGreat.wth w.now 1 (pg1 w.z H)).take n }:=by
 have hv:=(V.now hi).2;have h1:=hv.put (no:=1) (x:=x) (Nat.le_refl _) (by omega);have h2:=h1.cut (n:=n) (by rw [←hv.len,Nat.max_comm];exact hp);rw [hx] at h2;have hz2:=V.zc;exact V.put hi (no:=1) (x:=x) h2 ((V.ok.now.wth (pg1_len V.ok.z) (Nat.le_refl _) (by omega) (by omega) (fun _=>hok_pg1 hc hz)).take n)
end
theorem _root_.Go.HL.Hp.putNew {h0 h:Heap} {D F:Nat→Prop} {M R:List Itm} {a:Itm} (ok:Hp h0 D (a::M) R h) (hf:∀j,D j→F j):∀j,a.F j→F j∨h0.size≤j:=fun j hj=>((ok.m a List.mem_cons_self).2 j hj).2.imp (hf j) id
theorem Svs.mono {h:Heap} {E E':Nat→Prop} {sv:List RSv} (hE:∀j,E j→E' j) (b:Svs h E sv):Svs h E' sv:=fun x hx=>⟨(b x hx).1,hE _ (b x hx).2.1,(b x hx).2.2.mono hE⟩
theorem Pbs.filt {h:Heap} {E:Nat→Prop} {bs:List (Int × RB)} {f:Int × RB→Bool} (b:Pbs h E bs):Pbs h E (bs.filter f):=fun x hx=>b x (List.mem_filter.1 hx).1
theorem _root_.Go.HL.Hp.svsNil {h0 h:Heap} {D:Nat→Prop} {M R:List Itm} {E:Nat→Prop} {sv:List RSv} (ok:Hp h0 D M (svsI E sv::R) h):Hp h0 D M (svsI E []::R) h:=(ok.d0 (svsI E []) (fun _ h=>by cases h)).sub (by simp;intro a h;exact .inr (.inr h))
section
variable {w:St}
theorem St.read_no {no:Int} (h:no<1∨(w.pgs.length:Int)<no):w.read no=([],1):=if_pos h
theorem St.read_ok {no:Int} (h1:1≤no) (h2:no≤(w.pgs.length:Int)):w.read no=(w.pgs.getD (no-1).toNat [],0):=if_neg (by omega)
theorem St.head_0 (h:w.pgs.length=0):w.head=hd0:=if_pos (List.eq_nil_of_length_eq_zero h)
theorem St.head_n (h:w.pgs.length≠0):w.head = { (decN (w.pgs.getD 0 [])).1 with size:=(w.z:Int),pages:=(w.pgs.length:Int) }:=by
 unfold St.head;rw [if_neg (fun e=>h (by rw [e];rfl))];rw [headD_get,List.getD_eq_getElem?_getD]
theorem St.begin_10 (h:w.in_=true):w.begin_=(w,10):=if_pos h
theorem St.begin_0 (h:w.in_=false):w.begin_=({ w with in_:=true,now:=w.sure,saves:=[] },0):=by unfold St.begin_;rw [if_neg (by rw [h];decide)]
theorem St.write_10 {no:Int} {b:List UInt8} (h:w.in_=false):w.write no b=(w,10):=if_pos h
theorem St.write_1 {no:Int} {b:List UInt8} (h:w.in_=true) (h2:no<2∨(w.now.length:Int)+1<no∨w.now=[]∨b.length≠w.z):w.write no b=(w,1):=by unfold St.write;rw [if_neg (by rw [h];decide),if_pos h2]
theorem St.write_5 {no:Int} {b:List UInt8} (h:w.in_=true) (h2:¬(no<2∨(w.now.length:Int)+1<no∨w.now=[]∨b.length≠w.z)) (h3:1048576<no∨16777216<no*(w.z:Int)):w.write no b=(w,5):=by unfold St.write;rw [if_neg (by rw [h];decide),if_neg h2,if_pos h3]
theorem St.write_0 {no:Nat} {b:List UInt8} (h:w.in_=true) (h2:¬((no:Int)<2∨(w.now.length:Int)+1<(no:Int)∨w.now=[]∨b.length≠w.z)) (h3:¬(1048576<(no:Int)∨16777216<(no:Int)*(w.z:Int))):w.write (no:Int) b=({ w with now:=wth w.now no b },0):=by unfold St.write;rw [if_neg (by rw [h];decide),if_neg h2,if_neg h3];rfl
theorem St.setHead_10 {H:Hd} (h:w.in_=false):w.setHead H=(w,10):=if_pos h
theorem St.setHead_1 {H:Hd} (h:w.in_=true) (h2:¬ChkP H∨H.size≠(w.z:Int)∨max 1 (w.now.length:Int)<H.pages):w.setHead H=(w,1):=by unfold St.setHead;rw [if_neg (by rw [h];decide),if_pos h2]
theorem St.setHead_0 {H:Hd} {n:Nat} (h:w.in_=true) (h2:¬(¬ChkP H∨H.size≠(w.z:Int)∨max 1 (w.now.length:Int)<H.pages)) (hn:H.pages=(n:Int)):w.setHead H=({ w with now:=(wth w.now 1 (pg1 w.z H)).take n },0):=by unfold St.setHead;rw [if_neg (by rw [h];decide),if_neg h2,hn];rfl
end
end Go.Proofs.YtndlpekckpdncaaGreat
