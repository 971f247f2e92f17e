/- Heads of files: Check, bytes, Encode, Decode, of the program and of the document. Conditions: numbers in their ranges. Several items as one; what a call may turn alone, taken from and put back into what the caller has. Conditions: those that each fact names. The disk's files in plain terms, as the program has them. Conditions: those that each fact names. Copies of bytes and of slices; the reader of a log: frame. Conditions: the bytes are readable and no part of the reader. The contracts of maps.Keys, slices.Sorted and slices.Sort, laid at this program by the kit. Conditions: none. maps.Keys and slices.Sorted over a map of frames: its keys, sorted. Conditions: the keys are ints of 64 bits. Opening and carrying over, as the pager that logs ahead does them, on a disk in plain terms. Conditions: those that each fact names. The store in plain terms: the document's states, and a map of pages laid over others. Conditions: those that each fact names. The disk in memory: its box, its map, its files' boxes and changes as one item that turns; all bytes as one that is read. Conditions: those that each fact names. The disk's changes: long, done, kept, what is wrong with a call. Conditions: the bytes are readable, few. What is wrong with a call to a disk. Conditions: the disk's box is known, the numbers are readable. A disk's power, what is there, a change that is done, what is made safe. Conditions: the disk is in order, its changes few. A disk's calls: Write, Truncate, Remove, Sync, Size, Dark, Changes, Cut, New. Conditions: the disk is in order, its changes few. A disk's calls: Read, Size, Dark, Changes, Cut, New, and the calls to no disk. Conditions: the disk is in order. slices.Index, slices.Clone, bytes.Clone and slices.Delete over the types that the cache uses. Conditions: lengths below a bound. The order of a cache: forget and touch. Conditions: lengths below a bound. A cache in memory, and the method drop. Conditions: the cache is well laid. cache.New and the method Get. Conditions: the cache is well laid. The method Clean of a cache. Conditions: the cache is well laid, lengths below a bound. The pager that logs ahead, in memory: its box, its maps, its cache and its disk as one item that turns; what is told of its cache alone. Conditions: those that each fact names. Calls through an interface, interface values, and closures, in few words. Conditions: those that each fact names. A store in memory: its box, its map of pages, its savepoints, and a pager of whatever make, as one item that is told by the document's state. Conditions: those that each fact names. The pager that logs ahead in plain terms: its calls, and what ties it to memory. Conditions: those that each fact names. -/
import Derived.Test.YtndlpekckpdncaaGreatPkR2
import Derived.Shelf.SlIterI.Nil
import Derived.Shelf.SortM.Plain
import Derived.Shelf.SortM.SortNone
import Derived.Ground.GgzProg
import Derived.Ground.SlgmProg
import Derived.Test.YtndlpekckpdncaaGreatProg
set_option maxRecDepth 100000
set_option maxHeartbeats 2000000
set_option linter.all false
namespace Go.Proofs.YtndlpekckpdncaaGreat
open Go Go.HL
structure Hd where
 size:Int
 pages:Int
 free:Int
 many:Int
 cookie:Int
 version:Int
 deriving DecidableEq
def ChkP (h:Hd):Prop:=okZ h.size=true∧(1≤h.pages∧h.pages≤1048576∧h.size*h.pages≤16777216)∧(0≤h.many∧h.many<h.pages∧(h.many=0→h.free=0)∧(0<h.many→2≤h.free∧h.free≤h.pages))∧(0≤h.cookie∧h.cookie≤2147483647)∧(0≤h.version∧h.version≤2147483647)
instance (h:Hd):Decidable (ChkP h):=by unfold ChkP;infer_instance
def chkC (h:Hd):Nat:=if ChkP h then 0 else 1
theorem chk_y {h:Hd} (p:ChkP h):chkC h=0:=if_pos p
theorem chk_n {h:Hd} (p:¬ChkP h):chkC h=1:=if_neg p
theorem chk_o {h:Hd} (p:¬(chkC h:Int)≠0):ChkP h:=by
 by_cases q:ChkP h
 ·exact q
 ·rw [chk_n q] at p;exact absurd (by decide) p
theorem okZ_cases {z:Int} (h:okZ z=true):z=256∨z=512∨z=1024∨z=2048∨z=4096:=of_decide_eq_true h
theorem hsize_any {h:Heap} {z:Int} (hz : -9223372036854775808≤z∧z≤9223372036854775807) :
  HC Tryz.prog 172 #[.int .i64 z] h (fun v h'=>v=.bool (okZ z)∧h'=h):=by
 refine HC.go Tryz.func172 16 ?_;refine .seq<|.r<|.z .asB<|.nil ?_;refine .seq<|.r<|.z .mvI<|.z .geq<|.z .mvB<|.sd (fun G5=>?_) (fun G5=>?_)
 ·
  refine .z .mvI<|.z .leq<|.z .pkt<|.z .mvB<|.sd (fun G9=>?_) (fun G9=>?_)
  ·
   obtain ⟨q,rfl⟩:∃q:Nat,z=(q:Int):=⟨z.toNat,by omega⟩;have hq:=and_pow q (by omega) (by omega);refine .z .mvI<|.z .mvI<|.z .sub<|.z (.bandI q (q-1))<|.z .eql<|.z .pkt<|.z .asB<|.nil ?_;refine .ret ⟨.bool (decide ((((q &&& (q-1)):Nat):Int)=0)),Res.one rfl rfl,⟨by first | exact congrArg _ (by unfold okZ;rw [decide_eq_decide];omega) | exact congrArg _ (by unfold okZ;exact (decide_eq_false (by omega)).symm) | exact congrArg _ (by unfold okZ;exact (decide_eq_true (by omega)).symm),rfl⟩⟩
  refine .y<|.y<|.y<|.y<|.y<|.z .pkf<|.z .asB<|.nil ?_;refine .ret ⟨.bool false,Res.one rfl rfl,⟨by first | exact congrArg _ (by unfold okZ;rw [decide_eq_decide];omega) | exact congrArg _ (by unfold okZ;exact (decide_eq_false (by omega)).symm) | exact congrArg _ (by unfold okZ;exact (decide_eq_true (by omega)).symm),rfl⟩⟩
 refine .y<|.y<|.z .pkf<|.z .mvB<|.y<|.y<|.y<|.y<|.y<|.z .pkf<|.z .asB<|.nil ?_;refine .ret ⟨.bool false,Res.one rfl rfl,⟨by first | exact congrArg _ (by unfold okZ;rw [decide_eq_decide];omega) | exact congrArg _ (by unfold okZ;exact (decide_eq_false (by omega)).symm) | exact congrArg _ (by unfold okZ;exact (decide_eq_true (by omega)).symm),rfl⟩⟩
theorem check_any {h:Heap} {z0 z1 z2 z3 z4 z5:Int} (h0 : -9223372036854775808≤z0∧z0≤9223372036854775807) (h1 : -9223372036854775808≤z1∧z1≤9223372036854775807) (h2 : -9223372036854775808≤z2∧z2≤9223372036854775807) (h3 : -9223372036854775808≤z3∧z3≤9223372036854775807) (h4 : -9223372036854775808≤z4∧z4≤9223372036854775807) (h5 : -9223372036854775808≤z5∧z5≤9223372036854775807):HC Tryz.prog 128 #[.agg #[.int .i64 z0,.int .i64 z1,.int .i64 z2,.int .i64 z3,.int .i64 z4,.int .i64 z5]] h (fun v h'=>v=.int .i64 (chkC ⟨z0,z1,z2,z3,z4,z5⟩:Int)∧Ext h h'):=by
 have ok:=Hp.nil h none_;refine HC.go Tryz.func128 80 ?_;refine .seq<|.r<|.a' 1 (.bxA (cs:=[.int .i64 z0,.int .i64 z1,.int .i64 z2,.int .i64 z3,.int .i64 z4,.int .i64 z5]) ok) ?_;rintro _ η1 ⟨pb1,rfl,ok,xe⟩;refine .z .asI<|.nil ?_;refine .seq<|.seq<|.r<|.z (.fa T.fd38_0)<|.z (.ldx T.ag3 ok.m0)<|.k 5 .func (hsize_any (z:=z0) (by omega))<|.z .not<|.z .mvB<|.spl (fun G7=>?_) (fun G7=>?_)
 ·
  refine .y<|.y<|.y<|.z .pkt<|.z .mvB<|.y<|.y<|.y<|.z .pkt<|.z .mvB<|.y<|.y<|.y<|.y<|.y<|.y<|.z .pkt<|.nil ?_;refine .ct<|.seq<|.r<|.z .asI<|.nil ?_;refine .ret ⟨.int .i64 1,Res.one rfl rfl,⟨by rw [chk_n (by rintro ⟨p1,⟨p2,p3,p4⟩,⟨p5,p6,p7,p8⟩,⟨p9,p10⟩,p11,p12⟩;simp only at p1 p2 p3 p4 p5 p6 p7 p8 p9 p10 p11 p12;first | omega | simp_all)]<;>rfl,ok.chg⟩⟩
 refine .z (.fa T.fd38_1)<|.z (.ldx T.ag3 ok.m0)<|.z .lss<|.z .pkf<|.z .mvB<|.sd (fun G12=>?_) (fun G12=>?_)
 ·
  refine .y<|.y<|.y<|.z .pkt<|.z .mvB<|.y<|.y<|.y<|.y<|.y<|.y<|.z .pkt<|.nil ?_;refine .ct<|.seq<|.r<|.z .asI<|.nil ?_;refine .ret ⟨.int .i64 1,Res.one rfl rfl,⟨by rw [chk_n (by rintro ⟨p1,⟨p2,p3,p4⟩,⟨p5,p6,p7,p8⟩,⟨p9,p10⟩,p11,p12⟩;simp only at p1 p2 p3 p4 p5 p6 p7 p8 p9 p10 p11 p12;first | omega | simp_all)]<;>rfl,ok.chg⟩⟩
 refine .z (.fa T.fd38_1)<|.z (.ldx T.ag3 ok.m0)<|.z .gtr<|.z .pkf<|.z .mvB<|.sd (fun G17=>?_) (fun G17=>?_)
 ·
  refine .y<|.y<|.y<|.y<|.y<|.y<|.z .pkt<|.nil ?_;refine .ct<|.seq<|.r<|.z .asI<|.nil ?_;refine .ret ⟨.int .i64 1,Res.one rfl rfl,⟨by rw [chk_n (by rintro ⟨p1,⟨p2,p3,p4⟩,⟨p5,p6,p7,p8⟩,⟨p9,p10⟩,p11,p12⟩;simp only at p1 p2 p3 p4 p5 p6 p7 p8 p9 p10 p11 p12;first | omega | simp_all)]<;>rfl,ok.chg⟩⟩
 have hoz:okZ z0=true:=by simpa using G7
 have hmul:z0*z1≤4096*z1∧0≤z0*z1:=by rcases okZ_cases hoz with e | e | e | e | e<;>rw [e]<;>constructor<;>omega
 refine .z (.fa T.fd38_0)<|.z (.ldx T.ag3 ok.m0)<|.z (.fa T.fd38_1)<|.z (.ldx T.ag3 ok.m0)<|.z (.mul (hr:=(by omega)))<|.z .gtr<|.z .pkf<|.nil ?_;refine .cd (fun C0=>?_) (fun C0=>?_)
 ·
  refine .seq<|.r<|.z .asI<|.nil ?_;refine .ret ⟨.int .i64 1,Res.one rfl rfl,⟨by rw [chk_n (by rintro ⟨p1,⟨p2,p3,p4⟩,⟨p5,p6,p7,p8⟩,⟨p9,p10⟩,p11,p12⟩;simp only at p1 p2 p3 p4 p5 p6 p7 p8 p9 p10 p11 p12;first | omega | simp_all)]<;>rfl,ok.chg⟩⟩
 refine .skip<|.seq<|.seq<|.r<|.z (.fa T.fd38_3)<|.z (.ldx T.ag3 ok.m0)<|.z .lss<|.z .mvB<|.sd (fun G28=>?_) (fun G28=>?_)
 ·
  refine .y<|.y<|.y<|.y<|.y<|.z .pkt<|.z .mvB<|.y<|.y<|.y<|.y<|.y<|.y<|.y<|.y<|.z .pkt<|.z .mvB<|.y<|.y<|.y<|.y<|.y<|.y<|.y<|.y<|.y<|.y<|.y<|.y<|.y<|.y<|.y<|.z .pkt<|.nil ?_;refine .ct<|.seq<|.r<|.z .asI<|.nil ?_;refine .ret ⟨.int .i64 1,Res.one rfl rfl,⟨by rw [chk_n (by rintro ⟨p1,⟨p2,p3,p4⟩,⟨p5,p6,p7,p8⟩,⟨p9,p10⟩,p11,p12⟩;simp only at p1 p2 p3 p4 p5 p6 p7 p8 p9 p10 p11 p12;first | omega | simp_all)]<;>rfl,ok.chg⟩⟩
 refine .z (.fa T.fd38_3)<|.z (.ldx T.ag3 ok.m0)<|.z (.fa T.fd38_1)<|.z (.ldx T.ag3 ok.m0)<|.z .geq<|.z .pkf<|.z .mvB<|.sd (fun G35=>?_) (fun G35=>?_)
 ·
  refine .y<|.y<|.y<|.y<|.y<|.y<|.y<|.y<|.z .pkt<|.z .mvB<|.y<|.y<|.y<|.y<|.y<|.y<|.y<|.y<|.y<|.y<|.y<|.y<|.y<|.y<|.y<|.z .pkt<|.nil ?_;refine .ct<|.seq<|.r<|.z .asI<|.nil ?_;refine .ret ⟨.int .i64 1,Res.one rfl rfl,⟨by rw [chk_n (by rintro ⟨p1,⟨p2,p3,p4⟩,⟨p5,p6,p7,p8⟩,⟨p9,p10⟩,p11,p12⟩;simp only at p1 p2 p3 p4 p5 p6 p7 p8 p9 p10 p11 p12;first | omega | simp_all)]<;>rfl,ok.chg⟩⟩
 refine .z (.fa T.fd38_3)<|.z (.ldx T.ag3 ok.m0)<|.z .eql<|.z .mvB<|.sd (fun G39=>?_) (fun G39=>?_)
 ·
  refine .z (.fa T.fd38_2)<|.z (.ldx T.ag3 ok.m0)<|.z .neq<|.z .pkt<|.z .pkf<|.z .mvB<|.sd (fun G45=>?_) (fun G45=>?_)
  ·
   refine .y<|.y<|.y<|.y<|.y<|.y<|.y<|.y<|.y<|.y<|.y<|.y<|.y<|.y<|.y<|.z .pkt<|.nil ?_;refine .ct<|.seq<|.r<|.z .asI<|.nil ?_;refine .ret ⟨.int .i64 1,Res.one rfl rfl,⟨by rw [chk_n (by rintro ⟨p1,⟨p2,p3,p4⟩,⟨p5,p6,p7,p8⟩,⟨p9,p10⟩,p11,p12⟩;simp only at p1 p2 p3 p4 p5 p6 p7 p8 p9 p10 p11 p12;first | omega | simp_all)]<;>rfl,ok.chg⟩⟩
  refine .z (.fa T.fd38_3)<|.z (.ldx T.ag3 ok.m0)<|.z .gtr<|.z .mvB<|.sd (fun G49=>?_) (fun G49=>?_)
  ·
   refine .z (.fa T.fd38_2)<|.z (.ldx T.ag3 ok.m0)<|.z .lss<|.z .mvB<|.sd (fun G53=>?_) (fun G53=>?_)
   ·
    refine .y<|.y<|.y<|.y<|.y<|.z .pkt<|.z .pkt<|.z .pkf<|.nil ?_;refine .ct<|.seq<|.r<|.z .asI<|.nil ?_;refine .ret ⟨.int .i64 1,Res.one rfl rfl,⟨by rw [chk_n (by rintro ⟨p1,⟨p2,p3,p4⟩,⟨p5,p6,p7,p8⟩,⟨p9,p10⟩,p11,p12⟩;simp only at p1 p2 p3 p4 p5 p6 p7 p8 p9 p10 p11 p12;first | omega | simp_all)]<;>rfl,ok.chg⟩⟩
   refine .z (.fa T.fd38_2)<|.z (.ldx T.ag3 ok.m0)<|.z (.fa T.fd38_1)<|.z (.ldx T.ag3 ok.m0)<|.z .gtr<|.z .pkf<|.z .pkt<|.z .pkf<|.nil ?_;refine .cd (fun C1=>?_) (fun C1=>?_)
   ·
    refine .seq<|.r<|.z .asI<|.nil ?_;refine .ret ⟨.int .i64 1,Res.one rfl rfl,⟨by rw [chk_n (by rintro ⟨p1,⟨p2,p3,p4⟩,⟨p5,p6,p7,p8⟩,⟨p9,p10⟩,p11,p12⟩;simp only at p1 p2 p3 p4 p5 p6 p7 p8 p9 p10 p11 p12;first | omega | simp_all)]<;>rfl,ok.chg⟩⟩
   refine .skip<|.seq<|.seq<|.r<|.z (.fa T.fd38_4)<|.z (.ldx T.ag3 ok.m0)<|.z .lss<|.z .mvB<|.sd (fun G65=>?_) (fun G65=>?_)
   ·
    refine .y<|.y<|.y<|.z .pkt<|.z .mvB<|.y<|.y<|.y<|.z .pkt<|.z .mvB<|.y<|.y<|.y<|.z .pkt<|.nil ?_;refine .ct<|.seq<|.r<|.z .asI<|.nil ?_;refine .ret ⟨.int .i64 1,Res.one rfl rfl,⟨by rw [chk_n (by rintro ⟨p1,⟨p2,p3,p4⟩,⟨p5,p6,p7,p8⟩,⟨p9,p10⟩,p11,p12⟩;simp only at p1 p2 p3 p4 p5 p6 p7 p8 p9 p10 p11 p12;first | omega | simp_all)]<;>rfl,ok.chg⟩⟩
   refine .z (.fa T.fd38_4)<|.z (.ldx T.ag3 ok.m0)<|.z .gtr<|.z .pkf<|.z .mvB<|.sd (fun G70=>?_) (fun G70=>?_)
   ·
    refine .y<|.y<|.y<|.z .pkt<|.z .mvB<|.y<|.y<|.y<|.z .pkt<|.nil ?_;refine .ct<|.seq<|.r<|.z .asI<|.nil ?_;refine .ret ⟨.int .i64 1,Res.one rfl rfl,⟨by rw [chk_n (by rintro ⟨p1,⟨p2,p3,p4⟩,⟨p5,p6,p7,p8⟩,⟨p9,p10⟩,p11,p12⟩;simp only at p1 p2 p3 p4 p5 p6 p7 p8 p9 p10 p11 p12;first | omega | simp_all)]<;>rfl,ok.chg⟩⟩
   refine .z (.fa T.fd38_5)<|.z (.ldx T.ag3 ok.m0)<|.z .lss<|.z .pkf<|.z .mvB<|.sd (fun G75=>?_) (fun G75=>?_)
   ·
    refine .y<|.y<|.y<|.z .pkt<|.nil ?_;refine .ct<|.seq<|.r<|.z .asI<|.nil ?_;refine .ret ⟨.int .i64 1,Res.one rfl rfl,⟨by rw [chk_n (by rintro ⟨p1,⟨p2,p3,p4⟩,⟨p5,p6,p7,p8⟩,⟨p9,p10⟩,p11,p12⟩;simp only at p1 p2 p3 p4 p5 p6 p7 p8 p9 p10 p11 p12;first | omega | simp_all)]<;>rfl,ok.chg⟩⟩
   refine .z (.fa T.fd38_5)<|.z (.ldx T.ag3 ok.m0)<|.z .gtr<|.z .pkf<|.nil ?_;refine .cd (fun C2=>?_) (fun C2=>?_)
   ·
    refine .seq<|.r<|.z .asI<|.nil ?_;refine .ret ⟨.int .i64 1,Res.one rfl rfl,⟨by rw [chk_n (by rintro ⟨p1,⟨p2,p3,p4⟩,⟨p5,p6,p7,p8⟩,⟨p9,p10⟩,p11,p12⟩;simp only at p1 p2 p3 p4 p5 p6 p7 p8 p9 p10 p11 p12;first | omega | simp_all)]<;>rfl,ok.chg⟩⟩
   refine .skip<|.seq<|.r<|.z .asI<|.nil ?_;refine .ret ⟨.int .i64 0,Res.one rfl rfl,⟨by rw [chk_y ⟨by assumption,⟨by simp only;omega,by simp only;omega,by simp only;omega⟩,⟨by simp only;omega,by simp only;omega,by simp only;omega,by simp only;omega⟩,⟨by simp only;omega,by simp only;omega⟩,by simp only;omega,by simp only;omega⟩]<;>rfl,ok.chg⟩⟩
  refine .y<|.y<|.y<|.y<|.y<|.y<|.y<|.y<|.y<|.y<|.z .pkf<|.z .pkf<|.nil ?_;refine .cf<|.skip<|.seq<|.seq<|.r<|.z (.fa T.fd38_4)<|.z (.ldx T.ag3 ok.m0)<|.z .lss<|.z .mvB<|.sd (fun G65=>?_) (fun G65=>?_)
  ·
   refine .y<|.y<|.y<|.z .pkt<|.z .mvB<|.y<|.y<|.y<|.z .pkt<|.z .mvB<|.y<|.y<|.y<|.z .pkt<|.nil ?_;refine .ct<|.seq<|.r<|.z .asI<|.nil ?_;refine .ret ⟨.int .i64 1,Res.one rfl rfl,⟨by rw [chk_n (by rintro ⟨p1,⟨p2,p3,p4⟩,⟨p5,p6,p7,p8⟩,⟨p9,p10⟩,p11,p12⟩;simp only at p1 p2 p3 p4 p5 p6 p7 p8 p9 p10 p11 p12;first | omega | simp_all)]<;>rfl,ok.chg⟩⟩
  refine .z (.fa T.fd38_4)<|.z (.ldx T.ag3 ok.m0)<|.z .gtr<|.z .pkf<|.z .mvB<|.sd (fun G70=>?_) (fun G70=>?_)
  ·
   refine .y<|.y<|.y<|.z .pkt<|.z .mvB<|.y<|.y<|.y<|.z .pkt<|.nil ?_;refine .ct<|.seq<|.r<|.z .asI<|.nil ?_;refine .ret ⟨.int .i64 1,Res.one rfl rfl,⟨by rw [chk_n (by rintro ⟨p1,⟨p2,p3,p4⟩,⟨p5,p6,p7,p8⟩,⟨p9,p10⟩,p11,p12⟩;simp only at p1 p2 p3 p4 p5 p6 p7 p8 p9 p10 p11 p12;first | omega | simp_all)]<;>rfl,ok.chg⟩⟩
  refine .z (.fa T.fd38_5)<|.z (.ldx T.ag3 ok.m0)<|.z .lss<|.z .pkf<|.z .mvB<|.sd (fun G75=>?_) (fun G75=>?_)
  ·
   refine .y<|.y<|.y<|.z .pkt<|.nil ?_;refine .ct<|.seq<|.r<|.z .asI<|.nil ?_;refine .ret ⟨.int .i64 1,Res.one rfl rfl,⟨by rw [chk_n (by rintro ⟨p1,⟨p2,p3,p4⟩,⟨p5,p6,p7,p8⟩,⟨p9,p10⟩,p11,p12⟩;simp only at p1 p2 p3 p4 p5 p6 p7 p8 p9 p10 p11 p12;first | omega | simp_all)]<;>rfl,ok.chg⟩⟩
  refine .z (.fa T.fd38_5)<|.z (.ldx T.ag3 ok.m0)<|.z .gtr<|.z .pkf<|.nil ?_;refine .cd (fun C2=>?_) (fun C2=>?_)
  ·
   refine .seq<|.r<|.z .asI<|.nil ?_;refine .ret ⟨.int .i64 1,Res.one rfl rfl,⟨by rw [chk_n (by rintro ⟨p1,⟨p2,p3,p4⟩,⟨p5,p6,p7,p8⟩,⟨p9,p10⟩,p11,p12⟩;simp only at p1 p2 p3 p4 p5 p6 p7 p8 p9 p10 p11 p12;first | omega | simp_all)]<;>rfl,ok.chg⟩⟩
  refine .skip<|.seq<|.r<|.z .asI<|.nil ?_;refine .ret ⟨.int .i64 0,Res.one rfl rfl,⟨by rw [chk_y ⟨by assumption,⟨by simp only;omega,by simp only;omega,by simp only;omega⟩,⟨by simp only;omega,by simp only;omega,by simp only;omega,by simp only;omega⟩,⟨by simp only;omega,by simp only;omega⟩,by simp only;omega,by simp only;omega⟩]<;>rfl,ok.chg⟩⟩
 refine .y<|.y<|.y<|.z .pkf<|.z .pkf<|.z .mvB<|.z (.fa T.fd38_3)<|.z (.ldx T.ag3 ok.m0)<|.z .gtr<|.z .mvB<|.sd (fun G49=>?_) (fun G49=>?_)
 ·
  refine .z (.fa T.fd38_2)<|.z (.ldx T.ag3 ok.m0)<|.z .lss<|.z .mvB<|.sd (fun G53=>?_) (fun G53=>?_)
  ·
   refine .y<|.y<|.y<|.y<|.y<|.z .pkt<|.z .pkt<|.z .pkf<|.nil ?_;refine .ct<|.seq<|.r<|.z .asI<|.nil ?_;refine .ret ⟨.int .i64 1,Res.one rfl rfl,⟨by rw [chk_n (by rintro ⟨p1,⟨p2,p3,p4⟩,⟨p5,p6,p7,p8⟩,⟨p9,p10⟩,p11,p12⟩;simp only at p1 p2 p3 p4 p5 p6 p7 p8 p9 p10 p11 p12;first | omega | simp_all)]<;>rfl,ok.chg⟩⟩
  refine .z (.fa T.fd38_2)<|.z (.ldx T.ag3 ok.m0)<|.z (.fa T.fd38_1)<|.z (.ldx T.ag3 ok.m0)<|.z .gtr<|.z .pkf<|.z .pkt<|.z .pkf<|.nil ?_;refine .cd (fun C1=>?_) (fun C1=>?_)
  ·
   refine .seq<|.r<|.z .asI<|.nil ?_;refine .ret ⟨.int .i64 1,Res.one rfl rfl,⟨by rw [chk_n (by rintro ⟨p1,⟨p2,p3,p4⟩,⟨p5,p6,p7,p8⟩,⟨p9,p10⟩,p11,p12⟩;simp only at p1 p2 p3 p4 p5 p6 p7 p8 p9 p10 p11 p12;first | omega | simp_all)]<;>rfl,ok.chg⟩⟩
  refine .skip<|.seq<|.seq<|.r<|.z (.fa T.fd38_4)<|.z (.ldx T.ag3 ok.m0)<|.z .lss<|.z .mvB<|.sd (fun G65=>?_) (fun G65=>?_)
  ·
   refine .y<|.y<|.y<|.z .pkt<|.z .mvB<|.y<|.y<|.y<|.z .pkt<|.z .mvB<|.y<|.y<|.y<|.z .pkt<|.nil ?_;refine .ct<|.seq<|.r<|.z .asI<|.nil ?_;refine .ret ⟨.int .i64 1,Res.one rfl rfl,⟨by rw [chk_n (by rintro ⟨p1,⟨p2,p3,p4⟩,⟨p5,p6,p7,p8⟩,⟨p9,p10⟩,p11,p12⟩;simp only at p1 p2 p3 p4 p5 p6 p7 p8 p9 p10 p11 p12;first | omega | simp_all)]<;>rfl,ok.chg⟩⟩
  refine .z (.fa T.fd38_4)<|.z (.ldx T.ag3 ok.m0)<|.z .gtr<|.z .pkf<|.z .mvB<|.sd (fun G70=>?_) (fun G70=>?_)
  ·
   refine .y<|.y<|.y<|.z .pkt<|.z .mvB<|.y<|.y<|.y<|.z .pkt<|.nil ?_;refine .ct<|.seq<|.r<|.z .asI<|.nil ?_;refine .ret ⟨.int .i64 1,Res.one rfl rfl,⟨by rw [chk_n (by rintro ⟨p1,⟨p2,p3,p4⟩,⟨p5,p6,p7,p8⟩,⟨p9,p10⟩,p11,p12⟩;simp only at p1 p2 p3 p4 p5 p6 p7 p8 p9 p10 p11 p12;first | omega | simp_all)]<;>rfl,ok.chg⟩⟩
  refine .z (.fa T.fd38_5)<|.z (.ldx T.ag3 ok.m0)<|.z .lss<|.z .pkf<|.z .mvB<|.sd (fun G75=>?_) (fun G75=>?_)
  ·
   refine .y<|.y<|.y<|.z .pkt<|.nil ?_;refine .ct<|.seq<|.r<|.z .asI<|.nil ?_;refine .ret ⟨.int .i64 1,Res.one rfl rfl,⟨by rw [chk_n (by rintro ⟨p1,⟨p2,p3,p4⟩,⟨p5,p6,p7,p8⟩,⟨p9,p10⟩,p11,p12⟩;simp only at p1 p2 p3 p4 p5 p6 p7 p8 p9 p10 p11 p12;first | omega | simp_all)]<;>rfl,ok.chg⟩⟩
  refine .z (.fa T.fd38_5)<|.z (.ldx T.ag3 ok.m0)<|.z .gtr<|.z .pkf<|.nil ?_;refine .cd (fun C2=>?_) (fun C2=>?_)
  ·
   refine .seq<|.r<|.z .asI<|.nil ?_;refine .ret ⟨.int .i64 1,Res.one rfl rfl,⟨by rw [chk_n (by rintro ⟨p1,⟨p2,p3,p4⟩,⟨p5,p6,p7,p8⟩,⟨p9,p10⟩,p11,p12⟩;simp only at p1 p2 p3 p4 p5 p6 p7 p8 p9 p10 p11 p12;first | omega | simp_all)]<;>rfl,ok.chg⟩⟩
  refine .skip<|.seq<|.r<|.z .asI<|.nil ?_;refine .ret ⟨.int .i64 0,Res.one rfl rfl,⟨by rw [chk_y ⟨by assumption,⟨by simp only;omega,by simp only;omega,by simp only;omega⟩,⟨by simp only;omega,by simp only;omega,by simp only;omega,by simp only;omega⟩,⟨by simp only;omega,by simp only;omega⟩,by simp only;omega,by simp only;omega⟩]<;>rfl,ok.chg⟩⟩
 refine .y<|.y<|.y<|.y<|.y<|.y<|.y<|.y<|.y<|.y<|.z .pkf<|.z .pkf<|.nil ?_;refine .cf<|.skip<|.seq<|.seq<|.r<|.z (.fa T.fd38_4)<|.z (.ldx T.ag3 ok.m0)<|.z .lss<|.z .mvB<|.sd (fun G65=>?_) (fun G65=>?_)
 ·
  refine .y<|.y<|.y<|.z .pkt<|.z .mvB<|.y<|.y<|.y<|.z .pkt<|.z .mvB<|.y<|.y<|.y<|.z .pkt<|.nil ?_;refine .ct<|.seq<|.r<|.z .asI<|.nil ?_;refine .ret ⟨.int .i64 1,Res.one rfl rfl,⟨by rw [chk_n (by rintro ⟨p1,⟨p2,p3,p4⟩,⟨p5,p6,p7,p8⟩,⟨p9,p10⟩,p11,p12⟩;simp only at p1 p2 p3 p4 p5 p6 p7 p8 p9 p10 p11 p12;first | omega | simp_all)]<;>rfl,ok.chg⟩⟩
 refine .z (.fa T.fd38_4)<|.z (.ldx T.ag3 ok.m0)<|.z .gtr<|.z .pkf<|.z .mvB<|.sd (fun G70=>?_) (fun G70=>?_)
 ·
  refine .y<|.y<|.y<|.z .pkt<|.z .mvB<|.y<|.y<|.y<|.z .pkt<|.nil ?_;refine .ct<|.seq<|.r<|.z .asI<|.nil ?_;refine .ret ⟨.int .i64 1,Res.one rfl rfl,⟨by rw [chk_n (by rintro ⟨p1,⟨p2,p3,p4⟩,⟨p5,p6,p7,p8⟩,⟨p9,p10⟩,p11,p12⟩;simp only at p1 p2 p3 p4 p5 p6 p7 p8 p9 p10 p11 p12;first | omega | simp_all)]<;>rfl,ok.chg⟩⟩
 refine .z (.fa T.fd38_5)<|.z (.ldx T.ag3 ok.m0)<|.z .lss<|.z .pkf<|.z .mvB<|.sd (fun G75=>?_) (fun G75=>?_)
 ·
  refine .y<|.y<|.y<|.z .pkt<|.nil ?_;refine .ct<|.seq<|.r<|.z .asI<|.nil ?_;refine .ret ⟨.int .i64 1,Res.one rfl rfl,⟨by rw [chk_n (by rintro ⟨p1,⟨p2,p3,p4⟩,⟨p5,p6,p7,p8⟩,⟨p9,p10⟩,p11,p12⟩;simp only at p1 p2 p3 p4 p5 p6 p7 p8 p9 p10 p11 p12;first | omega | simp_all)]<;>rfl,ok.chg⟩⟩
 refine .z (.fa T.fd38_5)<|.z (.ldx T.ag3 ok.m0)<|.z .gtr<|.z .pkf<|.nil ?_;refine .cd (fun C2=>?_) (fun C2=>?_)
 ·
  refine .seq<|.r<|.z .asI<|.nil ?_;refine .ret ⟨.int .i64 1,Res.one rfl rfl,⟨by rw [chk_n (by rintro ⟨p1,⟨p2,p3,p4⟩,⟨p5,p6,p7,p8⟩,⟨p9,p10⟩,p11,p12⟩;simp only at p1 p2 p3 p4 p5 p6 p7 p8 p9 p10 p11 p12;first | omega | simp_all)]<;>rfl,ok.chg⟩⟩
 refine .skip<|.seq<|.r<|.z .asI<|.nil ?_;refine .ret ⟨.int .i64 0,Res.one rfl rfl,⟨by rw [chk_y ⟨by assumption,⟨by simp only;omega,by simp only;omega,by simp only;omega⟩,⟨by simp only;omega,by simp only;omega,by simp only;omega,by simp only;omega⟩,⟨by simp only;omega,by simp only;omega⟩,by simp only;omega,by simp only;omega⟩]<;>rfl,ok.chg⟩⟩
@[reducible] def signL:List UInt8:=[116,111,109,101,32,102,105,108,101,32,49,0,0,0,0,0]
def hdF (N:List Nat):List UInt8:=(N.map fun n=>fixedN n 4).flatten
theorem hdF_take {N:List Nat} {i:Nat} (h:i<N.length):hdF (N.take (i+1))=hdF (N.take i)++fixedN N[i] 4:=by
 unfold hdF;rw [List.take_succ_eq_append_getElem h,List.map_append,List.flatten_append];simp
def hdT (N:List Nat):List UInt8:=signL++hdF N++List.replicate 20 0
def hdB (N:List Nat):List UInt8:=hdT N++fixedN (sumN (hdT N)) 4
theorem hbytes_any {h:Heap} {n0 n1 n2 n3 n4 n5:Nat} (h0:n0<4294967296) (h1:n1<4294967296) (h2:n2<4294967296) (h3:n3<4294967296) (h4:n4<4294967296) (h5:n5<4294967296):HC Tryz.prog 129 #[.agg #[.int .i64 (n0:Int),.int .i64 (n1:Int),.int .i64 (n2:Int),.int .i64 (n3:Int),.int .i64 (n4:Int),.int .i64 (n5:Int)]] h (fun v h'=>Own h h' 1 5 v ((hdB [n0,n1,n2,n3,n4,n5]).map bv)):=by
 have ok:=Hp.nil h none_;refine HC.go Tryz.func129 44 ?_;refine .seq<|.r<|.a' 1 (.bxA (cs:=[.int .i64 (n0:Int),.int .i64 (n1:Int),.int .i64 (n2:Int),.int .i64 (n3:Int),.int .i64 (n4:Int),.int .i64 (n5:Int)]) ok) ?_;rintro _ η1 ⟨pb1,rfl,ok,xe⟩;refine .z .asS<|.nil ?_;refine .seq<|.r<|.a' 6 (.lit [.const (.int .u8 116),.const (.int .u8 111),.const (.int .u8 109),.const (.int .u8 101),.const (.int .u8 32),.const (.int .u8 102),.const (.int .u8 105),.const (.int .u8 108),.const (.int .u8 101),.const (.int .u8 32),.const (.int .u8 49),.const (.int .u8 0),.const (.int .u8 0),.const (.int .u8 0),.const (.int .u8 0),.const (.int .u8 0)] (cs:=[.int .u8 116,.int .u8 111,.int .u8 109,.int .u8 101,.int .u8 32,.int .u8 102,.int .u8 105,.int .u8 108,.int .u8 101,.int .u8 32,.int .u8 49,.int .u8 0,.int .u8 0,.int .u8 0,.int .u8 0,.int .u8 0]) T.el44 T.sz5 T.zr5 ok ⟨rfl,rfl,rfl,rfl,rfl,rfl,rfl,rfl,rfl,rfl,rfl,rfl,rfl,rfl,rfl,rfl,trivial⟩) ?_;rintro _ η2 ⟨pb2,rfl,ok,xe⟩;have ok:=ok.cx (ys:=([116,111,109,101,32,102,105,108,101,32,49,0,0,0,0,0]:List UInt8).map bv) rfl;refine .a' 7 (.cvL T.el44 T.in5 ok) ?_;rintro _ η3 ⟨rfl,ok,cg⟩;refine .z .asS<|.nil ?_;refine .seq<|.seq<|.r<|.z (.fa T.fd38_0)<|.z (.ldx T.ag3 ok.m1)<|.z (.fa T.fd38_1)<|.z (.ldx T.ag3 ok.m1)<|.z (.fa T.fd38_2)<|.z (.ldx T.ag3 ok.m1)<|.z (.fa T.fd38_3)<|.z (.ldx T.ag3 ok.m1)<|.z (.fa T.fd38_4)<|.z (.ldx T.ag3 ok.m1)<|.z (.fa T.fd38_5)<|.z (.ldx T.ag3 ok.m1)<|.a' 20 (.lit [.tmp 9,.tmp 11,.tmp 13,.tmp 15,.tmp 17,.tmp 19] (cs:=[.int .i64 (n0:Int),.int .i64 (n1:Int),.int .i64 (n2:Int),.int .i64 (n3:Int),.int .i64 (n4:Int),.int .i64 (n5:Int)]) T.el24 T.sz3 T.zr3 ok ⟨rfl,rfl,rfl,rfl,rfl,rfl,trivial⟩) ?_;rintro _ η4 ⟨pb3,rfl,ok,xe⟩;obtain ⟨N,hN⟩:∃N:List Nat,N=[n0,n1,n2,n3,n4,n5]:=⟨_,rfl⟩;have hNl:N.length=6:=by rw [hN];rfl
 have hNb:∀j (hj:j<N.length),N[j]<4294967296:=by subst hN;intro j hj;match j,hj with | 0,_=>exact h0 | 1,_=>exact h1 | 2,_=>exact h2 | 3,_=>exact h3 | 4,_=>exact h4 | 5,_=>exact h5
 have hML:(N.map Int.ofNat).length=6:=by rw [List.length_map,hNl]
 have ok:=(ok.cx (ys:=(N.map Int.ofNat).map iv) (by rw [hN];rfl)).frzI rfl;refine .z (.len T.el24)<|.z .mvI<|.nil ?_;refine .block fun K0 hK0=>.loop (fun m s hh=>∃(i:Nat) (bs:List UInt8) (a3:Option Addr) (c3:Nat),Has s [(3,.slice a3 bs.length c3),(20,.slice (some ⟨pb3,0,none⟩) 6 6),(21,.int .i64 6),(22,.int .i64 (i:Int))]∧Hp h none_ [capI 1 5 (a3,bs.length,c3) (bs.map bv)] [rdI (blkC (sv (some ⟨pb3,0,none⟩,6,6))) none_ (some ⟨pb3,0,none⟩,6,6) (N.map Int.ofNat)] hh∧i≤6∧bs=signL++hdF (N.take i)∧bs.length=16+4*i∧m=6-i) ?_ ?_
 ·exact ⟨_,0,signL,(some ⟨pb2,0,none⟩),16,⟨rfl,rfl,rfl,rfl,trivial⟩,(ok).k1,Nat.zero_le _,rfl,rfl,rfl⟩
 rintro _ _ η5 ⟨i,bs,a3,c3,hs,ok,hi,hbs,hbl,rfl⟩ J0 hJ0;refine .frame hs fun τ=>?_;refine .seq<|.r<|.z .lss<|.nil ?_;refine .seq<|.cdr (fun C0=>?_) (fun C0=>?_)
 ·
  obtain rfl:i=6:=by omega
  rw [show N.take 6=N from by rw [←hNl,List.take_length]] at hbs;refine .exit<|hK0 _ _<|.seq<|.r<|.z .mvS<|.z .mvS<|.z (.len T.el44)<|.z .sub<|.a' 36 (.apz (z:=(60-(bs.length:Int))) 20 T.el44 T.in3 T.sz5 T.by5 T.zr5 ok (by omega) (by omega)) ?_;rintro _ η6 ⟨ya1,yc1,rfl,ok⟩;refine .z .asS<|.nil ?_;refine .seq<|.r<|.z .mvS<|.z .mvS<|.a' 39 (.lit [.tmp 38] (cs:=[.slice ya1 ((bs++List.replicate 20 0).length) yc1]) T.el28 T.sz44 T.zr44 ok ⟨rfl,trivial⟩) ?_;rintro _ η7 ⟨pb4,rfl,ok,xe⟩;refine .c' 40 .func (sum_any (a:=some ⟨pb4,0,none⟩) (c:=1) (L:=[(bs++List.replicate 20 0)]) (RdL.rows (v:=(some ⟨pb4,0,none⟩,1,1)) (xs:=[(ya1,(bs++List.replicate 20 0).length,yc1)]) (ls:=[(bs++List.replicate 20 0)]) ok.m0 ⟨⟨_,_,(RdL.ofCapB (v:=(ya1,(bs++List.replicate 20 0).length,yc1)) (l:=(bs++List.replicate 20 0)) ok.m1)⟩,trivial⟩)) ?_;rintro _ η8 ⟨rfl,hx⟩;have ok:=ok.ext hx;refine .z (.cvs T.in130 T.in89 (M:=18446744073709551616) rfl rfl (a:=(sumN ([(bs++List.replicate 20 0)]).flatten)) (ha:=by exact Nat.lt_of_lt_of_le (sumN_lt _) (by decide)))<|.c' 42 .func (fixed_any (n:=(sumN ([(bs++List.replicate 20 0)]).flatten)) (size:=4) (by first | omega | exact Nat.lt_of_lt_of_le (sumN_lt _) (by decide)) (by omega) (by omega)) ?_;rintro _ η9 own;obtain ⟨ya2,yc2,rfl⟩:=own.formB;have ok:=ok.own own;refine .a' 43 (.app (news:=(fixedN (sumN ([(bs++List.replicate 20 0)]).flatten) 4).map bv) T.el44 T.sz5 T.by5 T.zr5 ok.n2 (ok.n2.m1).sl bv_all (by simp only [List.length_map,List.length_append,List.length_take,List.length_cons,List.length_nil,List.length_replicate,List.length_range,fixedN_len,sealN_len];omega)) ?_;rintro _ η10 ⟨ya3,yn2,yc3,rfl,ok,ap⟩;have ok:=ok.cx (ys:=((bs++List.replicate 20 0)++(fixedN (sumN ([(bs++List.replicate 20 0)]).flatten) 4)).map bv) (by simp [bv]);obtain rfl:yn2=((bs++List.replicate 20 0)++(fixedN (sumN ([(bs++List.replicate 20 0)]).flatten) 4)).length:=ok.lenB;refine .z .asS<|.nil ?_;refine .ret ⟨.slice ya3 (((bs++List.replicate 20 0)++(fixedN (sumN ([(bs++List.replicate 20 0)]).flatten) 4)).length) yc3,Res.one rfl rfl,(by rw [show hdB [n0,n1,n2,n3,n4,n5]=(bs++List.replicate 20 0)++(fixedN (sumN ([(bs++List.replicate 20 0)]).flatten) 4) from by rw [←hN];unfold hdB hdT;rw [←hbs];simp];exact (ok).toOwn)⟩
 have hi6:i<6:=by omega
 refine .skip<|.seq<|.block fun K1 hK1=>.seq<|.r<|.z (.ix1 i T.el24 T.sz3)<|.z (.ld T.ag3 (ok.r0.i64 (i:=i) (by omega)))<|?_;have hiN:i<N.length:=by omega
 have hNi:=hNb i hiN;rw [show (N.map Int.ofNat)[i]=((N[i]:Nat):Int) from List.getElem_map _];refine .z .asI<|.nil ?_;refine .r<|.z .mvS<|.z .mvI<|.z (.cvs T.in130 T.in3 (M:=18446744073709551616) rfl rfl)<|.c' 29 .func (fixed_any (n:=N[i]) (size:=4) (by first | omega | exact Nat.lt_of_lt_of_le (sumN_lt _) (by decide)) (by omega) (by omega)) ?_;rintro _ η11 own;obtain ⟨ya4,yc4,rfl⟩:=own.formB;have ok:=ok.own own;refine .a' 30 (.app (news:=(fixedN (N[i]) 4).map bv) T.el44 T.sz5 T.by5 T.zr5 ok.n1 (ok.n1.m1).sl bv_all (by simp only [List.length_map,List.length_append,List.length_take,List.length_cons,List.length_nil,List.length_replicate,List.length_range,fixedN_len,sealN_len];omega)) ?_;rintro _ η12 ⟨ya5,yn4,yc5,rfl,ok,ap⟩;have ok:=ok.cx (ys:=(bs++(fixedN (N[i]) 4)).map bv) (by simp [bv]);obtain rfl:yn4=(bs++(fixedN (N[i]) 4)).length:=ok.lenB;refine .z .asS<|.nil ?_;refine .end<|hK1 _ _<|.r<|.z (.addI (b:=1))<|.z .mvI<|.nil ?_;refine .end<|hJ0 _ _ _ ⟨i+1,bs++fixedN N[i] 4,ya5,yc5,⟨rfl,rfl,rfl,rfl,trivial⟩,(ok).k1,by omega,by rw [hdF_take hiN,hbs,List.append_assoc],by rw [List.length_append,fixedN_len,hbl];omega,rfl⟩ (by omega)
def hdAt (l:List UInt8) (k:Nat):Nat:=rdN l (16+4*k) 4
theorem hdAt_lt (l:List UInt8) (k:Nat):hdAt l k<4294967296:=rdN_lt4 _ _
def hd0:Hd:=⟨0,0,0,0,0,0⟩
def decH (l:List UInt8):Hd:=⟨hdAt l 0,hdAt l 1,hdAt l 2,hdAt l 3,hdAt l 4,hdAt l 5⟩
def decY (l:List UInt8):Prop:=ChkP (decH l)∧hdB [hdAt l 0,hdAt l 1,hdAt l 2,hdAt l 3,hdAt l 4,hdAt l 5]=l.take 64
instance (l:List UInt8):Decidable (decY l):=by unfold decY;infer_instance
def decN (l:List UInt8):Hd × Nat:=if l.length<64 then (hd0,6) else if l.take 16≠signL then (hd0,8) else if decY l then (decH l,0) else (hd0,14)
theorem dec6 {l:List UInt8} (h:l.length<64):decN l=(hd0,6):=if_pos h
theorem dec8 {l:List UInt8} (h:¬l.length<64) (h2:l.take 16≠signL):decN l=(hd0,8):=by unfold decN;rw [if_neg h,if_pos h2]
theorem dec14 {l:List UInt8} (h:¬l.length<64) (h2:l.take 16=signL) (h3:¬decY l):decN l=(hd0,14):=by unfold decN;rw [if_neg h,if_neg (not_not_intro h2),if_neg h3]
theorem dec0 {l:List UInt8} (h:¬l.length<64) (h2:l.take 16=signL) (h3:decY l):decN l=(decH l,0):=by unfold decN;rw [if_neg h,if_neg (not_not_intro h2),if_pos h3]
def Hd.val (h:Hd):Value:=.agg #[.int .i64 h.size,.int .i64 h.pages,.int .i64 h.free,.int .i64 h.many,.int .i64 h.cookie,.int .i64 h.version]
theorem dfield_any {h:Heap} {F E:Nat→Prop} {a:Option Addr} {c b:Nat} {l:List UInt8} (hl:RdL h F E (a,l.length,c) l) (hb:(boxI b 44 [.slice a l.length c]).p h) {i:Nat} (hi:20+4*i≤l.length) :
  HC Tryz.prog 126 #[.int .i64 (i:Int),.pointer (some ⟨b,0,none⟩)] h (fun v h'=>v=.int .i64 ((hdAt l i:Nat):Int)∧h'=h):=by
 have hc2:=hl.m;have hc1:l.length≤c:=hl.c;simp only at hc2;have hrd:=rdN_lt4 l (16+(4*i));refine HC.go Tryz.func126 16 ?_;refine .seq<|.r<|.z .asI<|.nil ?_;refine .seq<|.r<|.z (.ldx T.ag44 hb)<|.z .mvI<|.z (.mulI (a:=4))<|.z (.addI (a:=16))<|.k 11 .func (read_any (p:=(16+(4*i))) (size:=4) (a:=a) (c:=c) (l:=l) hl (by omega) (by omega) (by omega))<|.z .mvU<|.z .ex<|.z .ex<|.z .asI<|.z .asI<|.nil ?_;refine .seq<|.r<|.z .mvI<|.z (.cvi T.in3 T.in130)<|.z .asI<|.nil ?_;refine .ret ⟨.int .i64 (((rdN l (16+(4*i)) 4):Nat):Int),Res.one rfl rfl,⟨by unfold hdAt;rfl,rfl⟩⟩
theorem dec_any {h:Heap} {F E:Nat→Prop} {a:Option Addr} {c:Nat} {l:List UInt8} (hl:RdL h F E (a,l.length,c) l) :
  HC Tryz.prog 72 #[.slice a l.length c] h (fun v h'=>v=.tuple #[(decN l).1.val,.int .i64 ((decN l).2:Int)]∧Ext h h'):=by
 have hc2:=hl.m;have hc1:l.length≤c:=hl.c;simp only at hc2;have ok:=(Hp.nil h none_).arg hl;have hf0:=hdAt_lt l 0;have hf1:=hdAt_lt l 1;have hf2:=hdAt_lt l 2;have hf3:=hdAt_lt l 3;have hf4:=hdAt_lt l 4;have hf5:=hdAt_lt l 5;refine HC.go Tryz.func72 48 ?_;refine .seq<|.r<|.a' 1 (.bxS ok) ?_;rintro _ η1 ⟨pb1,rfl,ok,xe⟩;refine .a' 2 (.alA T.zr38 ok) ?_;rintro _ η2 ⟨pb2,rfl,ok,xe⟩;refine .z .asI<|.nil ?_;refine .seq<|.seq<|.r<|.z (.ldx T.ag44 ok.m1)<|.z (.len T.el44)<|.z .lss<|.nil ?_;refine .cd (fun C0=>?_) (fun C0=>?_)
 ·
  refine .seq<|.r<|.z (.bd #[.int .i64 0,.int .i64 0,.int .i64 0,.int .i64 0,.int .i64 0,.int .i64 0] T.zr38 T.pl38 (by kernel_rfl))<|.ur' (.stW (vs:=[.int .i64 0,.int .i64 0,.int .i64 0,.int .i64 0,.int .i64 0,.int .i64 0]) T.sz38 ok (oneL rfl)) ?_;rintro η3 ⟨ok,cg⟩;refine .z .asI<|.nil ?_;refine .ret ⟨.tuple #[.agg #[.int .i64 0,.int .i64 0,.int .i64 0,.int .i64 0,.int .i64 0,.int .i64 0],.int .i64 6],Res.many (vs:=[.agg #[.int .i64 0,.int .i64 0,.int .i64 0,.int .i64 0,.int .i64 0,.int .i64 0],.int .i64 6]) rfl ⟨⟨_,rfl,load_ag T.ag38 ok.m0 T.sz38⟩,rfl,trivial⟩ rfl,⟨by rw [dec6 (by omega)];rfl,ok.chg⟩⟩
 refine .skip<|.seq<|.seq<|.r<|.z (.ldx T.ag44 ok.m1)<|.z (.sl_h ((l.take 16).length) T.el44 T.sz5 (hb:=by (simp;omega)))<|?_;have ok:=ok.d0 (rdI (fun j=>F j∧j<h.size) (fun j=>E j∧j<h.size) (a,(l.take 16).length,c) (l.take 16)) ((ok.r0).pre (l2:=l.take 16) (List.take_prefix _ _)) (fun _ h=>h);refine .z (.bts T.el44 T.in5 T.st9 (ok.r0).by)<|.z .tNeB<|.nil ?_;refine .cd (fun C1=>?_) (fun C1=>?_)
 ·
  refine .seq<|.r<|.z (.bd #[.int .i64 0,.int .i64 0,.int .i64 0,.int .i64 0,.int .i64 0,.int .i64 0] T.zr38 T.pl38 (by kernel_rfl))<|.ur' (.stW (vs:=[.int .i64 0,.int .i64 0,.int .i64 0,.int .i64 0,.int .i64 0,.int .i64 0]) T.sz38 ok (oneL rfl)) ?_;rintro η4 ⟨ok,cg⟩;refine .z .asI<|.nil ?_;refine .ret ⟨.tuple #[.agg #[.int .i64 0,.int .i64 0,.int .i64 0,.int .i64 0,.int .i64 0,.int .i64 0],.int .i64 8],Res.many (vs:=[.agg #[.int .i64 0,.int .i64 0,.int .i64 0,.int .i64 0,.int .i64 0,.int .i64 0],.int .i64 8]) rfl ⟨⟨_,rfl,load_ag T.ag38 ok.m0 T.sz38⟩,rfl,trivial⟩ rfl,⟨by rw [dec8 (by omega) C1];rfl,ok.chg⟩⟩
 refine .skip<|.seq<|.r<|.z (.mkf (vs:=[.pointer (some ⟨pb1,0,none⟩)]))<|.z .asF<|.nil ?_;refine .seq<|.r<|.z .mvF<|.k 17 .dyn (dfield_any (b:=pb1) (i:=0) (F:=(fun j=>F j∧j<h.size)) (E:=(fun j=>E j∧j<h.size)) (a:=a) (c:=c) (l:=l) ok.r1 ok.m1 (by omega))<|.z .mvF<|.k 19 .dyn (dfield_any (b:=pb1) (i:=1) (F:=(fun j=>F j∧j<h.size)) (E:=(fun j=>E j∧j<h.size)) (a:=a) (c:=c) (l:=l) ok.r1 ok.m1 (by omega))<|.z .mvF<|.k 21 .dyn (dfield_any (b:=pb1) (i:=2) (F:=(fun j=>F j∧j<h.size)) (E:=(fun j=>E j∧j<h.size)) (a:=a) (c:=c) (l:=l) ok.r1 ok.m1 (by omega))<|.z .mvF<|.k 23 .dyn (dfield_any (b:=pb1) (i:=3) (F:=(fun j=>F j∧j<h.size)) (E:=(fun j=>E j∧j<h.size)) (a:=a) (c:=c) (l:=l) ok.r1 ok.m1 (by omega))<|.z .mvF<|.k 25 .dyn (dfield_any (b:=pb1) (i:=4) (F:=(fun j=>F j∧j<h.size)) (E:=(fun j=>E j∧j<h.size)) (a:=a) (c:=c) (l:=l) ok.r1 ok.m1 (by omega))<|.z .mvF<|.k 27 .dyn (dfield_any (b:=pb1) (i:=5) (F:=(fun j=>F j∧j<h.size)) (E:=(fun j=>E j∧j<h.size)) (a:=a) (c:=c) (l:=l) ok.r1 ok.m1 (by omega))<|.z (.bd #[.int .i64 ((hdAt l 0:Nat):Int),.int .i64 ((hdAt l 1:Nat):Int),.int .i64 ((hdAt l 2:Nat):Int),.int .i64 ((hdAt l 3:Nat):Int),.int .i64 ((hdAt l 4:Nat):Int),.int .i64 ((hdAt l 5:Nat):Int)] T.zr38 T.pl38 (by kernel_rfl))<|.a' 5 (.alA T.zr38 ok) ?_;rintro _ η5 ⟨pb3,rfl,ok,xe⟩;refine .ur' (.stW (vs:=[.int .i64 ((hdAt l 0:Nat):Int),.int .i64 ((hdAt l 1:Nat):Int),.int .i64 ((hdAt l 2:Nat):Int),.int .i64 ((hdAt l 3:Nat):Int),.int .i64 ((hdAt l 4:Nat):Int),.int .i64 ((hdAt l 5:Nat):Int)]) T.sz38 ok (oneL rfl)) ?_;rintro η6 ⟨ok,cg⟩;refine .nil ?_;refine .seq<|.seq<|?_;have ok:=ok.d1 (rdI (fun j=>F j∧j<h.size) (fun j=>E j∧j<h.size) (a,(l.take 64).length,c) (l.take 64)) ((ok.r1).pre (l2:=l.take 64) (List.take_prefix _ _)) (fun _ h=>h);refine .a 17 (fun fl hh=>Hp h none_ [boxI pb3 38 [.int .i64 ((hdAt l 0:Nat):Int),.int .i64 ((hdAt l 1:Nat):Int),.int .i64 ((hdAt l 2:Nat):Int),.int .i64 ((hdAt l 3:Nat):Int),.int .i64 ((hdAt l 4:Nat):Int),.int .i64 ((hdAt l 5:Nat):Int)],boxI pb2 38 [.int .i64 0,.int .i64 0,.int .i64 0,.int .i64 0,.int .i64 0,.int .i64 0],boxI pb1 44 [.slice a l.length c]] [rdI (fun j=>F j∧j<h.size) (fun j=>E j∧j<h.size) (a,(l.take 64).length,c) (l.take 64),rdI (fun j=>F j∧j<h.size) (fun j=>E j∧j<h.size) (a,(l.take 16).length,c) (l.take 16),rdI (fun j=>F j∧j<h.size) (fun j=>E j∧j<h.size) (a,l.length,c) l] hh) mixed ?_;have hS:=ok;refine .lw 0 false rfl 29 hS (fun _ _ hS=>.ldb T.ag38 hS.m0 T.sz38)<|.g 1 false rfl 30 hS (fun _=>.bd #[.int .i64 0,.int .i64 0,.int .i64 0,.int .i64 0,.int .i64 0,.int .i64 0] T.zr38 T.pl38 (by kernel_rfl))<|.g 2 false rfl 31 hS (fun _=>.stE (k:=.i64) [((hdAt l 0:Nat):Int),((hdAt l 1:Nat):Int),((hdAt l 2:Nat):Int),((hdAt l 3:Nat):Int),((hdAt l 4:Nat):Int),((hdAt l 5:Nat):Int)] [0,0,0,0,0,0] T.ste38 T.in3 T.ag3 T.stg38 T.stp38)<|.g 3 false rfl 32 hS (fun _=>.mvB)<|.sd (fun G32=>?_) (fun G32=>?_)
 ·
  refine .x 4 false rfl 33 hS<|.x 5 false rfl 34 hS<|.x 6 false rfl 35 hS<|.g 7 false rfl 36 hS (fun _=>.pkt)<|.g 8 false rfl 37 hS (fun _=>.mvB)<|.x 9 false rfl 38 hS<|.x 10 false rfl 39 hS<|.x 11 false rfl 40 hS<|.x 12 false rfl 41 hS<|.x 13 false rfl 42 hS<|.x 14 false rfl 43 hS<|.x 15 false rfl 44 hS<|.g 16 false rfl 45 hS (fun _=>.pkt)<|.e ?_;refine .ct<|.seq<|.r<|.z (.bd #[.int .i64 0,.int .i64 0,.int .i64 0,.int .i64 0,.int .i64 0,.int .i64 0] T.zr38 T.pl38 (by kernel_rfl))<|.ur' (.stW (vs:=[.int .i64 0,.int .i64 0,.int .i64 0,.int .i64 0,.int .i64 0,.int .i64 0]) T.sz38 ok.n1 (oneL rfl)) ?_;rintro η7 ⟨ok,cg⟩;refine .z .asI<|.nil ?_;refine .ret ⟨.tuple #[.agg #[.int .i64 0,.int .i64 0,.int .i64 0,.int .i64 0,.int .i64 0,.int .i64 0],.int .i64 14],Res.many (vs:=[.agg #[.int .i64 0,.int .i64 0,.int .i64 0,.int .i64 0,.int .i64 0,.int .i64 0],.int .i64 14]) rfl ⟨⟨_,rfl,load_ag T.ag38 ok.m0 T.sz38⟩,rfl,trivial⟩ rfl,⟨by rw [dec14 (by omega) (by simpa using C1) (fun q=>by (simp only [List.cons.injEq] at G32;have h1:=q.1.1;simp [decH,okZ,G32.1] at h1))];rfl,ok.chg⟩⟩
 refine .lw 4 false rfl 33 hS (fun _ _ hS=>.ldb T.ag38 hS.m0 T.sz38)<|.o1 5<|.c' false rfl 34 .func (check_any (z0:=((hdAt l 0:Nat):Int)) (z1:=((hdAt l 1:Nat):Int)) (z2:=((hdAt l 2:Nat):Int)) (z3:=((hdAt l 3:Nat):Int)) (z4:=((hdAt l 4:Nat):Int)) (z5:=((hdAt l 5:Nat):Int)) (by omega) (by omega) (by omega) (by omega) (by omega) (by omega)) ?_;rintro _ η8 ⟨rfl,hx⟩;have ok:=ok.ext hx;refine ⟨ok,?_⟩;have hS:=ok;refine .g 6 false rfl 35 hS (fun _=>.neq)<|.g 7 false rfl 36 hS (fun _=>.pkf)<|.g 8 false rfl 37 hS (fun _=>.mvB)<|.sd (fun G37=>?_) (fun G37=>?_)
 ·
  refine .x 9 false rfl 38 hS<|.x 10 false rfl 39 hS<|.x 11 false rfl 40 hS<|.x 12 false rfl 41 hS<|.x 13 false rfl 42 hS<|.x 14 false rfl 43 hS<|.x 15 false rfl 44 hS<|.g 16 false rfl 45 hS (fun _=>.pkt)<|.e ?_;refine .ct<|.seq<|.r<|.z (.bd #[.int .i64 0,.int .i64 0,.int .i64 0,.int .i64 0,.int .i64 0,.int .i64 0] T.zr38 T.pl38 (by kernel_rfl))<|.ur' (.stW (vs:=[.int .i64 0,.int .i64 0,.int .i64 0,.int .i64 0,.int .i64 0,.int .i64 0]) T.sz38 ok.n1 (oneL rfl)) ?_;rintro η9 ⟨ok,cg⟩;refine .z .asI<|.nil ?_;refine .ret ⟨.tuple #[.agg #[.int .i64 0,.int .i64 0,.int .i64 0,.int .i64 0,.int .i64 0,.int .i64 0],.int .i64 14],Res.many (vs:=[.agg #[.int .i64 0,.int .i64 0,.int .i64 0,.int .i64 0,.int .i64 0,.int .i64 0],.int .i64 14]) rfl ⟨⟨_,rfl,load_ag T.ag38 ok.m0 T.sz38⟩,rfl,trivial⟩ rfl,⟨by rw [dec14 (by omega) (by simpa using C1) (fun q=>by (have h1:chkC (decH l)=0:=chk_y q.1;exact G37 (by rw [show chkC ⟨_,_,_,_,_,_⟩=0 from h1];rfl)))];rfl,ok.chg⟩⟩
 refine .lw 9 false rfl 38 hS (fun _ _ hS=>.ldb T.ag38 hS.m0 T.sz38)<|.lw 12 false rfl 41 hS (fun _ _ hS=>.ldx T.ag44 hS.m2)<|.g 13 false rfl 42 hS (fun _=>.sl_h ((l.take 64).length) T.el44 T.sz5 (hb:=by (simp;omega)))<|.lw 14 false rfl 43 hS (fun _ _ hS=>.bts T.el44 T.in5 T.st9 (hS.r0).by)<|.o1 10<|.c' false rfl 39 .func (hbytes_any (n0:=(hdAt l 0)) (n1:=(hdAt l 1)) (n2:=(hdAt l 2)) (n3:=(hdAt l 3)) (n4:=(hdAt l 4)) (n5:=(hdAt l 5)) (by omega) (by omega) (by omega) (by omega) (by omega) (by omega)) ?_;rintro _ η10 own;obtain ⟨ya1,yc1,rfl⟩:=own.formB;have ok:=ok.own own;refine ⟨ok.n3.n3.n3.k3,?_⟩;have hS:=ok.n3.n3.n3.k3;refine .str (fun _ hh=>Hp h none_ [capI 1 5 (ya1,(hdB [(hdAt l 0),(hdAt l 1),(hdAt l 2),(hdAt l 3),(hdAt l 4),(hdAt l 5)]).length,yc1) ((hdB [(hdAt l 0),(hdAt l 1),(hdAt l 2),(hdAt l 3),(hdAt l 4),(hdAt l 5)]).map bv),boxI pb3 38 [.int .i64 ((hdAt l 0:Nat):Int),.int .i64 ((hdAt l 1:Nat):Int),.int .i64 ((hdAt l 2:Nat):Int),.int .i64 ((hdAt l 3:Nat):Int),.int .i64 ((hdAt l 4:Nat):Int),.int .i64 ((hdAt l 5:Nat):Int)],boxI pb2 38 [.int .i64 0,.int .i64 0,.int .i64 0,.int .i64 0,.int .i64 0,.int .i64 0],boxI pb1 44 [.slice a l.length c]] [rdI (fun j=>F j∧j<h.size) (fun j=>E j∧j<h.size) (a,(l.take 64).length,c) (l.take 64),rdI (fun j=>F j∧j<h.size) (fun j=>E j∧j<h.size) (a,(l.take 16).length,c) (l.take 16),rdI (fun j=>F j∧j<h.size) (fun j=>E j∧j<h.size) (a,l.length,c) l] hh) (fun _ _ h=>h.tM) ?_;have hS:=ok;refine .lw 11 false rfl 40 hS (fun _ _ hS=>.bts T.el44 T.in5 T.st9 (hS.m0).sl)<|.g 15 false rfl 44 hS (fun _=>.tNeB)<|.g 16 false rfl 45 hS (fun _=>.pkf)<|.e ?_;refine .cd (fun C2=>?_) (fun C2=>?_)
 ·
  refine .seq<|.r<|.z (.bd #[.int .i64 0,.int .i64 0,.int .i64 0,.int .i64 0,.int .i64 0,.int .i64 0] T.zr38 T.pl38 (by kernel_rfl))<|.ur' (.stW (vs:=[.int .i64 0,.int .i64 0,.int .i64 0,.int .i64 0,.int .i64 0,.int .i64 0]) T.sz38 ok.n2 (oneL rfl)) ?_;rintro η11 ⟨ok,cg⟩;refine .z .asI<|.nil ?_;refine .ret ⟨.tuple #[.agg #[.int .i64 0,.int .i64 0,.int .i64 0,.int .i64 0,.int .i64 0,.int .i64 0],.int .i64 14],Res.many (vs:=[.agg #[.int .i64 0,.int .i64 0,.int .i64 0,.int .i64 0,.int .i64 0,.int .i64 0],.int .i64 14]) rfl ⟨⟨_,rfl,load_ag T.ag38 ok.m0 T.sz38⟩,rfl,trivial⟩ rfl,⟨by rw [dec14 (by omega) (by simpa using C1) (fun q=>C2 q.2)];rfl,ok.chg⟩⟩
 refine .skip<|.seq<|.r<|.z (.ldb T.ag38 ok.m1 T.sz38)<|.ur' (.stW (vs:=[.int .i64 ((hdAt l 0:Nat):Int),.int .i64 ((hdAt l 1:Nat):Int),.int .i64 ((hdAt l 2:Nat):Int),.int .i64 ((hdAt l 3:Nat):Int),.int .i64 ((hdAt l 4:Nat):Int),.int .i64 ((hdAt l 5:Nat):Int)]) T.sz38 ok.n2 (oneL rfl)) ?_;rintro η12 ⟨ok,cg⟩;refine .z .asI<|.nil ?_;refine .ret ⟨.tuple #[.agg #[.int .i64 ((hdAt l 0:Nat):Int),.int .i64 ((hdAt l 1:Nat):Int),.int .i64 ((hdAt l 2:Nat):Int),.int .i64 ((hdAt l 3:Nat):Int),.int .i64 ((hdAt l 4:Nat):Int),.int .i64 ((hdAt l 5:Nat):Int)],.int .i64 0],Res.many (vs:=[.agg #[.int .i64 ((hdAt l 0:Nat):Int),.int .i64 ((hdAt l 1:Nat):Int),.int .i64 ((hdAt l 2:Nat):Int),.int .i64 ((hdAt l 3:Nat):Int),.int .i64 ((hdAt l 4:Nat):Int),.int .i64 ((hdAt l 5:Nat):Int)],.int .i64 0]) rfl ⟨⟨_,rfl,load_ag T.ag38 ok.m0 T.sz38⟩,rfl,trivial⟩ rfl,⟨by rw [dec0 (by omega) (by simpa using C1) ⟨chk_o G37,by simpa using C2⟩];rfl,ok.chg⟩⟩
end Go.Proofs.YtndlpekckpdncaaGreat
namespace Go.HL
open Go
@[reducible] def apart (l:List Itm):Prop:=l.Pairwise fun (a b:Itm)=>∀j,a.F j→¬b.F j
@[reducible] def starI (l:List Itm):Itm:=⟨fun h=>(∀i∈l,i.p h)∧apart l,fun j=>∃i∈l,i.F j,fun _ _ _ c d hp=>⟨fun i hi=>i.st _ _ _ c (fun j hj=>d j ⟨i,hi,hj⟩) (hp.1 i hi),hp.2⟩⟩
section
variable {h0 h h' h1:Heap} {D G:Nat→Prop} {M R:List Itm} {a b c x y:Itm} {l l':List Itm}
theorem Hp.unstar (ok:Hp h0 D (starI l::M) R h):Hp h0 D (l++M) R h:=by
 have hs:=(ok.m _ List.mem_cons_self);have hmm:=List.pairwise_cons.1 ok.mm;refine ⟨ok.chg,fun i hi=>?_,ok.r,List.pairwise_append.2 ⟨hs.1.2,hmm.2,fun p hp q hq j hj hj2=>hmm.1 q hq j ⟨p,hp,hj⟩ hj2⟩,fun p hp q hq j hj hj2=>?_⟩
 ·rcases List.mem_append.1 hi with hi | hi
  ·exact ⟨hs.1.1 i hi,fun j hj=>hs.2 j ⟨i,hi,hj⟩⟩
  ·exact ok.m i (List.mem_cons_of_mem _ hi)
 ·rcases List.mem_append.1 hp with hp | hp
  ·exact ok.mr _ List.mem_cons_self q hq j ⟨p,hp,hj⟩ hj2
  ·exact ok.mr p (List.mem_cons_of_mem _ hp) q hq j hj hj2
theorem Hp.star (ok:Hp h0 D (l++M) R h):Hp h0 D (starI l::M) R h:=by
 have hmm:=List.pairwise_append.1 ok.mm;refine ⟨ok.chg,fun i hi=>?_,ok.r,List.pairwise_cons.2 ⟨fun q hq j ⟨p,hp,hj⟩ hj2=>hmm.2.2 p hp q hq j hj hj2,hmm.2.1⟩,fun p hp q hq j hj hj2=>?_⟩
 ·rcases List.mem_cons.1 hi with rfl | hi
  ·exact ⟨⟨fun i hi=>(ok.m i (List.mem_append_left _ hi)).1,hmm.1⟩,fun j ⟨i,hi,hj⟩=>(ok.m i (List.mem_append_left _ hi)).2 j hj⟩
  ·exact ok.m i (List.mem_append_right _ hi)
 ·rcases List.mem_cons.1 hp with rfl | hp
  ·obtain ⟨i,hi,hj⟩:=hj;exact ok.mr i (List.mem_append_left _ hi) q hq j hj hj2
  ·exact ok.mr p (List.mem_append_right _ hp) q hq j hj hj2
theorem Hp.starP (ok:Hp h0 D (starI l::M) R h) (p:l'.Perm l):Hp h0 D (starI l'::M) R h:=(ok.unstar.perm (p.append_right M)).star
theorem Hp.star2 (ok:Hp h0 D (starI (a::b::l)::M) R h):Hp h0 D (a::b::starI l::M) R h:=by
 have o:Hp h0 D (starI l::a::b::M) R h:=(ok.unstar.perm (M':=l++a::b::M) (by simpa using (List.perm_append_comm (l₁:=l) (l₂:=[a,b])).append_right M)).star;exact o.n2.n2
theorem Hp.unstar2 (ok:Hp h0 D (a::b::starI l::M) R h):Hp h0 D (starI (a::b::l)::M) R h:=
 Hp.star ((ok.n2.unstar).perm (M':=a::b::(l++M)) (by simpa using (List.perm_append_comm (l₁:=[a,b]) (l₂:=l)).append_right M))
end
end Go.HL
namespace Go.Proofs.YtndlpekckpdncaaGreat
open Go Go.HL
structure Chn where
 kind:Nat
 pos:Nat
 b:List UInt8
def longN (b:List UInt8) (n:Nat):List UInt8:=b.take n++List.replicate (n-b.length) 0
theorem longN_len (b:List UInt8) (n:Nat):(longN b n).length=n:=by simp [longN];omega
theorem longN_le {b:List UInt8} {n:Nat} (h:n≤b.length):longN b n=b.take n:=by simp [longN,Nat.sub_eq_zero_of_le h]
theorem longN_ge {b:List UInt8} {n:Nat} (h:b.length≤n):longN b n=b++List.replicate (n-b.length) 0:=by simp [longN,List.take_of_length_le h]
def patchN (o:List UInt8) (p:Nat) (b:List UInt8):List UInt8:=o.take p++b++o.drop (p+b.length)
def doneN (c:Chn) (b:List UInt8) (here:Bool):List UInt8 × Bool:=
 if c.kind=0 then (patchN (longN b (max b.length (c.pos+c.b.length))) c.pos c.b,true) else if c.kind=1∧here=true then (longN b c.pos,true) else ([],false)
structure Fl where
 now:List UInt8
 safe:List UInt8
 here:Bool
 was:Bool
 opn:List Chn
structure Dk where
 fs:List UInt8→Option Fl
 dark:Bool
 left:Int
 chg:Int
def put1 (f:List UInt8→Option Fl) (n:List UInt8) (v:Option Fl):List UInt8→Option Fl:=fun m=>if m=n then v else f m
def noF:Fl:=⟨[],[],false,false,[]⟩
def wrongN (d:Dk) (n:List UInt8) (zs:List Int):Nat:=if n.length<1∨32<n.length∨(∃z∈zs,z<0) then 1 else if d.dark=true then 13 else 0
def powerN (d:Dk):Dk × Nat:=if d.left=0 then (⟨d.fs,true,d.left,d.chg⟩,13) else (⟨d.fs,d.dark,if 0<d.left then d.left-1 else d.left,d.chg+1⟩,0)
def chgF (f:Fl) (c:Chn):Fl:=⟨(doneN c f.now f.here).1,f.safe,(doneN c f.now f.here).2,f.was,f.opn++[c]⟩
def doN (d:Dk) (n:List UInt8) (c:Chn):Dk × Nat:=
 if d.left=0 then powerN d else (⟨put1 d.fs n (some (chgF ((d.fs n).getD noF) c)),d.dark,if 0<d.left then d.left-1 else d.left,d.chg+1⟩,0)
def thereN (d:Dk) (n:List UInt8):Bool:=match d.fs n with | some f=>f.here | none=>false
def removeN (d:Dk) (n:List UInt8):Dk × Nat:=
 if wrongN d n []≠0 then (d,wrongN d n []) else if thereN d n=false then (d,4) else doN d n ⟨2,0,[]⟩
def sizeN (d:Dk) (n:List UInt8):Nat × Bool:=if d.dark=true∨thereN d n=false then (0,false) else (((d.fs n).getD noF).now.length,true)
structure ChOk (c:Chn):Prop where
 kind:c.kind≤2
 fit:c.pos+c.b.length≤16777216
structure FlOk (f:Fl):Prop where
 now:f.now.length≤16777216
 safe:f.safe.length≤16777216
 opn:∀c∈f.opn,ChOk c
structure DkOk (d:Dk):Prop where
 fs:∀n f,d.fs n=some f→FlOk f∧(f.opn.length:Int)≤d.chg
 chg:0≤d.chg
 left:d.left≤9223372036854775807
 cnt:∃ks:List (List UInt8),(ks.length:Int)≤d.chg∧∀n f,d.fs n=some f→n∈ks∧n.length≤32
theorem noF_ok:FlOk noF:=⟨by simp [noF],by simp [noF],by simp [noF]⟩
theorem DkOk.getD {d:Dk} (k:DkOk d) (n:List UInt8):FlOk ((d.fs n).getD noF)∧((((d.fs n).getD noF).opn.length:Nat):Int)≤d.chg:=by
 cases h:d.fs n with
 | none=>exact ⟨noF_ok,by simpa [noF] using k.chg⟩
 | some f=>exact k.fs n f h
def newN:Dk:=⟨fun _=>none,false,-1,0⟩
theorem newN_ok:DkOk newN:=⟨fun _ _ h=>(by cases h),by simp [newN],by simp [newN],⟨[],by simp [newN],fun _ _ h=>(by cases h)⟩⟩
theorem RdL.isNone {α:Type} [Rep α] {h:Heap} {F E:Nat→Prop} {a:Option Addr} {n c:Nat} {l:List α} (r:RdL h F E (a,n,c) l) (ha:a.isNone=true):l=[]:=by
 rcases Nat.eq_zero_or_pos l.length with h0 | h0
 ·exact List.eq_nil_of_length_eq_zero h0
 ·obtain ⟨b,o,e,_⟩:=r.at' h0;simp only at e;subst e;cases ha
theorem bclone_any {h:Heap} {F E:Nat→Prop} {a:Option Addr} {c:Nat} {l:List UInt8} (hl:RdL h F E (a,l.length,c) l) (hN:l.length≤1000000000) :
  HC Tryz.prog 84 #[.slice a l.length c] h (fun v h'=>Own h h' 1 5 v (l.map bv)):=by
 have hc2:=hl.m;have hc1:l.length≤c:=hl.c;simp only at hc2;have ok:=(Hp.nil h none_).arg hl;refine HC.go Tryz.func84 8 ?_;refine .seq<|.r<|.z .asS<|.nil ?_;refine .seq<|.seq<|.r<|.z .mvS<|.z (.sEq T.el44)<|.nil ?_;refine .cond (fun C0=>?_) (fun C0=>?_)
 ·
  obtain rfl:=RdL.isNone hl C0;refine .seq<|.r<|.z .asS<|.nil ?_;refine .ret ⟨.slice none 0 0,Res.one rfl rfl,Own.nil ok.chg _ _⟩
 refine .skip<|.seq<|.r<|.a' 5 (.lit [] (cs:=[]) T.el44 T.sz5 T.zr5 ok trivial) ?_;rintro _ η1 ⟨pb1,rfl,ok,xe⟩;have ok:=ok.cx (ys:=([]:List UInt8).map bv) rfl;refine .z .mvS<|.a' 7 (.app (news:=l.map bv) T.el44 T.sz5 T.by5 T.zr5 ok (ok.r0).by bv_all (by simp only [List.length_map,List.length_append,List.length_take,List.length_cons,List.length_nil,List.length_replicate,List.length_range,fixedN_len,sealN_len];omega)) ?_;rintro _ η2 ⟨ya1,yn1,yc1,rfl,ok,ap⟩;have ok:=ok.cx (ys:=(l).map bv) (by simp [bv]);obtain rfl:yn1=(l).length:=ok.lenB;refine .z .asS<|.nil ?_;refine .ret ⟨.slice ya1 ((l).length) yc1,Res.one rfl rfl,ok.toOwn⟩
end Go.Proofs.YtndlpekckpdncaaGreat
namespace Go.Proofs
open Go.Shelf
def Tryz.sortA_ren:Go.Shelf.Ren:=⟨fun | 5=>68 | 8=>125 | 7=>124 | 19=>170 | 20=>171 | 10=>161 | 11=>162 | 12=>163 | 13=>164 | 14=>165 | 15=>166 | 16=>167 | 17=>168 | 18=>169 | 30=>196 | 31=>197 | 32=>198 | 33=>199 | 34=>200 | 35=>201 | 40=>219 | n=>n,fun | 23=>24 | 25=>3 | 3=>3 | 32=>179 | 22=>24 | 0=>0 | 44=>89 | 46=>130 | 4=>4 | 36=>236 | 35=>235 | 41=>203 | 5=>5 | 9=>9 | 53=>265 | 57=>269 | 63=>293 | 64=>294 | n=>n,fun | n=>n⟩
theorem Tryz.sortA:Go.Proofs.SlLaysM.n5 Tryz.prog Tryz.sortA_ren:={
 mixed:=by kernel_rfl
 f5:=⟨Tryz.f68.name,by decide,Tryz.func68.trans (congrArg some (by kernel_rfl))⟩
 f7:=⟨Tryz.f124.name,by decide,Tryz.func124.trans (congrArg some (by kernel_rfl))⟩
 f8:=Tryz.func125.trans (congrArg some (by kernel_rfl))
 f10:=⟨Tryz.f161.name,by decide,Tryz.func161.trans (congrArg some (by kernel_rfl))⟩
 f11:=⟨Tryz.f162.name,by decide,Tryz.func162.trans (congrArg some (by kernel_rfl))⟩
 f12:=⟨Tryz.f163.name,by decide,Tryz.func163.trans (congrArg some (by kernel_rfl))⟩
 f13:=⟨Tryz.f164.name,by decide,Tryz.func164.trans (congrArg some (by kernel_rfl))⟩
 f14:=⟨Tryz.f165.name,by decide,Tryz.func165.trans (congrArg some (by kernel_rfl))⟩
 f15:=⟨Tryz.f166.name,by decide,Tryz.func166.trans (congrArg some (by kernel_rfl))⟩
 f16:=⟨Tryz.f167.name,by decide,Tryz.func167.trans (congrArg some (by kernel_rfl))⟩
 f17:=⟨Tryz.f168.name,by decide,Tryz.func168.trans (congrArg some (by kernel_rfl))⟩
 f18:=⟨Tryz.f169.name,by decide,Tryz.func169.trans (congrArg some (by kernel_rfl))⟩
 f19:=Tryz.func170.trans (congrArg some (by kernel_rfl))
 f20:=Tryz.func171.trans (congrArg some (by kernel_rfl))
 f30:=⟨Tryz.f196.name,by decide,Tryz.func196.trans (congrArg some (by kernel_rfl))⟩
 f31:=Tryz.func197.trans (congrArg some (by kernel_rfl))
 f32:=Tryz.func198.trans (congrArg some (by kernel_rfl))
 f33:=⟨Tryz.f199.name,by decide,Tryz.func199.trans (congrArg some (by kernel_rfl))⟩
 f34:=⟨Tryz.f200.name,by decide,Tryz.func200.trans (congrArg some (by kernel_rfl))⟩
 f35:=⟨Tryz.f201.name,by decide,Tryz.func201.trans (congrArg some (by kernel_rfl))⟩
 f40:=⟨Tryz.f219.name,by decide,Tryz.func219.trans (congrArg some (by kernel_rfl))⟩
 t0:=Tryz.underlying0
 a0:=Tryz.isAgg0
 z0:=Tryz.sizeOf0
 v0:=Tryz.zeroValue0
 t3:=Tryz.underlying3
 a3:=Tryz.isAgg3
 z3:=Tryz.sizeOf3
 v3:=Tryz.zeroValue3
 t4:=Tryz.underlying4
 a4:=Tryz.isAgg4
 z4:=Tryz.sizeOf4
 v4:=Tryz.zeroValue4
 t5:=Tryz.underlying5
 a5:=Tryz.isAgg5
 z5:=Tryz.sizeOf5
 v5:=Tryz.zeroValue5
 t9:=Tryz.underlying9
 a9:=Tryz.isAgg9
 z9:=Tryz.sizeOf9
 v9:=Tryz.zeroValue9
 t22:=Tryz.underlying24
 a22:=Tryz.isAgg24
 z22:=Tryz.sizeOf24
 v22:=Tryz.zeroValue24
 t23:=Tryz.underlying24
 a23:=Tryz.isAgg24
 z23:=Tryz.sizeOf24
 v23:=Tryz.zeroValue24
 t25:=Tryz.underlying3
 a25:=Tryz.isAgg3
 z25:=Tryz.sizeOf3
 v25:=Tryz.zeroValue3
 t32:=Tryz.underlying179
 a32:=Tryz.isAgg179
 z32:=Tryz.sizeOf179
 v32:=Tryz.zeroValue179
 t35:=Tryz.underlying235
 a35:=Tryz.isAgg235
 z35:=Tryz.sizeOf235
 v35:=Tryz.zeroValue235
 t36:=Tryz.underlying236
 a36:=Tryz.isAgg236
 z36:=Tryz.sizeOf236
 v36:=Tryz.zeroValue236
 t41:=Tryz.underlying203
 a41:=Tryz.isAgg203
 z41:=Tryz.sizeOf203
 v41:=Tryz.zeroValue203
 t44:=Tryz.underlying89
 a44:=Tryz.isAgg89
 z44:=Tryz.sizeOf89
 v44:=Tryz.zeroValue89
 t46:=Tryz.underlying130
 a46:=Tryz.isAgg130
 z46:=Tryz.sizeOf130
 v46:=Tryz.zeroValue130
 t53:=Tryz.underlying265
 a53:=Tryz.isAgg265
 z53:=Tryz.sizeOf265
 v53:=Tryz.zeroValue265
 t57:=Tryz.underlying269
 a57:=Tryz.isAgg269
 z57:=Tryz.sizeOf269
 v57:=Tryz.zeroValue269
 t63:=Tryz.underlying293
 a63:=Tryz.isAgg293
 z63:=Tryz.sizeOf293
 v63:=Tryz.zeroValue293
 t64:=Tryz.underlying294
 a64:=Tryz.isAgg294
 z64:=Tryz.sizeOf294
 v64:=Tryz.zeroValue294 }
end Go.Proofs
namespace Go.Proofs.YtndlpekckpdncaaGreat
open Go Go.HL Go.RowKit Go.Maps Go.Sort Go.Shelf Go.MapKept
@[reducible] def ptr (b:Nat):Value:=.pointer (some ⟨b,0,none⟩)
def nT:List UInt8:=[116,111,109,101]
def nL:List UInt8:=[116,111,109,101,46,108,111,103]
def nM:List UInt8:=[116,111,109,101,46,109,97,114,107]
section
variable {κ β:Type} [DecidableEq κ]
def mget (l:List (κ × β)) (k:κ):Option β:=(l.find? fun p=>p.1=k).map (·.2)
def mput:List (κ × β)→κ→β→List (κ × β)
 | [],k,v=>[(k,v)]
 | p::l,k,v=>if p.1=k then (k,v)::l else p::mput l k v
def mdel (l:List (κ × β)) (k:κ):List (κ × β):=l.filter fun p=>decide (p.1≠k)
variable {l:List (κ × β)} {k k':κ} {v w:β} {f:β→Value}
theorem aget_mp:aget (l.map fun p=>(p.1,f p.2)) k=(mget l k).map f:=by
 induction l with
 | nil=>rfl
 | cons p l ih=>
  by_cases h:p.1=k
  ·simp [aget,mget,h]
  ·simpa [aget,mget,h] using ih
theorem adel_mp:adel (l.map fun p=>(p.1,f p.2)) k=(mdel l k).map fun p=>(p.1,f p.2):=by simp [adel,mdel,List.filter_map,Function.comp_def]
theorem aput_mp:aput (l.map fun p=>(p.1,f p.2)) k (f v)=(mput l k v).map fun p=>(p.1,f p.2):=by
 induction l with
 | nil=>rfl
 | cons p l ih=>
  by_cases h:p.1=k
  ·simp [aput,mput,h]
  ·simp [aput,mput,h,ih]
theorem mget_cons {p:κ × β} : mget (p::l) k=if p.1=k then some p.2 else mget l k:=by
 by_cases h:p.1=k<;>simp [mget,h]
theorem mget_mput:mget (mput l k v) k'=if k'=k then some v else mget l k':=by
 induction l with
 | nil=>
  by_cases h:k'=k
  ·subst h;simp [mput,mget]
  ·have h3:¬k=k':=fun e=>h e.symm;simp [mput,mget,h,h3]
 | cons p l ih=>
  unfold mput;split
  ·rename_i h;rw [mget_cons,mget_cons];by_cases h2:k'=k
   ·subst h2;simp
   ·have h3:¬k=k':=fun e=>h2 e.symm;have h4:¬p.1=k':=fun e=>h2 (e.symm.trans h);simp [h2,h3,h4]
  ·rename_i h;rw [mget_cons,mget_cons,ih];by_cases h2:p.1=k'
   ·have h3:¬k'=k:=fun e=>h (h2.trans e);simp [h2,h3]
   ·simp [h2]
theorem mget_mem (h:mget l k=some v):(k,v)∈l:=by
 induction l with
 | nil=>simp [mget] at h
 | cons p l ih=>
  rw [mget_cons] at h;split at h
  ·rename_i hp;injection h with h;subst h;rw [←hp];exact List.mem_cons_self
  ·exact List.mem_cons_of_mem _ (ih h)
theorem mem_mput {p:κ × β} (hp:p∈mput l k v):p=(k,v)∨p∈l:=by
 induction l with
 | nil=>simp [mput] at hp;exact .inl hp
 | cons q l ih=>
  unfold mput at hp;split at hp
  ·rcases List.mem_cons.1 hp with h | h
   ·exact .inl h
   ·exact .inr (List.mem_cons_of_mem _ h)
  ·rcases List.mem_cons.1 hp with h | h
   ·exact .inr (by rw [h];exact List.mem_cons_self)
   ·exact (ih h).imp id (List.mem_cons_of_mem _)
end
section
variable {d:Dk} {n:List UInt8} {size:Nat}
section
variable {l:List Fr} {d1 d2:Dk} {i e2:Nat}
theorem pg_mul {x:Int} {s:Nat} (h1:0≤x) (h2:x≤1048576) (hs:s≤4096):0≤x*s∧x*s≤4294967296:=
 ⟨Int.mul_nonneg h1 (by omega),by have:=Int.mul_le_mul h2 (show (s:Int)≤4096 by omega) (by omega) (by omega);omega⟩
end
end
open Go Go.HL
structure St where
 z:Nat
 sure:List (List UInt8)
 in_:Bool
 now:List (List UInt8)
 saves:List (List (List UInt8))
def Hd.enc (H:Hd):List UInt8:=hdB [H.size.toNat,H.pages.toNat,H.free.toNat,H.many.toNat,H.cookie.toNat,H.version.toNat]
def wth (l:List (List UInt8)) (no:Nat) (b:List UInt8):List (List UInt8):=if l.length<no then l++[b] else l.set (no-1) b
def pg1 (z:Nat) (H:Hd):List UInt8:=H.enc++List.replicate (z-64) 0
namespace St
variable (w:St)
def pgs:List (List UInt8):=if w.in_=true then w.now else w.sure
def head:Hd:=if w.pgs=[] then hd0 else { (decN (w.pgs.headD [])).1 with size:=(w.z:Int),pages:=(w.pgs.length:Int) }
def begin_:St × Nat:=if w.in_=true then (w,10) else ({ w with in_:=true,now:=w.sure,saves:=[] },0)
def commit:St × Nat:=if w.in_=false then (w,10) else (⟨w.z,w.now,false,[],[]⟩,0)
def setHead (H:Hd):St × Nat:=if w.in_=false then (w,10) else if ¬ChkP H∨H.size≠(w.z:Int)∨(max 1 (w.now.length:Int))<H.pages then (w,1) else ({ w with now:=(wth w.now 1 (pg1 w.z H)).take H.pages.toNat },0)
def read (no:Int):List UInt8 × Nat:=if no<1∨(w.pgs.length:Int)<no then ([],1) else (w.pgs.getD (no-1).toNat [],0)
def write (no:Int) (b:List UInt8):St × Nat:=
 if w.in_=false then (w,10) else if no<2∨(w.now.length:Int)+1<no∨w.now=[]∨b.length≠w.z then (w,1) else if 1048576<no∨16777216<no*(w.z:Int) then (w,5) else ({ w with now:=wth w.now no.toNat b },0)
end St
def hok (b:List UInt8) (z:Nat):Prop:=(decN b).2=0∧(decN b).1.size=(z:Int)
structure PgsK (z:Nat) (l:List (List UInt8)):Prop where
 len:∀b∈l,b.length=z
 hd:l≠[]→hok (l.headD []) z
 many:l.length*z≤16777216
structure StOk (w:St):Prop where
 z:okSz w.z=true
 sure:PgsK w.z w.sure
 now:PgsK w.z w.now
 saves:∀l∈w.saves,PgsK w.z l
 few:w.saves.length≤16
 out:w.in_=false→w.now=[]∧w.saves=[]
theorem hdB_l6 {a b c d e f:Nat} : (hdB [a,b,c,d,e,f]).length=64:=by
 unfold hdB hdT hdF;simp [fixedN_len]
theorem enc_len {H:Hd} : H.enc.length=64:=hdB_l6
theorem okSz_c {n:Nat} (h:okSz n=true):n=256∨n=512∨n=1024∨n=2048∨n=4096:=by simpa [okSz,or_assoc] using h
theorem pg1_len {z:Nat} {H:Hd} (hz:okSz z=true):(pg1 z H).length=z:=by
 have:=okSz_c hz;unfold pg1;rw [List.length_append,enc_len,List.length_replicate];omega
theorem PgsK.nil {z:Nat} : PgsK z []:=⟨by simp,by simp,by simp⟩
theorem hdAt_enc {N:List Nat} {x:List UInt8} {k:Nat} (hk:k<N.length) (hN:N.length=6) (hb:N[k]<4294967296):hdAt (hdB N++x) k=N[k]:=by
 have e:hdB N++x=(signL++hdF (N.take k))++(fixedN N[k] 4++(hdF (N.drop (k+1))++(List.replicate 20 0++fixedN (sumN (hdT N)) 4++x))):=by
  have h1:hdF N=hdF (N.take k)++(fixedN N[k] 4++hdF (N.drop (k+1))):=by
   have h2:N=N.take k++N[k]::N.drop (k+1):=by rw [←List.drop_eq_getElem_cons hk,List.take_append_drop]
   have h3:hdF N=hdF (N.take k++N[k]::N.drop (k+1)):=congrArg hdF h2;rw [h3];unfold hdF;rw [List.map_append,List.flatten_append,List.map_cons,List.flatten_cons]
  unfold hdB;rw [show hdT N=signL++hdF N++List.replicate 20 0 from rfl,h1];simp only [List.append_assoc]
 have hl:(signL++hdF (N.take k)).length=16+4*k:=by
  have h1:∀(M:List Nat),(hdF M).length=4*M.length:=fun M=>by
   unfold hdF;induction M with
   | nil=>rfl
   | cons a M ih=>rw [List.map_cons,List.flatten_cons,List.length_append,fixedN_len,ih,List.length_cons];omega
  rw [List.length_append,h1,List.length_take];simp;omega
 unfold hdAt;rw [e,←hl,rdN_app (fixedN_len _ _),beN_fixed (by simpa using hb)]
theorem dec_encN {n0 n1 n2 n3 n4 n5:Nat} {x:List UInt8} (h0:n0<4294967296) (h1:n1<4294967296) (h2:n2<4294967296) (h3:n3<4294967296) (h4:n4<4294967296) (h5:n5<4294967296) (hc:ChkP ⟨(n0:Int),(n1:Int),(n2:Int),(n3:Int),(n4:Int),(n5:Int)⟩):decN (hdB [n0,n1,n2,n3,n4,n5]++x)=(⟨(n0:Int),(n1:Int),(n2:Int),(n3:Int),(n4:Int),(n5:Int)⟩,0):=by
 have a0:=hdAt_enc (N:=[n0,n1,n2,n3,n4,n5]) (x:=x) (k:=0) (by simp) rfl h0;have a1:=hdAt_enc (N:=[n0,n1,n2,n3,n4,n5]) (x:=x) (k:=1) (by simp) rfl h1;have a2:=hdAt_enc (N:=[n0,n1,n2,n3,n4,n5]) (x:=x) (k:=2) (by simp) rfl h2;have a3:=hdAt_enc (N:=[n0,n1,n2,n3,n4,n5]) (x:=x) (k:=3) (by simp) rfl h3;have a4:=hdAt_enc (N:=[n0,n1,n2,n3,n4,n5]) (x:=x) (k:=4) (by simp) rfl h4;have a5:=hdAt_enc (N:=[n0,n1,n2,n3,n4,n5]) (x:=x) (k:=5) (by simp) rfl h5;simp only [List.getElem_cons_zero,List.getElem_cons_succ] at a0 a1 a2 a3 a4 a5;have hl:(hdB [n0,n1,n2,n3,n4,n5]).length=64:=hdB_l6;have hd:decH (hdB [n0,n1,n2,n3,n4,n5]++x)=⟨(n0:Int),(n1:Int),(n2:Int),(n3:Int),(n4:Int),(n5:Int)⟩:=by unfold decH;rw [a0,a1,a2,a3,a4,a5]
 have hs:(hdB [n0,n1,n2,n3,n4,n5]++x).take 16=signL:=by
  unfold hdB hdT;simp only [List.append_assoc];exact List.take_left' rfl
 have hy:decY (hdB [n0,n1,n2,n3,n4,n5]++x):=by
  unfold decY;rw [hd,a0,a1,a2,a3,a4,a5];exact ⟨hc,(List.take_left' hl).symm⟩
 rw [dec0 (by rw [List.length_append];omega) hs hy,hd]
theorem dec_enc {H:Hd} (hc:ChkP H) (x:List UInt8):decN (H.enc++x)=(H,0):=by
 have h0:=okZ_cases hc.1;have h1:=hc.2.1;have h2:=hc.2.2.1;have h3:=hc.2.2.2;obtain ⟨a,b,c,d,e,f⟩:=H;simp only at h0 h1 h2 h3;obtain ⟨a,rfl⟩:∃n:Nat,a=(n:Int):=⟨a.toNat,by omega⟩;obtain ⟨b,rfl⟩:∃n:Nat,b=(n:Int):=⟨b.toNat,by omega⟩;obtain ⟨c,rfl⟩:∃n:Nat,c=(n:Int):=⟨c.toNat,by
  by_cases h:d=0
  ·have:=h2.2.2.1 h;omega
  ·have:=h2.2.2.2 (by omega);omega⟩
 obtain ⟨d,rfl⟩:∃n:Nat,d=(n:Int):=⟨d.toNat,by omega⟩;obtain ⟨e,rfl⟩:∃n:Nat,e=(n:Int):=⟨e.toNat,by omega⟩;obtain ⟨f,rfl⟩:∃n:Nat,f=(n:Int):=⟨f.toNat,by omega⟩;have hcb:c<4294967296:=by
  by_cases h:d=0
  ·have:=h2.2.2.1 (by omega);omega
  ·have:=h2.2.2.2 (by omega);omega
 have hdb:d<4294967296:=by have:=h1.2.1;have:=h2.2.1;omega
 have heb:e<4294967296:=by have:=h3.1.2;omega
 have hfb:f<4294967296:=by have:=h3.2.2;omega
 exact dec_encN (n0:=a) (n1:=b) (n2:=c) (n3:=d) (n4:=e) (n5:=f) (x:=x) (by omega) (by omega) hcb hdb heb hfb hc
theorem hok_pg1 {z:Nat} {H:Hd} (hc:ChkP H) (hz:H.size=(z:Int)):hok (pg1 z H) z:=by
 unfold hok pg1;rw [dec_enc hc];exact ⟨rfl,hz⟩
theorem wth_len {l:List (List UInt8)} {no:Nat} {b:List UInt8} (h2:no≤l.length+1):(wth l no b).length=max l.length no:=by
 unfold wth;split
 ·simp;omega
 ·simp;omega
theorem wth_get {l:List (List UInt8)} {no:Nat} {b:List UInt8} (h1:1≤no) (h2:no≤l.length+1) (i:Nat):(wth l no b)[i]? = if i+1=no then some b else l[i]?:=by
 unfold wth;split
 ·rename_i h;rw [List.getElem?_append];split
  ·rw [if_neg (by omega)]
  ·rename_i h3;by_cases h4:i+1=no
   ·rw [if_pos h4,show i-l.length=0 by omega];rfl
   ·rw [if_neg h4,List.getElem?_eq_none (l:=l) (by omega),List.getElem?_eq_none (by simp;omega)]
 ·rw [List.getElem?_set];by_cases h4:i+1=no
  ·rw [if_pos (by omega),if_pos h4,if_pos (by omega)]
  ·rw [if_neg (by omega),if_neg h4]
theorem wth_mem {l:List (List UInt8)} {no:Nat} {b x:List UInt8} (h:x∈wth l no b):x=b∨x∈l:=by
 unfold wth at h;split at h
 ·rcases List.mem_append.1 h with h | h
  ·exact .inr h
  ·exact .inl (List.mem_singleton.1 h)
 ·exact (List.mem_or_eq_of_mem_set h).symm
theorem headD_get (l:List (List UInt8)):l.headD []=(l[0]?).getD []:=by cases l<;>rfl
structure VW {β:Type} (f:β→List UInt8) (ov:List (Int × β)) (many:Nat) (S now:List (List UInt8)):Prop where
 len:now.length=many
 sm:∀(i:Nat) x,i<many→mget ov ((i:Int)+1)=some x→now[i]? = some (f x)
 nn:∀i:Nat,i<many→mget ov ((i:Int)+1)=none→i<S.length∧now[i]? = S[i]?
 key:∀p∈ov,1≤p.1∧p.1≤(many:Int)
section
variable {β:Type} {f:β→List UInt8} {ov:List (Int × β)} {many:Nat} {S now:List (List UInt8)}
theorem VW.begin:VW f ([]:List (Int × β)) S.length S S:=⟨rfl,fun _ _ _ h=>(by cases h),fun _ h _=>⟨h,rfl⟩,by simp⟩
theorem VW.put (v:VW f ov many S now) {no:Nat} {x:β} (h1:1≤no) (h2:no≤many+1):VW f (mput ov (no:Int) x) (max many no) S (wth now no (f x)):=by
 have hl:=v.len;refine ⟨by rw [wth_len (by omega),hl],fun i y hi hg=>?_,fun i hi hg=>?_,fun p hp=>?_⟩
 ·rw [mget_mput] at hg;rw [wth_get h1 (by omega)];split at hg
  ·injection hg with hg;subst hg;rw [if_pos (by omega)]
  ·rename_i h3;rw [if_neg (by omega)];exact v.sm i y (by omega) hg
 ·rw [mget_mput] at hg;rw [wth_get h1 (by omega)];split at hg
  ·cases hg
  ·rename_i h3;rw [if_neg (by omega)];exact v.nn i (by omega) hg
 ·rcases mem_mput hp with rfl | hp
  ·simp only;omega
  ·have:=v.key p hp;omega
theorem mget_filt (n:Int) (k:Int):mget (ov.filter fun p=>decide (p.1≤n)) k=if k≤n then mget ov k else none:=by
 induction ov with
 | nil=>simp [mget]
 | cons p l ih=>
  rw [List.filter_cons];by_cases h:p.1≤n
  ·rw [if_pos (by simpa using h),mget_cons,mget_cons,ih];by_cases h2:p.1=k
   ·rw [if_pos h2,if_pos h2,if_pos (by omega)]
   ·rw [if_neg h2,if_neg h2]
  ·rw [if_neg (by simpa using h),ih,mget_cons];by_cases h3:k≤n
   ·rw [if_pos h3,if_pos h3,if_neg (by omega)]
   ·rw [if_neg h3,if_neg h3]
theorem VW.cut (v:VW f ov many S now) {n:Nat} (hn:n≤many):VW f (ov.filter fun p=>decide (p.1≤(n:Int))) n S (now.take n):=by
 have hl:=v.len;refine ⟨by rw [List.length_take];omega,fun i y hi hg=>?_,fun i hi hg=>?_,fun p hp=>?_⟩
 ·rw [mget_filt,if_pos (by omega)] at hg;rw [List.getElem?_take_of_lt hi];exact v.sm i y (by omega) hg
 ·rw [mget_filt,if_pos (by omega)] at hg;rw [List.getElem?_take_of_lt hi];exact v.nn i (by omega) hg
 ·have:=List.mem_filter.1 hp;have h2:=v.key p this.1;have h3:p.1≤(n:Int):=by simpa using this.2
  exact ⟨h2.1,h3⟩
end
theorem PgsK.wth {z no:Nat} {l:List (List UInt8)} {b:List UInt8} (p:PgsK z l) (hb:b.length=z) (h1:1≤no) (h2:no≤l.length+1) (hm:no*z≤16777216) (hh:no=1∨l=[]→hok b z):PgsK z (wth l no b):=by
 refine ⟨fun x hx=>(wth_mem hx).elim (fun e=>e▸hb) (p.len x),fun _=>?_,?_⟩
 ·rw [headD_get,wth_get h1 h2];by_cases h3:0+1=no
  ·rw [if_pos h3];exact hh (.inl h3.symm)
  ·rw [if_neg h3];have:l≠[]:=fun e=>by subst e;simp at h2;omega
   rw [←headD_get];exact p.hd this
 ·rw [wth_len h2];have:=p.many;rcases Nat.le_total l.length no with h | h
  ·rw [Nat.max_eq_right h];exact hm
  ·rw [Nat.max_eq_left h];exact this
theorem PgsK.take {z:Nat} {l:List (List UInt8)} (p:PgsK z l) (n:Nat):PgsK z (l.take n):=by
 refine ⟨fun x hx=>p.len x (List.mem_of_mem_take hx),fun h=>?_,Nat.le_trans (Nat.mul_le_mul_right _ (by rw [List.length_take];omega)) p.many⟩;cases n with
 | zero=>simp at h
 | succ n=>
  cases l with
  | nil=>simp at h
  | cons a l=>exact p.hd (by simp)
open Go Go.HL
structure RC where
 kind:Nat
 pos:Nat
 ba:Option Addr
 bc:Nat
 bl:List UInt8
def RC.abs (c:RC):Chn:=⟨c.kind,c.pos,c.bl⟩
def RC.cells (c:RC):List Value:=[.int .i64 (c.kind:Int),.int .i64 (c.pos:Int),.slice c.ba c.bl.length c.bc]
theorem RC.cells_len (c:RC):c.cells.length=3:=rfl
structure RF where
 blk:Nat
 na:Option Addr
 nc:Nat
 nl:List UInt8
 sa:Option Addr
 sc:Nat
 sl:List UInt8
 here:Bool
 was:Bool
 oa:Option Addr
 oc:Nat
 ol:List RC
def RF.abs (f:RF):Fl:=⟨f.nl,f.sl,f.here,f.was,f.ol.map RC.abs⟩
@[reducible] def fboxI (f:RF):Itm:=boxI f.blk 156 [.slice f.na f.nl.length f.nc,.slice f.sa f.sl.length f.sc,.bool f.here,.bool f.was,.slice f.oa f.ol.length f.oc]
@[reducible] def fopnI (f:RF):Itm:=capI 3 158 (f.oa,f.ol.length,f.oc) (f.ol.flatMap RC.cells)
def fileI (f:RF):List Itm:=[fboxI f,fopnI f]
abbrev Fs:=List (List UInt8 × RF)
def flsI (fs:Fs):Itm:=starI (fs.flatMap fun p=>fileI p.2)
def ptrF (f:RF):Value:=.pointer (some ⟨f.blk,0,none⟩)
def ents (fs:Fs):List (List UInt8 × Value):=fs.map fun p=>(p.1,ptrF p.2)
def bget (fs:Fs) (n:List UInt8):Option RF:=(fs.find? fun p=>p.1=n).map (·.2)
def bput:Fs→List UInt8→RF→Fs
 | [],n,f=>[(n,f)]
 | p::l,n,f=>if p.1=n then (n,f)::l else p::bput l n f
def bdel (fs:Fs) (n:List UInt8):Fs:=fs.filter fun p=>decide (p.1≠n)
structure RD where
 m:Nat
 fs:Fs
 dark:Bool
 left:Int
 chg:Int
def RD.abs (r:RD):Dk:=⟨fun n=>(bget r.fs n).map RF.abs,r.dark,r.left,r.chg⟩
@[reducible] def dboxI (d:Nat) (r:RD):Itm:=boxI d 137 [.map (some r.m),.bool r.dark,.int .i64 r.left,.int .i64 r.chg]
def dskI (d:Nat) (r:RD):Itm:=starI (dboxI d r::mapI kvB r.m (ents r.fs)::r.fs.flatMap fun p=>fileI p.2)
section
variable {fs:Fs} {n m:List UInt8} {f g:RF}
theorem bget_mem:∀ {fs:Fs},bget fs n=some f→(n,f)∈fs
 | [],h=>by simp [bget] at h
 | p::l,h=>by
  by_cases hp:p.1=n
  ·subst hp;simp [bget] at h;subst h;exact List.mem_cons_self
  ·exact List.mem_cons_of_mem _ (bget_mem (fs:=l) (by simpa [bget,hp] using h))
theorem bget_cons (p:List UInt8 × RF) (l:Fs) (n:List UInt8):bget (p::l) n=if p.1=n then some p.2 else bget l n:=by
 by_cases h:p.1=n<;>simp [bget,h]
theorem bput_cons (p:List UInt8 × RF) (l:Fs) (n:List UInt8) (f:RF):bput (p::l) n f=if p.1=n then (n,f)::l else p::bput l n f:=rfl
theorem bget_put:bget (bput fs n f) m=if m=n then some f else bget fs m:=by
 induction fs with
 | nil=>by_cases h:n=m<;>simp [bput,bget,h,eq_comm]
 | cons p l ih=>
  rw [bput_cons];split
  ·rename_i h;rw [bget_cons,bget_cons];by_cases h2:n=m
   ·subst h2;simp
   ·rw [if_neg h2,if_neg (by intro e;exact h2 e.symm),if_neg (by rw [h];exact h2)]
  ·rename_i h;rw [bget_cons,bget_cons,ih];by_cases h2:p.1=m
   ·rw [if_pos h2,if_pos h2,if_neg (by intro e;exact h (h2.trans e))]
   ·rw [if_neg h2,if_neg h2]
theorem bget_none_iff:bget fs n=none↔∀p∈fs,p.1≠n:=by
 induction fs with
 | nil=>simp [bget]
 | cons p l ih=>
  rw [bget_cons];by_cases h:p.1=n
  ·simp [h]
  ·simp [h,ih]
theorem bdel_none (h:bget fs n=none):bdel fs n=fs:=by
 unfold bdel;rw [List.filter_eq_self];intro p hp;simpa using bget_none_iff.1 h p hp
theorem perm_get (hn:(fs.map (·.1)).Nodup) (h:bget fs n=some f):fs.Perm ((n,f)::bdel fs n):=by
 induction fs with
 | nil=>simp [bget] at h
 | cons p l ih=>
  have h1:=List.nodup_cons.1 hn;rw [bget_cons] at h;by_cases hp:p.1=n
  ·rw [if_pos hp] at h;injection h with h;have e:bdel (p::l) n=l:=by
    have:bget l n=none:=bget_none_iff.2 fun q hq e=>h1.1 (List.mem_map.2 ⟨q,hq,e.trans hp.symm⟩);have h2:=bdel_none this;unfold bdel at h2⊢;rw [List.filter_cons];simp [hp];simpa using h2
   rw [e,←h,←hp]
  ·rw [if_neg hp] at h;have e:bdel (p::l) n=p::bdel l n:=by unfold bdel;rw [List.filter_cons];simp [hp]
   rw [e];exact ((ih h1.2 h).cons p).trans (.swap _ _ _)
theorem bdel_put:bdel (bput fs n f) n=bdel fs n:=by
 induction fs with
 | nil=>simp [bput,bdel]
 | cons p l ih=>
  rw [bput_cons];split
  ·rename_i h;simp [bdel,h]
  ·rename_i h;unfold bdel at ih⊢;rw [List.filter_cons,List.filter_cons,ih]
theorem keys_put (f:RF) (h:bget fs n=some g):(bput fs n f).map (·.1)=fs.map (·.1):=by
 induction fs with
 | nil=>simp [bget] at h
 | cons p l ih=>
  rw [bput_cons];split
  ·rename_i hp;simp [hp]
  ·rename_i hp;rw [bget_cons,if_neg hp] at h;simp [ih h]
theorem bput_none (h:bget fs n=none):bput fs n f=fs++[(n,f)]:=by
 induction fs with
 | nil=>rfl
 | cons p l ih=>
  rw [bget_cons] at h;split at h
  ·cases h
  ·rename_i hp;rw [bput_cons,if_neg hp,ih h];rfl
theorem nodup_put (hn:(fs.map (·.1)).Nodup):((bput fs n f).map (·.1)).Nodup:=by
 cases h:bget fs n with
 | some g=>rw [keys_put f h];exact hn
 | none=>
  rw [bput_none h,List.map_append];refine List.nodup_append.2 ⟨hn,by simp,fun a ha b hb=>?_⟩;obtain ⟨p,hp,rfl⟩:=List.mem_map.1 ha;simp at hb;subst hb;exact bget_none_iff.1 h p hp
theorem perm_put (hn:(fs.map (·.1)).Nodup):(bput fs n f).Perm ((n,f)::bdel fs n):=by
 have h:=perm_get (fs:=bput fs n f) (n:=n) (f:=f) (nodup_put hn) (by rw [bget_put,if_pos rfl]);rwa [bdel_put] at h
theorem ents_keys:(ents fs).map (·.1)=fs.map (·.1):=by simp [ents,Function.comp_def]
theorem ents_get:aget (ents fs) n=(bget fs n).map ptrF:=by
 induction fs with
 | nil=>rfl
 | cons p l ih=>
  rw [bget_cons];by_cases h:p.1=n
  ·simp [ents,aget,h]
  ·simpa [ents,aget,h] using ih
theorem ents_put:aput (ents fs) n (ptrF f)=ents (bput fs n f):=by
 induction fs with
 | nil=>rfl
 | cons p l ih=>
  rw [bput_cons];by_cases h:p.1=n
  ·simp [ents,aput,h]
  ·simpa [ents,aput,h] using ih
theorem ents_same (h:bget fs n=some g) (hb:f.blk=g.blk):ents (bput fs n f)=ents fs:=by
 induction fs with
 | nil=>simp [bget] at h
 | cons p l ih=>
  rw [bput_cons];rw [bget_cons] at h;by_cases hp:p.1=n
  ·rw [if_pos hp] at h⊢;injection h with h;subst h;simp [ents,hp,ptrF,hb]
  ·rw [if_neg hp] at h⊢;simpa [ents] using ih h
end
end Go.Proofs.YtndlpekckpdncaaGreat
namespace Go.HL
open Go Go.Proofs.YtndlpekckpdncaaGreat
section
variable {h0 h h':Heap} {D G:Nat→Prop} {M R:List Itm} {d:Nat} {r r':RD} {fs:Fs} {n:List UInt8} {f:RF} {E E':Nat→Prop}
theorem Hp.dopn (ok:Hp h0 D (dskI d r::M) R h):Hp h0 D (dboxI d r::mapI kvB r.m (ents r.fs)::flsI r.fs::M) R h:=Hp.star2 ok
theorem Hp.dcls (ok:Hp h0 D (dboxI d r::mapI kvB r.m (ents r.fs)::flsI r.fs::M) R h):Hp h0 D (dskI d r::M) R h:=Hp.unstar2 ok
theorem Hp.fopn (hn:(fs.map (·.1)).Nodup) (hg:bget fs n=some f) (ok:Hp h0 D (flsI fs::M) R h):Hp h0 D (fboxI f::fopnI f::flsI (bdel fs n)::M) R h:=
 Hp.star2 (Hp.starP (l':=((n,f)::bdel fs n).flatMap fun p:List UInt8 × RF=>fileI p.2) ok ((perm_get hn hg).flatMap_right _).symm)
theorem Hp.fcls (hn:(fs.map (·.1)).Nodup) (ok:Hp h0 D (fboxI f::fopnI f::flsI (bdel fs n)::M) R h):Hp h0 D (flsI (bput fs n f)::M) R h:=
 Hp.starP (l':=(bput fs n f).flatMap fun p:List UInt8 × RF=>fileI p.2) (Hp.unstar2 ok) ((perm_put hn).flatMap_right _)
structure ByF (h:Heap) (E:Nat→Prop) (f:RF):Prop where
 now:RdL h E E (f.na,f.nl.length,f.nc) f.nl
 safe:RdL h E E (f.sa,f.sl.length,f.sc) f.sl
 opn:∀c∈f.ol,RdL h E E (c.ba,c.bl.length,c.bc) c.bl
theorem ByF.st (c:Chg G h h') (hE:∀j,E j→¬G j) (b:ByF h E f):ByF h' E f:=⟨b.now.st c hE hE,b.safe.st c hE hE,fun x hx=>(b.opn x hx).st c hE hE⟩
theorem ByF.mono (hE:∀j,E j→E' j) (b:ByF h E f):ByF h E' f:=⟨b.now.mono hE hE,b.safe.mono hE hE,fun x hx=>(b.opn x hx).mono hE hE⟩
def Bys (h:Heap) (E:Nat→Prop) (fs:Fs):Prop:=∀p∈fs,ByF h E p.2
@[reducible] def bysI (E:Nat→Prop) (fs:Fs):Itm:=⟨fun h=>Bys h E fs,E,fun _ _ _ c d b p hp=>(b p hp).st c d⟩
theorem Bys.get (b:Bys h E fs) (hg:bget fs n=some f):ByF h E f:=b _ (bget_mem hg)
theorem Bys.mono (hE:∀j,E j→E' j) (b:Bys h E fs):Bys h E' fs:=fun p hp=>(b p hp).mono hE
theorem mem_bput {fs:Fs} {n:List UInt8} {f:RF} {p:List UInt8 × RF} (h:p∈bput fs n f):p=(n,f)∨p∈fs:=by
 induction fs with
 | nil=>simp [bput] at h;exact .inl h
 | cons q l ih=>
  rw [bput_cons] at h;split at h
  ·rcases List.mem_cons.1 h with h | h
   ·exact .inl h
   ·exact .inr (List.mem_cons_of_mem _ h)
  ·rcases List.mem_cons.1 h with h | h
   ·exact .inr (by rw [h];exact List.mem_cons_self)
   ·exact (ih h).imp id (List.mem_cons_of_mem _)
theorem Bys.put (b:Bys h E fs) (hf:ByF h E f):Bys h E (bput fs n f):=fun p hp=>by
 rcases mem_bput hp with rfl | hp
 ·exact hf
 ·exact b p hp
structure DUp (h h':Heap) (d:Nat) (r r':RD) (E E':Nat→Prop):Prop where
 hp:Hp h (dskI d r).F [dskI d r'] [bysI E' r'.fs] h'
 new:∀j,E' j→E j∨h.size≤j
theorem Hp.loc1 {a b:Itm} (ok:Hp h0 D (a::M) (b::R) h):Hp h a.F [a] [b] h:=
 ⟨Chg.refl _ _,fun i hi=>by
  rw [List.mem_singleton.1 hi];exact ⟨ok.m0,fun j hj=>⟨((ok.m a List.mem_cons_self).2 j hj).1,.inl hj⟩⟩,fun i hi=>by
  rw [List.mem_singleton.1 hi];exact ok.r b List.mem_cons_self,List.pairwise_singleton _ _,fun x hx y hy=>by
  rw [List.mem_singleton.1 hx,List.mem_singleton.1 hy];exact ok.mr a List.mem_cons_self b List.mem_cons_self⟩
theorem Hp.dsk (ok:Hp h0 D (dskI d r::M) (bysI E r.fs::R) h) (q:DUp h h' d r r' E E'):Hp h0 D (dskI d r'::M) (bysI E' r'.fs::R) h':=by
 have o:=ok.upd q.hp.chg (fun _ x=>x) (dskI d r') q.hp.m0 fun j hj=>by
  have h1:=(q.hp.m _ List.mem_cons_self).2 j hj;exact h1.2.imp id fun h=>⟨h,h1.1⟩
 refine ⟨o.chg,o.m,fun i hi=>?_,o.mm,fun x hx y hy j hj hj2=>?_⟩
 ·rcases List.mem_cons.1 hi with rfl | hi
  ·exact q.hp.r _ List.mem_cons_self
  ·exact o.r i (List.mem_cons_of_mem _ hi)
 ·rcases List.mem_cons.1 hy with rfl | hy
  ·rcases List.mem_cons.1 hx with rfl | hx
   ·exact q.hp.mr _ List.mem_cons_self _ List.mem_cons_self j hj hj2
   ·rcases q.new j hj2 with h1 | h1
    ·exact ok.mr x (List.mem_cons_of_mem _ hx) _ List.mem_cons_self j hj h1
    ·have:=((ok.m x (List.mem_cons_of_mem _ hx)).2 j hj).1;omega
  ·exact o.mr x hx y (List.mem_cons_of_mem _ hy) j hj hj2
theorem Hp.up {R':List Itm} (q:Hp h (dskI d r).F [dskI d r'] (bysI E' r'.fs::R') h') (hE:∀j,E' j→E j∨h.size≤j):DUp h h' d r r' E E':=⟨q.sub (by simp),hE⟩
theorem Hp.lift1 {a b:Itm} (ok:Hp h0 D (a::M) R h) (q:Hp h a.F [b] [] h'):Hp h0 D (b::M) R h':=
 ok.upd q.chg (fun _ x=>x) b q.m0 fun j hj=>by
  have h1:=(q.m _ List.mem_cons_self).2 j hj;exact h1.2.imp id fun h=>⟨h,h1.1⟩
theorem Hp.loc0 {a:Itm} (ok:Hp h0 D (a::M) R h):Hp h a.F [a] [] h:=
 ⟨Chg.refl _ _,fun i hi=>by
  rw [List.mem_singleton.1 hi];exact ⟨ok.m0,fun j hj=>⟨((ok.m a List.mem_cons_self).2 j hj).1,.inl hj⟩⟩,by simp,List.pairwise_singleton _ _,by simp⟩
end
end Go.HL
namespace Go.Proofs.YtndlpekckpdncaaGreat
open Go Go.HL
theorem long_cut {h0 h:Heap} {D:Nat→Prop} {M R:List Itm} {e:TypeId} {a:Option Addr} {c n:Nat} {l:List UInt8} (ok:Hp h0 D (capI 1 e (a,l.length,c) (l.map bv)::M) R h) (hn:n≤l.length):Hp h0 D (capI 1 e (a,(longN l n).length,n) ((longN l n).map bv)::M) R h:=by
 have h1:=Cap.clip (Cap.pre ok.m0 hn);rw [Nat.mul_one,←List.map_take,←longN_le hn] at h1;refine ok.re _ (by simp only [longN_len];exact h1) fun j hj=>?_;obtain ⟨o,n',c',hv⟩:=hj;injection hv with h1 h2 h3;exact ⟨o,_,_,by rw [←h1]⟩
theorem long_any {h:Heap} {n:Nat} {a:Option Addr} {c:Nat} {l:List UInt8} (ok:Hp h (blkC (sv (a,l.length,c))) [capI 1 5 (a,l.length,c) (l.map bv)] [] h) (hN:l.length≤100000000) (hn:n≤100000000) :
  HC Tryz.prog 150 #[.slice a l.length c,.int .i64 (n:Int)] h (fun v h'=>∃a' c',v=.slice a' (longN l n).length c'∧Hp h (blkC (sv (a,l.length,c))) [capI 1 5 (a',(longN l n).length,c') ((longN l n).map bv)] [] h'):=by
 have hle:l.length≤c:=Cap.le ok.m0;refine HC.go Tryz.func150 19 ?_;refine .seq<|.r<|.z .asS<|.nil ?_;refine .seq<|.seq<|.r<|.z .mvI<|.z .mvS<|.z (.len T.el44)<|.z .leq<|.nil ?_;refine .cd (fun C0=>?_) (fun C0=>?_)
 ·
  refine .seq<|.r<|.z .mvS<|.z .mvI<|.z .mvI<|.z (.slhm n n T.el44 T.sz5)<|.z .asS<|.nil ?_;refine .ret ⟨.slice a n n,Res.one rfl rfl,⟨a,n,by rw [longN_len],long_cut ok (by omega)⟩⟩
 refine .skip<|.seq<|.r<|.z .mvS<|.z .mvI<|.z .mvS<|.z (.len T.el44)<|.z .sub<|.a' 18 (.apz (z:=((n:Int)-(l.length:Int))) (n-l.length) T.el44 T.in3 T.sz5 T.by5 T.zr5 ok (by omega) (by omega)) ?_;rintro _ η1 ⟨ya1,yc1,rfl,ok⟩;refine .z .asS<|.nil ?_;refine .ret ⟨.slice ya1 ((l++List.replicate (n-l.length) 0).length) yc1,Res.one rfl rfl,⟨_,_,by rw [longN_ge (by omega)],by rw [longN_ge (by omega)];exact ok⟩⟩
theorem done0 {pos:Nat} {bl l:List UInt8} {here:Bool} : doneN ⟨0,pos,bl⟩ l here=(patchN (longN l (max l.length (pos+bl.length))) pos bl,true):=by simp [doneN]
theorem done1 {pos:Nat} {bl l:List UInt8} : doneN ⟨1,pos,bl⟩ l true=(longN l pos,true):=by simp [doneN]
theorem done2 {kind pos:Nat} {bl l:List UInt8} {here:Bool} (h1:kind≠0) (h2:kind=1→here=false):doneN ⟨kind,pos,bl⟩ l here=([],false):=by
 unfold doneN;rw [if_neg h1,if_neg];rintro ⟨h3,h4⟩;simp only at h3;rw [h2 h3] at h4;cases h4
theorem spl_patch {o b:List UInt8} {p:Nat} : spl (o.map bv) (p*1) (b.map bv)=(patchN o p b).map bv:=by simp [spl,patchN]
theorem done_any {h:Heap} {F E F2 E2:Nat→Prop} {kind pos:Nat} {ba a:Option Addr} {bc c:Nat} {bl l:List UInt8} {here:Bool} (hb:RdL h F2 E2 (ba,bl.length,bc) bl) (hl:RdL h F E (a,l.length,c) l) (hp:pos+bl.length≤16777216) (hL:l.length≤16777216) :
  HC Tryz.prog 108 #[.agg #[.int .i64 (kind:Int),.int .i64 (pos:Int),.slice ba bl.length bc],.slice a l.length c,.bool here] h (fun v h'=>∃w,v=.tuple #[w,.bool (doneN ⟨kind,pos,bl⟩ l here).2]∧Own h h' 1 5 w ((doneN ⟨kind,pos,bl⟩ l here).1.map bv)):=by
 have ok:=((Hp.nil h none_).arg hb).arg hl;refine HC.go Tryz.func108 45 ?_;refine .seq<|.r<|.a' 3 (.bxA (cs:=[.int .i64 (kind:Int),.int .i64 (pos:Int),.slice ba bl.length bc]) ok) ?_;rintro _ η1 ⟨pb1,rfl,ok,xe⟩;refine .z .asS<|.z .asB<|.nil ?_;refine .seq<|.block fun K0 hK0=>.seq<|.r<|.z (.fa T.fd158_0)<|.z (.ldx T.ag3 ok.m0)<|.z .eql<|.z .asB<|.nil ?_;refine .cd (fun C0=>?_) (fun C0=>?_)
 ·
  refine .seq<|.a 13 (fun fl hh=>Hp h none_ [boxI pb1 158 [.int .i64 (kind:Int),.int .i64 (pos:Int),.slice ba bl.length bc]] [rdI (fun j=>F j∧j<h.size) (fun j=>E j∧j<h.size) (a,l.length,c) l,rdI (fun j=>F2 j∧j<h.size) (fun j=>E2 j∧j<h.size) (ba,bl.length,bc) bl] hh) mixed ?_;have hS:=ok;refine .g 0 false rfl 13 hS (fun _=>.mvS)<|.g 2 false rfl 15 hS (fun _=>.mvS)<|.g 3 false rfl 16 hS (fun _=>.len T.el44)<|.g 4 false rfl 17 hS (fun _=>.fa T.fd158_1)<|.lw 5 false rfl 18 hS (fun _ _ hS=>.ldx T.ag3 hS.m0)<|.g 6 false rfl 19 hS (fun _=>.fa T.fd158_2)<|.lw 7 false rfl 20 hS (fun _ _ hS=>.ldx T.ag44 hS.m0)<|.g 8 false rfl 21 hS (fun _=>.len T.el44)<|.g 9 false rfl 22 hS (fun _=>.addI)<|.g 10 false rfl 23 hS (fun _=>.maxn)<|.o1 1<|.c' false rfl 14 .func (bclone_any (a:=a) (c:=c) (l:=l) ok.r0 (by omega)) ?_;rintro _ η2 own;obtain ⟨ya1,yc1,rfl⟩:=own.formB;have ok:=ok.own own;refine ⟨ok.n1.k1,?_⟩;have hS:=ok.n1.k1;refine .o1 11<|.c' false rfl 24 .func (long_any (n:=(max l.length (pos+bl.length))) (ok).loc0 (by omega) (by omega)) ?_;rintro _ η3 ⟨ya2,yc2,rfl,q⟩;have ok:=(ok).lift1 q;refine ⟨ok.n1.k1,?_⟩;have hS:=ok.n1.k1;refine .g 12 false rfl 8 hS (fun _=>.asS)<|.e ?_;refine .seq<|.t 6 mixed ?_;simp only [List.take_succ_cons,List.take_zero,List.drop_succ_cons,List.drop_zero];refine .z .mvS<|.z (.fa T.fd158_1)<|.z (.ldx T.ag3 ok.m1)<|.z (.sll pos T.el44 T.sz5 (hb:=by rw [longN_len];omega))<|.z (.fa T.fd158_2)<|.z (.ldx T.ag44 ok.m1)<|.nil ?_;refine .a' 31 (.cpyA (n:=(longN l (max l.length (pos+bl.length))).length) (ys:=bl.map bv) (m:=bl.length) pos T.el44 T.sz5 ok ok.r1.by bv_all rfl (him:=by rw [longN_len];omega)) ?_;rintro _ η4 ⟨rfl,ok,cg⟩;refine .nil ?_;refine .seq<|.r<|.z .mvS<|.z .asS<|.z .asB<|.nil ?_;refine .ret ⟨.tuple #[.slice ya2 ((longN l (max l.length (pos+bl.length))).length) yc2,.bool true],Res.two rfl rfl rfl,⟨_,by rw [show kind=0 from by omega,done0],by rw [show kind=0 from by omega,done0];have ok:=(ok).cx spl_patch;exact ok.toOwn⟩⟩
 refine .seq<|.r<|.z (.fa T.fd158_0)<|.z (.ldx T.ag3 ok.m0)<|.z .eql<|.z .mvB<|.sd (fun G37=>?_) (fun G37=>?_)
 ·
  refine .z .mvB<|.z .pkt<|.z .asB<|.nil ?_;refine .cond (fun C1=>?_) (fun C1=>?_)
  ·
   refine .seq<|.a 4 (fun fl hh=>cond fl True (Hp h none_ [boxI pb1 158 [.int .i64 (kind:Int),.int .i64 (pos:Int),.slice ba bl.length bc]] [rdI (fun j=>F j∧j<h.size) (fun j=>E j∧j<h.size) (a,l.length,c) l,rdI (fun j=>F2 j∧j<h.size) (fun j=>E2 j∧j<h.size) (ba,bl.length,bc) bl] hh)) mixed ?_;have hS:=ok;refine .g 0 false rfl 40 hS (fun _=>.mvS)<|.g 2 false rfl 42 hS (fun _=>.fa T.fd158_1)<|.l 3 false rfl 43 hS (fun _ hS=>.ldx T.ag3 hS.m0)<|.o1 1<|.c' false rfl 41 .func (bclone_any (a:=a) (c:=c) (l:=l) ok.r0 (by omega)) ?_;rintro _ η5 own;obtain ⟨ya3,yc3,rfl⟩:=own.formB;have ok:=ok.own own;refine ⟨ok.n1.k1,?_⟩;have hS:=ok.n1.k1;refine .o1 4<|.c' true rfl 44 .func (long_any (n:=pos) (ok).loc0 (by omega) (by omega)) ?_;rintro _ η6 ⟨ya4,yc4,rfl,q⟩;have ok:=(ok).lift1 q;refine ⟨trivial,?_⟩;refine .g 5 true rfl 6 trivial (fun _=>.asS)<|.g 6 true rfl 7 trivial (fun _=>.asB)<|.e ?_;refine .ret ⟨.tuple #[.slice ya4 ((longN l pos).length) yc4,.bool true],Res.two rfl rfl rfl,⟨_,by rw [show kind=1 from by omega,C1,done1],by rw [show kind=1 from by omega,C1,done1];exact (ok).toOwn⟩⟩
  refine .skip<|.end<|hK0 _ _<|.seq<|.r<|.z .asS<|.z .asB<|.nil ?_;refine .ret ⟨.tuple #[.slice none 0 0,.bool false],Res.two rfl rfl rfl,⟨_,by rw [done2 (by omega) (by intro h1;first | exact absurd h1 (by omega) | simpa using C1)],by rw [done2 (by omega) (by intro h1;first | exact absurd h1 (by omega) | simpa using C1)];exact ok.tM.nilC.toOwn⟩⟩
 refine .y<|.z .pkf<|.z .asB<|.nil ?_;refine .cf<|.skip<|.end<|hK0 _ _<|.seq<|.r<|.z .asS<|.z .asB<|.nil ?_;refine .ret ⟨.tuple #[.slice none 0 0,.bool false],Res.two rfl rfl rfl,⟨_,by rw [done2 (by omega) (by intro h1;first | exact absurd h1 (by omega) | simpa using C1)],by rw [done2 (by omega) (by intro h1;first | exact absurd h1 (by omega) | simpa using C1)];exact ok.tM.nilC.toOwn⟩⟩
theorem wrong1 {d:Dk} {n:List UInt8} {zs:List Int} (h:n.length<1∨32<n.length∨∃z∈zs,z<0):wrongN d n zs=1:=by unfold wrongN;rw [if_pos h]
theorem wrong13 {d:Dk} {n:List UInt8} {zs:List Int} (h:¬(n.length<1∨32<n.length∨∃z∈zs,z<0)) (hd:d.dark=true):wrongN d n zs=13:=by unfold wrongN;rw [if_neg h,if_pos hd]
theorem wrong0 {d:Dk} {n:List UInt8} {zs:List Int} (h:¬(n.length<1∨32<n.length∨∃z∈zs,z<0)) (hd:¬d.dark=true):wrongN d n zs=0:=by unfold wrongN;rw [if_neg h,if_neg hd]
theorem neg_any {h:Heap} {z:Int} :
  HC Tryz.prog 230 #[.int .i64 z] h (fun v h'=>v=.bool (decide (z<0))∧h'=h):=by
 refine HC.go Tryz.func230 5 ?_;refine .seq<|.r<|.z .asB<|.nil ?_;refine .seq<|.r<|.z .mvI<|.z .lss<|.z .asB<|.nil ?_;refine .ret ⟨.bool (decide (z<0)),Res.one rfl rfl,⟨rfl,rfl⟩⟩
theorem ixf_any {h:Heap} {F E:Nat→Prop} {a:Option Addr} {c:Nat} {l:List Int} (hl:RdL h F E (a,l.length,c) l) :
  HC Tryz.prog 246 #[.slice a l.length c,.func (.func 230) #[] #[]] h (fun v h'=>∃i:Int,v=.int .i64 i∧((0≤i∧∃z∈l,z<0)∨(i<0∧¬ ∃z∈l,z<0))∧h'=h):=by
 have hc2:=hl.m;have hc1:l.length≤c:=hl.c;simp only at hc2;refine HC.go Tryz.func246 19 ?_;refine .seq<|.r<|.z .asI<|.nil ?_;refine .seq<|.seq<|.r<|.z .mvS<|.z (.len T.el24)<|.z .mvI<|.nil ?_;refine .block fun K0 hK0=>.loop (fun m s hh=>∃(i:Nat),Has s [(0,.slice a l.length c),(1,.func (.func 230) #[] #[]),(7,.int .i64 (l.length:Int)),(8,.int .i64 (i:Int))]∧h=hh∧i≤l.length∧(∀j (hj:j<l.length),j<i→¬l[j]<0)∧m=l.length-i) ?_ ?_
 ·exact ⟨_,0,⟨rfl,rfl,rfl,rfl,trivial⟩,rfl,Nat.zero_le _,fun _ _ h=>absurd h (by omega),rfl⟩
 rintro _ _ _ ⟨i,hs,rfl,hi,hz,rfl⟩ J0 hJ0;refine .frame hs fun τ=>?_;refine .seq<|.r<|.z .lss<|.nil ?_;refine .seq<|.cdr (fun C0=>?_) (fun C0=>?_)
 ·
  have hil:i=l.length:=by omega
  refine .exit<|hK0 _ _<|.seq<|.r<|.z .asI<|.nil ?_;refine .ret ⟨.int .i64 (-1),Res.one rfl rfl,⟨_,rfl,.inr ⟨by decide,fun ⟨z,hzm,hz0⟩=>(by obtain ⟨j,hj,rfl⟩:=List.mem_iff_getElem.1 hzm;exact hz j hj (by omega) hz0)⟩,rfl⟩⟩
 have hil:i<l.length:=by omega
 refine .skip<|.seq<|.block fun K1 hK1=>.seq<|.r<|.z .mvI<|.z .asI<|.nil ?_;refine .seq<|.r<|.z .mvF<|.z .mvS<|.z .mvI<|?_;obtain ⟨bb1,oo1,rfl,fb1⟩:=hl.pos (by omega);refine .z (.ix1 i T.el24 T.sz3)<|.z (.ld T.ag3 (hl.i64 (i:=i) (by omega)))<|.k 16 .dyn (neg_any (z:=l[i]))<|.nil ?_;refine .cd (fun C1=>?_) (fun C1=>?_)
 ·
  refine .seq<|.r<|.z .mvI<|.z .asI<|.nil ?_;refine .ret ⟨.int .i64 (i:Int),Res.one rfl rfl,⟨_,rfl,.inl ⟨by omega,_,List.getElem_mem hil,C1⟩,rfl⟩⟩
 refine .skip<|.end<|hK1 _ _<|.r<|.z (.addI (b:=1))<|.z .mvI<|.nil ?_;refine .end<|hJ0 _ _ _ ⟨i+1,⟨rfl,rfl,rfl,rfl,trivial⟩,rfl,by omega,fun j hj h=>(by by_cases hji:j=i;(subst hji;exact C1);exact hz j hj (by omega)),rfl⟩ (by omega)
theorem anyneg_any {h:Heap} {F E:Nat→Prop} {a:Option Addr} {c:Nat} {l:List Int} (hl:RdL h F E (a,l.length,c) l) :
  HC Tryz.prog 229 #[.slice a l.length c,.func (.func 230) #[] #[]] h (fun v h'=>v=.bool (decide (∃z∈l,z<0))∧h'=h):=by
 have hc2:=hl.m;have hc1:l.length≤c:=hl.c;simp only at hc2;refine HC.go Tryz.func229 9 ?_;refine .seq<|.r<|.z .asB<|.nil ?_;refine .seq<|.r<|.z .mvS<|.z .mvF<|.c' 7 .func (ixf_any (a:=a) (c:=c) (l:=l) hl) ?_;rintro _ _ ⟨ix1,rfl,hix1,heq⟩;obtain rfl:=heq.symm;refine .z .geq<|.z .asB<|.nil ?_;refine .ret ⟨.bool (decide (0≤ix1)),Res.one rfl rfl,⟨congrArg Value.bool (decide_eq_decide.2 ⟨fun h1=>hix1.elim (·.2) fun h2=>absurd h1 (by omega),fun h1=>hix1.elim (·.1) fun h2=>absurd h1 h2.2⟩),rfl⟩⟩
theorem wrong_any {h:Heap} {F E:Nat→Prop} {d:Nat} {r:RD} {n:List UInt8} {a:Option Addr} {c:Nat} {l:List Int} (hd:(dboxI d r).p h) (hl:RdL h F E (a,l.length,c) l) :
  HC Tryz.prog 211 #[.pointer (some ⟨d,0,none⟩),.string (BA n),.slice a l.length c] h (fun v h'=>v=.int .i64 (wrongN r.abs n l:Int)∧h'=h):=by
 have hc2:=hl.m;have hc1:l.length≤c:=hl.c;simp only at hc2;refine HC.go Tryz.func211 28 ?_;refine .seq<|.r<|.z .asI<|.nil ?_;refine .seq<|.block fun K0 hK0=>.seq<|.r<|.z .mvP<|.z (.pEqS T.pt63)<|.z .asB<|.nil ?_;refine .cf<|.seq<|.r<|.z .mvT<|.z (.lenT T.st9)<|.z .lss<|.z .mvB<|.sd (fun G14=>?_) (fun G14=>?_)
 ·
  refine .y<|.y<|.y<|.z .pkt<|.z .mvB<|.y<|.y<|.z .pkt<|.z .asB<|.nil ?_;refine .ct<|.seq<|.r<|.z .asI<|.nil ?_;refine .ret ⟨.int .i64 1,Res.one rfl rfl,⟨by rw [wrong1 (by first | exact .inl (by omega) | exact .inr (.inl (by omega)) | exact .inr (.inr C1))];rfl,rfl⟩⟩
 refine .z .mvT<|.z (.lenT T.st9)<|.z .gtr<|.z .pkf<|.z .mvB<|.sd (fun G19=>?_) (fun G19=>?_)
 ·
  refine .y<|.y<|.z .pkt<|.z .asB<|.nil ?_;refine .ct<|.seq<|.r<|.z .asI<|.nil ?_;refine .ret ⟨.int .i64 1,Res.one rfl rfl,⟨by rw [wrong1 (by first | exact .inl (by omega) | exact .inr (.inl (by omega)) | exact .inr (.inr C1))];rfl,rfl⟩⟩
 refine .z .mvS<|.k 21 .func (anyneg_any (a:=a) (c:=c) (l:=l) hl)<|.z .pkf<|.z .asB<|.nil ?_;refine .cd (fun C1=>?_) (fun C1=>?_)
 ·
  refine .seq<|.r<|.z .asI<|.nil ?_;refine .ret ⟨.int .i64 1,Res.one rfl rfl,⟨by rw [wrong1 (by first | exact .inl (by omega) | exact .inr (.inl (by omega)) | exact .inr (.inr C1))];rfl,rfl⟩⟩
 refine .seq<|.r<|.z .mvP<|.z .nil<|.z (.fa T.fd137_1)<|.z (.ldx T.ag4 hd)<|.z .asB<|.nil ?_;refine .cond (fun C2=>?_) (fun C2=>?_)
 ·
  refine .seq<|.r<|.z .asI<|.nil ?_;refine .ret ⟨.int .i64 13,Res.one rfl rfl,⟨by rw [wrong13 (by rintro (h1 | h1 | h1);(omega);(omega);exact absurd h1 C1) (by show r.dark=true;exact C2)];rfl,rfl⟩⟩
 refine .skip<|.end<|hK0 _ _<|.seq<|.r<|.z .asI<|.nil ?_;refine .ret ⟨.int .i64 0,Res.one rfl rfl,⟨by rw [wrong0 (by rintro (h1 | h1 | h1);(omega);(omega);exact absurd h1 C1) (by show ¬r.dark=true;rw [C2];decide)];rfl,rfl⟩⟩
def lfR (r:RD):Int:=if 0<r.left then r.left-1 else r.left
def powerR (r:RD):RD × Nat:=if r.left=0 then (⟨r.m,r.fs,true,r.left,r.chg⟩,13) else (⟨r.m,r.fs,r.dark,lfR r,r.chg+1⟩,0)
theorem powerR_0 {r:RD} (h:r.left=0):powerR r=(⟨r.m,r.fs,true,r.left,r.chg⟩,13):=by unfold powerR;rw [if_pos h]
theorem powerR_1 {r:RD} (h:¬r.left=0):powerR r=(⟨r.m,r.fs,r.dark,lfR r,r.chg+1⟩,0):=by unfold powerR;rw [if_neg h]
theorem powerR_abs (r:RD):(powerR r).1.abs=(powerN r.abs).1∧(powerR r).2=(powerN r.abs).2:=by
 by_cases h:r.left=0
 ·rw [powerR_0 h];unfold powerN;rw [if_pos (by exact h)];exact ⟨rfl,rfl⟩
 ·rw [powerR_1 h];unfold powerN;rw [if_neg (by exact h)];exact ⟨rfl,rfl⟩
theorem powerR_fs (r:RD):(powerR r).1.fs=r.fs:=by unfold powerR;split<;>rfl
theorem lfR_1 {r:RD} (h:0<r.left):lfR r=r.left-1:=by unfold lfR;rw [if_pos h]
theorem lfR_0 {r:RD} (h:¬0<r.left):lfR r=r.left:=by unfold lfR;rw [if_neg h]
theorem power_any {h:Heap} {d:Nat} {r:RD} (ok:Hp h (dskI d r).F [dskI d r] [] h) (hk:DkOk r.abs) (hcg:r.chg<1000000000) :
  HC Tryz.prog 228 #[.pointer (some ⟨d,0,none⟩)] h (fun v h'=>v=.int .i64 ((powerR r).2:Int)∧Hp h (dskI d r).F [dskI d (powerR r).1] [] h'):=by
 have hl:r.left≤9223372036854775807:=hk.left;have hc0:0≤r.chg:=hk.chg;have ok:=ok.dopn;refine HC.go Tryz.func228 30 ?_;refine .seq<|.r<|.z .asI<|.nil ?_;refine .seq<|.seq<|.r<|.z .mvP<|.z .nil<|.z (.fa T.fd137_2)<|.z (.ldx T.ag3 ok.m0)<|.z .eql<|.nil ?_;refine .cd (fun C0=>?_) (fun C0=>?_)
 ·
  refine .seq<|.r<|.z .mvP<|.z .nil<|.z (.fa T.fd137_1)<|.ur' (.stB T.sz4 ok) ?_;rintro η1 ⟨ok,cg⟩;refine .nil ?_;refine .seq<|.r<|.z .asI<|.nil ?_;refine .ret ⟨.int .i64 13,Res.one rfl rfl,(by rw [powerR_0 C0];exact ⟨rfl,Hp.dcls (r:=⟨r.m,r.fs,true,r.left,r.chg⟩) ok⟩)⟩
 refine .skip<|.seq<|.seq<|.r<|.z .mvP<|.z .nil<|.z (.fa T.fd137_2)<|.z (.ldx T.ag3 ok.m0)<|.z .gtr<|.nil ?_;refine .cd (fun C1=>?_) (fun C1=>?_)
 ·
  refine .r<|.z .mvP<|.z .nil<|.z (.fa T.fd137_2)<|.z (.ldx T.ag3 ok.m0)<|.z .sub<|.z .nil<|.z (.fa T.fd137_2)<|.ur' (.stI T.sz3 ok) ?_;rintro η2 ⟨ok,cg⟩;refine .nil ?_;refine .seq<|.r<|.z .mvP<|.z .nil<|.z (.fa T.fd137_3)<|.z (.ldx T.ag3 ok.m0)<|.z .add<|.z .nil<|.z (.fa T.fd137_3)<|.ur' (.stI T.sz3 ok) ?_;rintro η3 ⟨ok,cg⟩;refine .nil ?_;refine .seq<|.r<|.z .asI<|.nil ?_;refine .ret ⟨.int .i64 0,Res.one rfl rfl,(by rw [powerR_1 C0];refine ⟨rfl,Hp.dcls (r:=⟨r.m,r.fs,r.dark,lfR r,r.chg+1⟩) ?_⟩;show Hp _ _ (boxI d _ [_,_,.int .i64 (lfR r),_]::_) _ _;rw [lfR_1 C1];exact ok)⟩
 refine .skip<|.seq<|.r<|.z .mvP<|.z .nil<|.z (.fa T.fd137_3)<|.z (.ldx T.ag3 ok.m0)<|.z .add<|.z .nil<|.z (.fa T.fd137_3)<|.ur' (.stI T.sz3 ok) ?_;rintro η4 ⟨ok,cg⟩;refine .nil ?_;refine .seq<|.r<|.z .asI<|.nil ?_;refine .ret ⟨.int .i64 0,Res.one rfl rfl,(by rw [powerR_1 C0];refine ⟨rfl,Hp.dcls (r:=⟨r.m,r.fs,r.dark,lfR r,r.chg+1⟩) ?_⟩;show Hp _ _ (boxI d _ [_,_,.int .i64 (lfR r),_]::_) _ _;rw [lfR_0 C1];exact ok)⟩
theorem dsk_parts {h:Heap} {d:Nat} {r:RD} (hd:(dskI d r).p h):(dboxI d r).p h∧MapT kvB h r.m (ents r.fs)∧(r.fs.map (·.1)).Nodup∧∀n f,bget r.fs n=some f→(fboxI f).p h:=by
 have h1:=hd.1 _ List.mem_cons_self;have h2:MapT kvB h r.m (ents r.fs):=hd.1 _ (List.mem_cons_of_mem _ List.mem_cons_self);refine ⟨h1,h2,by have:=h2.nodup;rwa [ents_keys] at this,fun n f hg=>hd.1 _ (List.mem_cons_of_mem _ (List.mem_cons_of_mem _ (List.mem_flatMap.2 ⟨_,bget_mem hg,?_⟩)))⟩;simp [fileI]
def ptrN (f:Option RF):Option Addr:=f.map fun f=>⟨f.blk,0,none⟩
theorem ents_getD {fs:Fs} {n:List UInt8} : (aget (ents fs) n).getD (.pointer none)=.pointer (ptrN (bget fs n)):=by
 rw [ents_get];cases bget fs n<;>rfl
theorem there_no {r:RD} {n:List UInt8} (h:bget r.fs n=none):thereN r.abs n=false:=by simp [thereN,RD.abs,h]
theorem there_f {r:RD} {n:List UInt8} {f:RF} (h:bget r.fs n=some f):thereN r.abs n=f.here:=by simp [thereN,RD.abs,h,RF.abs]
theorem there_any {h:Heap} {d:Nat} {r:RD} {n:List UInt8} (hd:(dskI d r).p h) :
  HC Tryz.prog 175 #[.pointer (some ⟨d,0,none⟩),.string (BA n)] h (fun v h'=>((thereN r.abs n=false∧v=.pointer none)∨∃f,bget r.fs n=some f∧f.here=true∧v=.pointer (some ⟨f.blk,0,none⟩))∧h'=h):=by
 obtain ⟨hd1,hd2,hd3,hd4⟩:=dsk_parts hd;refine HC.go Tryz.func175 21 ?_;refine .seq<|.r<|.z .asP<|.nil ?_;refine .seq<|.seq<|.r<|.z .mvP<|.z .nil<|.z (.fa T.fd137_0)<|.z (.ldx T.ag135 hd1)<|.z .mvT<|.z (.lk KV.ba n (v:=.pointer (ptrN (bget r.fs n))) T.mp135 (stB_iff T.st9) T.zr153 hd2 (by exact ents_getD))<|.z .asP<|.nil ?_;refine .seq<|.r<|.z .mvP<|.z (.pNe T.pt153)<|.z .mvB<|.spl (fun G14=>?_) (fun G14=>?_)
 ·
  obtain ⟨f,hg⟩:∃f0,bget r.fs n=some f0:=by (cases hb:bget r.fs n with | none=>(rw [hb] at G14;simp [ptrN] at G14) | some x=>exact ⟨x,rfl⟩)
  rw [hg];simp only [ptrN,Option.map_some];have hfb:=hd4 n f hg;refine .z .mvP<|.z .nil<|.z (.fa T.fd156_2)<|.z (.ldx T.ag4 hfb)<|.z .pkt<|.nil ?_;refine .cond (fun C0=>?_) (fun C0=>?_)
  ·
   refine .seq<|.r<|.z .mvP<|.z .asP<|.nil ?_;refine .ret ⟨.pointer (some ⟨f.blk,0,none⟩),Res.one rfl rfl,⟨.inr ⟨f,(by first | exact hg | rfl),C0,rfl⟩,rfl⟩⟩
  refine .skip<|.seq<|.r<|.z .asP<|.nil ?_;refine .ret ⟨.pointer none,Res.one rfl rfl,⟨.inl ⟨by rw [there_f hg];exact C0,rfl⟩,rfl⟩⟩
 refine .y<|.y<|.y<|.y<|.z .pkf<|.nil ?_;refine .cf<|.skip<|.seq<|.r<|.z .asP<|.nil ?_;refine .ret ⟨.pointer none,Res.one rfl rfl,⟨.inl ⟨there_no (by cases hb:bget r.fs n with | none=>rfl | some x=>(rw [hb] at G14;simp [ptrN] at G14)),rfl⟩,rfl⟩⟩
@[reducible] def byfI (E:Nat→Prop) (f:RF):Itm:=⟨fun h=>ByF h E f,E,fun _ _ _ c d b=>b.st c d⟩
def chgR (f:RF) (c:RC) (ya:Option Addr) (yc:Nat) (oa:Option Addr) (oc:Nat):RF:=⟨f.blk,ya,yc,(doneN c.abs f.nl f.here).1,f.sa,f.sc,f.sl,(doneN c.abs f.nl f.here).2,f.was,oa,oc,f.ol++[c]⟩
theorem chgR_abs {f:RF} {c:RC} {ya yc oa oc} : (chgR f c ya yc oa oc).abs=chgF f.abs c.abs:=by simp [chgR,RF.abs,chgF]
def newF (b:Nat):RF:=⟨b,none,0,[],none,0,[],false,false,none,0,[]⟩
def FileAt (r:RD) (n:List UInt8) (f:RF):Prop:=f.abs=((r.abs.fs n).getD noF)
theorem fileAt_some {r:RD} {n:List UInt8} {f:RF} (h:bget r.fs n=some f):FileAt r n f:=by simp [FileAt,RD.abs,h]
theorem fileAt_new {r:RD} {n:List UInt8} {b:Nat} (h:bget r.fs n=none):FileAt r n (newF b):=by simp [FileAt,RD.abs,h,newF,RF.abs,noF]
theorem ents_blk {fs:Fs} {n:List UInt8} {f g:RF} (h:f.blk=g.blk):ents (bput fs n f)=ents (bput fs n g):=by rw [←ents_put,←ents_put,ptrF,ptrF,h]
theorem do_end {h0 h:Heap} {D E:Nat→Prop} {M R:List Itm} {d:Nat} {r:RD} {n:List UInt8} {f:RF} {c:RC} {ya oa:Option Addr} {yc oc:Nat} (hl:¬r.left=0) (hn:(r.fs.map (·.1)).Nodup) (hf:FileAt r n f)
  (ok:Hp h0 D (boxI f.blk 156 [.slice ya (doneN c.abs f.nl f.here).1.length yc,.slice f.sa f.sl.length f.sc,.bool (doneN c.abs f.nl f.here).2,.bool f.was,.slice oa (f.ol++[c]).length oc]::capI 3 158 (oa,(f.ol++[c]).length,oc) ((f.ol++[c]).flatMap RC.cells)::flsI (bdel r.fs n)::boxI d 137 [.map (some r.m),.bool r.dark,.int .i64 (lfR r),.int .i64 (r.chg+1)]::mapI kvB r.m (ents (bput r.fs n f))::capI 1 5 (ya,(doneN c.abs f.nl f.here).1.length,yc) ((doneN c.abs f.nl f.here).1.map bv)::M)
   (byfI E f::bysI E r.fs::rdI E E (c.ba,c.bl.length,c.bc) c.bl::R) h) :
  ∃(r':RD) (E':Nat→Prop),r'.abs=(doN r.abs n c.abs).1∧Hp h0 D (dskI d r'::M) (bysI E' r'.fs::R) h∧∀j,E' j→E j∨blkC (sv (ya,(doneN c.abs f.nl f.here).1.length,yc)) j:=by
 refine ⟨⟨r.m,bput r.fs n (chgR f c ya yc oa oc),r.dark,lfR r,r.chg+1⟩,fun j=>E j∨blkC (sv (ya,(doneN c.abs f.nl f.here).1.length,yc)) j,?_,?_,fun _ h=>h⟩
 ·unfold doN;rw [if_neg (by exact hl)];simp only [RD.abs];congr 1
  ·funext m;rw [bget_put];by_cases hm:m=n
   ·subst hm;have:=hf;unfold FileAt at this;simp only [RD.abs] at this;rw [if_pos rfl,Option.map_some,chgR_abs,this];simp [put1]
   ·simp [put1,hm]
 ·have o1:=Hp.frzB (l:=(doneN c.abs f.nl f.here).1) (Hp.n5 ok) rfl;have o2:=Hp.fcls (n:=n) (f:=chgR f c ya yc oa oc) hn o1;have o3:=Hp.dcls (r:=⟨r.m,bput r.fs n (chgR f c ya yc oa oc),r.dark,lfR r,r.chg+1⟩) (d:=d) (M:=M) (by
   have o4:=o2.n2.n2;simp only;rw [ents_blk (f:=chgR f c ya yc oa oc) (g:=f) rfl];exact o4)
  have hby:Bys h (fun j=>E j∨blkC (sv (ya,(doneN c.abs f.nl f.here).1.length,yc)) j) (bput r.fs n (chgR f c ya yc oa oc)):=by
   refine Bys.put (Bys.mono (fun _ h=>.inl h) o3.r2) ⟨?_,?_,fun x hx=>?_⟩
   ·exact RdL.mono (fun _ h=>.inr h) (fun _ f=>f.elim) o3.r0
   ·exact RdL.mono (fun _ h=>.inl h) (fun _ h=>.inl h) o3.r1.safe
   ·rcases List.mem_append.1 hx with hx | hx
    ·exact RdL.mono (fun _ h=>.inl h) (fun _ h=>.inl h) (o3.r1.opn x hx)
    ·rw [List.mem_singleton.1 hx];exact RdL.mono (fun _ h=>.inl h) (fun _ h=>.inl h) o3.r3
  exact ((o3.or (r:=rdI (blkC (sv (ya,(doneN c.abs f.nl f.here).1.length,yc))) none_ (ya,(doneN c.abs f.nl f.here).1.length,yc) (doneN c.abs f.nl f.here).1) (r':=byfI E f) (by simp) (by simp) (bysI _ _) hby (fun j hj=>hj.elim .inr fun h=>.inl (.inl h))).sub (by
   intro i hi;simp only [List.mem_cons] at hi⊢;rcases hi with h | h
   ·exact .inl h
   ·exact .inr (.inr (.inr (.inr (.inr h))))))
theorem byfI_new {h:Heap} {E:Nat→Prop} {b:Nat} : ByF h E (newF b):=⟨RdL.nil _ _ _,RdL.nil _ _ _,fun _ h=>by cases h⟩
theorem do_any {h:Heap} {d:Nat} {r:RD} {E:Nat→Prop} {n:List UInt8} {kind pos:Nat} {ba:Option Addr} {bc:Nat} {bl:List UInt8} (ok:Hp h (dskI d r).F [dskI d r] [bysI E r.fs] h) (hk:DkOk r.abs) (hcg:r.chg<1000000000) (hb:RdL h E E (ba,bl.length,bc) bl) (hc:ChOk ⟨kind,pos,bl⟩) :
  HC Tryz.prog 227 #[.pointer (some ⟨d,0,none⟩),.string (BA n),.agg #[.int .i64 (kind:Int),.int .i64 (pos:Int),.slice ba bl.length bc]] h (fun v h'=>∃r' E',v=.int .i64 ((doN r.abs n ⟨kind,pos,bl⟩).2:Int)∧r'.abs=(doN r.abs n ⟨kind,pos,bl⟩).1∧DUp h h' d r r' E E'):=by
 have ok:=ok.d0 (rdI E E (ba,bl.length,bc) bl) hb (fun _ h=>h.elim id id);have hc0:0≤r.chg:=hk.chg;have hfit:pos+bl.length≤16777216:=hc.fit;refine HC.go Tryz.func227 59 ?_;refine .seq<|.r<|.a' 5 (.bxA (cs:=[.int .i64 (kind:Int),.int .i64 (pos:Int),.slice ba bl.length bc]) ok) ?_;rintro _ η1 ⟨pb1,rfl,ok,xe⟩;refine .z .asI<|.nil ?_;refine .seq<|.seq<|.r<|.z .mvP<|.c' 10 .func (power_any (ok.n1).loc0 hk hcg) ?_;rintro _ η2 ⟨rfl,q⟩;have ok:=(ok.n1).lift1 q;refine .z .asI<|.nil ?_;refine .seq<|.r<|.z .mvI<|.z .neq<|.nil ?_;refine .cd (fun C0=>?_) (fun C0=>?_)
 ·
  have hp0:r.left=0:=by by_cases h:r.left=0;exact h;exact absurd (by rw [powerR_1 h];rfl) C0
  refine .seq<|.r<|.z .mvI<|.z .asI<|.nil ?_;refine .ret ⟨.int .i64 ((powerR r).2:Int),Res.one rfl rfl,⟨(powerR r).1,E,by unfold doN powerN;rw [if_pos (by exact hp0),if_pos (by exact hp0),powerR_0 hp0],by unfold doN;rw [if_pos (by exact hp0),(powerR_abs r).1],⟨by rw [powerR_fs];exact ok.k1.tR,fun _ h=>.inl h⟩⟩⟩
 have hpl:¬r.left=0:=fun h=>by rw [powerR_0 h] at C0;exact C0 (by simp)
 have hnd:(r.fs.map (·.1)).Nodup:=by have:=(dsk_parts (ok).m0).2.2.1;rwa [powerR_fs] at this
 have ok:=ok;rw [powerR_1 hpl] at ok;have ok:=ok.dopn;refine .skip<|.seq<|.r<|.z .mvP<|.z .nil<|.z (.fa T.fd137_0)<|.z (.ldx T.ag135 ok.m0)<|.z .mvT<|.z (.lk KV.ba n (v:=.pointer (ptrN (bget r.fs n))) T.mp135 (stB_iff T.st9) T.zr153 ok.m1 (by exact ents_getD))<|.z .asP<|.nil ?_;refine .seq<|.seq<|.r<|.z .mvP<|.z (.pEq T.pt153)<|.nil ?_;refine .join (fun s hh=>∃(f:RF),Has s [(5,.pointer (some ⟨pb1,0,none⟩)),(8,.pointer (some ⟨f.blk,0,none⟩))]∧Hp h (dskI d r).F [boxI f.blk 156 [.slice f.na f.nl.length f.nc,.slice f.sa f.sl.length f.sc,.bool f.here,.bool f.was,.slice f.oa f.ol.length f.oc],capI 3 158 (f.oa,f.ol.length,f.oc) (f.ol.flatMap RC.cells),flsI (bdel r.fs n),boxI d 137 [.map (some r.m),.bool r.dark,.int .i64 (lfR r),.int .i64 (r.chg+1)],mapI kvB r.m (ents (bput r.fs n f)),boxI pb1 158 [.int .i64 (kind:Int),.int .i64 (pos:Int),.slice ba bl.length bc]] [byfI E f,rdI E E (ba,bl.length,bc) bl,bysI E r.fs] hh∧FileAt r n f) ?_ ?_
 ·
  refine .cond (fun C1=>?_) (fun C1=>?_)
  ·
   have hg:bget r.fs n=none:=by (cases hb:bget r.fs n with | none=>rfl | some x=>(rw [hb] at C1;simp [ptrN] at C1))
   refine .seq<|.r<|.z (.bd #[.slice none 0 0,.slice none 0 0,.bool false,.bool false,.slice none 0 0] T.zr156 T.pl156 rfl)<|.a' 23 (.bxA (cs:=[.slice none 0 0,.slice none 0 0,.bool false,.bool false,.slice none 0 0]) ok) ?_;rintro _ η3 ⟨pb2,rfl,ok,xe⟩;refine .z .asP<|.nil ?_;refine .r<|.z .mvP<|.z .nil<|.z (.fa T.fd137_0)<|.z (.ldx T.ag135 ok.m1)<|.z .mvT<|.z .mvP<|.ur' (.mpu KV.ba sbB n (v:=(ptrF (newF pb2))) T.mp135 (stB_iff T.st9) ok.n2) ?_;rintro η4 ok;refine .nil ?_;refine .end<|⟨(newF pb2),⟨rfl,rfl,trivial⟩,(by rw [show ents (bput r.fs n (newF pb2))=aput (ents r.fs) n (ptrF (newF pb2)) from ents_put.symm,bdel_none hg];exact (Hp.n1 (Hp.nilC (k:=3) (e:=158) (ok.n4.n1.n3.n4.n4))).d1 (byfI E (newF pb2)) byfI_new (fun _ h=>h)),fileAt_new hg⟩
  obtain ⟨f,hg⟩:∃f0,bget r.fs n=some f0:=by (cases hb:bget r.fs n with | none=>(rw [hb] at C1;simp [ptrN] at C1) | some x=>exact ⟨x,rfl⟩)
  rw [hg];simp only [ptrN,Option.map_some];have ok:=Hp.fopn hnd hg (ok.n2);have ok:=ok.d1 (byfI E f) (Bys.get ok.r1 hg) (fun _ h=>h);refine .skip<|.end<|⟨f,⟨rfl,rfl,trivial⟩,(by rw [show ents (bput r.fs n f)=ents r.fs from ents_same hg rfl];exact ok.n5.n5.n5.n5.n5.n5),fileAt_some hg⟩
 rintro s η5 ⟨f,hs,ok,hfa⟩;refine .frame hs fun τ=>?_;have hnl:f.nl.length≤16777216:=by have:=(hk.getD n).1.now;rw [←hfa] at this;exact this
 have hol:(f.ol.flatMap RC.cells).length=f.ol.length*3:=flat_len RC.cells_len _;have hoc:(f.ol.length:Int)≤r.chg:=by have h9:=(hk.getD n).2;rw [←hfa] at h9;simpa [RF.abs] using (show _≤r.chg from h9)
 refine .seq<|?_;have ok:=ok.d0 (rdI E E (f.na,f.nl.length,f.nc) f.nl) (ok.r0).now (fun _ h=>h.elim id id);refine .a 11 (fun fl hh=>cond fl True (Hp h (dskI d r).F [boxI f.blk 156 [.slice f.na f.nl.length f.nc,.slice f.sa f.sl.length f.sc,.bool f.here,.bool f.was,.slice f.oa f.ol.length f.oc],capI 3 158 (f.oa,f.ol.length,f.oc) (f.ol.flatMap RC.cells),flsI (bdel r.fs n),boxI d 137 [.map (some r.m),.bool r.dark,.int .i64 (lfR r),.int .i64 (r.chg+1)],mapI kvB r.m (ents (bput r.fs n f)),boxI pb1 158 [.int .i64 (kind:Int),.int .i64 (pos:Int),.slice ba bl.length bc]] [rdI E E (f.na,f.nl.length,f.nc) f.nl,byfI E f,rdI E E (ba,bl.length,bc) bl,bysI E r.fs] hh)) mixed ?_;have hS:=ok;refine .g 0 false rfl 31 hS (fun _=>.mvP)<|.g 1 false rfl 32 hS (fun _=>.mvP)<|.l 2 false rfl 33 hS (fun _ hS=>.ldb T.ag158 hS.m5 T.sz158)<|.g 3 false rfl 34 hS (fun _=>.mvP)<|.g 4 false rfl 35 hS (fun _=>.nil)<|.g 5 false rfl 36 hS (fun _=>.fa T.fd156_0)<|.l 6 false rfl 37 hS (fun _ hS=>.ldx T.ag44 hS.m0)<|.g 7 false rfl 38 hS (fun _=>.mvP)<|.g 8 false rfl 39 hS (fun _=>.nil)<|.g 9 false rfl 40 hS (fun _=>.fa T.fd156_2)<|.l 10 false rfl 41 hS (fun _ hS=>.ldx T.ag4 hS.m0)<|.o1 11<|.c' true rfl 42 .func (done_any (kind:=kind) (pos:=pos) (ba:=ba) (bc:=bc) (bl:=bl) (a:=f.na) (c:=f.nc) (l:=f.nl) (here:=f.here) ok.r2 ok.r0 (by omega) (by omega)) ?_;rintro _ η6 ⟨_,rfl,own⟩;obtain ⟨ya1,yc1,rfl⟩:=own.formB;have hyf:=fun j hj=>Nat.le_trans ok.chg.size (own.fresh j hj);have ok:=ok.own own;refine ⟨trivial,?_⟩;refine .g 12 true rfl 30 trivial (fun _=>.mvU)<|.g 13 true rfl 43 trivial (fun _=>.ex)<|.g 14 true rfl 44 trivial (fun _=>.ex)<|.g 15 true rfl 45 trivial (fun _=>.nil)<|.g 16 true rfl 46 trivial (fun _=>.fa T.fd156_0)<|.o1 17<|.ur' true rfl (.stS T.sz44 ok.n1) ?_;rintro η7 ⟨ok,cg⟩;refine ⟨trivial,?_⟩;refine .g 18 true rfl 47 trivial (fun _=>.nil)<|.g 19 true rfl 48 trivial (fun _=>.fa T.fd156_2)<|.o1 20<|.ur' true rfl (.stB T.sz4 ok) ?_;rintro η8 ⟨ok,cg⟩;refine ⟨trivial,?_⟩;refine .e ?_;refine .seq<|.a 10 (fun fl hh=>cond fl True (Hp h (dskI d r).F [boxI f.blk 156 [.slice ya1 ((doneN ⟨kind,pos,bl⟩ f.nl f.here).1.length) yc1,.slice f.sa f.sl.length f.sc,.bool ((doneN ⟨kind,pos,bl⟩ f.nl f.here).2),.bool f.was,.slice f.oa f.ol.length f.oc],capI 1 5 (ya1,(doneN ⟨kind,pos,bl⟩ f.nl f.here).1.length,yc1) ((doneN ⟨kind,pos,bl⟩ f.nl f.here).1.map bv),flsI (bdel r.fs n),boxI d 137 [.map (some r.m),.bool r.dark,.int .i64 (lfR r),.int .i64 (r.chg+1)],mapI kvB r.m (ents (bput r.fs n f)),boxI pb1 158 [.int .i64 (kind:Int),.int .i64 (pos:Int),.slice ba bl.length bc]] [rdI E E (f.na,f.nl.length,f.nc) f.nl,byfI E f,rdI E E (ba,bl.length,bc) bl,bysI E r.fs] hh)) mixed ?_;have hS:=ok.n6.n6.n6.n6.n5.n5.k6;refine .g 0 false rfl 49 hS (fun _=>.mvP)<|.g 1 false rfl 50 hS (fun _=>.mvP)<|.g 2 false rfl 51 hS (fun _=>.nil)<|.g 3 false rfl 52 hS (fun _=>.fa T.fd156_4)<|.l 4 false rfl 53 hS (fun _ hS=>.ldx T.ag154 hS.m0)<|.l 5 false rfl 54 hS (fun _ hS=>.ldb T.ag158 hS.m5 T.sz158)<|.o1 6<|.a' false rfl 55 (.lit [.tmp 54] (cs:=[.int .i64 (kind:Int),.int .i64 (pos:Int),.slice ba bl.length bc]) T.el154 T.sz158 T.zr158 ok ⟨rfl,trivial⟩) ?_;rintro _ η9 ⟨pb3,rfl,ok,xe⟩;refine ⟨ok.n7.n7.n7.n7.n6.n6.k6,?_⟩;have hS:=ok.n7.n7.n7.n7.n6.n6.k6;refine .o1 7<|.a' false rfl 56 (.app (news:=[.int .i64 (kind:Int),.int .i64 (pos:Int),.slice ba bl.length bc]) T.el154 T.sz158 T.by158 T.zr158 ok.n3 (ok.n3.m1).sl (oneL rfl) (by rw [hol];simp only [List.length_cons,List.length_nil];omega)) ?_;rintro _ η10 ⟨ya2,yn1,yc2,rfl,ok,ap⟩;refine ⟨ok.n7.n7.n7.n7.n7.n7.k6,?_⟩;have hS:=ok.n7.n7.n7.n7.n7.n7.k6;refine .g 8 false rfl 57 hS (fun _=>.nil)<|.g 9 false rfl 58 hS (fun _=>.fa T.fd156_4)<|.o1 10<|.ur' true rfl (.stS T.sz154 ok.n2) ?_;rintro η11 ⟨ok,cg⟩;refine ⟨trivial,?_⟩;refine .e ?_;refine .seq<|.r<|.z .asI<|.nil ?_;have ok:=(ok.n1).cx (ys:=(f.ol++[(⟨kind,pos,ba,bc,bl⟩:RC)]).flatMap RC.cells) (by simp [RC.cells]);obtain rfl:yn1=(f.ol++[(⟨kind,pos,ba,bc,bl⟩:RC)]).length:=(Sl.sz (Cap.sl ok.m0) RC.cells_len (by decide)).1.symm;refine .ret ⟨.int .i64 0,Res.one rfl rfl,(by obtain ⟨r2,E2,h1,h2,h3⟩:=do_end (n:=n) (f:=f) (c:=⟨kind,pos,ba,bc,bl⟩) hpl hnd hfa (ok.n3.n6.n6.n6.n4.n5.f2.f3.f3);exact ⟨r2,E2,by unfold doN;rw [if_neg (by exact hpl)];rfl,h1,h2.k1.up fun j hj=>(h3 j hj).imp id (fun h9=>hyf j h9)⟩)⟩
theorem rem_w {d:Dk} {n:List UInt8} (h:¬(wrongN d n []:Int)=0):removeN d n=(d,wrongN d n []):=by unfold removeN;rw [if_pos (by omega)]
theorem rem_n {d:Dk} {n:List UInt8} (h:wrongN d n []=0) (h1:thereN d n=false):removeN d n=(d,4):=by unfold removeN;rw [if_neg (by omega),if_pos h1]
theorem rem_d {d:Dk} {n:List UInt8} (h:wrongN d n []=0) (h1:thereN d n=true):removeN d n=doN d n ⟨2,0,[]⟩:=by unfold removeN;rw [if_neg (by omega),if_neg (by rw [h1];decide)]
theorem remove_any {h:Heap} {d:Nat} {r:RD} {E:Nat→Prop} {n:List UInt8} (ok:Hp h (dskI d r).F [dskI d r] [bysI E r.fs] h) (hk:DkOk r.abs) (hcg:r.chg<1000000000) :
  HC Tryz.prog 210 #[.pointer (some ⟨d,0,none⟩),.string (BA n)] h (fun v h'=>∃r' E',v=.int .i64 ((removeN r.abs n).2:Int)∧r'.abs=(removeN r.abs n).1∧DUp h h' d r r' E E'):=by
 refine HC.go Tryz.func210 20 ?_;refine .seq<|.r<|.z .asI<|.nil ?_;refine .seq<|.seq<|.r<|.z .mvP<|.z .mvT<|.k 8 .func (wrong_any (d:=d) (r:=r) (n:=n) (dsk_parts (ok.m0)).1 (a:=none) (c:=0) (l:=([]:List Int)) (RdL.nil _ none_ none_))<|.z .asI<|.nil ?_;refine .seq<|.r<|.z .mvI<|.z .neq<|.nil ?_;refine .cd (fun C0=>?_) (fun C0=>?_)
 ·
  refine .seq<|.r<|.z .mvI<|.z .asI<|.nil ?_;refine .ret ⟨.int .i64 (wrongN r.abs n ([]:List Int):Int),Res.one rfl rfl,⟨r,E,(by rw [rem_w C0]<;>rfl),(by rw [rem_w C0]<;>rfl),(ok).k1.up fun _ h=>.inl h⟩⟩
 have hw0:wrongN r.abs n []=0:=by omega
 refine .skip<|.seq<|.seq<|.r<|.z .mvP<|.z .mvT<|.c' 14 .func (there_any (d:=d) (r:=r) (n:=n) (ok.m0)) ?_;rintro _ _ ⟨(⟨hnotf1,rfl⟩ | ⟨tf1,hgtf1,hhtf1,rfl⟩),heq⟩
 ·
  obtain rfl:=heq.symm;refine .z (.pEqN T.pt153)<|.nil ?_;refine .ct<|.seq<|.r<|.z .asI<|.nil ?_;refine .ret ⟨.int .i64 4,Res.one rfl rfl,⟨r,E,(by rw [rem_n hw0 hnotf1]<;>rfl),(by rw [rem_n hw0 hnotf1]<;>rfl),(ok).k1.up fun _ h=>.inl h⟩⟩
 obtain rfl:=heq.symm;refine .z (.pEqS T.pt153)<|.nil ?_;refine .cf<|.skip<|.seq<|.r<|.z .mvP<|.z .mvT<|.z (.bd #[.int .i64 2,.int .i64 0,.slice none 0 0] T.zr158 T.pl158 rfl)<|.c' 19 .func (do_any (d:=d) (r:=r) (E:=E) (n:=n) (kind:=2) (pos:=0) (ba:=none) (bc:=0) (bl:=([]:List UInt8)) (ok).loc1 hk hcg (RdL.nil _ _ _) ⟨by simp,by simp⟩) ?_;rintro _ η1 ⟨rdk1,Edk1,rfl,hadk1,updk1⟩;have hszdk1:=ok.chg.size;have ok:=(ok).dsk (d:=d) (r:=r) updk1;refine .z .asI<|.nil ?_;refine .ret ⟨.int .i64 ((doN r.abs n ⟨2,0,([]:List UInt8)⟩).2:Int),Res.one rfl rfl,⟨rdk1,Edk1,(by rw [rem_d hw0 (by rw [there_f hgtf1];exact hhtf1)]<;>rfl),(by rw [rem_d hw0 (by rw [there_f hgtf1];exact hhtf1)];exact hadk1),(ok).k1.up fun j hj=>(updk1.new j hj).elim .inl fun h=>.inr (Nat.le_trans hszdk1 h)⟩⟩
theorem size_0 {r:RD} {n:List UInt8} (h:r.dark=true∨thereN r.abs n=false):sizeN r.abs n=(0,false):=by unfold sizeN;rw [if_pos (by exact h)]
theorem size_1 {r:RD} {n:List UInt8} {f:RF} (h:¬r.dark=true) (hg:bget r.fs n=some f) (hh:f.here=true):sizeN r.abs n=(f.nl.length,true):=by
 unfold sizeN;rw [if_neg]
 ·simp [RD.abs,hg,RF.abs]
 ·rintro (h1 | h1)
  ·exact h h1
  ·rw [there_f hg,hh] at h1;cases h1
theorem flsNil {h0 h:Heap} {D:Nat→Prop} {M R:List Itm} (ok:Hp h0 D M R h):Hp h0 D (flsI []::M) R h:=Hp.star (l:=[]) ok
theorem size_anyD {h:Heap} {d:Nat} {r:RD} (hd:(dskI d r).p h) {n:List UInt8} :
  HC Tryz.prog 136 #[.pointer (some ⟨d,0,none⟩),.string (BA n)] h (fun v h'=>v=.tuple #[.int .i64 ((sizeN r.abs n).1:Int),.bool (sizeN r.abs n).2]∧h'=h):=by
 obtain ⟨hd1,hd2,hd3,hd4⟩:=dsk_parts hd;refine HC.go Tryz.func136 30 ?_;refine .seq<|.r<|.z .asI<|.z .asB<|.nil ?_;refine .seq<|.seq<|.r<|.z .mvP<|.z (.pEqS T.pt63)<|.z .mvB<|.z .mvP<|.z .nil<|.z (.fa T.fd137_1)<|.z (.ldx T.ag4 hd1)<|.z .pkf<|.z .mvB<|.spl (fun G14=>?_) (fun G14=>?_)
 ·
  refine .y<|.y<|.y<|.y<|.z .pkt<|.nil ?_;refine .ct<|.seq<|.r<|.z .asI<|.z .asB<|.nil ?_;refine .ret ⟨.tuple #[.int .i64 0,.bool false],Res.two rfl rfl rfl,⟨by first | rw [size_0 (.inl (by assumption))];rfl | rw [size_0 (.inr hnotf1)];rfl,rfl⟩⟩
 refine .z .mvP<|.z .mvT<|.c' 17 .func (there_any (d:=d) (r:=r) (n:=n) hd) ?_;rintro _ _ ⟨(⟨hnotf1,rfl⟩ | ⟨tf1,hgtf1,hhtf1,rfl⟩),heq⟩
 ·
  obtain rfl:=heq.symm;refine .z (.pEqN T.pt153)<|.z .pkf<|.nil ?_;refine .ct<|.seq<|.r<|.z .asI<|.z .asB<|.nil ?_;refine .ret ⟨.tuple #[.int .i64 0,.bool false],Res.two rfl rfl rfl,⟨by first | rw [size_0 (.inl (by assumption))];rfl | rw [size_0 (.inr hnotf1)];rfl,rfl⟩⟩
 obtain rfl:=heq.symm;refine .z (.pEqS T.pt153)<|.z .pkf<|.nil ?_;refine .cf<|.skip<|.seq<|?_;have hfb:=hd4 n tf1 hgtf1;refine .r<|.z .mvP<|.z .nil<|.z (.fa T.fd137_0)<|.z (.ldx T.ag135 hd1)<|.z .mvT<|.z (.lk KV.ba n (v:=.pointer (some ⟨tf1.blk,0,none⟩)) T.mp135 (stB_iff T.st9) T.zr153 hd2 (by rw [ents_get,hgtf1];rfl))<|.z .nil<|.z (.fa T.fd156_0)<|.z (.ldx T.ag44 hfb)<|.z (.len T.el44)<|.z .asI<|.z .asB<|.nil ?_;refine .ret ⟨.tuple #[.int .i64 (tf1.nl.length:Int),.bool true],Res.two rfl rfl rfl,⟨by rw [size_1 (by intro h9;simp [h9] at *) hgtf1 hhtf1],rfl⟩⟩
theorem dark_any {h:Heap} {d:Nat} {r:RD} (hd:(dboxI d r).p h) :
  HC Tryz.prog 135 #[.pointer (some ⟨d,0,none⟩)] h (fun v h'=>v=.bool r.dark∧h'=h):=by
 have hd1:=hd;refine HC.go Tryz.func135 11 ?_;refine .seq<|.r<|.z .asB<|.nil ?_;refine .seq<|.r<|.z .mvP<|.z (.pNeS T.pt63)<|.z .mvB<|.z .mvP<|.z .nil<|.z (.fa T.fd137_1)<|.z (.ldx T.ag4 hd1)<|.z .pkt<|.z .asB<|.nil ?_;refine .ret ⟨.bool r.dark,Res.one rfl rfl,⟨rfl,rfl⟩⟩
theorem new_any {h:Heap} :
  HC Tryz.prog 35 #[] h (fun v h'=>∃d r,v=.pointer (some ⟨d,0,none⟩)∧r.abs=newN∧Hp h none_ [dskI d r] [bysI none_ r.fs] h'):=by
 have ok:=Hp.nil h none_;refine HC.go Tryz.func35 4 ?_;refine .seq<|.r<|.z .asP<|.nil ?_;refine .seq<|.r<|.a' 1 (.mkm kvB ok) ?_;rintro _ η1 ⟨mb1,rfl,ok⟩;refine .z (.bd #[.map (some mb1),.bool false,.int .i64 (-1),.int .i64 0] T.zr137 T.pl137 rfl)<|.a' 3 (.bxA (cs:=[.map (some mb1),.bool false,.int .i64 (-1),.int .i64 0]) ok) ?_;rintro _ η2 ⟨pb1,rfl,ok,xe⟩;refine .z .asP<|.nil ?_;refine .ret ⟨.pointer (some ⟨pb1,0,none⟩),Res.one rfl rfl,⟨pb1,⟨mb1,[],false,-1,0⟩,rfl,rfl,((Hp.dcls (r:=⟨mb1,[],false,-1,0⟩) (flsNil ok).n2.n2).dE (bysI none_ []) (fun _ h=>by cases h) (fun _ f=>f))⟩⟩
def ixOf (v:Int):List Int→Int
 | []=>-1
 | x::l=>if x=v then 0 else (if ixOf v l<0 then -1 else ixOf v l+1)
theorem ixOf_none {v:Int} : ∀ {l:List Int},v∉l→ixOf v l = -1
 | [],_=>rfl
 | x::l,h=>by
  simp only [List.mem_cons,not_or] at h;unfold ixOf;rw [if_neg (fun e=>h.1 e.symm),ixOf_none h.2];rfl
theorem ixOf_some {v:Int} : ∀ {l:List Int} {k:Nat} (hk:k<l.length),v∉l.take k→l[k]=v→ixOf v l=k
 | x::l,0,_,_,h=>by simp at h;simp [ixOf,h]
 | x::l,k+1,hk,ha,h=>by
  simp only [List.take_succ_cons,List.mem_cons,not_or] at ha;have:=ixOf_some (l:=l) (k:=k) (by simpa using hk) ha.2 (by simpa using h);unfold ixOf;rw [if_neg (fun e=>ha.1 e.symm),this,if_neg (by omega)];omega
theorem index_any {h:Heap} {a:Option Addr} {n c:Nat} {v:Int} {l:List Int} (hl:Sl h 1 (.slice a n c) (l.map iv)) :
  HC Tryz.prog 130 #[.slice a n c,.int .i64 v] h (fun r h'=>r=.int .i64 (ixOf v l)∧h'=h):=by
 have hra:=hl.cells;have hcm:=hl.bd;have hla:l.length=n:=by simpa using hra.len
 refine HC.body Tryz.func130 rfl (by kernel_rfl) 19 rfl rfl ?_;refine HW.seq fun K1 hK1=>?_;refine HW.region ?_;refine HO.v (V.asI rfl) rfl 4 rfl rfl ?_;refine HO.nil ?_;refine hK1 _ _ ?_;refine HW.seq fun K2 hK2=>?_;refine HW.seq fun K3 hK3=>?_;refine HW.region ?_;refine HO.v (V.mvS rfl) rfl 6 rfl rfl ?_;refine HO.v (V.len rfl T.el24) rfl 7 rfl rfl ?_;refine HO.v (V.mvI rfl) rfl 8 rfl rfl ?_;refine HO.nil ?_;refine hK3 _ _ ?_;refine HW.block ?_;refine HW.loopm (fun m s hh=>∃k:Nat,Has s [(0,.slice a n c),(1,.int .i64 v),(7,.int .i64 n),(8,.int .i64 k)]∧hh=h∧k≤n∧m=n-k∧v∉l.take k) ?_ ?_
 ·exact ⟨_,0,⟨rfl,rfl,rfl,rfl,trivial⟩,rfl,Nat.zero_le _,rfl,by simp⟩
 rintro m s hh ⟨k,hs,rfl,hk,rfl,hp⟩ J4 hJ4;refine HW.frame hs fun τ=>?_;refine HW.seq fun K5 hK5=>?_;refine HW.region ?_;refine HO.v (V.lss rfl rfl rfl) rfl 9 rfl rfl ?_;refine HO.nil ?_;refine hK5 _ _ ?_;refine HW.seq fun K6 hK6=>?_;refine HW.condr rfl (fun hc=>?_) (fun hc=>?_)
 ·
  have hkn:=of_decide_eq_false hc;refine HW.exit ?_;have hkn:=of_decide_eq_false hc;refine hK2 _ _ ?_;refine HW.seq fun K7 hK7=>?_;refine HW.region ?_;refine HO.v (V.asI rfl) rfl 4 rfl rfl ?_;refine HO.nil ?_;refine hK7 _ _ ?_;refine HW.ret ?_;refine ⟨.int .i64 (-1),Res.one rfl rfl,(by have h1:k=n:=(by omega);rw [h1,List.take_of_length_le (by omega)] at hp;rw [ixOf_none hp]),rfl⟩
 refine HW.skip ?_;refine hK6 _ _ ?_;refine HW.seq fun K8 hK8=>?_;have hkn:=of_decide_eq_true hc;have hkl:k<l.length:=by omega
 obtain ⟨b,o,rfl,hcell⟩:=hra.pos (by omega);refine HW.block ?_;refine HW.seq fun K9 hK9=>?_;refine HW.region ?_;refine HO.v (V.mvI rfl) rfl 10 rfl rfl ?_;refine HO.v (V.asI rfl) rfl 5 rfl rfl ?_;refine HO.nil ?_;refine hK9 _ _ ?_;refine HW.seq fun K10 hK10=>?_;refine HW.region ?_;refine HO.v (V.mvI rfl) rfl 11 rfl rfl ?_;refine HO.v (V.mvS rfl) rfl 12 rfl rfl ?_;refine HO.v (V.mvI rfl) rfl 13 rfl rfl ?_;refine HO.v (V.indexAddr1 rfl rfl T.el24 T.sz3 (by omega)) rfl 14 rfl rfl ?_;refine HO.v (V.load rfl (load_one T.ag3 (v:=iv l[k]) (hcell _ _ (map_at (by omega))))) rfl 15 rfl rfl ?_;refine HO.v (V.eql rfl rfl rfl) rfl 16 rfl rfl ?_;refine HO.nil ?_;refine hK10 _ _ ?_;refine HW.cond rfl (fun hc=>?_) (fun hc=>?_)
 ·
  refine HW.seq fun K11 hK11=>?_;refine HW.region ?_;refine HO.v (V.mvI rfl) rfl 17 rfl rfl ?_;refine HO.v (V.asI rfl) rfl 4 rfl rfl ?_;refine HO.nil ?_;refine hK11 _ _ ?_;refine HW.ret ?_;refine ⟨.int .i64 k,Res.one rfl rfl,(by rw [ixOf_some (k:=k) (by omega) hp (of_decide_eq_true hc).symm]),rfl⟩
 refine HW.skip ?_;refine hK8 _ _ ?_;refine HW.region ?_;refine HO.v (V.add rfl rfl (by omega)) rfl 18 rfl rfl ?_;refine HO.v (V.mvI rfl) rfl 8 rfl rfl ?_;refine HO.nil ?_;refine hJ4 _ _ _ ⟨k+1,⟨rfl,rfl,rfl,rfl,trivial⟩,rfl,by omega,rfl,(by rw [take_next (by omega)];have:=of_decide_eq_false hc;simp only [List.mem_append,List.mem_singleton,not_or];exact ⟨hp,this⟩)⟩ (by omega)
theorem ixOf_lt {v:Int} {l:List Int} (h:ixOf v l<0):v∉l:=by
 intro hm;obtain ⟨k,hk,hl⟩:=List.mem_iff_getElem.1 hm;have:∃k,∃(hk:k<l.length),l[k]=v∧v∉l.take k:=by
  obtain ⟨m,hm1,hm2⟩:=exists_least (p:=fun k=>∃(hk:k<l.length),l[k]=v) ⟨k,hk,hl⟩;obtain ⟨h1,h2⟩:=hm1;refine ⟨m,h1,h2,fun hx=>?_⟩;obtain ⟨j,hj,hj2⟩:=List.mem_iff_getElem.1 hx;simp at hj hj2;exact absurd (hm2 j ⟨by omega,hj2⟩) (by omega)
 obtain ⟨k,hk,h1,h2⟩:=this;rw [ixOf_some hk h2 h1] at h;omega
structure Ordr (h:Heap) (p:Nat) (rm mp:Value) (ov:SV) (xs:List Int):Prop where
 hp:h[p]? = some (.cells #[sv ov,rm,mp] 249 (0,0))
 ord:Cap h 1 3 (sv ov) (xs.map iv)
structure AP where
 no:Int
 b:List UInt8
 d:Bool
 deriving DecidableEq
def nos (L:List AP):List Int:=L.map fun x=>x.no
def isT (h:Heap) (b:Nat) (t:TypeId):Prop:=∃cs fz,h[b]? = some (.cells cs t fz)
theorem isT.eq {h:Heap} {b:Nat} {t u:TypeId} (x:isT h b t) (y:isT h b u):t=u:=by
 obtain ⟨_,_,x⟩:=x;obtain ⟨_,_,y⟩:=y;rw [x] at y;injection y with y;injection y
structure PgAt (h:Heap) (F:Nat→Prop) (q:Nat) (x:AP):Prop where
 cells:∃b:SV,h[q]? = some (.cells #[sv b,.bool x.d] 341 (0,0))∧Cap h 1 5 (sv b) (x.b.map bv)∧∀j,blkC (sv b) j→F j
 own:F q
theorem PgAt.chg {h h':Heap} {F F' G:Nat→Prop} {q:Nat} {x:AP} (r:PgAt h F q x) (c:Chg G h h') (hg:∀b,G b→F b→isT h b 341∨isT h b 5→False) (hF:∀b,F b→F' b):PgAt h' F' q x:=by
 obtain ⟨⟨b,hq,hb,hf⟩,ho⟩:=r;refine ⟨⟨b,c.block hq fun g=>hg _ g ho (.inl ⟨_,_,hq⟩),hb.chg c fun j hj g=>?_,fun j hj=>hF _ (hf j hj)⟩,hF _ ho⟩;obtain ⟨cs,fz,h1⟩:=hb.blk hj;exact hg j g (hf j hj) (.inr ⟨cs,fz,h1⟩)
structure CMap (h:Heap) (F:Nat→Prop) (m:Nat) (L:List AP) (ks:List Int) (q:Int→Nat):Prop where
 map:MapT (Value.int .i64) h m (ks.map fun k=>(k,ptr (q k)))
 mem:∀k,k∈ks↔k∈nos L
 nd:(nos L).Nodup
 pg:∀x∈L,PgAt h F (q x.no) x
 inj:∀x∈L,∀y∈L,q x.no=q y.no→x.no=y.no
 own:F m
theorem CMap.chg {h h':Heap} {F F' G:Nat→Prop} {m:Nat} {L:List AP} {ks:List Int} {q:Int→Nat} (r:CMap h F m L ks q) (c:Chg G h h') (hg:∀b,G b→F b→isT h b 249∨isT h b 3) (hF:∀b,F b→F' b):CMap h' F' m L ks q:=by
 refine ⟨r.map.chg c fun g=>?_,r.mem,r.nd,fun x hx=>(r.pg x hx).chg c (fun b g f t=>?_) hF,r.inj,hF _ r.own⟩
 ·obtain ⟨es,cl,hb,_⟩:=r.map;rcases hg _ g r.own with ⟨cs,fz,h1⟩ | ⟨cs,fz,h1⟩<;>(rw [hb] at h1;injection h1 with h1;cases h1)
 ·rcases hg _ g f with h1 | h1<;>rcases t with h2 | h2<;>exact absurd (h1.eq h2) (by decide)
theorem Ordr.chg {h h':Heap} {G:Nat→Prop} {p:Nat} {rm mp:Value} {ov:SV} {xs:List Int} (r:Ordr h p rm mp ov xs) (c:Chg G h h') (hp:¬G p) (hb:∀b,blkC (sv ov) b→¬G b):Ordr h' p rm mp ov xs:=
 ⟨c.block r.hp hp,r.ord.chg c hb⟩
structure CIn (h:Heap) (F:Nat→Prop) (p m:Nat) (ov:SV) (room:Int) (L:List AP) (ks:List Int) (q:Int→Nat):Prop where
 mp:CMap h F m L ks q
 od:Ordr h p (.int .i64 room) (.map (some m)) ov (nos L).reverse
 fp:F p
 fo:∀b,blkC (sv ov) b→F b
 lt:∀b,F b→b<h.size
 len:L.length≤100000001
 sm:∀x∈L,x.b.length≤1000000
def CRep (h:Heap) (F:Nat→Prop) (p:Nat) (room:Int) (L:List AP):Prop:=∃m ov ks q,CIn h F p m ov room L ks q
theorem CIn.chg {h h':Heap} {F G:Nat→Prop} {p m:Nat} {ov:SV} {room:Int} {L:List AP} {ks:List Int} {q:Int→Nat} (r:CIn h F p m ov room L ks q) (c:Chg G h h') (hg:∀b,F b→¬G b):CIn h' F p m ov room L ks q:=
 ⟨r.mp.chg c (fun b g f=>absurd g (hg b f)) (fun _ f=>f),r.od.chg c (hg _ r.fp) (fun b hb=>hg _ (r.fo b hb)),r.fp,r.fo,fun b hb=>Nat.lt_of_lt_of_le (r.lt b hb) c.size,r.len,r.sm⟩
theorem CRep.chg {h h':Heap} {F G:Nat→Prop} {p:Nat} {room:Int} {L:List AP} (r:CRep h F p room L) (c:Chg G h h') (hg:∀b,F b→¬G b):CRep h' F p room L:=
 let ⟨m,ov,ks,q,r⟩:=r;⟨m,ov,ks,q,r.chg c hg⟩
theorem CRep.lt {h:Heap} {F:Nat→Prop} {p:Nat} {room:Int} {L:List AP} (r:CRep h F p room L):∀b,F b→b<h.size:=let ⟨_,_,_,_,r⟩:=r;r.lt
theorem cnew_any {h:Heap} {room:Int} :
  HC Tryz.prog 133 #[.int .i64 room] h (fun v h'=>(¬(1≤room∧room≤1048576)∧v=.tuple #[.pointer none,.int .i64 1]∧h'=h)∨
   ((1≤room∧room≤1048576)∧∃p F,v=.tuple #[ptr p,.int .i64 0]∧CRep h' F p room []∧Ext h h'∧∀b,F b→h.size≤b)):=by
 refine HC.body Tryz.func133 rfl (by kernel_rfl) 14 rfl rfl ?_;refine HW.seq fun K1 hK1=>?_;refine HW.region ?_;refine HO.v (V.asP rfl) rfl 2 rfl rfl ?_;refine HO.v (V.asI rfl) rfl 3 rfl rfl ?_;refine HO.nil ?_;refine hK1 _ _ ?_;refine HW.seq fun K2 hK2=>?_;refine HW.seq fun K3 hK3=>?_;refine HW.region ?_;refine HO.v (V.mvI rfl) rfl 4 rfl rfl ?_;refine HO.v (V.lss rfl rfl rfl) rfl 5 rfl rfl ?_;refine HO.v (V.mvB rfl) rfl 6 rfl rfl ?_;refine HO.spl (fun hb2=>?_) (fun hb2=>?_)
 ·
  refine HO.no rfl 7 rfl rfl ?_;refine HO.no rfl 8 rfl rfl ?_;refine HO.v (V.pick_t rfl rfl) rfl 9 rfl rfl ?_;refine HO.nil ?_;refine hK3 _ _ ?_;refine HW.cond_t rfl ?_;refine HW.seq fun K4 hK4=>?_;refine HW.region ?_;refine HO.v (V.asP rfl) rfl 2 rfl rfl ?_;refine HO.v (V.asI rfl) rfl 3 rfl rfl ?_;refine HO.nil ?_;refine hK4 _ _ ?_;refine HW.ret ?_;refine ⟨.tuple #[.pointer none,.int .i64 1],Res.two rfl rfl rfl,.inl ⟨(by have:=of_decide_eq_true hb2;omega),rfl,rfl⟩⟩
 ·
  refine HO.v (V.mvI rfl) rfl 7 rfl rfl ?_;refine HO.v (V.gtr rfl rfl rfl) rfl 8 rfl rfl ?_;refine HO.v (V.pick_f rfl rfl) rfl 9 rfl rfl ?_;refine HO.nil ?_;refine hK3 _ _ ?_;refine HW.cond rfl (fun hc=>?_) (fun hc=>?_)
  ·
   refine HW.seq fun K5 hK5=>?_;refine HW.region ?_;refine HO.v (V.asP rfl) rfl 2 rfl rfl ?_;refine HO.v (V.asI rfl) rfl 3 rfl rfl ?_;refine HO.nil ?_;refine hK5 _ _ ?_;refine HW.ret ?_;refine ⟨.tuple #[.pointer none,.int .i64 1],Res.two rfl rfl rfl,.inl ⟨(by have:=of_decide_eq_true hc;omega),rfl,rfl⟩⟩
  refine HW.skip ?_;refine hK2 _ _ ?_;refine HW.seq fun K6 hK6=>?_;refine HW.region ?_;refine HO.v (V.mvI rfl) rfl 10 rfl rfl ?_;refine HO.e (V.makeMap) rfl 11 rfl rfl ?_;refine HO.v (V.build (cs:=#[.slice none 0 0,.int .i64 room,.map (some h.size)]) T.zr249 T.pl249 rfl) rfl 12 rfl rfl ?_;refine HO.e (V.boxA rfl) rfl 13 rfl rfl ?_;refine HO.v (V.asP rfl) rfl 2 rfl rfl ?_;refine HO.v (V.asI rfl) rfl 3 rfl rfl ?_;refine HO.nil ?_;refine hK6 _ _ ?_;refine HW.ret ?_;refine ⟨.tuple #[ptr (h.push (.map #[] 0)).size,.int .i64 0],Res.two rfl rfl rfl,.inr ⟨(by have:=of_decide_eq_false hc;have:=of_decide_eq_false hb2;omega),_,(fun b=>b=h.size∨b=(h.push (.map #[] 0)).size),rfl,⟨h.size,(none,0,0),[],fun _=>0,?_⟩,(Ext.push _ _).trans (Ext.push _ _),?_⟩⟩
  ·refine ⟨⟨MapT.new (push_other (push_same _ _)),fun k=>by simp [nos],by simp [nos],fun x hx=>by simp at hx,fun x hx=>by simp at hx,.inl rfl⟩,⟨push_same _ _,Cap.nil _ _ _⟩,.inr rfl,fun b hb=>?_,?_,by simp,fun x hx=>by simp at hx⟩
   ·obtain ⟨o,n,c,hv⟩:=hb;cases hv
   ·rintro b (rfl | rfl)<;>simp<;>omega
  ·rintro b (rfl | rfl)<;>simp
def cl (s:List Int) (L:List AP):List AP:=L.map fun x=>if x.no∈s then ⟨x.no,x.b,false⟩ else x
def COk (S:Nat→Option (List UInt8)) (x:AP):Prop:=1≤x.no∧S (x.no-1).toNat=some x.b
structure CSt (h:Heap) (c:Nat) (F:Nat→Prop) (S:Nat→Option (List UInt8)) (room:Int) (L:List AP):Prop where
 rep:CRep h F c room L
 r1:1≤room
 r2:room≤1048576
 len:(L.length:Int)≤room
 ok:∀x∈L,COk S x
@[reducible] def cacI (c:Nat) (F:Nat→Prop) (S:Nat→Option (List UInt8)):Itm:=⟨fun h=>∃room L,CSt h c F S room L,F,fun _ _ _ cg d ⟨room,L,q⟩=>⟨room,L,⟨q.rep.chg cg d,q.r1,q.r2,q.len,q.ok⟩⟩⟩
theorem cnewA_any {h:Heap} {room:Int} (S:Nat→Option (List UInt8)) :
  HC Tryz.prog 133 #[.int .i64 room] h (fun v h'=>(¬(1≤room∧room≤1048576)∧v=.tuple #[.pointer none,.int .i64 1]∧Ext h h')∨
   ((1≤room∧room≤1048576)∧∃c F,v=.tuple #[.pointer (some ⟨c,0,none⟩),.int .i64 0]∧Ext h h'∧(cacI c F S).p h'∧∀j,F j→Nw h h' j)):=by
 refine (cnew_any (h:=h) (room:=room)).mono fun v h' q=>?_;rcases q with ⟨h1,h2,h3⟩ | ⟨h1,p,F,hv,hr,hx,hn⟩
 ·exact .inl ⟨h1,h2,by rw [h3];exact Ext.refl _⟩
 ·exact .inr ⟨h1,p,F,hv,hx,⟨room,[],hr,h1.1,h1.2,by simp;omega,by simp⟩,fun j hj=>⟨hn j hj,hr.lt j hj⟩⟩
structure RB where
 a:Option Addr
 c:Nat
 l:List UInt8
structure RA where
 fr:Nat
 nd:Nat
 link:Nat
 am:Nat
 at_:List (Int × Nat)
 in_:Bool
 many:Nat
 bm:Option Nat
 bs:List (Int × RB)
 d:Nat
 rd:RD
 size:Nat
 sure:Nat
 c:Nat
 cF:Nat→Prop
 S:Nat→Option (List UInt8)
 dark:Bool
def iv' (n:Nat):Value:=.int .i64 (n:Int)
def atE (l:List (Int × Nat)):List (Int × Value):=l.map fun p=>(p.1,iv' p.2)
def bsV (x:RB):Value:=.slice x.a x.l.length x.c
def bsE (l:List (Int × RB)):List (Int × Value):=l.map fun p=>(p.1,bsV p.2)
@[reducible] def aboxI (p:Nat) (r:RA):Itm:=boxI p 202 [.int .i64 (r.fr:Int),.int .i64 (r.nd:Int),.int .u64 (r.link:Int),.map (some r.am),.bool r.in_,.int .i64 (r.many:Int),.map r.bm,.pointer (some ⟨r.d,0,none⟩),.int .i64 (r.size:Int),.int .i64 (r.sure:Int),.pointer (some ⟨r.c,0,none⟩),.bool r.dark]
def nowI (bm:Option Nat) (bs:List (Int × RB)):Itm:=match bm with
 | none=>anyI none_ (fun _=>True) (fun _ _ _ _ _ _=>trivial)
 | some m=>mapI (Value.int .i64) m (bsE bs)
def Pbs (h:Heap) (E:Nat→Prop) (bs:List (Int × RB)):Prop:=∀x∈bs,RdL h E E (x.2.a,x.2.l.length,x.2.c) x.2.l
@[reducible] def pbsI (E:Nat→Prop) (bs:List (Int × RB)):Itm:=⟨fun h=>Pbs h E bs,E,fun _ _ _ c d b x hx=>(b x hx).st c d d⟩
section
variable {h h':Heap} {E E':Nat→Prop} {bs:List (Int × RB)} {k:Int} {x:RB}
theorem Pbs.get (b:Pbs h E bs) (hg:mget bs k=some x):RdL h E E (x.a,x.l.length,x.c) x.l:=b _ (mget_mem hg)
theorem Pbs.mono (hE:∀j,E j→E' j) (b:Pbs h E bs):Pbs h E' bs:=fun x hx=>(b x hx).mono hE hE
theorem Pbs.nil:Pbs h E []:=fun x hx=>by cases hx
theorem Pbs.put (b:Pbs h E bs) (hx:RdL h E E (x.a,x.l.length,x.c) x.l):Pbs h E (mput bs k x):=fun y hy=>by
 rcases mem_mput hy with rfl | hy
 ·exact hx
 ·exact b y hy
end
end Go.Proofs.YtndlpekckpdncaaGreat
namespace Go.HL
open Go Go.Proofs.YtndlpekckpdncaaGreat
section
variable {h0 h h':Heap} {D G:Nat→Prop} {M R:List Itm} {p:Nat} {r r':RA} {E E':Nat→Prop}
theorem Hp.nowNil {bs:List (Int × RB)} (ok:Hp h0 D M R h):Hp h0 D (nowI none bs::M) R h:=ok.newM (Ext.refl _) _ trivial (fun _ f=>f.elim)
theorem Hp.pbsPut {Q:Nat→Prop} {bs:List (Int × RB)} {k:Int} {a:Option Addr} {c:Nat} {l:List UInt8} (ok:Hp h0 D (capI 1 5 (a,l.length,c) (l.map bv)::M) (pbsI Q bs::R) h):Hp h0 D M (pbsI (fun j=>Q j∨blkC (sv (a,l.length,c)) j) (mput bs k ⟨a,c,l⟩)::R) h:=by
 have o:Hp h0 D M (rdI (blkC (sv (a,l.length,c))) none_ (a,l.length,c) l::pbsI Q bs::R) h:=ok.frzB rfl;have o2:=o.or (r:=pbsI Q bs) (r':=rdI (blkC (sv (a,l.length,c))) none_ (a,l.length,c) l) (by simp) (by simp) (pbsI (fun j=>Q j∨blkC (sv (a,l.length,c)) j) (mput bs k ⟨a,c,l⟩))
  (Pbs.put (Pbs.mono (fun j h=>.inl h) o.r1) ((show RdL h (blkC (sv (a,l.length,c))) none_ (a,l.length,c) l from o.r0).mono (fun j h=>.inr h) (fun j f=>f.elim))) (fun j h=>h.imp id .inl)
 exact o2.sub (by simp;intro a h;exact .inr (.inr (.inr h)))
theorem Hp.pbsNil {Q:Nat→Prop} {bs:List (Int × RB)} (ok:Hp h0 D M (pbsI Q bs::R) h):Hp h0 D M (pbsI Q []::R) h:=(ok.d0 (pbsI Q []) Pbs.nil).sub (by simp;intro a h;exact .inr (.inr h))
theorem Hp.nowSome {m:Nat} {bs:List (Int × RB)} (ok:Hp h0 D (nowI (some m) bs::M) R h):Hp h0 D (mapI (Value.int .i64) m (bsE bs)::M) R h:=ok
theorem Hp.liftN {a:Itm} {l:List Itm} (ok:Hp h0 D (a::M) R h) (q:Hp h a.F l [] h'):Hp h0 D (l++M) R h':=
 Hp.unstar (ok.lift1 (b:=starI l) (Hp.star (M:=[]) (by simpa using q)))
theorem Hp.lift2 {a b c:Itm} (ok:Hp h0 D (a::M) R h) (q:Hp h a.F [b,c] [] h'):Hp h0 D (b::c::M) R h':=ok.liftN q
end
open Go
theorem OpC.inv {P:Program} {s:Slots} {h:Heap} {d:Option Tmp} {ty t:TypeId} {pos name:String} {af:Array Edge} {g:Option (Nat × Bool)} {x:Operand} {xs:Array Operand} {ts:Array TypeId} {f:FuncId} {v rv:Value} {args:List Value} (hm:∀w:World,(method (P.types.size+Made.depth) t v name).run P w=.ok (f,rv) w) (hx:ev s x=.iface t v:=by exact rfl) (ha:rv::xs.toList.map (ev s)=args:=by exact rfl) :
  OpC P ⟨d,.call ⟨.invoke x name,xs,ts⟩,ty,pos,af,g⟩ s h f args.toArray:=fun w _ hc=>by
 subst ha;obtain ⟨fn,h1,h2,h3⟩:=hc;have h2' : ¬ fn.name = "runtime.NumGoroutine" := by simpa using h2
 have h3':¬fn.body=none:=by intro e;simp [e] at h3
 have hm':=hm w;have h0:((#[Value.iface t v]:Array Value)++xs.map (ev s))[0]? = some (.iface t v):=by simp [Array.getElem?_append]
 have e0:(xs.map (ev s)).extract 0 xs.size=xs.map (ev s):=by simp
 have ea:(#[rv]:Array Value)++xs.map (ev s)=(rv::xs.toList.map (ev s)).toArray:=by apply Array.ext';simp
 simp [execOp,resolve,invoke,callMethod,hx,h0,e0,hm',callFunc,h1,h2',h3',ea]
def ifB (P:Program) (t:TypeId):Option Bool:=(P.underlying t).map fun | .interface _=>true | _=>false
theorem OpV.mkI {P:Program} {s:Slots} {h:Heap} {d:Option Tmp} {ty t:TypeId} {pos:String} {af:Array Edge} {g:Option (Nat × Bool)} {x:Operand} {v:Value} (ht:ifB P t=some false) (hx:ev s x=v:=by exact rfl):OpV P ⟨d,.makeInterface t x,ty,pos,af,g⟩ s h (.iface t v):=fun w _=>by
 unfold ifB at ht;cases hu:P.underlying t with
 | none=>rw [hu] at ht;cases ht
 | some u=>
  rw [hu] at ht;cases u<;>first | (simp at ht;done) | simp [execOp,Instr.makeInterface,run_underlying hu,hx]
open Go.Proofs.YtndlpekckpdncaaGreat
section
variable {h0 h h':Heap} {D:Nat→Prop} {M R:List Itm}
theorem Hp.locL (l:List Itm) (ok:Hp h0 D (l++M) R h):Hp h (starI l).F l R h:=by
 have o:=Hp.star ok;refine ⟨Chg.refl _ _,fun i hi=>⟨(ok.m i (List.mem_append_left _ hi)).1,fun j hj=>⟨((ok.m i (List.mem_append_left _ hi)).2 j hj).1,.inl ⟨i,hi,hj⟩⟩⟩,ok.r,(List.pairwise_append.1 ok.mm).1,fun a ha b hb=>ok.mr a (List.mem_append_left _ ha) b hb⟩
theorem Hp.liftL (l:List Itm) {l':List Itm} (ok:Hp h0 D (l++M) R h) (q:Hp h (starI l).F l' [] h'):Hp h0 D (l'++M) R h':=
 Hp.unstar ((Hp.star ok).lift1 (b:=starI l') (Hp.star (M:=[]) (by simpa using q)))
end
end Go.HL
namespace Go.Proofs.YtndlpekckpdncaaGreat
open Go Go.HL
@[reducible] def pv (p:Nat):Value:=.pointer (some ⟨p,0,none⟩)
structure Pgr where
 α:Type
 it:Nat→(Nat→Prop)→α→Itm
 sure:α→List (List UInt8)
 tid:TypeId
 fPages:FuncId
 fRead:FuncId
 mPages : ∀ (p : Nat) (w : World), (method (Tryz.prog.types.size + Made.depth) tid (pv p) "Pages").run Tryz.prog w = .ok (fPages, pv p) w
 mRead : ∀ (p : Nat) (w : World), (method (Tryz.prog.types.size + Made.depth) tid (pv p) "Read").run Tryz.prog w = .ok (fRead, pv p) w
 cPages:∀ {h:Heap} {p:Nat} {F:Nat→Prop} {a:α},(it p F a).p h→HC Tryz.prog fPages #[pv p] h (fun v h'=>v=.int .i64 ((sure a).length:Int)∧h'=h)
 cRead:∀ {h:Heap} {p:Nat} {F:Nat→Prop} {a:α} {no:Int} {b:List UInt8},Hp h (it p F a).F [it p F a] [] h→1≤no→(sure a)[(no-1).toNat]? = some b→
  HC Tryz.prog fRead #[pv p,.int .i64 no] h (fun v h'=>∃F' a' x c,v=.tuple #[.slice x b.length c,.int .i64 0]∧sure a'=sure a∧Hp h (it p F a).F [capI 1 5 (x,b.length,c) (b.map bv),it p F' a'] [] h')
structure RSv where
 many:Nat
 m:Nat
 ov:List (Int × RB)
def RSv.cells (x:RSv):List Value:=[.int .i64 (x.many:Int),.map (some x.m)]
structure RS (α:Type) where
 p:Nat
 lg:Option Addr
 z:Nat
 in_:Bool
 many:Nat
 om:Option Nat
 ov:List (Int × RB)
 sa:Option Addr
 sc:Nat
 sv:List RSv
 pF:Nat→Prop
 a:α
@[reducible] def sboxI (G:Pgr) (s:Nat) (r:RS G.α):Itm:=boxI s 123 [.iface G.tid (pv r.p),.pointer r.lg,.int .i64 (r.z:Int),.bool r.in_,.int .i64 (r.many:Int),.map r.om,.slice r.sa r.sv.length r.sc,.bool false]
@[reducible] def scapI {α:Type} (r:RS α):Itm:=capI 2 120 (r.sa,r.sv.length,r.sc) (r.sv.flatMap RSv.cells)
def Svs (h:Heap) (E:Nat→Prop) (sv:List RSv):Prop:=∀x∈sv,MapT (Value.int .i64) h x.m (bsE x.ov)∧E x.m∧Pbs h E x.ov
@[reducible] def svsI (E:Nat→Prop) (sv:List RSv):Itm:=⟨fun h=>Svs h E sv,E,fun _ _ _ c d b x hx=>⟨(b x hx).1.chg c (d _ (b x hx).2.1),(b x hx).2.1,fun y hy=>((b x hx).2.2 y hy).st c d d⟩⟩
def stL (G:Pgr) (s:Nat) (r:RS G.α):List Itm:=[sboxI G s r,nowI r.om r.ov,scapI r,G.it r.p r.pF r.a]
def stF (G:Pgr) (s:Nat) (r:RS G.α):Nat→Prop:=(starI (stL G s r)).F
structure SVw (G:Pgr) (r:RS G.α) (w:St):Prop where
 z:r.z=w.z
 in_:r.in_=w.in_
 sure:G.sure r.a=w.sure
 now:w.in_=true→(∃m,r.om=some m)∧VW RB.l r.ov r.many w.sure w.now
 out:w.in_=false→r.om=none∧r.many=0∧r.ov=[]∧r.sv=[]
 sv:All2 (fun (x:RSv) S=>VW RB.l x.ov x.many w.sure S) r.sv w.saves
 ok:StOk w
structure DsP (G:Pgr) (h:Heap) (s:Nat) (F:Nat→Prop) (w:St) (r:RS G.α) (E:Nat→Prop):Prop where
 co:(starI (stL G s r)).p h
 b:Pbs h E r.ov
 v:Svs h E r.sv
 f:∀j,stF G s r j→F j
 e:∀j,E j→F j
 ne:∀j,stF G s r j→¬E j
 V:SVw G r w
@[reducible] def dsI (G:Pgr) (s:Nat) (F:Nat→Prop) (w:St):Itm:=⟨fun h=>∃r E,DsP G h s F w r E,F,fun _ _ _ c g ⟨r,E,q⟩=>⟨r,E,(starI (stL G s r)).st _ _ _ c (fun j hj=>g j (q.f j hj)) q.co,(pbsI E r.ov).st _ _ _ c (fun j hj=>g j (q.e j hj)) q.b,(svsI E r.sv).st _ _ _ c (fun j hj=>g j (q.e j hj)) q.v,q.f,q.e,q.ne,q.V⟩⟩
section
variable {G:Pgr} {h h' h0:Heap} {s:Nat} {F D E E':Nat→Prop} {w w':St} {r r':RS G.α} {M R:List Itm}
theorem ds_ok (ok:(dsI G s F w).p h):StOk w:=let ⟨_,_,q⟩:=ok;q.V.ok
theorem ds_box (ok:(dsI G s F w).p h):∃r:RS G.α,SVw G r w∧(sboxI G s r).p h∧(G.it r.p r.pF r.a).p h:=by
 obtain ⟨r,E,q⟩:=ok;exact ⟨r,q.V,q.co.1 (sboxI G s r) (by simp [stL]),q.co.1 (G.it r.p r.pF r.a) (by simp [stL])⟩
theorem ds_open (ok:Hp h F [dsI G s F w] R h):∃r E,SVw G r w∧Hp h (stF G s r) [sboxI G s r,nowI r.om r.ov,scapI r,G.it r.p r.pF r.a] (pbsI E r.ov::svsI E r.sv::R) h∧(∀j,stF G s r j→F j)∧∀j,E j→F j:=by
 obtain ⟨r,E,q⟩:=ok.m0;have hl:=(ok.m (dsI G s F w) (by simp)).2;have o:Hp h (stF G s r) [starI (stL G s r)] (pbsI E r.ov::svsI E r.sv::R) h:=by
  refine ⟨Chg.refl _ _,fun i hi=>by rw [List.mem_singleton.1 hi];exact ⟨q.co,fun j hj=>⟨(hl j (q.f j hj)).1,.inl hj⟩⟩,fun i hi=>?_,List.pairwise_singleton _ _,fun a ha b hb=>?_⟩
  ·rcases List.mem_cons.1 hi with rfl | hi
   ·exact ⟨q.b,fun j hj=>(hl j (q.e j hj)).1⟩
   rcases List.mem_cons.1 hi with rfl | hi
   ·exact ⟨q.v,fun j hj=>(hl j (q.e j hj)).1⟩
   ·exact ok.r i hi
  ·rw [List.mem_singleton.1 ha];rcases List.mem_cons.1 hb with rfl | hb
   ·exact q.ne
   rcases List.mem_cons.1 hb with rfl | hb
   ·exact q.ne
   ·exact fun j hj=>ok.mr (dsI G s F w) (by simp) b hb j (q.f j hj)
 exact ⟨r,E,q.V,Hp.unstar o,q.f,q.e⟩
theorem ds_close (q:Hp h D (sboxI G s r'::nowI r'.om r'.ov::scapI r'::G.it r'.p r'.pF r'.a::M) (pbsI E' r'.ov::svsI E' r'.sv::R) h') (hD:∀j,D j→F j) (hE:∀j,E' j→F j∨h.size≤j) (V:SVw G r' w'):Hp h F (dsI G s (fun j=>stF G s r' j∨E' j) w'::M) [] h':=by
 have q:Hp h D (starI (stL G s r')::M) (pbsI E' r'.ov::svsI E' r'.sv::R) h':=Hp.star (l:=stL G s r') q;have hm:=List.pairwise_cons.1 q.mm;refine ⟨q.chg.mono fun j _=>hD j,fun i hi=>?_,by simp,List.pairwise_cons.2 ⟨fun b hb j hj hb2=>?_,hm.2⟩,by simp⟩
 ·rcases List.mem_cons.1 hi with rfl | hi
  ·refine ⟨⟨r',E',q.m0,(q.r (pbsI E' r'.ov) (by simp)).1,(q.r (svsI E' r'.sv) (by simp)).1,fun j hj=>.inl hj,fun j hj=>.inr hj,q.mr (starI (stL G s r')) (by simp) (pbsI E' r'.ov) (by simp),V⟩,fun j hj=>?_⟩;rcases hj with hj | hj
   ·have:=(q.m _ List.mem_cons_self).2 j hj;exact ⟨this.1,this.2.imp (hD j) id⟩
   ·exact ⟨(q.r _ List.mem_cons_self).2 j hj,hE j hj⟩
  ·have:=q.m i (List.mem_cons_of_mem _ hi);exact ⟨this.1,fun j hj=>⟨(this.2 j hj).1,(this.2 j hj).2.imp (hD j) id⟩⟩
 ·rcases hj with hj | hj
  ·exact hm.1 b hb j hj hb2
  ·exact q.mr b (List.mem_cons_of_mem _ hb) _ List.mem_cons_self j hb2 hj
end
open Go Go.HL
def lookE (b:Bool):Nat:=if b=true then 13 else 0
theorem lookE_t {b:Bool} (h:((lookE b:Nat):Int)≠0):b=true:=by unfold lookE at h;split at h<;>simp_all
theorem lookE_f {b:Bool} (h:¬((lookE b:Nat):Int)≠0):b=false:=by unfold lookE at h;split at h<;>simp_all
def pgsR (r:RA):Nat:=if r.in_=true then r.many else r.sure
theorem Pbs.rd {h:Heap} {Q:Nat→Prop} {bs:List (Int × RB)} {k:Int} {x:RB} {l:List UInt8} (b:Pbs h Q bs) (hg:mget bs k=some x) (hl:x.l=l):RdL h Q Q (match mget bs k with | some x=>x.a | none=>none,match mget bs k with | some x=>x.l.length | none=>0,match mget bs k with | some x=>x.c | none=>0) l:=by
 rw [hg];subst hl;exact b.get hg
def bsA (bs:List (Int × RB)) (k:Int):Option Addr:=match mget bs k with | some x=>x.a | none=>none
def bsN (bs:List (Int × RB)) (k:Int):Nat:=match mget bs k with | some x=>x.l.length | none=>0
def bsC (bs:List (Int × RB)) (k:Int):Nat:=match mget bs k with | some x=>x.c | none=>0
theorem bs_get {bs:List (Int × RB)} {k:Int} : (aget (bsE bs) k).getD (.slice none 0 0)=.slice (bsA bs k) (bsN bs k) (bsC bs k):=by
 unfold bsE;rw [aget_mp (f:=bsV)];unfold bsA bsN bsC bsV;cases mget bs k<;>rfl
theorem bs_is {bs:List (Int × RB)} {k:Int} : (aget (bsE bs) k).isSome=(mget bs k).isSome:=by
 unfold bsE;rw [aget_mp (f:=bsV)];cases mget bs k<;>rfl
theorem at_get {l:List (Int × Nat)} {k:Int} : (aget (atE l) k).getD (.int .i64 0)=.int .i64 (((mget l k).getD 0:Nat):Int):=by
 unfold atE;rw [aget_mp (f:=iv')];cases mget l k<;>rfl
end Go.Proofs.YtndlpekckpdncaaGreat
