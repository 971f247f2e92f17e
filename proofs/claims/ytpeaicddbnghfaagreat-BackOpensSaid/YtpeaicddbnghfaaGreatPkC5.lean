/- Heads of files, as the document has them: Check, Encode, Decode. Conditions: numbers in their ranges. Heads are encoded; a page that has a head and bytes. Conditions: a page's size. Rows of pages in memory, and the document's pager, in plain terms and in memory. Conditions: those that each fact names. A call of the laws on pagers: its page; are calls few. Conditions: the calls are readable. A call of the laws on the pager that keeps a journal: its page; are calls few. Conditions: the calls are readable. A disk as one item that is told in plain terms alone; its calls so. Conditions: those that each fact names. Files of a disk, byte by byte: what changes do to them, how the power goes, and what a crash may leave. Conditions: those that each fact names. Carrying over and clearing away, in plain terms: what is left when it is done, and what a crash may leave wherever the power goes. Conditions: those that each fact names. Opening a file that was left in any state in between, in plain terms: it has the sure pages; and so it has when the power goes within. Conditions: those that each fact names. Journals in plain terms: beginnings, entries, and how a journal is scanned. Conditions: those that each fact names. Journals that are written entry by entry, in plain terms: what a scan of one finds, whatever stands behind it. Conditions: the entries are of the journal's size. The contracts of maps.Keys, slices.Sorted and slices.Sort, laid at this program by the kit. Conditions: none. maps.Keys and slices.Sorted over the cache's map, at a seat where they serve a map of frames too. Conditions: the keys are ints of 64 bits. The method Put of a cache: what goes is read in the cache's own blocks. Conditions: as CaImp4's. The method Dirty of a cache. Conditions: the cache is well laid, its numbers are ints of 64 bits. The pager that keeps a journal, in plain terms: what each of its functions does to the disk, the cache and its own state. Conditions: those that each fact names. Scopes without jumps. Functions with one deferred call: the rules of code until it is laid, and what is done behind a return. Conditions: those that each rule names. -/
import Derived.Test.YtpeaicddbnghfaaGreatPkC4
import Derived.Shelf.SlIterI.Nil
import Derived.Shelf.SortM.Plain
import Derived.Shelf.SortM.SortNone
import Derived.Ground.GgzProg
import Derived.Ground.SlgmProg
import Derived.Test.YtpeaicddbnghfaaGreatProg
import Derived.Defers
import Derived.Scope
set_option maxRecDepth 100000
set_option maxHeartbeats 2000000
set_option linter.all false
namespace Go.Proofs.YtpeaicddbnghfaaGreat
open Go Go.HL
theorem chk_mul {k:Nat} {z1:Int} (h:k=256∨k=512∨k=1024∨k=2048∨k=4096) (hq:¬16777216 / (k:Int)<z1):(k:Int)*z1≤16777216:=by
 rcases h with rfl | rfl | rfl | rfl | rfl<;>omega
theorem chk_bad0 {k:Nat} {z0 z1 z2 z3 z4 z5:Int} (h:k=256∨k=512∨k=1024∨k=2048∨k=4096) (hz:k=256∨(k:Int)<2*z0) (hg:¬((k:Int)<z0∧(k:Int)<4096)) (hb:(k:Int)≠z0∨z1<1∨1048576<z1∨16777216 / (k:Int)<z1):¬ChkP ⟨z0,z1,z2,z3,z4,z5⟩:=by
 rintro ⟨p1,⟨p2,p3,p4⟩,_⟩;simp only at p1 p2 p3 p4;have p1:=okZ_cases p1;by_cases hk:(k:Int)=z0
 ·rw [←hk] at p4;rcases hb with hb | hb | hb | hb
  ·exact hb hk
  ·omega
  ·omega
  ·rcases h with rfl | rfl | rfl | rfl | rfl<;>omega
 ·omega
theorem dbl_step {k:Nat} {z:Int} (h:k=256∨k=512∨k=1024∨k=2048∨k=4096) (h4:(k:Int)<4096):(2*k=256∨2*k=512∨2*k=1024∨2*k=2048∨2*k=4096):=by omega
theorem rcheck_any {h:Heap} {z0 z1 z2 z3 z4 z5:Int} (h0 : -9223372036854775808≤z0∧z0≤9223372036854775807) (h1 : -9223372036854775808≤z1∧z1≤9223372036854775807) (h2 : -9223372036854775808≤z2∧z2≤9223372036854775807) (h3 : -9223372036854775808≤z3∧z3≤9223372036854775807) (h4 : -9223372036854775808≤z4∧z4≤9223372036854775807) (h5 : -9223372036854775808≤z5∧z5≤9223372036854775807):HC Tryz.prog 208 #[.agg #[.int .i64 z0,.int .i64 z1,.int .i64 z2,.int .i64 z3,.int .i64 z4,.int .i64 z5]] h (fun v h'=>v=.int .i64 (chkC ⟨z0,z1,z2,z3,z4,z5⟩:Int)∧Ext h h'):=by
 have ok:=Hp.nil h none_;refine HC.go Tryz.func208 90 ?_;refine .seq<|.r<|.a' 1 (.bxA (cs:=[.int .i64 z0,.int .i64 z1,.int .i64 z2,.int .i64 z3,.int .i64 z4,.int .i64 z5]) ok) ?_;rintro _ η1 ⟨pb1,rfl,ok,xe⟩;refine .z .asI<|.nil ?_;refine .seq<|.r<|.z .asI<|.nil ?_;refine .seq<|.block fun K0 hK0=>.loop (fun m s hh=>∃(k:Nat),Has s [(1,.pointer (some ⟨pb1,0,none⟩)),(3,.int .i64 (k:Int))]∧Hp h none_ [boxI pb1 148 [.int .i64 z0,.int .i64 z1,.int .i64 z2,.int .i64 z3,.int .i64 z4,.int .i64 z5]] [] hh∧(k=256∨k=512∨k=1024∨k=2048∨k=4096)∧(k=256∨(k:Int)<2*z0)∧m=4096-k) ?_ ?_
 ·exact ⟨_,256,⟨rfl,rfl,trivial⟩,ok,.inl rfl,.inl rfl,rfl⟩
 rintro _ _ η2 ⟨k,hs,ok,hkc,hkz,rfl⟩ J0 hJ0;refine .frame hs fun τ=>?_;refine .seq<|.seq<|.join (fun s hh=>∃(bb:Bool),Has s [(1,.pointer (some ⟨pb1,0,none⟩)),(3,.int .i64 (k:Int)),(11,.bool bb)]∧Hp h none_ [boxI pb1 148 [.int .i64 z0,.int .i64 z1,.int .i64 z2,.int .i64 z3,.int .i64 z4,.int .i64 z5]] [] hh∧bb=decide ((k:Int)<z0∧(k:Int)<4096)) ?_ ?_
 ·
  refine .r<|.z .mvI<|.z (.fa T.fd148_0)<|.z (.ldx T.ag3 ok.m0)<|.z .lss<|.z .mvB<|.sd (fun G8=>?_) (fun G8=>?_)
  ·
   refine .z .mvI<|.z .lss<|.z .pkt<|.nil ?_;refine .end<|⟨_,⟨rfl,rfl,rfl,trivial⟩,ok,by rw [decide_eq_decide];exact ⟨fun h=>⟨by assumption,h⟩,fun h=>h.2⟩⟩
  refine .y<|.y<|.z .pkf<|.nil ?_;refine .end<|⟨false,⟨rfl,rfl,rfl,trivial⟩,ok,(decide_eq_false (fun h=>by have:=h.1;omega)).symm⟩
 rintro s η3 ⟨bb,hs,ok,hbb⟩;refine .frame hs fun τ=>?_;refine .condr (fun C0=>?_) (fun C0=>?_)
 ·
  have hge:=of_decide_eq_false (hbb.symm.trans C0);refine .exit<|hK0 _ _<|.seq<|.seq<|.q (hm:=mixed)<|.z .mvI<|.z (.fa T.fd148_0)<|.z (.ldx T.ag3 ok.m0)<|.z .neq<|.z .mvB<|.sd (fun G18=>?_) (fun G18=>?_)
  ·
   refine .y<|.y<|.y<|.z .pkt<|.z .mvB<|.y<|.y<|.y<|.z .pkt<|.z .mvB<|.y<|.y<|.y<|.y<|.y<|.z .pkt<|.nil ?_;refine .ct<|.seq<|.r<|.z .asI<|.nil ?_;refine .ret ⟨.int .i64 1,Res.one rfl rfl,⟨by rw [chk_n (chk_bad0 hkc hkz hge (by first | exact .inl (by omega) | exact .inr (.inl (by omega)) | exact .inr (.inr (.inl (by omega))) | exact .inr (.inr (.inr (by omega)))))]<;>rfl,ok.chg⟩⟩
  refine .z (.fa T.fd148_1)<|.z (.ldx T.ag3 ok.m0)<|.z .lss<|.z .pkf<|.z .mvB<|.sd (fun G23=>?_) (fun G23=>?_)
  ·
   refine .y<|.y<|.y<|.z .pkt<|.z .mvB<|.y<|.y<|.y<|.y<|.y<|.z .pkt<|.nil ?_;refine .ct<|.seq<|.r<|.z .asI<|.nil ?_;refine .ret ⟨.int .i64 1,Res.one rfl rfl,⟨by rw [chk_n (chk_bad0 hkc hkz hge (by first | exact .inl (by omega) | exact .inr (.inl (by omega)) | exact .inr (.inr (.inl (by omega))) | exact .inr (.inr (.inr (by omega)))))]<;>rfl,ok.chg⟩⟩
  refine .z (.fa T.fd148_1)<|.z (.ldx T.ag3 ok.m0)<|.z .gtr<|.z .pkf<|.z .mvB<|.sd (fun G28=>?_) (fun G28=>?_)
  ·
   refine .y<|.y<|.y<|.y<|.y<|.z .pkt<|.nil ?_;refine .ct<|.seq<|.r<|.z .asI<|.nil ?_;refine .ret ⟨.int .i64 1,Res.one rfl rfl,⟨by rw [chk_n (chk_bad0 hkc hkz hge (by first | exact .inl (by omega) | exact .inr (.inl (by omega)) | exact .inr (.inr (.inl (by omega))) | exact .inr (.inr (.inr (by omega)))))]<;>rfl,ok.chg⟩⟩
  refine .z (.fa T.fd148_1)<|.z (.ldx T.ag3 ok.m0)<|.z .mvI<|.z (.quo (hr:=(by omega)))<|.z .gtr<|.z .pkf<|.nil ?_;refine .cd (fun C1=>?_) (fun C1=>?_)
  ·
   refine .seq<|.r<|.z .asI<|.nil ?_;refine .ret ⟨.int .i64 1,Res.one rfl rfl,⟨by rw [chk_n (chk_bad0 hkc hkz hge (by first | exact .inl (by omega) | exact .inr (.inl (by omega)) | exact .inr (.inr (.inl (by omega))) | exact .inr (.inr (.inr (by omega)))))]<;>rfl,ok.chg⟩⟩
  have hkz0:(k:Int)=z0:=by omega
  have hml:=chk_mul hkc (z1:=z1) (by omega);refine .skip<|.seq<|.seq<|.r<|.z (.fa T.fd148_3)<|.z (.ldx T.ag3 ok.m0)<|.z .lss<|.z .mvB<|.sd (fun G38=>?_) (fun G38=>?_)
  ·
   refine .y<|.y<|.y<|.y<|.y<|.z .pkt<|.z .mvB<|.y<|.y<|.y<|.y<|.y<|.y<|.y<|.y<|.z .pkt<|.z .mvB<|.y<|.y<|.y<|.y<|.y<|.y<|.y<|.y<|.y<|.y<|.y<|.y<|.y<|.y<|.y<|.z .pkt<|.nil ?_;refine .ct<|.seq<|.r<|.z .asI<|.nil ?_;refine .ret ⟨.int .i64 1,Res.one rfl rfl,⟨by rw [chk_n (by rintro ⟨p1,⟨p2,p3,p4⟩,⟨p5,p6,p7,p8⟩,⟨p9,p10⟩,p11,p12⟩;simp only at p1 p2 p3 p4 p5 p6 p7 p8 p9 p10 p11 p12;first | omega | simp_all)]<;>rfl,ok.chg⟩⟩
  refine .z (.fa T.fd148_3)<|.z (.ldx T.ag3 ok.m0)<|.z (.fa T.fd148_1)<|.z (.ldx T.ag3 ok.m0)<|.z .geq<|.z .pkf<|.z .mvB<|.sd (fun G45=>?_) (fun G45=>?_)
  ·
   refine .y<|.y<|.y<|.y<|.y<|.y<|.y<|.y<|.z .pkt<|.z .mvB<|.y<|.y<|.y<|.y<|.y<|.y<|.y<|.y<|.y<|.y<|.y<|.y<|.y<|.y<|.y<|.z .pkt<|.nil ?_;refine .ct<|.seq<|.r<|.z .asI<|.nil ?_;refine .ret ⟨.int .i64 1,Res.one rfl rfl,⟨by rw [chk_n (by rintro ⟨p1,⟨p2,p3,p4⟩,⟨p5,p6,p7,p8⟩,⟨p9,p10⟩,p11,p12⟩;simp only at p1 p2 p3 p4 p5 p6 p7 p8 p9 p10 p11 p12;first | omega | simp_all)]<;>rfl,ok.chg⟩⟩
  refine .z (.fa T.fd148_3)<|.z (.ldx T.ag3 ok.m0)<|.z .eql<|.z .mvB<|.sd (fun G49=>?_) (fun G49=>?_)
  ·
   refine .z (.fa T.fd148_2)<|.z (.ldx T.ag3 ok.m0)<|.z .neq<|.z .pkt<|.z .pkf<|.z .mvB<|.sd (fun G55=>?_) (fun G55=>?_)
   ·
    refine .y<|.y<|.y<|.y<|.y<|.y<|.y<|.y<|.y<|.y<|.y<|.y<|.y<|.y<|.y<|.z .pkt<|.nil ?_;refine .ct<|.seq<|.r<|.z .asI<|.nil ?_;refine .ret ⟨.int .i64 1,Res.one rfl rfl,⟨by rw [chk_n (by rintro ⟨p1,⟨p2,p3,p4⟩,⟨p5,p6,p7,p8⟩,⟨p9,p10⟩,p11,p12⟩;simp only at p1 p2 p3 p4 p5 p6 p7 p8 p9 p10 p11 p12;first | omega | simp_all)]<;>rfl,ok.chg⟩⟩
   refine .z (.fa T.fd148_3)<|.z (.ldx T.ag3 ok.m0)<|.z .gtr<|.z .mvB<|.sd (fun G59=>?_) (fun G59=>?_)
   ·
    refine .z (.fa T.fd148_2)<|.z (.ldx T.ag3 ok.m0)<|.z .lss<|.z .mvB<|.sd (fun G63=>?_) (fun G63=>?_)
    ·
     refine .y<|.y<|.y<|.y<|.y<|.z .pkt<|.z .pkt<|.z .pkf<|.nil ?_;refine .ct<|.seq<|.r<|.z .asI<|.nil ?_;refine .ret ⟨.int .i64 1,Res.one rfl rfl,⟨by rw [chk_n (by rintro ⟨p1,⟨p2,p3,p4⟩,⟨p5,p6,p7,p8⟩,⟨p9,p10⟩,p11,p12⟩;simp only at p1 p2 p3 p4 p5 p6 p7 p8 p9 p10 p11 p12;first | omega | simp_all)]<;>rfl,ok.chg⟩⟩
    refine .z (.fa T.fd148_2)<|.z (.ldx T.ag3 ok.m0)<|.z (.fa T.fd148_1)<|.z (.ldx T.ag3 ok.m0)<|.z .gtr<|.z .pkf<|.z .pkt<|.z .pkf<|.nil ?_;refine .cd (fun C2=>?_) (fun C2=>?_)
    ·
     refine .seq<|.r<|.z .asI<|.nil ?_;refine .ret ⟨.int .i64 1,Res.one rfl rfl,⟨by rw [chk_n (by rintro ⟨p1,⟨p2,p3,p4⟩,⟨p5,p6,p7,p8⟩,⟨p9,p10⟩,p11,p12⟩;simp only at p1 p2 p3 p4 p5 p6 p7 p8 p9 p10 p11 p12;first | omega | simp_all)]<;>rfl,ok.chg⟩⟩
    refine .skip<|.seq<|.seq<|.r<|.z (.fa T.fd148_4)<|.z (.ldx T.ag3 ok.m0)<|.z .lss<|.z .mvB<|.sd (fun G75=>?_) (fun G75=>?_)
    ·
     refine .y<|.y<|.y<|.z .pkt<|.z .mvB<|.y<|.y<|.y<|.z .pkt<|.z .mvB<|.y<|.y<|.y<|.z .pkt<|.nil ?_;refine .ct<|.seq<|.r<|.z .asI<|.nil ?_;refine .ret ⟨.int .i64 1,Res.one rfl rfl,⟨by rw [chk_n (by rintro ⟨p1,⟨p2,p3,p4⟩,⟨p5,p6,p7,p8⟩,⟨p9,p10⟩,p11,p12⟩;simp only at p1 p2 p3 p4 p5 p6 p7 p8 p9 p10 p11 p12;first | omega | simp_all)]<;>rfl,ok.chg⟩⟩
    refine .z (.fa T.fd148_4)<|.z (.ldx T.ag3 ok.m0)<|.z .gtr<|.z .pkf<|.z .mvB<|.sd (fun G80=>?_) (fun G80=>?_)
    ·
     refine .y<|.y<|.y<|.z .pkt<|.z .mvB<|.y<|.y<|.y<|.z .pkt<|.nil ?_;refine .ct<|.seq<|.r<|.z .asI<|.nil ?_;refine .ret ⟨.int .i64 1,Res.one rfl rfl,⟨by rw [chk_n (by rintro ⟨p1,⟨p2,p3,p4⟩,⟨p5,p6,p7,p8⟩,⟨p9,p10⟩,p11,p12⟩;simp only at p1 p2 p3 p4 p5 p6 p7 p8 p9 p10 p11 p12;first | omega | simp_all)]<;>rfl,ok.chg⟩⟩
    refine .z (.fa T.fd148_5)<|.z (.ldx T.ag3 ok.m0)<|.z .lss<|.z .pkf<|.z .mvB<|.sd (fun G85=>?_) (fun G85=>?_)
    ·
     refine .y<|.y<|.y<|.z .pkt<|.nil ?_;refine .ct<|.seq<|.r<|.z .asI<|.nil ?_;refine .ret ⟨.int .i64 1,Res.one rfl rfl,⟨by rw [chk_n (by rintro ⟨p1,⟨p2,p3,p4⟩,⟨p5,p6,p7,p8⟩,⟨p9,p10⟩,p11,p12⟩;simp only at p1 p2 p3 p4 p5 p6 p7 p8 p9 p10 p11 p12;first | omega | simp_all)]<;>rfl,ok.chg⟩⟩
    refine .z (.fa T.fd148_5)<|.z (.ldx T.ag3 ok.m0)<|.z .gtr<|.z .pkf<|.nil ?_;refine .cd (fun C3=>?_) (fun C3=>?_)
    ·
     refine .seq<|.r<|.z .asI<|.nil ?_;refine .ret ⟨.int .i64 1,Res.one rfl rfl,⟨by rw [chk_n (by rintro ⟨p1,⟨p2,p3,p4⟩,⟨p5,p6,p7,p8⟩,⟨p9,p10⟩,p11,p12⟩;simp only at p1 p2 p3 p4 p5 p6 p7 p8 p9 p10 p11 p12;first | omega | simp_all)]<;>rfl,ok.chg⟩⟩
    refine .skip<|.seq<|.r<|.z .asI<|.nil ?_;refine .ret ⟨.int .i64 0,Res.one rfl rfl,⟨by rw [chk_y ⟨decide_eq_true (by simp only;omega),⟨by simp only;omega,by simp only;omega,by rw [hkz0] at hml;exact hml⟩,⟨by simp only;omega,by simp only;omega,by simp only;omega,by simp only;omega⟩,⟨by simp only;omega,by simp only;omega⟩,by simp only;omega,by simp only;omega⟩]<;>rfl,ok.chg⟩⟩
   refine .y<|.y<|.y<|.y<|.y<|.y<|.y<|.y<|.y<|.y<|.z .pkf<|.z .pkf<|.nil ?_;refine .cf<|.skip<|.seq<|.seq<|.r<|.z (.fa T.fd148_4)<|.z (.ldx T.ag3 ok.m0)<|.z .lss<|.z .mvB<|.sd (fun G75=>?_) (fun G75=>?_)
   ·
    refine .y<|.y<|.y<|.z .pkt<|.z .mvB<|.y<|.y<|.y<|.z .pkt<|.z .mvB<|.y<|.y<|.y<|.z .pkt<|.nil ?_;refine .ct<|.seq<|.r<|.z .asI<|.nil ?_;refine .ret ⟨.int .i64 1,Res.one rfl rfl,⟨by rw [chk_n (by rintro ⟨p1,⟨p2,p3,p4⟩,⟨p5,p6,p7,p8⟩,⟨p9,p10⟩,p11,p12⟩;simp only at p1 p2 p3 p4 p5 p6 p7 p8 p9 p10 p11 p12;first | omega | simp_all)]<;>rfl,ok.chg⟩⟩
   refine .z (.fa T.fd148_4)<|.z (.ldx T.ag3 ok.m0)<|.z .gtr<|.z .pkf<|.z .mvB<|.sd (fun G80=>?_) (fun G80=>?_)
   ·
    refine .y<|.y<|.y<|.z .pkt<|.z .mvB<|.y<|.y<|.y<|.z .pkt<|.nil ?_;refine .ct<|.seq<|.r<|.z .asI<|.nil ?_;refine .ret ⟨.int .i64 1,Res.one rfl rfl,⟨by rw [chk_n (by rintro ⟨p1,⟨p2,p3,p4⟩,⟨p5,p6,p7,p8⟩,⟨p9,p10⟩,p11,p12⟩;simp only at p1 p2 p3 p4 p5 p6 p7 p8 p9 p10 p11 p12;first | omega | simp_all)]<;>rfl,ok.chg⟩⟩
   refine .z (.fa T.fd148_5)<|.z (.ldx T.ag3 ok.m0)<|.z .lss<|.z .pkf<|.z .mvB<|.sd (fun G85=>?_) (fun G85=>?_)
   ·
    refine .y<|.y<|.y<|.z .pkt<|.nil ?_;refine .ct<|.seq<|.r<|.z .asI<|.nil ?_;refine .ret ⟨.int .i64 1,Res.one rfl rfl,⟨by rw [chk_n (by rintro ⟨p1,⟨p2,p3,p4⟩,⟨p5,p6,p7,p8⟩,⟨p9,p10⟩,p11,p12⟩;simp only at p1 p2 p3 p4 p5 p6 p7 p8 p9 p10 p11 p12;first | omega | simp_all)]<;>rfl,ok.chg⟩⟩
   refine .z (.fa T.fd148_5)<|.z (.ldx T.ag3 ok.m0)<|.z .gtr<|.z .pkf<|.nil ?_;refine .cd (fun C3=>?_) (fun C3=>?_)
   ·
    refine .seq<|.r<|.z .asI<|.nil ?_;refine .ret ⟨.int .i64 1,Res.one rfl rfl,⟨by rw [chk_n (by rintro ⟨p1,⟨p2,p3,p4⟩,⟨p5,p6,p7,p8⟩,⟨p9,p10⟩,p11,p12⟩;simp only at p1 p2 p3 p4 p5 p6 p7 p8 p9 p10 p11 p12;first | omega | simp_all)]<;>rfl,ok.chg⟩⟩
   refine .skip<|.seq<|.r<|.z .asI<|.nil ?_;refine .ret ⟨.int .i64 0,Res.one rfl rfl,⟨by rw [chk_y ⟨decide_eq_true (by simp only;omega),⟨by simp only;omega,by simp only;omega,by rw [hkz0] at hml;exact hml⟩,⟨by simp only;omega,by simp only;omega,by simp only;omega,by simp only;omega⟩,⟨by simp only;omega,by simp only;omega⟩,by simp only;omega,by simp only;omega⟩]<;>rfl,ok.chg⟩⟩
  refine .y<|.y<|.y<|.z .pkf<|.z .pkf<|.z .mvB<|.z (.fa T.fd148_3)<|.z (.ldx T.ag3 ok.m0)<|.z .gtr<|.z .mvB<|.sd (fun G59=>?_) (fun G59=>?_)
  ·
   refine .z (.fa T.fd148_2)<|.z (.ldx T.ag3 ok.m0)<|.z .lss<|.z .mvB<|.sd (fun G63=>?_) (fun G63=>?_)
   ·
    refine .y<|.y<|.y<|.y<|.y<|.z .pkt<|.z .pkt<|.z .pkf<|.nil ?_;refine .ct<|.seq<|.r<|.z .asI<|.nil ?_;refine .ret ⟨.int .i64 1,Res.one rfl rfl,⟨by rw [chk_n (by rintro ⟨p1,⟨p2,p3,p4⟩,⟨p5,p6,p7,p8⟩,⟨p9,p10⟩,p11,p12⟩;simp only at p1 p2 p3 p4 p5 p6 p7 p8 p9 p10 p11 p12;first | omega | simp_all)]<;>rfl,ok.chg⟩⟩
   refine .z (.fa T.fd148_2)<|.z (.ldx T.ag3 ok.m0)<|.z (.fa T.fd148_1)<|.z (.ldx T.ag3 ok.m0)<|.z .gtr<|.z .pkf<|.z .pkt<|.z .pkf<|.nil ?_;refine .cd (fun C2=>?_) (fun C2=>?_)
   ·
    refine .seq<|.r<|.z .asI<|.nil ?_;refine .ret ⟨.int .i64 1,Res.one rfl rfl,⟨by rw [chk_n (by rintro ⟨p1,⟨p2,p3,p4⟩,⟨p5,p6,p7,p8⟩,⟨p9,p10⟩,p11,p12⟩;simp only at p1 p2 p3 p4 p5 p6 p7 p8 p9 p10 p11 p12;first | omega | simp_all)]<;>rfl,ok.chg⟩⟩
   refine .skip<|.seq<|.seq<|.r<|.z (.fa T.fd148_4)<|.z (.ldx T.ag3 ok.m0)<|.z .lss<|.z .mvB<|.sd (fun G75=>?_) (fun G75=>?_)
   ·
    refine .y<|.y<|.y<|.z .pkt<|.z .mvB<|.y<|.y<|.y<|.z .pkt<|.z .mvB<|.y<|.y<|.y<|.z .pkt<|.nil ?_;refine .ct<|.seq<|.r<|.z .asI<|.nil ?_;refine .ret ⟨.int .i64 1,Res.one rfl rfl,⟨by rw [chk_n (by rintro ⟨p1,⟨p2,p3,p4⟩,⟨p5,p6,p7,p8⟩,⟨p9,p10⟩,p11,p12⟩;simp only at p1 p2 p3 p4 p5 p6 p7 p8 p9 p10 p11 p12;first | omega | simp_all)]<;>rfl,ok.chg⟩⟩
   refine .z (.fa T.fd148_4)<|.z (.ldx T.ag3 ok.m0)<|.z .gtr<|.z .pkf<|.z .mvB<|.sd (fun G80=>?_) (fun G80=>?_)
   ·
    refine .y<|.y<|.y<|.z .pkt<|.z .mvB<|.y<|.y<|.y<|.z .pkt<|.nil ?_;refine .ct<|.seq<|.r<|.z .asI<|.nil ?_;refine .ret ⟨.int .i64 1,Res.one rfl rfl,⟨by rw [chk_n (by rintro ⟨p1,⟨p2,p3,p4⟩,⟨p5,p6,p7,p8⟩,⟨p9,p10⟩,p11,p12⟩;simp only at p1 p2 p3 p4 p5 p6 p7 p8 p9 p10 p11 p12;first | omega | simp_all)]<;>rfl,ok.chg⟩⟩
   refine .z (.fa T.fd148_5)<|.z (.ldx T.ag3 ok.m0)<|.z .lss<|.z .pkf<|.z .mvB<|.sd (fun G85=>?_) (fun G85=>?_)
   ·
    refine .y<|.y<|.y<|.z .pkt<|.nil ?_;refine .ct<|.seq<|.r<|.z .asI<|.nil ?_;refine .ret ⟨.int .i64 1,Res.one rfl rfl,⟨by rw [chk_n (by rintro ⟨p1,⟨p2,p3,p4⟩,⟨p5,p6,p7,p8⟩,⟨p9,p10⟩,p11,p12⟩;simp only at p1 p2 p3 p4 p5 p6 p7 p8 p9 p10 p11 p12;first | omega | simp_all)]<;>rfl,ok.chg⟩⟩
   refine .z (.fa T.fd148_5)<|.z (.ldx T.ag3 ok.m0)<|.z .gtr<|.z .pkf<|.nil ?_;refine .cd (fun C3=>?_) (fun C3=>?_)
   ·
    refine .seq<|.r<|.z .asI<|.nil ?_;refine .ret ⟨.int .i64 1,Res.one rfl rfl,⟨by rw [chk_n (by rintro ⟨p1,⟨p2,p3,p4⟩,⟨p5,p6,p7,p8⟩,⟨p9,p10⟩,p11,p12⟩;simp only at p1 p2 p3 p4 p5 p6 p7 p8 p9 p10 p11 p12;first | omega | simp_all)]<;>rfl,ok.chg⟩⟩
   refine .skip<|.seq<|.r<|.z .asI<|.nil ?_;refine .ret ⟨.int .i64 0,Res.one rfl rfl,⟨by rw [chk_y ⟨decide_eq_true (by simp only;omega),⟨by simp only;omega,by simp only;omega,by rw [hkz0] at hml;exact hml⟩,⟨by simp only;omega,by simp only;omega,by simp only;omega,by simp only;omega⟩,⟨by simp only;omega,by simp only;omega⟩,by simp only;omega,by simp only;omega⟩]<;>rfl,ok.chg⟩⟩
  refine .y<|.y<|.y<|.y<|.y<|.y<|.y<|.y<|.y<|.y<|.z .pkf<|.z .pkf<|.nil ?_;refine .cf<|.skip<|.seq<|.seq<|.r<|.z (.fa T.fd148_4)<|.z (.ldx T.ag3 ok.m0)<|.z .lss<|.z .mvB<|.sd (fun G75=>?_) (fun G75=>?_)
  ·
   refine .y<|.y<|.y<|.z .pkt<|.z .mvB<|.y<|.y<|.y<|.z .pkt<|.z .mvB<|.y<|.y<|.y<|.z .pkt<|.nil ?_;refine .ct<|.seq<|.r<|.z .asI<|.nil ?_;refine .ret ⟨.int .i64 1,Res.one rfl rfl,⟨by rw [chk_n (by rintro ⟨p1,⟨p2,p3,p4⟩,⟨p5,p6,p7,p8⟩,⟨p9,p10⟩,p11,p12⟩;simp only at p1 p2 p3 p4 p5 p6 p7 p8 p9 p10 p11 p12;first | omega | simp_all)]<;>rfl,ok.chg⟩⟩
  refine .z (.fa T.fd148_4)<|.z (.ldx T.ag3 ok.m0)<|.z .gtr<|.z .pkf<|.z .mvB<|.sd (fun G80=>?_) (fun G80=>?_)
  ·
   refine .y<|.y<|.y<|.z .pkt<|.z .mvB<|.y<|.y<|.y<|.z .pkt<|.nil ?_;refine .ct<|.seq<|.r<|.z .asI<|.nil ?_;refine .ret ⟨.int .i64 1,Res.one rfl rfl,⟨by rw [chk_n (by rintro ⟨p1,⟨p2,p3,p4⟩,⟨p5,p6,p7,p8⟩,⟨p9,p10⟩,p11,p12⟩;simp only at p1 p2 p3 p4 p5 p6 p7 p8 p9 p10 p11 p12;first | omega | simp_all)]<;>rfl,ok.chg⟩⟩
  refine .z (.fa T.fd148_5)<|.z (.ldx T.ag3 ok.m0)<|.z .lss<|.z .pkf<|.z .mvB<|.sd (fun G85=>?_) (fun G85=>?_)
  ·
   refine .y<|.y<|.y<|.z .pkt<|.nil ?_;refine .ct<|.seq<|.r<|.z .asI<|.nil ?_;refine .ret ⟨.int .i64 1,Res.one rfl rfl,⟨by rw [chk_n (by rintro ⟨p1,⟨p2,p3,p4⟩,⟨p5,p6,p7,p8⟩,⟨p9,p10⟩,p11,p12⟩;simp only at p1 p2 p3 p4 p5 p6 p7 p8 p9 p10 p11 p12;first | omega | simp_all)]<;>rfl,ok.chg⟩⟩
  refine .z (.fa T.fd148_5)<|.z (.ldx T.ag3 ok.m0)<|.z .gtr<|.z .pkf<|.nil ?_;refine .cd (fun C3=>?_) (fun C3=>?_)
  ·
   refine .seq<|.r<|.z .asI<|.nil ?_;refine .ret ⟨.int .i64 1,Res.one rfl rfl,⟨by rw [chk_n (by rintro ⟨p1,⟨p2,p3,p4⟩,⟨p5,p6,p7,p8⟩,⟨p9,p10⟩,p11,p12⟩;simp only at p1 p2 p3 p4 p5 p6 p7 p8 p9 p10 p11 p12;first | omega | simp_all)]<;>rfl,ok.chg⟩⟩
  refine .skip<|.seq<|.r<|.z .asI<|.nil ?_;refine .ret ⟨.int .i64 0,Res.one rfl rfl,⟨by rw [chk_y ⟨decide_eq_true (by simp only;omega),⟨by simp only;omega,by simp only;omega,by rw [hkz0] at hml;exact hml⟩,⟨by simp only;omega,by simp only;omega,by simp only;omega,by simp only;omega⟩,⟨by simp only;omega,by simp only;omega⟩,by simp only;omega,by simp only;omega⟩]<;>rfl,ok.chg⟩⟩
 have hlt:=of_decide_eq_true (hbb.symm.trans C0);refine .skip<|.block fun K1 hK1=>.r<|.z .mvI<|.z (.mulI (a:=2))<|.z .asI<|.nil ?_;refine .end<|hK1 _ _<|.end<|hJ0 _ _ _ ⟨2*k,⟨rfl,rfl,trivial⟩,ok,dbl_step (z:=z0) hkc (by omega),.inr (by omega),rfl⟩ (by omega)
theorem rencode_any {h:Heap} {n0 n1 n2 n3 n4 n5:Nat} (h0:n0<4294967296) (h1:n1<4294967296) (h2:n2<4294967296) (h3:n3<4294967296) (h4:n4<4294967296) (h5:n5<4294967296):HC Tryz.prog 176 #[.agg #[.int .i64 (n0:Int),.int .i64 (n1:Int),.int .i64 (n2:Int),.int .i64 (n3:Int),.int .i64 (n4:Int),.int .i64 (n5:Int)]] h (fun v h'=>(¬ChkP ⟨((n0:Nat):Int),((n1:Nat):Int),((n2:Nat):Int),((n3:Nat):Int),((n4:Nat):Int),((n5:Nat):Int)⟩∧v=.tuple #[.slice none 0 0,.int .i64 1]∧Ext h h')∨(ChkP ⟨((n0:Nat):Int),((n1:Nat):Int),((n2:Nat):Int),((n3:Nat):Int),((n4:Nat):Int),((n5:Nat):Int)⟩∧∃w,v=.tuple #[w,.int .i64 0]∧Own h h' 1 5 w ((hdB [n0,n1,n2,n3,n4,n5]).map bv))):=by
 have ok:=Hp.nil h none_;refine HC.go Tryz.func176 53 ?_;refine .seq<|.r<|.a' 1 (.bxA (cs:=[.int .i64 (n0:Int),.int .i64 (n1:Int),.int .i64 (n2:Int),.int .i64 (n3:Int),.int .i64 (n4:Int),.int .i64 (n5:Int)]) ok) ?_;rintro _ η1 ⟨pb1,rfl,ok,xe⟩;refine .z .asS<|.z .asI<|.nil ?_;refine .seq<|.seq<|.r<|.z (.ldb T.ag148 ok.m0 T.sz148)<|.c' 8 .func (rcheck_any (z0:=(n0:Int)) (z1:=(n1:Int)) (z2:=(n2:Int)) (z3:=(n3:Int)) (z4:=(n4:Int)) (z5:=(n5:Int)) (by omega) (by omega) (by omega) (by omega) (by omega) (by omega)) ?_;rintro _ η2 ⟨rfl,hx⟩;have ok:=ok.ext hx;refine .z .neq<|.nil ?_;refine .cd (fun C0=>?_) (fun C0=>?_)
 ·
  refine .seq<|.r<|.z .asS<|.z .asI<|.nil ?_;refine .ret ⟨.tuple #[.slice none 0 0,.int .i64 1],Res.two rfl rfl rfl,.inl ⟨fun p=>C0 (by rw [chk_y p];rfl),rfl,ok.chg⟩⟩
 refine .skip<|.seq<|.r<|.a' 10 (.lit [.const (.int .u8 116),.const (.int .u8 111),.const (.int .u8 109),.const (.int .u8 101),.const (.int .u8 32),.const (.int .u8 102),.const (.int .u8 105),.const (.int .u8 108),.const (.int .u8 101),.const (.int .u8 32),.const (.int .u8 49)] (cs:=[.int .u8 116,.int .u8 111,.int .u8 109,.int .u8 101,.int .u8 32,.int .u8 102,.int .u8 105,.int .u8 108,.int .u8 101,.int .u8 32,.int .u8 49]) T.el22 T.sz5 T.zr5 ok ⟨rfl,rfl,rfl,rfl,rfl,rfl,rfl,rfl,rfl,rfl,rfl,trivial⟩) ?_;rintro _ η3 ⟨pb2,rfl,ok,xe⟩;have ok:=ok.cx (ys:=([116,111,109,101,32,102,105,108,101,32,49]:List UInt8).map bv) rfl;refine .a' 11 (.cvL T.el22 T.in5 ok) ?_;rintro _ η4 ⟨rfl,ok,cg⟩;refine .a' 12 (.lit [.const (.int .u8 0),.const (.int .u8 0),.const (.int .u8 0),.const (.int .u8 0),.const (.int .u8 0)] (cs:=[.int .u8 0,.int .u8 0,.int .u8 0,.int .u8 0,.int .u8 0]) T.el22 T.sz5 T.zr5 ok ⟨rfl,rfl,rfl,rfl,rfl,trivial⟩) ?_;rintro _ η5 ⟨pb3,rfl,ok,xe⟩;have ok:=ok.cx (ys:=([0,0,0,0,0]:List UInt8).map bv) rfl;refine .a' 13 (.app (news:=([0,0,0,0,0]:List UInt8).map bv) T.el22 T.sz5 T.by5 T.zr5 ok.n1 (ok.n1.m1).sl bv_all (by simp only [List.length_map,List.length_append,List.length_take,List.length_cons,List.length_nil,List.length_replicate,List.length_range,fixedN_len,sealN_len];omega)) ?_;rintro _ η6 ⟨ya1,yn1,yc1,rfl,ok,ap⟩;have ok:=ok.cx (ys:=([116,111,109,101,32,102,105,108,101,32,49]++([0,0,0,0,0]:List UInt8)).map bv) (by simp [bv]);obtain rfl:yn1=([116,111,109,101,32,102,105,108,101,32,49]++([0,0,0,0,0]:List UInt8)).length:=ok.lenB;refine .z .asS<|.nil ?_;refine .seq<|.r<|.z (.fa T.fd148_0)<|.z (.ldx T.ag3 ok.m2)<|.z (.fa T.fd148_1)<|.z (.ldx T.ag3 ok.m2)<|.z (.fa T.fd148_2)<|.z (.ldx T.ag3 ok.m2)<|.z (.fa T.fd148_3)<|.z (.ldx T.ag3 ok.m2)<|.z (.fa T.fd148_4)<|.z (.ldx T.ag3 ok.m2)<|.z (.fa T.fd148_5)<|.z (.ldx T.ag3 ok.m2)<|.a' 26 (.lit [.tmp 15,.tmp 17,.tmp 19,.tmp 21,.tmp 23,.tmp 25] (cs:=[.int .i64 (n0:Int),.int .i64 (n1:Int),.int .i64 (n2:Int),.int .i64 (n3:Int),.int .i64 (n4:Int),.int .i64 (n5:Int)]) T.el167 T.sz3 T.zr3 ok ⟨rfl,rfl,rfl,rfl,rfl,rfl,trivial⟩) ?_;rintro _ η7 ⟨pb4,rfl,ok,xe⟩;obtain ⟨N,hN⟩:∃N:List Nat,N=[n0,n1,n2,n3,n4,n5]:=⟨_,rfl⟩;have hNl:N.length=6:=by rw [hN];rfl
 have hNb:∀j (hj:j<N.length),N[j]<4294967296:=by subst hN;intro j hj;match j,hj with | 0,_=>exact h0 | 1,_=>exact h1 | 2,_=>exact h2 | 3,_=>exact h3 | 4,_=>exact h4 | 5,_=>exact h5
 have hML:(N.map Int.ofNat).length=6:=by rw [List.length_map,hNl]
 have ok:=(ok.cx (ys:=(N.map Int.ofNat).map iv) (by rw [hN];rfl)).frzI rfl;refine .z .asS<|.nil ?_;refine .seq<|.seq<|.r<|.z .asI<|.nil ?_;refine .block fun K0 hK0=>.loop (fun m s hh=>∃(i:Nat) (bs:List UInt8) (a4:Option Addr) (c4:Nat),Has s [(4,.slice a4 bs.length c4),(5,.slice (some ⟨pb4,0,none⟩) 6 6),(6,.int .i64 (i:Int))]∧Hp h none_ [capI 1 5 (a4,bs.length,c4) (bs.map bv)] [rdI (blkC (sv (some ⟨pb4,0,none⟩,6,6))) none_ (some ⟨pb4,0,none⟩,6,6) (N.map Int.ofNat)] hh∧i≤6∧bs=signL++hdF (N.take i)∧bs.length=16+4*i∧m=6-i) ?_ ?_
 ·exact ⟨_,0,([116,111,109,101,32,102,105,108,101,32,49]++([0,0,0,0,0]:List UInt8)),ya1,yc1,⟨rfl,rfl,rfl,trivial⟩,(ok).k1,Nat.zero_le _,rfl,rfl,rfl⟩
 rintro _ _ η8 ⟨i,bs,a4,c4,hs,ok,hi,hbs,hbl,rfl⟩ J0 hJ0;refine .frame hs fun τ=>?_;refine .seq<|.seq<|.r<|.z .mvI<|.z .mvS<|.z (.len T.el167)<|.z .lss<|.nil ?_;refine .cdr (fun C1=>?_) (fun C1=>?_)
 ·
  obtain rfl:i=6:=by omega
  rw [show N.take 6=N from by rw [←hNl,List.take_length]] at hbs;refine .exit<|hK0 _ _<|.seq<|.block fun K2 hK2=>.loop (fun m s hh=>∃(k:Nat) (cs:List UInt8) (a6:Option Addr) (c6:Nat),Has s [(4,.slice a6 cs.length c6)]∧Hp h none_ [capI 1 5 (a6,cs.length,c6) (cs.map bv)] [] hh∧k≤20∧cs=signL++hdF N++List.replicate k 0∧cs.length=40+k∧m=20-k) ?_ ?_
  ·exact ⟨_,0,bs,a4,c4,⟨rfl,trivial⟩,(ok).k1.tR,Nat.zero_le _,by rw [hbs];simp,by omega,rfl⟩
  rintro _ _ η9 ⟨k,cs,a6,c6,hs,ok,hk,hcs,hcl,rfl⟩ J1 hJ1;refine .frame hs fun τ=>?_;refine .seq<|.seq<|.r<|.z .mvS<|.z (.len T.el22)<|.z .lss<|.nil ?_;refine .cdr (fun C2=>?_) (fun C2=>?_)
  ·
   obtain rfl:k=20:=by omega
   refine .exit<|hK2 _ _<|.seq<|.r<|.z .mvS<|.z .mvS<|.k 49 .func (rsum_any (a:=a6) (c:=c6) (l:=cs) (RdL.ofCapB (v:=(a6,cs.length,c6)) (l:=cs) ok.m0))<|.z (.cvs T.in77 T.in243 (M:=18446744073709551616) rfl rfl (a:=(sumN cs)) (ha:=by exact Nat.lt_of_lt_of_le (sumN_lt _) (by decide)))<|.c' 51 .func (rfixed_any (n:=(sumN cs)) (size:=4) (by first | omega | exact Nat.lt_of_lt_of_le (sumN_lt _) (by decide)) (by omega) (by omega)) ?_;rintro _ η10 own;obtain ⟨ya2,yc2,rfl⟩:=own.formB;have ok:=ok.own own;refine .a' 52 (.app (news:=(fixedN (sumN cs) 4).map bv) T.el22 T.sz5 T.by5 T.zr5 ok.n1 (ok.n1.m1).sl bv_all (by simp only [List.length_map,List.length_append,List.length_take,List.length_cons,List.length_nil,List.length_replicate,List.length_range,fixedN_len,sealN_len];omega)) ?_;rintro _ η11 ⟨ya3,yn3,yc3,rfl,ok,ap⟩;have ok:=ok.cx (ys:=(cs++(fixedN (sumN cs) 4)).map bv) (by simp [bv]);obtain rfl:yn3=(cs++(fixedN (sumN cs) 4)).length:=ok.lenB;refine .z .asS<|.z .asI<|.nil ?_;refine .ret ⟨.tuple #[.slice ya3 ((cs++(fixedN (sumN cs) 4)).length) yc3,.int .i64 0],Res.two rfl rfl rfl,.inr ⟨chk_o C0,_,rfl,by rw [show hdB [n0,n1,n2,n3,n4,n5]=cs++(fixedN (sumN cs) 4) from by rw [←hN];unfold hdB hdT;rw [←hcs]];exact (ok).toOwn⟩⟩
  refine .skip<|.block fun K3 hK3=>.r<|.z .mvS<|.a' 45 (.lit [.const (.int .u8 0)] (cs:=[.int .u8 0]) T.el22 T.sz5 T.zr5 ok ⟨rfl,trivial⟩) ?_;rintro _ η12 ⟨pb5,rfl,ok,xe⟩;have ok:=ok.cx (ys:=([0]:List UInt8).map bv) rfl;refine .a' 46 (.app (news:=([0]:List UInt8).map bv) T.el22 T.sz5 T.by5 T.zr5 ok.n1 (ok.n1.m1).sl bv_all (by simp only [List.length_map,List.length_append,List.length_take,List.length_cons,List.length_nil,List.length_replicate,List.length_range,fixedN_len,sealN_len];omega)) ?_;rintro _ η13 ⟨ya4,yn4,yc4,rfl,ok,ap⟩;have ok:=ok.cx (ys:=(cs++([0]:List UInt8)).map bv) (by simp [bv]);obtain rfl:yn4=(cs++([0]:List UInt8)).length:=ok.lenB;refine .z .asS<|.nil ?_;refine .end<|hK3 _ _<|.end<|hJ1 _ _ _ ⟨k+1,cs++[0],ya4,yc4,⟨rfl,trivial⟩,(ok).k1,by omega,by rw [hcs,List.append_assoc,←List.replicate_succ'],by rw [List.length_append,hcl];rfl,rfl⟩ (by omega)
 have hi6:i<6:=by omega
 refine .skip<|.seq<|.block fun K1 hK1=>.r<|.z .mvS<|.z .mvS<|.z .mvI<|.z (.ix1 i T.el167 T.sz3)<|.z (.ld T.ag3 (ok.r0.i64 (i:=i) (by omega)))<|?_;have hiN:i<N.length:=by omega
 have hNi:=hNb i hiN;rw [show (N.map Int.ofNat)[i]=((N[i]:Nat):Int) from List.getElem_map _];refine .z (.cvs T.in77 T.in3 (M:=18446744073709551616) rfl rfl)<|.c' 39 .func (rfixed_any (n:=N[i]) (size:=4) (by first | omega | exact Nat.lt_of_lt_of_le (sumN_lt _) (by decide)) (by omega) (by omega)) ?_;rintro _ η14 own;obtain ⟨ya5,yc5,rfl⟩:=own.formB;have ok:=ok.own own;refine .a' 40 (.app (news:=(fixedN (N[i]) 4).map bv) T.el22 T.sz5 T.by5 T.zr5 ok.n1 (ok.n1.m1).sl bv_all (by simp only [List.length_map,List.length_append,List.length_take,List.length_cons,List.length_nil,List.length_replicate,List.length_range,fixedN_len,sealN_len];omega)) ?_;rintro _ η15 ⟨ya6,yn6,yc6,rfl,ok,ap⟩;have ok:=ok.cx (ys:=(bs++(fixedN (N[i]) 4)).map bv) (by simp [bv]);obtain rfl:yn6=(bs++(fixedN (N[i]) 4)).length:=ok.lenB;refine .z .asS<|.nil ?_;refine .end<|hK1 _ _<|.r<|.z .mvI<|.z (.addI (b:=1))<|.z .asI<|.nil ?_;refine .end<|hJ0 _ _ _ ⟨i+1,bs++fixedN N[i] 4,ya6,yc6,⟨rfl,rfl,rfl,trivial⟩,(ok).k1,by omega,by rw [hdF_take hiN,hbs,List.append_assoc],by rw [List.length_append,fixedN_len,hbl];omega,rfl⟩ (by omega)
theorem rfour8_any {h:Heap} {F E:Nat→Prop} {a:Option Addr} {c p:Nat} {l:List UInt8} (hl:RdL h F E (a,l.length,c) l) (hp:p+4≤l.length) :
  HC Tryz.prog 175 #[.slice a l.length c,.int .i64 (p:Int)] h (fun v h'=>v=.int .i64 ((rdN l p 4:Nat):Int)∧h'=h):=by
 have hc2:=hl.m;have hc1:l.length≤c:=hl.c;simp only at hc2;have hrd:=rdN_lt4 l p;refine HC.go Tryz.func175 15 ?_;refine .seq<|.r<|.z .asI<|.nil ?_;refine .seq<|.r<|.z .mvS<|.z .mvI<|.k 10 .func (rread_any (p:=p) (size:=4) (a:=a) (c:=c) (l:=l) hl (by omega) (by omega) (by omega))<|.z .mvU<|.z .ex<|.z .ex<|.z .asI<|.z .asI<|.nil ?_;refine .seq<|.r<|.z .mvI<|.z (.cvi T.in3 T.in77)<|.z .asI<|.nil ?_;refine .ret ⟨.int .i64 (((rdN l p 4):Nat):Int),Res.one rfl rfl,⟨rfl,rfl⟩⟩
theorem rdec_any {h:Heap} {F E:Nat→Prop} {a:Option Addr} {c:Nat} {l:List UInt8} (hl:RdL h F E (a,l.length,c) l) :
  HC Tryz.prog 128 #[.slice a l.length c] h (fun v h'=>v=.tuple #[(decN l).1.val,.int .i64 ((decN l).2:Int)]∧Ext h h'):=by
 have hc2:=hl.m;have hc1:l.length≤c:=hl.c;simp only at hc2;have ok:=(Hp.nil h none_).arg hl;have hf0:rdN l 16 4<4294967296:=rdN_lt4 _ _;have hf1:rdN l 20 4<4294967296:=rdN_lt4 _ _;have hf2:rdN l 24 4<4294967296:=rdN_lt4 _ _;have hf3:rdN l 28 4<4294967296:=rdN_lt4 _ _;have hf4:rdN l 32 4<4294967296:=rdN_lt4 _ _;have hf5:rdN l 36 4<4294967296:=rdN_lt4 _ _;refine HC.go Tryz.func128 45 ?_;refine .seq<|.r<|.a' 2 (.alA T.zr148 ok) ?_;rintro _ η1 ⟨pb1,rfl,ok,xe⟩;refine .z .asI<|.nil ?_;refine .seq<|.seq<|.r<|.z .mvS<|.z (.len T.el22)<|.z .lss<|.nil ?_;refine .cd (fun C0=>?_) (fun C0=>?_)
 ·
  refine .seq<|.r<|.z (.bd #[.int .i64 0,.int .i64 0,.int .i64 0,.int .i64 0,.int .i64 0,.int .i64 0] T.zr148 T.pl148 (by kernel_rfl))<|.ur' (.stW (vs:=[.int .i64 0,.int .i64 0,.int .i64 0,.int .i64 0,.int .i64 0,.int .i64 0]) T.sz148 ok (oneL rfl)) ?_;rintro η2 ⟨ok,cg⟩;refine .z .asI<|.nil ?_;refine .ret ⟨.tuple #[.agg #[.int .i64 0,.int .i64 0,.int .i64 0,.int .i64 0,.int .i64 0,.int .i64 0],.int .i64 6],Res.many (vs:=[.agg #[.int .i64 0,.int .i64 0,.int .i64 0,.int .i64 0,.int .i64 0,.int .i64 0],.int .i64 6]) rfl ⟨⟨_,rfl,load_ag T.ag148 ok.m0 T.sz148⟩,rfl,trivial⟩ rfl,⟨by rw [dec6 (by omega)];rfl,ok.chg⟩⟩
 refine .skip<|.seq<|.seq<|.r<|.z .mvS<|.z (.sl_h ((l.take 16).length) T.el22 T.sz5 (hb:=by (simp;omega)))<|?_;have ok:=ok.d0 (rdI (fun j=>F j∧j<h.size) (fun j=>E j∧j<h.size) (a,(l.take 16).length,c) (l.take 16)) ((ok.r0).pre (l2:=l.take 16) (List.take_prefix _ _)) (fun _ h=>h);refine .z (.bts T.el22 T.in5 T.st9 (ok.r0).by)<|.z .tNeB<|.nil ?_;refine .cd (fun C1=>?_) (fun C1=>?_)
 ·
  refine .seq<|.r<|.z (.bd #[.int .i64 0,.int .i64 0,.int .i64 0,.int .i64 0,.int .i64 0,.int .i64 0] T.zr148 T.pl148 (by kernel_rfl))<|.ur' (.stW (vs:=[.int .i64 0,.int .i64 0,.int .i64 0,.int .i64 0,.int .i64 0,.int .i64 0]) T.sz148 ok (oneL rfl)) ?_;rintro η3 ⟨ok,cg⟩;refine .z .asI<|.nil ?_;refine .ret ⟨.tuple #[.agg #[.int .i64 0,.int .i64 0,.int .i64 0,.int .i64 0,.int .i64 0,.int .i64 0],.int .i64 8],Res.many (vs:=[.agg #[.int .i64 0,.int .i64 0,.int .i64 0,.int .i64 0,.int .i64 0,.int .i64 0],.int .i64 8]) rfl ⟨⟨_,rfl,load_ag T.ag148 ok.m0 T.sz148⟩,rfl,trivial⟩ rfl,⟨by rw [dec8 (by omega) C1];rfl,ok.chg⟩⟩
 refine .skip<|.seq<|.r<|.z .mvS<|.k 17 .func (rfour8_any (p:=16) (a:=a) (c:=c) (l:=l) ok.r1 (by omega))<|.z .mvS<|.k 19 .func (rfour8_any (p:=20) (a:=a) (c:=c) (l:=l) ok.r1 (by omega))<|.z .mvS<|.k 21 .func (rfour8_any (p:=24) (a:=a) (c:=c) (l:=l) ok.r1 (by omega))<|.z .mvS<|.k 23 .func (rfour8_any (p:=28) (a:=a) (c:=c) (l:=l) ok.r1 (by omega))<|.z .mvS<|.k 25 .func (rfour8_any (p:=32) (a:=a) (c:=c) (l:=l) ok.r1 (by omega))<|.z .mvS<|.k 27 .func (rfour8_any (p:=36) (a:=a) (c:=c) (l:=l) ok.r1 (by omega))<|.z (.bd #[.int .i64 ((rdN l 16 4:Nat):Int),.int .i64 ((rdN l 20 4:Nat):Int),.int .i64 ((rdN l 24 4:Nat):Int),.int .i64 ((rdN l 28 4:Nat):Int),.int .i64 ((rdN l 32 4:Nat):Int),.int .i64 ((rdN l 36 4:Nat):Int)] T.zr148 T.pl148 (by kernel_rfl))<|.a' 4 (.alA T.zr148 ok) ?_;rintro _ η4 ⟨pb2,rfl,ok,xe⟩;refine .ur' (.stW (vs:=[.int .i64 ((rdN l 16 4:Nat):Int),.int .i64 ((rdN l 20 4:Nat):Int),.int .i64 ((rdN l 24 4:Nat):Int),.int .i64 ((rdN l 28 4:Nat):Int),.int .i64 ((rdN l 32 4:Nat):Int),.int .i64 ((rdN l 36 4:Nat):Int)]) T.sz148 ok (oneL rfl)) ?_;rintro η5 ⟨ok,cg⟩;refine .nil ?_;refine .seq<|.r<|.z (.ldb T.ag148 ok.m0 T.sz148)<|.c' 31 .func (rencode_any (n0:=(rdN l 16 4)) (n1:=(rdN l 20 4)) (n2:=(rdN l 24 4)) (n3:=(rdN l 28 4)) (n4:=(rdN l 32 4)) (n5:=(rdN l 36 4)) hf0 hf1 hf2 hf3 hf4 hf5) ?_;rintro _ η6 (⟨hnc,rfl,hx⟩ | ⟨hyc,w,rfl,own⟩)
 ·
  have ok:=ok.ext hx;refine .z .mvU<|.z .ex<|.z .ex<|.z .asS<|.z .asI<|.nil ?_;refine .seq<|.seq<|?_;have ok:=ok.d1 (rdI (fun j=>F j∧j<h.size) (fun j=>E j∧j<h.size) (a,(l.take 64).length,c) (l.take 64)) ((ok.r1).pre (l2:=l.take 64) (List.take_prefix _ _)) (fun _ h=>h);refine .r<|.z .mvI<|.z .neq<|.z .mvB<|.y<|.y<|.y<|.y<|.y<|.z .pkt<|.nil ?_;refine .ct<|.seq<|.r<|.z (.bd #[.int .i64 0,.int .i64 0,.int .i64 0,.int .i64 0,.int .i64 0,.int .i64 0] T.zr148 T.pl148 (by kernel_rfl))<|.ur' (.stW (vs:=[.int .i64 0,.int .i64 0,.int .i64 0,.int .i64 0,.int .i64 0,.int .i64 0]) T.sz148 ok.n1 (oneL rfl)) ?_;rintro η7 ⟨ok,cg⟩;refine .z .asI<|.nil ?_;refine .ret ⟨.tuple #[.agg #[.int .i64 0,.int .i64 0,.int .i64 0,.int .i64 0,.int .i64 0,.int .i64 0],.int .i64 14],Res.many (vs:=[.agg #[.int .i64 0,.int .i64 0,.int .i64 0,.int .i64 0,.int .i64 0,.int .i64 0],.int .i64 14]) rfl ⟨⟨_,rfl,load_ag T.ag148 ok.m0 T.sz148⟩,rfl,trivial⟩ rfl,⟨by rw [dec14 (by omega) (by simpa using C1) (fun q=>by first | exact hnc q.1 | exact C2 q.2)];rfl,ok.chg⟩⟩
 obtain ⟨ya1,yc1,rfl⟩:=own.formB;have ok:=ok.own own;refine .z .mvU<|.z .ex<|.z .ex<|.z .asS<|.z .asI<|.nil ?_;refine .seq<|.seq<|?_;have ok:=ok.d1 (rdI (fun j=>F j∧j<h.size) (fun j=>E j∧j<h.size) (a,(l.take 64).length,c) (l.take 64)) ((ok.r1).pre (l2:=l.take 64) (List.take_prefix _ _)) (fun _ h=>h);refine .r<|.z .mvI<|.z .neq<|.z .mvB<|.z .mvS<|.z .mvS<|.z (.sl_h ((l.take 64).length) T.el22 T.sz5 (hb:=by (simp;omega)))<|.k 40 .func (same_any (a:=ya1) (c:=yc1) (l:=(hdB [(rdN l 16 4),(rdN l 20 4),(rdN l 24 4),(rdN l 28 4),(rdN l 32 4),(rdN l 36 4)])) (b:=a) (d:=c) (l2:=(l.take 64)) (RdL.ofCapB (v:=(ya1,(hdB [(rdN l 16 4),(rdN l 20 4),(rdN l 24 4),(rdN l 28 4),(rdN l 32 4),(rdN l 36 4)]).length,yc1)) (l:=(hdB [(rdN l 16 4),(rdN l 20 4),(rdN l 24 4),(rdN l 28 4),(rdN l 32 4),(rdN l 36 4)])) ok.m0) ok.r0)<|.z .notd<|.z .pkf<|.nil ?_;refine .cd (fun C2=>?_) (fun C2=>?_)
 ·
  refine .seq<|.r<|.z (.bd #[.int .i64 0,.int .i64 0,.int .i64 0,.int .i64 0,.int .i64 0,.int .i64 0] T.zr148 T.pl148 (by kernel_rfl))<|.ur' (.stW (vs:=[.int .i64 0,.int .i64 0,.int .i64 0,.int .i64 0,.int .i64 0,.int .i64 0]) T.sz148 ok.n2 (oneL rfl)) ?_;rintro η8 ⟨ok,cg⟩;refine .z .asI<|.nil ?_;refine .ret ⟨.tuple #[.agg #[.int .i64 0,.int .i64 0,.int .i64 0,.int .i64 0,.int .i64 0,.int .i64 0],.int .i64 14],Res.many (vs:=[.agg #[.int .i64 0,.int .i64 0,.int .i64 0,.int .i64 0,.int .i64 0,.int .i64 0],.int .i64 14]) rfl ⟨⟨_,rfl,load_ag T.ag148 ok.m0 T.sz148⟩,rfl,trivial⟩ rfl,⟨by rw [dec14 (by omega) (by simpa using C1) (fun q=>by first | exact hnc q.1 | exact C2 q.2)];rfl,ok.chg⟩⟩
 refine .skip<|.seq<|.r<|.z (.ldb T.ag148 ok.m1 T.sz148)<|.ur' (.stW (vs:=[.int .i64 ((rdN l 16 4:Nat):Int),.int .i64 ((rdN l 20 4:Nat):Int),.int .i64 ((rdN l 24 4:Nat):Int),.int .i64 ((rdN l 28 4:Nat):Int),.int .i64 ((rdN l 32 4:Nat):Int),.int .i64 ((rdN l 36 4:Nat):Int)]) T.sz148 ok.n2 (oneL rfl)) ?_;rintro η9 ⟨ok,cg⟩;refine .z .asI<|.nil ?_;refine .ret ⟨.tuple #[.agg #[.int .i64 ((rdN l 16 4:Nat):Int),.int .i64 ((rdN l 20 4:Nat):Int),.int .i64 ((rdN l 24 4:Nat):Int),.int .i64 ((rdN l 28 4:Nat):Int),.int .i64 ((rdN l 32 4:Nat):Int),.int .i64 ((rdN l 36 4:Nat):Int)],.int .i64 0],Res.many (vs:=[.agg #[.int .i64 ((rdN l 16 4:Nat):Int),.int .i64 ((rdN l 20 4:Nat):Int),.int .i64 ((rdN l 24 4:Nat):Int),.int .i64 ((rdN l 28 4:Nat):Int),.int .i64 ((rdN l 32 4:Nat):Int),.int .i64 ((rdN l 36 4:Nat):Int)],.int .i64 0]) rfl ⟨⟨_,rfl,load_ag T.ag148 ok.m0 T.sz148⟩,rfl,trivial⟩ rfl,⟨by rw [dec0 (by omega) (by simpa using C1) ⟨hyc,Classical.not_not.1 C2⟩];rfl,ok.chg⟩⟩
theorem hdB_len6 {a b c d e f:Nat} : (hdB [a,b,c,d,e,f]).length=64:=by
 unfold hdB hdT hdF;simp [fixedN_len]
def headP (z:Nat) (fb:UInt8):List UInt8:=hdB [z,1,0,0,fb.toNat,0]++List.replicate (z-64) fb
theorem chk_head {z c:Nat} (hz:okSz z=true) (hc:c<256):ChkP ⟨((z:Nat):Int),((1:Nat):Int),((0:Nat):Int),((0:Nat):Int),((c:Nat):Int),((0:Nat):Int)⟩:=by
 have:=okSz_cases hz;refine ⟨decide_eq_true (by simp only;omega),⟨by simp only;omega,by simp only;omega,by simp only;omega⟩,⟨by simp only;omega,by simp only;omega,fun _=>rfl,by simp only;omega⟩,⟨by simp only;omega,by simp only;omega⟩,by simp only;omega,by simp only;omega⟩
theorem headP_len {z:Nat} {fb:UInt8} (hz:okSz z=true):(headP z fb).length=z:=by
 have:=okSz_cases hz;unfold headP;rw [List.length_append,hdB_len6,List.length_replicate];omega
theorem hencode_any {h:Heap} {n0 n1 n2 n3 n4 n5:Nat} (h0:n0<4294967296) (h1:n1<4294967296) (h2:n2<4294967296) (h3:n3<4294967296) (h4:n4<4294967296) (h5:n5<4294967296) (hc:ChkP ⟨((n0:Nat):Int),((n1:Nat):Int),((n2:Nat):Int),((n3:Nat):Int),((n4:Nat):Int),((n5:Nat):Int)⟩):HC Tryz.prog 127 #[.agg #[.int .i64 (n0:Int),.int .i64 (n1:Int),.int .i64 (n2:Int),.int .i64 (n3:Int),.int .i64 (n4:Int),.int .i64 (n5:Int)]] h (fun v h'=>∃w,v=.tuple #[w,.int .i64 0]∧Own h h' 1 5 w ((hdB [n0,n1,n2,n3,n4,n5]).map bv)):=by
 have ok:=Hp.nil h none_;refine HC.go Tryz.func127 12 ?_;refine .seq<|.r<|.a' 1 (.bxA (cs:=[.int .i64 (n0:Int),.int .i64 (n1:Int),.int .i64 (n2:Int),.int .i64 (n3:Int),.int .i64 (n4:Int),.int .i64 (n5:Int)]) ok) ?_;rintro _ η1 ⟨pb1,rfl,ok,xe⟩;refine .z .asS<|.z .asI<|.nil ?_;refine .seq<|.seq<|.r<|.z (.ldb T.ag148 ok.m0 T.sz148)<|.c' 6 .func (check_any (z0:=(n0:Int)) (z1:=(n1:Int)) (z2:=(n2:Int)) (z3:=(n3:Int)) (z4:=(n4:Int)) (z5:=(n5:Int)) (by omega) (by omega) (by omega) (by omega) (by omega) (by omega)) ?_;rintro _ η2 ⟨rfl,hx⟩;have ok:=ok.ext hx;refine .z .asI<|.nil ?_;refine .seq<|.r<|.z .mvI<|.z .neq<|.nil ?_;refine .cd (fun C0=>?_) (fun C0=>?_)
 ·
  exact absurd (by rw [chk_y hc];rfl) C0
 refine .skip<|.seq<|.r<|.z (.ldb T.ag148 ok.m0 T.sz148)<|.c' 11 .func (hbytes_any (n0:=n0) (n1:=n1) (n2:=n2) (n3:=n3) (n4:=n4) (n5:=n5) (by omega) (by omega) (by omega) (by omega) (by omega) (by omega)) ?_;rintro _ η3 own;obtain ⟨ya1,yc1,rfl⟩:=own.formB;have ok:=ok.own own;refine .z .asS<|.z .asI<|.nil ?_;refine .ret ⟨.tuple #[.slice ya1 ((hdB [n0,n1,n2,n3,n4,n5]).length) yc1,.int .i64 0],Res.two rfl rfl rfl,⟨_,rfl,(ok).toOwn⟩⟩
abbrev SB:=Option Addr × Nat × List UInt8
structure RwB {α:Type} (k:Nat) (f:α→List Value) (g:α→SB) (h:Heap) (E:Nat→Prop) (x:SV) (l:List α):Prop where
 sl:Sl h k (sv x) (l.flatMap f)
 n:x.2.1=l.length
 bl:∀j,blk (sv x) j→E j
 by':∀y∈l,RdL h E E ((g y).1,(g y).2.2.length,(g y).2.1) (g y).2.2
section
variable {α:Type} {k:Nat} {f:α→List Value} {g:α→SB} {h h':Heap} {E E' G:Nat→Prop} {x:SV} {l:List α}
theorem RwB.st (c:Chg G h h') (d:∀j,E j→¬G j) (r:RwB k f g h E x l):RwB k f g h' E x l:=⟨Sl.chg c r.sl fun j hj=>d j (r.bl j hj),r.n,r.bl,fun y hy=>(r.by' y hy).st c d d⟩
@[reducible] def rwI (k:Nat) (f:α→List Value) (g:α→SB) (E:Nat→Prop) (x:SV) (l:List α):Itm:=⟨fun h=>RwB k f g h E x l,E,fun _ _ _ c d r=>r.st c d⟩
theorem RwB.pos {a:Option Addr} {n c:Nat} (r:RwB k f g h E (a,n,c) l) (hk:0<n):∃b o,a=some ⟨b,o,none⟩∧E b:=by
 obtain ⟨a',n',c',e,_,_,h3⟩:=r.sl;injection e with e1 e2 e3;subst e1 e2 e3;obtain ⟨b,o,e,_⟩:=h3.2 hk;subst e;exact ⟨b,o,rfl,r.bl b ⟨o,n,c,rfl,hk⟩⟩
theorem RwB.nil (h:Heap) (E:Nat→Prop) (c:Nat) (hc:c≤9223372036854775807):RwB k f g h E (none,0,c) ([]:List α):=⟨⟨none,0,c,rfl,Nat.zero_le _,hc,by simp,fun h=>absurd h (by omega)⟩,rfl,fun j ⟨o,n,c,e,hn⟩=>(by cases e),fun _ h=>(by cases h)⟩
theorem RwB.m {a:Option Addr} {n c:Nat} (r:RwB k f g h E (a,n,c) l):n≤c∧c≤9223372036854775807:=by
 obtain ⟨a',n',c',e,h1,h2,h3⟩:=r.sl;injection e with e1 e2 e3;subst e1 e2 e3;exact ⟨h1,h2⟩
theorem RwB.ofCap {e:TypeId} (hk:0<k) (hf:∀y,(f y).length=k) (c:Cap h k e (sv x) (l.flatMap f)) (hb:∀j,blkC (sv x) j→E j) (h2:∀y∈l,RdL h E E ((g y).1,(g y).2.2.length,(g y).2.1) (g y).2.2):RwB k f g h E x l:=by
 obtain ⟨a,n,c'⟩:=x;have hs:=c.sl;refine ⟨hs,?_,fun j ⟨o,n,c,e,_⟩=>hb j ⟨o,n,c,e⟩,h2⟩;have h1:=hs.cells.1;have h3:(l.flatMap f).length=l.length*k:=by
  clear hs h1 c h2;induction l with
  | nil=>simp
  | cons y l ih=>rw [List.flatMap_cons,List.length_append,hf,ih,List.length_cons,Nat.add_mul];omega
 rw [h3] at h1;exact (Nat.eq_of_mul_eq_mul_right hk h1).symm
end
theorem sl_at1 {α:Type} {f:α→List Value} (hf:∀y,(f y).length=1) {h:Heap} {b o n c:Nat} {l:List α} (r:Sl h 1 (.slice (some ⟨b,o,none⟩) n c) (l.flatMap f)) {i:Nat} (hi:i<l.length) {v:Value} (hv:(f l[i])[0]? = some v):cell h b (o+i)=some v:=by
 have:=sl_at hf r hi (j:=0) hv;simpa using this
def RB.cells (x:RB):List Value:=[.slice x.a x.l.length x.c]
def RB.sb (x:RB):SB:=(x.a,x.c,x.l)
theorem RB.cells_len (x:RB):x.cells.length=1:=rfl
abbrev PgB (h:Heap) (E:Nat→Prop) (x:SV) (l:List RB):Prop:=RwB 1 RB.cells RB.sb h E x l
@[reducible] def pgwI (E:Nat→Prop) (x:SV) (l:List RB):Itm:=rwI 1 RB.cells RB.sb E x l
def pgs (l:List RB):List (List UInt8):=l.map RB.l
theorem pgs_len {l:List RB} : (pgs l).length=l.length:=List.length_map _
theorem pgs_at {l:List RB} {i:Nat} (h:i<l.length):(pgs l)[i]'(by rw [pgs_len];exact h)=l[i].l:=List.getElem_map _
def Pby (h:Heap) (E:Nat→Prop) (l:List RB):Prop:=∀y∈l,RdL h E E (y.a,y.l.length,y.c) y.l
@[reducible] def pbyI (E:Nat→Prop) (l:List RB):Itm:=⟨fun h=>Pby h E l,E,fun _ _ _ c d b y hy=>(b y hy).st c d d⟩
theorem Pby.nil {h:Heap} {E:Nat→Prop} : Pby h E []:=fun _ hy=>by cases hy
theorem PgB.of {h:Heap} {E E':Nat→Prop} {e:TypeId} {x:SV} {l:List RB} (c:Cap h 1 e (sv x) (l.flatMap RB.cells)) (b:Pby h E' l) (hc:∀j,blkC (sv x) j→E j) (hE:∀j,E' j→E j):PgB h E x l:=RwB.ofCap (by decide) RB.cells_len c hc fun y hy=>(b y hy).mono hE hE
structure WPg where
 z:Nat
 sure:List (List UInt8)
 now:List (List UInt8)
 in_:Bool
 fr:Nat
def WPg.pages (w:WPg):List (List UInt8):=if w.in_=true then w.now else w.sure
def beginP (w:WPg):WPg × Nat:=if w.in_=true then (w,10) else ({ w with in_:=true,now:=w.sure },0)
def readP (w:WPg) (no:Int):List UInt8 × Nat:=if no<1∨(w.pages.length:Int)<no then ([],1) else (w.pages.getD (no-1).toNat [],0)
def writeP (w:WPg) (no:Int) (b:List UInt8):WPg × Nat:=if w.in_=false then (w,10) else if no<1∨(w.now.length:Int)<no∨b.length≠w.z then (w,1) else ({ w with now:=w.now.set (no-1).toNat b },0)
def rollbackP (w:WPg):WPg × Nat:=if w.in_=false then (w,10) else (⟨w.z,w.sure,[],false,w.fr⟩,0)
open Go Go.HL
structure PO6 where
 k:Nat
 no:Int
 n:Int
 fb:UInt8
 hd:Bool
 b:List UInt8
def sizeZ (n:Nat):Nat:=256*2 ^ (n%3)
theorem sizeZ_ok (n:Nat):okSz (sizeZ n)=true:=by
 unfold sizeZ;have:n%3=0∨n%3=1∨n%3=2:=by omega
 rcases this with h | h | h<;>rw [h]<;>rfl
theorem sizeZ_b (n:Nat):256≤sizeZ n∧sizeZ n≤1024:=by
 unfold sizeZ;have:n%3=0∨n%3=1∨n%3=2:=by omega
 rcases this with h | h | h<;>rw [h]<;>decide
end Go.Proofs.YtpeaicddbnghfaaGreat
namespace Go.HL
open Go
theorem OpV.shlI {P:Program} {s:Slots} {h:Heap} {d:Option Tmp} {t u ty:TypeId} {x y:Operand} {pos:String} {af:Array Edge} {g:Option (Nat × Bool)} {ky:IntKind} (a b:Nat) (hb:b≤64) (hr:a*2 ^ b≤9223372036854775807) (hx:ev s x=.int .i64 (a:Nat):=by exact rfl) (hy:ev s y=.int ky (b:Nat):=by exact rfl):OpV P ⟨d,.binOp .shl t x y u,ty,pos,af,g⟩ s h (.int .i64 ((a*2 ^ b:Nat):Int)):=fun w _=>by
 have h0:¬((b:Int)<0):=by omega
 have hm:min b IntKind.i64.bits=b:=Nat.min_eq_left hb;have h1:IntKind.wrap .i64 ((a:Int)*2 ^ min b IntKind.i64.bits)=((a*2 ^ b:Nat):Int):=by
  rw [hm];have e:(a:Int)*2 ^ b=((a*2 ^ b:Nat):Int):=by simp
  rw [e];exact IntWalk.i64_in _ (by omega)
 rw [hm] at h1;simp [execOp,hx,hy,V.eqG,binOp,Op.shift,h0];first | simpa using h1 | (rw [hm];simpa using h1)
end Go.HL
namespace Go.Proofs.YtpeaicddbnghfaaGreat
open Go Go.HL
theorem head13_any {h:Heap} {z:Nat} {fb:UInt8} (hz:okSz z=true):HC Tryz.prog 85 #[.int .i64 (z:Int),.int .u8 (fb.toNat:Int)] h (fun v h'=>Own h h' 1 5 v ((headP z fb).map bv)):=by
 have ok:=Hp.nil h none_;have hzc:=okSz_cases hz;have hfb:=fb.toNat_lt;have hb6:(hdB [z,1,0,0,fb.toNat,0]).length=64:=hdB_len6;refine HC.go Tryz.func85 28 ?_;refine .seq<|.r<|.z .asS<|.nil ?_;refine .seq<|.r<|.z .mvI<|.z .mvI<|.z (.cvi T.in3 T.in5 (ha:=by omega))<|.z (.bd #[.int .i64 (z:Int),.int .i64 1,.int .i64 0,.int .i64 0,.int .i64 ((fb.toNat:Nat):Int),.int .i64 0] T.zr148 T.pl148 rfl)<|.c' 13 .func (hencode_any (n0:=z) (n1:=1) (n2:=0) (n3:=0) (n4:=fb.toNat) (n5:=0) (by omega) (by omega) (by omega) (by omega) (by omega) (by omega) (chk_head hz hfb)) ?_;rintro _ η1 ⟨w,rfl,own⟩;obtain ⟨ya1,yc1,rfl⟩:=own.formB;have ok:=ok.own own;refine .z .mvU<|.z .ex<|.z .ex<|.z .asS<|.z .asI<|.nil ?_;refine .seq<|.r<|.a' 16 (.lit [] (cs:=[]) T.el22 T.sz5 T.zr5 ok trivial) ?_;rintro _ η2 ⟨pb1,rfl,ok,xe⟩;have ok:=ok.cx (ys:=([]:List UInt8).map bv) rfl;refine .z .mvS<|.a' 18 (.app (news:=(hdB [z,1,0,0,fb.toNat,0]).map bv) T.el22 T.sz5 T.by5 T.zr5 ok (ok.m1).sl bv_all (by simp only [List.length_map,List.length_append,List.length_take,List.length_cons,List.length_nil,List.length_replicate,List.length_range,fixedN_len,sealN_len];omega)) ?_;rintro _ η3 ⟨ya2,yn1,yc2,rfl,ok,ap⟩;have ok:=ok.cx (ys:=((hdB [z,1,0,0,fb.toNat,0])).map bv) (by simp [bv]);obtain rfl:yn1=((hdB [z,1,0,0,fb.toNat,0])).length:=ok.lenB;refine .z .asS<|.nil ?_;refine .seq<|.block fun K0 hK0=>.loop (fun m s hh=>∃(i:Nat) (bs:List UInt8) (a7:Option Addr) (c7:Nat),Has s [(0,.int .i64 (z:Int)),(1,.int .u8 (fb.toNat:Int)),(7,.slice a7 bs.length c7)]∧Hp h none_ [capI 1 5 (a7,bs.length,c7) (bs.map bv)] [] hh∧i+64≤z∧bs=hdB [z,1,0,0,fb.toNat,0]++List.replicate i fb∧bs.length=i+64∧m=z-i) ?_ ?_
 ·exact ⟨_,0,(hdB [z,1,0,0,fb.toNat,0]),ya2,yc2,⟨rfl,rfl,rfl,trivial⟩,(ok).k1,by omega,by simp,by simp [hdB_len6],rfl⟩
 rintro _ _ η4 ⟨i,bs,a7,c7,hs,ok,hi,hbs,hbl,rfl⟩ J0 hJ0;refine .frame hs fun τ=>?_;refine .seq<|.seq<|.r<|.z .mvS<|.z (.len T.el22)<|.z .mvI<|.z .lss<|.nil ?_;refine .cdr (fun C0=>?_) (fun C0=>?_)
 ·
  have hiz:i=z-64:=by omega
  refine .exit<|hK0 _ _<|.seq<|.r<|.z .mvS<|.z .asS<|.nil ?_;refine .ret ⟨.slice a7 bs.length c7,Res.one rfl rfl,(by rw [show headP z fb=bs from by rw [hbs,hiz];rfl];exact (ok).toOwn)⟩
 refine .skip<|.block fun K1 hK1=>.r<|.z .mvS<|.z .mvI<|.a' 25 (.lit [.tmp 24] (cs:=[.int .u8 (fb.toNat:Int)]) T.el22 T.sz5 T.zr5 ok ⟨rfl,trivial⟩) ?_;rintro _ η5 ⟨pb2,rfl,ok,xe⟩;have ok:=ok.cx (ys:=([fb]:List UInt8).map bv) rfl;refine .a' 26 (.app (news:=([fb]:List UInt8).map bv) T.el22 T.sz5 T.by5 T.zr5 ok.n1 (ok.n1.m1).sl bv_all (by simp only [List.length_map,List.length_append,List.length_take,List.length_cons,List.length_nil,List.length_replicate,List.length_range,fixedN_len,sealN_len];omega)) ?_;rintro _ η6 ⟨ya3,yn2,yc3,rfl,ok,ap⟩;have ok:=ok.cx (ys:=(bs++([fb]:List UInt8)).map bv) (by simp [bv]);obtain rfl:yn2=(bs++([fb]:List UInt8)).length:=ok.lenB;refine .z .asS<|.nil ?_;refine .end<|hK1 _ _<|.end<|hJ0 _ _ _ ⟨i+1,bs++[fb],ya3,yc3,⟨rfl,rfl,rfl,trivial⟩,(ok).k1,by omega,by rw [hbs,List.append_assoc,←List.replicate_succ'],by rw [show (bs++[fb]).length=bs.length+1 by simp,hbl,Nat.add_right_comm],rfl⟩ (by omega)
theorem size13_any {h:Heap} {n:Nat} (hn:n<256):HC Tryz.prog 27 #[.int .u8 (n:Int)] h (fun v h'=>v=.int .i64 ((sizeZ n:Nat):Int)∧h'=h):=by
 refine HC.go Tryz.func27 6 ?_;refine .seq<|.r<|.z .asI<|.nil ?_;refine .seq<|.r<|.z .mvI<|.z (.remn (b:=3))<|.z (.shlI 256 (n%3) (by omega) (by have:=sizeZ_b n;unfold sizeZ at this;omega))<|.z .asI<|.nil ?_;refine .ret ⟨.int .i64 ((256*2 ^ (n%3):Nat):Int),Res.one rfl rfl,⟨rfl,rfl⟩⟩
structure DgP (h:Heap) (d:Nat) (F:Nat→Prop) (D:Dk) (r:RD) (E:Nat→Prop):Prop where
 p:(dskI d r).p h
 b:Bys h E r.fs
 f:∀j,(dskI d r).F j→F j
 e:∀j,E j→F j
 n:∀j,(dskI d r).F j→¬E j
 a:r.abs=D
@[reducible] def dgI (d:Nat) (F:Nat→Prop) (D:Dk):Itm:=⟨fun h=>∃r E,DgP h d F D r E,F,fun _ _ _ c g ⟨r,E,q⟩=>⟨r,E,(dskI d r).st _ _ _ c (fun j hj=>g j (q.f j hj)) q.p,(bysI E r.fs).st _ _ _ c (fun j hj=>g j (q.e j hj)) q.b,q.f,q.e,q.n,q.a⟩⟩
section
variable {h h':Heap} {d p:Nat} {F G E E':Nat→Prop} {D:Dk} {r r':RD}
theorem dg_open {M:List Itm} (ok:Hp h F [dgI d F D] M h):∃r E,r.abs=D∧Hp h (dskI d r).F [dskI d r] [bysI E r.fs] h∧(∀j,(dskI d r).F j→F j)∧∀j,E j→F j:=by
 obtain ⟨r,E,q⟩:=ok.m0;have hl:=(ok.m (dgI d F D) (by simp)).2;exact ⟨r,E,q.a,⟨Chg.refl _ _,fun i hi=>by rw [List.mem_singleton.1 hi];exact ⟨q.p,fun j hj=>⟨(hl j (q.f j hj)).1,.inl hj⟩⟩,fun i hi=>by rw [List.mem_singleton.1 hi];exact ⟨q.b,fun j hj=>(hl j (q.e j hj)).1⟩,List.pairwise_singleton _ _,fun a ha b hb=>by rw [List.mem_singleton.1 ha,List.mem_singleton.1 hb];exact q.n⟩,q.f,q.e⟩
theorem dg_close {M:List Itm} (q:Hp h G (dskI d r'::M) [bysI E' r'.fs] h') (hG:∀j,G j→F j) (hE:∀j,E' j→F j∨h.size≤j):Hp h F (dgI d (fun j=>(dskI d r').F j∨E' j) r'.abs::M) [] h':=by
 have hm:=List.pairwise_cons.1 q.mm;refine ⟨q.chg.mono fun j _=>hG j,fun i hi=>?_,by simp,List.pairwise_cons.2 ⟨fun b hb j hj hb2=>?_,hm.2⟩,by simp⟩
 ·rcases List.mem_cons.1 hi with rfl | hi
  ·refine ⟨⟨r',E',q.m0,q.r0,fun j hj=>.inl hj,fun j hj=>.inr hj,q.mr (dskI d r') (by simp) (bysI E' r'.fs) (by simp),rfl⟩,fun j hj=>?_⟩;rcases hj with hj | hj
   ·have:=(q.m _ List.mem_cons_self).2 j hj;exact ⟨this.1,this.2.imp (hG j) id⟩
   ·exact ⟨(q.r _ List.mem_cons_self).2 j hj,hE j hj⟩
  ·have:=q.m i (List.mem_cons_of_mem _ hi);exact ⟨this.1,fun j hj=>⟨(this.2 j hj).1,(this.2 j hj).2.imp (hG j) id⟩⟩
 ·rcases hj with hj | hj
  ·exact hm.1 b hb j hj hb2
  ·exact q.mr b (List.mem_cons_of_mem _ hb) _ List.mem_cons_self j hb2 hj
theorem dg_up (up:DUp h h' d r r' E E') (hf:∀j,(dskI d r).F j→F j) (he:∀j,E j→F j):∃F',Hp h F [dgI d F' r'.abs] [] h':=⟨_,dg_close up.hp hf fun j hj=>(up.new j hj).imp (he j) id⟩
section
variable {n:List UInt8} {z y:Int} {a:Option Addr} {c:Nat} {l:List UInt8} {F2 E2:Nat→Prop}
theorem dgwrite_any (ok:Hp h F [dgI d F D] [rdI F2 E2 (a,l.length,c) l] h) (hk:DkOk D) (hcg:D.chg<1000000000) (hz : -9223372036854775808≤z∧z≤9223372036854775807) :
  HC Tryz.prog 66 #[.pointer (some ⟨d,0,none⟩),.string (BA n),.int .i64 z,.slice a l.length c] h (fun v h'=>∃F',v=.int .i64 ((writeN D n z l).2:Int)∧Hp h F [dgI d F' (writeN D n z l).1] [] h'):=by
 obtain ⟨r,E,rfl,o,hf,he⟩:=dg_open ok;have o2:Hp h (dskI d r).F [dskI d r] [bysI E r.fs,rdI F2 E2 (a,l.length,c) l] h:=⟨o.chg,o.m,fun i hi=>by
  rcases List.mem_cons.1 hi with rfl | hi
  ·exact o.r _ (by simp)
  ·exact ok.r i hi,o.mm,fun x hx b hb=>by
  rcases List.mem_cons.1 hb with rfl | hb
  ·exact o.mr x hx _ (by simp)
  ·rw [List.mem_singleton.1 hx,List.mem_singleton.1 hb];exact fun j hj=>ok.mr (dgI d F r.abs) (by simp) (rdI F2 E2 (a,l.length,c) l) (by simp) j (hf j hj)⟩
 refine (write_any o2 hk hcg hz).mono fun v h' ⟨r',E',hv,ha,up⟩=>?_;obtain ⟨F',hp⟩:=dg_up up hf he;rw [ha] at hp;exact ⟨F',hv,hp⟩
theorem dgsync_any (ok:Hp h F [dgI d F D] [] h) (hk:DkOk D) (hcg:D.chg<1000000000) :
  HC Tryz.prog 67 #[.pointer (some ⟨d,0,none⟩),.string (BA n)] h (fun v h'=>∃F',v=.int .i64 ((syncN D n).2:Int)∧Hp h F [dgI d F' (syncN D n).1] [] h'):=by
 obtain ⟨r,E,rfl,o,hf,he⟩:=dg_open ok;refine (sync_any o hk hcg).mono fun v h' ⟨r',E',hv,ha,up⟩=>?_;obtain ⟨F',hp⟩:=dg_up up hf he;rw [ha] at hp;exact ⟨F',hv,hp⟩
theorem dgsize_any (ok:Hp h F [dgI d F D] [] h) :
  HC Tryz.prog 24 #[.pointer (some ⟨d,0,none⟩),.string (BA n)] h (fun v h'=>v=.tuple #[.int .i64 ((sizeN D n).1:Int),.bool (sizeN D n).2]∧h'=h):=by
 obtain ⟨r,E,rfl,o,hf,he⟩:=dg_open ok;exact size_anyD o.m0
theorem dgread_any (ok:Hp h F [dgI d F D] [] h) (hk:DkOk D) (hy : -9223372036854775808≤y∧y≤9223372036854775807) (hz : -9223372036854775808≤z∧z≤9223372036854775807) :
  HC Tryz.prog 23 #[.pointer (some ⟨d,0,none⟩),.string (BA n),.int .i64 y,.int .i64 z] h (fun v h'=>∃w,v=.tuple #[w,.int .i64 ((readN D n y z).2:Int)]∧Own h h' 1 5 w ((readN D n y z).1.map bv)):=by
 obtain ⟨r,E,rfl,o,hf,he⟩:=dg_open ok;exact read_anyD o.rdo hk hy hz
end
theorem dgnew_any:HC Tryz.prog 16 #[] h (fun v h'=>∃d F,v=.pointer (some ⟨d,0,none⟩)∧Hp h none_ [dgI d F newN] [] h'):=
 new_any.mono fun v h' ⟨d,r,hv,ha,q⟩=>⟨d,_,hv,by
  have hp:=dg_close (F:=none_) q (fun _ f=>f) (fun j f=>f.elim);rw [ha] at hp;exact hp⟩
end
open Go Go.HL
def gd (b:List UInt8) (i:Nat):UInt8:=b.getD i 0
theorem gd_nil (i:Nat):gd [] i=0:=rfl
theorem gd_ge {b:List UInt8} {i:Nat} (h:b.length≤i):gd b i=0:=by unfold gd;rw [List.getD_eq_getElem?_getD,List.getElem?_eq_none h];rfl
theorem gd_lt {b:List UInt8} {i:Nat} (h:i<b.length):gd b i=b[i]:=by unfold gd;rw [List.getD_eq_getElem?_getD,List.getElem?_eq_getElem h];rfl
theorem gd_app {a b:List UInt8} {i:Nat} : gd (a++b) i=if i<a.length then gd a i else gd b (i-a.length):=by
 unfold gd;rw [List.getD_eq_getElem?_getD,List.getD_eq_getElem?_getD,List.getD_eq_getElem?_getD];split
 ·rename_i h;rw [List.getElem?_append_left h]
 ·rename_i h;rw [List.getElem?_append_right (by omega)]
theorem gd_take {b:List UInt8} {n i:Nat} : gd (b.take n) i=if i<n then gd b i else 0:=by
 split
 ·rename_i h;unfold gd;rw [List.getD_eq_getElem?_getD,List.getD_eq_getElem?_getD,List.getElem?_take_of_lt h]
 ·rename_i h;exact gd_ge (by rw [List.length_take];omega)
theorem gd_drop {b:List UInt8} {n i:Nat} : gd (b.drop n) i=gd b (n+i):=by unfold gd;rw [List.getD_eq_getElem?_getD,List.getD_eq_getElem?_getD,List.getElem?_drop]
theorem gd_zeros {n i:Nat} : gd (List.replicate n 0) i=0:=by
 by_cases h:i<n
 ·rw [gd_lt (by simpa using h)];simp
 ·exact gd_ge (by simp;omega)
theorem ext_gd {a b:List UInt8} (hl:a.length=b.length) (h:∀i,i<a.length→gd a i=gd b i):a=b:=by
 refine List.ext_getElem hl fun i h1 h2=>?_;have:=h i h1;rwa [gd_lt h1,gd_lt h2] at this
theorem gd_longN {b:List UInt8} {n i:Nat} : gd (longN b n) i=if i<n then gd b i else 0:=by
 unfold longN;rw [gd_app,gd_take,gd_zeros,List.length_take];by_cases h1:i<n
 ·by_cases h2:i<b.length
  ·rw [if_pos (by omega),if_pos h1]
  ·rw [if_neg (by omega),if_pos h1,gd_ge (by omega)]
 ·rw [if_neg (by omega),if_neg h1]
def wrB (b:List UInt8) (p:Nat) (c:List UInt8):List UInt8:=patchN (longN b (max b.length (p+c.length))) p c
theorem wrB_len {b c:List UInt8} {p:Nat} : (wrB b p c).length=max b.length (p+c.length):=by
 unfold wrB;rw [patchN_len (by rw [longN_len];omega),longN_len]
theorem gd_wrB {b c:List UInt8} {p i:Nat} : gd (wrB b p c) i=if p≤i∧i<p+c.length then gd c (i-p) else gd b i:=by
 unfold wrB patchN;obtain ⟨m,hm⟩:∃m,m=max b.length (p+c.length):=⟨_,rfl⟩;have h1:b.length≤m:=by omega
 have h2:p+c.length≤m:=by omega
 rw [←hm];have h3:((longN b m).take p).length=p:=by rw [List.length_take,longN_len];omega
 rw [gd_app,gd_app,List.length_append,h3,gd_take,gd_drop,gd_longN,gd_longN];by_cases g1:i<p
 ·rw [if_pos (by omega),if_pos g1,if_pos g1,if_pos (by omega),if_neg (by omega)]
 ·by_cases g2:i<p+c.length
  ·rw [if_pos g2,if_neg g1,if_pos ⟨by omega,g2⟩]
  ·have g3:¬(p≤i∧i<p+c.length):=fun h=>g2 h.2;rw [if_neg g2,show p+c.length+(i-(p+c.length))=i by omega,if_neg g3];split
   ·rfl
   ·rw [gd_ge (by omega)]
theorem wrB_end {b c:List UInt8} : wrB b b.length c=b++c:=by
 refine ext_gd (by rw [wrB_len,List.length_append];omega) fun i hi=>?_;rw [gd_wrB,gd_app];rw [wrB_len] at hi;by_cases h:i<b.length
 ·rw [if_neg (by omega),if_pos h]
 ·rw [if_pos (by omega),if_neg h]
theorem flat_lenZ {z:Nat} {l:List (List UInt8)} (h:∀x∈l,x.length=z):l.flatten.length=l.length*z:=by
 induction l with
 | nil=>simp
 | cons a l ih=>
  rw [List.flatten_cons,List.length_append,h a List.mem_cons_self,ih fun x hx=>h x (List.mem_cons_of_mem _ hx),List.length_cons,Nat.add_mul];omega
theorem flat_drop {z:Nat} {l:List (List UInt8)} (h:∀x∈l,x.length=z) {i:Nat} (hi:i<l.length):(l.flatten.drop (i*z)).take z=l[i]:=by
 induction l generalizing i with
 | nil=>simp at hi
 | cons a l ih=>
  have ha:=h a List.mem_cons_self;cases i with
  | zero=>rw [Nat.zero_mul,List.drop_zero,List.flatten_cons,List.take_left' ha];rfl
  | succ i=>
   rw [List.flatten_cons,Nat.add_mul,Nat.one_mul,Nat.add_comm,←List.drop_drop,List.drop_left' ha,List.getElem_cons_succ];exact ih (fun x hx=>h x (List.mem_cons_of_mem _ hx)) (by simpa using hi)
theorem gd_flat {z:Nat} {l:List (List UInt8)} (h:∀x∈l,x.length=z) (hz:0<z) (i:Nat):gd l.flatten i=gd (l.getD (i / z) []) (i%z):=by
 have hm:=Nat.mod_lt i hz;have hd:i / z*z+i%z=i:=by rw [Nat.mul_comm];exact Nat.div_add_mod i z
 by_cases hi:i / z<l.length
 ·have e:l.getD (i / z) []=l[i / z]:=by simp [hi]
  rw [e,←flat_drop h hi,gd_take,if_pos hm,gd_drop,hd]
 ·have e:l.getD (i / z) []=[]:=by rw [List.getD_eq_getElem?_getD,List.getElem?_eq_none (Nat.le_of_not_lt hi)];rfl
  rw [e,gd_nil,gd_ge];rw [flat_lenZ h];have h1:l.length*z≤i / z*z:=Nat.mul_le_mul_right _ (Nat.le_of_not_lt hi);exact Nat.le_trans h1 (Nat.div_mul_le_self i z)
def doO' (c:Chn):Option (List UInt8)→Option (List UInt8)
 | none=>if c.kind=0 then some (wrB [] c.pos c.b) else none
 | some b=>if c.kind=0 then some (wrB b c.pos c.b) else if c.kind=1 then some (longN b c.pos) else none
def optP (p:List UInt8 × Bool):Option (List UInt8):=if p.2=true then some p.1 else none
theorem done_optP {c:Chn} {b:List UInt8} {h:Bool} (hb:h=false→b=[]):optP (doneN c b h)=doO' c (optP (b,h)):=by
 cases h with
 | false=>
  rw [hb rfl];unfold doneN optP doO';by_cases h0:c.kind=0
  ·simp [h0,wrB]
  ·simp [h0]
 | true=>
  unfold doneN optP doO';by_cases h0:c.kind=0
  ·simp [h0,wrB]
  ·by_cases h1:c.kind=1<;>simp [h0,h1]
theorem done_nilP {c:Chn} {b:List UInt8} {h:Bool} (e:(doneN c b h).2=false):(doneN c b h).1=[]:=by
 unfold doneN at e⊢;split
 ·rename_i h0;rw [if_pos h0] at e;cases e
 ·rename_i h0;rw [if_neg h0] at e;split
  ·rename_i h1;rw [if_pos h1] at e;cases e
  ·rfl
def crO (c:Chn) (k:Nat) (o:Option (List UInt8)):Option (List UInt8):=if (keptN c k).2=true then doO' (keptN c k).1 o else o
def crOL:Option (List UInt8)→List Chn→List UInt8→Option (List UInt8)
 | o,[],_=>o
 | o,c::l,ks=>crOL (crO c (ks.headD 0).toNat o) l ks.tail
theorem keptN_kind {c:Chn} {k:Nat} : (keptN c k).1.kind=c.kind:=by unfold keptN;split<;>(try split)<;>rfl
theorem optP_crC:∀ {l:List Chn} {b:List UInt8} {h:Bool} {ks:List UInt8},(h=false→b=[])→optP (crC b h l ks)=crOL (optP (b,h)) l ks
 | [],_,_,_,_=>rfl
 | c::l,b,h,ks,hb=>by
  unfold crC crOL;simp only;by_cases g:(keptN c (ks.headD 0).toNat).2=true∧(c.kind=0∨h=true)
  ·rw [if_pos g,optP_crC (h:=(doneN (keptN c (ks.headD 0).toNat).1 b h).2) done_nilP];congr 1;unfold crO;rw [if_pos g.1];exact done_optP hb
  ·rw [if_neg g,optP_crC hb];congr 1;unfold crO;split
   ·rename_i g1;have h2:¬(c.kind=0∨h=true):=fun h2=>g ⟨g1,h2⟩;have h3:h=false:=by cases h;rfl;exact absurd (.inr rfl) h2
    subst h3;have h4:¬(keptN c (ks.headD 0).toNat).1.kind=0:=by rw [keptN_kind];exact fun e=>h2 (.inl e)
    show optP (b,false)=doO' _ none;unfold doO';rw [if_neg h4];rfl
   ·rfl
theorem crOL_inv {P:Option (List UInt8)→Prop} : ∀ {l:List Chn} {o:Option (List UInt8)} {ks:List UInt8},P o→(∀c∈l,∀k o,P o→P (crO c k o))→P (crOL o l ks)
 | [],_,_,h,_=>h
 | a::l,o,ks,h,hc=>crOL_inv (l:=l) (o:=crO a (ks.headD 0).toNat o) (hc a List.mem_cons_self _ _ h) fun c hc'=>hc c (List.mem_cons_of_mem _ hc')
theorem crO_w {p:Nat} {c:List UInt8} {k:Nat} {o:Option (List UInt8)} : crO ⟨0,p,c⟩ k o=o∨∃c',c' <+: c∧crO ⟨0,p,c⟩ k o=some (wrB (o.getD []) p c'):=by
 unfold crO;split
 ·refine .inr ⟨(keptN ⟨0,p,c⟩ k).1.b,?_,?_⟩
  ·unfold keptN;simp only [ne_eq,not_true,if_false];split
   ·exact List.take_prefix _ _
   ·exact List.prefix_rfl
  ·have e1:(keptN ⟨0,p,c⟩ k).1.kind=0:=keptN_kind;have e2:(keptN ⟨0,p,c⟩ k).1.pos=p:=by unfold keptN;simp only [ne_eq,not_true,if_false];split<;>rfl
   cases o with
   | none=>unfold doO';rw [if_pos e1,e2];rfl
   | some b=>unfold doO';simp only;rw [if_pos e1,e2];rfl
 ·exact .inl rfl
theorem crO_n {c:Chn} {k:Nat} {o:Option (List UInt8)} (h:c.kind≠0):crO c k o=o∨crO c k o=doO' c o:=by
 unfold crO;split
 ·right;have:(keptN c k).1=c:=by unfold keptN;rw [if_pos h]
  rw [this]
 ·exact .inl rfl
def synF (c:Option (List UInt8)):Option Fl:=c.map fun b=>⟨b,b,true,true,[]⟩
structure FSt (o:Option Fl) (base:Option (List UInt8)) (ops:List Chn) (cur:Option (List UInt8)):Prop where
 safe:(o.getD noF).safe=base.getD []
 was:(o.getD noF).was=base.isSome
 opn:(o.getD noF).opn=ops
 now:(o.getD noF).now=cur.getD []
 here:(o.getD noF).here=cur.isSome
theorem FSt.syn (c:Option (List UInt8)):FSt (synF c) c [] c:=by cases c<;>exact ⟨rfl,rfl,rfl,rfl,rfl⟩
def Out (o:Option Fl) (c:Option (List UInt8)):Prop:=∃ks,c=(o.bind fun f=>optP (crC f.safe f.was f.opn ks))
theorem opt_getD {o:Option (List UInt8)} : optP (o.getD [],o.isSome)=o:=by cases o<;>rfl
theorem FSt.out {o:Option Fl} {base cur c:Option (List UInt8)} {ops:List Chn} (s:FSt o base ops cur) (h:Out o c):∃ks,c=crOL base ops ks:=by
 obtain ⟨ks,rfl⟩:=h;cases o with
 | none=>
  have h1:base=none:=by have:=s.was;cases base;rfl;cases this
  have h2:ops=[]:=s.opn.symm;subst h1 h2;exact ⟨ks,rfl⟩
 | some f=>
  refine ⟨ks,?_⟩;have h1:f.safe=base.getD []:=s.safe;have h2:f.was=base.isSome:=s.was;have h3:f.opn=ops:=s.opn;show optP (crC f.safe f.was f.opn ks)=_;rw [h1,h2,h3,optP_crC,opt_getD];intro e;cases base;rfl;cases e
theorem FSt.inv {P:Option (List UInt8)→Prop} {o:Option Fl} {base cur c:Option (List UInt8)} {ops:List Chn} (s:FSt o base ops cur) (h:Out o c) (h0:P base) (hc:∀c∈ops,∀k o,P o→P (crO c k o)):P c:=by
 obtain ⟨ks,rfl⟩:=s.out h;exact crOL_inv h0 hc
theorem Out.syn {b c:Option (List UInt8)} (h:Out (synF b) c):c=b:=by obtain ⟨ks,rfl⟩:=(FSt.syn b).out h;rfl
theorem FSt.chg {o:Option Fl} {base cur:Option (List UInt8)} {ops:List Chn} (s:FSt o base ops cur) (c:Chn):FSt (some (chgF (o.getD noF) c)) base (ops++[c]) (doO' c cur):=by
 have e:doO' c cur=optP (doneN c (o.getD noF).now (o.getD noF).here):=by
  rw [s.now,s.here,done_optP (by intro e;cases cur;rfl;cases e),opt_getD]
 have hn:(doneN c (o.getD noF).now (o.getD noF).here).2=false→(doneN c (o.getD noF).now (o.getD noF).here).1=[]:=done_nilP;refine ⟨s.safe,s.was,by show _++[c]=_;rw [s.opn],?_,?_⟩
 ·show (doneN c (o.getD noF).now (o.getD noF).here).1=_;rw [e];unfold optP;cases hh:(doneN c (o.getD noF).now (o.getD noF).here).2 with
  | true=>rfl
  | false=>simp only [Bool.false_eq_true,if_false,Option.getD_none];exact hn hh
 ·show (doneN c (o.getD noF).now (o.getD noF).here).2=_;rw [e];unfold optP;cases hh:(doneN c (o.getD noF).now (o.getD noF).here).2<;>rfl
theorem FSt.settle {f:Fl} {base cur:Option (List UInt8)} {ops:List Chn} (s:FSt (some f) base ops cur):settleF f=synF cur:=by
 have h1:f.here=cur.isSome:=s.here;have h2:f.now=cur.getD []:=s.now;unfold settleF synF;rw [h1,h2];cases cur<;>rfl
def nOk (n:List UInt8):Prop:=1≤n.length∧n.length≤32
def darkD (d:Dk):Dk:=⟨d.fs,true,d.left,d.chg⟩
def stepD' (d:Dk) (n:List UInt8) (v:Option Fl):Dk:=⟨put1 d.fs n v,false,if 0<d.left then d.left-1 else d.left,d.chg+1⟩
def Res (d:Dk) (r:Dk × Nat) (G B:Dk→Prop):Prop:=
 (r.2=0∧r.1.dark=false∧(d.left<0→r.1.left<0)∧G r.1)∨(r.2=13∧r.1.dark=true∧0≤d.left∧B r.1)
section
variable {d:Dk} {r:Dk × Nat} {G G' B B':Dk→Prop} {n:List UInt8}
theorem Res.mono (h:Res d r G B) (hG:∀d',d'.dark=false→G d'→G' d') (hB:∀d',B d'→B' d'):Res d r G' B':=
 h.imp (fun ⟨a,b,c,e⟩=>⟨a,b,c,hG _ b e⟩) fun ⟨a,b,c,e⟩=>⟨a,b,c,hB _ e⟩
theorem Res.ok (hd:d.dark=false) (h:G d):Res d (d,0) G B:=.inl ⟨rfl,hd,id,h⟩
theorem Res.bind {d0:Dk} (hl:d0.left<0→d.left<0) (h:Res d r G B):Res d0 r G B:=
 h.imp (fun ⟨a,b,c,e⟩=>⟨a,b,fun h=>c (hl h),e⟩) fun ⟨a,b,c,e⟩=>⟨a,b,by rcases Int.lt_or_le d0.left 0 with h | h;(have:=hl h;omega);exact h,e⟩
theorem wrong_0 {zs:List Int} (hd:d.dark=false) (hn:nOk n) (hz:∀z∈zs,0≤z):wrongN d n zs=0:=by
 unfold wrongN;rw [if_neg,if_neg (by rw [hd];decide)];rintro (h | h | ⟨z,h1,h2⟩)
 ·have:=hn.1;omega
 ·have:=hn.2;omega
 ·have:=hz z h1;omega
theorem do_res (hd:d.dark=false) (c:Chn) (hG:G (stepD' d n (some (chgF ((d.fs n).getD noF) c)))) (hB:B (darkD d)):Res d (doN d n c) G B:=by
 unfold doN powerN;by_cases h:d.left=0
 ·rw [if_pos h,if_pos h];exact .inr ⟨rfl,rfl,by omega,hB⟩
 ·rw [if_neg h];refine .inl ⟨rfl,hd,fun h1=>?_,?_⟩
  ·simp only;rw [if_neg (by omega)];exact h1
  ·rw [hd];exact hG
theorem write_res {p:Nat} {b:List UInt8} (hd:d.dark=false) (hn:nOk n) (hf:p+b.length≤16777216) (hG:G (stepD' d n (some (chgF ((d.fs n).getD noF) ⟨0,p,b⟩)))) (hB:B (darkD d)):Res d (writeN d n (p:Int) b) G B:=by
 unfold writeN;rw [if_neg (by rw [wrong_0 hd hn (by simp)];simp),if_neg (by omega),Int.toNat_natCast];exact do_res hd _ hG hB
theorem trunc_res {z:Nat} (hd:d.dark=false) (hn:nOk n) (ht:thereN d n=true) (hf:z≤16777216) (hG:G (stepD' d n (some (chgF ((d.fs n).getD noF) ⟨1,z,[]⟩)))) (hB:B (darkD d)):Res d (truncN d n (z:Int)) G B:=by
 unfold truncN;rw [if_neg (by rw [wrong_0 hd hn (by simp)];simp),if_neg (by rw [ht];decide),if_neg (by omega),Int.toNat_natCast];exact do_res hd _ hG hB
theorem remove_res (hd:d.dark=false) (hn:nOk n) (ht:thereN d n=true) (hG:G (stepD' d n (some (chgF ((d.fs n).getD noF) ⟨2,0,[]⟩)))) (hB:B (darkD d)):Res d (removeN d n) G B:=by
 unfold removeN;rw [if_neg (by rw [wrong_0 hd hn (by simp)];simp),if_neg (by rw [ht];decide)];exact do_res hd _ hG hB
theorem remove_no (hd:d.dark=false) (hn:nOk n) (ht:thereN d n=false):removeN d n=(d,4):=by
 unfold removeN;rw [if_neg (by rw [wrong_0 hd hn (by simp)];simp),if_pos ht]
theorem sync_res {f:Fl} (hd:d.dark=false) (hn:nOk n) (hf:d.fs n=some f) (ho:f.here=true∨f.opn≠[]) (hG:G (stepD' d n (settleF f))) (hB:B (darkD d)):Res d (syncN d n) G B:=by
 unfold syncN powerN;rw [if_neg (by rw [wrong_0 hd hn (by simp)];simp),hf];simp only;rw [if_neg (by rintro ⟨h1,h2⟩;rcases ho with h | h;(rw [h1] at h;cases h);exact h h2)];by_cases h:d.left=0
 ·rw [if_pos h,if_pos h];exact .inr ⟨rfl,rfl,by omega,hB⟩
 ·rw [if_neg h];refine .inl ⟨rfl,hd,fun h1=>?_,?_⟩
  ·simp only;rw [if_neg (by omega)];exact h1
  ·rw [hd];exact hG
theorem stepD'_at {v:Option Fl} : (stepD' d n v).fs n=v:=put1_at _ _ _
theorem stepD'_ne {m:List UInt8} {v:Option Fl} (h:m≠n):(stepD' d n v).fs m=d.fs m:=put1_ne h
theorem there_st {base cur:Option (List UInt8)} {ops:List Chn} (s:FSt (d.fs n) base ops cur):thereN d n=cur.isSome:=by
 have h:=s.here;unfold thereN;cases hf:d.fs n with
 | none=>rw [hf] at h;exact h
 | some f=>rw [hf] at h;exact h
theorem size_st {base cur:Option (List UInt8)} {ops:List Chn} (hd:d.dark=false) (s:FSt (d.fs n) base ops cur):sizeN d n=((cur.getD []).length,cur.isSome):=by
 unfold sizeN;rw [there_st s,s.now,hd];cases cur<;>simp
theorem read_st {base:Option (List UInt8)} {b:List UInt8} {ops:List Chn} {p z:Nat} (hd:d.dark=false) (hn:nOk n) (s:FSt (d.fs n) base ops (some b)):readN d n (p:Int) (z:Int)=((b.drop p).take z,0):=by
 have h:=s.here;have h2:=s.now;unfold readN;rw [if_neg (by rw [wrong_0 hd hn (by simp)];simp)];cases hf:d.fs n with
 | none=>rw [hf] at h;cases h
 | some f=>
  rw [hf] at h h2;replace h:f.here=true:=h;replace h2:f.now=b:=h2;simp only;rw [if_neg (by rw [h];decide),h2,Int.toNat_natCast,Int.toNat_natCast]
theorem read_no {base:Option (List UInt8)} {ops:List Chn} {p z:Nat} (hd:d.dark=false) (hn:nOk n) (s:FSt (d.fs n) base ops none):readN d n (p:Int) (z:Int)=([],4):=by
 have h:=s.here;unfold readN;rw [if_neg (by rw [wrong_0 hd hn (by simp)];simp)];cases hf:d.fs n with
 | none=>rfl
 | some f=>
  rw [hf] at h;replace h:f.here=false:=h;simp only;rw [if_pos h]
end
theorem thenN_res {d:Dk} {a:Dk × Nat} {f:Dk→Dk × Nat} {G1 G2 B:Dk→Prop} (h1:Res d a G1 B) (h2:∀d1,d1.dark=false→G1 d1→Res d1 (f d1) G2 B):Res d (if a.2=0 then f a.1 else a) G2 B:=by
 rcases h1 with ⟨e,hd,hl,g⟩ | ⟨e,hd,hl,b⟩
 ·rw [if_pos e];exact (h2 _ hd g).bind hl
 ·rw [if_neg (by omega)];exact .inr ⟨e,hd,hl,b⟩
open Go Go.HL
theorem nT_ok:nOk nT:=by unfold nOk nT;decide
theorem nM_ok:nOk nM:=by unfold nOk nM;decide
theorem nMT:nM≠nT:=by decide
theorem gone_res {d:Dk} {n:List UInt8} {c:Option (List UInt8)} (hd:d.dark=false) (hn:nOk n) (hf:d.fs n=synF c) :
  Res d (goneN d n) (fun d'=>d'.fs n=none∧∀m,m≠n→d'.fs m=d.fs m) (fun d'=>(∀c',Out (d'.fs n) c'→c'=c∨c'=none)∧∀m,m≠n→d'.fs m=d.fs m):=by
 have st:FSt (d.fs n) c [] c:=by rw [hf];exact .syn c
 cases c with
 | none=>
  have h1:=remove_no hd hn (there_st st);have e:goneN d n=(d,0):=by unfold goneN;rw [h1];rfl
  rw [e];exact .ok hd ⟨hf,fun _ _=>rfl⟩
 | some b=>
  have s1:=st.chg ⟨2,0,[]⟩;have ob:∀ {o:Option Fl} {ops:List Chn} {cur c':Option (List UInt8)},FSt o (some b) ops cur→(∀x∈ops,x=⟨2,0,[]⟩)→Out o c'→c'=some b∨c'=none:=fun s ho hO=>by
   refine s.inv (P:=fun o=>o=some b∨o=none) hO (.inl rfl) fun x hx k o ho'=>?_;rw [ho x hx];rcases crO_n (c:=⟨2,0,[]⟩) (k:=k) (o:=o) (by simp) with h | h
   ·rw [h];exact ho'
   ·rw [h];cases o<;>exact .inr rfl
  have r1:Res d (removeN d n) (fun d1=>d1.fs n=some (chgF ((d.fs n).getD noF) ⟨2,0,[]⟩)∧∀m,m≠n→d1.fs m=d.fs m) (fun d'=>(∀c',Out (d'.fs n) c'→c'=some b∨c'=none)∧∀m,m≠n→d'.fs m=d.fs m):=
   remove_res hd hn (there_st st) ⟨stepD'_at,fun m hm=>stepD'_ne hm⟩ ⟨fun c' hO=>ob st (by simp) hO,fun _ _=>rfl⟩
  rcases r1 with ⟨e1,e2,e3,e4,e5⟩ | ⟨e1,e2,e3,e4⟩
  ·have e:goneN d n=syncN (removeN d n).1 n:=by unfold goneN;rw [if_pos e1]
   rw [e];refine Res.bind e3 (sync_res e2 hn e4 (.inr (by show _++[_]≠[];simp)) ⟨by rw [stepD'_at,s1.settle];rfl,fun m hm=>by rw [stepD'_ne hm];exact e5 m hm⟩ ⟨fun c' hO=>?_,e5⟩);refine ob s1 (by simp) ?_;rw [show (darkD (removeN d n).1).fs n=(removeN d n).1.fs n from rfl,e4] at hO;exact hO
  ·have e:goneN d n=removeN d n:=by unfold goneN;rw [if_neg (by omega),if_neg (by omega)]
   rw [e];exact .inr ⟨e1,e2,e3,e4⟩
theorem in_page {i p z:Nat} (hz:0<z):(p*z≤i∧i<p*z+z)↔i / z=p:=by
 constructor
 ·rintro ⟨h1,h2⟩;refine Nat.le_antisymm ?_ ((Nat.le_div_iff_mul_le hz).2 h1);exact Nat.le_of_lt_succ ((Nat.div_lt_iff_lt_mul hz).2 (by rw [Nat.succ_mul];exact h2))
 ·rintro rfl;have h1:=Nat.div_mul_le_self i z;have h2:=Nat.mod_lt i hz;have h3:i / z*z+i%z=i:=by rw [Nat.mul_comm];exact Nat.div_add_mod i z
  omega
theorem mod_page {i p z:Nat} (h:i / z=p):i-p*z=i%z:=by
 have h3:i / z*z+i%z=i:=by rw [Nat.mul_comm];exact Nat.div_add_mod i z
 rw [h] at h3;omega
theorem gd_pre0 {c:List UInt8} (h:c <+: [0]) (i:Nat):gd c i=0:=by
 obtain ⟨s,hs⟩:=h;cases c with
 | nil=>rfl
 | cons a c=>
  injection hs with h1 h2;have h3:c=[]:=List.append_eq_nil_iff.1 h2 |>.1
  subst h1 h3;cases i<;>rfl
structure PgOk (z:Nat) (s:List (List UInt8)):Prop where
 sz:okSz z=true
 len:∀l∈s,l.length=z
 fit:s.length*z≤16777216
 hd:s≠[]→hdOk (s.getD 0 []) z=true
theorem okSz_b {z:Nat} (h:okSz z=true):256≤z∧z≤4096:=by have:=okSz_cases h;omega
theorem PgOk.many {z:Nat} {s:List (List UInt8)} (p:PgOk z s):s.length≤65536:=by
 have h1:=(okSz_b p.sz).1;have h2:s.length*256≤s.length*z:=Nat.mul_le_mul_left _ h1;have:=p.fit;omega
def mlen (M:Option (List UInt8)):Nat:=(M.getD []).length
theorem mlen_pos {M:Option (List UInt8)} (h:mlen M≠0):∃b,M=some b∧b.length=mlen M:=by cases M;exact absurd rfl h;exact ⟨_,rfl,rfl⟩
theorem decN_take {l:List UInt8} (h:64≤l.length):decN (l.take 64)=decN l:=by
 have h1:∀k,k<6→hdAt (l.take 64) k=hdAt l k:=fun k hk=>by unfold hdAt;exact rdN_take (by omega)
 have h2:decH (l.take 64)=decH l:=by unfold decH;rw [h1 0 (by omega),h1 1 (by omega),h1 2 (by omega),h1 3 (by omega),h1 4 (by omega),h1 5 (by omega)]
 have h3:decY (l.take 64)↔decY l:=by unfold decY;rw [h2,h1 0 (by omega),h1 1 (by omega),h1 2 (by omega),h1 3 (by omega),h1 4 (by omega),h1 5 (by omega),List.take_take,Nat.min_self]
 unfold decN;rw [if_neg (show ¬(l.take 64).length<64 by rw [List.length_take];omega),if_neg (show ¬l.length<64 by omega),List.take_take,show min 16 64=16 from rfl,h2];by_cases h4:decY l
 ·rw [if_pos h4,if_pos (h3.2 h4)]
 ·rw [if_neg h4,if_neg (fun h=>h4 (h3.1 h))]
def jsign:List UInt8:=[116,111,109,101,32,106,110,108]
def okJ (n k:Nat):Bool:=okSz n && decide (k≤1048576∧n*k≤16777216)
def jfrontN (n k s:Nat):List UInt8:=jsign++fixedN n 4++fixedN k 4++fixedN s 8
def jheadN (n k s:Nat):List UInt8:=jfrontN n k s++fixedN (sumN (jfrontN n k s)) 4
def jfootN (s:Nat) (b:List UInt8):List UInt8:=fixedN (sumN (fixedN s 8++b)) 4
def jbodyN (p:Nat) (b:List UInt8):List UInt8:=fixedN p 4++b
def jputN (s p:Nat) (b:List UInt8):List UInt8:=jbodyN p b++jfootN s (jbodyN p b)
def okE (f:Fr):Bool:=decide (1≤f.page∧f.page≤1048576∧f.commit=0) && okSz f.b.length
def jhOk (b:List UInt8):Bool:=okJ (rdN b 8 4) (rdN b 12 4) && decide (jheadN (rdN b 8 4) (rdN b 12 4) (rdN b 16 8)=b.take 28)
def jraw (b:List UInt8) (n at_:Nat):Fr:=⟨rdN b at_ 4,0,(b.drop (at_+4)).take n⟩
def jfits (b:List UInt8) (n s at_:Nat):Prop:=at_+n+8≤b.length∧(1≤rdN b at_ 4∧rdN b at_ 4≤1048576)∧jfootN s ((b.drop at_).take (4+n))=(b.drop (at_+4+n)).take 4
instance (b:List UInt8) (n s at_:Nat):Decidable (jfits b n s at_):=by unfold jfits;exact inferInstance
def jents (b:List UInt8) (n s at_:Nat):List Fr:=if h:jfits b n s at_ then jraw b n at_::jents b n s (at_+n+8) else []
termination_by b.length-at_
decreasing_by have:=h.1;omega
theorem jents_t {b:List UInt8} {n s at_:Nat} (h:jfits b n s at_):jents b n s at_=jraw b n at_::jents b n s (at_+n+8):=by rw [jents,dif_pos h]
theorem jents_f {b:List UInt8} {n s at_:Nat} (h:¬jfits b n s at_):jents b n s at_=[]:=by rw [jents,dif_neg h]
def jscanN (b:List UInt8):Nat × Nat × List Fr × Nat:=
 if b.length<28 then (0,0,[],6) else if b.take 8≠jsign then (0,0,[],8) else if jhOk b=false then (0,0,[],14) else (rdN b 8 4,rdN b 12 4,jents b (rdN b 8 4) (rdN b 16 8) 28,0)
theorem okJ_1 {n k:Nat} (h:okZ (n:Int)=false):okJ n k=false:=by rw [okZ_nat] at h;simp [okJ,h]
theorem okJ_2 {n k:Nat} (h:¬k≤1048576):okJ n k=false:=by simp [okJ,h]
theorem okJ_3 {n k:Nat} (h:¬n*k≤16777216):okJ n k=false:=by simp [okJ,h]
theorem okJ_t {n k:Nat} (h:okZ (n:Int)=true) (h1:k≤1048576) (h2:n*k≤16777216):okJ n k=true:=by rw [okZ_nat] at h;simp [okJ,h,h1,h2]
theorem okZ_le {n:Nat} (h:okZ (n:Int)=true):n=256∨n=512∨n=1024∨n=2048∨n=4096:=by
 have:=of_decide_eq_true h;omega
theorem okZ_mul {n k:Nat} (h:okZ (n:Int)=true) (hk:k≤1048576):n*k≤4294967296:=
 Nat.le_trans (Nat.mul_le_mul (show n≤4096 by have:=okZ_le h;omega) hk) (by decide)
theorem okZ_quo {n k:Nat} (h:okZ (n:Int)=true):k≤16777216 / n↔n*k≤16777216:=by
 rcases okZ_le h with rfl | rfl | rfl | rfl | rfl<;>omega
theorem jheadN_len (n k s:Nat):(jheadN n k s).length=28:=by simp [jheadN,jfrontN,jsign,fixedN_len]
theorem jputN_len (s p:Nat) (b:List UInt8):(jputN s p b).length=b.length+8:=by simp [jputN,jbodyN,jfootN,fixedN_len];omega
theorem okE_1 {p q:Int} {l:List UInt8} (h:¬(1≤p∧p≤1048576∧q=0)):okE ⟨p,q,l⟩=false:=by simp only [okE,decide_eq_false h,Bool.false_and]
theorem okE_2 {p q:Int} {l:List UInt8} (h:okZ (l.length:Int)=false):okE ⟨p,q,l⟩=false:=by rw [okZ_nat] at h;simp only [okE,h,Bool.and_false]
theorem okE_t {p q:Int} {l:List UInt8} (h:okZ (l.length:Int)=true) (h1:1≤p∧p≤1048576∧q=0):okE ⟨p,q,l⟩=true:=by rw [okZ_nat] at h;simp only [okE,h,decide_eq_true h1,Bool.and_true]
def jputsN (s:Nat):List Fr→List UInt8
 | []=>[]
 | f::l=>jputN s f.page.toNat f.b++jputsN s l
theorem jputsN_app {s:Nat} {a b:List Fr} : jputsN s (a++b)=jputsN s a++jputsN s b:=by
 induction a with
 | nil=>rfl
 | cons f a ih=>simp only [List.cons_append,jputsN,ih,List.append_assoc]
def okJL (z:Nat) (l:List Fr):Prop:=∀f∈l,(1≤f.page∧f.page≤1048576∧f.commit=0)∧f.b.length=z
theorem jputsN_len {z s:Nat} {l:List Fr} (h:okJL z l):(jputsN s l).length=l.length*(z+8):=by
 induction l with
 | nil=>simp [jputsN]
 | cons f l ih=>
  rw [jputsN,List.length_append,jputN_len,(h f List.mem_cons_self).2,ih fun g hg=>h g (List.mem_cons_of_mem _ hg),List.length_cons,Nat.add_mul];omega
theorem jput_raw {z s:Nat} {x y:List UInt8} {f:Fr} (h:(1≤f.page∧f.page≤1048576∧f.commit=0)∧f.b.length=z):jraw (x++(jputN s f.page.toNat f.b++y)) z x.length=f∧jfits (x++(jputN s f.page.toNat f.b++y)) z s x.length:=by
 obtain ⟨⟨h1,h2,h3⟩,h4⟩:=h;subst h4;have e1:x++(jputN s f.page.toNat f.b++y)=x++(fixedN f.page.toNat 4++(f.b++(jfootN s (jbodyN f.page.toNat f.b)++y))):=by simp [jputN,jbodyN]
 have e2:x++(jputN s f.page.toNat f.b++y)=(x++fixedN f.page.toNat 4)++(f.b++(jfootN s (jbodyN f.page.toNat f.b)++y)):=by simp [jputN,jbodyN]
 have e3:x++(jputN s f.page.toNat f.b++y)=(x++jbodyN f.page.toNat f.b)++(jfootN s (jbodyN f.page.toNat f.b)++y):=by simp [jputN,jbodyN]
 have e4:x++(jputN s f.page.toNat f.b++y)=x++(jbodyN f.page.toNat f.b++(jfootN s (jbodyN f.page.toNat f.b)++y)):=by simp [jputN]
 have lb:(jbodyN f.page.toNat f.b).length=4+f.b.length:=by simp [jbodyN,fixedN_len]
 have lf:(jfootN s (jbodyN f.page.toNat f.b)).length=4:=by simp [jfootN,fixedN_len]
 have q1:rdN (x++(jputN s f.page.toNat f.b++y)) x.length 4=f.page.toNat:=by rw [e1,rdN_app (fixedN_len _ _),beN_fixed (by omega)]
 have q2:((x++(jputN s f.page.toNat f.b++y)).drop (x.length+4)).take f.b.length=f.b:=by
  rw [e2,show x.length+4=(x++fixedN f.page.toNat 4).length by simp [fixedN_len],List.drop_left,List.take_left]
 have q3:((x++(jputN s f.page.toNat f.b++y)).drop x.length).take (4+f.b.length)=jbodyN f.page.toNat f.b:=by rw [e4,List.drop_left,List.take_left' lb]
 have q4:((x++(jputN s f.page.toNat f.b++y)).drop (x.length+4+f.b.length)).take 4=jfootN s (jbodyN f.page.toNat f.b):=by
  rw [e3,show x.length+4+f.b.length=(x++jbodyN f.page.toNat f.b).length by rw [List.length_append,lb];omega,List.drop_left,List.take_left' lf]
 refine ⟨?_,?_,?_,?_⟩
 ·unfold jraw;rw [q1,q2];cases f;simp only [Fr.mk.injEq,and_true];simp only at h1 h3;omega
 ·simp only [List.length_append,jputN_len];omega
 ·rw [q1];omega
 ·rw [q3,q4]
theorem jents_puts {z s:Nat} : ∀ {l:List Fr} {x y:List UInt8},okJL z l→jents (x++(jputsN s l++y)) z s x.length=l++jents (x++(jputsN s l++y)) z s (x.length+l.length*(z+8))
 | [],x,y,_=>by simp
 | f::l,x,y,h=>by
  have e1:x++(jputsN s (f::l)++y)=x++(jputN s f.page.toNat f.b++(jputsN s l++y)):=by simp [jputsN]
  have e2:x++(jputsN s (f::l)++y)=(x++jputN s f.page.toNat f.b)++(jputsN s l++y):=by simp [jputsN]
  have h0:=h f List.mem_cons_self;obtain ⟨r1,r2⟩:=jput_raw (s:=s) (x:=x) (y:=jputsN s l++y) h0;rw [←e1] at r1 r2;have hl:(x++jputN s f.page.toNat f.b).length=x.length+z+8:=by rw [List.length_append,jputN_len,h0.2];omega
  have ih:=jents_puts (s:=s) (l:=l) (x:=x++jputN s f.page.toNat f.b) (y:=y) fun g hg=>h g (List.mem_cons_of_mem _ hg);rw [←e2,hl] at ih;rw [jents_t r2,r1,ih,List.cons_append,List.length_cons];congr 3;rw [Nat.add_mul];omega
theorem jh_rd {n k s:Nat} {y:List UInt8} (hn:n<4294967296) (hk:k<4294967296) (hs:s<18446744073709551616):(jheadN n k s++y).take 8=jsign∧rdN (jheadN n k s++y) 8 4=n∧rdN (jheadN n k s++y) 12 4=k∧rdN (jheadN n k s++y) 16 8=s∧(jheadN n k s++y).take 28=jheadN n k s:=by
 have e0:jheadN n k s++y=jsign++(fixedN n 4++(fixedN k 4++(fixedN s 8++(fixedN (sumN (jfrontN n k s)) 4++y)))):=by simp [jheadN,jfrontN]
 have e1:jheadN n k s++y=(jsign++fixedN n 4)++(fixedN k 4++(fixedN s 8++(fixedN (sumN (jfrontN n k s)) 4++y))):=by rw [e0];simp
 have e2:jheadN n k s++y=(jsign++fixedN n 4++fixedN k 4)++(fixedN s 8++(fixedN (sumN (jfrontN n k s)) 4++y)):=by rw [e0];simp
 refine ⟨by rw [e0];exact List.take_left' rfl,?_,?_,?_,List.take_left' (jheadN_len _ _ _)⟩
 ·rw [e0];have:=rdN_app (x:=jsign) (z:=fixedN k 4++(fixedN s 8++(fixedN (sumN (jfrontN n k s)) 4++y))) (fixedN_len n 4);rw [show jsign.length=8 from rfl] at this;rw [this,beN_fixed (by omega)]
 ·rw [e1];have:=rdN_app (x:=jsign++fixedN n 4) (z:=fixedN s 8++(fixedN (sumN (jfrontN n k s)) 4++y)) (fixedN_len k 4);rw [show (jsign++fixedN n 4).length=12 by simp [jsign,fixedN_len]] at this;rw [this,beN_fixed (by omega)]
 ·rw [e2];have:=rdN_app (x:=jsign++fixedN n 4++fixedN k 4) (z:=fixedN (sumN (jfrontN n k s)) 4++y) (fixedN_len s 8);rw [show (jsign++fixedN n 4++fixedN k 4).length=16 by simp [jsign,fixedN_len]] at this;rw [this,beN_fixed (by omega)]
theorem jscan_made {z u s:Nat} {l:List Fr} {y:List UInt8} (hj:okJ z u=true) (hz:z<4294967296) (hu:u<4294967296) (hs:s<18446744073709551616) (hl:okJL z l):∃more,jscanN (jheadN z u s++(jputsN s l++y))=(z,u,l++more,0):=by
 obtain ⟨q0,q1,q2,q3,q4⟩:=jh_rd (n:=z) (k:=u) (s:=s) (y:=jputsN s l++y) hz hu hs;have h1:jhOk (jheadN z u s++(jputsN s l++y))=true:=by unfold jhOk;rw [q1,q2,q3,q4,hj];simp
 refine ⟨jents (jheadN z u s++(jputsN s l++y)) z s (28+l.length*(z+8)),?_⟩;have h2:=jents_puts (s:=s) (x:=jheadN z u s) (y:=y) hl;rw [jheadN_len] at h2;unfold jscanN;rw [if_neg (by simp only [List.length_append,jheadN_len];omega),if_neg (by rw [q0];simp),if_neg (by rw [h1];decide),q1,q2,q3,h2]
end Go.Proofs.YtpeaicddbnghfaaGreat
namespace Go.Proofs
open Go.Shelf
def Tryz.keysC_ren:Go.Shelf.Ren:=⟨fun | 7=>219 | 10=>238 | n=>n,fun | 23=>185 | 26=>3 | 3=>213 | 28=>261 | 0=>0 | 27=>260 | 33=>108 | 4=>4 | n=>n,fun | n=>n⟩
theorem Tryz.keysC:Go.Proofs.SlLaysZI.n7 Tryz.prog Tryz.keysC_ren:={
 mixed:=by kernel_rfl
 f7:=⟨Tryz.f219.name,by decide,Tryz.func219.trans (congrArg some (by kernel_rfl))⟩
 f10:=⟨Tryz.f238.name,by decide,Tryz.func238.trans (congrArg some (by kernel_rfl))⟩
 t0:=Tryz.underlying0
 a0:=Tryz.isAgg0
 z0:=Tryz.sizeOf0
 v0:=Tryz.zeroValue0
 t4:=Tryz.underlying4
 a4:=Tryz.isAgg4
 z4:=Tryz.sizeOf4
 v4:=Tryz.zeroValue4
 t23:=Tryz.underlying185
 a23:=Tryz.isAgg185
 z23:=Tryz.sizeOf185
 v23:=Tryz.zeroValue185
 t26:=Tryz.underlying3
 a26:=Tryz.isAgg3
 z26:=Tryz.sizeOf3
 v26:=Tryz.zeroValue3
 t27:=Tryz.underlying260
 a27:=Tryz.isAgg260
 z27:=Tryz.sizeOf260
 v27:=Tryz.zeroValue260
 t28:=Tryz.underlying261
 a28:=Tryz.isAgg261
 z28:=Tryz.sizeOf261
 v28:=Tryz.zeroValue261
 t33:=Tryz.underlying108
 a33:=Tryz.isAgg108
 z33:=Tryz.sizeOf108
 v33:=Tryz.zeroValue108 }
end Go.Proofs
namespace Go.Proofs.YtpeaicddbnghfaaGreat
open Go Go.HL Go.RowKit Go.Maps Go.Sort Go.Shelf Go.MapKept
theorem ckeys_any {h:Heap} {mb:Nat} : HC Tryz.prog 219 #[.map (some mb)] h (fun v h'=>v=.func (.func 238) #[] #[ptr h.size]∧h'=h.push (.cells #[.map (some mb)] 185 (0,0))):=
 HC.of_calls ⟨_,Tryz.func219,by decide,rfl⟩ fun w hw=>(callsIn_wide.1 (AnyZI.keys_in Tryz.keysC Fence.wide 5 trivial rfl (some mb) w)).mono fun e w' ⟨h1,h2⟩=>by
  subst h2 hw;exact ⟨_,h1,(RowKit.Below.refl _ w).alloc (Nat.le_refl _) _,rfl,rfl⟩
theorem csorted_any {h:Heap} {mb:Nat} {ks:List Int} {f:Int→Value} (hm:MapT (Value.int .i64) h mb (ks.map fun k=>(k,f k))) (hr:∀k∈ks,-9223372036854775808≤k∧k≤9223372036854775807) (hl:ks.length≤1000000000000) :
  HC Tryz.prog 212 #[.func (.func 238) #[] #[ptr h.size]] (h.push (.cells #[.map (some mb)] 185 (0,0)))
   (fun v h'=>∃S:List Int,S.Perm ks∧S.Pairwise (·≤·)∧Own (h.push (.cells #[.map (some mb)] 185 (0,0))) h' 1 3 v (S.map iv)):=
 HC.of_calls ⟨_,Tryz.func212,by decide,rfl⟩ fun w hw=>by
  have hsz:w.heap.size=h.size+1:=by rw [hw];simp
  obtain ⟨nn,D,hown,hD,hK⟩:=owns_keys hm hr hl (w:=w) (by rw [hw,Array.getElem?_push,if_neg (by have:=hm.lt;omega)]);have hseq:SeqGives Fence.wide 2 Tryz.prog 238 #[.pointer (some ⟨h.size,0,none⟩)] encZ (fun ss=>ss.Perm (intKeys D)) (Maps.size D) w:=
   AnyZI.keys_gives (ρ:=Tryz.keysC_ren) { Tryz.keysC with } Fence.wide _ trivial rfl (by omega) h.size mb nn D w (by omega) (by rw [cell?_eq,hw];exact cell_of (push_same _ _) 0) hown
  have cS:=AnyZI.sorted_in Tryz.sortedA Fence.wide 5 trivial trivial trivial trivial rfl (by omega) (sorts_in _) (enters_of Tryz.func169 (by kernel_rfl) rfl) 238 #[.pointer (some ⟨h.size,0,none⟩)] trivial (enters_of Tryz.func238 (by kernel_rfl) rfl) _ (Maps.size D) (by show _≤9223372036854775807;omega) (by omega) w hseq;refine (callsIn_wide.1 cS).mono fun e w' ⟨v,ss,h1,h2,h3,h4,h5⟩=>⟨v,h1,by rw [←hw];exact h5,ss.mergeSort (fun x y=>decide (x≤y)),?_,?_,?_⟩
  ·exact (List.mergeSort_perm _ _).trans (h2.trans hK)
  ·have:=List.pairwise_mergeSort (le:=fun x y:Int=>decide (x≤y)) (fun a b c h1 h2=>by simp at h1 h2⊢;omega) (fun a b=>by simp;omega) ss;exact this.imp fun h=>by simpa using h
  ·have hx:Ext w.heap w'.heap:=Ext.of_below rfl h5;rw [←hw];have hml:(ss.mergeSort fun x y=>decide (x≤y)).length=ss.length:=List.length_mergeSort _;rcases h3.2 with ⟨rfl,hz⟩ | ⟨g,cap,cur,rfl,hg,hgb,hnc,hcm,hcs,hct⟩
   ·have hs0:ss=[]:=List.length_eq_zero_iff.1 hz;subst hs0;rw [List.mergeSort_nil];exact Own.nil hx _ _
   ·refine ⟨⟨_,_,_,rfl,hnc,hcm,by simp,.inr ⟨g,0,cur,(0,0),rfl,hgb,by simp;omega,fzOk_zero _,?_⟩⟩,hx,fun b hb=>?_⟩
    ·rw [List.drop_zero];exact hct
    ·obtain ⟨o,n,c,e⟩:=hb;injection e with e;injection e with e;injection e with e;subst e;exact hg
def AFr.fr (x:AFr):Fr:=⟨x.page,x.commit,x.b⟩
def FrIn (h:Heap) (G:Nat→Prop) (v:Value) (L:List AFr):Prop:=∃x:SV,v=sv x∧RdL h G G x (L.map AFr.fr)
theorem FrIn.nil {h:Heap} {G:Nat→Prop} : FrIn h G (.slice none 0 0) []:=⟨(none,0,0),rfl,RdL.nil _ _ _⟩
theorem put_anyF {h:Heap} {F:Nat→Prop} {p:Nat} {room:Int} {L:List AP} (r:CRep h F p room L) (hlen:L.length≤100000000) (no:Int) {bs:SV} {l:List UInt8} (hb:Sl h 1 (sv bs) (l.map bv)) (hbl:l.length≤1000000) (d:Bool) (hrm:1≤room) :
  HC Tryz.prog 161 #[ptr p,.int .i64 no,sv bs,.bool d] h (fun v h'=>∃F',CRep h' F' p room (putL room no l d L)∧Step F h F' h'∧FrIn h' F' v (putA room no l d L)):=by
 obtain ⟨m,ov,ks,q,r⟩:=r;obtain ⟨dd,hdd⟩:∃dd,dd=(d || wasD no L):=⟨_,rfl⟩;refine HC.body Tryz.func161 rfl (by kernel_rfl) 87 rfl rfl ?_;refine HW.seq fun K1 hK1=>?_;refine HW.region ?_;refine HO.v (V.asS rfl) rfl 8 rfl rfl ?_;refine HO.nil ?_;refine hK1 _ _ ?_;refine HW.seq fun K2 hK2=>?_;refine HW.seq fun K3 hK3=>?_;refine HW.region ?_;refine HO.v (V.mvP rfl) rfl 12 rfl rfl ?_;refine HO.v (V.ptrEqNil rfl rfl T.pt109) rfl 13 rfl rfl ?_;refine HO.v (V.mvB rfl) rfl 14 rfl rfl ?_;refine HO.spl (fun hb2=>?_) (fun hb2=>?_)
 ·
  refine HO.no rfl 15 rfl rfl ?_;refine HO.no rfl 16 rfl rfl ?_;refine HO.v (V.pick_t rfl rfl) rfl 17 rfl rfl ?_;refine HO.nil ?_;refine hK3 _ _ ?_;refine HW.cond_t rfl ?_;refine HW.seq fun K4 hK4=>?_;refine HW.region ?_;refine HO.v (V.asS rfl) rfl 8 rfl rfl ?_;refine HO.nil ?_;refine hK4 _ _ ?_;refine HW.ret ?_;refine ⟨.slice none 0 0,Res.one rfl rfl,(by simp at hb2)⟩
 ·
  refine HO.v (V.mvI rfl) rfl 15 rfl rfl ?_;refine HO.v (V.lss rfl rfl rfl) rfl 16 rfl rfl ?_;refine HO.v (V.pick_f rfl rfl) rfl 17 rfl rfl ?_;refine HO.nil ?_;refine hK3 _ _ ?_;refine HW.cond rfl (fun hc=>?_) (fun hc=>?_)
  ·
   refine HW.seq fun K5 hK5=>?_;refine HW.region ?_;refine HO.v (V.asS rfl) rfl 8 rfl rfl ?_;refine HO.nil ?_;refine hK5 _ _ ?_;refine HW.ret ?_;refine ⟨.slice none 0 0,Res.one rfl rfl,F,(by unfold putL;rw [if_pos (of_decide_eq_true hc)];exact ⟨m,ov,ks,q,r⟩),⟨Chg.refl _ _,fun b hb=>.inl hb⟩,(by unfold putA;rw [if_pos (of_decide_eq_true hc)];exact FrIn.nil)⟩
  refine HW.skip ?_;refine hK2 _ _ ?_;refine HW.seqc (fun s hh=>Has s [(0,ptr p),(1,.int .i64 no),(2,sv bs),(3,.bool dd)]∧h=hh) ?_ ?_
  ·
   refine HW.seq fun K7 hK7=>?_;refine HW.region ?_;refine HO.v (V.mvP rfl) rfl 18 rfl rfl ?_;refine HO.v (V.nilCheck rfl) rfl 19 rfl rfl ?_;refine HO.v (V.fieldAddr rfl T.fd189_2) rfl 20 rfl rfl ?_;refine HO.v (V.load rfl (load_one T.ag185 (v:=.map (some m)) (cell_of r.hp 2))) rfl 21 rfl rfl ?_;refine HO.v (V.mvI rfl) rfl 22 rfl rfl ?_;refine HO.v (V.lookupE (KV.int .i64) rfl rfl r.mp.map T.mp185 (inB_iff T.in3) T.zr213 (r.mp.get no)) rfl 23 rfl rfl ?_;refine HO.v (V.asP rfl) rfl 9 rfl rfl ?_;refine HO.nil ?_;refine hK7 _ _ ?_;refine HW.seq fun K8 hK8=>?_;refine HW.region ?_;refine HO.v (V.mvP rfl) rfl 24 rfl rfl ?_;refine HO.v (V.ptrNeNil rfl rfl T.pt213) rfl 25 rfl rfl ?_;refine HO.nil ?_;refine hK8 _ _ ?_;refine HW.condr rfl (fun hc=>?_) (fun hc=>?_)
   ·
    refine HW.skip ?_;have hn:hit no L=none:=by simpa using hc
    obtain rfl:d=dd:=by subst hdd;unfold wasD;rw [hn];simp
    refine ⟨⟨rfl,rfl,rfl,rfl,trivial⟩,rfl⟩
   refine HW.region ?_;refine HO.v (V.mvB rfl) rfl 26 rfl rfl ?_;refine HO.v (V.mvB rfl) rfl 27 rfl rfl ?_;refine HO.spl (fun hb1=>?_) (fun hb1=>?_)
   ·
    refine HO.no rfl 28 rfl rfl ?_;refine HO.no rfl 29 rfl rfl ?_;refine HO.no rfl 30 rfl rfl ?_;refine HO.no rfl 31 rfl rfl ?_;refine HO.v (V.pick_t rfl rfl) rfl 32 rfl rfl ?_;refine HO.v (V.asB rfl) rfl 3 rfl rfl ?_;refine HO.nil ?_;obtain rfl:true=dd:=by subst hdd hb1;simp
    refine ⟨⟨rfl,rfl,rfl,rfl,trivial⟩,rfl⟩
   ·
    have hx:∃x,hit no L=some x:=by
     cases e:hit no L with
     | some x=>exact ⟨x,rfl⟩
     | none=>rw [e] at hc;simp at hc
    obtain ⟨x,hx⟩:=hx;obtain ⟨hxm,hxn⟩:=hit_some hx;obtain ⟨pb,hq,_⟩:=r.hpage hxm;rw [hxn] at hq;rw [hx];refine HO.v (V.mvP rfl) rfl 28 rfl rfl ?_;refine HO.v (V.nilCheck rfl) rfl 29 rfl rfl ?_;refine HO.v (V.fieldAddr rfl T.fd215_1) rfl 30 rfl rfl ?_;refine HO.v (V.load rfl (load_one T.ag4 (v:=.bool x.d) (cell_of hq 1))) rfl 31 rfl rfl ?_;refine HO.v (V.pick_f rfl rfl) rfl 32 rfl rfl ?_;refine HO.v (V.asB rfl) rfl 3 rfl rfl ?_;refine HO.nil ?_;obtain rfl:x.d=dd:=by subst hdd hb1;unfold wasD;rw [hx];simp
    refine ⟨⟨rfl,rfl,rfl,rfl,trivial⟩,rfl⟩
  rintro s hh ⟨hs,rfl⟩;refine HW.frame hs fun τ=>?_;refine HW.seq fun K9 hK9=>?_;refine HW.any 10 (fun fl h=>cond fl True (h[p]? = some (.cells #[sv ov,.int .i64 room,.map (some m)] 189 (0,0)))) mixed ?_;have hS:h[p]? = some (.cells #[sv ov,.int .i64 room,.map (some m)] 189 (0,0)):=r.hp;refine HA.p 0 rfl (by kernel_rfl) (by kernel_rfl) (by kernel_rfl) rfl rfl 33 rfl rfl (fl:=false) (by kernel_rfl) hS (fun _=>V.mvP rfl) ?_;refine HA.p 1 rfl (by kernel_rfl) (by kernel_rfl) (by kernel_rfl) rfl rfl 34 rfl rfl (fl:=false) (by kernel_rfl) hS (fun _=>V.nilCheck rfl) ?_;refine HA.p 2 rfl (by kernel_rfl) (by kernel_rfl) (by kernel_rfl) rfl rfl 35 rfl rfl (fl:=false) (by kernel_rfl) hS (fun _=>V.fieldAddr rfl T.fd189_2) ?_;refine HA.v 3 rfl (by kernel_rfl) (by kernel_rfl) (by kernel_rfl) rfl rfl 36 rfl rfl (fl:=false) (by kernel_rfl) hS (by kernel_rfl) (fun _ hS=>V.load rfl (load_one T.ag185 (v:=.map (some m)) (cell_of hS 2))) ?_;refine HA.p 4 rfl (by kernel_rfl) (by kernel_rfl) (by kernel_rfl) rfl rfl 37 rfl rfl (fl:=false) (by kernel_rfl) hS (fun _=>V.mvI rfl) ?_;refine HA.p 5 rfl (by kernel_rfl) (by kernel_rfl) (by kernel_rfl) rfl rfl 38 rfl rfl (fl:=false) (by kernel_rfl) hS (fun _=>V.mvS rfl) ?_;refine HA.p 7 rfl (by kernel_rfl) (by kernel_rfl) (by kernel_rfl) rfl rfl 40 rfl rfl (fl:=false) (by kernel_rfl) hS (fun _=>V.mvB rfl) ?_;refine HA.one 6 (by kernel_rfl) ?_;refine Up.c rfl rfl 39 rfl rfl OpC.func (cloneB_any hb (by omega)) (fl:=false) (by kernel_rfl) ?_;rintro _ h1 ow;have hSn:h1[p]? = some (.cells #[sv ov,.int .i64 room,.map (some m)] 189 (0,0)):=ow.ext.block r.hp (fun f=>f);refine ⟨hSn,?_⟩;replace hS:=hSn;obtain ⟨rb,rfl⟩:=ow.cap.form;refine HA.p 8 rfl (by kernel_rfl) (by kernel_rfl) (by kernel_rfl) rfl rfl 41 rfl rfl (fl:=false) (by kernel_rfl) hS (fun _=>V.build (cs:=#[sv rb,.bool dd]) T.zr215 T.pl215 rfl) ?_;refine HA.one 9 (by kernel_rfl) ?_;have hSn:(h1.push (.cells #[sv rb,.bool dd] 215 (0,0)))[p]? = some (.cells #[sv ov,.int .i64 room,.map (some m)] 189 (0,0)):=push_other hS;refine Up.e rfl rfl 42 rfl rfl (V.boxA rfl) (fl:=false) (by kernel_rfl) hSn ?_;replace hS:=hSn;refine HA.one 10 (by kernel_rfl) ?_;have e2:Ext h (h1.push (.cells #[sv rb,.bool dd] 215 (0,0))):=ow.ext.trans (Ext.push _ _);refine Up.ur rfl rfl rfl (V.mapUpdate (KV.int .i64) V.sbI rfl rfl rfl (r.mp.map.ext e2) T.mp185 (inB_iff T.in3)) (fl:=true) (by kernel_rfl) ?_;rintro h3 pu;refine ⟨trivial,?_⟩;refine HA.done (by kernel_rfl) ?_;refine hK9 _ _ ?_;refine HW.seq fun K10 hK10=>?_;have c3:CMap h3 (fun b=>F b∨h.size≤b) m (putL1 no l d L) (kput ks no) (fput q no h1.size):=by
   have c2:CMap (h1.push (.cells #[sv rb,.bool dd] 215 (0,0))) F m L ks q:=r.mp.chg e2 (fun _ g _=>g.elim) fun _ f=>f;have hp:PgAt (h1.push (.cells #[sv rb,.bool dd] 215 (0,0))) (fun b=>F b∨h.size≤b) h1.size ⟨no,l,dd⟩:=⟨⟨rb,push_same _ _,ow.cap.ext (Ext.push _ _),fun j hj=>.inr (ow.fresh j hj)⟩,.inr ow.ext.size⟩;have:=c2.put hp (fun y hy e=>by
    have h1:=r.lt _ (r.mp.pg y hy).own;have h2:=ow.ext.size;omega) (fun b f=>.inl f) pu
   unfold putL1;rw [←hdd];exact this
  have hsz:h.size≤h3.size:=by have h1:=e2.size;have h2:=pu.size;omega
  have hc3:Chg (fun b=>b=m) h h3:=e2.to.trans pu.chg;have o3:Ordr h3 p (.int .i64 room) (.map (some m)) ov (nos L).reverse:=r.od.chg hc3 r.ne_p r.ne_o;refine HW.region ?_;refine HO.v (V.mvP rfl) rfl 43 rfl rfl ?_;refine HO.v (V.nilCheck rfl) rfl 44 rfl rfl ?_;refine HO.v (V.fieldAddr rfl T.fd189_0) rfl 45 rfl rfl ?_;refine HO.v (V.mvI rfl) rfl 46 rfl rfl ?_;refine HO.c OpC.func rfl 47 rfl rfl (touch_any o3 (by have:=r.len;simp [nos];omega)) ?_;rintro _ h4 ⟨ov1,rfl,t⟩;refine HO.nil ?_;refine hK10 _ _ ?_;have o4:Ordr h4 p (.int .i64 room) (.map (some m)) ov1 (nos (putL1 no l d L)).reverse:=by
   have:=t.ordr;have e:=order_touch (x:=⟨no,l,d || wasD no L⟩) r.mp.nd;rw [e] at this;exact this
  have c4:CMap h4 (fun b=>F b∨h.size≤b) m (putL1 no l d L) (kput ks no) (fput q no h1.size):=c3.chg t.chg (fun b g _=>by
   rcases g with rfl | hb
   ·exact .inl ⟨_,_,o3.hp⟩
   ·exact .inr (o3.ord.blk hb)) fun _ f=>f
  have i4:=CIn.mk' c4 o4 (.inl r.fp) (fun b hb=>(t.place b hb).imp (r.fo b) fun h=>Nat.le_trans hsz h) (by have h1:=putL1_len no l d L;omega) (fun y hy=>by
   rcases List.mem_cons.1 hy with rfl | hy
   ·exact hbl
   ·exact r.sm y (mem_rid.1 hy).1)
  have st4:Step F h (fun b=>(F b∨h.size≤b)∧b<h4.size) h4:=⟨(hc3.mono fun b _ hb=>by subst hb;exact r.mp.own).trans' t.chg fun b _ hb=>by
   rcases hb with rfl | hb
   ·exact r.fp
   ·exact r.fo b hb,fun b hb=>hb.1⟩
  have hno:¬no<1:=of_decide_eq_false hc;have hol:ov1.2.1=(putL1 no l d L).length:=by
   obtain ⟨a,n,c⟩:=ov1;have ho:Cap h4 1 3 (.slice a n c) ((nos (putL1 no l d L)).reverse.map iv):=o4.ord;have:=ho.sl.cells.len;simpa [nos] using this.symm
  refine HW.seq fun K11 hK11=>?_;refine HW.seq fun K12 hK12=>?_;refine HW.quiet mixed (by kernel_rfl) ?_;refine HQ.v (V.mvP rfl) rfl 48 rfl rfl ?_;refine HQ.v (V.nilCheck rfl) rfl 49 rfl rfl ?_;refine HQ.v (V.fieldAddr rfl T.fd189_0) rfl 50 rfl rfl ?_;refine HQ.v (V.fieldAddr rfl T.fd187_0) rfl 51 rfl rfl ?_;refine HQ.v (V.load rfl (load_one T.ag167 (v:=sv ov1) (cell_of t.ordr.hp 0))) rfl 52 rfl rfl ?_;refine HQ.v (V.len rfl T.el167) rfl 53 rfl rfl ?_;refine HQ.v (V.mvP rfl) rfl 54 rfl rfl ?_;refine HQ.v (V.nilCheck rfl) rfl 55 rfl rfl ?_;refine HQ.v (V.fieldAddr rfl T.fd189_1) rfl 56 rfl rfl ?_;refine HQ.v (V.load rfl (load_one T.ag3 (v:=.int .i64 room) (cell_of t.ordr.hp 1))) rfl 57 rfl rfl ?_;refine HQ.v (V.leq rfl rfl rfl) rfl 58 rfl rfl ?_;refine HQ.nil ?_;refine hK12 _ _ ?_;refine HW.cond rfl (fun hc=>?_) (fun hc=>?_)
  ·
   refine HW.seq fun K13 hK13=>?_;have hle:((putL1 no l d L).length:Int)≤room:=by have:=of_decide_eq_true hc;omega
   refine HW.region ?_;refine HO.v (V.asS rfl) rfl 8 rfl rfl ?_;refine HO.nil ?_;refine hK13 _ _ ?_;refine HW.ret ?_;refine ⟨.slice none 0 0,Res.one rfl rfl,_,(by unfold putL;rw [if_neg hno,if_pos hle];exact ⟨m,ov1,_,_,i4⟩),st4,(by unfold putA;rw [if_neg hno,if_pos hle];exact FrIn.nil)⟩
  refine HW.skip ?_;refine hK11 _ _ ?_;refine HW.seq fun K14 hK14=>?_;have hgt:¬((putL1 no l d L).length:Int)≤room:=by have:=of_decide_eq_false hc;omega
  obtain ⟨x,hlast⟩:∃x,(putL1 no l d L).getLast? = some x:=by
   cases e:(putL1 no l d L).getLast? with
   | some x=>exact ⟨x,rfl⟩
   | none=>rw [List.getLast?_eq_none_iff] at e;simp [putL1] at e
  have hxm:x∈putL1 no l d L:=List.mem_of_getLast? hlast;obtain ⟨pb,hq,hpb,hpf⟩:=i4.hpage hxm;have hhx:hit x.no (putL1 no l d L)=some x:=by
   obtain ⟨y,hy⟩:=hit_mem (List.mem_map.2 ⟨x,hxm,rfl⟩:x.no∈nos (putL1 no l d L));rw [hy,nos_inj i4.mp.nd (hit_some hy).1 hxm (hit_some hy).2]
  obtain ⟨oa,on,oc⟩:=ov1;have hoc0:Cap h4 1 3 (.slice oa on oc) ((nos (putL1 no l d L)).reverse.map iv):=o4.ord;have hol':on=(putL1 no l d L).length:=hol;obtain ⟨ob,oo,rfl,hoc⟩:=hoc0.sl.cells.pos (by rw [hol'];simp [putL1]);have hx0:((nos (putL1 no l d L)).reverse.map iv)[0]? = some (.int .i64 x.no):=by
   obtain ⟨M,hM⟩:=List.getLast?_eq_some_iff.1 hlast;rw [hM];simp [nos,iv]
  refine HW.region ?_;refine HO.v (V.mvP rfl) rfl 59 rfl rfl ?_;refine HO.v (V.nilCheck rfl) rfl 60 rfl rfl ?_;refine HO.v (V.fieldAddr rfl T.fd189_0) rfl 61 rfl rfl ?_;refine HO.v (V.fieldAddr rfl T.fd187_0) rfl 62 rfl rfl ?_;refine HO.v (V.load rfl (load_one T.ag167 (v:=sv (some ⟨ob,oo,none⟩,on,oc)) (cell_of t.ordr.hp 0))) rfl 63 rfl rfl ?_;refine HO.v (V.indexAddr1 rfl rfl T.el167 T.sz3 (by omega)) rfl 64 rfl rfl ?_;refine HO.v (V.load rfl (load_one T.ag3 (v:=.int .i64 x.no) (hoc 0 _ hx0))) rfl 65 rfl rfl ?_;refine HO.v (V.asI rfl) rfl 10 rfl rfl ?_;refine HO.nil ?_;refine hK14 _ _ ?_;refine HW.seq fun K15 hK15=>?_;refine HW.region ?_;refine HO.v (V.mvP rfl) rfl 66 rfl rfl ?_;refine HO.v (V.nilCheck rfl) rfl 67 rfl rfl ?_;refine HO.v (V.fieldAddr rfl T.fd189_2) rfl 68 rfl rfl ?_;refine HO.v (V.load rfl (load_one T.ag185 (v:=.map (some m)) (cell_of t.ordr.hp 2))) rfl 69 rfl rfl ?_;refine HO.v (V.mvI rfl) rfl 70 rfl rfl ?_;refine HO.v (V.lookupE (KV.int .i64) rfl rfl i4.mp.map (v:=ptr (fput q no h1.size x.no)) T.mp185 (inB_iff T.in3) T.zr213 ((i4.mp.get x.no).trans (by rw [hhx];rfl))) rfl 71 rfl rfl ?_;refine HO.v (V.asP rfl) rfl 11 rfl rfl ?_;refine HO.nil ?_;refine hK15 _ _ ?_;refine HW.seq fun K16 hK16=>?_;refine HW.region ?_;refine HO.v (V.mvP rfl) rfl 72 rfl rfl ?_;refine HO.v (V.mvI rfl) rfl 73 rfl rfl ?_;refine HO.c OpC.func rfl 74 rfl rfl (drop_in i4 x.no) ?_;rintro _ h5 ⟨ov5,rfl,i5,chg5⟩;refine HO.nil ?_;refine hK16 _ _ ?_;have hk5:∀b,(b=m∨b=p∨blkC (sv (some ⟨ob,oo,none⟩,on,oc)) b)→isT h4 b 215∨isT h4 b 5→False:=fun b hb ht=>by
   rcases hb with rfl | hb
   ·obtain ⟨es,cl,h1,_⟩:=i4.mp.map;rcases ht with ⟨cs,fz,h2⟩ | ⟨cs,fz,h2⟩<;>(rw [h1] at h2;injection h2 with h2;cases h2)
   ·rcases i4.kind b hb with h1 | h1<;>rcases ht with h2 | h2<;>exact absurd (h1.eq h2) (by decide)
  have hq5:h5[fput q no h1.size x.no]? = some (.cells #[sv pb,.bool x.d] 215 (0,0)):=chg5.block hq fun hb=>hk5 _ hb (.inl ⟨_,_,hq⟩);have hpb5:Cap h5 1 5 (sv pb) (x.b.map bv):=hpb.chg chg5 fun j hj hb=>hk5 _ hb (.inr (hpb.blk hj));have st5:=st4.trans (F2:=wd (fun b=>(F b∨h.size≤b)∧b<h4.size) h4.size h5.size) ⟨chg5.mono fun b _ hb=>by
   rcases hb with rfl | rfl | hb
   ·exact i4.mp.own
   ·exact i4.fp
   ·exact i4.fo b hb,fun b hb=>hb.imp id fun h=>h.1⟩
  refine HW.seq fun K17 hK17=>?_;refine HW.seq fun K18 hK18=>?_;refine HW.region ?_;refine HO.v (V.mvP rfl) rfl 75 rfl rfl ?_;refine HO.v (V.nilCheck rfl) rfl 76 rfl rfl ?_;refine HO.v (V.fieldAddr rfl T.fd215_1) rfl 77 rfl rfl ?_;refine HO.v (V.load rfl (load_one T.ag4 (v:=.bool x.d) (cell_of hq5 1))) rfl 78 rfl rfl ?_;refine HO.v (V.not rfl) rfl 79 rfl rfl ?_;refine HO.nil ?_;refine hK18 _ _ ?_;refine HW.cond rfl (fun hc=>?_) (fun hc=>?_)
  ·
   refine HW.seq fun K19 hK19=>?_;refine HW.region ?_;refine HO.v (V.asS rfl) rfl 8 rfl rfl ?_;refine HO.nil ?_;refine hK19 _ _ ?_;refine HW.ret ?_;refine ⟨.slice none 0 0,Res.one rfl rfl,_,(by unfold putL;rw [if_neg hno,if_neg hgt,←drop_last i4.mp.nd hlast];exact ⟨m,ov5,_,_,i5⟩),st5,(by unfold putA;rw [if_neg hno,if_neg hgt,hlast,told_no (by simpa using hc)];exact FrIn.nil)⟩
  refine HW.skip ?_;refine hK17 _ _ ?_;refine HW.seq fun K20 hK20=>?_;refine HW.region ?_;refine HO.v (V.mvI rfl) rfl 80 rfl rfl ?_;refine HO.v (V.mvP rfl) rfl 81 rfl rfl ?_;refine HO.v (V.nilCheck rfl) rfl 82 rfl rfl ?_;refine HO.v (V.fieldAddr rfl T.fd215_0) rfl 83 rfl rfl ?_;refine HO.v (V.load rfl (load_one T.ag22 (v:=sv pb) (cell_of hq5 0))) rfl 84 rfl rfl ?_;refine HO.v (V.build (cs:=#[.int .i64 x.no,.int .i64 0,sv pb]) T.zr102 T.pl102 rfl) rfl 85 rfl rfl ?_;refine HO.e (V.buildSlice [.tmp 85] (cs:=#[.int .i64 x.no,.int .i64 0,sv pb]) T.el76 T.sz102 T.zr102 rfl rfl rfl ⟨rfl,trivial⟩ rfl) rfl 86 rfl rfl ?_;refine HO.v (V.asS rfl) rfl 8 rfl rfl ?_;refine HO.nil ?_;refine hK20 _ _ ?_;refine HW.ret ?_;have i6:CIn (h5.push (.cells #[.int .i64 x.no,.int .i64 0,sv pb] 102 (0,0))) (fun b=>wd (fun b=>(F b∨h.size≤b)∧b<h4.size) h4.size h5.size b∨b=h5.size) p m ov5 room _ _ _:=
   ⟨i5.mp.chg (G:=none_) (Ext.push _ _) (fun _ f=>f.elim) fun _ f=>.inl f,i5.od.chg (G:=none_) (Ext.push _ _) (fun f=>f) fun _ _ f=>f,.inl i5.fp,fun b hb=>.inl (i5.fo b hb),fun b hb=>by
    rw [Array.size_push];rcases hb with hb | rfl
    ·have:=i5.lt b hb;omega
    ·omega,i5.len,i5.sm⟩
  refine ⟨.slice (some ⟨h5.size,0,none⟩) 1 1,Res.one rfl rfl,_,(by unfold putL;rw [if_neg hno,if_neg hgt,←drop_last i4.mp.nd hlast];exact ⟨m,ov5,_,_,i6⟩),⟨st5.chg.trans' (Ext.push _ _) fun _ _ f=>f.elim,fun b hb=>Or.elim (show wd (fun b=>(F b∨h.size≤b)∧b<h4.size) h4.size h5.size b∨b=h5.size from hb) (st5.place b) fun e=>.inr (by have:=st5.chg.size;omega)⟩,?_⟩;have hd:x.d=true:=by simpa using hc
  unfold putA;rw [if_neg hno,if_neg hgt,hlast,told_yes hd];refine ⟨(some ⟨h5.size,0,none⟩,1,1),rfl,rfl,Nat.le_refl _,by simp,fun _=>⟨h5.size,0,rfl,.inr rfl,fun i hi=>?_⟩⟩;obtain rfl:i=0:=by simp at hi;omega
  refine ⟨[.int .i64 x.no,.int .i64 0,sv pb],⟨pb,rfl,(RdL.of_cap1 (f:=bv) (x:=pb) (l:=x.b) (E:=none_) rfl (fun _ _ _=>rfl) (hpb5.ext (Ext.push _ _))).mono (fun j hj=>.inl (.inl (hpf j hj))) (fun _ f=>f.elim)⟩,fun j v hj=>?_⟩;rw [Nat.zero_mul,Nat.zero_add];exact cell_of (push_same _ _) j |>.trans (by simpa using hj)
theorem ints_cell {h:Heap} {a:Option Addr} {n c:Nat} {l:List Int} (r:Sl h 1 (.slice a n c) (l.map iv)) {j:Nat} (hj:j<l.length):∃b o,a=some ⟨b,o,none⟩∧cell h b (o+j)=some (.int .i64 l[j]):=by
 have hl:=r.cells.len;obtain ⟨b,o,rfl,hc⟩:=r.cells.pos (by simp at hl;omega);exact ⟨b,o,rfl,hc j _ (by simp [hj,iv])⟩
def dirty1 (L:List AP) (k:Int):List AFr:=toldL (hit k L)
def dirtyS (S:List Int) (L:List AP):List AFr:=S.flatMap (dirty1 L)
structure FrCap (h:Heap) (f:CFr) (x:AFr):Prop where
 page:f.page=x.page
 commit:f.commit=x.commit
 b:Cap h 1 5 (sv f.b) (x.b.map bv)
theorem FrCap.chg {F:Nat→Prop} {h h':Heap} {f:CFr} {x:AFr} (r:FrCap h f x) (c:Chg F h h') (hf:∀b,F b→isT h b 5→False):FrCap h' f x:=
 ⟨r.page,r.commit,r.b.chg c fun b hb g=>by
  obtain ⟨cs,fz,h1⟩:=r.b.blk hb;exact hf b g ⟨cs,fz,h1⟩⟩
structure FrNw (h0 h:Heap) (f:CFr) (x:AFr):Prop where
 is:FrCap h f x
 nw:∀j,blkC (sv f.b) j→h0.size≤j
theorem FrNw.in {h0 h:Heap} {v:SV} {fl:List CFr} {L:List AFr} (hx:Ext h0 h) (c:Cap h 3 102 (sv v) (fl.flatMap fr)) (hv:∀j,blkC (sv v) j→h0.size≤j) (hall:All2 (FrNw h0 h) fl L):FrIn h (Nw h0 h) (sv v) L:=by
 refine ⟨v,rfl,(RdL.of_cap (α:=Fr) (E:=Nw h0 h) (css:=fl.map fr) (by rw [←List.flatMap_def];exact c) ⟨by simp [hall.1],fun i h1 h2=>?_⟩).mono (fun j hj=>⟨hv j hj,c.lt hj⟩) (fun _ h=>h)⟩;have q:=hall.2 i (by simpa using h1) (by simpa using h2);rw [List.getElem_map,List.getElem_map];refine ⟨(fl[i]'(by simpa using h1)).b,by simp only [fr,AFr.fr,q.is.page,q.is.commit];rfl,(RdL.of_cap1 (f:=bv) (E:=none_) rfl (fun _ _ _=>rfl) q.is.b).mono (fun j hj=>⟨q.nw j hj,q.is.b.lt hj⟩) (fun _ f=>f.elim)⟩
theorem dirty_next {S:List Int} {L:List AP} {k:Nat} (h:k<S.length):dirtyS (S.take (k+1)) L=dirtyS (S.take k) L++dirty1 L S[k]:=by
 unfold dirtyS;rw [take_next h,List.flatMap_append];simp
theorem dirty_len (S:List Int) (L:List AP):(dirtyS S L).length≤S.length:=by
 unfold dirtyS;induction S with
 | nil=>simp
 | cons a s ih=>
  rw [List.flatMap_cons,List.length_append];have:(dirty1 L a).length≤1:=by
   unfold dirty1 toldL;split
   ·split<;>simp
   ·simp
  simp only [List.length_cons];omega
theorem dirty_any {h:Heap} {F:Nat→Prop} {p:Nat} {room:Int} {L:List AP} (r:CRep h F p room L) (hr:∀k∈nos L,-9223372036854775808≤k∧k≤9223372036854775807) :
  HC Tryz.prog 193 #[ptr p] h (fun v h'=>∃S:List Int,S.Perm (nos L)∧S.Pairwise (·≤·)∧FrIn h' (Nw h h') v (dirtyS S L)∧Ext h h'):=by
 obtain ⟨mb,ov,ks,q,r⟩:=r;have hkp:ks.Perm (nos L):=(List.perm_ext_iff_of_nodup r.mp.keys r.mp.nd).2 r.mp.mem;have hkl:ks.length≤1000000000000:=by rw [hkp.length_eq];have:=r.len;simp [nos];omega
 refine HC.body Tryz.func193 rfl (by kernel_rfl) 42 rfl rfl ?_;refine HW.seq fun K1 hK1=>?_;refine HW.region ?_;refine HO.v (V.asS rfl) rfl 2 rfl rfl ?_;refine HO.nil ?_;refine hK1 _ _ ?_;refine HW.seq fun K2 hK2=>?_;refine HW.seq fun K3 hK3=>?_;refine HW.region ?_;refine HO.v (V.mvP rfl) rfl 7 rfl rfl ?_;refine HO.v (V.ptrEqNil rfl rfl T.pt109) rfl 8 rfl rfl ?_;refine HO.nil ?_;refine hK3 _ _ ?_;refine HW.cond rfl (fun hc=>?_) (fun hc=>?_)
 ·
  refine HW.seq fun K4 hK4=>?_;refine HW.region ?_;refine HO.v (V.asS rfl) rfl 2 rfl rfl ?_;refine HO.nil ?_;refine hK4 _ _ ?_;refine HW.ret ?_;refine ⟨.slice none 0 0,Res.one rfl rfl,(by simp at hc)⟩
 refine HW.skip ?_;refine hK2 _ _ ?_;refine HW.seq fun K5 hK5=>?_;refine HW.region ?_;refine HO.v (V.asS rfl) rfl 3 rfl rfl ?_;refine HO.nil ?_;refine hK5 _ _ ?_;refine HW.seq fun K6 hK6=>?_;refine HW.seq fun K7 hK7=>?_;refine HW.region ?_;refine HO.v (V.mvP rfl) rfl 9 rfl rfl ?_;refine HO.v (V.nilCheck rfl) rfl 10 rfl rfl ?_;refine HO.v (V.fieldAddr rfl T.fd189_2) rfl 11 rfl rfl ?_;refine HO.v (V.load rfl (load_one T.ag185 (v:=.map (some mb)) (cell_of r.hp 2))) rfl 12 rfl rfl ?_;refine HO.c OpC.func rfl 13 rfl rfl ckeys_any ?_;rintro _ _ ⟨rfl,rfl⟩;refine HO.c OpC.func rfl 14 rfl rfl (csorted_any r.mp.map (fun k hk=>hr k ((r.mp.mem k).1 hk)) hkl) ?_;rintro _ h1 ⟨S,hp0,hsort,ow⟩;obtain ⟨⟨sa,sn,sc⟩,rfl⟩:=ow.cap.form;have hperm:=hp0.trans hkp;have x1:=(Ext.push h (.cells #[.map (some mb)] 185 (0,0))).trans ow.ext;have hsl:Sl h1 1 (.slice sa sn sc) (S.map iv):=ow.sl;have hSn:S.length=sn:=by simpa using hsl.cells.len
 have hSl:S.length≤100000001:=by rw [hperm.length_eq];have:=r.len;simpa [nos] using this
 refine HO.v (V.len rfl T.el167) rfl 15 rfl rfl ?_;refine HO.v (V.mvI rfl) rfl 16 rfl rfl ?_;refine HO.nil ?_;refine hK7 _ _ ?_;refine HW.block ?_;refine HW.loopm (fun m s hh=>∃(k:Nat) (wv:SV),Has s [(0,ptr p),(3,sv wv),(14,.slice sa sn sc),(15,.int .i64 sn),(16,.int .i64 k)]∧(∃fl,Own h1 hh 3 102 (sv wv) (fl.flatMap fr)∧All2 (FrNw h hh) fl (dirtyS (S.take k) L))∧k≤sn∧m=sn-k) ?_ ?_
 ·exact ⟨_,0,(none,0,0),⟨rfl,rfl,rfl,rfl,rfl,trivial⟩,⟨[],Own.nil (Ext.refl _) _ _,All2.nil⟩,by omega,rfl⟩
 rintro m s hh ⟨k,wv,hs,⟨fl,owf,hall⟩,hkn,rfl⟩ J8 hJ8;refine HW.frame hs fun τ=>?_;refine HW.seq fun K9 hK9=>?_;refine HW.region ?_;refine HO.v (V.lss rfl rfl rfl) rfl 17 rfl rfl ?_;refine HO.nil ?_;refine hK9 _ _ ?_;refine HW.seq fun K10 hK10=>?_;refine HW.condr rfl (fun hc=>?_) (fun hc=>?_)
 ·
  refine HW.exit ?_;refine hK6 _ _ ?_;refine HW.seq fun K11 hK11=>?_;refine HW.region ?_;refine HO.v (V.mvS rfl) rfl 41 rfl rfl ?_;refine HO.v (V.asS rfl) rfl 2 rfl rfl ?_;refine HO.nil ?_;refine hK11 _ _ ?_;refine HW.ret ?_;refine ⟨sv wv,Res.one rfl rfl,S,hperm,hsort,(by have h1:=of_decide_eq_false hc;rw [List.take_of_length_le (by omega)] at hall;exact FrNw.in (x1.trans owf.ext) owf.cap (fun j hj=>Nat.le_trans x1.size (owf.fresh j hj)) hall),x1.trans owf.ext⟩
 refine HW.skip ?_;refine hK10 _ _ ?_;refine HW.seq fun K12 hK12=>?_;have hk2:k<S.length:=by have:=of_decide_eq_true hc;omega
 have rH:=r.chg (x1.trans owf.ext) fun _ _ f=>f;have hnx:=dirty_next (L:=L) hk2;obtain ⟨b,o,rfl,hcel⟩:=ints_cell (hsl.ext owf.ext) hk2;obtain ⟨x,hx⟩:=hit_mem ((hperm.mem_iff).1 (List.getElem_mem hk2));obtain ⟨hxm,hxn⟩:=hit_some hx;obtain ⟨pb,hq,hpb,_⟩:=rH.hpage hxm;rw [hxn] at hq;refine HW.block ?_;refine HW.seq fun K13 hK13=>?_;refine HW.region ?_;refine HO.v (V.indexAddr1 rfl rfl T.el167 T.sz3 (by omega)) rfl 18 rfl rfl ?_;refine HO.v (V.load rfl (load_one T.ag3 (v:=.int .i64 S[k]) hcel)) rfl 19 rfl rfl ?_;refine HO.v (V.asI rfl) rfl 5 rfl rfl ?_;refine HO.nil ?_;refine hK13 _ _ ?_;refine HW.seq fun K14 hK14=>?_;refine HW.region ?_;refine HO.v (V.mvP rfl) rfl 20 rfl rfl ?_;refine HO.v (V.nilCheck rfl) rfl 21 rfl rfl ?_;refine HO.v (V.fieldAddr rfl T.fd189_2) rfl 22 rfl rfl ?_;refine HO.v (V.load rfl (load_one T.ag185 (v:=.map (some mb)) (cell_of rH.hp 2))) rfl 23 rfl rfl ?_;refine HO.v (V.mvI rfl) rfl 24 rfl rfl ?_;refine HO.v (V.lookupE (KV.int .i64) rfl rfl rH.mp.map (v:=ptr (q S[k])) T.mp185 (inB_iff T.in3) T.zr213 ((rH.mp.get S[k]).trans (by rw [hx];rfl))) rfl 25 rfl rfl ?_;refine HO.v (V.asP rfl) rfl 6 rfl rfl ?_;refine HO.nil ?_;refine hK14 _ _ ?_;refine HW.seq fun K15 hK15=>?_;refine HW.region ?_;refine HO.v (V.mvP rfl) rfl 26 rfl rfl ?_;refine HO.v (V.nilCheck rfl) rfl 27 rfl rfl ?_;refine HO.v (V.fieldAddr rfl T.fd215_1) rfl 28 rfl rfl ?_;refine HO.v (V.load rfl (load_one T.ag4 (v:=.bool x.d) (cell_of hq 1))) rfl 29 rfl rfl ?_;refine HO.nil ?_;refine hK15 _ _ ?_;refine HW.condr rfl (fun hc=>?_) (fun hc=>?_)
 ·
  refine HW.skip ?_;refine hK12 _ _ ?_;refine HW.region ?_;refine HO.v (V.add rfl rfl (by omega)) rfl 40 rfl rfl ?_;refine HO.v (V.mvI rfl) rfl 16 rfl rfl ?_;refine HO.nil ?_;refine hJ8 _ _ _ ⟨k+1,wv,⟨rfl,rfl,rfl,rfl,rfl,trivial⟩,⟨fl,owf,(by rw [hnx];unfold dirty1;rw [hx,told_no hc,List.append_nil];exact hall)⟩,by omega,rfl⟩ (by omega)
 refine HW.region ?_;refine HO.v (V.mvS rfl) rfl 30 rfl rfl ?_;refine HO.v (V.mvI rfl) rfl 31 rfl rfl ?_;refine HO.v (V.mvP rfl) rfl 32 rfl rfl ?_;refine HO.v (V.nilCheck rfl) rfl 33 rfl rfl ?_;refine HO.v (V.fieldAddr rfl T.fd215_0) rfl 34 rfl rfl ?_;refine HO.v (V.load rfl (load_one T.ag22 (v:=sv pb) (cell_of hq 0))) rfl 35 rfl rfl ?_;refine HO.c OpC.func rfl 36 rfl rfl (cloneB_any hpb.sl (by have:=r.sm x hxm;omega)) ?_;rintro _ h3 owb;obtain ⟨rb,rfl⟩:=owb.cap.form;refine HO.v (V.build (cs:=#[.int .i64 S[k],.int .i64 0,sv rb]) T.zr102 T.pl102 rfl) rfl 37 rfl rfl ?_;refine HO.e (V.buildSlice [.tmp 37] (cs:=#[.int .i64 S[k],.int .i64 0,sv rb]) T.el76 T.sz102 T.zr102 rfl rfl rfl ⟨rfl,trivial⟩ rfl) rfl 38 rfl rfl ?_;have e4:Ext hh (h3.push (.cells #[.int .i64 S[k],.int .i64 0,sv rb] 102 (0,0))):=owb.ext.trans (Ext.push _ _);have ow4:=owf.push e4;have hfit:((fl.flatMap fr).length+(fr ⟨S[k],0,rb⟩).length)*(39+1)≤140737488355328:=by
  have h1:=hall.1;have h2:=dirty_len (S.take k) L;have h3:(S.take k).length≤S.length:=by simp;omega
  have h4:(fl.flatMap fr).length=fl.length*3:=flat_len fr_len fl;have h5:(fr ⟨S[k],0,rb⟩).length=3:=rfl;omega
 refine HO.a (V.append rfl rfl T.el76 T.sz102 T.by102 T.zr102 rfl ow4.cap (sl_new (n:=1) rfl (by omega)) (fr_one ⟨S[k],0,rb⟩) hfit) rfl 39 rfl rfl ?_;rintro _ h5 hap;obtain ⟨w2,rfl⟩:=hap.cap.form;have ow5:=ow4.app hap;refine HO.v (V.asS rfl) rfl 3 rfl rfl ?_;refine HO.nil ?_;refine hK12 _ _ ?_;refine HW.region ?_;refine HO.v (V.add rfl rfl (by omega)) rfl 40 rfl rfl ?_;refine HO.v (V.mvI rfl) rfl 16 rfl rfl ?_;refine HO.nil ?_;refine hJ8 _ _ _ ⟨k+1,w2,⟨rfl,rfl,rfl,rfl,rfl,trivial⟩,⟨fl++[⟨S[k],0,rb⟩],?_,?_⟩,by omega,rfl⟩ (by omega)
 ·rw [List.flatMap_append];simpa using ow5
 ·rw [hnx];unfold dirty1;rw [hx,told_yes hc];have hty:∀j,blkC (sv wv) j→isT (h3.push (.cells #[.int .i64 S[k],.int .i64 0,sv rb] 102 (0,0))) j 5→False:=fun j hj ht=>by
   have h1:isT (h3.push (.cells #[.int .i64 S[k],.int .i64 0,sv rb] 102 (0,0))) j 102:=ow4.cap.blk hj;exact absurd (h1.eq ht) (by decide)
  refine All2.append (hall.mono fun f y h=>⟨(h.is.chg e4 fun _ g _=>g.elim).chg hap.chg hty,h.nw⟩) (All2.cons ?_ All2.nil);exact ⟨FrCap.chg ⟨hxn.symm,rfl,owb.cap.ext (Ext.push _ _)⟩ hap.chg hty,fun j hj=>Nat.le_trans (x1.trans owf.ext).size (owb.fresh j hj)⟩
def nJ:List UInt8:=[116,111,109,101,46,98,97,99,107]
def overB (d:Dk):Dk × Nat:=thenN (goneN d nM) fun d=>goneN d nJ
def lengthB (d:Dk) (n:Nat):Dk × Nat:=
 if (sizeN d nT).2=false then
  if n=0∧d.dark=false then (d,0) else thenN (writeN d nT ((n:Int)-1) [0]) fun d=>syncN d nT
 else if (sizeN d nT).1≠n then thenN (truncN d nT (n:Int)) fun d=>syncN d nT else syncN d nT
def firstF:List Int→List Fr→List Fr
 | _,[]=>[]
 | s,f::l=>if f.page∈s then firstF s l else f::firstF (s++[f.page]) l
def restoreB (d:Dk) (size pages:Nat) (l:List Fr):Dk × Nat:=thenN (writesN size d (firstF [] l)) fun d=>lengthB d (pages*size)
def healJ (d:Dk) (n:Nat):Dk × Nat:=
 let r:=readN d nJ 0 16777216
 let j:=jscanN r.1
 if r.2=13 then (d,13) else if r.2≠0∨j.2.2.2≠0∨j.2.2.1.length<n-1 then (d,14) else restoreB d j.1 j.2.1 (j.2.2.1.take (n-1))
def healB (d:Dk):Dk × Nat:=
 thenN (if (sizeN d nM).2=true∧0<(sizeN d nM).1 then healJ d (sizeN d nM).1 else (d,0)) fun d=>if d.dark=true then (d,13) else overB d
def mostB (size:Nat):Nat:=16777188 / (size+8)
def lookB (d:Dk) (size:Nat):Nat × Nat:=
 if (sizeN d nT).2=false∨(sizeN d nT).1=0 then (0,0) else
 if (readN d nT 0 64).2≠0 then (0,(readN d nT 0 64).2) else
 if (decN (readN d nT 0 64).1).2≠0∨((sizeN d nT).1:Int)%(decN (readN d nT 0 64).1).1.size≠0 then (0,14) else
 if (decN (readN d nT 0 64).1).1.size≠size then (0,1) else
 if mostB size<(sizeN d nT).1 / size then (0,5) else ((sizeN d nT).1,0)
def openB (d:Dk) (size room:Int):Dk × Nat × Nat:=
 if okZ size=false then (d,0,1) else if ¬(1≤room∧room≤1048576) then (d,0,1) else if d.dark=true then (d,0,13) else
 if (healB d).2≠0 then ((healB d).1,0,(healB d).2) else ((healB d).1,lookB (healB d).1 size.toNat)
structure Bk where
 dk:Dk
 size:Nat
 room:Int
 L:List AP
 in_:Bool
 now:Nat
 valid:Nat
 begun:Bool
 nonce:Nat
 kept:List Int
 marked:Nat
 sure:Nat
 bytes:Nat
 broken:Bool
def presB (A:Bk):Nat:=if A.in_=true then A.now else A.sure
def oldB (d:Dk) (size no:Nat):List UInt8 × Nat:=
 let r:=readN d nT (((no:Int)-1)*size) size
 (longN r.1 size,if r.2=4 then 0 else r.2)
def underB (A:Bk) (no:Nat):List UInt8 × Nat:=if A.in_=true∧A.valid<no then (List.replicate A.size 0,0) else oldB A.dk A.size no
def getB (A:Bk) (no:Nat):Bk × List UInt8 × Nat:=
 ({ A with L:=getL no A.L },match hit no A.L with
  | some x=>(x.b,0)
  | none=>underB A no)
def saveL (d:Dk) (size sure nonce:Nat):List Nat→List UInt8→List Int→Nat→List UInt8 × List Int × Nat × Nat
 | [],b,k,m=>(b,k,m,0)
 | no::l,b,k,m=>
  if sure<no∨(no:Int)∈k then saveL d size sure nonce l b k m else
  if (oldB d size no).2≠0 then (b,k,m,(oldB d size no).2) else saveL d size sure nonce l (b++jputN nonce no (oldB d size no).1) (k++[(no:Int)]) (m+1)
def countB (A:Bk) (b:List UInt8) (many:Nat):Bk × Nat:=
 let at_:=if A.begun=true then 28+(A.marked-1)*(A.size+8) else 0
 let m:=if A.begun=true then many else many+1
 let r:=thenN (thenN (writeN A.dk nJ (at_:Int) b) fun d=>syncN d nJ) fun d=>writeN d nM (A.marked:Int) (List.replicate m 0)
 if r.2≠0 then ({ A with dk:=r.1 },r.2) else
 ({ A with dk:=(syncN r.1 nM).1,begun:=true,marked:=A.marked+m },(syncN r.1 nM).2)
def saveB (A:Bk) (l:List Nat):Bk × Nat:=
 let nonce:=if A.begun=true then A.nonce else (A.dk.chg%18446744073709551616).toNat
 let r:=saveL A.dk A.size A.sure nonce l (if A.begun=true then [] else jheadN A.size A.sure nonce) A.kept 0
 let A1:={ A with nonce:=nonce,kept:=r.2.1 }
 if r.2.2.2≠0 then (A1,r.2.2.2) else if r.1=[] then (A1,0) else countB A1 r.1 r.2.2.1
def thenB (a:Bk × Nat) (f:Bk→Bk × Nat):Bk × Nat:=if a.2=0 then f a.1 else a
theorem thenB_0 {a:Bk × Nat} {f:Bk→Bk × Nat} (h:a.2=0):thenB a f=f a.1:=if_pos h
theorem thenB_e {a:Bk × Nat} {f:Bk→Bk × Nat} (h:a.2≠0):thenB a f=a:=if_neg h
def rangeB (a b:Nat):List Nat:=(List.range (b-a)).map fun i=>a+1+i
def cutB (A:Bk):Bk × Nat:=
 if A.bytes≤A.valid*A.size then (A,0) else
 thenB (saveB A (rangeB A.valid A.sure)) fun A=>({ A with dk:=(truncN A.dk nT ((A.valid*A.size:Nat):Int)).1,bytes:=A.valid*A.size },(truncN A.dk nT ((A.valid*A.size:Nat):Int)).2)
def layF (A:Bk):List AFr→Bk × Nat
 | []=>(A,0)
 | f::l=>
  let r:=writeN A.dk nT ((f.page-1)*A.size) f.b
  if r.2≠0 then ({ A with dk:=r.1 },r.2) else layF { A with dk:=r.1,bytes:=max A.bytes (f.page.toNat*A.size),valid:=max A.valid f.page.toNat } l
def flushB (A:Bk) (l:List AFr):Bk × Nat:=
 if l=[] then (A,0) else thenB (thenB (saveB A (l.map fun f=>f.page.toNat)) cutB) fun A=>layF A l
def putB (A:Bk) (no:Nat) (b:List UInt8) (dirty:Bool):Bk × Nat:=
 flushB { A with L:=putL A.room no b dirty A.L } (putA A.room no b dirty A.L)
def unlikeL (d:Dk) (size valid:Nat) (begun:Bool):List AFr→List AFr→List AFr × Nat
 | [],o=>(o,0)
 | f::l,o=>
  if (valid:Int)<f.page∨begun=true then unlikeL d size valid begun l (o++[f]) else
  if (oldB d size f.page.toNat).2≠0 then ([],(oldB d size f.page.toNat).2) else
  if (oldB d size f.page.toNat).1=f.b then unlikeL d size valid begun l o else unlikeL d size valid begun l (o++[f])
def dirtyB (L:List AP):List AFr:=dirtyS ((nos L).mergeSort fun a b=>decide (a≤b)) L
def unlikeB (A:Bk):List AFr × Nat:=unlikeL A.dk A.size A.valid A.begun (dirtyB A.L) []
def layEnd (A:Bk):Bk × Nat:=
 let r:=if A.bytes≠A.now*A.size∧(sizeN A.dk nT).2=false then writeN A.dk nT 0 [] else (A.dk,0)
 let q:=thenN r fun d=>lengthB d (A.now*A.size)
 if q.2≠0 then ({ A with dk:=q.1 },q.2) else ({ A with dk:=(overB q.1).1,bytes:=A.now*A.size },(overB q.1).2)
def layB (A:Bk):Bk × Nat:=
 if (unlikeB A).2≠0 then (A,(unlikeB A).2) else
 if (unlikeB A).1=[]∧A.now=A.sure∧A.valid=A.sure∧A.begun=false then (A,0) else
 thenB (thenB (thenB (saveB A []) fun B=>flushB B (unlikeB A).1) cutB) layEnd
def endB (a:Bk × Nat):Bk × Nat:=if a.2=13 then ({ a.1 with broken:=true },13) else a
def actB (A:Bk) (b:Bool) (n v:Nat):Bk:={ A with in_:=b,now:=n,valid:=v,begun:=false,nonce:=0,kept:=[],marked:=0 }
def beginB (A:Bk):Bk × Nat:=if A.broken=true then (A,13) else if A.in_=true then (A,10) else (actB A true A.sure A.sure,0)
def readB (A:Bk) (no:Int):Bk × List UInt8 × Nat:=
 if A.broken=true then (A,[],13) else if no<1∨(presB A:Int)<no then (A,[],1) else
 let g:=getB A no.toNat
 let r:=endB (if g.2.2≠0 then (g.1,g.2.2) else putB g.1 no.toNat g.2.1 false)
 (r.1,if r.2=0 then g.2.1 else [],r.2)
def writeB (A:Bk) (no:Int) (b:List UInt8):Bk × Nat:=
 if A.broken=true then (A,13) else if A.in_=false then (A,10) else if no<1∨(A.now:Int)<no∨b.length≠A.size then (A,1) else
 let g:=getB A no.toNat
 endB (if g.2.2 ≠ 0 ∨ g.2.1 = b then (g.1, g.2.2) else putB g.1 no.toNat b true)
def resizeB (A:Bk) (n:Int):Bk × Nat:=
 if A.broken=true then (A,13) else if A.in_=false then (A,10) else if n<0 then (A,1) else if 1048576<n∨(mostB A.size:Int)<n then (A,5) else
 ({ A with L:=A.L.filter fun x=>decide (x.no≤n),now:=n.toNat,valid:=min A.valid n.toNat },0)
def headB (A:Bk) (b:List UInt8):Bool:=decide ((decN b).2=0∧(decN b).1.size=A.size)
def doneB (A:Bk):Bk:=actB { A with L:=cl (nos A.L) A.L,sure:=A.now } false 0 0
def commitB (A:Bk):Bk × Nat:=
 if A.broken=true then (A,13) else if A.in_=false then (A,10) else
 endB (if A.now = 0 then thenB (layB A) fun B => (doneB B, 0) else
  let g:=getB A 1
  if g.2.2≠0 then (g.1,g.2.2) else if headB A g.2.1=false then (g.1,8) else thenB (layB g.1) fun B=>(doneB B,0))
def rollbackB (A:Bk):Bk × Nat:=
 if A.broken=true then (A,13) else if A.in_=false then (A,10) else
 endB (if A.begun = true ∧ (healB A.dk).2 ≠ 0 then ({ A with dk := (healB A.dk).1 }, (healB A.dk).2) else
  (actB { A with dk:=if A.begun=true then (healB A.dk).1 else A.dk,L:=[],bytes:=A.sure*A.size } false 0 0,0))
end Go.Proofs.YtpeaicddbnghfaaGreat
namespace Go.HL
open Go
section
variable {P:Program} {n:Nat} {k:List Code} {Q:Exit→Slots→Heap→Prop} {s:Slots} {h:Heap}
def ng (Q:Exit→Slots→Heap→Prop):Exit→Slots→Heap→Prop
 | .goto _,_,_=>False
 | e,s,h=>Q e s h
theorem ng_sub {e:Exit} {s:Slots} {h:Heap} (q:ng Q e s h):Q e s h:=by
 cases e<;>first | exact q | exact q.elim
theorem HS.sub {Q':Exit→Slots→Heap→Prop} (hq:∀e s h,Q' e s h→Q e s h):∀ {k:List Code} {s:Slots} {h:Heap},HS P n k Q' s h→HS P n k Q s h
 | [],_,_,q=>hq _ _ _ q
 | _::k,_,_,q=>HW.mono q fun e s h q=>by
  cases e<;>first | exact hq _ _ _ q | exact HS.sub hq q
theorem HS.scope {c:Code} (hk:HS P n (c::k) (ng Q) s h):HS P n (.scope c::k) Q s h:=by
 intro E a w r at';refine wp_scope_straight (wp_mono (hk E a w r at') ?_);rintro e a' w' ⟨s',h',r',at2,q⟩;cases e with
 | goto l=>exact q.elim
 | normal=>exact ⟨s',h',r',at2,HS.sub (fun _ _ _=>ng_sub) q⟩
 | exit id=>exact ⟨s',h',r',at2,q⟩
 | ret=>exact ⟨s',h',r',at2,q⟩
 | panic c=>exact ⟨s',h',r',at2,q⟩
 | outgrown=>exact ⟨s',h',r',at2,q⟩
theorem HS.label {l:Nat} (hk:HS P n k Q s h):HS P n (.label l::k) Q s h:=fun _ _ _ r at'=>wp_label ⟨_,_,r,at',hk⟩
end
def dcl (f:FuncId) (args:Array Value):Deferred:={ target:=.fn (.func f) #[],args:=args }
def HCD (P:Program) (f:FuncId) (args:Array Value) (h:Heap) (R:Value→Heap→Prop):Prop:=
 Callable P f∧∀E w u,At E h w→CallsD P f args u w fun e u' w'=>u'=u∧∃v h',e=.returned v∧At E h' w'∧R v h'
theorem HCD.body {P:Program} {f:FuncId} {fn:Func} {c:Code} {args:List Value} {h:Heap} {R:Value→Heap→Prop} (hf:P.funcs[f]? = some fn) (hb:fn.body=some c)
  (hname : (fn.name == "runtime.NumGoroutine") = false) (n : Nat) (hn : fn.ntmps = n) (hsz : Nat.ble args.length n = true) (hc : HW P n c (fin P fn R) (lst args) h) : HCD P f args.toArray h R :=
 ⟨⟨fn,hf,hname,by simp [hb]⟩,fun _ _ _ at'=>callsD_of_wp hf hb (wp_body n hn hsz hc at')⟩
theorem HCD.go {P:Program} {f:FuncId} {fn:Func} {c:Code} {args:List Value} {h:Heap} {R:Value→Heap→Prop} (hf:P.funcs[f]? = some fn) (n:Nat) (hc:HS P n [c] (fin P fn R) (lst args) h) (hb:fn.body=some c:=by exact rfl)
  (hname : (fn.name == "runtime.NumGoroutine") = false := by first | exact rfl | kernel_rfl) (hn : fn.ntmps = n := by exact rfl) (hsz : Nat.ble args.length n = true := by exact rfl) : HCD P f args.toArray h R :=
 HCD.body hf hb hname n hn hsz (HW.mono hc fun e s h q=>by cases e<;>exact q)
abbrev PD:=List Deferred→Exit→Slots→Heap→Prop
def LiftD (E:Env) (n:Nat) (Q:PD) (e:Exit) (a:Act) (w:World):Prop:=∃ds s h,Rel ds n s a∧At E h w∧Q ds e s h
def WD (P:Program) (n:Nat) (c:Code) (Q:PD) (s:Slots) (h:Heap):Prop:=∀E a w,E.ds=[]→Rel [] n s a→At E h w→c.wp P (LiftD E n Q) a w
def nxtD (P:Program) (n:Nat) (k:List Code) (Q:PD) (H:Slots→Heap→Prop):PD
 | [],.normal,s,h=>H s h
 | d::ds,.normal,s,h=>HS P n k (Q (d::ds)) s h
 | ds,e,s,h=>Q ds e s h
def HSD (P:Program) (n:Nat):List Code→PD→Slots→Heap→Prop
 | [],Q,s,h=>Q [] .normal s h
 | c::k,Q,s,h=>WD P n c (nxtD P n k Q (HSD P n k Q)) s h
section
variable {P:Program} {n:Nat} {Q:PD} {s:Slots} {h:Heap} {k:List Code} {E:Env}
theorem At.ds {w:World} (at':At E h w) (ds:List Deferred):At { E with ds:=ds } h w:=⟨at'.heap,at'.os,at'.tape,at'.output⟩
theorem At.of_ds {w:World} {ds:List Deferred} (at':At { E with ds:=ds } h w):At E h w:=⟨at'.heap,at'.os,at'.tape,at'.output⟩
theorem HSD.seq {a b:Code} (hk:HSD P n (a::b::k) Q s h):HSD P n (.seq a b::k) Q s h:=by
 intro E a0 w hE r at';refine wp_seq (wp_mono (hk E a0 w hE r at') ?_);rintro e a' w' ⟨ds,s',h',r',at2,q⟩;cases e with
 | normal=>
  cases ds with
  | nil=>exact q E a' w' hE r' at2
  | cons d ds=>
   refine wp_mono (q { E with ds:=d::ds } a' w' r' (at2.ds _)) ?_;rintro e a'' w'' ⟨s2,h2,r2,at3,q2⟩;refine ⟨d::ds,s2,h2,r2,at3.of_ds,?_⟩;cases e<;>exact q2
 | exit id=>exact ⟨ds,s',h',r',at2,by cases ds<;>exact q⟩
 | goto l=>exact ⟨ds,s',h',r',at2,by cases ds<;>exact q⟩
 | ret=>exact ⟨ds,s',h',r',at2,by cases ds<;>exact q⟩
 | panic c=>exact ⟨ds,s',h',r',at2,by cases ds<;>exact q⟩
 | outgrown=>exact ⟨ds,s',h',r',at2,by cases ds<;>exact q⟩
theorem HSD.lift {c:Code} (hx:HS P n [c] (thn (HSD P n k Q) (Q [])) s h):HSD P n (c::k) Q s h:=by
 intro E a w hE r at';refine wp_mono (hx E a w (hE▸r) at') ?_;rintro e a' w' ⟨s',h',r',at2,q⟩;refine ⟨[],s',h',hE▸r',at2,?_⟩;cases e<;>exact q
theorem HSD.on {Q':Exit→Slots→Heap→Prop} (hk:HSD P n k Q s h):thn (HSD P n k Q) Q' .normal s h:=hk
def HOD (P:Program) (n:Nat) (ops:Array Oper) (l:List Oper) (K:Deferred→Slots→Heap→Prop) (s:Slots) (h:Heap):Prop:=
 ∀E a w,E.ds=[]→Rel [] n s a→At E h w→wpList P ops (fun e a' w'=>e=.normal∧∃d s' h',Rel [d] n s' a'∧At E h' w'∧K d s' h') l a w
theorem HSD.rd {id:Nat} {l:List Oper} (hk:HOD P n l.toArray l (fun d s h=>HS P n k (Q [d]) s h) s h):HSD P n (.region id l.toArray false::k) Q s h:=by
 intro E a w hE r at';refine wp_mono (wp_region_lit (hk E a w hE r at')) ?_;rintro e a' w' ⟨rfl,d,s',h',r',at2,q⟩;exact ⟨[d],s',h',r',at2,q⟩
variable {ops:Array Oper} {l:List Oper} {o:Oper} {K:Deferred→Slots→Heap→Prop}
theorem HOD.w (d:Nat) {v:Value} (hv:OpV P o s h v) (hk:HOD P n ops l K (upd s d v) h) (hw:wants ops o s=true:=by exact rfl) (hd:o.dst=some d:=by exact rfl) (hn:Nat.blt d n=true:=by exact rfl):HOD P n ops (o::l) K s h:=by
 intro E a w hE r at';unfold wpList;rw [r.wanted,hw,if_pos rfl];refine .inl ?_;unfold Oper.wp;rw [r.eval',hv w at'.heap];simp only [Oper.upon,hd];exact hk E _ w hE (r.put v hn) at'
theorem HOD.z {op:Op} {ty:TypeId} {pos:String} {af:Array Edge} {g:Option (Nat × Bool)} {d:Nat} {v:Value} (hv:OpV P ⟨some d,op,ty,pos,af,g⟩ s h v) (hk:HOD P n ops l K (upd s d v) h) (hw:wants ops ⟨some d,op,ty,pos,af,g⟩ s=true:=by exact rfl) (hn:Nat.blt d n=true:=by exact rfl):HOD P n ops (⟨some d,op,ty,pos,af,g⟩::l) K s h:=HOD.w d hv hk hw rfl hn
theorem HOD.df {f:FuncId} {xs:Array Operand} {ts:Array TypeId} {ty:TypeId} {pos:String} {af:Array Edge} {g:Option (Nat × Bool)} {args:List Value} (hx:xs.toList.map (ev s)=args) (hk:K (dcl f args.toArray) s h) (hw:wants ops ⟨none,.defer ⟨.value (.func f),xs,ts⟩,ty,pos,af,g⟩ s=true:=by exact rfl):HOD P n ops [⟨none,.defer ⟨.value (.func f),xs,ts⟩,ty,pos,af,g⟩] K s h:=by
 intro E a w hE r at';unfold wpList;rw [r.wanted,hw,if_pos rfl];refine .inl ?_;have e:xs.map a.eval=args.toArray:=by rw [r.eval',←hx];apply Array.ext';simp
 have hr:(execOp a.eval ⟨none,.defer ⟨.value (.func f),xs,ts⟩,ty,pos,af,g⟩).run P w=.ok (.defer (dcl f args.toArray)) w:=by
  have ef:a.eval (.func f)=.func (.func f) #[] #[]:=rfl;unfold execOp;simp [resolve,Deferred.ofValue,ef,dcl,e]
 unfold Oper.wp;rw [hr];simp only [Oper.upon,wpList];exact ⟨by trivial,_,s,h,⟨by simpa [Act.put] using r.size,fun i=>by simpa [Act.put] using r.get i,by simp [Act.put,r.defers]⟩,at',hk⟩
end
def finD (P:Program) (fn:Func) (R:Value→Heap→Prop):PD
 | [],.normal,s,h | [],.ret,s,h=>∃v,Res P fn s h v∧R v h
 | [d],.normal,s,h | [d],.ret,s,h=>∃f args Rm,d=dcl f args∧HCD P f args h Rm∧∀v' h',Rm v' h'→∃v,Res P fn s h' v∧R v h'
 | _,_,_,_=>False
theorem leavesD {P:Program} {fn:Func} {R:Value→Heap→Prop} {s:Slots} {h:Heap} {n:Nat} {E:Env} {a:Act} {w:World} {ds:List Deferred} (r:Rel ds n s a) (at':At E h w) (q:finD P fn R ds .ret s h):Leaves P fn a.tmps (fun e w'=>∃v h',e=.returned v∧At E h' w'∧R v h') a.defers .returning w:=by
 rw [r.defers]
 match ds,q with
 | [],⟨v,hv,hR⟩=>exact ⟨v,hv _ _ r.get at'.heap,v,h,rfl,at',hR⟩
 | [d],⟨f,args,Rm,hd,⟨hc,hcd⟩,hk⟩=>
  subst hd;refine ⟨by simp,.func f,#[],f,args,rfl,?_,?_⟩
  ·obtain ⟨fn',hf,hb,hbody⟩:=hc;have h2' : ¬ fn'.name = "runtime.NumGoroutine" := by simpa using hb
   have h3':¬fn'.body=none:=by intro e;simp [e] at hbody
   simp [dcl,invoke,callFunc,hf,h2',h3']
  ·refine (hcd E w .returning at').mono ?_;rintro e u' w' ⟨rfl,v',h',rfl,at2,hRm⟩;obtain ⟨v,hv,hR⟩:=hk v' h' hRm;exact ⟨v,hv _ _ r.get at2.heap,v,h',rfl,at2,hR⟩
theorem HC.goD {P:Program} {f:FuncId} {fn:Func} {c:Code} {args:List Value} {h:Heap} {R:Value→Heap→Prop} (hf:P.funcs[f]? = some fn) (n:Nat) (hc:HSD P n [c] (finD P fn R) (lst args) h) (hb:fn.body=some c:=by exact rfl)
  (hname : (fn.name == "runtime.NumGoroutine") = false := by first | exact rfl | kernel_rfl) (hn : fn.ntmps = n := by exact rfl) (hsz : Nat.ble args.length n = true := by exact rfl) : HC P f args.toArray h R := by
 have hsz:=Nat.le_of_ble_eq_true hsz;refine ⟨⟨fn,hf,hname,by simp [hb]⟩,fun E w at'=>calls_of_wp_defers hf hb ?_⟩;subst hn;refine wp_mono (hc { E with ds:=[] } _ w rfl ⟨by simp;omega,fun i=>?_,rfl⟩ (at'.ds _)) ?_
 ·rw [←lst_getD];simp only [Array.getD_eq_getD_getElem?,Array.getElem?_append,List.getD_eq_getElem?_getD];by_cases hi:i<args.length
  ·simp [hi]
  ·simp only [List.size_toArray,hi,if_false];rw [List.getElem?_eq_none (by omega)];by_cases hj:i-args.length<fn.ntmps-args.length
   ·rw [Array.getElem?_replicate,if_pos hj];rfl
   ·rw [Array.getElem?_replicate,if_neg hj]
 ·rintro e a' w' ⟨ds,s',h',r',at2,q⟩;have at3:At E h' w':=at2.of_ds;cases e with
  | normal=>
   have q2:finD P fn R ds .ret s' h':=by
    match ds,q with
    | [],q=>exact q
    | [d],q=>exact q
    | _::_::_,q=>exact q
   exact leavesD r' at3 q2
  | ret=>exact leavesD r' at3 (by cases ds<;>exact q)
  | exit id=>cases ds with
   | nil=>exact q
   | cons d ds=>cases ds<;>exact q
  | goto l=>cases ds with
   | nil=>exact q
   | cons d ds=>cases ds<;>exact q
  | panic c=>cases ds with
   | nil=>exact False.elim q
   | cons d ds=>cases ds<;>exact False.elim q
  | outgrown=>cases ds with
   | nil=>exact False.elim q
   | cons d ds=>cases ds<;>exact False.elim q
end Go.HL
