/- Memory as a list of separate items that may turn, and a list of items that are read alone. Conditions: those that each fact names. Strings as rows of bytes: their length, their order, maps by them; calls of function values. Conditions: those that each rule names. Several items as one; what a call may turn alone, taken from and put back into what the caller has. Conditions: those that each fact names. The disk's files in plain terms, as the program has them. Conditions: those that each fact names. Closed facts on the types of this translation, written by a program of this claim; each is decided by the kernel. The disk in memory: its box, its map, its files' boxes and changes as one item that turns; all bytes as one that is read. Conditions: those that each fact names. The disk's changes: long, done, kept, what is wrong with a call. Conditions: the bytes are readable, few. A disk's calls: Read, Size, Dark, Changes, Cut, New, and the calls to no disk. Conditions: the disk is in order. The contracts of maps.Keys, slices.Sorted and slices.Sort, laid at this program by the kit. Conditions: none. maps.Keys and slices.Sorted over a map by strings: its keys, sorted. Conditions: the keys are few and short. Rows of strings that may turn: read, written, cleared. Conditions: those that each rule names. The names of a disk's files. Conditions: the disk is in order, its changes few. The pager that logs ahead in plain terms: its calls, and what ties it to memory. Conditions: those that each fact names. Rows of pages in memory, and the document's pager, in plain terms and in memory. Conditions: those that each fact names. A call of the laws on pagers: its page; are calls few. Conditions: the calls are readable. Files of a disk, byte by byte: what changes do to them, how the power goes, and what a crash may leave. Conditions: those that each fact names. Opening a file that was left in any state in between, in plain terms: it has the sure pages; and so it has when the power goes within. Conditions: those that each fact names. The pager that logs ahead: what is told of it; its pages are read. Conditions: the disk is in order; the pages stand where the pager has them. The pager that logs ahead: a transaction begins, is given up; pages are read. Conditions: the pager is in order. A disk's crash. Conditions: the disk is in order, its changes few, the bytes readable. A disk, and a pager that logs ahead with its disk, each as one item that is told in plain terms alone; their calls so. Conditions: those that each fact names. The document's pager: Pages, Begin, Read, Rollback, Checkpoint, Open, Write, Resize; Same of pages. Conditions: the state is readable. -/
import Derived.Test.YtpeaicddbnghfaaGreatPkA9
import Derived.Sort.Walk0
import Derived.Test.YtpeaicddbnghfaaGreatProg
import Derived.Shelf.SlIter.Nil
import Derived.Shelf.SortM.Plain
import Derived.Shelf.SortM.SortNone
import Derived.Ground.GgzProg
import Derived.Ground.SlgmProg
set_option maxRecDepth 100000
set_option maxHeartbeats 2000000
set_option linter.all false
namespace Go.HL
open Go
section
variable {P:Program} {s:Slots} {h0 h:Heap} {D:Nat→Prop} {M R:List Itm} {d:Option Tmp} {ty:TypeId} {pos:String} {af:Array Edge} {g:Option (Nat × Bool)} {x y c:Operand} {t u:TypeId}
namespace OpUR
section
variable {b o n c k q:Nat} {e:TypeId} {xs:List Value}
theorem sxS {a:Option Addr} {n' m:Nat} (ht:szB P t=some 1) (ok:Hp h0 D (capI k e (some ⟨b,o,none⟩,n,c) xs::M) R h) (hx:ev s x=.pointer (some ⟨b,o+q,none⟩):=by exact rfl) (hy:ev s y=.slice a n' m:=by exact rfl) (hq:q<n*k:=by omega) :
  OpUR P ⟨d,.store t x y,ty,pos,af,g⟩ s h (fun h'=>Hp h0 D (capI k e (some ⟨b,o,none⟩,n,c) (xs.set q (.slice a n' m))::M) R h'∧Chg (fun x=>x=b) h h'):=sx ht ok hq hx hy rfl
end
end OpUR
end
open Go Go.MapKept
theorem list_tri:∀a b:List UInt8,a<b∨a=b∨b<a
 | [],[]=>.inr (.inl rfl)
 | [],_::_=>.inl (by simp)
 | _::_,[]=>.inr (.inr (by simp))
 | x::a,y::b=>by
  rw [List.cons_lt_cons_iff,List.cons_lt_cons_iff];rcases Nat.lt_trichotomy x.toNat y.toNat with h | h | h
  ·exact .inl (.inl (UInt8.lt_iff_toNat_lt.2 h))
  ·have h:=UInt8.toNat_inj.1 h;subst h;rcases list_tri a b with h | h | h
   ·exact .inl (.inr ⟨rfl,h⟩)
   ·exact .inr (.inl (by rw [h]))
   ·exact .inr (.inr (.inr ⟨rfl,h⟩))
  ·exact .inr (.inr (.inl (UInt8.lt_iff_toNat_lt.2 h)))
section
variable {h0 h:Heap} {D:Nat→Prop} {M R:List Itm} {q0 q1 q2 q3 q4 q5 q6 q7 q8 q9:Itm}
theorem Hp.f9 (ok:Hp h0 D M (q0::q1::q2::q3::q4::q5::q6::q7::q8::q9::R) h):Hp h0 D M (q9::q0::q1::q2::q3::q4::q5::q6::q7::q8::R) h:=ok.sub (by simp;grind)
end
end Go.HL
namespace Go.Proofs.YtpeaicddbnghfaaGreat
open Go Go.HL
def crashN (d:Dk) (ns:List (List UInt8)) (ks:List UInt8):Dk:=⟨crashL d.fs ns ks,false,-1,d.chg⟩
theorem keptN_ok {c:Chn} {k:Nat} (h:ChOk c):ChOk (keptN c k).1:=by
 have h1:=h.fit;have h2:=h.kind;unfold keptN;split
 ·exact h
 ·split
  ·exact ⟨h2,by simp;omega⟩
  ·exact h
theorem crC_len:∀ {l:List Chn} {b:List UInt8} {here:Bool} {ks:List UInt8},(∀c∈l,ChOk c)→b.length≤16777216→(crC b here l ks).1.length≤16777216
 | [],_,_,_,_,hb=>hb
 | c::l,b,here,ks,hc,hb=>by
  unfold crC;simp only;split
  ·exact crC_len (fun x hx=>hc x (List.mem_cons_of_mem _ hx)) (doneN_len (keptN_ok (hc c List.mem_cons_self)) hb)
  ·exact crC_len (fun x hx=>hc x (List.mem_cons_of_mem _ hx)) hb
theorem crF_ok {f g:Fl} {ks:List UInt8} (k:FlOk f) (h:crF f ks=some g):FlOk g∧g.opn=[]:=settleF_ok (f:=⟨(crC f.safe f.was f.opn ks).1,f.safe,(crC f.safe f.was f.opn ks).2,f.was,f.opn⟩) ⟨crC_len k.opn k.safe,k.safe,k.opn⟩ h
theorem crashL_ok {P:Fl→Prop} (hP:∀f g ks,P f→crF f ks=some g→P g):∀ {ns:List (List UInt8)} {fs:List UInt8→Option Fl} {ks:List UInt8},(∀n f,fs n=some f→P f)→∀n f,crashL fs ns ks n=some f→P f
 | [],_,_,h=>h
 | m::ns,fs,ks,h=>by
  unfold crashL;cases hm:fs m with
  | none=>exact crashL_ok hP h
  | some f=>
   refine crashL_ok hP fun n g hg=>?_;simp only [put1] at hg;split at hg
   ·exact hP f g ks (h m f hm) hg
   ·exact h n g hg
theorem crashL_some:∀ {ns:List (List UInt8)} {fs:List UInt8→Option Fl} {ks:List UInt8} {n:List UInt8} {f:Fl},crashL fs ns ks n=some f→∃g,fs n=some g
 | [],_,_,_,f,h=>⟨f,h⟩
 | m::ns,fs,ks,n,f,h=>by
  unfold crashL at h;cases hm:fs m with
  | none=>rw [hm] at h;exact crashL_some h
  | some g=>
   rw [hm] at h;obtain ⟨g',hg'⟩:=crashL_some h;simp only [put1] at hg';split at hg'
   ·rename_i e;subst e;exact ⟨g,hm⟩
   ·exact ⟨g',hg'⟩
theorem DkOk.crash {d:Dk} (k:DkOk d) {ns:List (List UInt8)} {ks:List UInt8} : DkOk (crashN d ns ks):=by
 have h1:=k.chg;refine ⟨fun n f h=>?_,k.chg,by simp [crashN],let ⟨ks,h1,h2⟩:=k.cnt;⟨ks,h1,fun n f h=>let ⟨g,hg⟩:=crashL_some h;h2 n g hg⟩⟩;exact crashL_ok (P:=fun f=>FlOk f∧(f.opn.length:Int)≤d.chg) (fun f g ks h hg=>by
  have h2:=crF_ok h.1 hg;exact ⟨h2.1,by rw [h2.2];simpa using h1⟩) k.fs n f h
namespace T
theorem ag2:agB Go.Proofs.Tryz.prog 2=some false:=by kernel_rfl
theorem ag6:agB Go.Proofs.Tryz.prog 6=some false:=by kernel_rfl
theorem ag9:agB Go.Proofs.Tryz.prog 9=some false:=by kernel_rfl
theorem sz9:szB Go.Proofs.Tryz.prog 9=some 1:=by kernel_rfl
theorem ag26:agB Go.Proofs.Tryz.prog 26=some false:=by kernel_rfl
theorem sz26:szB Go.Proofs.Tryz.prog 26=some 1:=by kernel_rfl
theorem ar64:arB Go.Proofs.Tryz.prog 64=some (2,5):=by kernel_rfl
theorem el69:elB Go.Proofs.Tryz.prog 69=some 73:=by kernel_rfl
theorem ag71:agB Go.Proofs.Tryz.prog 71=some true:=by kernel_rfl
theorem sz71:szB Go.Proofs.Tryz.prog 71=some 5:=by kernel_rfl
theorem zr71:zrB Go.Proofs.Tryz.prog 71=some (.agg #[(.int .i64 0),(.slice none 0 0),(.slice none 0 0),(.bool false),(.int .i64 0)]):=by kernel_rfl
theorem pl71:V.plB Go.Proofs.Tryz.prog 71=some [(0,1),(1,1),(2,1),(3,1),(4,1)]:=by kernel_rfl
theorem fd71_0:fdB Go.Proofs.Tryz.prog 71 0=some (0,3,0+1):=by kernel_rfl
theorem fd71_1:fdB Go.Proofs.Tryz.prog 71 1=some (1,26,0+1):=by kernel_rfl
theorem fd71_2:fdB Go.Proofs.Tryz.prog 71 2=some (2,26,0+1):=by kernel_rfl
theorem fd71_3:fdB Go.Proofs.Tryz.prog 71 3=some (3,4,0+1):=by kernel_rfl
theorem fd71_4:fdB Go.Proofs.Tryz.prog 71 4=some (4,3,0+1):=by kernel_rfl
theorem ag73:agB Go.Proofs.Tryz.prog 73=some true:=by kernel_rfl
theorem sz73:szB Go.Proofs.Tryz.prog 73=some 6:=by kernel_rfl
theorem fd73_0:fdB Go.Proofs.Tryz.prog 73 0=some (0,5,0+1):=by kernel_rfl
theorem fd73_1:fdB Go.Proofs.Tryz.prog 73 1=some (1,3,0+1):=by kernel_rfl
theorem fd73_2:fdB Go.Proofs.Tryz.prog 73 2=some (2,3,0+1):=by kernel_rfl
theorem fd73_3:fdB Go.Proofs.Tryz.prog 73 3=some (3,5,0+1):=by kernel_rfl
theorem fd73_4:fdB Go.Proofs.Tryz.prog 73 4=some (4,4,0+1):=by kernel_rfl
theorem fd73_5:fdB Go.Proofs.Tryz.prog 73 5=some (5,22,0+1):=by kernel_rfl
theorem fd94_0:fdB Go.Proofs.Tryz.prog 94 0=some (0,5,0+1):=by kernel_rfl
theorem fd94_1:fdB Go.Proofs.Tryz.prog 94 1=some (1,5,0+1):=by kernel_rfl
theorem fd94_2:fdB Go.Proofs.Tryz.prog 94 2=some (2,22,0+1):=by kernel_rfl
theorem fd94_3:fdB Go.Proofs.Tryz.prog 94 3=some (3,22,0+1):=by kernel_rfl
theorem el172:elB Go.Proofs.Tryz.prog 172=some 9:=by kernel_rfl
end T
open Go Go.HL
section
variable {fs:Fs} {n m:List UInt8} {f g:RF}
theorem bget_of (hn:(fs.map (·.1)).Nodup) (h:(n,f)∈fs):bget fs n=some f:=by
 induction fs with
 | nil=>cases h
 | cons p l ih=>
  rcases List.mem_cons.1 h with rfl | h
  ·simp [bget]
  ·have h1:=List.nodup_cons.1 hn;have:p.1≠n:=fun e=>h1.1 (List.mem_map.2 ⟨_,h,e.symm⟩);simpa [bget,this] using ih h1.2 h
end
open Go Go.HL
theorem kept0 {kind pos k:Nat} {bl:List UInt8} (h:kind≠0):keptN ⟨kind,pos,bl⟩ k=(⟨kind,pos,bl⟩,decide (128≤k)):=by simp [keptN,h]
theorem kept1 {kind pos k:Nat} {bl:List UInt8} (h:kind=0) (hk:k≠255):keptN ⟨kind,pos,bl⟩ k=(⟨kind,pos,bl.take (bl.length*k / 255)⟩,decide (k≠0)):=by simp [keptN,h,hk]
theorem kept2 {kind pos k:Nat} {bl:List UInt8} (h:kind=0) (hk:k=255):keptN ⟨kind,pos,bl⟩ k=(⟨kind,pos,bl⟩,decide (k≠0)):=by simp [keptN,h,hk]
theorem kept_any {h:Heap} {kind pos k:Nat} {ba:Option Addr} {bc:Nat} {bl:List UInt8} (hL:bl.length≤16777216) (hbc:bl.length≤bc) (hk:k<256) :
  HC Tryz.prog 124 #[.agg #[.int .i64 (kind:Int),.int .i64 (pos:Int),.slice ba bl.length bc],.int .u8 (k:Int)] h (fun v h'=>v=.tuple #[.agg #[.int .i64 ((keptN ⟨kind,pos,bl⟩ k).1.kind:Int),.int .i64 ((keptN ⟨kind,pos,bl⟩ k).1.pos:Int),.slice ba (keptN ⟨kind,pos,bl⟩ k).1.b.length bc],.bool (keptN ⟨kind,pos,bl⟩ k).2]∧Ext h h'):=by
 have ok:=Hp.nil h none_;have hm:bl.length*k≤16777216*255:=Nat.mul_le_mul hL (by omega);have hq:bl.length*k / 255≤bl.length:=by
  have:bl.length*k≤bl.length*255:=Nat.mul_le_mul_left _ (by omega);omega
 refine HC.go Tryz.func124 28 ?_;refine .seq<|.r<|.a' 2 (.bxA (cs:=[.int .i64 (kind:Int),.int .i64 (pos:Int),.slice ba bl.length bc]) ok) ?_;rintro _ η1 ⟨pb1,rfl,ok,xe⟩;refine .a' 4 (.alA T.zr175 ok) ?_;rintro _ η2 ⟨pb2,rfl,ok,xe⟩;refine .z .asB<|.nil ?_;refine .seq<|.seq<|.r<|.z (.fa T.fd175_0)<|.z (.ldx T.ag3 ok.m1)<|.z .neq<|.nil ?_;refine .cd (fun C0=>?_) (fun C0=>?_)
 ·
  refine .seq<|.r<|.z (.ldb T.ag175 ok.m1 T.sz175)<|.z .mvI<|.z .geq<|.ur' (.stW (vs:=[.int .i64 (kind:Int),.int .i64 (pos:Int),.slice ba bl.length bc]) T.sz175 ok (oneL rfl)) ?_;rintro η3 ⟨ok,cg⟩;refine .z .asB<|.nil ?_;refine .ret ⟨.tuple #[.agg #[.int .i64 (kind:Int),.int .i64 (pos:Int),.slice ba bl.length bc],.bool (decide (128≤(k:Int)))],Res.many (vs:=[.agg #[.int .i64 (kind:Int),.int .i64 (pos:Int),.slice ba bl.length bc],.bool (decide (128≤(k:Int)))]) rfl ⟨⟨_,rfl,load_ag T.ag175 ok.m0 T.sz175⟩,rfl,trivial⟩ rfl,⟨(by rw [kept0 (by omega)];refine congrArg (fun b=>Value.tuple #[_,Value.bool b]) ?_;exact decide_eq_decide.2 (by omega)),ok.chg⟩⟩
 refine .skip<|.seq<|.seq<|.r<|.z .mvI<|.z .neq<|.nil ?_;refine .cd (fun C1=>?_) (fun C1=>?_)
 ·
  refine .r<|.z (.fa T.fd175_2)<|.z (.ldx T.ag22 ok.m1)<|.z (.fa T.fd175_2)<|.z (.ldx T.ag22 ok.m1)<|.z (.len T.el22)<|.z .mvI<|.z (.cvi T.in3 T.in5)<|.z (.mulI (hr:=(by omega)))<|.z .quo<|.z (.sl_h (bl.length*k / 255) T.el22 T.sz5)<|.z (.fa T.fd175_2)<|.ur' (.stS T.sz22 ok.n1) ?_;rintro η4 ⟨ok,cg⟩;refine .nil ?_;refine .seq<|.r<|.z (.ldb T.ag175 ok.m0 T.sz175)<|.z .mvI<|.z .neq<|.ur' (.stW (vs:=[.int .i64 (kind:Int),.int .i64 (pos:Int),.slice ba (bl.length*k / 255) bc]) T.sz175 ok.n1 (oneL rfl)) ?_;rintro η5 ⟨ok,cg⟩;refine .z .asB<|.nil ?_;refine .ret ⟨.tuple #[.agg #[.int .i64 (kind:Int),.int .i64 (pos:Int),.slice ba (bl.length*k / 255) bc],.bool (decide ((k:Int)≠0))],Res.many (vs:=[.agg #[.int .i64 (kind:Int),.int .i64 (pos:Int),.slice ba (bl.length*k / 255) bc],.bool (decide ((k:Int)≠0))]) rfl ⟨⟨_,rfl,load_ag T.ag175 ok.m0 T.sz175⟩,rfl,trivial⟩ rfl,⟨(by rw [kept1 (by omega) (by omega)];simp only [List.length_take,Nat.min_eq_left hq];refine congrArg (fun b=>Value.tuple #[_,Value.bool b]) ?_;exact decide_eq_decide.2 (by omega)),ok.chg⟩⟩
 refine .skip<|.seq<|.r<|.z (.ldb T.ag175 ok.m1 T.sz175)<|.z .mvI<|.z .neq<|.ur' (.stW (vs:=[.int .i64 (kind:Int),.int .i64 (pos:Int),.slice ba bl.length bc]) T.sz175 ok (oneL rfl)) ?_;rintro η6 ⟨ok,cg⟩;refine .z .asB<|.nil ?_;refine .ret ⟨.tuple #[.agg #[.int .i64 (kind:Int),.int .i64 (pos:Int),.slice ba bl.length bc],.bool (decide ((k:Int)≠0))],Res.many (vs:=[.agg #[.int .i64 (kind:Int),.int .i64 (pos:Int),.slice ba bl.length bc],.bool (decide ((k:Int)≠0))]) rfl ⟨⟨_,rfl,load_ag T.ag175 ok.m0 T.sz175⟩,rfl,trivial⟩ rfl,⟨(by rw [kept2 (by omega) (by omega)];refine congrArg (fun b=>Value.tuple #[_,Value.bool b]) ?_;exact decide_eq_decide.2 (by omega)),ok.chg⟩⟩
theorem cutR_fs {r:RD} {z:Int} : (cutR r z).fs=r.fs:=by unfold cutR;split<;>rfl
theorem cut_any {h:Heap} {d:Nat} {r:RD} {z:Int} (ok:Hp h (dskI d r).F [dskI d r] [] h) :
  HC Tryz.prog 56 #[.pointer (some ⟨d,0,none⟩),.int .i64 z] h (fun v h'=>v=.tuple #[]∧Hp h (dskI d r).F [dskI d (cutR r z)] [] h'):=by
 have ok:=ok.dopn;refine HC.go Tryz.func56 18 ?_;refine .seq<|.r<|.z .mvP<|.z (.pNeS T.pt30)<|.z .mvB<|.z .mvP<|.z .nil<|.z (.fa T.fd105_1)<|.z (.ldx T.ag4 ok.m0)<|.z .not<|.z .pkt<|.nil ?_;refine .cond (fun C0=>?_) (fun C0=>?_)
 ·
  refine .r<|.z .mvP<|.z .mvI<|.z .max2<|.z .nil<|.z (.fa T.fd105_2)<|.ur' (.stI T.sz3 ok) ?_;rintro η1 ⟨ok,cg⟩;refine .nil ?_;refine .end<|⟨.tuple #[],Res.none rfl,(by unfold cutR;rw [if_neg (by intro h9;simp [h9] at *)];exact ⟨rfl,Hp.dcls (r:=⟨r.m,r.fs,r.dark,max z (-1),r.chg⟩) ok⟩)⟩
 refine .skip<|.end<|⟨.tuple #[],Res.none rfl,(by unfold cutR;rw [if_pos (by simp_all)];exact ⟨rfl,Hp.dcls (r:=r) ok⟩)⟩
end Go.Proofs.YtpeaicddbnghfaaGreat
namespace Go.Proofs
open Go.Shelf
def Tryz.keysB_ren:Go.Shelf.Ren:=⟨fun | 7=>173 | 10=>207 | n=>n,fun | 23=>103 | 26=>9 | 3=>123 | 28=>226 | 0=>0 | 27=>225 | 33=>255 | 4=>4 | n=>n,fun | n=>n⟩
theorem Tryz.keysB:Go.Proofs.SlLaysZ.n7 Tryz.prog Tryz.keysB_ren:={
 mixed:=by kernel_rfl
 f7:=⟨Tryz.f173.name,by decide,Tryz.func173.trans (congrArg some (by kernel_rfl))⟩
 f10:=⟨Tryz.f207.name,by decide,Tryz.func207.trans (congrArg some (by kernel_rfl))⟩
 t0:=Tryz.underlying0
 a0:=Tryz.isAgg0
 z0:=Tryz.sizeOf0
 v0:=Tryz.zeroValue0
 t4:=Tryz.underlying4
 a4:=Tryz.isAgg4
 z4:=Tryz.sizeOf4
 v4:=Tryz.zeroValue4
 t23:=Tryz.underlying103
 a23:=Tryz.isAgg103
 z23:=Tryz.sizeOf103
 v23:=Tryz.zeroValue103
 t26:=Tryz.underlying9
 a26:=Tryz.isAgg9
 z26:=Tryz.sizeOf9
 v26:=Tryz.zeroValue9
 t27:=Tryz.underlying225
 a27:=Tryz.isAgg225
 z27:=Tryz.sizeOf225
 v27:=Tryz.zeroValue225
 t28:=Tryz.underlying226
 a28:=Tryz.isAgg226
 z28:=Tryz.sizeOf226
 v28:=Tryz.zeroValue226
 t33:=Tryz.underlying255
 a33:=Tryz.isAgg255
 z33:=Tryz.sizeOf255
 v33:=Tryz.zeroValue255 }
def Tryz.sortedB_ren:Go.Shelf.Ren:=⟨fun | 6=>172 | 8=>205 | 9=>206 | 11=>234 | 13=>199 | 12=>235 | 23=>229 | 24=>230 | 14=>247 | 15=>248 | 16=>249 | 17=>250 | 18=>251 | 19=>252 | 20=>253 | 21=>254 | 22=>255 | 25=>258 | 26=>240 | 27=>241 | 28=>259 | 29=>260 | 30=>261 | 31=>262 | n=>n,fun | 26=>9 | 28=>226 | 24=>172 | 0=>0 | 3=>3 | 37=>242 | 48=>243 | 50=>77 | 4=>4 | 40=>272 | 39=>271 | 45=>42 | 5=>5 | 9=>9 | 51=>283 | 55=>287 | 57=>298 | 58=>299 | 33=>255 | n=>n,fun | n=>n⟩
theorem Tryz.sortedB:Go.Proofs.SlLaysZ.n6 Tryz.prog Tryz.sortedB_ren:={
 mixed:=by kernel_rfl
 f6:=⟨Tryz.f172.name,by decide,Tryz.func172.trans (congrArg some (by kernel_rfl))⟩
 f8:=⟨Tryz.f205.name,by decide,Tryz.func205.trans (congrArg some (by kernel_rfl))⟩
 f11:=⟨Tryz.f234.name,by decide,Tryz.func234.trans (congrArg some (by kernel_rfl))⟩
 t0:=Tryz.underlying0
 a0:=Tryz.isAgg0
 z0:=Tryz.sizeOf0
 v0:=Tryz.zeroValue0
 t24:=Tryz.underlying172
 a24:=Tryz.isAgg172
 z24:=Tryz.sizeOf172
 v24:=Tryz.zeroValue172
 t26:=Tryz.underlying9
 a26:=Tryz.isAgg9
 z26:=Tryz.sizeOf9
 v26:=Tryz.zeroValue9
 t28:=Tryz.underlying226
 a28:=Tryz.isAgg226
 z28:=Tryz.sizeOf226
 v28:=Tryz.zeroValue226
 i26:=by kernel_rfl }
def Tryz.sortB_ren:Go.Shelf.Ren:=⟨fun | 6=>206 | 8=>199 | 9=>235 | 19=>229 | 20=>230 | 21=>247 | 22=>248 | 23=>249 | 24=>250 | 25=>251 | 26=>252 | 27=>253 | 28=>254 | 29=>255 | 36=>258 | 31=>240 | 32=>241 | 37=>259 | 38=>260 | 39=>261 | 41=>262 | n=>n,fun | 27=>172 | 29=>9 | 3=>3 | 32=>242 | 26=>172 | 0=>0 | 44=>243 | 46=>77 | 4=>4 | 36=>272 | 35=>271 | 41=>42 | 5=>5 | 9=>9 | 53=>283 | 57=>287 | 63=>298 | 64=>299 | n=>n,fun | n=>n⟩
theorem Tryz.sortB:Go.Proofs.SlLaysM.n6 Tryz.prog Tryz.sortB_ren:={
 mixed:=by kernel_rfl
 f6:=⟨Tryz.f206.name,by decide,Tryz.func206.trans (congrArg some (by kernel_rfl))⟩
 f8:=Tryz.func199.trans (congrArg some (by kernel_rfl))
 f9:=⟨Tryz.f235.name,by decide,Tryz.func235.trans (congrArg some (by kernel_rfl))⟩
 f19:=Tryz.func229.trans (congrArg some (by kernel_rfl))
 f20:=Tryz.func230.trans (congrArg some (by kernel_rfl))
 f21:=⟨Tryz.f247.name,by decide,Tryz.func247.trans (congrArg some (by kernel_rfl))⟩
 f22:=⟨Tryz.f248.name,by decide,Tryz.func248.trans (congrArg some (by kernel_rfl))⟩
 f23:=⟨Tryz.f249.name,by decide,Tryz.func249.trans (congrArg some (by kernel_rfl))⟩
 f24:=⟨Tryz.f250.name,by decide,Tryz.func250.trans (congrArg some (by kernel_rfl))⟩
 f25:=⟨Tryz.f251.name,by decide,Tryz.func251.trans (congrArg some (by kernel_rfl))⟩
 f26:=⟨Tryz.f252.name,by decide,Tryz.func252.trans (congrArg some (by kernel_rfl))⟩
 f27:=⟨Tryz.f253.name,by decide,Tryz.func253.trans (congrArg some (by kernel_rfl))⟩
 f28:=⟨Tryz.f254.name,by decide,Tryz.func254.trans (congrArg some (by kernel_rfl))⟩
 f29:=⟨Tryz.f255.name,by decide,Tryz.func255.trans (congrArg some (by kernel_rfl))⟩
 f31:=Tryz.func240.trans (congrArg some (by kernel_rfl))
 f32:=Tryz.func241.trans (congrArg some (by kernel_rfl))
 f36:=⟨Tryz.f258.name,by decide,Tryz.func258.trans (congrArg some (by kernel_rfl))⟩
 f37:=⟨Tryz.f259.name,by decide,Tryz.func259.trans (congrArg some (by kernel_rfl))⟩
 f38:=⟨Tryz.f260.name,by decide,Tryz.func260.trans (congrArg some (by kernel_rfl))⟩
 f39:=⟨Tryz.f261.name,by decide,Tryz.func261.trans (congrArg some (by kernel_rfl))⟩
 f41:=⟨Tryz.f262.name,by decide,Tryz.func262.trans (congrArg some (by kernel_rfl))⟩
 t0:=Tryz.underlying0
 a0:=Tryz.isAgg0
 z0:=Tryz.sizeOf0
 v0:=Tryz.zeroValue0
 t3:=Tryz.underlying3
 a3:=Tryz.isAgg3
 z3:=Tryz.sizeOf3
 v3:=Tryz.zeroValue3
 t4:=Tryz.underlying4
 a4:=Tryz.isAgg4
 z4:=Tryz.sizeOf4
 v4:=Tryz.zeroValue4
 t5:=Tryz.underlying5
 a5:=Tryz.isAgg5
 z5:=Tryz.sizeOf5
 v5:=Tryz.zeroValue5
 t9:=Tryz.underlying9
 a9:=Tryz.isAgg9
 z9:=Tryz.sizeOf9
 v9:=Tryz.zeroValue9
 t26:=Tryz.underlying172
 a26:=Tryz.isAgg172
 z26:=Tryz.sizeOf172
 v26:=Tryz.zeroValue172
 t27:=Tryz.underlying172
 a27:=Tryz.isAgg172
 z27:=Tryz.sizeOf172
 v27:=Tryz.zeroValue172
 t29:=Tryz.underlying9
 a29:=Tryz.isAgg9
 z29:=Tryz.sizeOf9
 v29:=Tryz.zeroValue9
 t32:=Tryz.underlying242
 a32:=Tryz.isAgg242
 z32:=Tryz.sizeOf242
 v32:=Tryz.zeroValue242
 t35:=Tryz.underlying271
 a35:=Tryz.isAgg271
 z35:=Tryz.sizeOf271
 v35:=Tryz.zeroValue271
 t36:=Tryz.underlying272
 a36:=Tryz.isAgg272
 z36:=Tryz.sizeOf272
 v36:=Tryz.zeroValue272
 t41:=Tryz.underlying42
 a41:=Tryz.isAgg42
 z41:=Tryz.sizeOf42
 v41:=Tryz.zeroValue42
 t44:=Tryz.underlying243
 a44:=Tryz.isAgg243
 z44:=Tryz.sizeOf243
 v44:=Tryz.zeroValue243
 t46:=Tryz.underlying77
 a46:=Tryz.isAgg77
 z46:=Tryz.sizeOf77
 v46:=Tryz.zeroValue77
 t53:=Tryz.underlying283
 a53:=Tryz.isAgg283
 z53:=Tryz.sizeOf283
 v53:=Tryz.zeroValue283
 t57:=Tryz.underlying287
 a57:=Tryz.isAgg287
 z57:=Tryz.sizeOf287
 v57:=Tryz.zeroValue287
 t63:=Tryz.underlying298
 a63:=Tryz.isAgg298
 z63:=Tryz.sizeOf298
 v63:=Tryz.zeroValue298
 t64:=Tryz.underlying299
 a64:=Tryz.isAgg299
 z64:=Tryz.sizeOf299
 v64:=Tryz.zeroValue299 }
end Go.Proofs
namespace Go.Proofs.YtpeaicddbnghfaaGreat
open Go Go.HL Go.RowKit Go.Maps Go.Sort Go.Shelf Go.MapKept
theorem sortsS_in (m:Nat):AnyZ.SortsIn Tryz.prog Tryz.sortedB_ren Fence.wide m:=
  ⟨fun blk off cap ss W hH hblk hsz=>callsIn_wide.2 (AnyM.slices_Sort_string Tryz.sortB blk off cap ss W hH hblk hsz),
   fun p cap W=>callsIn_wide.2 (AnyM.slices_Sort_string_none Tryz.sortB p cap W)⟩
theorem owns_keysS {h:Heap} {mb:Nat} {l:List (List UInt8 × Value)} (hm:MapT kvB h mb l) (hr:∀p∈l,p.1.length≤1000000000) (hl:l.length≤1000000000) {w:World} (hw:w.heap[mb]? = h[mb]?) :
  ∃(nn:Nat) (D:DataW Unit),w.ownsMap Tryz.prog 9 noElem mb nn D∧Maps.size D=l.length∧(strKeys D).Perm (l.map (·.1)):=by
 obtain ⟨es,cl,hb,he,hs⟩:=hm;have hlen:es.size=l.length:=by
  have:=congrArg List.length he;simpa using this
 have hrd:∀x∈es.toList,∃k∈l.map (·.1),x.key=kvB k∧WideElems.rd Tryz.prog 9 noElem x=some (.string k,.nil):=fun x hx=>by
  have h1:(x.key,x.val)∈es.toList.map fun e=>(e.key,e.val):=List.mem_map.2 ⟨x,hx,rfl⟩;rw [he] at h1;obtain ⟨p,hp,e⟩:=List.mem_map.1 h1;injection e with e1 e2;refine ⟨p.1,List.mem_map.2 ⟨p,hp,rfl⟩,e1.symm,?_⟩;unfold WideElems.rd;have hsz:(BA p.1).size≤maxLen:=by have:=hr p hp;rw [BA_size];simp only [maxLen];omega
  have hk:keyOf Tryz.prog 9 (.string (BA p.1))=some (.string (BA p.1).data.toList):=by simp [keyOf,Tryz.underlying9,mapKey,hsz]
  rw [←e1,kvB,hk];simp [noElem,BA]
 have hrg:es.toList.map (WideElems.rg Tryz.prog 9 noElem)=l.map fun p=>(Lit.string p.1,DataW.nil):=by
  have h1:es.toList.map (·.key)=l.map fun p=>kvB p.1:=by
   have:=congrArg (List.map Prod.fst) he;rw [List.map_map,List.map_map] at this;exact this
  have h2:∀(m:List MapEntry) (s:List (List UInt8 × Value)),m.map (·.key)=(s.map fun p=>kvB p.1)→(∀x∈m,∃k∈l.map (·.1),x.key=kvB k∧WideElems.rd Tryz.prog 9 noElem x=some (.string k,.nil))→m.map (WideElems.rg Tryz.prog 9 noElem)=s.map fun p=>(Lit.string p.1,DataW.nil):=by
   intro m;induction m with
   | nil=>intro s hs _;cases s with
    | nil=>rfl
    | cons a s=>simp at hs
   | cons x m ih=>
    intro s hs hx;cases s with
    | nil=>simp at hs
    | cons a s=>
     simp only [List.map_cons,List.cons.injEq] at hs⊢;obtain ⟨k,_,h3,h4⟩:=hx x List.mem_cons_self;have:a.1=k:=by
      have h5:=hs.1;rw [h3] at h5;exact (KV.ba.inj _ _ h5).symm
     subst this;refine ⟨?_,ih s hs.2 fun y hy=>hx y (List.mem_cons_of_mem _ hy)⟩;unfold WideElems.rg;rw [h4];rfl
  exact h2 _ _ h1 hrd
 refine ⟨es.size,_,⟨es,cl,hw.trans hb,⟨by show _≤9223372036854775807;omega,hs,fun x hx=>let ⟨k,_,_,h⟩:=hrd x hx;⟨_,h⟩⟩,Nat.le_refl _,rfl⟩,?_,?_⟩
 ·show (List.foldr DataW.insert [] _).length=_;rw [(sorted_perm _).length_eq,List.length_map];simpa using hlen
 ·show ((List.foldr DataW.insert [] _).map fun p=>strOf p.1).Perm (l.map (·.1));refine ((sorted_perm _).map _).trans ?_;rw [hrg,List.map_map];exact .of_eq rfl
theorem keysS_any {h:Heap} {mb:Nat} : HC Tryz.prog 173 #[.map (some mb)] h (fun v h'=>v=.func (.func 207) #[] #[ptr h.size]∧h'=h.push (.cells #[.map (some mb)] 103 (0,0))):=
 HC.of_calls ⟨_,Tryz.func173,by decide,rfl⟩ fun w hw=>(callsIn_wide.1 (AnyZ.keys_in Tryz.keysB Fence.wide 5 trivial rfl (some mb) w)).mono fun e w' ⟨h1,h2⟩=>by
  subst h2 hw;exact ⟨_,h1,(RowKit.Below.refl _ w).alloc (Nat.le_refl _) _,rfl,rfl⟩
theorem le_of_not {a b:List UInt8} (h:¬a≤b):b≤a:=by
 rcases list_tri a b with h1 | h1 | h1
 ·exact absurd (List.le_of_lt h1) h
 ·exact absurd (h1▸List.le_refl _) h
 ·exact List.le_of_lt h1
theorem sortedS_any {h:Heap} {mb:Nat} {l:List (List UInt8 × Value)} (hm:MapT kvB h mb l) (hr:∀p∈l,p.1.length≤1000000000) (hl:l.length≤1000000000) :
  HC Tryz.prog 172 #[.func (.func 207) #[] #[ptr h.size]] (h.push (.cells #[.map (some mb)] 103 (0,0)))
   (fun v h'=>∃S:List (List UInt8),S.Perm (l.map (·.1))∧S.Pairwise (·≤·)∧Own (h.push (.cells #[.map (some mb)] 103 (0,0))) h' 1 9 v (S.map kvB)):=
 HC.of_calls ⟨_,Tryz.func172,by decide,rfl⟩ fun w hw=>by
  have hsz:w.heap.size=h.size+1:=by rw [hw];simp
  obtain ⟨nn,D,hown,hD,hK⟩:=owns_keysS hm hr hl (w:=w) (by rw [hw,Array.getElem?_push,if_neg (by have:=hm.lt;omega)]);have hseq:SeqGives Fence.wide 2 Tryz.prog 207 #[.pointer (some ⟨h.size,0,none⟩)] encStr (fun ss=>ss.Perm (strKeys D)) (Maps.size D) w:=
   AnyZ.keys_gives (ρ:=Tryz.keysB_ren) { Tryz.keysB with } Fence.wide _ trivial rfl (by omega) h.size mb nn D w (by omega) (by rw [cell?_eq,hw];exact cell_of (push_same _ _) 0) hown
  have cS:=AnyZ.sorted_in Tryz.sortedB Fence.wide 5 trivial trivial trivial trivial rfl (by omega) (sortsS_in _) (enters_of Tryz.func206 (by kernel_rfl) rfl) 207 #[.pointer (some ⟨h.size,0,none⟩)] trivial (enters_of Tryz.func207 (by kernel_rfl) rfl) _ (Maps.size D) (by show _≤9223372036854775807;omega) (by omega) w hseq;refine (callsIn_wide.1 cS).mono fun e w' ⟨v,ss,h1,h2,h3,h4,h5⟩=>⟨v,h1,by rw [←hw];exact h5,ss.mergeSort (fun x y=>decide (x≤y)),?_,?_,?_⟩
  ·exact (List.mergeSort_perm _ _).trans (h2.trans hK)
  ·have:=List.pairwise_mergeSort (le:=fun x y:List UInt8=>decide (x≤y)) (fun a b c h1 h2=>by simp only [decide_eq_true_eq] at h1 h2⊢;exact List.le_trans h1 h2) (fun a b=>by
    by_cases h:a≤b
    ·simp [h]
    ·simp [le_of_not h]) ss
   exact this.imp fun h=>by simpa using h
  ·have hx:Ext w.heap w'.heap:=Ext.of_below rfl h5;rw [←hw];have hml:(ss.mergeSort fun x y=>decide (x≤y)).length=ss.length:=List.length_mergeSort _;rcases h3.2 with ⟨rfl,hz⟩ | ⟨g,cap,cur,rfl,hg,hgb,hnc,hcm,hcs,hct⟩
   ·have hs0:ss=[]:=List.length_eq_zero_iff.1 hz;subst hs0;rw [List.mergeSort_nil];exact Own.nil hx _ _
   ·refine ⟨⟨_,_,_,rfl,hnc,hcm,by simp,.inr ⟨g,0,cur,(0,0),rfl,hgb,by simp;omega,fzOk_zero _,?_⟩⟩,hx,fun b hb=>?_⟩
    ·rw [List.drop_zero];exact hct
    ·obtain ⟨o,n,c,e⟩:=hb;injection e with e;injection e with e;injection e with e;subst e;exact hg
end Go.Proofs.YtpeaicddbnghfaaGreat
namespace Go.HL
open Go
theorem Cap.lenN {h:Heap} {e:TypeId} {a:Option Addr} {n c:Nat} {S:List (List UInt8)} (r:Cap h 1 e (.slice a n c) (S.map kvB)):n=S.length:=by
 have:=r.sl.cells.1;simp only [List.length_map,Nat.mul_one] at this;exact this.symm
end Go.HL
namespace Go.Proofs.YtpeaicddbnghfaaGreat
open Go Go.HL
theorem nodup_le {α:Type} [DecidableEq α]:∀ {l m:List α},l.Nodup→(∀x∈l,x∈m)→l.length≤m.length
 | [],_,_,_=>Nat.zero_le _
 | a::l,m,h,hs=>by
  have h1:=List.nodup_cons.1 h;have h2:=hs a List.mem_cons_self;have h3:=nodup_le (l:=l) (m:=m.erase a) h1.2 fun x hx=>(List.mem_erase_of_ne (a:=x) (b:=a) (fun e=>h1.1 (by rw [←e];exact hx))).2 (hs x (List.mem_cons_of_mem _ hx));rw [List.length_erase_of_mem h2] at h3;have:=List.length_pos_of_mem h2;simp only [List.length_cons];omega
theorem abs_get {r:RD} {n:List UInt8} : r.abs.fs n=(bget r.fs n).map RF.abs:=rfl
theorem names_few {r:RD} (hk:DkOk r.abs) (hcg:r.chg<1000000000) (hn:(r.fs.map (·.1)).Nodup):(∀p∈ents r.fs,p.1.length≤1000000000)∧(ents r.fs).length≤1000000000:=by
 obtain ⟨ks,h1,h2⟩:=hk.cnt;have hin:∀p∈r.fs,p.1∈ks∧p.1.length≤32:=fun p hp=>h2 p.1 p.2.abs (by rw [abs_get,bget_of hn (by exact hp)];rfl);refine ⟨fun p hp=>?_,?_⟩
 ·obtain ⟨q,hq,rfl⟩:=List.mem_map.1 hp;have:=(hin q hq).2;simp only;omega
 ·have h3:(r.fs.map (·.1)).length≤ks.length:=(nodup_le hn fun x hx=>by
   obtain ⟨p,hp,rfl⟩:=List.mem_map.1 hx;exact (hin p hp).1)
  have h4:(ks.length:Int)≤r.chg:=h1;simp [ents] at h3⊢;omega
theorem keys_of {r:RD} {S:List (List UInt8)} (hn:(r.fs.map (·.1)).Nodup) (hp:S.Perm ((ents r.fs).map (·.1))) (hs:S.Pairwise (·≤·)):Keys r.abs.fs S:=by
 rw [ents_keys] at hp;have hnd:S.Nodup:=hp.nodup_iff.2 hn;refine ⟨(hs.and hnd).imp fun {a b} h=>?_,fun n=>?_⟩
 ·rcases list_tri a b with h1 | h1 | h1
  ·exact h1
  ·exact absurd h1 h.2
  ·exact absurd (List.le_antisymm h.1 (List.le_of_lt h1)) h.2
 ·rw [hp.mem_iff,abs_get];constructor
  ·intro h;obtain ⟨p,hp,rfl⟩:=List.mem_map.1 h;rw [bget_of hn (by exact hp)];rfl
  ·intro h;cases hb:bget r.fs n with
   | none=>rw [hb] at h;cases h
   | some f=>exact List.mem_map.2 ⟨_,bget_mem hb,rfl⟩
theorem names_any {h:Heap} {d:Nat} {r:RD} {E:Nat→Prop} (ok:Hp h none_ [] [dskI d r,bysI E r.fs] h) (hk:DkOk r.abs) (hcg:r.chg<1000000000) :
  HC Tryz.prog 123 #[.pointer (some ⟨d,0,none⟩)] h (fun v h'=>∃S,Keys r.abs.fs S∧Own h h' 1 9 v (S.map kvB)):=by
 refine HC.go Tryz.func123 9 ?_;refine .seq<|.r<|.z .asS<|.nil ?_;refine .seq<|?_;obtain ⟨hd1,hd2,hd3,hd4⟩:=dsk_parts (ok.r0);obtain ⟨hkr,hkl⟩:=names_few hk hcg hd3;refine .r<|.z .mvP<|.z .nil<|.z (.fa T.fd105_0)<|.z (.ldx T.ag103 hd1)<|.c' 7 .func keysS_any ?_;rintro _ _ ⟨rfl,rfl⟩;have ok:=ok.ext (Ext.push _ (.cells #[.map (some r.m)] 103 (0,0)));refine .c' 8 .func (sortedS_any hd2 hkr hkl) ?_;rintro _ η1 ⟨S,hSp,hSs,own⟩;obtain ⟨aS,nS,cS,rfl⟩:=own.form3;have ok:=ok.own own;obtain rfl:nS=S.length:=Cap.lenN ok.m0;refine .z .asS<|.nil ?_;refine .ret ⟨.slice aS S.length cS,Res.one rfl rfl,⟨S,keys_of hd3 hSp hSs,ok.toOwn⟩⟩
def inR (r:RA):Bool:=!r.dark && r.in_
section
variable {A:Ah}
theorem rollbackA_1 (h:A.dark=true):rollbackA A=(A,13):=if_pos h
theorem rollbackA_2 (h:A.dark=false) (h2:A.in_=false):rollbackA A=(A,10):=by unfold rollbackA;rw [if_neg (by rw [h];decide),if_pos h2]
theorem rollbackA_3 (h:A.dark=false) (h2:A.in_=true):rollbackA A=({ A with in_:=false,now:=[] },0):=by unfold rollbackA;rw [if_neg (by rw [h];decide),if_neg (by rw [h2];decide)]
variable {no:Int} {b:List UInt8}
variable {r:RA}
end
open Go Go.HL
theorem PgB.pby {h:Heap} {E:Nat→Prop} {x:SV} {l:List RB} (r:PgB h E x l):Pby h E l:=fun y hy=>r.by' y hy
@[reducible] def dcpI (E:Nat→Prop) (w:RWp):Itm:=⟨fun h=>DocP h E w,E,fun _ _ _ c d r=>r.st c d⟩
theorem pgL'_abs {z fr sc nc:Nat} {sa na:Option Addr} {sl nl:List RB} {i:Bool} : pgs (pgL' i nl sl)=(RWp.abs ⟨z,sa,sc,sl,na,nc,nl,i,fr⟩).pages:=by cases i<;>rfl
end Go.Proofs.YtpeaicddbnghfaaGreat
namespace Go.HL
open Go Go.Proofs.YtpeaicddbnghfaaGreat
section
variable {h0 h h':Heap} {D G:Nat→Prop} {M R:List Itm}
theorem Hp.pbyPut {Q:Nat→Prop} {bs:List RB} {a:Option Addr} {c:Nat} {l:List UInt8} (ok:Hp h0 D (capI 1 5 (a,l.length,c) (l.map bv)::M) (pbyI Q bs::R) h):Hp h0 D M (pbyI (fun j=>Q j∨blkC (sv (a,l.length,c)) j) (bs++[⟨a,c,l⟩])::R) h:=by
 have o:Hp h0 D M (rdI (blkC (sv (a,l.length,c))) none_ (a,l.length,c) l::pbyI Q bs::R) h:=ok.frzB rfl;have o2:=o.or (r:=pbyI Q bs) (r':=rdI (blkC (sv (a,l.length,c))) none_ (a,l.length,c) l) (by simp) (by simp) (pbyI (fun j=>Q j∨blkC (sv (a,l.length,c)) j) (bs++[⟨a,c,l⟩]))
  (Pby.snoc (Pby.mono (fun j h=>.inl h) o.r1) ((show RdL h (blkC (sv (a,l.length,c))) none_ (a,l.length,c) l from o.r0).mono (fun j h=>.inr h) (fun j f=>f.elim))) (fun j h=>h.imp id .inl)
 exact o2.sub (by simp;intro a h;exact .inr (.inr (.inr h)))
theorem Hp.pbyPutN {Q:Nat→Prop} {bs:List RB} {a:Option Addr} {n c:Nat} {l:List UInt8} (hn:n=l.length) (ok:Hp h0 D (capI 1 5 (a,n,c) (l.map bv)::M) (pbyI Q bs::R) h):Hp h0 D M (pbyI (fun j=>Q j∨blkC (sv (a,n,c)) j) (bs++[⟨a,c,l⟩])::R) h:=by
 subst hn;exact ok.pbyPut
theorem Hp.pbySet {Q:Nat→Prop} {bs:List RB} {i:Nat} {a:Option Addr} {c:Nat} {l:List UInt8} (ok:Hp h0 D (capI 1 5 (a,l.length,c) (l.map bv)::M) (pbyI Q bs::R) h):Hp h0 D M (pbyI (fun j=>Q j∨blkC (sv (a,l.length,c)) j) (bs.set i ⟨a,c,l⟩)::R) h:=by
 have o:Hp h0 D M (rdI (blkC (sv (a,l.length,c))) none_ (a,l.length,c) l::pbyI Q bs::R) h:=ok.frzB rfl;have o2:=o.or (r:=pbyI Q bs) (r':=rdI (blkC (sv (a,l.length,c))) none_ (a,l.length,c) l) (by simp) (by simp) (pbyI (fun j=>Q j∨blkC (sv (a,l.length,c)) j) (bs.set i ⟨a,c,l⟩))
  (Pby.set (Pby.mono (fun j h=>.inl h) o.r1) ((show RdL h (blkC (sv (a,l.length,c))) none_ (a,l.length,c) l from o.r0).mono (fun j h=>.inr h) (fun j f=>f.elim))) (fun j h=>h.imp id .inl)
 exact o2.sub (by simp;intro a h;exact .inr (.inr (.inr h)))
theorem Hp.pbyShare {Q E:Nat→Prop} {bs:List RB} {y:RB} {a:Itm} (ok:Hp h0 D M (a::pbyI Q bs::R) h) (hy:RdL h E E (y.a,y.l.length,y.c) y.l) (hE:∀j,E j→a.F j):Hp h0 D M (pbyI (fun j=>Q j∨E j) (bs++[y])::a::R) h:=by
 have o2:=ok.or (r:=pbyI Q bs) (r':=a) (by simp) (by simp) (pbyI (fun j=>Q j∨E j) (bs++[y])) (Pby.snoc (Pby.mono (fun j h=>.inl h) ok.r1) (hy.mono (fun j h=>.inr h) (fun j h=>.inr h))) (fun j h=>h.imp id (hE j));exact o2.sub (by simp;intro a h;exact .inr (.inr (.inr h)))
theorem Hp.pbyNil (ok:Hp h0 D M R h):Hp h0 D M (pbyI none_ []::R) h:=ok.newR (Ext.refl _) _ Pby.nil fun _ f=>f.elim
end
end Go.HL
namespace Go.Proofs.YtpeaicddbnghfaaGreat
open Go Go.HL
@[reducible] def opw6I (E:Nat→Prop) (x:SV) (l:List ROp6):Itm:=rwI 6 ROp6.cells ROp6.sb E x l
def InO (x:ROp6):Prop:=x.k<256∧(-9223372036854775808≤x.no∧x.no≤9223372036854775807)∧(-9223372036854775808≤x.n∧x.n≤9223372036854775807)
def OpsOk6 (l:List ROp6):Prop:=∀x∈l,InO x
theorem pageP_len {z:Nat} {x:PO6} (hz:okSz z=true):(pageP z x).length=z:=by
 unfold pageP;split
 ·exact headP_len hz
 ·simp
def smallO6 (x:ROp6):Bool:=decide (¬(40<x.n∧x.n≤1048576))
def smallB6 (l:List ROp6):Bool:=decide (l.length≤60) && l.all smallO6
theorem smallB6_iff {l:List ROp6} : smallB6 l=true↔l.length≤60∧∀j (hj:j<l.length),smallO6 l[j]=true:=by
 unfold smallB6;rw [Bool.and_eq_true,decide_eq_true_eq,List.all_eq_true];exact and_congr Iff.rfl ⟨fun h j hj=>h _ (List.getElem_mem hj),fun h x hx=>by obtain ⟨j,hj,rfl⟩:=List.mem_iff_getElem.1 hx;exact h j hj⟩
theorem smallB6_no {l:List ROp6} {j:Nat} (hj:j<l.length) (h:40<l[j].n∧l[j].n≤1048576):smallB6 l=false:=by
 cases hs:smallB6 l with
 | false=>rfl
 | true=>exact absurd h (of_decide_eq_true ((smallB6_iff.1 hs).2 j hj))
theorem smallB6_many {l:List ROp6} (h:60<l.length):smallB6 l=false:=by unfold smallB6;rw [decide_eq_false (by omega)];rfl
theorem bytes14_any {h:Heap} {z k:Nat} {no n:Int} {fb:UInt8} {hd:Bool} {ba:Option Addr} {bc:Nat} {bl:List UInt8} {FB EB:Nat→Prop} (hz:okSz z=true) (hbl:RdL h FB EB (ba,bl.length,bc) bl):HC Tryz.prog 52 #[.int .i64 (z:Int),.agg #[.int .u8 (k:Int),.int .i64 no,.int .i64 n,.int .u8 (fb.toNat:Int),.bool hd,.slice ba bl.length bc]] h (fun v h'=>Own h h' 1 5 v ((pageP z ⟨k,no,n,fb,hd,bl⟩).map bv)):=by
 have hb2:=hbl.m;have hb1:=hbl.c;simp only at hb1 hb2;have ok:=(Hp.nil h none_).arg hbl;have hzc:=okSz_cases hz;have hfb:=fb.toNat_lt;refine HC.go Tryz.func52 37 ?_;refine .seq<|.r<|.a' 3 (.bxA (cs:=[.int .u8 (k:Int),.int .i64 no,.int .i64 n,.int .u8 (fb.toNat:Int),.bool hd,.slice ba bl.length bc]) ok) ?_;rintro _ η1 ⟨pb1,rfl,ok,xe⟩;refine .z .asS<|.nil ?_;refine .seq<|.seq<|.r<|.z (.fa T.fd73_4)<|.z (.ldx T.ag4 ok.m0)<|.nil ?_;refine .cond (fun C0=>?_) (fun C0=>?_)
 ·
  refine .seq<|.r<|.z .mvI<|.z (.fa T.fd73_3)<|.z (.ldx T.ag5 ok.m0)<|.c' 12 .func (head14_any (z:=z) (fb:=fb) hz) ?_;rintro _ η2 own;obtain ⟨ya1,yc1,rfl⟩:=own.formB;have ok:=ok.own own;refine .z .asS<|.nil ?_;refine .ret ⟨.slice ya1 ((headP z fb).length) yc1,Res.one rfl rfl,(by rw [show pageP z ⟨k,no,n,fb,hd,bl⟩=headP z fb from if_pos (by simpa using C0)];exact (ok).toOwn)⟩
 refine .skip<|.seq<|.r<|.z .asS<|.nil ?_;refine .seq<|.seq<|?_;have ok:=ok.nilC (k:=1) (e:=5);refine .r<|.z .asI<|.nil ?_;refine .block fun K0 hK0=>.loop (fun m s hh=>∃(i:Nat) (bs:List UInt8) (a5:Option Addr) (c5:Nat),Has s [(0,.int .i64 (z:Int)),(3,.pointer (some ⟨pb1,0,none⟩)),(5,.slice a5 bs.length c5),(6,.int .i64 (i:Int))]∧Hp h none_ [boxI pb1 73 [.int .u8 (k:Int),.int .i64 no,.int .i64 n,.int .u8 (fb.toNat:Int),.bool hd,.slice ba bl.length bc],capI 1 5 (a5,bs.length,c5) (bs.map bv)] [rdI (fun j=>FB j∧j<h.size) (fun j=>EB j∧j<h.size) (ba,bl.length,bc) bl] hh∧i≤z∧bs=(List.range i).map (fun j=>bl.getD j fb)∧bs.length=i∧m=z-i) ?_ ?_
 ·exact ⟨_,0,[],none,0,⟨rfl,rfl,rfl,rfl,trivial⟩,(ok.n1).k2,by omega,rfl,rfl,rfl⟩
 rintro _ _ η3 ⟨i,bs,a5,c5,hs,ok,hi,hbs,hbl2,rfl⟩ J0 hJ0;refine .frame hs fun τ=>?_;refine .seq<|.seq<|.r<|.z .mvI<|.z .mvI<|.z .lss<|.nil ?_;refine .cdr (fun C1=>?_) (fun C1=>?_)
 ·
  have hiz:i=z:=by omega
  refine .exit<|hK0 _ _<|.seq<|.r<|.z .mvS<|.z .asS<|.nil ?_;refine .ret ⟨.slice a5 bs.length c5,Res.one rfl rfl,(by rw [show pageP z ⟨k,no,n,fb,hd,bl⟩=bs from (if_neg (show ¬hd=true by simpa using C0)).trans (by rw [hbs,hiz])];exact (ok.n1).toOwn)⟩
 refine .skip<|.seq<|.block fun K1 hK1=>.seq<|.r<|.z .mvI<|.z (.fa T.fd73_5)<|.z (.ldx T.ag22 ok.m0)<|.z (.len T.el22)<|.z .lss<|.nil ?_;refine .cd (fun C2=>?_) (fun C2=>?_)
 ·
  refine .r<|.z .mvS<|.z (.fa T.fd73_5)<|.z (.ldx T.ag22 ok.m0)<|.z .mvI<|?_;obtain ⟨bb1,oo1,rfl,fb1⟩:=ok.r0.pos (by omega);refine .z (.ix1 i T.el22 T.sz5)<|.z (.ld T.ag5 (ok.r0.u8 (i:=i) (by omega)))<|.a' 29 (.lit [.tmp 28] (cs:=[.int .u8 (bl[i].toNat:Int)]) T.el22 T.sz5 T.zr5 ok ⟨rfl,trivial⟩) ?_;rintro _ η4 ⟨pb2,rfl,ok,xe⟩;have ok:=ok.cx (ys:=([bl[i]]:List UInt8).map bv) rfl;refine .a' 30 (.app (news:=([bl[i]]:List UInt8).map bv) T.el22 T.sz5 T.by5 T.zr5 ok.n2 (ok.n2.m1).sl bv_all (by simp only [List.length_map,List.length_append,List.length_take,List.length_cons,List.length_nil,List.length_replicate,List.length_range,fixedN_len,sealN_len];omega)) ?_;rintro _ η5 ⟨ya2,yn2,yc2,rfl,ok,ap⟩;have ok:=ok.cx (ys:=(bs++([bl[i]]:List UInt8)).map bv) (by simp [bv]);obtain rfl:yn2=(bs++([bl[i]]:List UInt8)).length:=ok.lenB;refine .z .asS<|.nil ?_;refine .end<|hK1 _ _<|.r<|.z .mvI<|.z (.addI (b:=1))<|.z .asI<|.nil ?_;refine .end<|hJ0 _ _ _ ⟨i+1,bs++[bl[i]],ya2,yc2,⟨rfl,rfl,rfl,rfl,trivial⟩,(ok.n2).k2,by omega,by rw [List.range_succ,List.map_append,List.map_singleton,←hbs];(first | rw [show bl.getD i fb=bl[i] by simp [show i<bl.length by omega]] | rw [show bl.getD i fb=fb by simp [show bl.length≤i by omega]]),by rw [List.length_append,hbl2];rfl,rfl⟩ (by omega)
 refine .r<|.z .mvS<|.z (.fa T.fd73_3)<|.z (.ldx T.ag5 ok.m0)<|.a' 34 (.lit [.tmp 33] (cs:=[.int .u8 (fb.toNat:Int)]) T.el22 T.sz5 T.zr5 ok ⟨rfl,trivial⟩) ?_;rintro _ η6 ⟨pb3,rfl,ok,xe⟩;have ok:=ok.cx (ys:=([fb]:List UInt8).map bv) rfl;refine .a' 35 (.app (news:=([fb]:List UInt8).map bv) T.el22 T.sz5 T.by5 T.zr5 ok.n2 (ok.n2.m1).sl bv_all (by simp only [List.length_map,List.length_append,List.length_take,List.length_cons,List.length_nil,List.length_replicate,List.length_range,fixedN_len,sealN_len];omega)) ?_;rintro _ η7 ⟨ya3,yn3,yc3,rfl,ok,ap⟩;have ok:=ok.cx (ys:=(bs++([fb]:List UInt8)).map bv) (by simp [bv]);obtain rfl:yn3=(bs++([fb]:List UInt8)).length:=ok.lenB;refine .z .asS<|.nil ?_;refine .end<|hK1 _ _<|.r<|.z .mvI<|.z (.addI (b:=1))<|.z .asI<|.nil ?_;refine .end<|hJ0 _ _ _ ⟨i+1,bs++[fb],ya3,yc3,⟨rfl,rfl,rfl,rfl,trivial⟩,(ok.n2).k2,by omega,by rw [List.range_succ,List.map_append,List.map_singleton,←hbs];(first | rw [show bl.getD i fb=bl[i] by simp [show i<bl.length by omega]] | rw [show bl.getD i fb=fb by simp [show bl.length≤i by omega]]),by rw [List.length_append,hbl2];rfl,rfl⟩ (by omega)
theorem small14_any {h:Heap} {E:Nat→Prop} {a:Option Addr} {c:Nat} {l:List ROp6} (hl:RwB 6 ROp6.cells ROp6.sb h E (a,l.length,c) l):HC Tryz.prog 44 #[.slice a l.length c] h (fun v h'=>v=.bool (smallB6 l)∧h'=h):=by
 have hc2:=hl.m;refine HC.go Tryz.func44 28 ?_;refine .seq<|.r<|.z .asB<|.nil ?_;refine .seq<|.seq<|.r<|.z .asI<|.nil ?_;refine .block fun K0 hK0=>.loop (fun m s hh=>∃(i:Nat),Has s [(0,.slice a l.length c),(3,.int .i64 (i:Int))]∧h=hh∧i≤l.length∧i≤60∧(∀j (hj:j<l.length),j<i→smallO6 l[j]=true)∧m=l.length-i) ?_ ?_
 ·exact ⟨_,0,⟨rfl,rfl,trivial⟩,rfl,Nat.zero_le _,by omega,fun _ _ h=>absurd h (Nat.not_lt_zero _),rfl⟩
 rintro _ _ _ ⟨i,hs,rfl,hi,hi2,hall,rfl⟩ J0 hJ0;refine .frame hs fun τ=>?_;refine .seq<|.seq<|.r<|.z .mvI<|.z .mvS<|.z (.len T.el69)<|.z .lss<|.nil ?_;refine .cdr (fun C0=>?_) (fun C0=>?_)
 ·
  refine .exit<|hK0 _ _<|.seq<|.r<|.z .asB<|.nil ?_;refine .ret ⟨.bool true,Res.one rfl rfl,⟨by rw [smallB6_iff.2 ⟨by omega,fun j hj=>hall j hj (by omega)⟩],rfl⟩⟩
 have hil:i<l.length:=by omega
 refine .skip<|.seq<|.block fun K1 hK1=>.seq<|.r<|.z .mvI<|.z .geq<|.z .mvB<|.sd (fun G12=>?_) (fun G12=>?_)
 ·
  refine .y<|.y<|.y<|.y<|.y<|.y<|.y<|.y<|.y<|.y<|.y<|.y<|.y<|.y<|.z .pkt<|.nil ?_;refine .ct<|.seq<|.r<|.z .asB<|.nil ?_;refine .ret ⟨.bool false,Res.one rfl rfl,⟨by first | rw [smallB6_many (by omega)] | rw [smallB6_no (j:=i) hil (by omega)],rfl⟩⟩
 refine .z .mvS<|.z .mvI<|?_;obtain ⟨bb1,oo1,rfl,fb1⟩:=hl.pos (by omega);refine .z (.ix i T.el69 T.sz73)<|.z (.fa T.fd73_2)<|.z (.ld T.ag3 (sl_at ROp6.cells_len (hl).sl (i:=i) (j:=2) (by omega) rfl))<|.z .gtr<|.z .mvB<|.sd (fun G19=>?_) (fun G19=>?_)
 ·
  refine .z .mvS<|.z .mvI<|.z (.ix i T.el69 T.sz73)<|.z (.fa T.fd73_2)<|.z (.ld T.ag3 (sl_at ROp6.cells_len (hl).sl (i:=i) (j:=2) (by omega) rfl))<|.z .leq<|.z .pkt<|.z .pkf<|.nil ?_;refine .cd (fun C1=>?_) (fun C1=>?_)
  ·
   refine .seq<|.r<|.z .asB<|.nil ?_;refine .ret ⟨.bool false,Res.one rfl rfl,⟨by first | rw [smallB6_many (by omega)] | rw [smallB6_no (j:=i) hil (by omega)],rfl⟩⟩
  refine .skip<|.end<|hK1 _ _<|.r<|.z .mvI<|.z (.addI (b:=1))<|.z .asI<|.nil ?_;refine .end<|hJ0 _ _ _ ⟨i+1,⟨rfl,rfl,trivial⟩,rfl,by omega,by omega,fun j hj h=>(Nat.lt_succ_iff_lt_or_eq.1 h).elim (hall j hj) (fun e=>by subst e;exact decide_eq_true (by omega)),rfl⟩ (by omega)
 refine .y<|.y<|.y<|.y<|.y<|.y<|.z .pkf<|.z .pkf<|.nil ?_;refine .cf<|.skip<|.end<|hK1 _ _<|.r<|.z .mvI<|.z (.addI (b:=1))<|.z .asI<|.nil ?_;refine .end<|hJ0 _ _ _ ⟨i+1,⟨rfl,rfl,trivial⟩,rfl,by omega,by omega,fun j hj h=>(Nat.lt_succ_iff_lt_or_eq.1 h).elim (hall j hj) (fun e=>by subst e;exact decide_eq_true (by omega)),rfl⟩ (by omega)
theorem crF_syn {f:Fl} {ks:List UInt8} : crF f ks=synF (optP (crC f.safe f.was f.opn ks)):=by
 unfold crF settleF synF optP;cases (crC f.safe f.was f.opn ks).2<;>rfl
theorem crashL_notP:∀ {S:List (List UInt8)} {fs:List UInt8→Option Fl} {ks n:List UInt8},n∉S→crashL fs S ks n=fs n
 | [],_,_,_,_=>rfl
 | m::S,fs,ks,n,h=>by
  have h1:n≠m:=fun e=>h (e▸List.mem_cons_self);have h2:n∉S:=fun e=>h (List.mem_cons_of_mem _ e);unfold crashL;cases fs m with
  | none=>exact crashL_notP h2
  | some f=>simp only;rw [crashL_notP h2,put1_ne h1]
theorem crashL_out:∀ {S:List (List UInt8)} {fs:List UInt8→Option Fl} {ks n:List UInt8},S.Pairwise (· < ·)→n∈S→∃c,Out (fs n) c∧crashL fs S ks n=synF c
 | m::S,fs,ks,n,hS,h=>by
  have hS':=List.pairwise_cons.1 hS;unfold crashL;by_cases e:n=m
  ·subst e;have hnS:n∉S:=fun h=>absurd (hS'.1 n h) (List.lt_irrefl _);cases hf:fs n with
   | none=>simp only;rw [crashL_notP hnS,hf];exact ⟨none,⟨[],rfl⟩,rfl⟩
   | some f=>simp only;rw [crashL_notP hnS,put1_at,crF_syn];exact ⟨_,⟨ks,rfl⟩,rfl⟩
  ·have h:n∈S:=(List.mem_cons.1 h).resolve_left e;cases fs m with
   | none=>exact crashL_out hS'.2 h
   | some f=>
    simp only;obtain ⟨c,h1,h2⟩:=crashL_out (fs:=put1 fs m (crF f ks)) (ks:=ks.drop f.opn.length) hS'.2 h;rw [put1_ne e] at h1;exact ⟨c,h1,h2⟩
theorem crash_out {d:Dk} {S:List (List UInt8)} {ks:List UInt8} (hK:Keys d.fs S) (n:List UInt8):∃c,Out (d.fs n) c∧(crashN d S ks).fs n=synF c:=by
 by_cases h:n∈S
 ·exact crashL_out hK.up h
 ·have h1:d.fs n=none:=by
   cases hf:d.fs n with
   | none=>rfl
   | some f=>exact absurd ((hK.iff n).2 (by rw [hf];rfl)) h
  exact ⟨none,⟨[],by rw [h1];rfl⟩,by show crashL d.fs S ks n=_;rw [crashL_notP h,h1];rfl⟩
theorem crash_gd {d:Dk} {z:Nat} {P:List (List UInt8)→Prop} {ns:List (List UInt8)} {ks:List UInt8} (hK:Keys d.fs ns) (h:∀T' L' M',Out (d.fs nT) T'→Out (d.fs nL) L'→Out (d.fs nM) M'→∃s,P s∧Gd z T' L' M' s):∃T L M s,Syn3 (crashN d ns ks) T L M∧P s∧Gd z T L M s:=by
 obtain ⟨T,h1,h2⟩:=crash_out (ks:=ks) hK nT;obtain ⟨L,h3,h4⟩:=crash_out (ks:=ks) hK nL;obtain ⟨M,h5,h6⟩:=crash_out (ks:=ks) hK nM;obtain ⟨s,h7,h8⟩:=h T L M h1 h3 h5;exact ⟨T,L,M,s,⟨rfl,h2,h4,h6⟩,h7,h8⟩
theorem aPages_any {h:Heap} {p:Nat} {r:RA} (hb:(aboxI p r).p h) :
  HC Tryz.prog 19 #[.pointer (some ⟨p,0,none⟩)] h (fun v h'=>v=.int .i64 ((if r.dark=true then 0 else pgsR r:Nat):Int)∧h'=h):=by
 refine HC.go Tryz.func19 8 ?_;refine .seq<|.r<|.z .asI<|.nil ?_;refine .seq<|.seq<|.r<|.z .mvP<|.k 4 .func (look_any (r:=r) hb)<|.z .neq<|.nil ?_;refine .cd (fun C0=>?_) (fun C0=>?_)
 ·
  have hdk:r.dark=true:=lookE_t C0;refine .seq<|.r<|.z .asI<|.nil ?_;refine .ret ⟨.int .i64 0,Res.one rfl rfl,⟨by rw [if_pos hdk];rfl,rfl⟩⟩
 have hdk:r.dark=false:=lookE_f C0;refine .skip<|.seq<|.r<|.z .mvP<|.k 7 .func (apages_any (r:=r) hb)<|.z .asI<|.nil ?_;refine .ret ⟨.int .i64 ((pgsR r:Nat):Int),Res.one rfl rfl,⟨by rw [if_neg (by rw [hdk];decide)],rfl⟩⟩
theorem ain_any {h:Heap} {p:Nat} {r:RA} (hb:(aboxI p r).p h) :
  HC Tryz.prog 59 #[.pointer (some ⟨p,0,none⟩)] h (fun v h'=>v=.bool (inR r)∧h'=h):=by
 refine HC.go Tryz.func59 13 ?_;refine .seq<|.r<|.z .asB<|.nil ?_;refine .seq<|.r<|.z .mvP<|.k 4 .func (look_any (r:=r) hb)<|.z .eql<|.z .mvB<|.sd (fun G6=>?_) (fun G6=>?_)
 ·
  refine .z .mvP<|.z .nil<|.z (.fa T.fd119_1)<|.z (.fa T.fd117_0)<|.z (.ldx T.ag4 hb)<|.z .pkt<|.z .asB<|.nil ?_;refine .ret ⟨.bool r.in_,Res.one rfl rfl,⟨congrArg Value.bool (by unfold inR;rw [show r.dark=false from lookE_f (by omega)];rfl),rfl⟩⟩
 refine .y<|.y<|.y<|.y<|.y<|.z .pkf<|.z .asB<|.nil ?_;refine .ret ⟨.bool false,Res.one rfl rfl,⟨congrArg Value.bool (by unfold inR;rw [show r.dark=true from lookE_t (by omega)];rfl),rfl⟩⟩
theorem arollback_any {h:Heap} {p:Nat} {r:RA} {A:Ah} {E Q:Nat→Prop} (ok:Hp h (pagI p r).F [pagI p r] [bysI E r.rd.fs,pbsI Q r.bs] h) (I:PIs r A) (hcg:A.dk.chg<400000000) :
  HC Tryz.prog 53 #[.pointer (some ⟨p,0,none⟩)] h (fun v h'=>∃r' E' Q',v=.int .i64 ((rollbackA A).2:Int)∧PIs r' (rollbackA A).1∧MUp h h' p r r' E E' Q Q'):=by
 have hk:DkOk r.rd.abs:=by rw [I.dk];exact I.ok
 have hch:r.rd.chg=A.dk.chg:=congrArg Dk.chg I.dk;have hsz:=okSz_cases I.sz;have hsR:r.size=A.size:=I.size;have hmR:r.many=A.now.length:=I.many;have hsuR:r.sure=A.sure.length:=I.sure;have hfrR:r.fr=A.fr:=I.fr;have hndR:r.nd=A.nd:=I.nd;have hlkR:r.link=A.link:=I.link;have hsm:=I.sm;have hnm:=I.nm;have hndb:=I.ndb;have hfrb:=I.frb;have hlkb:=I.lkb;refine HC.go Tryz.func53 19 ?_;refine .seq<|.r<|.z .asI<|.nil ?_;refine .seq<|.seq<|.r<|.z .mvP<|.k 5 .func (look_any (r:=r) ((ok).popn.m0))<|.z .asI<|.nil ?_;refine .seq<|.r<|.z .mvI<|.z .neq<|.nil ?_;refine .cd (fun C0=>?_) (fun C0=>?_)
 ·
  have hdk:r.dark=true:=lookE_t C0;have hA:A.dark=true:=I.dark.symm.trans hdk;refine .seq<|.r<|.z .mvI<|.z .asI<|.nil ?_;refine .ret ⟨.int .i64 ((lookE r.dark:Nat):Int),Res.one rfl rfl,⟨r,E,Q,(by rw [rollbackA_1 hA,show lookE r.dark=13 from if_pos hdk]),(by rw [rollbackA_1 hA];exact I),⟨(ok.f1.f1).k1.e2,(fun _ h=>Or.inl h),(fun _ h=>Or.inl h),rfl⟩⟩⟩
 have hdk:r.dark=false:=lookE_f C0;have hA:A.dark=false:=I.dark.symm.trans hdk;refine .skip<|.seq<|.seq<|?_;have ok:=(ok).popn;refine .r<|.z .mvP<|.z .nil<|.z (.fa T.fd119_1)<|.z (.fa T.fd117_0)<|.z (.ldx T.ag4 ok.m0)<|.z .not<|.nil ?_;refine .cond (fun C1=>?_) (fun C1=>?_)
 ·
  refine .seq<|.r<|.z .asI<|.nil ?_;have ok:=Hp.pcls (p:=p) (at_:=r.at_) (bs:=r.bs) (ok);refine .ret ⟨.int .i64 10,Res.one rfl rfl,⟨(⟨r.fr,r.nd,r.link,r.am,r.at_,r.in_,r.many,r.bm,r.bs,r.d,r.rd,r.size,r.sure,r.c,r.cF,r.S,r.dark⟩:RA),E,Q,(by rw [rollbackA_2 hA (I.in_.symm.trans (by simpa using C1))];rfl),(by rw [rollbackA_2 hA (I.in_.symm.trans (by simpa using C1))];exact I),⟨(ok.f1.f1).k1.e2,(fun _ h=>Or.inl h),(fun _ h=>Or.inl h),rfl⟩⟩⟩
 refine .skip<|.seq<|.r<|.z .mvP<|.z (.bd #[.bool false,.int .i64 0,.map none] T.zr117 T.pl117 rfl)<|.z .nil<|.z (.fa T.fd119_1)<|.ur' (.stA (vs:=[.bool false,.int .i64 0,.map none]) T.sz117 ok (oneL rfl)) ?_;rintro η1 ⟨ok,cg⟩;refine .nil ?_;refine .seq<|.r<|.z .asI<|.nil ?_;have ok:=ok.nowNil (bs:=[]);have ok:=Hp.pcls (p:=p) (at_:=r.at_) (bs:=[]) (ok.n5.n5.n2.n4.n4);have ok:=(ok.f1).pbsNil;refine .ret ⟨.int .i64 0,Res.one rfl rfl,⟨(⟨r.fr,r.nd,r.link,r.am,r.at_,false,0,none,[],r.d,r.rd,r.size,r.sure,r.c,r.cF,r.S,r.dark⟩:RA),E,Q,(by rw [rollbackA_3 hA (I.in_.symm.trans (by simpa using C1))];rfl),(by rw [rollbackA_3 hA (I.in_.symm.trans (by simpa using C1))];exact I.drop),⟨(ok.f1).k1.e2,(fun _ h=>Or.inl h),(fun _ h=>Or.inl h),rfl⟩⟩⟩
end Go.Proofs.YtpeaicddbnghfaaGreat
namespace Go.HL
open Go Go.Proofs.YtpeaicddbnghfaaGreat
theorem Hp.frzN {h0 h:Heap} {D:Nat→Prop} {M R:List Itm} {e:TypeId} {x:SV} {S:List (List UInt8)} (ok:Hp h0 D (capI 1 e x (S.map kvB)::M) R h):Hp h0 D M (rdI (blkC (sv x)) none_ x (S.map Nm.mk)::R) h:=
 (ok.re (rdI (blkC (sv x)) none_ x (S.map Nm.mk)) (RdL.ofCapN ok.m0) fun _ hj=>hj.elim id fun f=>f.elim).frz
theorem RdL.b8 {h:Heap} {F E E':Nat→Prop} {x:SV} {l:List UInt8} (r:RdL h F E x l):RdL h F E' x l:=⟨r.n,r.c,r.m,fun hp=>r.at' hp⟩
end Go.HL
namespace Go.Proofs.YtpeaicddbnghfaaGreat
open Go Go.HL
theorem crC_t {b:List UInt8} {h:Bool} {c:Chn} {l:List Chn} {ks:List UInt8} {k:Nat} (hk:k=(ks.headD 0).toNat) (h1:(keptN c k).2=true) (h2:c.kind=0∨h=true):crC b h (c::l) ks=crC (doneN (keptN c k).1 b h).1 (doneN (keptN c k).1 b h).2 l ks.tail:=by
 subst hk;rw [crC];exact if_pos ⟨h1,h2⟩
theorem crC_f {b:List UInt8} {h:Bool} {c:Chn} {l:List Chn} {ks:List UInt8} {k:Nat} (hk:k=(ks.headD 0).toNat) (h1:¬((keptN c k).2=true∧(c.kind=0∨h=true))):crC b h (c::l) ks=crC b h l ks.tail:=by
 subst hk;rw [crC];exact if_neg h1
theorem kept_pre {c:Chn} {k:Nat} : (keptN c k).1.b <+: c.b:=by
 unfold keptN;split
 ·exact List.prefix_refl _
 ·split
  ·exact List.take_prefix _ _
  ·exact List.prefix_refl _
theorem CrInv.has {fs0 fs:List UInt8→Option Fl} {S:List (List UInt8)} {k0 ks:List UInt8} {i:Nat} (v:CrInv fs0 fs S k0 ks i) (hK:Keys fs0 S) (hi:i<S.length):∃f,fs S[i]=some f:=by
 rw [v.old _ (by rw [List.drop_eq_getElem_cons hi];exact List.mem_cons_self)];have:=(hK.iff S[i]).1 (List.getElem_mem hi);cases h:fs0 S[i] with
 | none=>rw [h] at this;cases this
 | some f=>exact ⟨f,rfl⟩
theorem DkOk.crf {d:Dk} {n:List UInt8} {f:Fl} {ks:List UInt8} (k:DkOk d) (hf:d.fs n=some f):DkOk ⟨put1 d.fs n (crF f ks),d.dark,d.left,d.chg⟩:=by
 have h0:=k.chg;refine ⟨fun m g h=>?_,k.chg,k.left,let ⟨ks,h1,h2⟩:=k.cnt;⟨ks,h1,fun m g h=>?_⟩⟩
 ·simp only [put1] at h;split at h
  ·have h1:=crF_ok (k.fs n f hf).1 h;exact ⟨h1.1,by rw [h1.2];simpa using h0⟩
  ·exact k.fs m g h
 ·simp only [put1] at h;split at h
  ·rename_i e;subst e;exact h2 _ _ hf
  ·exact h2 m g h
theorem opn_drop {f:RF} {k:Nat} (h:k<f.ol.length):f.abs.opn.drop k=⟨f.ol[k].kind,f.ol[k].pos,f.ol[k].bl⟩::f.abs.opn.drop (k+1):=by
 rw [show f.abs.opn=f.ol.map RC.abs from rfl,List.drop_eq_getElem_cons (by simpa using h),List.getElem_map];rfl
def nowR (f:RF) (xa:Option Addr) (xc:Nat) (xl:List UInt8) (hh:Bool):RF:=⟨f.blk,xa,xc,xl,f.sa,f.sc,f.sl,hh,f.was,f.oa,f.oc,f.ol⟩
theorem cr_abs {rc:RD} {n:List UInt8} {f:RF} {xa:Option Addr} {xc:Nat} {xl kl:List UInt8} {hh:Bool} (hcr:crC f.sl f.was f.abs.opn kl=(xl,hh)):(settleR ⟨rc.m,bput rc.fs n (nowR f xa xc xl hh),rc.dark,rc.left,rc.chg⟩ n (nowR f xa xc xl hh)).abs=⟨put1 rc.abs.fs n (crF f.abs kl),rc.dark,rc.left,rc.chg⟩:=by
 rw [settleR_abs];congr 1;funext m;by_cases hm:m=n
 ·subst hm;rw [put1_at,put1_at];unfold crF settleF;rw [show f.abs.safe=f.sl from rfl,show f.abs.was=f.was from rfl,hcr];rfl
 ·rw [put1_ne hm,put1_ne hm,abs_get,abs_get,bget_put,if_neg hm]
theorem cr_close {h0 h:Heap} {D Ec Ex:Nat→Prop} {M R:List Itm} {K:Itm} {d:Nat} {rc:RD} {n:List UInt8} {f:RF} {xa:Option Addr} {xc:Nat} {xl:List UInt8} {hh:Bool} (hn:(rc.fs.map (·.1)).Nodup) (hg:bget rc.fs n=some f)
  (ok:Hp h0 D (boxI f.blk 127 [.slice xa xl.length xc,.slice f.sa f.sl.length f.sc,.bool hh,.bool f.was,.slice f.oa f.ol.length f.oc]::fopnI f::flsI (bdel rc.fs n)::dboxI d rc::mapI kvB rc.m (ents rc.fs)::M) (rdI Ex none_ (xa,xl.length,xc) xl::K::byfI Ec f::bysI Ec rc.fs::R) h) :
  Hp h0 D (dskI d ⟨rc.m,bput rc.fs n (nowR f xa xc xl hh),rc.dark,rc.left,rc.chg⟩::M) (bysI (fun j=>Ec j∨Ex j) (bput rc.fs n (nowR f xa xc xl hh))::K::R) h:=by
 have o2:=Hp.fcls (n:=n) (f:=nowR f xa xc xl hh) hn ok;have o3:=Hp.dcls (r:=⟨rc.m,bput rc.fs n (nowR f xa xc xl hh),rc.dark,rc.left,rc.chg⟩) (d:=d) (M:=M) (by
  have o4:=o2.n2.n2;simp only;rw [ents_same hg (by rfl)];exact o4)
 have hby:Bys h (fun j=>Ec j∨Ex j) (bput rc.fs n (nowR f xa xc xl hh)):=Bys.put (Bys.mono (fun _ h=>.inl h) o3.r3) ⟨RdL.mono (fun _ h=>.inr h) (fun _ f=>f.elim) o3.r0,RdL.mono (fun _ h=>.inl h) (fun _ h=>.inl h) o3.r2.safe,fun x hx=>RdL.mono (fun _ h=>.inl h) (fun _ h=>.inl h) (o3.r2.opn x hx)⟩;exact (o3.or (r:=rdI Ex none_ (xa,xl.length,xc) xl) (r':=bysI Ec rc.fs) (by simp) (by simp) (bysI (fun j=>Ec j∨Ex j) (bput rc.fs n (nowR f xa xc xl hh))) hby (fun j hj=>hj.elim .inr fun h=>.inl (.inl h))).sub (by
  intro i hi;simp only [List.mem_cons] at hi⊢;rcases hi with h | h | h
  ·exact .inl h
  ·exact .inr (.inr (.inl h))
  ·exact .inr (.inr (.inr (.inr (.inr h)))))
theorem crash_any {h:Heap} {d:Nat} {r:RD} {E F2 E2:Nat→Prop} {a:Option Addr} {c:Nat} {l:List UInt8} (ok:Hp h (dskI d r).F [dskI d r] [bysI E r.fs,rdI F2 E2 (a,l.length,c) l] h) (hk:DkOk r.abs) (hcg:r.chg<1000000000) :
  HC Tryz.prog 58 #[.pointer (some ⟨d,0,none⟩),.slice a l.length c] h (fun v h'=>∃S r' E',v=.tuple #[]∧Keys r.abs.fs S∧r'.abs=crashN r.abs S l∧DUp h h' d r r' E E'):=by
 refine HC.go Tryz.func58 107 ?_;refine .seq<|.seq<|.r<|.z .mvP<|.z (.pEqS T.pt30)<|.nil ?_;refine .cf<|.skip<|.seq<|.seq<|.r<|.z .mvP<|.c' 15 .func (names_any (d:=d) (r:=r) (E:=E) ((ok).rdo) hk hcg) ?_;rintro _ η1 ⟨S,hKS,own⟩;obtain ⟨aS,nS,cS,rfl⟩:=own.form3;have ok:=ok.own own;obtain rfl:nS=S.length:=Cap.lenN ok.m0;have ok:=ok.frzN;have hSc:S.length≤cS:=ok.r0.c;have hSm:cS≤9223372036854775807:=ok.r0.m;generalize hFS:blkC (sv (aS,S.length,cS))=FS at ok;refine .z (.len T.el172)<|.z .mvI<|.nil ?_;refine .block fun K0 hK0=>.loop (fun m s hh=>∃(i:Nat) (rc:RD) (Ec:Nat→Prop) (ka:Option Addr) (kc:Nat) (kl:List UInt8),Has s [(0,.pointer (some ⟨d,0,none⟩)),(1,.slice ka kl.length kc),(15,.slice aS S.length cS),(16,.int .i64 (S.length:Int)),(17,.int .i64 (i:Int))]∧Hp h (dskI d r).F [dskI d rc] [rdI F2 E2 (ka,kl.length,kc) kl,bysI Ec rc.fs,rdI FS none_ (aS,S.length,cS) (S.map Nm.mk)] hh∧CrInv r.abs.fs rc.abs.fs S l kl i∧DkOk rc.abs∧rc.chg=r.chg∧(∀j,Ec j→E j∨h.size≤j)∧m=S.length-i) ?_ ?_
 ·exact ⟨_,0,r,E,a,c,l,⟨rfl,rfl,rfl,rfl,rfl,trivial⟩,ok.f1.f2,⟨Nat.zero_le _,rfl,fun _ _=>rfl⟩,hk,rfl,fun _ h=>.inl h,rfl⟩
 rintro _ _ η2 ⟨i,rc,Ec,ka,kc,kl,hs,ok,hv,hkc,hch,hEc,rfl⟩ J0 hJ0;refine .frame hs fun τ=>?_;refine .seq<|.r<|.z .lss<|.nil ?_;refine .seq<|.cdr (fun C1=>?_) (fun C1=>?_)
 ·
  refine .exit<|hK0 _ _<|?_;have ok:=(ok).dopn;refine .r<|.z .mvP<|.z .mvP<|.z .nil<|.z (.fa T.fd105_1)<|.ur' (.stB T.sz4 ok) ?_;rintro η3 ⟨ok,cg⟩;refine .z .nil<|.z (.fa T.fd105_2)<|.ur' (.stI T.sz3 ok) ?_;rintro η4 ⟨ok,cg⟩;refine .nil ?_;refine .end<|⟨.tuple #[],Res.none rfl,⟨S,⟨rc.m,rc.fs,false,-1,rc.chg⟩,Ec,rfl,hKS,by unfold crashN;rw [hv.eq,List.drop_eq_nil_of_le (by omega),crashL,show r.abs.chg=r.chg from rfl,←hch];rfl,(Hp.dcls (r:=⟨rc.m,rc.fs,false,-1,rc.chg⟩) (ok.n2.n2.n2).f2.f1.f2).up hEc⟩⟩
 refine .skip<|.seq<|.block fun K1 hK1=>.seq<|?_;have hiS:i<S.length:=by omega
 refine .r<|?_;obtain ⟨bb1,oo1,rfl,fb1⟩:=ok.r2.pos (by first | omega | (simp;omega));refine .z (.ix1 i T.el172 T.sz9)<|.z (.ld T.ag9 (ok.r2.nm (i:=i) (by omega)))<|.z .asT<|.nil ?_;refine .seq<|?_;obtain ⟨fa,hfa⟩:=hv.has hKS hiS;obtain ⟨f,hg,hfe⟩:∃f,bget rc.fs S[i]=some f∧f.abs=fa:=by (rw [abs_get] at hfa;cases hb:bget rc.fs S[i] with | none=>(rw [hb] at hfa;cases hfa) | some f=>exact ⟨f,rfl,by rw [hb] at hfa;exact Option.some.inj hfa⟩)
 subst hfe;have hfo:FlOk f.abs:=(hkc.fs _ _ hfa).1;have hol9:(f.ol.length:Int)≤rc.chg:=by have h9:=(hkc.fs _ _ hfa).2;simpa [RF.abs] using (show _≤rc.chg from h9)
 obtain ⟨hd1,hd2,hd3,hd4⟩:=dsk_parts (ok.m0);refine .r<|.z .mvP<|.z .nil<|.z (.fa T.fd105_0)<|.z (.ldx T.ag103 hd1)<|.z .mvT<|.z (.lk KV.ba (S[i]) (v:=.pointer (some ⟨f.blk,0,none⟩)) T.mp103 (stB_iff T.st9) T.zr123 hd2 (by rw [ents_get,hg];rfl))<|.z .asP<|.nil ?_;refine .seq<|.join (fun s hh=>Has s [(0,.pointer (some ⟨d,0,none⟩)),(1,.slice ka kl.length kc),(5,.string (BA (S[i]))),(6,.pointer (some ⟨f.blk,0,none⟩)),(15,.slice (some ⟨bb1,oo1,none⟩) S.length cS),(16,.int .i64 (S.length:Int)),(17,.int .i64 (i:Int))]∧Hp h (dskI d r).F [boxI f.blk 127 [.slice f.sa f.sl.length f.sc,.slice f.sa f.sl.length f.sc,.bool f.was,.bool f.was,.slice f.oa f.ol.length f.oc],capI 3 175 (f.oa,f.ol.length,f.oc) (f.ol.flatMap RC.cells),flsI (bdel rc.fs S[i]),boxI d 105 [.map (some rc.m),.bool rc.dark,.int .i64 rc.left,.int .i64 rc.chg],mapI kvB rc.m (ents rc.fs)] [byfI Ec f,rdI F2 E2 (ka,kl.length,kc) kl,bysI Ec rc.fs,rdI FS none_ (some ⟨bb1,oo1,none⟩,S.length,cS) (S.map Nm.mk)] hh) ?_ ?_
 ·
  have hnd:(rc.fs.map (·.1)).Nodup:=hd3;have ok:=(ok).dopn;have ok:=Hp.fopn hnd hg ok.n2;have ok:=ok.d1 (byfI Ec f) (Bys.get ok.r1 hg) (fun _ h=>h);refine .a 12 (fun fl hh=>cond fl True (cell hh f.blk 1=some (.slice f.sa f.sl.length f.sc)∧cell hh f.blk 3=some (.bool f.was))) mixed ?_;have hS:=(And.intro (box_cell (o:=1) (v:=.slice f.sa f.sl.length f.sc) ok.m0 rfl) (box_cell (o:=3) (v:=.bool f.was) ok.m0 rfl));refine .g 0 false rfl 27 hS (fun _=>.mvP)<|.g 1 false rfl 28 hS (fun _=>.mvP)<|.g 2 false rfl 29 hS (fun _=>.mvP)<|.g 3 false rfl 30 hS (fun _=>.nil)<|.g 4 false rfl 31 hS (fun _=>.fa T.fd127_1)<|.l 5 false rfl 32 hS (fun _ hS=>.ld T.ag22 hS.1)<|.g 6 false rfl 33 hS (fun _=>.mvP)<|.g 7 false rfl 34 hS (fun _=>.nil)<|.g 8 false rfl 35 hS (fun _=>.fa T.fd127_3)<|.l 9 false rfl 36 hS (fun _ hS=>.ld T.ag4 hS.2)<|.g 10 false rfl 37 hS (fun _=>.nil)<|.g 11 false rfl 38 hS (fun _=>.fa T.fd127_0)<|.o1 12<|.ur' true rfl (.stS T.sz22 ok) ?_;rintro η5 ⟨ok,cg⟩;refine ⟨trivial,?_⟩;refine .g 13 true rfl 39 trivial (fun _=>.nil)<|.g 14 true rfl 40 trivial (fun _=>.fa T.fd127_2)<|.o1 15<|.ur' true rfl (.stB T.sz4 ok) ?_;rintro η6 ⟨ok,cg⟩;refine ⟨trivial,?_⟩;refine .e ?_;refine .end<|⟨⟨rfl,rfl,rfl,rfl,rfl,rfl,rfl,trivial⟩,ok.n4.n4.n4.n4.n4⟩
 rintro s η7 ⟨hs,ok⟩;refine .frame hs fun τ=>?_;refine .seq<|.seq<|?_;have ok:=ok.d0 (rdI Ec none_ (f.sa,f.sl.length,f.sc) f.sl) (ok.r0).safe.b8 (fun _ h=>h.elim id (fun f=>f.elim));obtain ⟨oa,hoa⟩:∃oa,f.oa=oa:=⟨_,rfl⟩;rw [hoa] at ok;refine .r<|.z .mvP<|.z .nil<|.z (.fa T.fd127_4)<|.z (.ldx T.ag125 ok.m0)<|.z (.len T.el125)<|.z .mvI<|.nil ?_;refine .block fun K2 hK2=>.loop (fun m s hh=>∃(k:Nat) (xa:Option Addr) (xc:Nat) (xl:List UInt8) (hh0:Bool) (Ex:Nat→Prop) (kb:Option Addr) (kd:Nat) (km:List UInt8),Has s [(0,.pointer (some ⟨d,0,none⟩)),(1,.slice kb km.length kd),(5,.string (BA (S[i]))),(6,.pointer (some ⟨f.blk,0,none⟩)),(15,.slice (some ⟨bb1,oo1,none⟩) S.length cS),(16,.int .i64 (S.length:Int)),(17,.int .i64 (i:Int)),(44,.slice oa f.ol.length f.oc),(45,.int .i64 (f.ol.length:Int)),(46,.int .i64 (k:Int))]∧Hp h (dskI d r).F [boxI f.blk 127 [.slice xa xl.length xc,.slice f.sa f.sl.length f.sc,.bool hh0,.bool f.was,.slice oa f.ol.length f.oc],capI 3 175 (oa,f.ol.length,f.oc) (f.ol.flatMap RC.cells),flsI (bdel rc.fs S[i]),boxI d 105 [.map (some rc.m),.bool rc.dark,.int .i64 rc.left,.int .i64 rc.chg],mapI kvB rc.m (ents rc.fs)] [rdI Ex none_ (xa,xl.length,xc) xl,rdI F2 E2 (kb,km.length,kd) km,byfI Ec f,bysI Ec rc.fs,rdI FS none_ (some ⟨bb1,oo1,none⟩,S.length,cS) (S.map Nm.mk)] hh∧k≤f.ol.length∧crC f.sl f.was f.abs.opn kl=crC xl hh0 (f.abs.opn.drop k) km∧km=kl.drop k∧xl.length≤16777216∧(∀j,Ex j→E j∨h.size≤j)∧m=f.ol.length-k) ?_ ?_
 ·exact ⟨_,0,f.sa,f.sc,f.sl,f.was,Ec,ka,kc,kl,⟨rfl,rfl,rfl,rfl,rfl,rfl,rfl,rfl,rfl,rfl,trivial⟩,ok.f4.f4.f3.f4.f4,Nat.zero_le _,rfl,rfl,hfo.safe,hEc,rfl⟩
 rintro _ _ η8 ⟨k,xa,xc,xl,hh0,Ex,kb,kd,km,hs,ok,hkf,hcr,hkm,hxl,hEx,rfl⟩ J1 hJ1;refine .frame hs fun τ=>?_;refine .seq<|.r<|.z .lss<|.nil ?_;refine .seq<|.cdr (fun C2=>?_) (fun C2=>?_)
 ·
  refine .exit<|hK2 _ _<|?_;have hkL:k=f.ol.length:=by omega
  have hcr2:crC f.sl f.was f.abs.opn kl=(xl,hh0):=by rw [hcr,List.drop_eq_nil_of_le (by rw [hkL];simp [RF.abs]),crC]
  obtain ⟨rn,hrn⟩:∃rn:RD,rn=⟨rc.m,bput rc.fs S[i] (nowR f xa xc xl hh0),rc.dark,rc.left,rc.chg⟩:=⟨_,rfl⟩;have hg2:bget rn.fs S[i]=some (nowR f xa xc xl hh0):=by rw [hrn];simp only;rw [bget_put,if_pos rfl]
  rw [←hoa] at ok;have ok:=cr_close hd3 hg ok;have ok:Hp h (dskI d r).F [dskI d rn] [bysI (fun j=>Ec j∨Ex j) rn.fs,rdI F2 E2 (kb,km.length,kd) km,rdI FS none_ (some ⟨bb1,oo1,none⟩,S.length,cS) (S.map Nm.mk)] η8:=by rw [hrn];exact ok
  refine .r<|.z .mvP<|.z .mvT<|.z .mvP<|.c' 99 .func (settle_any (d:=d) (r:=rn) (E:=fun j=>Ec j∨Ex j) (f:=(nowR f xa xc xl hh0)) (ok).loc1 hg2) ?_;rintro _ η9 ⟨rfl,q⟩;have ok:=(ok).dsk (d:=d) (r:=rn) (r':=(settleR rn S[i] (nowR f xa xc xl hh0))) (E':=fun j=>Ec j∨Ex j) ⟨q,fun _ h=>.inl h⟩;refine .nil ?_;refine .end<|hK1 _ _<|?_;have hqa:(settleR rn S[i] (nowR f xa xc xl hh0)).abs=⟨put1 rc.abs.fs S[i] (crF f.abs kl),rc.dark,rc.left,rc.chg⟩:=by rw [hrn];exact cr_abs hcr2
  generalize hrq:settleR rn S[i] (nowR f xa xc xl hh0)=rq at ok hqa;refine .r<|.z (.addI (b:=1))<|.z .mvI<|.nil ?_;refine .end<|hJ0 _ _ _ ⟨i+1,rq,(fun j=>Ec j∨Ex j),kb,kd,km,⟨rfl,rfl,rfl,rfl,rfl,trivial⟩,(ok).f2.f1.f2,by rw [hqa,hkm,hkL,show f.ol.length=f.abs.opn.length from by simp [RF.abs]];exact hv.step hKS.up hiS hfa,by rw [hqa];exact hkc.crf hfa,by rw [show rq.chg=rq.abs.chg from rfl,hqa];exact hch,fun j hj=>hj.elim (hEc j) (hEx j),rfl⟩ (by omega)
 have hkL:k<f.ol.length:=by omega
 have hco:ChOk f.ol[k].abs:=hfo.opn _ (List.mem_map.2 ⟨_,List.getElem_mem hkL,rfl⟩);have hbl:f.ol[k].pos+f.ol[k].bl.length≤16777216:=hco.fit;refine .skip<|.seq<|.block fun K3 hK3=>.seq<|.r<|?_;obtain ⟨bb2,oo2,rfl,fb2⟩:=ok.m1.pos (n:=f.ol.length) (by first | omega | (simp;omega));refine .z (.ix k T.el125 T.sz175)<|.z (.ldc (vs:=RC.cells f.ol[k]) T.ag175 (sl_ats RC.cells_len (ok.m1).sl (i:=k) (by omega)) T.sz175)<|.a' 8 (.alA T.zr175 ok) ?_;rintro _ η10 ⟨pb1,rfl,ok,xe⟩;refine .ur' (.stW (vs:=[.int .i64 (f.ol[k].kind:Int),.int .i64 (f.ol[k].pos:Int),.slice (f.ol[k].ba) (f.ol[k].bl.length) (f.ol[k].bc)]) T.sz175 ok (oneL rfl)) ?_;rintro η11 ⟨ok,cg⟩;refine .nil ?_;refine .seq<|.r<|.z .asI<|.nil ?_;refine .seq<|.seq<|.r<|.z .mvS<|.z (.len T.el22)<|.z .gtr<|.nil ?_;refine .join (fun s hh=>∃(by0:Nat) (ka2:Option Addr) (kc2:Nat),Has s [(0,.pointer (some ⟨d,0,none⟩)),(1,.slice ka2 km.tail.length kc2),(5,.string (BA (S[i]))),(6,.pointer (some ⟨f.blk,0,none⟩)),(8,.pointer (some ⟨pb1,0,none⟩)),(9,.int .u8 (by0:Int)),(15,.slice (some ⟨bb1,oo1,none⟩) S.length cS),(16,.int .i64 (S.length:Int)),(17,.int .i64 (i:Int)),(44,.slice (some ⟨bb2,oo2,none⟩) f.ol.length f.oc),(45,.int .i64 (f.ol.length:Int)),(46,.int .i64 (k:Int))]∧Hp h (dskI d r).F [boxI pb1 175 [.int .i64 (f.ol[k].kind:Int),.int .i64 (f.ol[k].pos:Int),.slice (f.ol[k].ba) (f.ol[k].bl.length) (f.ol[k].bc)],boxI f.blk 127 [.slice xa xl.length xc,.slice f.sa f.sl.length f.sc,.bool hh0,.bool f.was,.slice (some ⟨bb2,oo2,none⟩) f.ol.length f.oc],capI 3 175 (some ⟨bb2,oo2,none⟩,f.ol.length,f.oc) (f.ol.flatMap RC.cells),flsI (bdel rc.fs S[i]),boxI d 105 [.map (some rc.m),.bool rc.dark,.int .i64 rc.left,.int .i64 rc.chg],mapI kvB rc.m (ents rc.fs)] [rdI F2 E2 (ka2,km.tail.length,kc2) km.tail,rdI Ex none_ (xa,xl.length,xc) xl,byfI Ec f,bysI Ec rc.fs,rdI FS none_ (some ⟨bb1,oo1,none⟩,S.length,cS) (S.map Nm.mk)] hh∧by0=(km.headD 0).toNat) ?_ ?_
 ·
  refine .cd (fun C3=>?_) (fun C3=>?_)
  ·
   have hk1:0<km.length:=by omega
   refine .q (hm:=mixed)<|.z .mvS<|?_;obtain ⟨bb3,oo3,rfl,fb3⟩:=ok.r1.pos (by first | omega | (simp;omega));refine .z (.ix1 0 T.el22 T.sz5)<|.z (.ld T.ag5 (ok.r1.u8 (i:=0) (by omega)))<|.z .mvS<|.z (.sll 1 T.el22 T.sz5)<|?_;generalize hc1:cutA (some ⟨bb3,oo3,none⟩) 1 kd 1=ca1;generalize hn1:km.length-1=cn1;obtain rfl:cn1=(km.tail).length:=by rw [←hn1];simp
   have ok:=ok.d1 (rdI F2 E2 (ca1,(km.tail).length,kd-1) km.tail) (by have h1:=ok.r1.cut (i:=1) (j:=km.length) (by omega) (by omega);rw [show ((km).drop 1).take (km.length-1)=km.tail from by cases km<;>simp] at h1;rw [←hc1,←hn1];exact h1) (fun _ h=>h);refine .z .asI<|.z .asS<|.nil ?_;refine .end<|⟨(km[0].toNat),ca1,kd-1,⟨rfl,rfl,rfl,rfl,rfl,rfl,rfl,rfl,rfl,rfl,rfl,rfl,trivial⟩,ok.f5.f5.f5.f4.f4.e5,by cases km with | nil=>(simp at hk1) | cons x y=>rfl⟩
  have hk0:km=[]:=List.eq_nil_of_length_eq_zero (by omega);have ok:=ok.d1 (rdI F2 E2 (kb,km.tail.length,kd) km.tail) (by have h9:=ok.r1;rw [hk0] at h9⊢;exact h9) (fun _ h=>h);rw [show km.length=km.tail.length from by rw [hk0];rfl];refine .skip<|.end<|⟨0,kb,kd,⟨rfl,rfl,rfl,rfl,rfl,rfl,rfl,rfl,rfl,rfl,rfl,rfl,trivial⟩,ok.f5.f5.f5.f4.f4.e5,by rw [hk0];rfl⟩
 rintro s η12 ⟨by0,ka2,kc2,hs,ok,hby0⟩;refine .frame hs fun τ=>?_;refine .seq<|?_;have hb256:by0<256:=by rw [hby0];exact UInt8.toNat_lt _
 have ok:=ok.d2 (rdI Ec Ec (f.ol[k].ba,f.ol[k].bl.length,f.ol[k].bc) f.ol[k].bl) ((ok.r2).opn _ (List.getElem_mem hkL)) (fun _ h=>h.elim id id);have hbc:f.ol[k].bl.length≤f.ol[k].bc:=ok.r0.c;refine .r<|.z (.ldb T.ag175 ok.m0 T.sz175)<|.z .mvI<|.c' 61 .func (kept_any (kind:=f.ol[k].kind) (pos:=f.ol[k].pos) (k:=by0) (ba:=f.ol[k].ba) (bc:=f.ol[k].bc) (bl:=f.ol[k].bl) (by omega) (by omega) (by omega)) ?_;rintro _ η13 ⟨rfl,hx⟩;have ok:=ok.ext hx;refine .z .mvU<|.z .ex<|.z .ex<|.a' 10 (.alA T.zr175 ok) ?_;rintro _ η14 ⟨pb2,rfl,ok,xe⟩;refine .ur' (.stW (vs:=[.int .i64 ((keptN ⟨f.ol[k].kind,f.ol[k].pos,f.ol[k].bl⟩ by0).1.kind:Int),.int .i64 ((keptN ⟨f.ol[k].kind,f.ol[k].pos,f.ol[k].bl⟩ by0).1.pos:Int),.slice (f.ol[k].ba) ((keptN ⟨f.ol[k].kind,f.ol[k].pos,f.ol[k].bl⟩ by0).1.b.length) (f.ol[k].bc)]) T.sz175 ok (oneL rfl)) ?_;rintro η15 ⟨ok,cg⟩;refine .z .asB<|.nil ?_;refine .seq<|.r<|.z .mvB<|.z .mvB<|.spl (fun G65=>?_) (fun G65=>?_)
 ·
  refine .z (.fa T.fd175_0)<|.z (.ldx T.ag3 ok.m1)<|.z .eql<|.z .mvB<|.sd (fun G69=>?_) (fun G69=>?_)
  ·
   refine .y<|.y<|.y<|.y<|.z .pkt<|.z .pkt<|.nil ?_;refine .join (fun s hh=>∃(xa2:Option Addr) (xc2:Nat) (xl2:List UInt8) (hh2:Bool) (Ex2:Nat→Prop),Has s [(0,.pointer (some ⟨d,0,none⟩)),(1,.slice ka2 km.tail.length kc2),(5,.string (BA (S[i]))),(6,.pointer (some ⟨f.blk,0,none⟩)),(15,.slice (some ⟨bb1,oo1,none⟩) S.length cS),(16,.int .i64 (S.length:Int)),(17,.int .i64 (i:Int)),(44,.slice (some ⟨bb2,oo2,none⟩) f.ol.length f.oc),(45,.int .i64 (f.ol.length:Int)),(46,.int .i64 (k:Int))]∧Hp h (dskI d r).F [boxI f.blk 127 [.slice xa2 xl2.length xc2,.slice f.sa f.sl.length f.sc,.bool hh2,.bool f.was,.slice (some ⟨bb2,oo2,none⟩) f.ol.length f.oc],capI 3 175 (some ⟨bb2,oo2,none⟩,f.ol.length,f.oc) (f.ol.flatMap RC.cells),flsI (bdel rc.fs S[i]),boxI d 105 [.map (some rc.m),.bool rc.dark,.int .i64 rc.left,.int .i64 rc.chg],mapI kvB rc.m (ents rc.fs)] [rdI Ex2 none_ (xa2,xl2.length,xc2) xl2,rdI F2 E2 (ka2,km.tail.length,kc2) km.tail,byfI Ec f,bysI Ec rc.fs,rdI FS none_ (some ⟨bb1,oo1,none⟩,S.length,cS) (S.map Nm.mk)] hh∧crC xl hh0 (f.abs.opn.drop k) km=crC xl2 hh2 (f.abs.opn.drop (k+1)) km.tail∧xl2.length≤16777216∧(∀j,Ex2 j→E j∨h.size≤j)) ?_ ?_
   ·
    refine .ct<|?_;have hkp:=(keptN_ok (k:=by0) hco).fit;have hkp:(keptN ⟨f.ol[k].kind,f.ol[k].pos,f.ol[k].bl⟩ by0).1.pos+(keptN ⟨f.ol[k].kind,f.ol[k].pos,f.ol[k].bl⟩ by0).1.b.length≤16777216:=hkp;have ok:=ok.d0 (rdI Ec Ec (f.ol[k].ba,(keptN ⟨f.ol[k].kind,f.ol[k].pos,f.ol[k].bl⟩ by0).1.b.length,f.ol[k].bc) (keptN ⟨f.ol[k].kind,f.ol[k].pos,f.ol[k].bl⟩ by0).1.b) ((ok.r0).pre kept_pre) (fun _ h=>h);refine .a 11 (fun fl hh=>cond fl True (Hp h (dskI d r).F [boxI pb2 175 [.int .i64 ((keptN ⟨f.ol[k].kind,f.ol[k].pos,f.ol[k].bl⟩ by0).1.kind:Int),.int .i64 ((keptN ⟨f.ol[k].kind,f.ol[k].pos,f.ol[k].bl⟩ by0).1.pos:Int),.slice (f.ol[k].ba) ((keptN ⟨f.ol[k].kind,f.ol[k].pos,f.ol[k].bl⟩ by0).1.b.length) (f.ol[k].bc)],boxI pb1 175 [.int .i64 (f.ol[k].kind:Int),.int .i64 (f.ol[k].pos:Int),.slice (f.ol[k].ba) (f.ol[k].bl.length) (f.ol[k].bc)],boxI f.blk 127 [.slice xa xl.length xc,.slice f.sa f.sl.length f.sc,.bool hh0,.bool f.was,.slice (some ⟨bb2,oo2,none⟩) f.ol.length f.oc],capI 3 175 (some ⟨bb2,oo2,none⟩,f.ol.length,f.oc) (f.ol.flatMap RC.cells),flsI (bdel rc.fs S[i]),boxI d 105 [.map (some rc.m),.bool rc.dark,.int .i64 rc.left,.int .i64 rc.chg],mapI kvB rc.m (ents rc.fs)] [rdI Ec Ec (f.ol[k].ba,(keptN ⟨f.ol[k].kind,f.ol[k].pos,f.ol[k].bl⟩ by0).1.b.length,f.ol[k].bc) ((keptN ⟨f.ol[k].kind,f.ol[k].pos,f.ol[k].bl⟩ by0).1.b),rdI Ec Ec (f.ol[k].ba,f.ol[k].bl.length,f.ol[k].bc) (f.ol[k].bl),rdI F2 E2 (ka2,km.tail.length,kc2) km.tail,rdI Ex none_ (xa,xl.length,xc) xl,byfI Ec f,bysI Ec rc.fs,rdI FS none_ (some ⟨bb1,oo1,none⟩,S.length,cS) (S.map Nm.mk)] hh)) mixed ?_;have hS:=ok;refine .g 0 false rfl 77 hS (fun _=>.mvP)<|.g 1 false rfl 78 hS (fun _=>.mvP)<|.l 2 false rfl 79 hS (fun _ hS=>.ldb T.ag175 hS.m0 T.sz175)<|.g 3 false rfl 80 hS (fun _=>.mvP)<|.g 4 false rfl 81 hS (fun _=>.nil)<|.g 5 false rfl 82 hS (fun _=>.fa T.fd127_0)<|.l 6 false rfl 83 hS (fun _ hS=>.ldx T.ag22 hS.m2)<|.g 7 false rfl 84 hS (fun _=>.mvP)<|.g 8 false rfl 85 hS (fun _=>.nil)<|.g 9 false rfl 86 hS (fun _=>.fa T.fd127_2)<|.l 10 false rfl 87 hS (fun _ hS=>.ldx T.ag4 hS.m2)<|.o1 11<|.c' true rfl 88 .func (done_any (kind:=(keptN ⟨f.ol[k].kind,f.ol[k].pos,f.ol[k].bl⟩ by0).1.kind) (pos:=(keptN ⟨f.ol[k].kind,f.ol[k].pos,f.ol[k].bl⟩ by0).1.pos) (ba:=f.ol[k].ba) (bc:=f.ol[k].bc) (bl:=(keptN ⟨f.ol[k].kind,f.ol[k].pos,f.ol[k].bl⟩ by0).1.b) (a:=xa) (c:=xc) (l:=xl) (here:=hh0) ok.r0 ok.r3 (by omega) (by omega)) ?_;rintro _ η16 ⟨_,rfl,own⟩;obtain ⟨ya1,yc1,rfl⟩:=own.formB;have hyf:=fun j hj=>Nat.le_trans ok.chg.size (own.fresh j hj);have ok:=ok.own own;refine ⟨trivial,?_⟩;refine .g 12 true rfl 76 trivial (fun _=>.mvU)<|.g 13 true rfl 89 trivial (fun _=>.ex)<|.g 14 true rfl 90 trivial (fun _=>.ex)<|.g 15 true rfl 91 trivial (fun _=>.nil)<|.g 16 true rfl 92 trivial (fun _=>.fa T.fd127_0)<|.o1 17<|.ur' true rfl (.stS T.sz22 ok.n3) ?_;rintro η17 ⟨ok,cg⟩;refine ⟨trivial,?_⟩;refine .g 18 true rfl 93 trivial (fun _=>.nil)<|.g 19 true rfl 94 trivial (fun _=>.fa T.fd127_2)<|.o1 20<|.ur' true rfl (.stB T.sz4 ok) ?_;rintro η18 ⟨ok,cg⟩;refine ⟨trivial,?_⟩;refine .e ?_;refine .end<|⟨ya1,yc1,(doneN (keptN ⟨f.ol[k].kind,f.ol[k].pos,f.ol[k].bl⟩ by0).1 xl hh0).1,(doneN (keptN ⟨f.ol[k].kind,f.ol[k].pos,f.ol[k].bl⟩ by0).1 xl hh0).2,(blkC (sv (ya1,(doneN (keptN ⟨f.ol[k].kind,f.ol[k].pos,f.ol[k].bl⟩ by0).1 xl hh0).1.length,yc1))),⟨rfl,rfl,rfl,rfl,rfl,rfl,rfl,rfl,rfl,rfl,trivial⟩,((ok.n1.n7.n7.n7.n7.n5).n5.frzB rfl).k5.f7.f7.f7.f6.f4.e5,by rw [opn_drop hkL];exact crC_t (c:=⟨f.ol[k].kind,f.ol[k].pos,f.ol[k].bl⟩) hby0 (by assumption) (by first | exact .inl (show f.ol[k].kind=0 by omega) | exact .inr (by assumption)),doneN_len (keptN_ok hco) hxl,fun j hj=>.inr (hyf j hj)⟩
   rintro s η19 ⟨xa2,xc2,xl2,hh2,Ex2,hs,ok,hst,hxl2,hEx2⟩;refine .frame hs fun τ=>?_;refine .end<|hK3 _ _<|.r<|.z (.addI (b:=1))<|.z .mvI<|.nil ?_;refine .end<|hJ1 _ _ _ ⟨k+1,xa2,xc2,xl2,hh2,Ex2,ka2,kc2,km.tail,⟨rfl,rfl,rfl,rfl,rfl,rfl,rfl,rfl,rfl,rfl,trivial⟩,ok,by omega,by rw [hcr,hst],by rw [hkm,List.tail_drop],hxl2,hEx2,rfl⟩ (by omega)
  refine .z .mvP<|.z .nil<|.z (.fa T.fd127_2)<|.z (.ldx T.ag4 ok.m2)<|.z .pkf<|.z .pkt<|.nil ?_;refine .join (fun s hh=>∃(xa2:Option Addr) (xc2:Nat) (xl2:List UInt8) (hh2:Bool) (Ex2:Nat→Prop),Has s [(0,.pointer (some ⟨d,0,none⟩)),(1,.slice ka2 km.tail.length kc2),(5,.string (BA (S[i]))),(6,.pointer (some ⟨f.blk,0,none⟩)),(15,.slice (some ⟨bb1,oo1,none⟩) S.length cS),(16,.int .i64 (S.length:Int)),(17,.int .i64 (i:Int)),(44,.slice (some ⟨bb2,oo2,none⟩) f.ol.length f.oc),(45,.int .i64 (f.ol.length:Int)),(46,.int .i64 (k:Int))]∧Hp h (dskI d r).F [boxI f.blk 127 [.slice xa2 xl2.length xc2,.slice f.sa f.sl.length f.sc,.bool hh2,.bool f.was,.slice (some ⟨bb2,oo2,none⟩) f.ol.length f.oc],capI 3 175 (some ⟨bb2,oo2,none⟩,f.ol.length,f.oc) (f.ol.flatMap RC.cells),flsI (bdel rc.fs S[i]),boxI d 105 [.map (some rc.m),.bool rc.dark,.int .i64 rc.left,.int .i64 rc.chg],mapI kvB rc.m (ents rc.fs)] [rdI Ex2 none_ (xa2,xl2.length,xc2) xl2,rdI F2 E2 (ka2,km.tail.length,kc2) km.tail,byfI Ec f,bysI Ec rc.fs,rdI FS none_ (some ⟨bb1,oo1,none⟩,S.length,cS) (S.map Nm.mk)] hh∧crC xl hh0 (f.abs.opn.drop k) km=crC xl2 hh2 (f.abs.opn.drop (k+1)) km.tail∧xl2.length≤16777216∧(∀j,Ex2 j→E j∨h.size≤j)) ?_ ?_
  ·
   refine .cond (fun C4=>?_) (fun C4=>?_)
   ·
    have hkp:=(keptN_ok (k:=by0) hco).fit;have hkp:(keptN ⟨f.ol[k].kind,f.ol[k].pos,f.ol[k].bl⟩ by0).1.pos+(keptN ⟨f.ol[k].kind,f.ol[k].pos,f.ol[k].bl⟩ by0).1.b.length≤16777216:=hkp;have ok:=ok.d0 (rdI Ec Ec (f.ol[k].ba,(keptN ⟨f.ol[k].kind,f.ol[k].pos,f.ol[k].bl⟩ by0).1.b.length,f.ol[k].bc) (keptN ⟨f.ol[k].kind,f.ol[k].pos,f.ol[k].bl⟩ by0).1.b) ((ok.r0).pre kept_pre) (fun _ h=>h);refine .a 11 (fun fl hh=>cond fl True (Hp h (dskI d r).F [boxI pb2 175 [.int .i64 ((keptN ⟨f.ol[k].kind,f.ol[k].pos,f.ol[k].bl⟩ by0).1.kind:Int),.int .i64 ((keptN ⟨f.ol[k].kind,f.ol[k].pos,f.ol[k].bl⟩ by0).1.pos:Int),.slice (f.ol[k].ba) ((keptN ⟨f.ol[k].kind,f.ol[k].pos,f.ol[k].bl⟩ by0).1.b.length) (f.ol[k].bc)],boxI pb1 175 [.int .i64 (f.ol[k].kind:Int),.int .i64 (f.ol[k].pos:Int),.slice (f.ol[k].ba) (f.ol[k].bl.length) (f.ol[k].bc)],boxI f.blk 127 [.slice xa xl.length xc,.slice f.sa f.sl.length f.sc,.bool hh0,.bool f.was,.slice (some ⟨bb2,oo2,none⟩) f.ol.length f.oc],capI 3 175 (some ⟨bb2,oo2,none⟩,f.ol.length,f.oc) (f.ol.flatMap RC.cells),flsI (bdel rc.fs S[i]),boxI d 105 [.map (some rc.m),.bool rc.dark,.int .i64 rc.left,.int .i64 rc.chg],mapI kvB rc.m (ents rc.fs)] [rdI Ec Ec (f.ol[k].ba,(keptN ⟨f.ol[k].kind,f.ol[k].pos,f.ol[k].bl⟩ by0).1.b.length,f.ol[k].bc) ((keptN ⟨f.ol[k].kind,f.ol[k].pos,f.ol[k].bl⟩ by0).1.b),rdI Ec Ec (f.ol[k].ba,f.ol[k].bl.length,f.ol[k].bc) (f.ol[k].bl),rdI F2 E2 (ka2,km.tail.length,kc2) km.tail,rdI Ex none_ (xa,xl.length,xc) xl,byfI Ec f,bysI Ec rc.fs,rdI FS none_ (some ⟨bb1,oo1,none⟩,S.length,cS) (S.map Nm.mk)] hh)) mixed ?_;have hS:=ok;refine .g 0 false rfl 77 hS (fun _=>.mvP)<|.g 1 false rfl 78 hS (fun _=>.mvP)<|.l 2 false rfl 79 hS (fun _ hS=>.ldb T.ag175 hS.m0 T.sz175)<|.g 3 false rfl 80 hS (fun _=>.mvP)<|.g 4 false rfl 81 hS (fun _=>.nil)<|.g 5 false rfl 82 hS (fun _=>.fa T.fd127_0)<|.l 6 false rfl 83 hS (fun _ hS=>.ldx T.ag22 hS.m2)<|.g 7 false rfl 84 hS (fun _=>.mvP)<|.g 8 false rfl 85 hS (fun _=>.nil)<|.g 9 false rfl 86 hS (fun _=>.fa T.fd127_2)<|.l 10 false rfl 87 hS (fun _ hS=>.ldx T.ag4 hS.m2)<|.o1 11<|.c' true rfl 88 .func (done_any (kind:=(keptN ⟨f.ol[k].kind,f.ol[k].pos,f.ol[k].bl⟩ by0).1.kind) (pos:=(keptN ⟨f.ol[k].kind,f.ol[k].pos,f.ol[k].bl⟩ by0).1.pos) (ba:=f.ol[k].ba) (bc:=f.ol[k].bc) (bl:=(keptN ⟨f.ol[k].kind,f.ol[k].pos,f.ol[k].bl⟩ by0).1.b) (a:=xa) (c:=xc) (l:=xl) (here:=hh0) ok.r0 ok.r3 (by omega) (by omega)) ?_;rintro _ η20 ⟨_,rfl,own⟩;obtain ⟨ya2,yc2,rfl⟩:=own.formB;have hyf:=fun j hj=>Nat.le_trans ok.chg.size (own.fresh j hj);have ok:=ok.own own;refine ⟨trivial,?_⟩;refine .g 12 true rfl 76 trivial (fun _=>.mvU)<|.g 13 true rfl 89 trivial (fun _=>.ex)<|.g 14 true rfl 90 trivial (fun _=>.ex)<|.g 15 true rfl 91 trivial (fun _=>.nil)<|.g 16 true rfl 92 trivial (fun _=>.fa T.fd127_0)<|.o1 17<|.ur' true rfl (.stS T.sz22 ok.n3) ?_;rintro η21 ⟨ok,cg⟩;refine ⟨trivial,?_⟩;refine .g 18 true rfl 93 trivial (fun _=>.nil)<|.g 19 true rfl 94 trivial (fun _=>.fa T.fd127_2)<|.o1 20<|.ur' true rfl (.stB T.sz4 ok) ?_;rintro η22 ⟨ok,cg⟩;refine ⟨trivial,?_⟩;refine .e ?_;refine .end<|⟨ya2,yc2,(doneN (keptN ⟨f.ol[k].kind,f.ol[k].pos,f.ol[k].bl⟩ by0).1 xl hh0).1,(doneN (keptN ⟨f.ol[k].kind,f.ol[k].pos,f.ol[k].bl⟩ by0).1 xl hh0).2,(blkC (sv (ya2,(doneN (keptN ⟨f.ol[k].kind,f.ol[k].pos,f.ol[k].bl⟩ by0).1 xl hh0).1.length,yc2))),⟨rfl,rfl,rfl,rfl,rfl,rfl,rfl,rfl,rfl,rfl,trivial⟩,((ok.n1.n7.n7.n7.n7.n5).n5.frzB rfl).k5.f7.f7.f7.f6.f4.e5,by rw [opn_drop hkL];exact crC_t (c:=⟨f.ol[k].kind,f.ol[k].pos,f.ol[k].bl⟩) hby0 (by assumption) (by first | exact .inl (show f.ol[k].kind=0 by omega) | exact .inr (by assumption)),doneN_len (keptN_ok hco) hxl,fun j hj=>.inr (hyf j hj)⟩
   refine .skip<|.end<|⟨xa,xc,xl,hh0,Ex,⟨rfl,rfl,rfl,rfl,rfl,rfl,rfl,rfl,rfl,rfl,trivial⟩,(ok.n6.n6.n6.n6.n6).k5.f5.f5.f5.f4.f5.e5,by rw [opn_drop hkL];exact crC_f (c:=⟨f.ol[k].kind,f.ol[k].pos,f.ol[k].bl⟩) hby0 (by rintro ⟨h1,h2 | h2⟩<;>simp_all),hxl,hEx⟩
  rintro s η23 ⟨xa2,xc2,xl2,hh2,Ex2,hs,ok,hst,hxl2,hEx2⟩;refine .frame hs fun τ=>?_;refine .end<|hK3 _ _<|.r<|.z (.addI (b:=1))<|.z .mvI<|.nil ?_;refine .end<|hJ1 _ _ _ ⟨k+1,xa2,xc2,xl2,hh2,Ex2,ka2,kc2,km.tail,⟨rfl,rfl,rfl,rfl,rfl,rfl,rfl,rfl,rfl,rfl,trivial⟩,ok,by omega,by rw [hcr,hst],by rw [hkm,List.tail_drop],hxl2,hEx2,rfl⟩ (by omega)
 refine .y<|.y<|.y<|.y<|.y<|.y<|.y<|.y<|.y<|.z .pkf<|.nil ?_;refine .join (fun s hh=>∃(xa2:Option Addr) (xc2:Nat) (xl2:List UInt8) (hh2:Bool) (Ex2:Nat→Prop),Has s [(0,.pointer (some ⟨d,0,none⟩)),(1,.slice ka2 km.tail.length kc2),(5,.string (BA (S[i]))),(6,.pointer (some ⟨f.blk,0,none⟩)),(15,.slice (some ⟨bb1,oo1,none⟩) S.length cS),(16,.int .i64 (S.length:Int)),(17,.int .i64 (i:Int)),(44,.slice (some ⟨bb2,oo2,none⟩) f.ol.length f.oc),(45,.int .i64 (f.ol.length:Int)),(46,.int .i64 (k:Int))]∧Hp h (dskI d r).F [boxI f.blk 127 [.slice xa2 xl2.length xc2,.slice f.sa f.sl.length f.sc,.bool hh2,.bool f.was,.slice (some ⟨bb2,oo2,none⟩) f.ol.length f.oc],capI 3 175 (some ⟨bb2,oo2,none⟩,f.ol.length,f.oc) (f.ol.flatMap RC.cells),flsI (bdel rc.fs S[i]),boxI d 105 [.map (some rc.m),.bool rc.dark,.int .i64 rc.left,.int .i64 rc.chg],mapI kvB rc.m (ents rc.fs)] [rdI Ex2 none_ (xa2,xl2.length,xc2) xl2,rdI F2 E2 (ka2,km.tail.length,kc2) km.tail,byfI Ec f,bysI Ec rc.fs,rdI FS none_ (some ⟨bb1,oo1,none⟩,S.length,cS) (S.map Nm.mk)] hh∧crC xl hh0 (f.abs.opn.drop k) km=crC xl2 hh2 (f.abs.opn.drop (k+1)) km.tail∧xl2.length≤16777216∧(∀j,Ex2 j→E j∨h.size≤j)) ?_ ?_
 ·
  refine .cf<|.skip<|.end<|⟨xa,xc,xl,hh0,Ex,⟨rfl,rfl,rfl,rfl,rfl,rfl,rfl,rfl,rfl,rfl,trivial⟩,(ok.n6.n6.n6.n6.n6).k5.f5.f5.f5.f4.f5.e5,by rw [opn_drop hkL];exact crC_f (c:=⟨f.ol[k].kind,f.ol[k].pos,f.ol[k].bl⟩) hby0 (by rintro ⟨h1,h2 | h2⟩<;>simp_all),hxl,hEx⟩
 rintro s η24 ⟨xa2,xc2,xl2,hh2,Ex2,hs,ok,hst,hxl2,hEx2⟩;refine .frame hs fun τ=>?_;refine .end<|hK3 _ _<|.r<|.z (.addI (b:=1))<|.z .mvI<|.nil ?_;refine .end<|hJ1 _ _ _ ⟨k+1,xa2,xc2,xl2,hh2,Ex2,ka2,kc2,km.tail,⟨rfl,rfl,rfl,rfl,rfl,rfl,rfl,rfl,rfl,rfl,trivial⟩,ok,by omega,by rw [hcr,hst],by rw [hkm,List.tail_drop],hxl2,hEx2,rfl⟩ (by omega)
section
variable {h h':Heap} {d p:Nat} {F G E E':Nat→Prop} {D:Dk} {r r':RD}
section
variable {n:List UInt8} {z y:Int} {a:Option Addr} {c:Nat} {l:List UInt8} {F2 E2:Nat→Prop}
theorem dgcrash_any (ok:Hp h F [dgI d F D] [rdI F2 E2 (a,l.length,c) l] h) (hk:DkOk D) (hcg:D.chg<1000000000) :
  HC Tryz.prog 58 #[.pointer (some ⟨d,0,none⟩),.slice a l.length c] h (fun v h'=>∃S F',v=.tuple #[]∧Keys D.fs S∧Hp h F [dgI d F' (crashN D S l)] [] h'):=by
 obtain ⟨r,E,rfl,o,hf,he⟩:=dg_open ok;have o2:Hp h (dskI d r).F [dskI d r] [bysI E r.fs,rdI F2 E2 (a,l.length,c) l] h:=⟨o.chg,o.m,fun i hi=>by
  rcases List.mem_cons.1 hi with rfl | hi
  ·exact o.r _ (by simp)
  ·exact ok.r i hi,o.mm,fun x hx b hb=>by
  rcases List.mem_cons.1 hb with rfl | hb
  ·exact o.mr x hx _ (by simp)
  ·rw [List.mem_singleton.1 hx,List.mem_singleton.1 hb];exact fun j hj=>ok.mr (dgI d F r.abs) (by simp) (rdI F2 E2 (a,l.length,c) l) (by simp) j (hf j hj)⟩
 refine (crash_any o2 hk hcg).mono fun v h' ⟨S,r',E',hv,hK,ha,up⟩=>?_;obtain ⟨F',hp⟩:=dg_up up hf he;rw [ha] at hp;exact ⟨S,F',hv,hK,hp⟩
theorem dgcut_any (ok:Hp h F [dgI d F D] [] h) :
  HC Tryz.prog 56 #[.pointer (some ⟨d,0,none⟩),.int .i64 z] h (fun v h'=>∃F',v=.tuple #[]∧Hp h F [dgI d F' (cutN D z)] [] h'):=by
 obtain ⟨r,E,rfl,o,hf,he⟩:=dg_open ok;refine (cut_any o.loc0).mono fun v h' ⟨hv,q⟩=>?_;have o2:=o.lift1 q;rw [←cutR_fs (r:=r) (z:=z)] at o2;have hp:=dg_close o2 hf (fun j hj=>.inl (he j hj));rw [cutR_abs] at hp;exact ⟨_,hv,hp⟩
theorem dgdark_any (ok:Hp h F [dgI d F D] [] h) :
  HC Tryz.prog 57 #[.pointer (some ⟨d,0,none⟩)] h (fun v h'=>v=.bool D.dark∧h'=h):=by
 obtain ⟨r,E,rfl,o,hf,he⟩:=dg_open ok;exact dark_any (dsk_parts o.m0).1
end
end
open Go Go.HL
theorem beginP_1 {w:WPg} (h:w.in_=true):beginP w=(w,10):=if_pos h
theorem beginP_2 {w:WPg} (h:¬w.in_=true):beginP w=({ w with in_:=true,now:=w.sure },0):=if_neg h
theorem rollbackP_1 {w:WPg} (h:w.in_=false):rollbackP w=(w,10):=if_pos h
theorem rollbackP_2 {w:WPg} (h:¬w.in_=false):rollbackP w=(⟨w.z,w.sure,[],false,w.fr⟩,0):=if_neg h
theorem writeP_1 {w:WPg} {no:Int} {b:List UInt8} (h:w.in_=false):writeP w no b=(w,10):=if_pos h
theorem writeP_2 {w:WPg} {no:Int} {b:List UInt8} (h:¬w.in_=false) (h2:no<1∨(w.now.length:Int)<no∨b.length≠w.z):writeP w no b=(w,1):=by unfold writeP;rw [if_neg h,if_pos h2]
theorem writeP_3 {w:WPg} {no:Int} {b:List UInt8} (h:¬w.in_=false) (h2:¬(no<1∨(w.now.length:Int)<no∨b.length≠w.z)):writeP w no b=({ w with now:=w.now.set (no-1).toNat b },0):=by unfold writeP;rw [if_neg h,if_neg h2]
theorem resizeP_1 {w:WPg} {n:Int} (h:w.in_=false):resizeP w n=(w,10):=if_pos h
theorem resizeP_2 {w:WPg} {n:Int} (h:¬w.in_=false) (h2:n<0):resizeP w n=(w,1):=by unfold resizeP;rw [if_neg h,if_pos h2]
theorem resizeP_3 {w:WPg} {n:Int} (h:¬w.in_=false) (h2:¬n<0) (h3:1048576<n∨16777216 / (w.z:Int)<n):resizeP w n=(w,5):=by unfold resizeP;rw [if_neg h,if_neg h2,if_pos h3]
theorem resizeP_4 {w:WPg} {n:Int} (h:¬w.in_=false) (h2:¬n<0) (h3:¬(1048576<n∨16777216 / (w.z:Int)<n)):resizeP w n=({ w with now:=growL w.now w.z n.toNat },0):=by unfold resizeP;rw [if_neg h,if_neg h2,if_neg h3]
theorem flatMap_set {l:List RB} {i:Nat} {x:RB} (v:Value) (hv:x.cells=[v]):(l.flatMap RB.cells).set i v=(l.set i x).flatMap RB.cells:=by
 induction l generalizing i with
 | nil=>rfl
 | cons a l ih=>
  have ha:a.cells=[.slice a.a a.l.length a.c]:=rfl;cases i with
  | zero=>simp [List.flatMap_cons,ha,hv]
  | succ i=>simp only [List.flatMap_cons,ha,List.set_cons_succ,List.cons_append,List.nil_append];rw [ih]
theorem pgs_set {l:List RB} {i:Nat} {x:RB} : pgs (l.set i x)=(pgs l).set i x.l:=List.map_set
theorem growL_take {now:List (List UInt8)} {z n i:Nat} (h:i<n):(growL now z n).take (i+1)=(growL now z n).take i++[if hi:i<now.length then now[i] else List.replicate z 0]:=by
 have hl:(growL now z n).length=n:=by unfold growL;simp;omega
 rw [List.take_succ_eq_append_getElem (by omega)];congr 2;unfold growL;split
 ·rename_i hi;rw [List.getElem_append_left (by simp;omega),List.getElem_take]
 ·rename_i hi;rw [List.getElem_append_right (by simp;omega),List.getElem_replicate]
theorem ppages_any {h:Heap} {E:Nat→Prop} {z fr sc nc:Nat} {sa na:Option Addr} {sl nl:List RB} {ib:Bool} (hw:DocP h E ⟨z,sa,sc,sl,na,nc,nl,ib,fr⟩) :
  HC Tryz.prog 121 #[.agg #[.int .i64 (z:Int),.slice sa sl.length sc,.slice na nl.length nc,.bool ib,.int .i64 (fr:Int)]] h (fun v h'=>v=.slice (pgA ib na sa) (pgL' ib nl sl).length (pgC ib nc sc)∧Ext h h'):=by
 have hsm:=hw.s.m;have hnm:=hw.n.m;have ok:=((Hp.nil h none_).old (pgwI (fun j=>E j∧j<h.size) (na,nl.length,nc) nl) (hw.n.lt (by decide)) (fun j hj=>hj.2)).old (pgwI (fun j=>E j∧j<h.size) (sa,sl.length,sc) sl) (hw.s.lt (by decide)) (fun j hj=>hj.2);refine HC.go Tryz.func121 9 ?_;refine .seq<|.r<|.a' 1 (.bxA (cs:=[.int .i64 (z:Int),.slice sa sl.length sc,.slice na nl.length nc,.bool ib,.int .i64 (fr:Int)]) ok) ?_;rintro _ η1 ⟨pb1,rfl,ok,xe⟩;refine .z .asS<|.nil ?_;refine .seq<|.seq<|.r<|.z (.fa T.fd71_3)<|.z (.ldx T.ag4 ok.m0)<|.nil ?_;refine .cond (fun C0=>?_) (fun C0=>?_)
 ·
  refine .seq<|.r<|.z (.fa T.fd71_2)<|.z (.ldx T.ag26 ok.m0)<|.z .asS<|.nil ?_;refine .ret ⟨.slice na nl.length nc,Res.one rfl rfl,⟨by rw [show ib=true from C0];rfl,ok.chg⟩⟩
 refine .skip<|.seq<|.r<|.z (.fa T.fd71_1)<|.z (.ldx T.ag26 ok.m0)<|.z .asS<|.nil ?_;refine .ret ⟨.slice sa sl.length sc,Res.one rfl rfl,⟨by rw [show ib=false from by simpa using C0];rfl,ok.chg⟩⟩
theorem pbegin_any {h:Heap} {E:Nat→Prop} {z fr sc nc:Nat} {sa na:Option Addr} {sl nl:List RB} {ib:Bool} (hw:DocP h E ⟨z,sa,sc,sl,na,nc,nl,ib,fr⟩) :
  HC Tryz.prog 104 #[.agg #[.int .i64 (z:Int),.slice sa sl.length sc,.slice na nl.length nc,.bool ib,.int .i64 (fr:Int)]] h (fun v h'=>∃w:RWp,v=.tuple #[.agg w.cells,.int .i64 ((beginP (RWp.abs ⟨z,sa,sc,sl,na,nc,nl,ib,fr⟩)).2:Int)]∧w.abs=(beginP (RWp.abs ⟨z,sa,sc,sl,na,nc,nl,ib,fr⟩)).1∧PRet h E w h'):=by
 have hsm:=hw.s.m;have hnm:=hw.n.m;have ok:=((Hp.nil h none_).old (pgwI (fun j=>E j∧j<h.size) (na,nl.length,nc) nl) (hw.n.lt (by decide)) (fun j hj=>hj.2)).old (pgwI (fun j=>E j∧j<h.size) (sa,sl.length,sc) sl) (hw.s.lt (by decide)) (fun j hj=>hj.2);refine HC.go Tryz.func104 12 ?_;refine .seq<|.r<|.a' 1 (.bxA (cs:=[.int .i64 (z:Int),.slice sa sl.length sc,.slice na nl.length nc,.bool ib,.int .i64 (fr:Int)]) ok) ?_;rintro _ η1 ⟨pb1,rfl,ok,xe⟩;refine .a' 2 (.alA T.zr71 ok) ?_;rintro _ η2 ⟨pb2,rfl,ok,xe⟩;refine .z .asI<|.nil ?_;refine .seq<|.seq<|.r<|.z (.fa T.fd71_3)<|.z (.ldx T.ag4 ok.m1)<|.nil ?_;refine .cond (fun C0=>?_) (fun C0=>?_)
 ·
  refine .seq<|.r<|.z (.ldb T.ag71 ok.m1 T.sz71)<|.ur' (.stW (vs:=[.int .i64 (z:Int),.slice sa sl.length sc,.slice na nl.length nc,.bool ib,.int .i64 (fr:Int)]) T.sz71 ok (oneL rfl)) ?_;rintro η3 ⟨ok,cg⟩;refine .z .asI<|.nil ?_;refine .ret ⟨.tuple #[.agg #[.int .i64 (z:Int),.slice sa sl.length sc,.slice na nl.length nc,.bool ib,.int .i64 (fr:Int)],.int .i64 10],Res.many (vs:=[.agg #[.int .i64 (z:Int),.slice sa sl.length sc,.slice na nl.length nc,.bool ib,.int .i64 (fr:Int)],.int .i64 10]) rfl ⟨⟨_,rfl,load_ag T.ag71 ok.m0 T.sz71⟩,rfl,trivial⟩ rfl,⟨⟨z,sa,sc,sl,na,nc,nl,ib,fr⟩,by rw [beginP_1 (show ib=true from C0)]<;>rfl,by rw [beginP_1 (show ib=true from C0)]<;>rfl,ok.chg,⟨(ok.r0).mono (fun _ h=>.inl h.1),(ok.r1).mono (fun _ h=>.inl h.1)⟩⟩⟩
 refine .skip<|.seq<|.r<|.z (.fa T.fd71_3)<|.ur' (.stB T.sz4 ok.n1) ?_;rintro η4 ⟨ok,cg⟩;refine .nil ?_;refine .seq<|.r<|.z (.fa T.fd71_1)<|.z (.ldx T.ag26 ok.m0)<|.z (.fa T.fd71_2)<|.ur' (.stS T.sz26 ok) ?_;rintro η5 ⟨ok,cg⟩;refine .nil ?_;refine .seq<|.r<|.z (.ldb T.ag71 ok.m0 T.sz71)<|.ur' (.stW (vs:=[.int .i64 (z:Int),.slice sa sl.length sc,.slice sa sl.length sc,.bool true,.int .i64 (fr:Int)]) T.sz71 ok.n1 (oneL rfl)) ?_;rintro η6 ⟨ok,cg⟩;refine .z .asI<|.nil ?_;refine .ret ⟨.tuple #[.agg #[.int .i64 (z:Int),.slice sa sl.length sc,.slice sa sl.length sc,.bool true,.int .i64 (fr:Int)],.int .i64 0],Res.many (vs:=[.agg #[.int .i64 (z:Int),.slice sa sl.length sc,.slice sa sl.length sc,.bool true,.int .i64 (fr:Int)],.int .i64 0]) rfl ⟨⟨_,rfl,load_ag T.ag71 ok.m0 T.sz71⟩,rfl,trivial⟩ rfl,⟨⟨z,sa,sc,sl,sa,sc,sl,true,fr⟩,by rw [beginP_2 (show ¬ib=true from by simpa using C0)]<;>rfl,by rw [beginP_2 (show ¬ib=true from by simpa using C0)]<;>rfl,ok.chg,⟨(ok.r0).mono (fun _ h=>.inl h.1),(ok.r0).mono (fun _ h=>.inl h.1)⟩⟩⟩
theorem prollback_any {h:Heap} {E:Nat→Prop} {z fr sc nc:Nat} {sa na:Option Addr} {sl nl:List RB} {ib:Bool} (hw:DocP h E ⟨z,sa,sc,sl,na,nc,nl,ib,fr⟩) :
  HC Tryz.prog 108 #[.agg #[.int .i64 (z:Int),.slice sa sl.length sc,.slice na nl.length nc,.bool ib,.int .i64 (fr:Int)]] h (fun v h'=>∃w:RWp,v=.tuple #[.agg w.cells,.int .i64 ((rollbackP (RWp.abs ⟨z,sa,sc,sl,na,nc,nl,ib,fr⟩)).2:Int)]∧w.abs=(rollbackP (RWp.abs ⟨z,sa,sc,sl,na,nc,nl,ib,fr⟩)).1∧PRet h E w h'):=by
 have hsm:=hw.s.m;have hnm:=hw.n.m;have ok:=((Hp.nil h none_).old (pgwI (fun j=>E j∧j<h.size) (na,nl.length,nc) nl) (hw.n.lt (by decide)) (fun j hj=>hj.2)).old (pgwI (fun j=>E j∧j<h.size) (sa,sl.length,sc) sl) (hw.s.lt (by decide)) (fun j hj=>hj.2);refine HC.go Tryz.func108 15 ?_;refine .seq<|.r<|.a' 1 (.bxA (cs:=[.int .i64 (z:Int),.slice sa sl.length sc,.slice na nl.length nc,.bool ib,.int .i64 (fr:Int)]) ok) ?_;rintro _ η1 ⟨pb1,rfl,ok,xe⟩;refine .a' 2 (.alA T.zr71 ok) ?_;rintro _ η2 ⟨pb2,rfl,ok,xe⟩;refine .z .asI<|.nil ?_;refine .seq<|.seq<|.r<|.z (.fa T.fd71_3)<|.z (.ldx T.ag4 ok.m1)<|.z .not<|.nil ?_;refine .cond (fun C0=>?_) (fun C0=>?_)
 ·
  refine .seq<|.r<|.z (.ldb T.ag71 ok.m1 T.sz71)<|.ur' (.stW (vs:=[.int .i64 (z:Int),.slice sa sl.length sc,.slice na nl.length nc,.bool ib,.int .i64 (fr:Int)]) T.sz71 ok (oneL rfl)) ?_;rintro η3 ⟨ok,cg⟩;refine .z .asI<|.nil ?_;refine .ret ⟨.tuple #[.agg #[.int .i64 (z:Int),.slice sa sl.length sc,.slice na nl.length nc,.bool ib,.int .i64 (fr:Int)],.int .i64 10],Res.many (vs:=[.agg #[.int .i64 (z:Int),.slice sa sl.length sc,.slice na nl.length nc,.bool ib,.int .i64 (fr:Int)],.int .i64 10]) rfl ⟨⟨_,rfl,load_ag T.ag71 ok.m0 T.sz71⟩,rfl,trivial⟩ rfl,⟨⟨z,sa,sc,sl,na,nc,nl,ib,fr⟩,by rw [rollbackP_1 (show ib=false from by simpa using C0)]<;>rfl,by rw [rollbackP_1 (show ib=false from by simpa using C0)]<;>rfl,ok.chg,⟨(ok.r0).mono (fun _ h=>.inl h.1),(ok.r1).mono (fun _ h=>.inl h.1)⟩⟩⟩
 refine .skip<|.seq<|.r<|.z (.fa T.fd71_0)<|.z (.ldx T.ag3 ok.m1)<|.z (.fa T.fd71_1)<|.z (.ldx T.ag26 ok.m1)<|.z (.fa T.fd71_4)<|.z (.ldx T.ag3 ok.m1)<|.z (.bd #[.int .i64 (z:Int),.slice sa sl.length sc,.slice none 0 0,.bool false,.int .i64 (fr:Int)] T.zr71 T.pl71 rfl)<|.ur' (.stW (vs:=[.int .i64 (z:Int),.slice sa sl.length sc,.slice none 0 0,.bool false,.int .i64 (fr:Int)]) T.sz71 ok (oneL rfl)) ?_;rintro η4 ⟨ok,cg⟩;refine .z .asI<|.nil ?_;refine .ret ⟨.tuple #[.agg #[.int .i64 (z:Int),.slice sa sl.length sc,.slice none 0 0,.bool false,.int .i64 (fr:Int)],.int .i64 0],Res.many (vs:=[.agg #[.int .i64 (z:Int),.slice sa sl.length sc,.slice none 0 0,.bool false,.int .i64 (fr:Int)],.int .i64 0]) rfl ⟨⟨_,rfl,load_ag T.ag71 ok.m0 T.sz71⟩,rfl,trivial⟩ rfl,⟨⟨z,sa,sc,sl,none,0,[],false,fr⟩,by rw [rollbackP_2 (show ¬ib=false from by simpa using C0)]<;>rfl,by rw [rollbackP_2 (show ¬ib=false from by simpa using C0)]<;>rfl,ok.chg,⟨(ok.r0).mono (fun _ h=>.inl h.1),RwB.nil _ _ 0 (by decide)⟩⟩⟩
theorem pcheck_any {h:Heap} {E:Nat→Prop} {z fr sc nc:Nat} {sa na:Option Addr} {sl nl:List RB} {ib:Bool} (hw:DocP h E ⟨z,sa,sc,sl,na,nc,nl,ib,fr⟩) :
  HC Tryz.prog 110 #[.agg #[.int .i64 (z:Int),.slice sa sl.length sc,.slice na nl.length nc,.bool ib,.int .i64 (fr:Int)]] h (fun v h'=>∃w:RWp,v=.tuple #[.agg w.cells,.int .i64 ((checkP (RWp.abs ⟨z,sa,sc,sl,na,nc,nl,ib,fr⟩)).2:Int)]∧w.abs=(checkP (RWp.abs ⟨z,sa,sc,sl,na,nc,nl,ib,fr⟩)).1∧PRet h E w h'):=by
 have hsm:=hw.s.m;have hnm:=hw.n.m;have ok:=((Hp.nil h none_).old (pgwI (fun j=>E j∧j<h.size) (na,nl.length,nc) nl) (hw.n.lt (by decide)) (fun j hj=>hj.2)).old (pgwI (fun j=>E j∧j<h.size) (sa,sl.length,sc) sl) (hw.s.lt (by decide)) (fun j hj=>hj.2);refine HC.go Tryz.func110 12 ?_;refine .seq<|.r<|.a' 1 (.bxA (cs:=[.int .i64 (z:Int),.slice sa sl.length sc,.slice na nl.length nc,.bool ib,.int .i64 (fr:Int)]) ok) ?_;rintro _ η1 ⟨pb1,rfl,ok,xe⟩;refine .a' 2 (.alA T.zr71 ok) ?_;rintro _ η2 ⟨pb2,rfl,ok,xe⟩;refine .z .asI<|.nil ?_;refine .seq<|.seq<|.r<|.z (.fa T.fd71_3)<|.z (.ldx T.ag4 ok.m1)<|.nil ?_;refine .cond (fun C0=>?_) (fun C0=>?_)
 ·
  refine .seq<|.r<|.z (.ldb T.ag71 ok.m1 T.sz71)<|.ur' (.stW (vs:=[.int .i64 (z:Int),.slice sa sl.length sc,.slice na nl.length nc,.bool ib,.int .i64 (fr:Int)]) T.sz71 ok (oneL rfl)) ?_;rintro η3 ⟨ok,cg⟩;refine .z .asI<|.nil ?_;refine .ret ⟨.tuple #[.agg #[.int .i64 (z:Int),.slice sa sl.length sc,.slice na nl.length nc,.bool ib,.int .i64 (fr:Int)],.int .i64 10],Res.many (vs:=[.agg #[.int .i64 (z:Int),.slice sa sl.length sc,.slice na nl.length nc,.bool ib,.int .i64 (fr:Int)],.int .i64 10]) rfl ⟨⟨_,rfl,load_ag T.ag71 ok.m0 T.sz71⟩,rfl,trivial⟩ rfl,⟨⟨z,sa,sc,sl,na,nc,nl,ib,fr⟩,by rw [checkP_1 (show ib=true from C0)]<;>rfl,by rw [checkP_1 (show ib=true from C0)]<;>rfl,ok.chg,⟨(ok.r0).mono (fun _ h=>.inl h.1),(ok.r1).mono (fun _ h=>.inl h.1)⟩⟩⟩
 refine .skip<|.seq<|.r<|.z (.fa T.fd71_0)<|.z (.ldx T.ag3 ok.m1)<|.z (.fa T.fd71_1)<|.z (.ldx T.ag26 ok.m1)<|.z (.bd #[.int .i64 (z:Int),.slice sa sl.length sc,.slice none 0 0,.bool false,.int .i64 0] T.zr71 T.pl71 rfl)<|.ur' (.stW (vs:=[.int .i64 (z:Int),.slice sa sl.length sc,.slice none 0 0,.bool false,.int .i64 0]) T.sz71 ok (oneL rfl)) ?_;rintro η4 ⟨ok,cg⟩;refine .z .asI<|.nil ?_;refine .ret ⟨.tuple #[.agg #[.int .i64 (z:Int),.slice sa sl.length sc,.slice none 0 0,.bool false,.int .i64 0],.int .i64 0],Res.many (vs:=[.agg #[.int .i64 (z:Int),.slice sa sl.length sc,.slice none 0 0,.bool false,.int .i64 0],.int .i64 0]) rfl ⟨⟨_,rfl,load_ag T.ag71 ok.m0 T.sz71⟩,rfl,trivial⟩ rfl,⟨⟨z,sa,sc,sl,none,0,[],false,0⟩,by rw [checkP_2 (show ¬ib=true from by simpa using C0)]<;>rfl,by rw [checkP_2 (show ¬ib=true from by simpa using C0)]<;>rfl,ok.chg,⟨(ok.r0).mono (fun _ h=>.inl h.1),RwB.nil _ _ 0 (by decide)⟩⟩⟩
theorem readP_1 {w:WPg} {no:Int} (h:no<1∨(w.pages.length:Int)<no):readP w no=([],1):=if_pos h
theorem readP_2 {w:WPg} {no:Int} (h:¬(no<1∨(w.pages.length:Int)<no)):readP w no=(w.pages.getD (no-1).toNat [],0):=if_neg h
theorem pgL'_len {z fr sc nc:Nat} {sa na:Option Addr} {sl nl:List RB} {ib:Bool} : (RWp.abs ⟨z,sa,sc,sl,na,nc,nl,ib,fr⟩).pages.length=(pgL' ib nl sl).length:=by rw [←pgL'_abs (z:=z) (fr:=fr) (sa:=sa) (na:=na) (sc:=sc) (nc:=nc)];exact pgs_len
theorem pgL'_at {z fr sc nc q:Nat} {sa na:Option Addr} {sl nl:List RB} {ib:Bool} (hq:q<(pgL' ib nl sl).length):(RWp.abs ⟨z,sa,sc,sl,na,nc,nl,ib,fr⟩).pages.getD q []=(pgL' ib nl sl)[q].l:=by rw [←pgL'_abs (z:=z) (fr:=fr) (sa:=sa) (na:=na) (sc:=sc) (nc:=nc)];simp [pgs,hq]
theorem pread_any {h:Heap} {E:Nat→Prop} {z fr sc nc:Nat} {sa na:Option Addr} {sl nl:List RB} {ib:Bool} {no:Int} (hw:DocP h E ⟨z,sa,sc,sl,na,nc,nl,ib,fr⟩) (hno : -9223372036854775808≤no∧no≤9223372036854775807) :
  HC Tryz.prog 109 #[.agg #[.int .i64 (z:Int),.slice sa sl.length sc,.slice na nl.length nc,.bool ib,.int .i64 (fr:Int)],.int .i64 no] h (fun v h'=>∃a c,v=.tuple #[.slice a (readP (RWp.abs ⟨z,sa,sc,sl,na,nc,nl,ib,fr⟩) no).1.length c,.int .i64 ((readP (RWp.abs ⟨z,sa,sc,sl,na,nc,nl,ib,fr⟩) no).2:Int)]∧Ext h h'∧RdL h' E E (a,(readP (RWp.abs ⟨z,sa,sc,sl,na,nc,nl,ib,fr⟩) no).1.length,c) (readP (RWp.abs ⟨z,sa,sc,sl,na,nc,nl,ib,fr⟩) no).1):=by
 have hsm:=hw.s.m;have hnm:=hw.n.m;have ok:=((Hp.nil h none_).old (pgwI (fun j=>E j∧j<h.size) (na,nl.length,nc) nl) (hw.n.lt (by decide)) (fun j hj=>hj.2)).old (pgwI (fun j=>E j∧j<h.size) (sa,sl.length,sc) sl) (hw.s.lt (by decide)) (fun j hj=>hj.2);have hpm:=(DocP.pages hw).m;refine HC.go Tryz.func109 21 ?_;refine .seq<|.r<|.a' 2 (.bxA (cs:=[.int .i64 (z:Int),.slice sa sl.length sc,.slice na nl.length nc,.bool ib,.int .i64 (fr:Int)]) ok) ?_;rintro _ η1 ⟨pb1,rfl,ok,xe⟩;refine .z .asS<|.z .asI<|.nil ?_;refine .seq<|.seq<|.r<|.z .mvI<|.z .lss<|.z .mvB<|.sd (fun G8=>?_) (fun G8=>?_)
 ·
  refine .y<|.y<|.y<|.y<|.y<|.z .pkt<|.nil ?_;refine .ct<|.seq<|.r<|.z .asS<|.z .asI<|.nil ?_;refine .ret ⟨.tuple #[.slice none 0 0,.int .i64 1],Res.two rfl rfl rfl,⟨none,0,by rw [readP_1 (by rw [pgL'_len];first | exact .inl (by omega) | exact .inr (by omega))]<;>rfl,ok.chg,by rw [readP_1 (by rw [pgL'_len];first | exact .inl (by omega) | exact .inr (by omega))];exact RdL.nil _ _ _⟩⟩
 refine .z .mvI<|.z (.ldb T.ag71 ok.m0 T.sz71)<|.c' 11 .func (ppages_any (z:=z) (sl:=sl) (nl:=nl) (ib:=ib) (fr:=fr) ⟨ok.r0,ok.r1⟩) ?_;rintro _ η2 ⟨rfl,hx⟩;have ok:=ok.ext hx;refine .z (.len T.el26)<|.z .gtr<|.z .pkf<|.nil ?_;refine .cd (fun C0=>?_) (fun C0=>?_)
 ·
  refine .seq<|.r<|.z .asS<|.z .asI<|.nil ?_;refine .ret ⟨.tuple #[.slice none 0 0,.int .i64 1],Res.two rfl rfl rfl,⟨none,0,by rw [readP_1 (by rw [pgL'_len];first | exact .inl (by omega) | exact .inr (by omega))]<;>rfl,ok.chg,by rw [readP_1 (by rw [pgL'_len];first | exact .inl (by omega) | exact .inr (by omega))];exact RdL.nil _ _ _⟩⟩
 refine .skip<|.seq<|?_;have hpl:=pgL'_len (z:=z) (fr:=fr) (sa:=sa) (na:=na) (sc:=sc) (nc:=nc) (sl:=sl) (nl:=nl) (ib:=ib);obtain ⟨q,hq⟩:∃q:Nat,no=(q:Int)+1:=⟨(no-1).toNat,by omega⟩;have hql:q<(pgL' ib nl sl).length:=by omega
 refine .r<|.z (.ldb T.ag71 ok.m0 T.sz71)<|.c' 16 .func (ppages_any (z:=z) (sl:=sl) (nl:=nl) (ib:=ib) (fr:=fr) ⟨ok.r0,ok.r1⟩) ?_;rintro _ η3 ⟨rfl,hx⟩;have ok:=ok.ext hx;have ok:=ok.d0 (pgwI (fun j=>E j∧j<h.size) (pgA ib na sa,(pgL' ib nl sl).length,pgC ib nc sc) (pgL' ib nl sl)) (DocP.pages (z:=z) (fr:=fr) ⟨ok.r0,ok.r1⟩) (fun _ h=>h);generalize pgA ib na sa=pa at ok⊢;refine .z .mvI<|.z .sub<|?_;obtain ⟨bb1,oo1,rfl,fb1⟩:=ok.r0.pos (by omega);refine .z (.ix1 q T.el26 T.sz22 (hi:=by omega))<|?_;have ok:=ok.d0 (rdI (fun j=>E j∧j<h.size) (fun j=>E j∧j<h.size) ((pgL' ib nl sl)[q].a,(pgL' ib nl sl)[q].l.length,(pgL' ib nl sl)[q].c) (pgL' ib nl sl)[q].l) ((ok.r0).by' _ (List.getElem_mem hql)) (fun _ h=>h.elim id id);refine .z (.ld T.ag22 (sl_at1 RB.cells_len (ok.r1).sl (i:=q) (by omega) rfl))<|.z .asS<|.z .asI<|.nil ?_;refine .ret ⟨.tuple #[.slice ((pgL' ib nl sl)[q].a) ((pgL' ib nl sl)[q].l.length) ((pgL' ib nl sl)[q].c),.int .i64 0],Res.two rfl rfl rfl,⟨(pgL' ib nl sl)[q].a,(pgL' ib nl sl)[q].c,by rw [readP_2 (by rw [hpl];rintro (h | h)<;>omega),show (no-1).toNat=q by omega,pgL'_at hql]<;>rfl,ok.chg,by rw [readP_2 (by rw [hpl];rintro (h | h)<;>omega),show (no-1).toNat=q by omega,pgL'_at hql];exact (ok.r0).mono (fun _ h=>h.1) (fun _ h=>h.1)⟩⟩
theorem pwrite_any {h:Heap} {E:Nat→Prop} {z fr sc nc:Nat} {sa na:Option Addr} {sl nl:List RB} {ib:Bool} {no:Int} {ba:Option Addr} {bc:Nat} {bl:List UInt8} {FB EB:Nat→Prop} (hw:DocP h E ⟨z,sa,sc,sl,na,nc,nl,ib,fr⟩) (hbl:RdL h FB EB (ba,bl.length,bc) bl) (hno : -9223372036854775808≤no∧no≤9223372036854775807) (hnl:nl.length≤1000000) (hz:z≤4096) :
  HC Tryz.prog 162 #[.agg #[.int .i64 (z:Int),.slice sa sl.length sc,.slice na nl.length nc,.bool ib,.int .i64 (fr:Int)],.int .i64 no,.slice ba bl.length bc] h (fun v h'=>∃w:RWp,v=.tuple #[.agg w.cells,.int .i64 ((writeP (RWp.abs ⟨z,sa,sc,sl,na,nc,nl,ib,fr⟩) no bl).2:Int)]∧w.abs=(writeP (RWp.abs ⟨z,sa,sc,sl,na,nc,nl,ib,fr⟩) no bl).1∧PRet h E w h'):=by
 have hsm:=hw.s.m;have hnm:=hw.n.m;have ok:=((Hp.nil h none_).old (pgwI (fun j=>E j∧j<h.size) (na,nl.length,nc) nl) (hw.n.lt (by decide)) (fun j hj=>hj.2)).old (pgwI (fun j=>E j∧j<h.size) (sa,sl.length,sc) sl) (hw.s.lt (by decide)) (fun j hj=>hj.2);have hb2:=hbl.m;have hb1:=hbl.c;simp only at hb1 hb2;have ok:=(ok.arg hbl).f2.f2;refine HC.go Tryz.func162 43 ?_;refine .seq<|.r<|.a' 3 (.bxA (cs:=[.int .i64 (z:Int),.slice sa sl.length sc,.slice na nl.length nc,.bool ib,.int .i64 (fr:Int)]) ok) ?_;rintro _ η1 ⟨pb1,rfl,ok,xe⟩;refine .a' 6 (.alA T.zr71 ok) ?_;rintro _ η2 ⟨pb2,rfl,ok,xe⟩;refine .z .asI<|.nil ?_;refine .seq<|.seq<|.r<|.z (.fa T.fd71_3)<|.z (.ldx T.ag4 ok.m1)<|.z .not<|.nil ?_;refine .cond (fun C0=>?_) (fun C0=>?_)
 ·
  refine .seq<|.r<|.z (.ldb T.ag71 ok.m1 T.sz71)<|.ur' (.stW (vs:=[.int .i64 (z:Int),.slice sa sl.length sc,.slice na nl.length nc,.bool ib,.int .i64 (fr:Int)]) T.sz71 ok (oneL rfl)) ?_;rintro η3 ⟨ok,cg⟩;refine .z .asI<|.nil ?_;refine .ret ⟨.tuple #[.agg #[.int .i64 (z:Int),.slice sa sl.length sc,.slice na nl.length nc,.bool ib,.int .i64 (fr:Int)],.int .i64 10],Res.many (vs:=[.agg #[.int .i64 (z:Int),.slice sa sl.length sc,.slice na nl.length nc,.bool ib,.int .i64 (fr:Int)],.int .i64 10]) rfl ⟨⟨_,rfl,load_ag T.ag71 ok.m0 T.sz71⟩,rfl,trivial⟩ rfl,⟨⟨z,sa,sc,sl,na,nc,nl,ib,fr⟩,by rw [writeP_1 (show ib=false from by simpa using C0)]<;>rfl,by rw [writeP_1 (show ib=false from by simpa using C0)]<;>rfl,ok.chg,⟨(ok.r0).mono (fun _ h=>.inl h.1),(ok.r1).mono (fun _ h=>.inl h.1)⟩⟩⟩
 refine .skip<|.seq<|.seq<|.r<|.z .mvI<|.z .lss<|.z .mvB<|.sd (fun G14=>?_) (fun G14=>?_)
 ·
  refine .y<|.y<|.y<|.y<|.y<|.z .pkt<|.z .mvB<|.y<|.y<|.y<|.y<|.y<|.z .pkt<|.nil ?_;refine .ct<|.seq<|.r<|.z (.ldb T.ag71 ok.m1 T.sz71)<|.ur' (.stW (vs:=[.int .i64 (z:Int),.slice sa sl.length sc,.slice na nl.length nc,.bool ib,.int .i64 (fr:Int)]) T.sz71 ok (oneL rfl)) ?_;rintro η4 ⟨ok,cg⟩;refine .z .asI<|.nil ?_;refine .ret ⟨.tuple #[.agg #[.int .i64 (z:Int),.slice sa sl.length sc,.slice na nl.length nc,.bool ib,.int .i64 (fr:Int)],.int .i64 1],Res.many (vs:=[.agg #[.int .i64 (z:Int),.slice sa sl.length sc,.slice na nl.length nc,.bool ib,.int .i64 (fr:Int)],.int .i64 1]) rfl ⟨⟨_,rfl,load_ag T.ag71 ok.m0 T.sz71⟩,rfl,trivial⟩ rfl,⟨⟨z,sa,sc,sl,na,nc,nl,ib,fr⟩,by rw [writeP_2 (show ¬ib=false from by simpa using C0) (by show _∨((pgs nl).length:Int)<no∨bl.length≠z;rw [pgs_len];first | exact .inl (by omega) | exact .inr (.inl (by omega)) | exact .inr (.inr (by omega)))]<;>rfl,by rw [writeP_2 (show ¬ib=false from by simpa using C0) (by show _∨((pgs nl).length:Int)<no∨bl.length≠z;rw [pgs_len];first | exact .inl (by omega) | exact .inr (.inl (by omega)) | exact .inr (.inr (by omega)))]<;>rfl,ok.chg,⟨(ok.r0).mono (fun _ h=>.inl h.1),(ok.r1).mono (fun _ h=>.inl h.1)⟩⟩⟩
 refine .z .mvI<|.z (.fa T.fd71_2)<|.z (.ldx T.ag26 ok.m1)<|.z (.len T.el26)<|.z .gtr<|.z .pkf<|.z .mvB<|.sd (fun G21=>?_) (fun G21=>?_)
 ·
  refine .y<|.y<|.y<|.y<|.y<|.z .pkt<|.nil ?_;refine .ct<|.seq<|.r<|.z (.ldb T.ag71 ok.m1 T.sz71)<|.ur' (.stW (vs:=[.int .i64 (z:Int),.slice sa sl.length sc,.slice na nl.length nc,.bool ib,.int .i64 (fr:Int)]) T.sz71 ok (oneL rfl)) ?_;rintro η5 ⟨ok,cg⟩;refine .z .asI<|.nil ?_;refine .ret ⟨.tuple #[.agg #[.int .i64 (z:Int),.slice sa sl.length sc,.slice na nl.length nc,.bool ib,.int .i64 (fr:Int)],.int .i64 1],Res.many (vs:=[.agg #[.int .i64 (z:Int),.slice sa sl.length sc,.slice na nl.length nc,.bool ib,.int .i64 (fr:Int)],.int .i64 1]) rfl ⟨⟨_,rfl,load_ag T.ag71 ok.m0 T.sz71⟩,rfl,trivial⟩ rfl,⟨⟨z,sa,sc,sl,na,nc,nl,ib,fr⟩,by rw [writeP_2 (show ¬ib=false from by simpa using C0) (by show _∨((pgs nl).length:Int)<no∨bl.length≠z;rw [pgs_len];first | exact .inl (by omega) | exact .inr (.inl (by omega)) | exact .inr (.inr (by omega)))]<;>rfl,by rw [writeP_2 (show ¬ib=false from by simpa using C0) (by show _∨((pgs nl).length:Int)<no∨bl.length≠z;rw [pgs_len];first | exact .inl (by omega) | exact .inr (.inl (by omega)) | exact .inr (.inr (by omega)))]<;>rfl,ok.chg,⟨(ok.r0).mono (fun _ h=>.inl h.1),(ok.r1).mono (fun _ h=>.inl h.1)⟩⟩⟩
 refine .z .mvS<|.z (.len T.el22)<|.z (.fa T.fd71_0)<|.z (.ldx T.ag3 ok.m1)<|.z .neq<|.z .pkf<|.nil ?_;refine .cd (fun C1=>?_) (fun C1=>?_)
 ·
  refine .seq<|.r<|.z (.ldb T.ag71 ok.m1 T.sz71)<|.ur' (.stW (vs:=[.int .i64 (z:Int),.slice sa sl.length sc,.slice na nl.length nc,.bool ib,.int .i64 (fr:Int)]) T.sz71 ok (oneL rfl)) ?_;rintro η6 ⟨ok,cg⟩;refine .z .asI<|.nil ?_;refine .ret ⟨.tuple #[.agg #[.int .i64 (z:Int),.slice sa sl.length sc,.slice na nl.length nc,.bool ib,.int .i64 (fr:Int)],.int .i64 1],Res.many (vs:=[.agg #[.int .i64 (z:Int),.slice sa sl.length sc,.slice na nl.length nc,.bool ib,.int .i64 (fr:Int)],.int .i64 1]) rfl ⟨⟨_,rfl,load_ag T.ag71 ok.m0 T.sz71⟩,rfl,trivial⟩ rfl,⟨⟨z,sa,sc,sl,na,nc,nl,ib,fr⟩,by rw [writeP_2 (show ¬ib=false from by simpa using C0) (by show _∨((pgs nl).length:Int)<no∨bl.length≠z;rw [pgs_len];first | exact .inl (by omega) | exact .inr (.inl (by omega)) | exact .inr (.inr (by omega)))]<;>rfl,by rw [writeP_2 (show ¬ib=false from by simpa using C0) (by show _∨((pgs nl).length:Int)<no∨bl.length≠z;rw [pgs_len];first | exact .inl (by omega) | exact .inr (.inl (by omega)) | exact .inr (.inr (by omega)))]<;>rfl,ok.chg,⟨(ok.r0).mono (fun _ h=>.inl h.1),(ok.r1).mono (fun _ h=>.inl h.1)⟩⟩⟩
 refine .skip<|.seq<|?_;obtain ⟨q,hq⟩:∃q:Nat,no=(q:Int)+1:=⟨(no-1).toNat,by omega⟩;refine .r<|.a' 29 (.lit [] (cs:=[]) T.el26 T.sz22 T.zr22 ok trivial) ?_;rintro _ η7 ⟨pb3,rfl,ok,xe⟩;refine .z (.fa T.fd71_2)<|.z (.ldx T.ag26 ok.m2)<|.a' 32 (.app (news:=nl.flatMap RB.cells) T.el26 T.sz22 T.by22 T.zr22 ok (ok.r1).sl (fun u hu=>by obtain ⟨x,_,hx⟩:=List.mem_flatMap.1 hu;simp [RB.cells] at hx;rw [hx];rfl) (by simp only [List.length_nil,flat_len RB.cells_len];omega)) ?_;rintro _ η8 ⟨ya1,yn1,yc1,rfl,ok,ap⟩;have ok:=ok.cx (ys:=nl.flatMap RB.cells) (by simp);obtain rfl:yn1=nl.length:=(Sl.sz (Cap.sl ok.m0) RB.cells_len (by decide)).1.symm;refine .z (.fa T.fd71_2)<|.ur' (.stS T.sz26 ok.n2) ?_;rintro η9 ⟨ok,cg⟩;refine .nil ?_;refine .seq<|?_;have ok:=ok.d1 (pbyI (fun j=>E j∧j<h.size) nl) (PgB.pby ok.r1) (fun _ h=>h);refine .a 8 (fun fl hh=>cond fl True (Hp h none_ [boxI pb1 71 [.int .i64 (z:Int),.slice sa sl.length sc,.slice ya1 nl.length yc1,.bool ib,.int .i64 (fr:Int)],capI 1 22 (ya1,nl.length,yc1) (nl.flatMap RB.cells),boxI pb2 71 [.int .i64 0,.slice none 0 0,.slice none 0 0,.bool false,.int .i64 0]] [pbyI (fun j=>E j∧j<h.size) nl,pgwI (fun j=>E j∧j<h.size) (sa,sl.length,sc) sl,pgwI (fun j=>E j∧j<h.size) (na,nl.length,nc) nl,rdI (fun j=>FB j∧j<h.size) (fun j=>EB j∧j<h.size) (ba,bl.length,bc) bl] hh)) mixed ?_;have hS:=ok;refine .g 0 false rfl 34 hS (fun _=>.fa T.fd71_2)<|.l 1 false rfl 35 hS (fun _ hS=>.ldx T.ag26 hS.m0)<|.g 2 false rfl 36 hS (fun _=>.mvI)<|.g 3 false rfl 37 hS (fun _=>.sub)<|.g 5 false rfl 39 hS (fun _=>.mvS)<|.o1 4<|.a' false rfl 38 (.lit [] (cs:=[]) T.el22 T.sz5 T.zr5 ok trivial) ?_;rintro _ η10 ⟨pb4,rfl,ok,xe⟩;have ok:=ok.cx (ys:=([]:List UInt8).map bv) rfl;refine ⟨ok.n3.n3.n3.k3,?_⟩;have hS:=ok.n3.n3.n3.k3;refine .o1 6<|.a' false rfl 40 (.app (news:=bl.map bv) T.el22 T.sz5 T.by5 T.zr5 ok (ok.r3).by bv_all (by simp only [List.length_map,List.length_append,List.length_take,List.length_cons,List.length_nil,List.length_replicate,List.length_range,fixedN_len,sealN_len];omega)) ?_;rintro _ η11 ⟨ya2,yn2,yc2,rfl,ok,ap⟩;have ok:=ok.cx (ys:=(bl).map bv) (by simp [bv]);obtain rfl:yn2=(bl).length:=ok.lenB;refine ⟨ok.n3.n3.n3.k3,?_⟩;have hS:=ok.n3.n3.n3.k3;obtain ⟨bb1,oo1,rfl,fb1⟩:=ok.m2.pos (n:=nl.length) (by omega);refine .g 7 false rfl 41 hS (fun _=>.ix1 q T.el26 T.sz22 (hi:=by omega))<|.o1 8<|.ur' true rfl (.sxS (q:=q) T.sz22 ok.n2) ?_;rintro η12 ⟨ok,cg⟩;refine ⟨trivial,?_⟩;refine .e ?_;refine .seq<|.r<|.z (.ldb T.ag71 ok.m2 T.sz71)<|.ur' (.stW (vs:=[.int .i64 (z:Int),.slice sa sl.length sc,.slice (some ⟨bb1,oo1,none⟩) nl.length yc1,.bool ib,.int .i64 (fr:Int)]) T.sz71 ok.n3 (oneL rfl)) ?_;rintro η13 ⟨ok,cg⟩;refine .z .asI<|.nil ?_;have hfr:=(ok.n2).fresh;have ok:=(ok.n2).pbySet (i:=q);have ok:=(ok.n1).cx (ys:=(nl.set q ⟨ya2,yc2,bl⟩).flatMap RB.cells) (flatMap_set (x:=⟨ya2,yc2,bl⟩) _ rfl);have hsl:(nl.set q ⟨ya2,yc2,bl⟩).length=nl.length:=List.length_set ..;refine .ret ⟨.tuple #[.agg #[.int .i64 (z:Int),.slice sa sl.length sc,.slice (some ⟨bb1,oo1,none⟩) nl.length yc1,.bool ib,.int .i64 (fr:Int)],.int .i64 0],Res.many (vs:=[.agg #[.int .i64 (z:Int),.slice sa sl.length sc,.slice (some ⟨bb1,oo1,none⟩) nl.length yc1,.bool ib,.int .i64 (fr:Int)],.int .i64 0]) rfl ⟨⟨_,rfl,load_ag T.ag71 ok.m1 T.sz71⟩,rfl,trivial⟩ rfl,⟨⟨z,sa,sc,sl,some ⟨bb1,oo1,none⟩,yc1,(nl.set q ⟨ya2,yc2,bl⟩),ib,fr⟩,by rw [writeP_3 (show ¬ib=false from by simpa using C0) (by show ¬(_∨((pgs nl).length:Int)<no∨bl.length≠z);rw [pgs_len];rintro (h | h | h)<;>omega)];show _=Value.tuple #[.agg #[_,_,.slice _ (nl.set q _).length _,_,_],_];rw [hsl];rfl,by rw [writeP_3 (show ¬ib=false from by simpa using C0) (by show ¬(_∨((pgs nl).length:Int)<no∨bl.length≠z);rw [pgs_len];rintro (h | h | h)<;>omega)];simp only [RWp.abs,pgs_set,show (no-1).toNat=q by omega],ok.chg,⟨(ok.r1).mono (fun _ h=>.inl h.1),by rw [hsl];exact (PgB.of ok.m0 ok.r0 (fun j hj=>.inr (ok.fresh j hj)) (fun j hj=>(((fun j h=>h.elim (fun h=>.inl h.1) (fun h=>.inr (hfr j h).1)):∀j,(fun j=>(fun j=>E j∧j<h.size) j∨blkC (sv (ya2,(bl).length,yc2)) j) j→E j∨h.size≤j) j hj).imp id fun h1=>⟨h1,ok.l0 j hj⟩))⟩⟩⟩
end Go.Proofs.YtpeaicddbnghfaaGreat
