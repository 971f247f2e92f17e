/- slices.Insert, Delete and Replace. Conditions: the slice is one's own. The pager that logs ahead in plain terms: its calls, and what ties it to memory. Conditions: those that each fact names. The store's inner functions: what is wrong with it, how many pages there are, a page is read, put, cut off. Conditions: those that each names. Any head is encoded. Conditions: numbers of 64 bits. What a store's functions make of the document's state. Conditions: those that each fact names. The store's calls, told by the document's state. Conditions: the store is in order. Calls of the store where it is known what comes. Conditions: those that each fact names. Free pages in plain terms: the chain of trunks, a page taken, a page given. Conditions: those that each fact names. The links of a chain of pages, one by one, for any loop body. Conditions: the store is in order. The pages, and the bytes, of a chain. Conditions: the store is in order. The free list's inner functions: numbers of a page, the walk over the chain. Conditions: the store is in order. The walk over the chain of free pages. Conditions: the store is in order. All free pages; the head laid anew; the file grows. Conditions: the store is in order. -/
import Derived.Test.YtfegfklipbnhjaaGreatPkZ5
set_option maxRecDepth 100000
set_option maxHeartbeats 2000000
set_option linter.all false
namespace Go.Proofs.YtfegfklipbnhjaaGreat
open Go Go.HL
section
variable {h:Heap} {D:Nat->Prop} {a va:Option Addr} {n c i j vc m:Nat} {xs ys:List Value}
theorem delC_any (ok:Hp h D [capI 5 113 (a,n,c) xs] [] h) (hij:i<j) (hj:j<=n) (hx1:∀u∈xs,u.oneCell'=true) (hN:n<=1000000) :
  Hc 58 #[.slice a n c,.J (i:Int),.J (j:Int)] h (fun v h'=>v=.slice a (i+(n-j)) c/\Hp h D [capI 5 113 (a,i+(n-j),c) (xs.take (i*5)++xs.drop (j*5))] [] h'):=by
 have hxl:xs.length=n*5:=by have:=(Cap.sl ok.m0).cells.1;simpa using this
 have hnc:n<=c:=Cap.le ok.m0;have hcm:c<=9223372036854775807:=Cap.bd ok.m0;refine HC.go Tryz.func58 33 ?_;refine .s<|.z .asS<|.nil<|.s<|.z .mvS<|.z .mvI<|.z .mvI<|.z .mvS<|.z (.len T.el114)<|.z (.sllhm i j n T.el114 T.sz113)<|.nil<|.seq<|.s<|.z .mvI<|.z .mvI<|.z .eql<|.nil<|.cd (fun C0=>?_) (fun C0=>?_)
 ·
  omega
 refine .skip<|.s<|.z .mvS<|.z (.len T.el114)<|.z .asI<|.nil<|.seq<|.t 6 mixed ?_;simp only [kZ,kM,kH,kY];refine .z .mvS<|.z .mvI<|.z (.sl_h i T.el114 T.sz113)<|.z .mvS<|.z .mvI<|.z (.sll j T.el114 T.sz113)<|.nil ?_;refine .a' 26 (.appG (m:=n-j) T.el114 T.sz113 T.by113 T.zr113 ok (by omega) (Cap.cutS (n:=n) (c:=c) ok.m0 hj) (fun u hu=>hx1 u (kQ hu)) (by rw [qH,hxl,Nat.sub_mul]) (by decide) (by omega) rfl rfl) ?_;rintro _ U1 ⟨_,_,rfl,hin,ok⟩;obtain ⟨rfl,rfl⟩:=hin (by omega);refine .z .asS<|.nil<|.s<|.z .mvS<|.z .mvS<|.z (.len T.el114)<|.z .mvI<|.z (.slh (i+(n-j)) n T.el114 T.sz113)<|.a0' (.clrU (i:=i+(n-j)) T.el114 T.zr113 ok rfl) ?_;rintro _ U2 ⟨rfl,ok⟩;refine .nil ?_;refine .s<|.z .mvS<|.z .asS<|.nil<|.ret ⟨.slice a (i+(n-j)) c,Res.one rfl rfl,⟨rfl,ok⟩⟩
theorem insI_any (ok:Hp h D [plI 1 2 (a,n,c) xs] [capI 1 2 (va,m,vc) ys] h) (hym:ys.length=m*1) (hi:i<=n) (hx1:∀u∈xs,u.oneCell'=true) (hy1:∀u∈ys,u.oneCell'=true) (hN:n+m<=1000000) :
  Hc 277 #[.slice a n c,.J (i:Int),.slice va m vc] h (fun v h'=>∃a' c',v=.slice a' (n+m) c'/\Hp h D [capI 1 2 (a',n+m,c') (xs.take (i*1)++ys++xs.drop (i*1))] [] h'):=by
 have hpl:Pln h (.slice a n c):=ok.m0.2;have ok:=ok.plC;have hxl:xs.length=n*1:=by have:=(Cap.sl ok.m0).cells.1;simpa using this
 have hnc:n<=c:=Cap.le ok.m0;have hcm:c<=9223372036854775807:=Cap.bd ok.m0;have hmm:m<=1000000:=by omega
 have hne:∀ {b o vb vo},a=some ⟨b,o,none⟩->va=some ⟨vb,vo,none⟩->vb≠b:=fun e1 e3 e2=>by subst e1 e2 e3;exact ok.mr _ qX _ qX _ ⟨_,_,_,rfl⟩ ⟨_,_,_,rfl⟩
 refine HC.go Tryz.func277 95 ?_;refine .s<|.z .asS<|.nil<|.s<|.z .mvS<|.z .mvI<|.z (.sll i T.el145 T.sz2)<|.nil<|.s<|.z .mvS<|.z (.len T.el145)<|.z .asI<|.nil<|.seq<|.s<|.z .mvI<|.z .eql<|.nil<|.cd (fun C0=>?_) (fun C0=>?_)
 ·
  refine .s<|.z .mvS<|.z .asS<|.nil<|.ret ⟨.slice a n c,Res.one rfl rfl,⟨a,c,by rw [show n+m=n by omega],(by
   obtain rfl:m=0:=by omega
   obtain rfl:ys=[]:=qW (by omega);rw [kX,qT];exact ok.e0)⟩⟩
 refine .skip<|.s<|.z .mvS<|.z (.len T.el145)<|.z .asI<|.nil<|.seq<|.s<|.z .mvI<|.z .mvI<|.z .eql<|.nil<|.cd (fun C1=>?_) (fun C1=>?_)
 ·
  refine .s<|.z .mvS<|.z .mvS<|.a' 25 (.appG (m:=m) T.el145 T.sz2 T.by2 T.zr2 ok (qR _) (Cap.sl (v:=.slice _ m vc) (ok).r0) hy1 hym (by decide) (by omega) rfl rfl) ?_;rintro _ U1 ⟨a2,c2,rfl,_,ok⟩;rw [qY (by omega),ins_end hxl hym hi (by omega)] at ok;refine .z .asS<|.nil<|.ret ⟨.slice a2 (n+m) c2,Res.one rfl rfl,⟨a2,c2,rfl,ok.e0⟩⟩
 refine .skip<|.seq<|.s<|.z .mvI<|.z .mvI<|.z .addI<|.z .mvS<|.z (.cap T.el145)<|.z .gtr<|.nil<|.cd (fun C2=>?_) (fun C2=>?_)
 ·
  refine .s<|.z .mvS<|.z .mvI<|.z (.sl_h i T.el145 T.sz2)<|.z .mvI<|.z .mvI<|.z .addI<|.z .mvI<|.z .sub<|.a' 40 (.apm (n+m-i) T.el145 T.in3 T.sz2 T.by2 T.zr2 ok rfl rfl (by omega) hi (by omega) (by omega) (by omega)) ?_;rintro _ U2 ⟨b2,c2,zs,rfl,hzs,ok⟩;refine .z .asS<|.nil<|.s<|.z .mvS<|.z .mvI<|.z (.sll i T.el145 T.sz2)<|.z .mvS<|.a' 45 (.cpG (m:=m) (i) T.el145 T.sz2 ok (Cap.sl (v:=.slice _ m vc) (ok).r0) (fun u hu=>hy1 u (qC hu)) rfl) ?_;rintro _ U3 ⟨rfl,ok,_⟩;refine .nil ?_;refine .seq<|.t 8 mixed ?_;simp only [kZ,kM,kH,kY];refine .z .mvS<|.z .mvI<|.z .mvI<|.z .addI<|.z (.sll (i+m) T.el145 T.sz2)<|.z .mvS<|.z .mvI<|.z (.sll i T.el145 T.sz2)<|.nil ?_;refine .a' 54 (.cpG (m:=n-i) (i+m) T.el145 T.sz2 ok (Cap.cutS (n:=n) (c:=c) (ok.m1) hi) (fun u hu=>hx1 u (kQ (qC hu))) rfl) ?_;rintro _ U4 ⟨rfl,ok,_⟩;rw [ins_grow hxl hym hi hzs,show i+(n+m-i)=n+m by omega] at ok;refine .nil ?_;refine .s<|.z .mvS<|.z .asS<|.nil<|.ret ⟨.slice (some ⟨b2,0,none⟩) (i+(n+m-i)) c2,Res.one rfl rfl,⟨_,c2,by rw [show i+(n+m-i)=n+m by omega],ok.k1.e0⟩⟩
 obtain ⟨zs,hzs,ok⟩:=ok.upR (m:=n+m) (by omega) (by omega);have hab:∃b o,a=some ⟨b,o,none⟩:=by
  obtain ⟨b,o,e,_⟩:=Cap.pos (n:=n+m) ok.m0 (by omega);exact ⟨b,o,e⟩
 obtain ⟨ab,ao,rfl⟩:=hab;refine .skip<|.s<|.z .mvS<|.z .mvI<|.z .mvI<|.z .addI<|.z (.sl_h (n+m) T.el145 T.sz2)<|.z .asS<|.nil<|.seq<|.s<|.z .mvS<|.z .mvS<|.z .mvI<|.z .mvI<|.z .addI<|.z (.sll (i+m) T.el145 T.sz2)<|?_;obtain ⟨csB,fzB,hB,hob,hfB⟩:=Cap.at0 (n:=n+m) ok.m0 (by omega) (by omega:i+m<n+m);obtain ⟨vb,vo,rfl,_⟩:=Cap.pos (n:=m) ok.r0 (by omega);obtain ⟨csA,fzA,hA,hoa,hfA⟩:=Cap.at0 (j:=0) (n:=m) ok.r0 (by omega) (by omega);obtain ⟨csP,eP,hP⟩:=hpl ab ⟨_,_,_,rfl⟩;rw [hP] at hB;injection hB with hB;injection hB with hB1 hB2 hB3;subst hB1 hB2 hB3;refine .a' 67 (.ovl (tS:=145) (tR:=4) Tryz.func278 rfl (by decide) rfl rfl T.el145 T.sz2 ok hA (by omega) hfA hP hob (fzOk_zero _) (.inr rfl) (hne rfl rfl) rfl rfl rfl (cutA_some (by omega))) ?_;rintro _ U5 ⟨rfl,ok⟩;refine .z .not<|.nil<|.ct<|.seq<|.t 8 mixed ?_;simp only [kZ,kM,kH,kY];refine .z .mvS<|.z .mvI<|.z .mvI<|.z .addI<|.z (.sll (i+m) T.el145 T.sz2)<|.z .mvS<|.z .mvI<|.z (.sll i T.el145 T.sz2)<|.nil ?_;refine .a' 77 (.cpG (m:=n-i) (i+m) T.el145 T.sz2 ok (Cap.cutS (n:=n+m) (c:=c) (ok.m0) (by omega:i<=n+m)) (fun u hu=>by rw [ins_cut hxl hi] at hu;exact hx1 u (kQ hu)) rfl) ?_;rintro _ U6 ⟨rfl,ok,_⟩;refine .nil ?_;refine .s<|.z .mvS<|.z .mvI<|.z (.sll i T.el145 T.sz2)<|.z .mvS<|.a' 82 (.cpG (m:=m) (i) T.el145 T.sz2 ok (Cap.sl (v:=.slice _ m vc) (ok).r0) (fun u hu=>hy1 u (qC hu)) rfl) ?_;rintro _ U7 ⟨rfl,ok,_⟩;rw [ins_shift hxl hym hi (by rw [hzs];congr 1;omega)] at ok;refine .nil ?_;refine .s<|.z .mvS<|.z .asS<|.nil<|.ret ⟨.slice (some ⟨ab,ao,none⟩) (n+m) c,Res.one rfl rfl,⟨_,c,rfl,ok.e0⟩⟩
theorem repI_any (okp:Hp h D [plI 1 2 (a,n,c) xs] [capI 1 2 (va,m,vc) ys] h) (hij:i<=j) (hjn:j<=n) (hx1:∀u∈xs,u.oneCell'=true) (hy1:∀u∈ys,u.oneCell'=true) (hN:n+m<=1000000) :
  Hc 245 #[.slice a n c,.J (i:Int),.J (j:Int),.slice va m vc] h (fun v h'=>∃a' c',v=.slice a' (i+m+(n-j)) c'/\Hp h D [capI 1 2 (a',i+m+(n-j),c') (xs.take i++ys++xs.drop j)] [] h'):=by
 have hpl:Pln h (.slice a n c):=okp.m0.2;have ok:=okp.plC;have hi:i<=n:=by omega
 have hle:i<=j:=by omega
 have hxl:xs.length=n:=by have:=(Cap.sl ok.m0).cells.1;simpa using this
 have hym:ys.length=m:=by have:=(Cap.sl ok.r0).cells.1;simpa using this
 have hnc:n<=c:=Cap.le ok.m0;have hcm:c<=9223372036854775807:=Cap.bd ok.m0;have hne:∀ {b o vb vo},a=some ⟨b,o,none⟩->va=some ⟨vb,vo,none⟩->vb≠b:=fun e1 e3 e2=>by subst e1 e2 e3;exact ok.mr _ qX _ qX _ ⟨_,_,_,rfl⟩ ⟨_,_,_,rfl⟩
 refine HC.go Tryz.func245 224 ?_;refine .s<|.z .asS<|.nil<|.s<|.z .mvS<|.z .mvI<|.z .mvI<|.z (.slh i j T.el145 T.sz2)<|.nil<|.seq<|.s<|.z .mvI<|.z .mvI<|.z .eql<|.nil<|.cd (fun C0=>?_) (fun C0=>?_)
 ·
  refine .s<|.z .mvS<|.z .mvI<|.z .mvS<|.c' 25 .func (insI_any (i:=i) (m:=m) okp (by omega) (by omega) hx1 hy1 (by omega)) ?_;rintro _ U1 ⟨a2,c2,rfl,ok⟩;refine .z .asS<|.nil<|.ret ⟨.slice a2 (n+m) c2,Res.one rfl rfl,⟨a2,c2,by rw [show n+m=i+m+(n-j) by omega],(by
   have hee:i=j:=by omega
   subst hee;rw [Nat.mul_one,show n+m=i+m+(n-i) by omega] at ok;exact ok)⟩⟩
 refine .skip<|.seq<|.s<|.z .mvI<|.z .mvS<|.z (.len T.el145)<|.z .eql<|.nil<|.cd (fun C1=>?_) (fun C1=>?_)
 ·
  refine .s<|.z .mvS<|.z .mvI<|.z (.sl_h i T.el145 T.sz2)<|.z .mvS<|.a' 34 (.appG (m:=m) T.el145 T.sz2 T.by2 T.zr2 ok hi (Cap.sl (v:=.slice va m vc) ok.r0) hy1 (by omega) (by decide) (by omega) rfl rfl) ?_;rintro _ U2 ⟨a2,c2,rfl,hin,ok⟩;refine .z .asS<|.nil<|.seq<|.s<|.z .mvS<|.z (.len T.el145)<|.z .mvS<|.z (.len T.el145)<|.z .lss<|.nil<|.cd (fun C2=>?_) (fun C2=>?_)
  ·
   obtain ⟨rfl,rfl⟩:=hin (by omega);refine .r<|.z .mvS<|.z .mvS<|.z (.len T.el145)<|.z (.sll (i+m) T.el145 T.sz2)<|.a0' (.clrU (i:=i+m) T.el145 T.zr2 ok rfl) ?_;rintro _ U3 ⟨rfl,ok⟩;refine .nil ?_;refine .s<|.z .mvS<|.z .asS<|.nil<|.ret ⟨.slice a (i+m) c,Res.one rfl rfl,⟨a,c,by rw [show i+m+(n-j)=i+m by omega],(by
    rw [Nat.mul_one] at ok;rw [show i+m+(n-j)=i+m by omega,show xs.drop j=[] from qN (by omega),kX];exact ok.e0)⟩⟩
  refine .skip<|.s<|.z .mvS<|.z .asS<|.nil<|.ret ⟨.slice a2 (i+m) c2,Res.one rfl rfl,⟨a2,c2,by rw [show i+m+(n-j)=i+m by omega],(by
   rw [Nat.mul_one] at ok;rw [show i+m+(n-j)=i+m by omega,show xs.drop j=[] from qN (by omega),kX];exact ok.e0)⟩⟩
 refine .skip<|.seq<|.q (hm:=mixed)<|.z .mvS<|.z .mvI<|.z (.sl_h i T.el145 T.sz2)<|.z (.len T.el145)<|.z .mvS<|.z (.len T.el145)<|.z .addI<|.z .mvS<|.z .mvI<|.z (.sll j T.el145 T.sz2)<|.z (.len T.el145)<|.z .addI<|.z .asI<|.nil<|.seq<|.s<|.z .mvI<|.z .mvS<|.z (.cap T.el145)<|.z .gtr<|.nil<|.cd (fun C3=>?_) (fun C3=>?_)
 ·
  refine .s<|.z .mvS<|.z .mvI<|.z (.sl_h i T.el145 T.sz2)<|.z .mvI<|.z .mvI<|.z .sub<|.a' 67 (.apm (i+m+(n-j)-i) T.el145 T.in3 T.sz2 T.by2 T.zr2 ok rfl rfl (by omega) hi (by omega) (by omega) (by omega)) ?_;rintro _ U4 ⟨b2,c2,zs,rfl,hzs,ok⟩;refine .z .asS<|.nil<|.s<|.z .mvS<|.z .mvI<|.z (.sll i T.el145 T.sz2)<|.z .mvS<|.a' 72 (.cpG (m:=m) (i) T.el145 T.sz2 ok (Cap.sl (v:=.slice _ m vc) ok.r0) (fun u hu=>hy1 u (qC hu)) rfl) ?_;rintro _ U5 ⟨rfl,ok,_⟩;refine .nil ?_;refine .seq<|.t 9 mixed ?_;simp only [kZ,kM,kH,kY];refine .z .mvS<|.z .mvI<|.z .mvS<|.z (.len T.el145)<|.z .addI<|.z (.sll (i+m) T.el145 T.sz2)<|.z .mvS<|.z .mvI<|.z (.sll j T.el145 T.sz2)<|.nil ?_;refine .a' 82 (.cpG (m:=n-j) (i+m) T.el145 T.sz2 ok (Cap.cutS (n:=n) (c:=c) ok.m1 hjn) (fun u hu=>hx1 u (kQ (qC hu))) rfl) ?_;rintro _ U6 ⟨rfl,ok,_⟩;rw [rep_grow hxl hym hle hjn (by omega),show i+(i+m+(n-j)-i)=i+m+(n-j) by omega] at ok;refine .nil ?_;refine .s<|.z .mvS<|.z .asS<|.nil<|.ret ⟨.slice (some ⟨b2,0,none⟩) (i+(i+m+(n-j)-i)) c2,Res.one rfl rfl,⟨_,c2,by rw [show i+(i+m+(n-j)-i)=i+m+(n-j) by omega],ok.k1.e0⟩⟩
 refine .skip<|.s<|.z .mvS<|.z .mvI<|.z (.sl_h (i+m+(n-j)) T.el145 T.sz2)<|.z .asS<|.nil<|.seq<|.s<|.z .mvI<|.z .mvS<|.z (.len T.el145)<|.z .addI<|.z .mvI<|.z .leq<|.nil<|.cd (fun C4=>?_) (fun C4=>?_)
 ·
  obtain ⟨ab,ao,rfl,_⟩:=Cap.pos (n:=n) ok.m0 (by omega);refine .s<|.z .mvS<|.z .mvI<|.z (.sll i T.el145 T.sz2)<|.z .mvS<|.a' 97 (.cpG (m:=m) (i) T.el145 T.sz2 ok (Cap.sl (v:=.slice _ m vc) ok.r0) (fun u hu=>hy1 u (qC hu)) rfl) ?_;rintro _ U7 ⟨rfl,ok,_⟩;refine .nil ?_;refine .seq<|.t 9 mixed ?_;simp only [kZ,kM,kH,kY];refine .z .mvS<|.z .mvI<|.z .mvS<|.z (.len T.el145)<|.z .addI<|.z (.sll (i+m) T.el145 T.sz2)<|.z .mvS<|.z .mvI<|.z (.sll j T.el145 T.sz2)<|.nil ?_;refine .a' 107 (.cpG (m:=n-j) (i+m) T.el145 T.sz2 ok (Cap.cutS (n:=n) (c:=c) ok.m0 hjn) (fun u hu=>rep_one hx1 hy1 (kQ (qC hu))) rfl) ?_;rintro _ U8 ⟨rfl,ok,_⟩;refine .nil ?_;refine .seq<|?_;rw [rep_in hxl hym hle hjn (by omega)] at ok;have ok:=ok.dnR (m:=i+m+(n-j)) (by omega);rw [rep_cut hxl hym hle hjn] at ok;refine .r<|.z .mvS<|.z .mvI<|.z (.sll (i+m+(n-j)) T.el145 T.sz2)<|.a0' (.clrU (i:=i+m+(n-j)) T.el145 T.zr2 ok rfl) ?_;rintro _ U9 ⟨rfl,ok⟩;refine .nil ?_;refine .s<|.z .mvS<|.z .asS<|.nil<|.ret ⟨.slice (some ⟨ab,ao,none⟩) (i+m+(n-j)) c,Res.one rfl rfl,⟨_,c,rfl,ok.e0⟩⟩
 obtain ⟨zs,hzs,ok⟩:=ok.upR (m:=i+m+(n-j)) (by omega) (by omega);obtain ⟨ab,ao,rfl,_⟩:=Cap.pos (n:=i+m+(n-j)) ok.m0 (by omega);obtain ⟨vb,vo,rfl,_⟩:=Cap.pos (n:=m) ok.r0 (by omega);refine .skip<|.seq<|.s<|.z .mvS<|.z .mvI<|.z .mvS<|.z (.len T.el145)<|.z .addI<|.z (.sll (i+m) T.el145 T.sz2)<|.z .mvS<|?_;obtain ⟨csB,fzB,hB,hob,hfB⟩:=Cap.at0 (n:=i+m+(n-j)) ok.m0 (by omega) (by omega:i+m<i+m+(n-j));obtain ⟨csA,fzA,hA,hoa,hfA⟩:=Cap.at0 (j:=0) (n:=m) ok.r0 (by omega) (by omega);obtain ⟨csP,eP,hP⟩:=hpl ab ⟨_,_,_,rfl⟩;rw [hP] at hB;injection hB with hB;injection hB with hB1 hB2 hB3;subst hB1 hB2 hB3;refine .a' 119 (.ovl (tS:=145) (tR:=4) Tryz.func278 rfl (by decide) rfl rfl T.el145 T.sz2 ok hP hob (fzOk_zero _) hA (by omega) hfA (.inl rfl) (fun e=>hne rfl rfl e.symm) rfl (cutA_some (by omega)) rfl rfl) ?_;rintro _ U10 ⟨rfl,ok⟩;refine .z .not<|.nil<|.ct<|.seq<|.t 9 mixed ?_;simp only [kZ,kM,kH,kY];refine .z .mvS<|.z .mvI<|.z .mvS<|.z (.len T.el145)<|.z .addI<|.z (.sll (i+m) T.el145 T.sz2)<|.z .mvS<|.z .mvI<|.z (.sll j T.el145 T.sz2)<|.nil ?_;refine .a' 130 (.cpG (m:=n-j) (i+m) T.el145 T.sz2 ok (Cap.cutS (n:=n) (c:=c) (rep_pre (m:=i+m+(n-j)) hxl ok.m0 (by omega)) hjn) (fun u hu=>hx1 u (kQ (qC hu))) rfl) ?_;rintro _ U11 ⟨rfl,ok,_⟩;refine .nil ?_;refine .s<|.z .mvS<|.z .mvI<|.z (.sll i T.el145 T.sz2)<|.z .mvS<|.a' 135 (.cpG (m:=m) (i) T.el145 T.sz2 ok (Cap.sl (v:=.slice _ m vc) ok.r0) (fun u hu=>hy1 u (qC hu)) rfl) ?_;rintro _ U12 ⟨rfl,ok,_⟩;rw [rep_shift hxl hym hle hjn (by omega) (by omega)] at ok;refine .nil ?_;refine .s<|.z .mvS<|.z .asS<|.nil<|.ret ⟨.slice (some ⟨ab,ao,none⟩) (i+m+(n-j)) c,Res.one rfl rfl,⟨_,c,rfl,ok.e0⟩⟩
theorem repN_any (okp:Hp h D [plI 1 3 (a,n,c) xs] [capI 1 3 (va,m,vc) ys] h) (hij:i<j) (hjn:j<=n) (hx1:∀u∈xs,u.oneCell'=true) (hy1:∀u∈ys,u.oneCell'=true) (hN:n+m<=1000000) :
  Hc 246 #[.slice a n c,.J (i:Int),.J (j:Int),.slice va m vc] h (fun v h'=>∃a' c',v=.slice a' (i+m+(n-j)) c'/\Hp h D [capI 1 3 (a',i+m+(n-j),c') (xs.take i++ys++xs.drop j)] [] h'):=by
 have hpl:Pln h (.slice a n c):=okp.m0.2;have ok:=okp.plC;have hi:i<=n:=by omega
 have hle:i<=j:=by omega
 have hxl:xs.length=n:=by have:=(Cap.sl ok.m0).cells.1;simpa using this
 have hym:ys.length=m:=by have:=(Cap.sl ok.r0).cells.1;simpa using this
 have hnc:n<=c:=Cap.le ok.m0;have hcm:c<=9223372036854775807:=Cap.bd ok.m0;have hne:∀ {b o vb vo},a=some ⟨b,o,none⟩->va=some ⟨vb,vo,none⟩->vb≠b:=fun e1 e3 e2=>by subst e1 e2 e3;exact ok.mr _ qX _ qX _ ⟨_,_,_,rfl⟩ ⟨_,_,_,rfl⟩
 refine HC.go Tryz.func246 224 ?_;refine .s<|.z .asS<|.nil<|.s<|.z .mvS<|.z .mvI<|.z .mvI<|.z (.slh i j T.el93 T.sz3)<|.nil<|.seq<|.s<|.z .mvI<|.z .mvI<|.z .eql<|.nil<|.cd (fun C0=>?_) (fun C0=>?_)
 ·
  omega
 refine .skip<|.seq<|.s<|.z .mvI<|.z .mvS<|.z (.len T.el93)<|.z .eql<|.nil<|.cd (fun C1=>?_) (fun C1=>?_)
 ·
  refine .s<|.z .mvS<|.z .mvI<|.z (.sl_h i T.el93 T.sz3)<|.z .mvS<|.a' 34 (.appG (m:=m) T.el93 T.sz3 T.by3 T.zr3 ok hi (Cap.sl (v:=.slice va m vc) ok.r0) hy1 (by omega) (by decide) (by omega) rfl rfl) ?_;rintro _ U1 ⟨a2,c2,rfl,hin,ok⟩;refine .z .asS<|.nil<|.seq<|.s<|.z .mvS<|.z (.len T.el93)<|.z .mvS<|.z (.len T.el93)<|.z .lss<|.nil<|.cd (fun C2=>?_) (fun C2=>?_)
  ·
   obtain ⟨rfl,rfl⟩:=hin (by omega);refine .r<|.z .mvS<|.z .mvS<|.z (.len T.el93)<|.z (.sll (i+m) T.el93 T.sz3)<|.a0' (.clrU (i:=i+m) T.el93 T.zr3 ok rfl) ?_;rintro _ U2 ⟨rfl,ok⟩;refine .nil ?_;refine .s<|.z .mvS<|.z .asS<|.nil<|.ret ⟨.slice a (i+m) c,Res.one rfl rfl,⟨a,c,by rw [show i+m+(n-j)=i+m by omega],(by
    rw [Nat.mul_one] at ok;rw [show i+m+(n-j)=i+m by omega,show xs.drop j=[] from qN (by omega),kX];exact ok.e0)⟩⟩
  refine .skip<|.s<|.z .mvS<|.z .asS<|.nil<|.ret ⟨.slice a2 (i+m) c2,Res.one rfl rfl,⟨a2,c2,by rw [show i+m+(n-j)=i+m by omega],(by
   rw [Nat.mul_one] at ok;rw [show i+m+(n-j)=i+m by omega,show xs.drop j=[] from qN (by omega),kX];exact ok.e0)⟩⟩
 refine .skip<|.seq<|.q (hm:=mixed)<|.z .mvS<|.z .mvI<|.z (.sl_h i T.el93 T.sz3)<|.z (.len T.el93)<|.z .mvS<|.z (.len T.el93)<|.z .addI<|.z .mvS<|.z .mvI<|.z (.sll j T.el93 T.sz3)<|.z (.len T.el93)<|.z .addI<|.z .asI<|.nil<|.seq<|.s<|.z .mvI<|.z .mvS<|.z (.cap T.el93)<|.z .gtr<|.nil<|.cd (fun C3=>?_) (fun C3=>?_)
 ·
  refine .s<|.z .mvS<|.z .mvI<|.z (.sl_h i T.el93 T.sz3)<|.z .mvI<|.z .mvI<|.z .sub<|.a' 67 (.apm (i+m+(n-j)-i) T.el93 T.in3 T.sz3 T.by3 T.zr3 ok rfl rfl (by omega) hi (by omega) (by omega) (by omega)) ?_;rintro _ U3 ⟨b2,c2,zs,rfl,hzs,ok⟩;refine .z .asS<|.nil<|.s<|.z .mvS<|.z .mvI<|.z (.sll i T.el93 T.sz3)<|.z .mvS<|.a' 72 (.cpG (m:=m) (i) T.el93 T.sz3 ok (Cap.sl (v:=.slice _ m vc) ok.r0) (fun u hu=>hy1 u (qC hu)) rfl) ?_;rintro _ U4 ⟨rfl,ok,_⟩;refine .nil ?_;refine .seq<|.t 9 mixed ?_;simp only [kZ,kM,kH,kY];refine .z .mvS<|.z .mvI<|.z .mvS<|.z (.len T.el93)<|.z .addI<|.z (.sll (i+m) T.el93 T.sz3)<|.z .mvS<|.z .mvI<|.z (.sll j T.el93 T.sz3)<|.nil ?_;refine .a' 82 (.cpG (m:=n-j) (i+m) T.el93 T.sz3 ok (Cap.cutS (n:=n) (c:=c) ok.m1 hjn) (fun u hu=>hx1 u (kQ (qC hu))) rfl) ?_;rintro _ U5 ⟨rfl,ok,_⟩;rw [rep_grow hxl hym hle hjn (by omega),show i+(i+m+(n-j)-i)=i+m+(n-j) by omega] at ok;refine .nil ?_;refine .s<|.z .mvS<|.z .asS<|.nil<|.ret ⟨.slice (some ⟨b2,0,none⟩) (i+(i+m+(n-j)-i)) c2,Res.one rfl rfl,⟨_,c2,by rw [show i+(i+m+(n-j)-i)=i+m+(n-j) by omega],ok.k1.e0⟩⟩
 refine .skip<|.s<|.z .mvS<|.z .mvI<|.z (.sl_h (i+m+(n-j)) T.el93 T.sz3)<|.z .asS<|.nil<|.seq<|.s<|.z .mvI<|.z .mvS<|.z (.len T.el93)<|.z .addI<|.z .mvI<|.z .leq<|.nil<|.cd (fun C4=>?_) (fun C4=>?_)
 ·
  obtain ⟨ab,ao,rfl,_⟩:=Cap.pos (n:=n) ok.m0 (by omega);refine .s<|.z .mvS<|.z .mvI<|.z (.sll i T.el93 T.sz3)<|.z .mvS<|.a' 97 (.cpG (m:=m) (i) T.el93 T.sz3 ok (Cap.sl (v:=.slice _ m vc) ok.r0) (fun u hu=>hy1 u (qC hu)) rfl) ?_;rintro _ U6 ⟨rfl,ok,_⟩;refine .nil ?_;refine .seq<|.t 9 mixed ?_;simp only [kZ,kM,kH,kY];refine .z .mvS<|.z .mvI<|.z .mvS<|.z (.len T.el93)<|.z .addI<|.z (.sll (i+m) T.el93 T.sz3)<|.z .mvS<|.z .mvI<|.z (.sll j T.el93 T.sz3)<|.nil ?_;refine .a' 107 (.cpG (m:=n-j) (i+m) T.el93 T.sz3 ok (Cap.cutS (n:=n) (c:=c) ok.m0 hjn) (fun u hu=>rep_one hx1 hy1 (kQ (qC hu))) rfl) ?_;rintro _ U7 ⟨rfl,ok,_⟩;refine .nil ?_;refine .seq<|?_;rw [rep_in hxl hym hle hjn (by omega)] at ok;have ok:=ok.dnR (m:=i+m+(n-j)) (by omega);rw [rep_cut hxl hym hle hjn] at ok;refine .r<|.z .mvS<|.z .mvI<|.z (.sll (i+m+(n-j)) T.el93 T.sz3)<|.a0' (.clrU (i:=i+m+(n-j)) T.el93 T.zr3 ok rfl) ?_;rintro _ U8 ⟨rfl,ok⟩;refine .nil ?_;refine .s<|.z .mvS<|.z .asS<|.nil<|.ret ⟨.slice (some ⟨ab,ao,none⟩) (i+m+(n-j)) c,Res.one rfl rfl,⟨_,c,rfl,ok.e0⟩⟩
 obtain ⟨zs,hzs,ok⟩:=ok.upR (m:=i+m+(n-j)) (by omega) (by omega);obtain ⟨ab,ao,rfl,_⟩:=Cap.pos (n:=i+m+(n-j)) ok.m0 (by omega);obtain ⟨vb,vo,rfl,_⟩:=Cap.pos (n:=m) ok.r0 (by omega);refine .skip<|.seq<|.s<|.z .mvS<|.z .mvI<|.z .mvS<|.z (.len T.el93)<|.z .addI<|.z (.sll (i+m) T.el93 T.sz3)<|.z .mvS<|?_;obtain ⟨csB,fzB,hB,hob,hfB⟩:=Cap.at0 (n:=i+m+(n-j)) ok.m0 (by omega) (by omega:i+m<i+m+(n-j));obtain ⟨csA,fzA,hA,hoa,hfA⟩:=Cap.at0 (j:=0) (n:=m) ok.r0 (by omega) (by omega);obtain ⟨csP,eP,hP⟩:=hpl ab ⟨_,_,_,rfl⟩;rw [hP] at hB;injection hB with hB;injection hB with hB1 hB2 hB3;subst hB1 hB2 hB3;refine .a' 119 (.ovl (tS:=93) (tR:=4) Tryz.func282 rfl (by decide) rfl rfl T.el93 T.sz3 ok hP hob (fzOk_zero _) hA (by omega) hfA (.inl rfl) (fun e=>hne rfl rfl e.symm) rfl (cutA_some (by omega)) rfl rfl) ?_;rintro _ U9 ⟨rfl,ok⟩;refine .z .not<|.nil<|.ct<|.seq<|.t 9 mixed ?_;simp only [kZ,kM,kH,kY];refine .z .mvS<|.z .mvI<|.z .mvS<|.z (.len T.el93)<|.z .addI<|.z (.sll (i+m) T.el93 T.sz3)<|.z .mvS<|.z .mvI<|.z (.sll j T.el93 T.sz3)<|.nil ?_;refine .a' 130 (.cpG (m:=n-j) (i+m) T.el93 T.sz3 ok (Cap.cutS (n:=n) (c:=c) (rep_pre (m:=i+m+(n-j)) hxl ok.m0 (by omega)) hjn) (fun u hu=>hx1 u (kQ (qC hu))) rfl) ?_;rintro _ U10 ⟨rfl,ok,_⟩;refine .nil ?_;refine .s<|.z .mvS<|.z .mvI<|.z (.sll i T.el93 T.sz3)<|.z .mvS<|.a' 135 (.cpG (m:=m) (i) T.el93 T.sz3 ok (Cap.sl (v:=.slice _ m vc) ok.r0) (fun u hu=>hy1 u (qC hu)) rfl) ?_;rintro _ U11 ⟨rfl,ok,_⟩;rw [rep_shift hxl hym hle hjn (by omega) (by omega)] at ok;refine .nil ?_;refine .s<|.z .mvS<|.z .asS<|.nil<|.ret ⟨.slice (some ⟨ab,ao,none⟩) (i+m+(n-j)) c,Res.one rfl rfl,⟨_,c,rfl,ok.e0⟩⟩
end
open Go Go.HL
section
variable {k:Int}
def lookE (b:Bool):Nat:=if b=true then 13 else 0
theorem lookE_t {b:Bool} (h:((lookE b:Nat):Int)≠0):b=true:=by unfold lookE at h;split at h<;>simp_all
theorem lookE_f {b:Bool} (h:¬((lookE b:Nat):Int)≠0):b=false:=by unfold lookE at h;split at h<;>simp_all
def pgsR (r:RA):Nat:=if r.in_=true then r.many else r.sure
theorem Pbs.rd {h:Heap} {Q:Nat->Prop} {bs:List (Int × RB)} {x:RB} {l:List UInt8} (b:Pbs h Q bs) (hg:mget bs k=some x) (hl:x.l=l):RdL h Q Q (match mget bs k with | some x=>x.a | none=>none,match mget bs k with | some x=>x.l.length | none=>0,match mget bs k with | some x=>x.c | none=>0) l:=by
 rw [hg];subst hl;exact b.get hg
def bsA (bs:List (Int × RB)) (k:Int):Option Addr:=match mget bs k with | some x=>x.a | none=>none
def bsN (bs:List (Int × RB)) (k:Int):Nat:=match mget bs k with | some x=>x.l.length | none=>0
def bsC (bs:List (Int × RB)) (k:Int):Nat:=match mget bs k with | some x=>x.c | none=>0
theorem bs_get {bs:List (Int × RB)} : (aget (bsE bs) k).getD (.N)=.slice (bsA bs k) (bsN bs k) (bsC bs k):=by
 unfold bsE;rw [aget_mp (f:=bsV)];unfold bsA bsN bsC bsV;cases mget bs k<;>rfl
theorem bs_is {bs:List (Int × RB)} : (aget (bsE bs) k).isSome=(mget bs k).isSome:=by
 unfold bsE;rw [aget_mp (f:=bsV)];cases mget bs k<;>rfl
theorem at_get {l:List (Int × Nat)} : (aget (atE l) k).getD (.J 0)=.J (((mget l k).getD 0:Nat):Int):=by
 unfold atE;rw [aget_mp (f:=iv')];cases mget l k<;>rfl
end
end Go.Proofs.YtfegfklipbnhjaaGreat
namespace Go.HL
open Go
theorem OpV.quoI {P:Program} {s:Slots} {h:Heap} {d:Option Tmp} {t u ty:TypeId} {x y:Operand} {pos:String} {af:Array Edge} {g:Option (Nat × Bool)} {a b:Nat} (hx:ev s x=.J (a:Nat):=by exact rfl) (hy:ev s y=.J (b:Nat):=by exact rfl) (hr:a<=9223372036854775807/\1<=b:=by omega):OpV P ⟨d,.binOp .quo t x y u,ty,pos,af,g⟩ s h (.J ((a / b:Nat):Int)):=by
 rw [Int.natCast_ediv];exact OpV.quo hx hy (by omega)
end Go.HL
namespace Go.Proofs.YtfegfklipbnhjaaGreat
open Go Go.HL
section
variable {G:Pgr} {h:Heap} {so:Nat} {r:RS G.α} {b:Bool} {k:Int}
def wthE (b:Bool):Nat:=if b=true then 0 else 10
theorem wthE_t (h:b=true):wthE b=0:=if_pos h
theorem wthE_f (h:¬b=true):wthE b=10:=if_neg h
theorem wthE_n (h:¬(wthE b:Int)≠0):b=true:=by
 cases b
 ·exact absurd (by decide) h
 ·rfl
theorem wthE_y (h:(wthE b:Int)≠0):b=false:=by
 cases b
 ·rfl
 ·exact absurd rfl h
theorem bsE_put {ov:List (Int × RB)} {x:RB} : aput (bsE ov) k (bsV x)=bsE (mput ov k x):=aput_mp
theorem bsE_del {ov:List (Int × RB)} : adel (bsE ov) k=bsE (mdel ov k):=adel_mp
theorem susable_any (hb:(sboxI G so r).p h) :
  Hc 92 #[.P so] h (fun v h'=>v=.J 0/\h'=h):=by
 refine HC.go Tryz.func92 11 ?_;refine .s<|.z .asI<|.nil<|.seq<|.block fun K0 hK0=>.s<|.z .mvP<|.z (.pEqS T.pt24)<|.z .asB<|.nil<|.cf<|.s<|.z .mvP<|.z .nil<|.z (.fa T.fd136_6)<|.z (.ldx T.ag4 hb)<|.z .asB<|.nil<|.cf<|.skip<|.end<|hK0 _ _<|.s<|.z .asI<|.nil<|.ret ⟨.J 0,Res.one rfl rfl,⟨rfl,rfl⟩⟩
theorem swithin_any {i:Bool} (hb:(sboxI G so r).p h) (hi:r.in_=i) :
  Hc 65 #[.P so] h (fun v h'=>v=.J (wthE i:Int)/\h'=h):=by
 refine HC.go Tryz.func65 14 ?_;refine .s<|.z .asI<|.nil<|.seq<|.s<|.z .mvP<|.k 5 .func (susable_any (G:=G) (r:=r) hb)<|.z .asI<|.nil<|.s<|.z .mvI<|.z .neq<|.nil<|.cf<|.skip<|.seq<|.s<|.z .mvP<|.z .nil<|.z (.fa T.fd136_3)<|.z (.ldx T.ag4 hb)<|.z .not<|.nil<|.cond (fun C1=>?_) (fun C1=>?_)
 ·
  refine .s<|.z .asI<|.nil<|.ret ⟨.J 10,Res.one rfl rfl,⟨by rw [wthE_f (by rw [<-hi];simpa using C1)];rfl,rfl⟩⟩
 refine .skip<|.s<|.z .asI<|.nil<|.ret ⟨.J 0,Res.one rfl rfl,⟨by rw [wthE_t (by rw [<-hi];simpa using C1)];rfl,rfl⟩⟩
theorem spages_any {i:Bool} {m k:Nat} (hb:(sboxI G so r).p h) (hp:(G.it r.p r.pF r.a).p h) (h1:r.in_=i) (h2:r.many=m) (h3:(G.sure r.a).length=k) :
  Hc 93 #[.P so] h (fun v h'=>v=.J ((if i=true then m else k:Nat):Int)/\h'=h):=by
 refine HC.go Tryz.func93 17 ?_;refine .s<|.z .asI<|.nil<|.seq<|.s<|.z .mvP<|.z .nil<|.z (.fa T.fd136_3)<|.z (.ldx T.ag4 hb)<|.nil<|.cond (fun C0=>?_) (fun C0=>?_)
 ·
  refine .s<|.z .mvP<|.z .nil<|.z (.fa T.fd136_4)<|.z (.fa T.fd130_0)<|.z (.ldx T.ag3 hb)<|.z .asI<|.nil<|.ret ⟨.J (r.many:Int),Res.one rfl rfl,⟨by rw [if_pos (h1▸C0),h2],rfl⟩⟩
 refine .skip<|.s<|.z .mvP<|.z .nil<|.z (.fa T.fd136_0)<|.z (.ldx T.ag132 hb)<|.k 16 (.inv (G.mPages _)) (G.cPages (F:=r.pF) (a:=r.a) hp)<|.z .asI<|.nil<|.ret ⟨.J ((G.sure r.a).length:Int),Res.one rfl rfl,⟨by rw [if_neg (by rw [<-h1,C0];decide),h3],rfl⟩⟩
theorem stold_any (hb:(sboxI G so r).p h) :
  Hc 83 #[.P so,.J 0] h (fun v h'=>v=.J 0/\h'=h):=by
 refine HC.go Tryz.func83 11 ?_;refine .s<|.z .asI<|.nil<|.seq<|.s<|.z .mvI<|.z .eql<|.nil<|.cf<|.skip<|.s<|.z .mvI<|.z .asI<|.nil<|.ret ⟨.J 0,Res.one rfl rfl,⟨rfl,rfl⟩⟩
theorem sread_any {E:Nat->Prop} {no:Int} {b:List UInt8} (ok:Hp h (starI [G.it r.p r.pF r.a,sboxI G so r,nowI r.om r.ov]).F [G.it r.p r.pF r.a,sboxI G so r,nowI r.om r.ov] [pbsI E r.ov] h) (hno:1<=no) (hbl:b.length<=1000000) (hb:r.in_=true->∃mb,r.om=some mb) (h1:r.in_=true->∀x,mget r.ov no=some x->x.l=b) (h2:r.in_=false\/mget r.ov no=none->(G.sure r.a)[(no-1).toNat]? = some b) :
  Hc 94 #[.P so,.J no] h (fun v h'=>∃F' a' x c,v=.tuple #[.slice x b.length c,.J 0]/\G.sure a'=G.sure r.a/\Hp h (starI [G.it r.p r.pF r.a,sboxI G so r,nowI r.om r.ov]).F [capI 1 5 (x,b.length,c) (b.map bv),G.it r.p F' a',sboxI G so r,nowI r.om r.ov] [] h'):=by
 obtain ⟨p,lg,z,in_,many,om,ov,sa,sc,svl,pF,ga⟩:=r;dsimp only at ok hb h1 h2⊢;refine HC.go Tryz.func94 40 ?_;refine .s<|.z .asS<|.z .asI<|.nil<|.seq<|.s<|.z .mvP<|.z .nil<|.z (.fa T.fd136_3)<|.z (.ldx T.ag4 ok.m1)<|.nil<|.cond (fun C0=>?_) (fun C0=>?_)
 ·
  obtain ⟨m,rfl⟩:=hb C0;have ok:=Hp.nowSome (ok.n2);refine .s<|.z .mvP<|.z .nil<|.z (.fa T.fd136_4)<|.z (.fa T.fd130_1)<|.z (.ldx T.ag128 ok.m2)<|.z .mvI<|.z (.lk2 (KV.int .i64) no (v:=.slice (bsA ov no) (bsN ov no) (bsC ov no)) T.mp128 (inB_iff T.in3) T.zr35 ok.m0 (by exact bs_get) (by exact bs_is))<|.z .mvU<|.z .ex<|.z .ex<|.z .asS<|.z .asB<|.nil<|.s<|.z .mvB<|.nil<|.cond (fun C1=>?_) (fun C1=>?_)
  ·
   obtain ⟨x,hx⟩:=Option.isSome_iff_exists.1 C1;have hxl:=h1 C0 x hx;have ok:=ok.d0 (rdI E E (bsA ov no,bsN ov no,bsC ov no) b) (Pbs.rd ok.r0 hx hxl) (fun _ h=>h.elim id id);obtain hbn:bsN ov no=b.length:=ok.r0.n;rw [hbn] at ok⊢;refine .s<|.z .mvS<|.c' 26 .func (bclone_any (a:=(bsA ov no)) (c:=(bsC ov no)) (l:=b) ok.r0 (by omega)) ?_;rintro _ U1 own;obtain ⟨ya1,yc1,rfl⟩:=own.formB;have ok:=ok.own own;refine .z .asS<|.z .asI<|.nil<|.ret ⟨.tuple #[.slice ya1 ((b).length) yc1,.J 0],Res.two rfl rfl rfl,⟨pF,ga,ya1,yc1,rfl,rfl,(ok.n1.n3.n3.n3).e0⟩⟩
  have h3:=h2 (.inr (by simpa using C1));refine .skip<|.s<|.z .mvP<|.z .nil<|.z (.fa T.fd136_0)<|.z (.ldx T.ag132 ok.m2)<|.z .mvI<|.c' 33 (.inv (G.mRead _)) (G.cRead (p:=p) (F:=pF) (a:=ga) (no:=no) (b:=b) (ok.n1).loc0 hno h3) ?_;rintro _ U2 ⟨Fg1,ag1,xg1,cg1,rfl,hsg1,q⟩;have ok:=(ok.n1).lift2 q;refine .z .mvU<|.z .ex<|.z .ex<|.z .asS<|.z .asI<|.nil<|.s<|.z .mvS<|.z .mvP<|.z .mvI<|.k 39 .func (stold_any (G:=G) (r:=(⟨p,lg,z,in_,many,(some m),ov,sa,sc,svl,Fg1,ag1⟩:RS G.α)) ok.m3)<|.z .asS<|.z .asI<|.nil<|.ret ⟨.tuple #[.slice xg1 b.length cg1,.J 0],Res.two rfl rfl rfl,⟨Fg1,ag1,xg1,cg1,rfl,hsg1,(ok.n2.n3.n3.n3).e0⟩⟩
 have h3:=h2 (.inl (by simpa using C0));refine .skip<|.s<|.z .mvP<|.z .nil<|.z (.fa T.fd136_0)<|.z (.ldx T.ag132 ok.m1)<|.z .mvI<|.c' 33 (.inv (G.mRead _)) (G.cRead (p:=p) (F:=pF) (a:=ga) (no:=no) (b:=b) (ok).loc0 hno h3) ?_;rintro _ U3 ⟨Fg2,ag2,xg2,cg2,rfl,hsg2,q⟩;have ok:=(ok).lift2 q;refine .z .mvU<|.z .ex<|.z .ex<|.z .asS<|.z .asI<|.nil<|.s<|.z .mvS<|.z .mvP<|.z .mvI<|.k 39 .func (stold_any (G:=G) (r:=(⟨p,lg,z,in_,many,om,ov,sa,sc,svl,Fg2,ag2⟩:RS G.α)) ok.m2)<|.z .asS<|.z .asI<|.nil<|.ret ⟨.tuple #[.slice xg2 b.length cg2,.J 0],Res.two rfl rfl rfl,⟨Fg2,ag2,xg2,cg2,rfl,hsg2,(ok).e0⟩⟩
theorem sput_any {mb:Nat} {a:Option Addr} {c:Nat} {l:List UInt8} {no:Nat} (ok:Hp h (starI [sboxI G so r,mapI (Value.int .i64) mb (bsE r.ov)]).F [sboxI G so r,mapI (Value.int .i64) mb (bsE r.ov)] [] h) (hm:r.om=some mb) :
  Hc 66 #[.pointer (some ⟨so,4,none⟩),.J (no:Int),.slice a l.length c] h (fun v h'=>v=.tuple #[]/\Hp h (starI [sboxI G so r,mapI (Value.int .i64) mb (bsE r.ov)]).F [sboxI G so ({ r with many:=max r.many no,ov:=mput r.ov (no:Int) ⟨a,c,l⟩ }),mapI (Value.int .i64) mb (bsE (mput r.ov (no:Int) ⟨a,c,l⟩))] [] h'):=by
 obtain ⟨p,lg,z,in_,many,om,ov,sa,sc,svl,pF,ga⟩:=r;dsimp only at ok hm⊢;subst hm;refine HC.go Tryz.func66 21 ?_;refine .s<|.z .mvP<|.z .nil<|.z (.fa T.fd130_1)<|.z (.ldx T.ag128 ok.m0)<|.z .mvI<|.z .mvS<|.ur' (.mpu (KV.int .i64) V.sbI (no:Int) (v:=.slice a l.length c) T.mp128 (inB_iff T.in3) ok.n1) ?_;rintro U1 ok;rw [show (Value.slice a l.length c:Value)=bsV ⟨a,c,l⟩ from rfl,bsE_put] at ok;refine .nil ?_;refine .r<|.z .mvP<|.z .mvP<|.z .nil<|.z (.fa T.fd130_0)<|.z (.ldx T.ag3 ok.m1)<|.z .mvI<|.z .maxn<|.z .nil<|.z (.fa T.fd130_0)<|.ur' (.stI T.sz3 ok.n1) ?_;rintro U2 ⟨ok,cg⟩;refine .nil ?_;refine .end<|⟨.tuple #[],Res.none rfl,⟨rfl,ok⟩⟩
theorem bsE_some {l:List (Int × RB)} {i:Nat} {p:Int × Value} (h:(bsE l)[i]? = some p):∃q,l[i]? = some q/\(q.1,bsV q.2)=p:=by
 unfold bsE at h;rw [List.getElem?_map] at h;cases hq:l[i]? with
 | none=>rw [hq] at h;cases h
 | some q=>rw [hq] at h;injection h with h;exact ⟨q,rfl,h⟩
theorem bsE_erase {l:List (Int × RB)} {i:Nat} : (bsE l).eraseIdx i=bsE (l.eraseIdx i):=(map_erase _ _ _).symm
theorem erase_memR {td:List (Int × RB)} {i:Nat} {p q:Int × RB} (hp:p∈td) (hq:td[i]? = some q) (hne:p≠q):p∈td.eraseIdx i:=by
 rw [List.mem_eraseIdx_iff_getElem?];obtain ⟨j,hj⟩:=List.mem_iff_getElem?.1 hp;refine ⟨j,fun e=>?_,hj⟩;subst e;rw [hj] at hq;injection hq with hq;exact hne hq
theorem filt_del {L:List (Int × RB)} {c:Int} (h:c<k):(mdel L k).filter (fun p=>decide (p.1<=c))=L.filter fun p=>decide (p.1<=c):=by
 unfold mdel;rw [List.filter_filter];refine List.filter_congr fun p _=>?_;by_cases h1:p.1<=c
 ·have:p.1≠k:=by omega
  simp [h1,this]
 ·simp [h1]
theorem scut_any {mb n:Nat} (ok:Hp h (starI [sboxI G so r,mapI (Value.int .i64) mb (bsE r.ov)]).F [sboxI G so r,mapI (Value.int .i64) mb (bsE r.ov)] [] h) (hm:r.om=some mb) :
  Hc 99 #[.pointer (some ⟨so,4,none⟩),.J (n:Int)] h (fun v h'=>v=.tuple #[]/\Hp h (starI [sboxI G so r,mapI (Value.int .i64) mb (bsE r.ov)]).F [sboxI G so ({ r with many:=n,ov:=r.ov.filter fun p=>decide (p.1<=(n:Int)) }),mapI (Value.int .i64) mb (bsE (r.ov.filter fun p=>decide (p.1<=(n:Int))))] [] h'):=by
 obtain ⟨p,lg,z,in_,many,om,ov,sa,sc,svl,pF,ga⟩:=r;dsimp only at ok hm⊢;subst hm;refine HC.go Tryz.func99 26 ?_;refine .seq<|.s<|.z .mvP<|.z .nil<|.z (.fa T.fd130_1)<|.z (.ldx T.ag128 ok.m0)<|.a' 9 (.rng T.mp128 ok.n1) ?_;rintro _ U1 ⟨ib1,rfl,ok⟩;refine .nil ?_;refine .block fun K0 hK0=>.loop (fun m s hh=>∃(L td:List (Int × RB)),Has s [(0,.pointer (some ⟨so,4,none⟩)),(1,.J (n:Int)),(9,.P ib1)]/\Hp h (starI [sboxI G so ((⟨p,lg,z,in_,many,some mb,ov,sa,sc,svl,pF,ga⟩:RS G.α)),mapI (Value.int .i64) mb (bsE ov)]).F [itI (Value.int .i64) ib1 mb (bsE L) (bsE td),boxI so 136 [.iface G.tid (.P p),.pointer lg,.J (z:Int),.bool in_,.J (many:Int),.map (some mb),.slice sa svl.length sc,.bool false]] [] hh/\L.filter (fun p:Int × RB=>decide (p.1<=(n:Int)))=ov.filter (fun p:Int × RB=>decide (p.1<=(n:Int)))/\(∀p∈L,p.1<=(n:Int)\/p∈td)/\m=td.length) ?_ ?_
 ·exact ⟨_,ov,ov,⟨rfl,rfl,rfl,trivial⟩,ok.n1.n1,rfl,fun p h=>.inr h,rfl⟩
 rintro _ _ U2 ⟨L,td,hs,ok,hLf,hLt,rfl⟩ J0 hJ0;refine .frame hs fun τ=>?_;refine .s<|.a' 10 (.nxt ok) ?_;rintro _ U3 (⟨hnil,rfl,ok⟩ | ⟨ipq1,pq1,hpq1,rfl,ok⟩)
 ·
  have htd:td=[]:=by simpa [bsE] using hnil
  have hLe:L=ov.filter (fun p:Int × RB=>decide (p.1<=(n:Int))):=by rw [<-hLf];exact (List.filter_eq_self.2 fun p hp=>decide_eq_true ((hLt p hp).resolve_right (by rw [htd];simp))).symm
  have ok:=ok.itm;rw [hLe] at ok;refine .z .ex<|.nil<|.seq<|.cf<|.exit<|hK0 _ _<|.r<|.z .mvP<|.z .mvI<|.z .nil<|.z (.fa T.fd130_0)<|.ur' (.stI T.sz3 ok.n1) ?_;rintro U4 ⟨ok,cg⟩;refine .nil ?_;refine .end<|⟨.tuple #[],Res.none rfl,⟨rfl,ok⟩⟩
 obtain ⟨q,hq,hpe⟩:=bsE_some hpq1;have hk1:pq1.1=q.1:=by rw [<-hpe]
 rw [bsE_erase] at ok;refine .z .ex<|.nil<|.seq<|.ct<|.skip<|.block fun K1 hK1=>.s<|.z (.ent (ok.m0).2)<|.z .ex<|.z .asI<|.nil<|.s<|.z .mvI<|.z .mvI<|.z .gtr<|.nil<|.cd (fun C1=>?_) (fun C1=>?_)
 ·
  refine .r<|.z .mvP<|.z .nil<|.z (.fa T.fd130_1)<|.z (.ldx T.ag128 ok.m1)<|.z .mvI<|.a0' (.delC (KV.int .i64) T.mp128 (inB_iff T.in3) ok) ?_;rintro _ U5 ⟨rfl,ok⟩;rw [hk1,bsE_del] at ok;refine .nil ?_;refine .end<|hK1 _ _<|.end<|hJ0 _ _ _ ⟨mdel L q.1,td.eraseIdx ipq1,⟨rfl,rfl,rfl,trivial⟩,ok.n1.n1,by rw [filt_del (by omega)];exact hLf,fun p hp=>(hLt p (List.mem_filter.1 hp).1).imp id fun h=>erase_memR h hq (fun e=>by have:=(List.mem_filter.1 hp).2;rw [e] at this;simp at this),rfl⟩ (by rw [List.length_eraseIdx_of_lt (List.getElem?_eq_some_iff.1 hq).1];have:=(List.getElem?_eq_some_iff.1 hq).1;omega)
 have ok:=(ok).itc;refine .skip<|.end<|hK1 _ _<|.end<|hJ0 _ _ _ ⟨L,td.eraseIdx ipq1,⟨rfl,rfl,rfl,trivial⟩,ok.n1.n1,hLf,fun p hp=>(hLt p hp).elim .inl fun h=>(Classical.em (p=q)).elim (fun e=>.inl (by rw [e];omega)) fun e=>.inr (erase_memR h hq e),rfl⟩ (by rw [List.length_eraseIdx_of_lt (List.getElem?_eq_some_iff.1 hq).1];have:=(List.getElem?_eq_some_iff.1 hq).1;omega)
end
open Go Go.HL
def i64N (z:Int):Prop:=-9223372036854775808<=z/\z<=9223372036854775807
structure HdIn (H:Hd):Prop where
 a:i64N H.size
 b:i64N H.pages
 c:i64N H.free
 d:i64N H.many
 e:i64N H.cookie
 f:i64N H.version
theorem encB_any {h:Heap} {z0 z1 z2 z3 z4 z5:Int} (h0:i64N z0) (h1:i64N z1) (h2:i64N z2) (h3:i64N z3) (h4:i64N z4) (h5:i64N z5) (hc:¬ChkP ⟨z0,z1,z2,z3,z4,z5⟩):Hc 98 #[.agg #[.J z0,.J z1,.J z2,.J z3,.J z4,.J z5]] h (fun v h'=>v=.tuple #[.N,.J 1]/\Ext h h'):=by
 have ok:=Hp.nil h none_;refine HC.go Tryz.func98 12 ?_;refine .s<|.a' 1 (.bxA (cs:=[.J z0,.J z1,.J z2,.J z3,.J z4,.J z5]) ok) ?_;rintro _ U1 ⟨pb1,rfl,ok,xe⟩;refine .z .asS<|.z .asI<|.nil<|.seq<|.s<|.z (.ldb T.ag97 ok.m0 T.sz97)<|.c' 6 .func (check_any (z0:=z0) (z1:=z1) (z2:=z2) (z3:=z3) (z4:=z4) (z5:=z5) h0 h1 h2 h3 h4 h5) ?_;rintro _ U2 ⟨rfl,hx⟩;have ok:=ok.ext hx;refine .z .asI<|.nil<|.s<|.z .mvI<|.z .neq<|.nil<|.cd (fun C0=>?_) (fun C0=>?_)
 ·
  refine .s<|.z .mvI<|.z .asS<|.z .asI<|.nil<|.ret ⟨.tuple #[.N,.J (chkC ⟨z0,z1,z2,z3,z4,z5⟩:Int)],Res.two rfl rfl rfl,⟨by rw [chk_n hc];rfl,ok.chg⟩⟩
 exact absurd (by rw [chk_n hc];decide) C0
theorem encG_any {h:Heap} {n0 n1 n2 n3 n4 n5:Nat} (h0:n0<4294967296) (h1:n1<4294967296) (h2:n2<4294967296) (h3:n3<4294967296) (h4:n4<4294967296) (h5:n5<4294967296) (hc:ChkP ⟨((n0:Nat):Int),((n1:Nat):Int),((n2:Nat):Int),((n3:Nat):Int),((n4:Nat):Int),((n5:Nat):Int)⟩):Hc 98 #[.agg #[.J (n0:Int),.J (n1:Int),.J (n2:Int),.J (n3:Int),.J (n4:Int),.J (n5:Int)]] h (fun v h'=>∃w,v=.tuple #[w,.J 0]/\Own h h' 1 5 w ((hdB [n0,n1,n2,n3,n4,n5]).map bv)):=by
 have ok:=Hp.nil h none_;refine HC.go Tryz.func98 12 ?_;refine .s<|.a' 1 (.bxA (cs:=[.J (n0:Int),.J (n1:Int),.J (n2:Int),.J (n3:Int),.J (n4:Int),.J (n5:Int)]) ok) ?_;rintro _ U1 ⟨pb1,rfl,ok,xe⟩;refine .z .asS<|.z .asI<|.nil<|.seq<|.s<|.z (.ldb T.ag97 ok.m0 T.sz97)<|.c' 6 .func (check_any (z0:=(n0:Int)) (z1:=(n1:Int)) (z2:=(n2:Int)) (z3:=(n3:Int)) (z4:=(n4:Int)) (z5:=(n5:Int)) (by omega) (by omega) (by omega) (by omega) (by omega) (by omega)) ?_;rintro _ U2 ⟨rfl,hx⟩;have ok:=ok.ext hx;refine .z .asI<|.nil<|.s<|.z .mvI<|.z .neq<|.nil<|.cd (fun C0=>?_) (fun C0=>?_)
 ·
  exact absurd (by rw [chk_y hc];rfl) C0
 refine .skip<|.s<|.z (.ldb T.ag97 ok.m0 T.sz97)<|.c' 11 .func (hbytes_any (n0:=n0) (n1:=n1) (n2:=n2) (n3:=n3) (n4:=n4) (n5:=n5) (by omega) (by omega) (by omega) (by omega) (by omega) (by omega)) ?_;rintro _ U3 own;obtain ⟨ya1,yc1,rfl⟩:=own.formB;have ok:=ok.own own;refine .z .asS<|.z .asI<|.nil<|.ret ⟨.tuple #[.slice ya1 ((hdB [n0,n1,n2,n3,n4,n5]).length) yc1,.J 0],Res.two rfl rfl rfl,⟨_,rfl,(ok).toOwn⟩⟩
theorem encN_any {h:Heap} {H:Hd} (hr:HdIn H):Hc 98 #[H.val] h (fun v h'=>(¬ChkP H/\v=.tuple #[.N,.J 1]/\Ext h h')\/(ChkP H/\∃w,v=.tuple #[w,.J 0]/\Own h h' 1 5 w (H.enc.map bv))):=by
 by_cases hc:ChkP H
 ·have h0:=okZ_cases hc.1;have h1:=hc.2.1;have h2:=hc.2.2.1;have h3:=hc.2.2.2;obtain ⟨a,b,c,d,e,f⟩:=H;simp only at h0 h1 h2 h3;obtain ⟨a,rfl⟩:∃n:Nat,a=(n:Int):=⟨a.toNat,by omega⟩;obtain ⟨b,rfl⟩:∃n:Nat,b=(n:Int):=⟨b.toNat,by omega⟩;have hcb:0<=c/\c<4294967296:=by
   by_cases h:d=0
   ·have:=h2.2.2.1 h;omega
   ·have:=h2.2.2.2 (by omega);omega
  obtain ⟨c,rfl⟩:∃n:Nat,c=(n:Int):=⟨c.toNat,by omega⟩;obtain ⟨d,rfl⟩:∃n:Nat,d=(n:Int):=⟨d.toNat,by omega⟩;obtain ⟨e,rfl⟩:∃n:Nat,e=(n:Int):=⟨e.toNat,by omega⟩;obtain ⟨f,rfl⟩:∃n:Nat,f=(n:Int):=⟨f.toNat,by omega⟩;have hdb:d<4294967296:=by have:=h1.2.1;have:=h2.2.1;omega
  have heb:e<4294967296:=by have:=h3.1.2;omega
  have hfb:f<4294967296:=by have:=h3.2.2;omega
  exact (encG_any (n0:=a) (n1:=b) (n2:=c) (n3:=d) (n4:=e) (n5:=f) (by omega) (by omega) (by omega) hdb heb hfb hc).mono fun v h' q=>.inr ⟨hc,q⟩
 ·exact (encB_any hr.a hr.b hr.c hr.d hr.e hr.f hc).mono fun v h' q=>.inl ⟨hc,q⟩
section
variable {no:Int} {H:Hd} {b:List UInt8} {x:RB}
section
variable {G:Pgr} {r:RS G.α} {w:St} (V:SVw G r w)
include V
theorem SVw.pgs:(if r.in_=true then r.many else (G.sure r.a).length)=w.pgs.length:=by
 unfold St.pgs;rw [V.in_];split
 ·rename_i h;exact (V.now h).2.len.symm
 ·rw [V.sure]
theorem SVw.pgk:PgsK w.z w.pgs:=by
 unfold St.pgs;split
 ·exact V.ok.now
 ·exact V.ok.sure
theorem SVw.zc:w.z=256\/w.z=512\/w.z=1024\/w.z=2048\/w.z=4096:=okSz_c V.ok.z
theorem SVw.few:w.pgs.length<=65536:=by
 have h1:=V.pgk.many;have h2:=V.zc;have h3:w.pgs.length*256<=w.pgs.length*w.z:=Nat.mul_le_mul_left _ (by omega);omega
theorem SVw.nowfew:w.now.length<=65536:=by
 have h1:=V.ok.now.many;have h2:=V.zc;have h3:w.now.length*256<=w.now.length*w.z:=Nat.mul_le_mul_left _ (by omega);omega
theorem SVw.many (h:w.in_=true):r.many=w.now.length:=(V.now h).2.len.symm
theorem SVw.page (h1:1<=no) (h2:no<=(w.pgs.length:Int)):(w.pgs.getD (no-1).toNat []).length=w.z/\(r.in_=true->∃mb,r.om=some mb)/\(r.in_=true->∀x,mget r.ov no=some x->x.l=w.pgs.getD (no-1).toNat [])/\(r.in_=false\/mget r.ov no=none->(G.sure r.a)[(no-1).toNat]? = some (w.pgs.getD (no-1).toNat [])):=by
 have hi:(no-1).toNat<w.pgs.length:=by omega
 have hk:(((no-1).toNat:Nat):Int)+1=no:=by omega
 have hg:w.pgs[(no-1).toNat]? = some (w.pgs.getD (no-1).toNat []):=by rw [List.getD_eq_getElem?_getD,List.getElem?_eq_getElem hi];rfl
 have hin:=V.in_;refine ⟨V.pgk.len _ (List.mem_of_getElem? hg),fun h=>(V.now (by rw [<-hin];exact h)).1,fun h x hx=>?_,fun h=>?_⟩
 ·have hw:w.in_=true:=by rw [<-hin];exact h
  have hn:=(V.now hw).2;have hp:w.pgs=w.now:=by unfold St.pgs;rw [if_pos hw]
  rw [hp] at hg hi⊢;have:=hn.sm (no-1).toNat x (by rw [<-hn.len];exact hi) (by rw [hk];exact hx);rw [hg] at this;injection this with this;exact this.symm
 ·rw [V.sure];cases hw:w.in_ with
  | false=>
   have hp:w.pgs=w.sure:=by unfold St.pgs;rw [if_neg (by rw [hw];decide)]
   rw [hp] at hg⊢;exact hg
  | true=>
   have hn:=(V.now hw).2;have hp:w.pgs=w.now:=by unfold St.pgs;rw [if_pos hw]
   rw [hp] at hg hi⊢;have:=hn.nn (no-1).toNat (by rw [<-hn.len];exact hi) (by rw [hk];exact h.elim (fun h=>by rw [hin,hw] at h;cases h) id);rw [<-this.2];exact hg
theorem SVw.pg {F:Nat->Prop} {a:G.α} (h:G.sure a=G.sure r.a):SVw G { r with pF:=F,a:=a } w:=⟨V.z,V.in_,h.trans V.sure,V.now,V.out,V.sv,V.ok⟩
theorem SVw.begin (hi:w.in_=false) {m:Nat} : SVw G { r with in_:=true,many:=(G.sure r.a).length,om:=some m,ov:=[] } { w with in_:=true,now:=w.sure,saves:=[] }:=by
 have ho:=V.out hi;refine ⟨V.z,rfl,V.sure,fun _=>⟨⟨m,rfl⟩,by rw [V.sure];exact VW.begin⟩,fun h=>(by cases h),?_,⟨V.ok.z,V.ok.sure,V.ok.sure,by simp,by simp,fun h=>by cases h⟩⟩;show All2 _ r.sv [];rw [ho.2.2.2];exact All2.nil
theorem SVw.put (hi:w.in_=true) {no:Nat} {x:RB} {now':List (List UInt8)} {many':Nat} {ov':List (Int × RB)} (hv:VW RB.l ov' many' w.sure now') (hk:PgsK w.z now'):SVw G { r with many:=many',ov:=ov' } { w with now:=now' }:=
 ⟨V.z,V.in_,V.sure,fun h=>⟨(V.now h).1,hv⟩,fun h=>(by rw [hi] at h;cases h),V.sv,⟨V.ok.z,V.ok.sure,hk,V.ok.saves,V.ok.few,fun h=>by rw [hi] at h;cases h⟩⟩
theorem SVw.write (hi:w.in_=true) {no:Nat} (h2:2<=no) (h3:no<=w.now.length+1) (h4:w.now≠[]) (h5:x.l.length=w.z) (h6:no*w.z<=16777216):SVw G { r with many:=max r.many no,ov:=mput r.ov (no:Int) x } { w with now:=wth w.now no x.l }:=by
 have hn:=(V.now hi).2;exact V.put hi (no:=no) (x:=x) (hn.put (by omega) (by rw [<-hn.len];exact h3)) (V.ok.now.wth h5 (by omega) h3 h6 (fun h=>h.elim (fun h=>by omega) fun h=>absurd h h4))
theorem SVw.setHead (hi:w.in_=true) {n:Nat} (hc:ChkP H) (hz:H.size=(w.z:Int)) (hn:H.pages=(n:Int)) (hp:n<=max 1 w.now.length) (hx:x.l=pg1 w.z H):SVw G { r with many:=n,ov:=(mput r.ov 1 x).filter fun p=>decide (p.1<=(n:Int)) } { w with now:=(Go.Proofs.YtfegfklipbnhjaaGreat.wth w.now 1 (pg1 w.z H)).take n }:=by
 have hv:=(V.now hi).2;have h1:=hv.put (no:=1) (x:=x) (qR _) (by omega);have h2:=h1.cut (n:=n) (by rw [<-hv.len,Nat.max_comm];exact hp);rw [hx] at h2;have hz2:=V.zc;exact V.put hi (no:=1) (x:=x) h2 ((V.ok.now.wth (pg1_len V.ok.z) (qR _) (by omega) (by omega) (fun _=>hok_pg1 hc hz)).take n)
end
theorem _root_.Go.HL.Hp.putNew {h0 h:Heap} {D F:Nat->Prop} {M R:List Itm} {a:Itm} (ok:Hp h0 D (a::M) R h) (hf:∀j,D j->F j):∀j,a.F j->F j\/h0.size<=j:=fun j hj=>((ok.m a qX).2 j hj).2.imp (hf j) id
theorem Svs.mono {h:Heap} {E E':Nat->Prop} {sv:List RSv} (hE:∀j,E j->E' j) (b:Svs h E sv):Svs h E' sv:=fun x hx=>⟨(b x hx).1,hE _ (b x hx).2.1,(b x hx).2.2.mono hE⟩
theorem Pbs.filt {h:Heap} {E:Nat->Prop} {bs:List (Int × RB)} {f:Int × RB->Bool} (b:Pbs h E bs):Pbs h E (bs.filter f):=fun x hx=>b x (List.mem_filter.1 hx).1
section
variable {w:St}
theorem St.read_no (h:no<1\/(w.pgs.length:Int)<no):w.read no=([],1):=if_pos h
theorem St.read_ok (h1:1<=no) (h2:no<=(w.pgs.length:Int)):w.read no=(w.pgs.getD (no-1).toNat [],0):=if_neg (by omega)
theorem St.head_0 (h:w.pgs.length=0):w.head=hd0:=if_pos (qW h)
theorem St.head_n (h:w.pgs.length≠0):w.head = { (decN (w.pgs.getD 0 [])).1 with size:=(w.z:Int),pages:=(w.pgs.length:Int) }:=by
 unfold St.head;rw [if_neg (fun e=>h (by rw [e];rfl))];rw [headD_get,List.getD_eq_getElem?_getD]
theorem St.begin_10 (h:w.in_=true):w.begin_=(w,10):=if_pos h
theorem St.begin_0 (h:w.in_=false):w.begin_=({ w with in_:=true,now:=w.sure,saves:=[] },0):=by unfold St.begin_;rw [if_neg (by rw [h];decide)]
theorem St.write_10 (h:w.in_=false):w.write no b=(w,10):=if_pos h
theorem St.write_1 (h:w.in_=true) (h2:no<2\/(w.now.length:Int)+1<no\/w.now=[]\/b.length≠w.z):w.write no b=(w,1):=by unfold St.write;rw [if_neg (by rw [h];decide),if_pos h2]
theorem St.write_5 (h:w.in_=true) (h2:¬(no<2\/(w.now.length:Int)+1<no\/w.now=[]\/b.length≠w.z)) (h3:1048576<no\/16777216<no*(w.z:Int)):w.write no b=(w,5):=by unfold St.write;rw [if_neg (by rw [h];decide),if_neg h2,if_pos h3]
theorem St.write_0 {no:Nat} (h:w.in_=true) (h2:¬((no:Int)<2\/(w.now.length:Int)+1<(no:Int)\/w.now=[]\/b.length≠w.z)) (h3:¬(1048576<(no:Int)\/16777216<(no:Int)*(w.z:Int))):w.write (no:Int) b=({ w with now:=wth w.now no b },0):=by unfold St.write;rw [if_neg (by rw [h];decide),if_neg h2,if_neg h3];rfl
theorem St.setHead_10 (h:w.in_=false):w.setHead H=(w,10):=if_pos h
theorem St.setHead_1 (h:w.in_=true) (h2:¬ChkP H\/H.size≠(w.z:Int)\/max 1 (w.now.length:Int)<H.pages):w.setHead H=(w,1):=by unfold St.setHead;rw [if_neg (by rw [h];decide),if_pos h2]
theorem St.setHead_0 {n:Nat} (h:w.in_=true) (h2:¬(¬ChkP H\/H.size≠(w.z:Int)\/max 1 (w.now.length:Int)<H.pages)) (hn:H.pages=(n:Int)):w.setHead H=({ w with now:=(wth w.now 1 (pg1 w.z H)).take n },0):=by unfold St.setHead;rw [if_neg (by rw [h];decide),if_neg h2,hn];rfl
end
end
open Go Go.HL
section
variable {G:Pgr} {h:Heap} {so:Nat} {F:Nat->Prop} {w:St}
theorem sSize_any (hd:(dsI G so F w).p h) :
  Hc 39 #[.P so] h (fun v h'=>v=.J (w.z:Int)/\h'=h):=by
 obtain ⟨r,V,hb,hp⟩:=ds_box hd;refine HC.go Tryz.func39 9 ?_;refine .s<|.z .asI<|.nil<|.seq<|.s<|.z .mvP<|.z (.pEqS T.pt24)<|.nil<|.cf<|.skip<|.s<|.z .mvP<|.z .nil<|.z (.fa T.fd136_2)<|.z (.ldx T.ag3 hb)<|.z .asI<|.nil<|.ret ⟨.J (r.z:Int),Res.one rfl rfl,⟨by rw [V.z],rfl⟩⟩
theorem sIn_any (hd:(dsI G so F w).p h) :
  Hc 100 #[.P so] h (fun v h'=>v=.bool w.in_/\h'=h):=by
 obtain ⟨r,V,hb,hp⟩:=ds_box hd;refine HC.go Tryz.func100 12 ?_;refine .s<|.z .asB<|.nil<|.s<|.z .mvP<|.k 4 .func (susable_any (G:=G) (r:=r) hb)<|.z .eql<|.z .mvB<|.z .mvP<|.z .nil<|.z (.fa T.fd136_3)<|.z (.ldx T.ag4 hb)<|.z .pkt<|.z .asB<|.nil<|.ret ⟨.bool r.in_,Res.one rfl rfl,⟨by rw [V.in_],rfl⟩⟩
theorem sRead_any {no:Int} (ok:Hp h F [dsI G so F w] [] h) :
  Hc 86 #[.P so,.J no] h (fun v h'=>∃F' x c,v=.tuple #[.slice x (w.read no).1.length c,.J ((w.read no).2:Int)]/\Hp h F [capI 1 5 (x,(w.read no).1.length,c) ((w.read no).1.map bv),dsI G so F' w] [] h'):=by
 obtain ⟨r,E,V,ok,hf,he⟩:=ds_open ok;have hzc:=V.zc;have hfew:=V.few;have hnf:=V.nowfew;obtain ⟨p,lg,z,in_,many,om,ov,sa,sc,svl,pF,ga⟩:=r;dsimp only at ok hf;generalize stF G so _=DF at ok hf;obtain rfl:z=w.z:=V.z;obtain rfl:in_=w.in_:=V.in_;have hpgs:(if w.in_=true then many else (G.sure ga).length)=w.pgs.length:=V.pgs;have ok:Hp h DF [boxI so 136 [.iface G.tid (.P p),.pointer lg,.J (w.z:Int),.bool w.in_,.J (many:Int),.map om,.slice sa svl.length sc,.bool false],nowI om ov,capI 2 130 (sa,svl.length,sc) (svl.flatMap RSv.cells),G.it p pF ga] [pbsI E ov,svsI E svl] h:=ok;have hsz0:=ok.chg.size;refine HC.go Tryz.func86 25 ?_;refine .s<|.z .asS<|.z .asI<|.nil<|.seq<|.s<|.z .mvP<|.k 8 .func (susable_any (G:=G) (r:=(⟨p,lg,w.z,w.in_,many,om,ov,sa,sc,svl,pF,ga⟩:RS G.α)) ok.m0)<|.z .asI<|.nil<|.s<|.z .mvI<|.z .neq<|.nil<|.cf<|.skip<|.seq<|.s<|.z .mvI<|.z .lss<|.z .mvB<|.sd (fun G14=>?_) (fun G14=>?_)
 ·
  refine .y<|.y<|.y<|.y<|.z .pkt<|.nil<|.ct<|.s<|.z .asS<|.z .asI<|.nil ?_;have ok:=ok.nilC (k:=1) (e:=5);refine .ret ⟨.tuple #[.N,.J 1],Res.two rfl rfl rfl,⟨_,_,_,by rw [St.read_no (by omega)];rfl,by rw [St.read_no (by omega)];exact Hp.n1 (ds_close (r':=(⟨p,lg,w.z,w.in_,many,om,ov,sa,sc,svl,pF,ga⟩:RS G.α)) (E':=E) (ok.n4.n4.n4.n4.f1.f1) hf (fun j hj=>.inl (he j hj)) V)⟩⟩
 refine .z .mvI<|.z .mvP<|.k 17 .func (spages_any (G:=G) (r:=(⟨p,lg,w.z,w.in_,many,om,ov,sa,sc,svl,pF,ga⟩:RS G.α)) (i:=w.in_) (m:=many) (k:=(G.sure ga).length) ok.m0 ok.m3 rfl rfl rfl)<|.z .gtr<|.z .pkf<|.nil<|.cd (fun C1=>?_) (fun C1=>?_)
 ·
  refine .s<|.z .asS<|.z .asI<|.nil ?_;have ok:=ok.nilC (k:=1) (e:=5);refine .ret ⟨.tuple #[.N,.J 1],Res.two rfl rfl rfl,⟨_,_,_,by rw [St.read_no (by omega)];rfl,by rw [St.read_no (by omega)];exact Hp.n1 (ds_close (r':=(⟨p,lg,w.z,w.in_,many,om,ov,sa,sc,svl,pF,ga⟩:RS G.α)) (E':=E) (ok.n4.n4.n4.n4.f1.f1) hf (fun j hj=>.inl (he j hj)) V)⟩⟩
 obtain ⟨hbl,hb,h1,h2⟩:=V.page (no:=no) (by omega) (by omega);refine .skip<|.s<|.z .mvP<|.z .mvI<|.c' 22 .func (sread_any (G:=G) (r:=(⟨p,lg,w.z,w.in_,many,om,ov,sa,sc,svl,pF,ga⟩:RS G.α)) (E:=E) (no:=no) (b:=(w.pgs.getD (no-1).toNat [])) ((Hp.lc3 (ok.n1.n1.n3)).e1) (by omega) (by omega) hb h1 h2) ?_;rintro _ U1 ⟨Fs1,as1,xs1,cs1,rfl,hss1,q⟩;have ok:=Hp.lf3 (ok.n1.n1.n3) q;refine .z .ex<|.z .ex<|.z .asS<|.z .asI<|.nil<|.ret ⟨.tuple #[.slice xs1 ((w.pgs.getD (no-1).toNat []).length) cs1,.J 0],Res.two rfl rfl rfl,⟨_,_,_,by rw [St.read_ok (by omega) (by omega)];rfl,by rw [St.read_ok (by omega) (by omega)];exact Hp.n1 (ds_close (r':=(⟨p,lg,w.z,w.in_,many,om,ov,sa,sc,svl,Fs1,as1⟩:RS G.α)) (E':=E) (ok.n1.n4.n4.n4.f1.f1) hf (fun j hj=>.inl (he j hj)) (V.pg hss1))⟩⟩
theorem sHead_any (ok:Hp h F [dsI G so F w] [] h) :
  Hc 48 #[.P so] h (fun v h'=>∃F',v=w.head.val/\Hp h F [dsI G so F' w] [] h'):=by
 obtain ⟨r,E,V,ok,hf,he⟩:=ds_open ok;have hzc:=V.zc;have hfew:=V.few;have hnf:=V.nowfew;obtain ⟨p,lg,z,in_,many,om,ov,sa,sc,svl,pF,ga⟩:=r;dsimp only at ok hf;generalize stF G so _=DF at ok hf;obtain rfl:z=w.z:=V.z;obtain rfl:in_=w.in_:=V.in_;have hpgs:(if w.in_=true then many else (G.sure ga).length)=w.pgs.length:=V.pgs;have ok:Hp h DF [boxI so 136 [.iface G.tid (.P p),.pointer lg,.J (w.z:Int),.bool w.in_,.J (many:Int),.map om,.slice sa svl.length sc,.bool false],nowI om ov,capI 2 130 (sa,svl.length,sc) (svl.flatMap RSv.cells),G.it p pF ga] [pbsI E ov,svsI E svl] h:=ok;have hsz0:=ok.chg.size;refine HC.go Tryz.func48 38 ?_;refine .s<|.a' 2 (.alA T.zr97 ok) ?_;rintro _ U1 ⟨pb1,rfl,ok,xe⟩;refine .nil ?_;refine .seq<|.s<|.z .mvP<|.k 8 .func (susable_any (G:=G) (r:=(⟨p,lg,w.z,w.in_,many,om,ov,sa,sc,svl,pF,ga⟩:RS G.α)) ok.m1)<|.z .neq<|.z .mvB<|.z .mvP<|.k 12 .func (spages_any (G:=G) (r:=(⟨p,lg,w.z,w.in_,many,om,ov,sa,sc,svl,pF,ga⟩:RS G.α)) (i:=w.in_) (m:=many) (k:=(G.sure ga).length) ok.m1 ok.m4 rfl rfl rfl)<|.z .eql<|.z .pkf<|.nil<|.cd (fun C0=>?_) (fun C0=>?_)
 ·
  refine .s<|.z (.bd #[.J 0,.J 0,.J 0,.J 0,.J 0,.J 0] T.zr97 T.pl97 rfl)<|.ur' (.stW (vs:=[.J 0,.J 0,.J 0,.J 0,.J 0,.J 0]) T.sz97 ok (oneL rfl)) ?_;rintro U2 ⟨ok,cg⟩;refine .nil ?_;refine .ret ⟨.agg #[.J 0,.J 0,.J 0,.J 0,.J 0,.J 0],Res.many (vs:=[.agg #[.J 0,.J 0,.J 0,.J 0,.J 0,.J 0]]) rfl ⟨⟨_,rfl,load_ag T.ag97 ok.m0 T.sz97⟩,trivial⟩ rfl,⟨_,by rw [St.head_0 (by omega)];rfl,(ds_close (r':=(⟨p,lg,w.z,w.in_,many,om,ov,sa,sc,svl,pF,ga⟩:RS G.α)) (E':=E) (ok.n4.n4.n4.n4.f1.f1.k4) hf (fun j hj=>.inl (he j hj)) V)⟩⟩
 obtain ⟨hbl,hb,h1,h2⟩:=V.page (no:=1) (by omega) (by omega);refine .skip<|.s<|.z .mvP<|.c' 18 .func (sread_any (G:=G) (r:=(⟨p,lg,w.z,w.in_,many,om,ov,sa,sc,svl,pF,ga⟩:RS G.α)) (E:=E) (no:=1) (b:=(w.pgs.getD 0 [])) ((Hp.lc3 (ok.n2.n2.n4)).e1) (by omega) (show (w.pgs.getD 0 []).length<=1000000 from kN (Nat.le_of_eq hbl) (by omega)) hb h1 h2) ?_;rintro _ U3 ⟨Fs1,as1,xs1,cs1,rfl,hss1,q⟩;have ok:=Hp.lf3 (ok.n2.n2.n4) q;refine .z .mvU<|.z .ex<|.z .ex<|.z .asS<|.z .asI<|.nil<|.seq<|.s<|.z .mvI<|.z .neq<|.nil<|.cf<|.skip<|.s<|.z .mvS<|.c' 26 .func (dec_any (a:=xs1) (c:=cs1) (l:=(w.pgs.getD 0 [])) (RdL.ofCapB (v:=(xs1,(w.pgs.getD 0 []).length,cs1)) (l:=(w.pgs.getD 0 [])) ok.m0)) ?_;rintro _ U4 ⟨rfl,hx⟩;rw [show (decN (w.pgs.getD 0 [])).1.val=.agg #[.J (decN (w.pgs.getD 0 [])).1.size,.J (decN (w.pgs.getD 0 [])).1.pages,.J (decN (w.pgs.getD 0 [])).1.free,.J (decN (w.pgs.getD 0 [])).1.many,.J (decN (w.pgs.getD 0 [])).1.cookie,.J (decN (w.pgs.getD 0 [])).1.version] from rfl];have ok:=ok.ext hx;refine .z .mvU<|.z .ex<|.z .ex<|.a' 5 (.alA T.zr97 ok) ?_;rintro _ U5 ⟨pb2,rfl,ok,xe⟩;refine .ur' (.stW (vs:=[.J ((decN (w.pgs.getD 0 [])).1.size),.J ((decN (w.pgs.getD 0 [])).1.pages),.J ((decN (w.pgs.getD 0 [])).1.free),.J ((decN (w.pgs.getD 0 [])).1.many),.J ((decN (w.pgs.getD 0 [])).1.cookie),.J ((decN (w.pgs.getD 0 [])).1.version)]) T.sz97 ok (oneL rfl)) ?_;rintro U6 ⟨ok,cg⟩;refine .z .asI<|.nil<|.seq<|.a 7 (fun fl hh=>cond fl True (Hp h DF [boxI pb2 97 [.J ((decN (w.pgs.getD 0 [])).1.size),.J ((decN (w.pgs.getD 0 [])).1.pages),.J ((decN (w.pgs.getD 0 [])).1.free),.J ((decN (w.pgs.getD 0 [])).1.many),.J ((decN (w.pgs.getD 0 [])).1.cookie),.J ((decN (w.pgs.getD 0 [])).1.version)],capI 1 5 (xs1,(w.pgs.getD 0 []).length,cs1) ((w.pgs.getD 0 []).map bv),G.it p Fs1 as1,boxI so 136 [.iface G.tid (.P p),.pointer lg,.J (w.z:Int),.bool w.in_,.J (many:Int),.map om,.slice sa svl.length sc,.bool false],nowI om ov,boxI pb1 97 [.J 0,.J 0,.J 0,.J 0,.J 0,.J 0],capI 2 130 (sa,svl.length,sc) (svl.flatMap RSv.cells)] [pbsI E ov,svsI E svl] hh)) mixed ?_;have hS:=ok;refine .g 0 false rfl 29 hS (fun _=>.mvP)<|.g 1 false rfl 30 hS (fun _=>.nil)<|.g 2 false rfl 31 hS (fun _=>.fa T.fd136_2)<|.l 3 false rfl 32 hS (fun _ hS=>.ldx T.ag3 hS.m3)<|.g 4 false rfl 33 hS (fun _=>.mvP)<|.g 6 false rfl 35 hS (fun _=>.fa T.fd97_0)<|.o1 5<|.k false rfl 34 .func (spages_any (G:=G) (r:=(⟨p,lg,w.z,w.in_,many,om,ov,sa,sc,svl,Fs1,as1⟩:RS G.α)) (i:=w.in_) (m:=many) (k:=(G.sure as1).length) ok.m3 ok.m2 rfl rfl rfl) hS<|.o1 7<|.ur' true rfl (.stI T.sz3 ok) ?_;rintro U7 ⟨ok,cg⟩;refine ⟨trivial,?_⟩;refine .g 8 true rfl 36 trivial (fun _=>.fa T.fd97_1)<|.o1 9<|.ur' true rfl (.stI T.sz3 ok) ?_;rintro U8 ⟨ok,cg⟩;refine ⟨trivial,?_⟩;refine .e ?_;refine .s<|.z (.ldb T.ag97 ok.m0 T.sz97)<|.ur' (.stW (vs:=[.J (w.z:Int),.J (((if w.in_=true then many else (G.sure as1).length):Nat):Int),.J ((decN (w.pgs.getD 0 [])).1.free),.J ((decN (w.pgs.getD 0 [])).1.many),.J ((decN (w.pgs.getD 0 [])).1.cookie),.J ((decN (w.pgs.getD 0 [])).1.version)]) T.sz97 ok.n5 (oneL rfl)) ?_;rintro U9 ⟨ok,cg⟩;refine .nil ?_;refine .ret ⟨.agg #[.J (w.z:Int),.J (((if w.in_=true then many else (G.sure as1).length):Nat):Int),.J ((decN (w.pgs.getD 0 [])).1.free),.J ((decN (w.pgs.getD 0 [])).1.many),.J ((decN (w.pgs.getD 0 [])).1.cookie),.J ((decN (w.pgs.getD 0 [])).1.version)],Res.many (vs:=[.agg #[.J (w.z:Int),.J (((if w.in_=true then many else (G.sure as1).length):Nat):Int),.J ((decN (w.pgs.getD 0 [])).1.free),.J ((decN (w.pgs.getD 0 [])).1.many),.J ((decN (w.pgs.getD 0 [])).1.cookie),.J ((decN (w.pgs.getD 0 [])).1.version)]]) rfl ⟨⟨_,rfl,load_ag T.ag97 ok.m0 T.sz97⟩,trivial⟩ rfl,⟨_,by rw [St.head_n (by omega),hss1,hpgs];rfl,(ds_close (r':=(⟨p,lg,w.z,w.in_,many,om,ov,sa,sc,svl,Fs1,as1⟩:RS G.α)) (E':=E) (ok.n3.n6.n6.n6.f1.f1.k4) hf (fun j hj=>.inl (he j hj)) (V.pg hss1))⟩⟩
theorem sBegin_any (ok:Hp h F [dsI G so F w] [] h) :
  Hc 51 #[.P so] h (fun v h'=>∃F',v=.J ((w.begin_).2:Int)/\Hp h F [dsI G so F' (w.begin_).1] [] h'):=by
 obtain ⟨r,E,V,ok,hf,he⟩:=ds_open ok;have hzc:=V.zc;have hfew:=V.few;have hnf:=V.nowfew;obtain ⟨p,lg,z,in_,many,om,ov,sa,sc,svl,pF,ga⟩:=r;dsimp only at ok hf;generalize stF G so _=DF at ok hf;obtain rfl:z=w.z:=V.z;obtain rfl:in_=w.in_:=V.in_;have hpgs:(if w.in_=true then many else (G.sure ga).length)=w.pgs.length:=V.pgs;have ok:Hp h DF [boxI so 136 [.iface G.tid (.P p),.pointer lg,.J (w.z:Int),.bool w.in_,.J (many:Int),.map om,.slice sa svl.length sc,.bool false],nowI om ov,capI 2 130 (sa,svl.length,sc) (svl.flatMap RSv.cells),G.it p pF ga] [pbsI E ov,svsI E svl] h:=ok;have hsz0:=ok.chg.size;refine HC.go Tryz.func51 26 ?_;refine .s<|.z .asI<|.nil<|.seq<|.s<|.z .mvP<|.k 5 .func (susable_any (G:=G) (r:=(⟨p,lg,w.z,w.in_,many,om,ov,sa,sc,svl,pF,ga⟩:RS G.α)) ok.m0)<|.z .asI<|.nil<|.s<|.z .mvI<|.z .neq<|.nil<|.cf<|.skip<|.seq<|.s<|.z .mvP<|.z .nil<|.z (.fa T.fd136_3)<|.z (.ldx T.ag4 ok.m0)<|.nil<|.cond (fun C1=>?_) (fun C1=>?_)
 ·
  refine .s<|.z .asI<|.nil<|.ret ⟨.J 10,Res.one rfl rfl,⟨_,by rw [St.begin_10 C1];rfl,by rw [St.begin_10 C1];exact (ds_close (r':=(⟨p,lg,w.z,w.in_,many,om,ov,sa,sc,svl,pF,ga⟩:RS G.α)) (E':=E) (ok.f1.f1) hf (fun j hj=>.inl (he j hj)) V)⟩⟩
 refine .skip<|.s<|.z .mvP<|.z .mvP<|.z .mvP<|.z .nil<|.z (.fa T.fd136_0)<|.z (.ldx T.ag132 ok.m0)<|.k 19 (.inv (G.mPages _)) (G.cPages (F:=pF) (a:=ga) ok.m3)<|.a' 20 (.mkm (Value.int .i64) ok) ?_;rintro _ U1 ⟨mb1,rfl,ok⟩;refine .z (.bd #[.J ((G.sure ga).length:Int),.map (some mb1)] T.zr130 T.pl130 rfl)<|.z .nil<|.z (.fa T.fd136_3)<|.ur' (.stB T.sz4 ok.n1) ?_;rintro U2 ⟨ok,cg⟩;refine .z .nil<|.z (.fa T.fd136_4)<|.ur' (.stA (vs:=[.J ((G.sure ga).length:Int),.map (some mb1)]) T.sz130 ok (oneL rfl)) ?_;rintro U3 ⟨ok,cg⟩;refine .nil ?_;refine .s<|.z .asI<|.nil ?_;have ok:=Hp.pbsNil (ok);refine .ret ⟨.J 0,Res.one rfl rfl,⟨_,by rw [St.begin_0 (by simpa using C1)];rfl,by rw [St.begin_0 (by simpa using C1)];exact (ds_close (r':=(⟨p,lg,w.z,true,(G.sure ga).length,(some mb1),[],sa,sc,svl,pF,ga⟩:RS G.α)) (E':=E) (ok.n4.n4.n3.n3.f1.f1.k4) hf (fun j hj=>.inl (he j hj)) (V.begin (by simpa using C1)))⟩⟩
theorem sSetHead_any {H:Hd} (ok:Hp h F [dsI G so F w] [] h) (hr:HdIn H) :
  Hc 52 #[.P so,H.val] h (fun v h'=>∃F',v=.J ((w.setHead H).2:Int)/\Hp h F [dsI G so F' (w.setHead H).1] [] h'):=by
 obtain ⟨r,E,V,ok,hf,he⟩:=ds_open ok;have hzc:=V.zc;have hfew:=V.few;have hnf:=V.nowfew;obtain ⟨p,lg,z,in_,many,om,ov,sa,sc,svl,pF,ga⟩:=r;dsimp only at ok hf;generalize stF G so _=DF at ok hf;obtain rfl:z=w.z:=V.z;obtain rfl:in_=w.in_:=V.in_;have hpgs:(if w.in_=true then many else (G.sure ga).length)=w.pgs.length:=V.pgs;have ok:Hp h DF [boxI so 136 [.iface G.tid (.P p),.pointer lg,.J (w.z:Int),.bool w.in_,.J (many:Int),.map om,.slice sa svl.length sc,.bool false],nowI om ov,capI 2 130 (sa,svl.length,sc) (svl.flatMap RSv.cells),G.it p pF ga] [pbsI E ov,svsI E svl] h:=ok;have hsz0:=ok.chg.size;refine HC.go Tryz.func52 59 ?_;refine .s<|.a' 3 (.bxA (cs:=[.J H.size,.J H.pages,.J H.free,.J H.many,.J H.cookie,.J H.version]) ok) ?_;rintro _ U1 ⟨pb1,rfl,ok,xe⟩;refine .z .asI<|.nil<|.seq<|.s<|.z .mvP<|.k 9 .func (swithin_any (G:=G) (r:=(⟨p,lg,w.z,w.in_,many,om,ov,sa,sc,svl,pF,ga⟩:RS G.α)) (i:=w.in_) ok.m1 rfl)<|.z .asI<|.nil<|.s<|.z .mvI<|.z .neq<|.nil<|.cd (fun C0=>?_) (fun C0=>?_)
 ·
  have hw:w.in_=false:=wthE_y C0;refine .s<|.z .mvI<|.z .asI<|.nil<|.ret ⟨.J ((wthE w.in_):Int),Res.one rfl rfl,⟨_,by rw [St.setHead_10 hw,wthE_f (by rw [hw];decide)],by rw [St.setHead_10 hw];exact (ds_close (r':=(⟨p,lg,w.z,w.in_,many,om,ov,sa,sc,svl,pF,ga⟩:RS G.α)) (E':=E) (ok.n4.n4.n4.n4.f1.f1.k4) hf (fun j hj=>.inl (he j hj)) V)⟩⟩
 have hw:w.in_=true:=wthE_n C0;have hmany:many=w.now.length:=V.many hw;refine .skip<|.s<|.z (.ldb T.ag97 ok.m0 T.sz97)<|.c' 15 .func (encN_any (H:=H) hr) ?_;rintro _ U2 (⟨hck,rfl,hx⟩ | ⟨hck,yw,rfl,own⟩)
 ·
  have ok:=ok.ext hx;refine .z .mvU<|.z .ex<|.z .ex<|.z .asS<|.z .asI<|.nil<|.seq<|.seq<|.q (hm:=mixed)<|.z .mvI<|.z .neq<|.z .mvB<|.y<|.y<|.y<|.y<|.y<|.y<|.y<|.z .pkt<|.z .mvB<|.y<|.y<|.y<|.y<|.y<|.y<|.y<|.y<|.y<|.z .pkt<|.nil<|.ct<|.s<|.z .asI<|.nil<|.ret ⟨.J 1,Res.one rfl rfl,⟨_,by rw [St.setHead_1 hw (by first | exact .inl hck | exact .inr (.inl (by omega)) | exact .inr (.inr (by omega)))];rfl,by rw [St.setHead_1 hw (by first | exact .inl hck | exact .inr (.inl (by omega)) | exact .inr (.inr (by omega)))];exact (ds_close (r':=(⟨p,lg,w.z,w.in_,many,om,ov,sa,sc,svl,pF,ga⟩:RS G.α)) (E':=E) (ok.n4.n4.n4.n4.f1.f1.k4) hf (fun j hj=>.inl (he j hj)) V)⟩⟩
 obtain ⟨ya1,yc1,rfl⟩:=own.formB;have ok:=ok.own own;refine .z .mvU<|.z .ex<|.z .ex<|.z .asS<|.z .asI<|.nil<|.seq<|.seq<|.q (hm:=mixed)<|.z .mvI<|.z .neq<|.z .mvB<|.z (.fa T.fd97_0)<|.z (.ldx T.ag3 ok.m1)<|.z .mvP<|.z .nil<|.z (.fa T.fd136_2)<|.z (.ldx T.ag3 ok.m2)<|.z .neq<|.z .pkf<|.z .mvB<|.sd (fun G29=>?_) (fun G29=>?_)
 ·
  refine .y<|.y<|.y<|.y<|.y<|.y<|.y<|.y<|.y<|.z .pkt<|.nil<|.ct<|.s<|.z .asI<|.nil<|.ret ⟨.J 1,Res.one rfl rfl,⟨_,by rw [St.setHead_1 hw (by first | exact .inl hck | exact .inr (.inl (by omega)) | exact .inr (.inr (by omega)))];rfl,by rw [St.setHead_1 hw (by first | exact .inl hck | exact .inr (.inl (by omega)) | exact .inr (.inr (by omega)))];exact (ds_close (r':=(⟨p,lg,w.z,w.in_,many,om,ov,sa,sc,svl,pF,ga⟩:RS G.α)) (E':=E) (ok.n5.n5.n5.n5.f1.f1.k4) hf (fun j hj=>.inl (he j hj)) V)⟩⟩
 refine .z (.fa T.fd97_1)<|.z (.ldx T.ag3 ok.m1)<|.z .mvP<|.z .nil<|.z (.fa T.fd136_4)<|.z (.fa T.fd130_0)<|.z (.ldx T.ag3 ok.m2)<|.z .max2<|.z .gtr<|.z .pkf<|.nil<|.cd (fun C1=>?_) (fun C1=>?_)
 ·
  refine .s<|.z .asI<|.nil<|.ret ⟨.J 1,Res.one rfl rfl,⟨_,by rw [St.setHead_1 hw (by first | exact .inl hck | exact .inr (.inl (by omega)) | exact .inr (.inr (by omega)))];rfl,by rw [St.setHead_1 hw (by first | exact .inl hck | exact .inr (.inl (by omega)) | exact .inr (.inr (by omega)))];exact (ds_close (r':=(⟨p,lg,w.z,w.in_,many,om,ov,sa,sc,svl,pF,ga⟩:RS G.α)) (E':=E) (ok.n5.n5.n5.n5.f1.f1.k4) hf (fun j hj=>.inl (he j hj)) V)⟩⟩
 obtain ⟨n,hn⟩:∃n:Nat,H.pages=(n:Int):=⟨H.pages.toNat,by have:=hck.2.1.1;omega⟩;rw [hn] at ok⊢;obtain ⟨mb,rfl⟩:=(V.now hw).1;have ok:=Hp.nowSome (ok.n3);refine .skip<|.seq<|.a 13 (fun fl hh=>cell hh so 2=some (.J (w.z:Int))) mixed ?_;have hS:=(at_box (o:=2) ok.m3 rfl:cell _ so 2=some (.J (w.z:Int)));refine .g 0 false rfl 40 hS (fun _=>.mvP)<|.g 1 false rfl 41 hS (fun _=>.nil)<|.g 2 false rfl 42 hS (fun _=>.fa T.fd136_4)<|.g 3 false rfl 43 hS (fun _=>.mvS)<|.g 4 false rfl 44 hS (fun _=>.mvP)<|.g 5 false rfl 45 hS (fun _=>.nil)<|.g 6 false rfl 46 hS (fun _=>.fa T.fd136_2)<|.lw 7 false rfl 47 hS (fun _ _ hS=>.ld T.ag3 hS)<|.g 8 false rfl 48 hS (fun _=>.mvS)<|.g 9 false rfl 49 hS (fun _=>.len T.el35)<|.g 10 false rfl 50 hS (fun _=>.sub (hr:=(by rw [enc_len];omega)))<|.o1 11<|.a' false rfl 51 (.apz (z:=((w.z:Int)-(((H.enc).length:Nat):Int))) (w.z-64) T.el35 T.in3 T.sz5 T.by5 T.zr5 ok.n1 (by rw [enc_len];omega) (by rw [enc_len];omega)) ?_;rintro _ U3 ⟨ya2,yc2,rfl,ok⟩;refine ⟨(at_box (o:=2) ok.m3 rfl:cell _ so 2=some (.J (w.z:Int))),?_⟩;have hS:=(at_box (o:=2) ok.m3 rfl:cell _ so 2=some (.J (w.z:Int)));refine .o1 12<|.c' false rfl 52 .func (sput_any (G:=G) (r:=(⟨p,lg,w.z,w.in_,many,(some mb),ov,sa,sc,svl,pF,ga⟩:RS G.α)) (mb:=mb) (a:=ya2) (c:=yc2) (l:=((H.enc)++List.replicate (w.z-64) 0)) (no:=1) (Hp.lc2 (ok.n1.n3)).e0 (by rfl)) ?_;rintro _ U4 ⟨rfl,q⟩;have ok:=Hp.lf2 (ok.n1.n3) q;have hnb:=Hp.putNew (ok.n2) hf;have ok:=Hp.pbsPut (k:=(1:Int)) (ok.n2);have ok:=ok.d0 (svsI (fun j=>E j\/blkC (sv (ya2,((H.enc)++List.replicate (w.z-64) 0).length,yc2)) j) svl) (Svs.mono (E:=E) (E':=(fun j=>E j\/blkC (sv (ya2,((H.enc)++List.replicate (w.z-64) 0).length,yc2)) j)) (fun j h=>Or.inl h) ok.r1) (fun _ h=>h);refine ⟨(at_box (o:=2) ok.m0 rfl:cell _ so 2=some (.J (w.z:Int))),?_⟩;have hS:=(at_box (o:=2) ok.m0 rfl:cell _ so 2=some (.J (w.z:Int)));refine .e ?_;refine .seq<|.t 5 mixed ?_;simp only [kZ,kM,kH,kY];refine .z .mvP<|.z .nil<|.z (.fa T.fd136_4)<|.z (.fa T.fd97_1)<|.z (.ldx T.ag3 ok.m2)<|.nil ?_;refine .c' 58 .func (scut_any (G:=G) (r:=(⟨p,lg,w.z,w.in_,(max many 1),(some mb),(mput ov (1:Int) ⟨ya2,yc2,((H.enc)++List.replicate (w.z-64) 0)⟩),sa,sc,svl,pF,ga⟩:RS G.α)) (mb:=mb) (n:=n) (Hp.lc2 (ok)).e0 (by rfl)) ?_;rintro _ U5 ⟨rfl,q⟩;have ok:=Hp.lf2 (ok) q;have ok:=ok.d1 (pbsI (fun j=>E j\/blkC (sv (ya2,((H.enc)++List.replicate (w.z-64) 0).length,yc2)) j) (((mput ov (1:Int) ⟨ya2,yc2,((H.enc)++List.replicate (w.z-64) 0)⟩)).filter fun p=>decide (p.1<=(n:Int)))) (Pbs.filt ok.r1) (fun _ h=>h);refine .nil ?_;refine .s<|.z .asI<|.nil ?_;have hno:¬(¬ChkP H\/H.size≠(w.z:Int)\/max 1 (w.now.length:Int)<H.pages):=by rintro (h | h | h);exact h hck;exact h (by omega);omega
 refine .ret ⟨.J 0,Res.one rfl rfl,⟨_,by rw [St.setHead_0 hw hno hn];rfl,by rw [St.setHead_0 hw hno hn];exact (ds_close (r':=(⟨p,lg,w.z,w.in_,n,(some mb),(((mput ov (1:Int) ⟨ya2,yc2,((H.enc)++List.replicate (w.z-64) 0)⟩)).filter fun p=>decide (p.1<=(n:Int))),sa,sc,svl,pF,ga⟩:RS G.α)) (E':=(fun j=>E j\/blkC (sv (ya2,((H.enc)++List.replicate (w.z-64) 0).length,yc2)) j)) (ok.n4.n4.n3.n3.f1.f1.k4) hf (fun j hj=>hj.elim (fun hj=>.inl (he j hj)) (hnb j)) (V.setHead hw (x:=⟨ya2,yc2,((H.enc)++List.replicate (w.z-64) 0)⟩) hck (by omega) hn (by omega) rfl))⟩⟩
theorem sWrite_any {no:Int} {a:Option Addr} {c:Nat} {l:List UInt8} {F2 E2:Nat->Prop} (ok:Hp h F [dsI G so F w] [rdI F2 E2 (a,l.length,c) l] h) (hl:l.length<=1000000000) :
  Hc 21 #[.P so,.J no,.slice a l.length c] h (fun v h'=>∃F',v=.J ((w.write no l).2:Int)/\Hp h F [dsI G so F' (w.write no l).1] [] h'):=by
 obtain ⟨r,E,V,ok,hf,he⟩:=ds_open ok;have hzc:=V.zc;have hfew:=V.few;have hnf:=V.nowfew;obtain ⟨p,lg,z,in_,many,om,ov,sa,sc,svl,pF,ga⟩:=r;dsimp only at ok hf;generalize stF G so _=DF at ok hf;obtain rfl:z=w.z:=V.z;obtain rfl:in_=w.in_:=V.in_;have hpgs:(if w.in_=true then many else (G.sure ga).length)=w.pgs.length:=V.pgs;have ok:Hp h DF [boxI so 136 [.iface G.tid (.P p),.pointer lg,.J (w.z:Int),.bool w.in_,.J (many:Int),.map om,.slice sa svl.length sc,.bool false],nowI om ov,capI 2 130 (sa,svl.length,sc) (svl.flatMap RSv.cells),G.it p pF ga] [pbsI E ov,svsI E svl,rdI F2 E2 (a,l.length,c) l] h:=ok;have hsz0:=ok.chg.size;have hlc:=ok.r2.c;have hlm:=ok.r2.m;simp only at hlc hlm;refine HC.go Tryz.func21 62 ?_;refine .s<|.z .asI<|.nil<|.seq<|.s<|.z .mvP<|.k 9 .func (swithin_any (G:=G) (r:=(⟨p,lg,w.z,w.in_,many,om,ov,sa,sc,svl,pF,ga⟩:RS G.α)) (i:=w.in_) ok.m0 rfl)<|.z .asI<|.nil<|.s<|.z .mvI<|.z .neq<|.nil<|.cd (fun C0=>?_) (fun C0=>?_)
 ·
  have hw:w.in_=false:=wthE_y C0;refine .s<|.z .mvI<|.z .asI<|.nil<|.ret ⟨.J ((wthE w.in_):Int),Res.one rfl rfl,⟨_,by rw [St.write_10 hw,wthE_f (by rw [hw];decide)],by rw [St.write_10 hw];exact (ds_close (r':=(⟨p,lg,w.z,w.in_,many,om,ov,sa,sc,svl,pF,ga⟩:RS G.α)) (E':=E) (ok.f1.f1) hf (fun j hj=>.inl (he j hj)) V)⟩⟩
 have hw:w.in_=true:=wthE_n C0;have hmany:many=w.now.length:=V.many hw;refine .skip<|.seq<|.block fun K0 hK0=>.s<|.z .mvI<|.z .lss<|.z .mvB<|.sd (fun G16=>?_) (fun G16=>?_)
 ·
  refine .y<|.y<|.y<|.y<|.y<|.y<|.z .pkt<|.z .mvB<|.y<|.y<|.y<|.y<|.y<|.y<|.y<|.y<|.z .pkt<|.z .mvB<|.y<|.y<|.y<|.y<|.y<|.y<|.y<|.z .pkt<|.z .asB<|.nil<|.ct<|.s<|.z .asI<|.nil ?_;have hbad:no<2\/(w.now.length:Int)+1<no\/w.now=[]\/l.length≠w.z:=by
   first
   | exact .inl (by omega)
   | exact .inr (.inl (by omega))
   | exact .inr (.inr (.inl (qW (by omega))))
   | exact .inr (.inr (.inr (by omega)))
  refine .ret ⟨.J 1,Res.one rfl rfl,⟨_,by rw [St.write_1 hw hbad];rfl,by rw [St.write_1 hw hbad];exact (ds_close (r':=(⟨p,lg,w.z,w.in_,many,om,ov,sa,sc,svl,pF,ga⟩:RS G.α)) (E':=E) (ok.f1.f1) hf (fun j hj=>.inl (he j hj)) V)⟩⟩
 refine .z .mvP<|.z .nil<|.z (.fa T.fd136_4)<|.z (.fa T.fd130_0)<|.z (.ldx T.ag3 ok.m0)<|.z .lss<|.z .pkf<|.z .mvB<|.sd (fun G24=>?_) (fun G24=>?_)
 ·
  refine .y<|.y<|.y<|.y<|.y<|.y<|.y<|.y<|.z .pkt<|.z .mvB<|.y<|.y<|.y<|.y<|.y<|.y<|.y<|.z .pkt<|.z .asB<|.nil<|.ct<|.s<|.z .asI<|.nil ?_;have hbad:no<2\/(w.now.length:Int)+1<no\/w.now=[]\/l.length≠w.z:=by
   first
   | exact .inl (by omega)
   | exact .inr (.inl (by omega))
   | exact .inr (.inr (.inl (qW (by omega))))
   | exact .inr (.inr (.inr (by omega)))
  refine .ret ⟨.J 1,Res.one rfl rfl,⟨_,by rw [St.write_1 hw hbad];rfl,by rw [St.write_1 hw hbad];exact (ds_close (r':=(⟨p,lg,w.z,w.in_,many,om,ov,sa,sc,svl,pF,ga⟩:RS G.α)) (E':=E) (ok.f1.f1) hf (fun j hj=>.inl (he j hj)) V)⟩⟩
 refine .z .mvI<|.z .mvP<|.z .nil<|.z (.fa T.fd136_4)<|.z (.fa T.fd130_0)<|.z (.ldx T.ag3 ok.m0)<|.z (.addI (b:=1))<|.z .gtr<|.z .pkf<|.z .mvB<|.sd (fun G34=>?_) (fun G34=>?_)
 ·
  refine .y<|.y<|.y<|.y<|.y<|.y<|.y<|.z .pkt<|.z .asB<|.nil<|.ct<|.s<|.z .asI<|.nil ?_;have hbad:no<2\/(w.now.length:Int)+1<no\/w.now=[]\/l.length≠w.z:=by
   first
   | exact .inl (by omega)
   | exact .inr (.inl (by omega))
   | exact .inr (.inr (.inl (qW (by omega))))
   | exact .inr (.inr (.inr (by omega)))
  refine .ret ⟨.J 1,Res.one rfl rfl,⟨_,by rw [St.write_1 hw hbad];rfl,by rw [St.write_1 hw hbad];exact (ds_close (r':=(⟨p,lg,w.z,w.in_,many,om,ov,sa,sc,svl,pF,ga⟩:RS G.α)) (E':=E) (ok.f1.f1) hf (fun j hj=>.inl (he j hj)) V)⟩⟩
 refine .z .mvS<|.z (.len T.el35)<|.z .mvP<|.z .nil<|.z (.fa T.fd136_2)<|.z (.ldx T.ag3 ok.m0)<|.z .neq<|.z .pkf<|.z .asB<|.nil<|.cd (fun C1=>?_) (fun C1=>?_)
 ·
  refine .s<|.z .asI<|.nil ?_;have hbad:no<2\/(w.now.length:Int)+1<no\/w.now=[]\/l.length≠w.z:=by
   first
   | exact .inl (by omega)
   | exact .inr (.inl (by omega))
   | exact .inr (.inr (.inl (qW (by omega))))
   | exact .inr (.inr (.inr (by omega)))
  refine .ret ⟨.J 1,Res.one rfl rfl,⟨_,by rw [St.write_1 hw hbad];rfl,by rw [St.write_1 hw hbad];exact (ds_close (r':=(⟨p,lg,w.z,w.in_,many,om,ov,sa,sc,svl,pF,ga⟩:RS G.α)) (E':=E) (ok.f1.f1) hf (fun j hj=>.inl (he j hj)) V)⟩⟩
 have hgood:¬(no<2\/(w.now.length:Int)+1<no\/w.now=[]\/l.length≠w.z):=by
  rintro (h | h | h | h)
  ·omega
  ·omega
  ·rw [h] at hmany;simp at hmany;omega
  ·omega
 obtain ⟨k,rfl⟩:∃k:Nat,no=(k:Int):=⟨no.toNat,by omega⟩;refine .s<|.z .mvI<|.z .gtr<|.z .mvB<|.sd (fun G46=>?_) (fun G46=>?_)
 ·
  refine .y<|.y<|.y<|.y<|.y<|.y<|.y<|.z .pkt<|.z .asB<|.nil<|.ct<|.s<|.z .asI<|.nil<|.ret ⟨.J 5,Res.one rfl rfl,⟨_,by rw [St.write_5 hw hgood (by first | exact .inl (by omega) | exact .inr (by omega))];rfl,by rw [St.write_5 hw hgood (by first | exact .inl (by omega) | exact .inr (by omega))];exact (ds_close (r':=(⟨p,lg,w.z,w.in_,many,om,ov,sa,sc,svl,pF,ga⟩:RS G.α)) (E':=E) (ok.f1.f1) hf (fun j hj=>.inl (he j hj)) V)⟩⟩
 have hmz:=pg_mul (x:=(k:Int)) (s:=w.z) (by omega) (by omega) (by omega);refine .z .mvI<|.z .mvP<|.z .nil<|.z (.fa T.fd136_2)<|.z (.ldx T.ag3 ok.m0)<|.z .mulI<|.z .gtr<|.z .pkf<|.z .asB<|.nil<|.cd (fun C2=>?_) (fun C2=>?_)
 ·
  refine .s<|.z .asI<|.nil<|.ret ⟨.J 5,Res.one rfl rfl,⟨_,by rw [St.write_5 hw hgood (by first | exact .inl (by omega) | exact .inr (by omega))];rfl,by rw [St.write_5 hw hgood (by first | exact .inl (by omega) | exact .inr (by omega))];exact (ds_close (r':=(⟨p,lg,w.z,w.in_,many,om,ov,sa,sc,svl,pF,ga⟩:RS G.α)) (E':=E) (ok.f1.f1) hf (fun j hj=>.inl (he j hj)) V)⟩⟩
 have hgd:¬(1048576<(k:Int)\/16777216<(k:Int)*(w.z:Int)):=by rintro (h | h)<;>omega
 obtain ⟨mb,rfl⟩:=(V.now hw).1;have ok:=Hp.nowSome (ok.n1);refine .skip<|.end<|hK0 _ _<|.seq<|.a 5 (fun fl hh=>cond fl True (Hp h DF [] [] hh)) mixed ?_;have hS:=ok.k0.tR.tR.tR;refine .g 0 false rfl 55 hS (fun _=>.mvP)<|.g 1 false rfl 56 hS (fun _=>.nil)<|.g 2 false rfl 57 hS (fun _=>.fa T.fd136_4)<|.g 3 false rfl 58 hS (fun _=>.mvI)<|.g 4 false rfl 59 hS (fun _=>.mvS)<|.o1 5<|.c' true rfl 60 .func (bclone_any (a:=a) (c:=c) (l:=l) ok.r2 (by omega)) ?_;rintro _ U1 own;obtain ⟨ya1,yc1,rfl⟩:=own.formB;have ok:=ok.own own;refine ⟨trivial,?_⟩;refine .o1 6<|.c' true rfl 61 .func (sput_any (G:=G) (r:=(⟨p,lg,w.z,w.in_,many,(some mb),ov,sa,sc,svl,pF,ga⟩:RS G.α)) (mb:=mb) (a:=ya1) (c:=yc1) (l:=l) (no:=k) (Hp.lc2 (ok.n1.n2)).e0 (by rfl)) ?_;rintro _ U2 ⟨rfl,q⟩;have ok:=Hp.lf2 (ok.n1.n2) q;have hnb:=Hp.putNew (ok.n2) hf;have ok:=Hp.pbsPut (k:=(k:Int)) (ok.n2);have ok:=ok.d0 (svsI (fun j=>E j\/blkC (sv (ya1,(l).length,yc1)) j) svl) (Svs.mono (E:=E) (E':=(fun j=>E j\/blkC (sv (ya1,(l).length,yc1)) j)) (fun j h=>Or.inl h) ok.r1) (fun _ h=>h);refine ⟨trivial,?_⟩;refine .e ?_;refine .s<|.z .asI<|.nil ?_;have hkz:k*w.z<=16777216:=by have h2:((k*w.z:Nat):Int)=(k:Int)*(w.z:Int):=Int.natCast_mul _ _;omega
 refine .ret ⟨.J 0,Res.one rfl rfl,⟨_,by rw [St.write_0 hw hgood hgd];rfl,by rw [St.write_0 hw hgood hgd];exact (ds_close (r':=(⟨p,lg,w.z,w.in_,(max many k),(some mb),(mput ov (k:Int) ⟨ya1,yc1,l⟩),sa,sc,svl,pF,ga⟩:RS G.α)) (E':=(fun j=>E j\/blkC (sv (ya1,(l).length,yc1)) j)) (ok.f1) hf (fun j hj=>hj.elim (fun hj=>.inl (he j hj)) (hnb j)) (V.write hw (no:=k) (x:=⟨ya1,yc1,l⟩) (by omega) (by omega) (fun h=>hgood (.inr (.inr (.inl h)))) (Classical.byContradiction fun h=>hgood (.inr (.inr (.inr h)))) hkz))⟩⟩
end
end Go.Proofs.YtfegfklipbnhjaaGreat
namespace Go.HL
open Go
theorem Hp.locW {h0 h:Heap} {D:Nat->Prop} {M R:List Itm} {x:Itm} {e:TypeId} {a:Option Addr} {c:Nat} {l:List UInt8} (ok:Hp h0 D (x::capI 1 e (a,l.length,c) (l.map bv)::M) R h):Hp h x.F [x] [rdI (blkC (sv (a,l.length,c))) none_ (a,l.length,c) l] h:=
 (ok.k2.n1.frzB (l:=l) rfl).loc1
end Go.HL
namespace Go.Proofs.YtfegfklipbnhjaaGreat
open Go Go.HL
theorem St.pgk {w:St} (k:StOk w):PgsK w.z w.pgs:=by
 unfold St.pgs;split
 ·exact k.now
 ·exact k.sure
theorem St.page_len {w:St} (k:StOk w) {no:Int} (h1:1<=no) (h2:no<=(w.pgs.length:Int)):(w.pgs.getD (no-1).toNat []).length=w.z:=by
 have hi:(no-1).toNat<w.pgs.length:=by omega
 rw [List.getD_eq_getElem?_getD,List.getElem?_eq_getElem hi];exact (St.pgk k).len _ (qP hi)
theorem St.few {w:St} (k:StOk w):w.pgs.length<=65536:=by
 have h1:=(St.pgk k).many;have h2:=okSz_c k.z;have h3:w.pgs.length*256<=w.pgs.length*w.z:=Nat.mul_le_mul_left _ (by omega);omega
theorem sReadOk_any {G:Pgr} {h:Heap} {so:Nat} {F:Nat->Prop} {w:St} {no:Int} {b:List UInt8} (ok:Hp h F [dsI G so F w] [] h) (h1:1<=no) (h2:no<=(w.pgs.length:Int)) (hb:b=w.pgs.getD (no-1).toNat []:=by exact rfl) :
  Hc 86 #[.P so,.J no] h (fun v h'=>∃F' x c,v=.tuple #[.slice x b.length c,.J 0]/\b.length=w.z/\Hp h F [capI 1 5 (x,b.length,c) (b.map bv),dsI G so F' w] [] h'):=by
 have k:=ds_ok ok.m0;subst hb;refine (sRead_any ok).mono fun v h' ⟨F',x,c,hv,q⟩=>?_;rw [St.read_ok h1 h2] at hv q;exact ⟨F',x,c,hv,St.page_len k h1 h2,q⟩
theorem sWriteC_any {G:Pgr} {h0 h:Heap} {D:Nat->Prop} {M R:List Itm} {so:Nat} {F:Nat->Prop} {w:St} {no:Int} {a:Option Addr} {n c:Nat} {l:List UInt8} (ok:Hp h0 D (dsI G so F w::capI 1 5 (a,n,c) (l.map bv)::M) R h) (hl:l.length<=1000000000) :
  Hc 21 #[.P so,.J no,.slice a n c] h (fun v h'=>∃F',v=.J ((w.write no l).2:Int)/\Hp h F [dsI G so F' (w.write no l).1] [] h'):=by
 obtain rfl:n=l.length:=ok.n1.lenB;exact sWrite_any ok.locW hl
theorem dec_chk (l:List UInt8):(decN l).1=hd0\/ChkP (decN l).1:=by
 unfold decN;split
 ·exact .inl rfl
 split
 ·exact .inl rfl
 split
 ·rename_i h;exact .inr h.1
 ·exact .inl rfl
structure HdR (H:Hd):Prop where
 size:0<=H.size/\H.size<=4096
 pages:0<=H.pages/\H.pages<=65536
 free:0<=H.free/\H.free<=1048576
 many:0<=H.many/\H.many<=1048576
 cookie:0<=H.cookie/\H.cookie<=2147483647
 version:0<=H.version/\H.version<=2147483647
theorem St.head_r {w:St} (k:StOk w):HdR w.head:=by
 have hz:=okSz_c k.z;have hf:=St.few k;by_cases h:w.pgs.length=0
 ·rw [St.head_0 h];exact ⟨by decide,by decide,by decide,by decide,by decide,by decide⟩
 ·rw [St.head_n h];rcases dec_chk (w.pgs.getD 0 []) with e | c
  ·rw [e];exact ⟨⟨by simp only;omega,by simp only;omega⟩,⟨by simp only;omega,by simp only;omega⟩,show (0:Int)<=0/\(0:Int)<=1048576 by decide,show (0:Int)<=0/\(0:Int)<=1048576 by decide,show (0:Int)<=0/\(0:Int)<=2147483647 by decide,show (0:Int)<=0/\(0:Int)<=2147483647 by decide⟩
  ·have h2:=c.2.2.1;have hf:0<=(decN (w.pgs.getD 0 [])).1.free/\(decN (w.pgs.getD 0 [])).1.free<=1048576:=by
    have h1:=c.2.1;by_cases h:(decN (w.pgs.getD 0 [])).1.many=0
    ·have:=h2.2.2.1 h;omega
    ·have:=h2.2.2.2 (by omega);omega
   exact ⟨⟨by simp only;omega,by simp only;omega⟩,⟨by simp only;omega,by simp only;omega⟩,hf,⟨h2.1,by have:=h2.2.1;have:=c.2.1;show (decN (w.pgs.getD 0 [])).1.many<=_;omega⟩,c.2.2.2.1,c.2.2.2.2⟩
theorem dec_many {w:St} (h:w.head.many=0):w.head.free=0:=by
 by_cases h0:w.pgs.length=0
 ·rw [St.head_0 h0];rfl
 ·rw [St.head_n h0] at h⊢;rcases dec_chk (w.pgs.getD 0 []) with e | c
  ·rw [e];rfl
  ·exact c.2.2.1.2.2.1 h
theorem St.head_pages {w:St} : w.head.pages=(w.pgs.length:Int):=by
 by_cases h:w.pgs.length=0
 ·rw [St.head_0 h,h];rfl
 ·rw [St.head_n h]
def frOk (N:Nat) (out:List Int) (no:Int):Bool:=decide (2<=no/\no<=(N:Int)/\no∉out)
def frIn (N:Nat):List Int->List Int->Option (List Int)
 | [],out=>some out
 | no::l,out=>if frOk N out no=true then frIn N l (out++[no]) else none
def frNums (b:List UInt8):List Int:=(List.range (rdN b 4 4)).map fun i=>((rdN b (8+4*i) 4:Nat):Int)
def frGo (P:List (List UInt8)) (rm:Nat):Nat->Int->List Int->Option (List Int)
 | 0,_,_=>none
 | f+1,at_,out=>if at_=0 then some out else if frOk P.length out at_=false then none else
  if rm<rdN (P.getD (at_-1).toNat []) 4 4 then none else
  (frIn P.length (frNums (P.getD (at_-1).toNat [])) (out++[at_])).bind (frGo P rm f ((rdN (P.getD (at_-1).toNat []) 0 4:Nat):Int))
def frAll (w:St):Option (List Int):=(frGo w.pgs ((w.z-8) / 4) (w.pgs.length+1) w.head.free []).bind fun l=>if (l.length:Int)=w.head.many then some l else none
def frL (w:St):List Int:=(frAll w).getD []
def frC (w:St):Nat:=if (frAll w).isSome=true then 0 else 14
def frOp (w:St):List Int × Nat:=if w.in_=false then ([],10) else if w.pgs.length=0 then ([],4) else (frL w,frC w)
def put4 (l:List UInt8) (p n:Nat):List UInt8:=l.take p++fixedN n 4++l.drop (p+4)
def hdd (w:St) (free many:Int):St × Nat:=w.setHead { w.head with free:=free,many:=many }
def zer (z:Nat):List UInt8:=List.replicate z 0
def frGrow (w:St):St × Int × Nat:=
 if 16777216 / (w.z:Int)<(w.pgs.length:Int)+1 then (w,0,5) else
 if (w.write ((w.pgs.length:Int)+1) (zer w.z)).2≠0 then ((w.write ((w.pgs.length:Int)+1) (zer w.z)).1,0,(w.write ((w.pgs.length:Int)+1) (zer w.z)).2) else
 ((hdd (w.write ((w.pgs.length:Int)+1) (zer w.z)).1 0 0).1,(w.pgs.length:Int)+1,(hdd (w.write ((w.pgs.length:Int)+1) (zer w.z)).1 0 0).2)
def tkA (w:St):List UInt8:=w.pgs.getD (w.head.free-1).toNat []
def tkN (w:St):Nat:=rdN (tkA w) 4 4
def tkNo (w:St):Int:=if 0<tkN w then ((rdN (tkA w) (8+4*(tkN w-1)) 4:Nat):Int) else w.head.free
def tkFr (w:St):Int:=if 0<tkN w then w.head.free else ((rdN (tkA w) 0 4:Nat):Int)
def tkW (w:St):St × Nat:=if 0<tkN w then w.write w.head.free (put4 (put4 (tkA w) (8+4*(tkN w-1)) 0) 4 (tkN w-1)) else (w,0)
def toldF (x:St × Int × Nat):St × Int × Nat:=(x.1,if x.2.2=0 then x.2.1 else 0,x.2.2)
def tkZ (w:St):St × Nat:=(tkW w).1.write (tkNo w) (zer w.z)
def tkH (w:St):St × Nat:=hdd (tkZ w).1 (tkFr w) (w.head.many-1)
def takeF (w:St):St × Int × Nat:=if (frOp w).2≠0 then (w,0,(frOp w).2) else if (frOp w).1=[] then toldF (frGrow w) else
 if (tkW w).2≠0 then ((tkW w).1,0,(tkW w).2) else if (tkZ w).2≠0 then ((tkZ w).1,0,(tkZ w).2) else toldF ((tkH w).1,tkNo w,(tkH w).2)
def gvA (w:St) (no:Int):St × Nat:=w.write w.head.free (put4 (put4 (tkA w) (8+4*tkN w) no.toNat) 4 (tkN w+1))
def gvB (w:St) (no:Int):St × Nat:=w.write no (put4 (zer w.z) 0 w.head.free.toNat)
def thenH (x:St × Nat) (free many:Int):St × Nat:=if x.2≠0 then x else hdd x.1 free many
def giveF (w:St) (no:Int):St × Nat:=if w.in_=true/\0<w.pgs.length/\(no<2\/(w.pgs.length:Int)<no) then (w,1) else if (frOp w).2≠0 then (w,(frOp w).2) else if no∈(frOp w).1 then (w,7) else
 if w.head.free≠0/\tkN w<(w.z-8) / 4 then thenH (gvA w no) w.head.free (w.head.many+1) else thenH (gvB w no) no (w.head.many+1)
section
variable {N:Nat} {out:List Int} {no:Int} {l:List UInt8}
theorem frIn_nil:frIn N [] out=some out:=rfl
theorem frIn_ok {r:List Int} (h:frOk N out no=true):frIn N (no::r) out=frIn N r (out++[no]):=if_pos h
theorem frIn_no {r:List Int} (h:frOk N out no=false):frIn N (no::r) out=none:=if_neg (by rw [h];decide)
theorem rdN_lt {l:List UInt8} {p:Nat} : rdN l p 4<4294967296:=rdN_lt4 l p
theorem frNums_len:(frNums l).length=rdN l 4 4:=by simp [frNums]
theorem frNums_drop {i:Nat} (h:i<rdN l 4 4):(frNums l).drop i=((rdN l (8+4*i) 4:Nat):Int)::(frNums l).drop (i+1):=by
 rw [qF (by rw [frNums_len];exact h)];simp [frNums]
theorem put4_len {p n:Nat} (h:p+4<=l.length):(put4 l p n).length=l.length:=by
 unfold put4;simp [fixedN_len];omega
end
section
variable {P:List (List UInt8)} {rm f:Nat} {a:Int} {out:List Int}
theorem frGo_0:frGo P rm (f+1) 0 out=some out:=by unfold frGo;rfl
theorem frGo_bad (h0:a≠0) (h:frOk P.length out a=false):frGo P rm (f+1) a out=none:=by unfold frGo;rw [if_neg h0,if_pos h]
theorem frGo_many (h0:a≠0) (h:frOk P.length out a=true) (h2:rm<rdN (P.getD (a-1).toNat []) 4 4):frGo P rm (f+1) a out=none:=by unfold frGo;rw [if_neg h0,if_neg (by rw [h];decide),if_pos h2]
theorem frGo_in (h0:a≠0) (h:frOk P.length out a=true) (h2:¬rm<rdN (P.getD (a-1).toNat []) 4 4):frGo P rm (f+1) a out=(frIn P.length (frNums (P.getD (a-1).toNat [])) (out++[a])).bind (frGo P rm f ((rdN (P.getD (a-1).toNat []) 0 4:Nat):Int)):=by
 conv=>lhs;unfold frGo
 rw [if_neg h0,if_neg (by rw [h];decide),if_neg h2]
end
theorem frGo_1 {P:List (List UInt8)} {rm f:Nat} {a:Int} {out l:List Int} (h:frGo P rm (f+1) a out=some l) (hl:l≠out):a≠0/\frOk P.length out a=true/\¬rm<rdN (P.getD (a-1).toNat []) 4 4:=by
 by_cases h0:a=0
 ·subst h0;rw [frGo_0] at h;injection h with h;exact absurd h.symm hl
 cases hk:frOk P.length out a with
 | false=>rw [frGo_bad h0 hk] at h;cases h
 | true=>
  refine ⟨h0,rfl,fun h2=>?_⟩;rw [frGo_many h0 hk h2] at h;cases h
theorem frAll_1 {w:St} {l:List Int} (h:frAll w=some l) (hl:l≠[]):2<=w.head.free/\w.head.free<=(w.pgs.length:Int)/\tkN w<=(w.z-8) / 4:=by
 unfold frAll at h;cases hg:frGo w.pgs ((w.z-8) / 4) (w.pgs.length+1) w.head.free [] with
 | none=>rw [hg] at h;cases h
 | some l'=>
  rw [hg] at h;have h2:(if (l'.length:Int)=w.head.many then some l' else none)=some l:=h;split at h2
  ·injection h2 with h2;subst h2;obtain ⟨_,h4,h5⟩:=frGo_1 hg hl;have h6:2<=w.head.free/\w.head.free<=(w.pgs.length:Int)/\w.head.free∉[]:=of_decide_eq_true h4;exact ⟨h6.1,h6.2.1,Nat.le_of_not_lt h5⟩
  ·cases h2
theorem frOp_0 {w:St} (h:(frOp w).2=0):w.in_=true/\w.pgs.length≠0/\frAll w=some (frOp w).1:=by
 unfold frOp at h⊢;split at h
 ·cases h
 split at h
 ·cases h
 rename_i h1 h2;rw [if_neg h1,if_neg h2];refine ⟨by simpa using h1,h2,?_⟩;have h3:frC w=0:=h;unfold frC at h3;cases ha:frAll w with
 | none=>rw [ha] at h3;cases h3
 | some l=>show some l=some (frL w);unfold frL;rw [ha];rfl
structure Met (N:Nat) (out:List Int):Prop where
 nd:out.Nodup
 rg:∀k∈out,2<=k/\k<=(N:Int)
section
variable {N:Nat} {out:List Int} {no:Int}
theorem Met.nil:Met N []:=⟨.nil,by simp⟩
theorem Met.snoc (m:Met N out) (h:frOk N out no=true):Met N (out++[no]):=by
 have h1:2<=no/\no<=(N:Int)/\no∉out:=of_decide_eq_true h;refine ⟨kT.2 ⟨m.nd,by simp,fun a ha b hb e=>h1.2.2 (by rw [qS.1 hb] at e;exact e▸ha)⟩,fun k hk=>?_⟩;rcases qD.1 hk with hk | hk
 ·exact m.rg k hk
 ·rw [qS.1 hk];exact ⟨h1.1,h1.2.1⟩
theorem Met.len (m:Met N out):out.length<N+1:=by
 have h3:(0::out.map Int.toNat).length<=(List.range (N+1)).length:=by
  refine List.Nodup.length_le_of_subset (List.nodup_cons.2 ⟨fun hk=>?_,?_⟩) fun k hk=>?_
  ·obtain ⟨x,hx,e⟩:=kS.1 hk;have:=m.rg x hx;omega
  ·unfold List.Nodup;rw [List.pairwise_map];exact List.Pairwise.imp_of_mem (fun ha hb h e=>h (by have:=m.rg _ ha;have:=m.rg _ hb;omega)) m.nd
  ·rcases qK.1 hk with rfl | hk
   ·rw [List.mem_range];omega
   ·obtain ⟨x,hx,rfl⟩:=kS.1 hk;have:=m.rg x hx;rw [List.mem_range];omega
 rw [qV,qM,List.length_range] at h3;omega
end
theorem frIn_met {N:Nat} : ∀ {r out o:List Int},Met N out->frIn N r out=some o->Met N o
 | [],out,o,m,h=>by rw [frIn_nil] at h;injection h with h;exact h▸m
 | no::r,out,o,m,h=>by
  cases hk:frOk N out no with
  | false=>rw [frIn_no hk] at h;cases h
  | true=>rw [frIn_ok hk] at h;exact frIn_met (m.snoc hk) h
theorem frGo_met {P:List (List UInt8)} {rm:Nat} : ∀(f:Nat) (a:Int) (out:List Int) {l:List Int},Met P.length out->frGo P rm f a out=some l->Met P.length l
 | 0,_,_,_,_,h=>by unfold frGo at h;cases h
 | f+1,a,out,l,m,h=>by
  by_cases h0:a=0
  ·subst h0;rw [frGo_0] at h;injection h with h;exact h▸m
  cases hk:frOk P.length out a with
  | false=>rw [frGo_bad h0 hk] at h;cases h
  | true=>
   by_cases h2:rm<rdN (P.getD (a-1).toNat []) 4 4
   ·rw [frGo_many h0 hk h2] at h;cases h
   ·rw [frGo_in h0 hk h2] at h;cases hi:frIn P.length (frNums (P.getD (a-1).toNat [])) (out++[a]) with
    | none=>rw [hi] at h;cases h
    | some o=>rw [hi] at h;exact frGo_met f _ _ (frIn_met (m.snoc hk) hi) h
open Go Go.HL
section
variable {γ:Type} (w:St) (go:γ->Int->List UInt8->γ) (lv:γ->Bool)
def lkGo:Nat->Int->List Int->γ->γ × Int
 | 0,_,_,g=>(g,0)
 | f+1,no,mt,g=>if no=0 then (g,0) else if no<2\/(w.pgs.length:Int)<no\/no∈mt then (g,14) else
  if lv (go g no (w.pgs.getD (no-1).toNat []))=false then (go g no (w.pgs.getD (no-1).toNat []),0) else
  lkGo f ((rdN (w.pgs.getD (no-1).toNat []) 0 4:Nat):Int) (mt++[no]) (go g no (w.pgs.getD (no-1).toNat []))
variable {w go lv} {f:Nat} {no:Int} {mt:List Int} {g:γ}
theorem lk_0:lkGo w go lv (f+1) 0 mt g=(g,0):=by unfold lkGo;rfl
theorem lk_00 (h:no=0):lkGo w go lv (f+1) no mt g=(g,0):=by subst h;exact lk_0
theorem lk_bad (h0:no≠0) (h:no<2\/(w.pgs.length:Int)<no\/no∈mt):lkGo w go lv (f+1) no mt g=(g,14):=by unfold lkGo;rw [if_neg h0,if_pos h]
theorem lk_stop (h0:no≠0) (h:¬(no<2\/(w.pgs.length:Int)<no\/no∈mt)) (h2:lv (go g no (w.pgs.getD (no-1).toNat []))=false):lkGo w go lv (f+1) no mt g=(go g no (w.pgs.getD (no-1).toNat []),0):=by unfold lkGo;rw [if_neg h0,if_neg h,if_pos h2]
theorem lk_go (h0:no≠0) (h:¬(no<2\/(w.pgs.length:Int)<no\/no∈mt)) (h2:lv (go g no (w.pgs.getD (no-1).toNat []))=true):lkGo w go lv (f+1) no mt g=lkGo w go lv f ((rdN (w.pgs.getD (no-1).toNat []) 0 4:Nat):Int) (mt++[no]) (go g no (w.pgs.getD (no-1).toNat [])):=by
 conv=>lhs;unfold lkGo
 rw [if_neg h0,if_neg h,if_neg (by rw [h2];decide)]
end
def mtE (mt:List Int):List (Int × Value):=mt.map fun k=>(k,.bool true)
theorem mt_get {mt:List Int} {k:Int} : (aget (mtE mt) k).getD (.bool false)=.bool (decide (k∈mt)):=by
 induction mt with
 | nil=>rfl
 | cons a l ih=>
  unfold mtE aget at ih⊢;rw [kE,List.find?_cons];by_cases h:a=k
  ·subst h;simp
  ·have hn:decide (a=k)=false:=decide_eq_false h;simp only [hn];rw [ih];congr 1;simp [Ne.symm h]
theorem mt_put {mt:List Int} {k:Int} (h:k∉mt):aput (mtE mt) k (.bool true)=mtE (mt++[k]):=by
 induction mt with
 | nil=>rfl
 | cons a l ih=>
  have h1:a≠k:=fun e=>h (by simp [e]);have h2:k∉l:=fun e=>h (by simp [e]);show aput ((a,Value.bool true)::mtE l) k (.bool true)=(a,Value.bool true)::mtE (l++[k]);unfold aput;rw [if_neg h1,ih h2]
theorem links_any {h:Heap} {so eb:Nat} {first:Int} :
  Hc 196 #[.P so,.J first,.P eb] h (fun v h'=>∃b1 b2 b3,v=.func (.func 248) #[] #[.P b1,.P b2,.P b3]/\Hp h none_ [boxI b1 3 [.J first],boxI b2 24 [.P so],boxI b3 292 [.P eb]] [] h'):=by
 have ok:=Hp.nil h none_;refine HC.go Tryz.func196 8 ?_;refine .s<|.a' 3 (.bxP ok) ?_;rintro _ U1 ⟨pb1,rfl,ok,xe⟩;refine .a' 4 (.bxI ok) ?_;rintro _ U2 ⟨pb2,rfl,ok,xe⟩;refine .a' 5 (.bxP ok) ?_;rintro _ U3 ⟨pb3,rfl,ok,xe⟩;refine .z .asN<|.nil<|.s<|.z (.mkf (vs:=[.P pb2,.P pb1,.P pb3]))<|.z .asF<|.nil<|.ret ⟨.func (.func 248) #[] #[.P pb2,.P pb1,.P pb3],Res.one rfl rfl,⟨pb2,pb1,pb3,rfl,ok.n2.n2⟩⟩
theorem links1_any {β γ:Type} {ab:β->γ} {go:γ->Int->List UInt8->γ} {lv:γ->Bool} {Y:β->Itm} {y0:β} {G:Pgr} {h:Heap} {so b1 b2 b3 eb l:Nat} {F D:Nat->Prop} {w:St} {first:Int}
  (hY:∀(y:β) (no:Int) (b:List UInt8) (x:Option Addr) (c:Nat) (F2 E2:Nat->Prop) (hh:Heap),lv (ab y)=true->2<=no->no<=(w.pgs.length:Int)->b.length=w.z->Hp hh (Y y).F [Y y] [rdI F2 E2 (x,b.length,c) b] hh->HY Tryz.prog l #[.J no,.slice x b.length c] hh (fun v h'=>∃y',v=.bool (lv (ab y'))/\ab y'=go (ab y) no b/\Hp hh (Y y).F [Y y'] [] h'))
  (hl0:lv (ab y0)=true) (hf:i64N first) (ok:Hp h D [dsI G so F w,boxI b1 3 [.J first],boxI b2 24 [.P so],boxI b3 292 [.P eb],boxI eb 39 [.J 0],Y y0] [] h) :
  Hc 248 #[.func (.yield l) #[] #[],.P b1,.P b2,.P b3] h (fun v h'=>∃F' y',ab y'=(lkGo w go lv (w.pgs.length+1) first [] (ab y0)).1/\Hp h D [dsI G so F' w,boxI b1 3 [.J first],boxI b2 24 [.P so],boxI b3 292 [.P eb],boxI eb 39 [.J (lkGo w go lv (w.pgs.length+1) first [] (ab y0)).2],Y y'] [] h'):=by
 have hso:=ds_ok ok.m0;have hfew:=St.few hso;have hzc:=okSz_c hso.z;refine HC.go Tryz.func248 56 ?_;refine .s<|.a' 11 (.mkm (Value.int .i64) ok) ?_;rintro _ U1 ⟨mb1,rfl,ok⟩;refine .z .asM<|.nil<|.s<|.z (.ldx T.ag3 ok.m2)<|.z .asI<|.nil<|.block fun K0 hK0=>.loop (fun m s hh=>∃(no:Int) (mt:List Int) (y:β) (Fo:Nat->Prop),Has s [(0,.func (.yield l) #[] #[]),(2,.P b2),(3,.P b3),(5,.map (some mb1)),(6,.J no)]/\Hp h D [dsI G so Fo w,boxI b1 3 [.J first],boxI b2 24 [.P so],boxI b3 292 [.P eb],boxI eb 39 [.J 0],mapI (Value.int .i64) mb1 (mtE mt),Y y] [] hh/\lkGo w go lv (w.pgs.length+1-mt.length) no mt (ab y)=lkGo w go lv (w.pgs.length+1) first [] (ab y0)/\Met w.pgs.length mt/\lv (ab y)=true/\i64N no/\m=w.pgs.length+1-mt.length) ?_ ?_
 ·exact ⟨_,first,[],y0,F,⟨rfl,rfl,rfl,rfl,rfl,trivial⟩,(ok.n6.n1.n6.n6.n6.n6.n6).k7,rfl,Met.nil,hl0,hf,rfl⟩
 rintro _ _ U2 ⟨no,mt,y,Fo,hs,ok,hgo,hmt,hlv,hno,rfl⟩ J0 hJ0;refine .frame hs fun τ=>?_;refine .seq<|.s<|.z .mvI<|.z .neq<|.nil<|.cdr (fun C0=>?_) (fun C0=>?_)
 ·
  have hml:=hmt.len;obtain ⟨f,hff⟩:∃f,w.pgs.length+1-mt.length=f+1:=⟨w.pgs.length-mt.length,by omega⟩;rw [hff] at hgo;have hn0:no=0:=by simpa using C0
  refine .exit<|hK0 _ _<|.end<|⟨.tuple #[],Res.none rfl,⟨Fo,y,by rw [<-hgo,lk_00 hn0],by rw [<-hgo,lk_00 hn0];exact (ok.n6.n5.n5.n5.n5.n5).k6⟩⟩
 have hml:=hmt.len;obtain ⟨f,hff⟩:∃f,w.pgs.length+1-mt.length=f+1:=⟨w.pgs.length-mt.length,by omega⟩;rw [hff] at hgo;refine .skip<|.block fun K1 hK1=>.seq<|.s<|.z .mvI<|.z .lss<|.z .mvB<|.sd (fun G17=>?_) (fun G17=>?_)
 ·
  refine .y<|.y<|.y<|.y<|.y<|.z .pkt<|.z .mvB<|.y<|.y<|.y<|.z .pkt<|.nil<|.ct<|.s<|.z (.ldx T.ag292 ok.m3)<|.z .nil<|.ur' (.stI T.sz39 ok.n4) ?_;rintro U3 ⟨ok,cg⟩;refine .nil ?_;refine .ret ⟨.tuple #[],Res.none rfl,⟨Fo,y,by rw [<-hgo,lk_bad C0 (by first | exact .inl (by omega) | exact .inr (.inl (by omega)) | exact .inr (.inr (by assumption)))],by rw [<-hgo,lk_bad C0 (by first | exact .inl (by omega) | exact .inr (.inl (by omega)) | exact .inr (.inr (by assumption)))];exact (ok.n6.n1.n5.n5.n5.n5).k6⟩⟩
 refine .z .mvI<|.z (.ldx T.ag24 ok.m2)<|.c' 20 .func (sHead_any (G:=G) (w:=w) (ok).loc0) ?_;rintro _ U4 ⟨Fh1,rfl,q⟩;have ok:=(ok).lift1 q;rw [show w.head.val=.agg #[.J w.head.size,.J (w.pgs.length:Int),.J w.head.free,.J w.head.many,.J w.head.cookie,.J w.head.version] from (by rw [<-St.head_pages];rfl)];refine .z (.fd T.fd97_1 T.ag3)<|.z .gtr<|.z .pkf<|.z .mvB<|.sd (fun G24=>?_) (fun G24=>?_)
 ·
  refine .y<|.y<|.y<|.z .pkt<|.nil<|.ct<|.s<|.z (.ldx T.ag292 ok.m3)<|.z .nil<|.ur' (.stI T.sz39 ok.n4) ?_;rintro U5 ⟨ok,cg⟩;refine .nil ?_;refine .ret ⟨.tuple #[],Res.none rfl,⟨Fh1,y,by rw [<-hgo,lk_bad C0 (by first | exact .inl (by omega) | exact .inr (.inl (by omega)) | exact .inr (.inr (by assumption)))],by rw [<-hgo,lk_bad C0 (by first | exact .inl (by omega) | exact .inr (.inl (by omega)) | exact .inr (.inr (by assumption)))];exact (ok.n6.n1.n5.n5.n5.n5).k6⟩⟩
 refine .z .mvM<|.z .mvI<|.z (.lk (KV.int .i64) no (v:=.bool (decide (no∈mt))) T.mp225 (inB_iff T.in3) T.zr4 ok.m5 (by exact mt_get))<|.z .pkf<|.nil<|.cd (fun C1=>?_) (fun C1=>?_)
 ·
  refine .s<|.z (.ldx T.ag292 ok.m3)<|.z .nil<|.ur' (.stI T.sz39 ok.n4) ?_;rintro U6 ⟨ok,cg⟩;refine .nil ?_;refine .ret ⟨.tuple #[],Res.none rfl,⟨Fh1,y,by rw [<-hgo,lk_bad C0 (by first | exact .inl (by omega) | exact .inr (.inl (by omega)) | exact .inr (.inr (by assumption)))],by rw [<-hgo,lk_bad C0 (by first | exact .inl (by omega) | exact .inr (.inl (by omega)) | exact .inr (.inr (by assumption)))];exact (ok.n6.n1.n5.n5.n5.n5).k6⟩⟩
 have hnm:no∉mt:=C1;have hgd:¬(no<2\/(w.pgs.length:Int)<no\/no∈mt):=by rintro (h | h | h);omega;omega;exact C1 h
 refine .skip<|.s<|.z .mvM<|.z .mvI<|.ur' (.mpu (KV.int .i64) V.sbI no (v:=.bool true) T.mp225 (inB_iff T.in3) ok.n5) ?_;rintro U7 ok;refine .nil ?_;refine .seq<|?_;rw [mt_put hnm] at ok;refine .r<|.z (.ldx T.ag24 ok.m3)<|.z .mvI<|.c' 36 .func (sReadOk_any (G:=G) (w:=w) (no:=no) (b:=(w.pgs.getD (no-1).toNat [])) (ok.n1).loc0 (by omega) (by omega) (by rfl)) ?_;rintro _ U8 ⟨Fr1,xr1,cr1,rfl,hlr1,q⟩;have ok:=(ok.n1).lift2 q;refine .z .mvU<|.z .ex<|.z .ex<|.z .asS<|.z .asI<|.nil<|.seq<|.s<|.z .mvI<|.z .neq<|.nil<|.cf<|.skip<|.seq<|.seq<|?_;have ok:=(ok).frzB (l:=(w.pgs.getD (no-1).toNat [])) rfl;have hbl:=hlr1;have hrc:=ok.r0.c;have hrm:=ok.r0.m;simp only at hrc hrm;refine .ry<|.z .mvF<|.z .mvI<|.z .mvS<|?_;refine .y 47 (hY y no (w.pgs.getD (no-1).toNat []) xr1 cr1 (blkC (sv (xr1,(w.pgs.getD (no-1).toNat []).length,cr1))) none_ _ hlv (by omega) (by omega) hbl (ok.n6).loc1) ?_;rintro _ U9 ⟨y1,rfl,hab,q⟩;have ok:=(ok.n6).lift1 q;refine .z .not<|.nil<|.cond (fun C3=>?_) (fun C3=>?_)
 ·
  refine .ret ⟨.tuple #[],Res.none rfl,⟨Fr1,y1,by rw [<-hgo,lk_stop C0 hgd (by rw [<-hab];simpa using C3)];exact hab,by rw [<-hgo,lk_stop C0 hgd (by rw [<-hab];simpa using C3)];exact (ok.n6.n6.n6.n6.n5).k6.tR⟩⟩
 have hlv2:lv (ab y1)=true:=by simpa using C3
 rw [lk_go C0 hgd (by rw [<-hab];exact hlv2),<-hab,show f=w.pgs.length+1-(mt++[no]).length from by simp;omega] at hgo;have hgo2:=hgo;have hml2:(mt++[no]).length=mt.length+1:=by simp
 have hr4:=rdN_lt4 (w.pgs.getD (no-1).toNat []) 0;refine .skip<|.s<|.z .mvS<|.k 51 .func (read_any (p:=0) (size:=4) (a:=xr1) (c:=cr1) (l:=(w.pgs.getD (no-1).toNat [])) ok.r0 (by omega) (by omega) (by omega))<|.z .mvU<|.z .ex<|.z .ex<|.z .asI<|.z .asI<|.nil<|.r<|.z .mvI<|.z (.cvi T.in3 T.in207 (ha:=by omega))<|.z .asI<|.nil<|.end<|hK1 _ _<|.end<|hJ0 _ _ _ ⟨((rdN (w.pgs.getD (no-1).toNat []) 0 4:Nat):Int),mt++[no],y1,Fr1,⟨rfl,rfl,rfl,rfl,rfl,trivial⟩,(ok.n2.n6.n6.n6.n6.n6).k7.tR,hgo2,hmt.snoc (decide_eq_true ⟨by omega,by omega,hnm⟩),hlv2,by unfold i64N;omega,rfl⟩ (by omega)
open Go Go.HL
theorem _root_.Go.HL.Hp.lenI2 {h0 h:Heap} {D:Nat->Prop} {M R:List Itm} {e:TypeId} {a:Option Addr} {n c:Nat} {l:List Int} (ok:Hp h0 D (capI 1 e (a,n,c) (l.map iv)::M) R h):n=l.length:=by
 have h1:Cap h 1 e (.slice a n c) (l.map iv):=ok.m0;have:=h1.sl.cells.1;rw [qM] at this;omega
abbrev ChG:=List Int × List UInt8 × Bool
def chK (n:Nat) (ol b:List UInt8):Nat:=min (n-ol.length) (b.length-4)
def chGo (n:Nat) (g:ChG) (no:Int) (b:List UInt8):ChG:=if n<=g.2.1.length then (g.1,g.2.1,true) else (g.1++[no],g.2.1++(b.drop 4).take (chK n g.2.1 b),false)
def chLv (n:Nat) (g:ChG):Bool:=!g.2.2 && decide (g.1.length<=g.2.1.length/\g.2.1.length<=n)
def chR (w:St) (first:Int) (n:Nat):ChG × Int:=lkGo w (chGo n) (chLv n) (w.pgs.length+1) first [] ([],[],false)
def chF (w:St) (first n:Int):List Int × List UInt8 × Int:=if n<0\/16384<n\/decide (first=0)≠decide (n=0) then ([],[],1) else
 if (chR w first n.toNat).1.2.2=true then ([],[],14) else if (chR w first n.toNat).2≠0 then ([],[],(chR w first n.toNat).2) else if ((chR w first n.toNat).1.2.1.length:Int)<n then ([],[],14) else ((chR w first n.toNat).1.1,(chR w first n.toNat).1.2.1,0)
section
variable {n:Nat} {pl:List Int} {ol b:List UInt8} {no:Int} {w:St} {first:Int}
theorem chg_stop (h:n<=ol.length):chGo n (pl,ol,false) no b=(pl,ol,true):=if_pos h
theorem chg_go (h:¬n<=ol.length):chGo n (pl,ol,false) no b=(pl++[no],ol++(b.drop 4).take (chK n ol b),false):=if_neg h
theorem chK_len:((b.drop 4).take (chK n ol b)).length=chK n ol b:=by unfold chK;rw [qJ,qH];omega
theorem chl_go (h1:pl.length<=ol.length) (h2:ol.length<=n) (h3:¬n<=ol.length) (h4:5<=b.length):chLv n (pl++[no],ol++(b.drop 4).take (chK n ol b),false)=true:=by
 unfold chLv;have hk:=chK_len (n:=n) (ol:=ol) (b:=b);have hk2:1<=chK n ol b/\chK n ol b<=n-ol.length:=by unfold chK;omega
 simp only [Bool.not_false,Bool.true_and,decide_eq_true_eq,qA,hk,qV,qB];omega
variable {m:Int}
theorem chF_1 (h:m<0\/16384<m\/decide (first=0)≠decide (m=0)):chF w first m=([],[],1):=if_pos h
variable (h:¬((n:Int)<0\/16384<(n:Int)\/decide (first=0)≠decide ((n:Int)=0)))
include h
theorem chF_s (h2:(chR w first n).1.2.2=true):chF w first (n:Int)=([],[],14):=by unfold chF;rw [if_neg h,Int.toNat_natCast,if_pos h2]
theorem chF_e (h2:(chR w first n).1.2.2=false) (h3:(chR w first n).2≠0):chF w first (n:Int)=([],[],(chR w first n).2):=by unfold chF;rw [if_neg h,Int.toNat_natCast,if_neg (by rw [h2];decide),if_pos h3]
theorem chF_l (h2:(chR w first n).1.2.2=false) (h3:(chR w first n).2=0) (h4:(chR w first n).1.2.1.length<n):chF w first (n:Int)=([],[],14):=by unfold chF;rw [if_neg h,Int.toNat_natCast,if_neg (by rw [h2];decide),if_neg (by rw [h3];decide),if_pos (by omega)]
theorem chF_0 (h2:(chR w first n).1.2.2=false) (h3:(chR w first n).2=0) (h4:¬(chR w first n).1.2.1.length<n):chF w first (n:Int)=((chR w first n).1.1,(chR w first n).1.2.1,0):=by unfold chF;rw [if_neg h,Int.toNat_natCast,if_neg (by rw [h2];decide),if_neg (by rw [h3];decide),if_neg (by omega)]
end
structure CB where
 pa:Option Addr
 pc:Nat
 pl:List Int
 oa:Option Addr
 oc:Nat
 ol:List UInt8
 sp:Bool
def CB.ab (y:CB):ChG:=(y.pl,y.ol,y.sp)
def cbSt:Bool->LoopState
 | true=>.done
 | false=>.ready
def cbPe:Bool->Option Code
 | true=>some .ret
 | false=>none
def cbL (b5 b6 b7 b8 b9 b10 l n:Nat) (lc:LpC) (y:CB):List Itm:=[boxI b9 93 [.slice y.pa y.pl.length y.pc],capI 1 3 (y.pa,y.pl.length,y.pc) (y.pl.map iv),boxI b10 35 [.slice y.oa y.ol.length y.oc],capI 1 5 (y.oa,y.ol.length,y.oc) (y.ol.map bv),boxI b5 3 [.J (n:Int)],boxI b6 93 [.N],boxI b7 35 [.N],boxI b8 39 [.J (bif y.sp then 14 else 0)],lpI lc l (cbSt y.sp) (cbPe y.sp)]
@[reducible] def cbI (b5 b6 b7 b8 b9 b10 l n:Nat) (lc:LpC) (y:CB):Itm:=starI (cbL b5 b6 b7 b8 b9 b10 l n lc y)
theorem chain_any {G:Pgr} {h:Heap} {so:Nat} {F D:Nat->Prop} {w:St} {first n:Int} (ok:Hp h D [dsI G so F w] [] h) (hf:i64N first) (hn:i64N n) :
  Hc 150 #[.P so,.J first,.J n] h (fun v h'=>∃F' pa pc oa oc,v=.tuple #[.slice pa (chF w first n).1.length pc,.slice oa (chF w first n).2.1.length oc,.J (chF w first n).2.2]/\Hp h D [dsI G so F' w,capI 1 3 (pa,(chF w first n).1.length,pc) ((chF w first n).1.map iv),capI 1 5 (oa,(chF w first n).2.1.length,oc) ((chF w first n).2.1.map bv)] [] h'):=by
 have hso:=ds_ok ok.m0;have hfew:=St.few hso;have hzc:=okSz_c hso.z;refine HC.goR Tryz.func150 68 ?_;refine .seq<|.lift<|.r<|.a' 5 (.bxI ok) ?_;rintro _ U1 ⟨pb1,rfl,ok,xe⟩;refine .a' 6 (.alS T.zr93 ok) ?_;rintro _ U2 ⟨pb2,rfl,ok,xe⟩;refine .a' 7 (.alS T.zr35 ok) ?_;rintro _ U3 ⟨pb3,rfl,ok,xe⟩;refine .a' 8 (.alI T.zr39 ok) ?_;rintro _ U4 ⟨pb4,rfl,ok,xe⟩;refine .nil ?_;refine .end<|HSD.on<|.seq<|.lift<|.block fun K0 hK0=>.s<|.z .mvP<|.z (.pEqS T.pt24)<|.z .asB<|.nil<|.cf<|.s<|.z (.ldx T.ag3 ok.m3)<|.z .lss<|.z .mvB<|.sd (fun G20=>?_) (fun G20=>?_)
 ·
  refine .y<|.y<|.z .pkt<|.z .mvB<|.y<|.y<|.y<|.y<|.y<|.z .pkt<|.z .asB<|.nil<|.ct<|.s<|.ur' (.stS T.sz93 ok.n2) ?_;rintro U5 ⟨ok,cg⟩;refine .ur' (.stS T.sz35 ok.n2) ?_;rintro U6 ⟨ok,cg⟩;refine .ur' (.stI T.sz39 ok.n2) ?_;rintro U7 ⟨ok,cg⟩;refine .nil ?_;refine .ret ⟨.tuple #[.N,.N,.J 1],Res.many (vs:=[.N,.N,.J 1]) rfl ⟨⟨_,rfl,load_1 T.ag93 ok.m2⟩,⟨_,rfl,load_1 T.ag35 ok.m1⟩,⟨_,rfl,load_1 T.ag39 ok.m0⟩,trivial⟩ rfl,⟨F,none,0,none,0,by rw [chF_1 (by first | exact .inl (by omega) | exact .inr (.inl (by omega)) | exact .inr (.inr (by simpa using C1)))]<;>rfl,by rw [chF_1 (by first | exact .inl (by omega) | exact .inr (.inl (by omega)) | exact .inr (.inr (by simpa using C1)))];exact (((ok.n4).k1.nilC (k:=1) (e:=5)).nilC (k:=1) (e:=3)).n2⟩⟩
 refine .z (.ldx T.ag3 ok.m3)<|.z .gtr<|.z .pkf<|.z .mvB<|.sd (fun G24=>?_) (fun G24=>?_)
 ·
  refine .y<|.y<|.y<|.y<|.y<|.z .pkt<|.z .asB<|.nil<|.ct<|.s<|.ur' (.stS T.sz93 ok.n2) ?_;rintro U8 ⟨ok,cg⟩;refine .ur' (.stS T.sz35 ok.n2) ?_;rintro U9 ⟨ok,cg⟩;refine .ur' (.stI T.sz39 ok.n2) ?_;rintro U10 ⟨ok,cg⟩;refine .nil ?_;refine .ret ⟨.tuple #[.N,.N,.J 1],Res.many (vs:=[.N,.N,.J 1]) rfl ⟨⟨_,rfl,load_1 T.ag93 ok.m2⟩,⟨_,rfl,load_1 T.ag35 ok.m1⟩,⟨_,rfl,load_1 T.ag39 ok.m0⟩,trivial⟩ rfl,⟨F,none,0,none,0,by rw [chF_1 (by first | exact .inl (by omega) | exact .inr (.inl (by omega)) | exact .inr (.inr (by simpa using C1)))]<;>rfl,by rw [chF_1 (by first | exact .inl (by omega) | exact .inr (.inl (by omega)) | exact .inr (.inr (by simpa using C1)))];exact (((ok.n4).k1.nilC (k:=1) (e:=5)).nilC (k:=1) (e:=3)).n2⟩⟩
 refine .z .mvI<|.z .eql<|.z (.ldx T.ag3 ok.m3)<|.z .eql<|.z (.bNe T.bo4)<|.z .pkf<|.z .asB<|.nil<|.cond (fun C1=>?_) (fun C1=>?_)
 ·
  refine .s<|.ur' (.stS T.sz93 ok.n2) ?_;rintro U11 ⟨ok,cg⟩;refine .ur' (.stS T.sz35 ok.n2) ?_;rintro U12 ⟨ok,cg⟩;refine .ur' (.stI T.sz39 ok.n2) ?_;rintro U13 ⟨ok,cg⟩;refine .nil ?_;refine .ret ⟨.tuple #[.N,.N,.J 1],Res.many (vs:=[.N,.N,.J 1]) rfl ⟨⟨_,rfl,load_1 T.ag93 ok.m2⟩,⟨_,rfl,load_1 T.ag35 ok.m1⟩,⟨_,rfl,load_1 T.ag39 ok.m0⟩,trivial⟩ rfl,⟨F,none,0,none,0,by rw [chF_1 (by first | exact .inl (by omega) | exact .inr (.inl (by omega)) | exact .inr (.inr (by simpa using C1)))]<;>rfl,by rw [chF_1 (by first | exact .inl (by omega) | exact .inr (.inl (by omega)) | exact .inr (.inr (by simpa using C1)))];exact (((ok.n4).k1.nilC (k:=1) (e:=5)).nilC (k:=1) (e:=3)).n2⟩⟩
 obtain ⟨nn,rfl⟩:∃nn:Nat,n=(nn:Int):=⟨n.toNat,by omega⟩;have hbad:¬((nn:Int)<0\/16384<(nn:Int)\/decide (first=0)≠decide ((nn:Int)=0)):=by
  rintro (h | h | h)
  ·omega
  ·omega
  ·exact h (by simpa using C1)
 refine .skip<|.end<|hK0 _ _<|.end<|HSD.on<|.seq<|.lift<|.r<|.a' 9 (.alS T.zr93 ok) ?_;rintro _ U14 ⟨pb5,rfl,ok,xe⟩;refine .nil ?_;refine .end<|HSD.on<|.seq<|.lift<|.r<|.a' 10 (.alS T.zr35 ok) ?_;rintro _ U15 ⟨pb6,rfl,ok,xe⟩;refine .nil ?_;refine .end<|HSD.on<|.seq<|.lift<|.r<|.a' 11 (.alI T.zr39 ok) ?_;rintro _ U16 ⟨pb7,rfl,ok,xe⟩;refine .ur' (.stI T.sz39 ok) ?_;rintro U17 ⟨ok,cg⟩;refine .nil ?_;refine .end<|HSD.on<|.seq<|.seq<|.lift<|.r<|.z .mvP<|.z .mvI<|.c' 33 .func (links_any (so:=so) (eb:=pb7) (first:=first)) ?_;rintro _ U18 ⟨b1k1,b2k1,b3k1,rfl,q⟩;have ok:=ok.addML q;refine .nil ?_;refine .end<|HSD.on<|.rg' (lb:=[.P b1k1,.P b2k1,.P b3k1]) fun lc l1 D1 U19 hlc hxr hsr hl1 hD1 hlp hdf=>?_?_;have ok:=ok.rgNew' hxr hsr hl1 hD1 hlp hdf;have hY:∀(y:CB) (no:Int) (b:List UInt8) (x:Option Addr) (c:Nat) (F2 E2:Nat->Prop) (hh:Heap),chLv nn y.ab=true->2<=no->no<=(w.pgs.length:Int)->b.length=w.z->Hp hh (cbI pb1 pb2 pb3 pb4 pb5 pb6 l1 nn lc y).F [cbI pb1 pb2 pb3 pb4 pb5 pb6 l1 nn lc y] [rdI F2 E2 (x,b.length,c) b] hh->HY Tryz.prog l1 #[.J no,.slice x b.length c] hh (fun v h'=>∃y',v=.bool (chLv nn y'.ab)/\y'.ab=chGo nn y.ab no b/\Hp hh (cbI pb1 pb2 pb3 pb4 pb5 pb6 l1 nn lc y).F [cbI pb1 pb2 pb3 pb4 pb5 pb6 l1 nn lc y'] [] h'):=by
  rintro ⟨pa,pc,pl,oa,oc,ol,sp⟩ no b x cx F2 E2 hh hlv hno1 hno2 hbl ok;obtain ⟨hsp,hpl,hol⟩:sp=false/\pl.length<=ol.length/\ol.length<=nn:=by
   have h1:=hlv;unfold chLv CB.ab at h1;simp at h1;exact ⟨h1.1,h1.2.1,h1.2.2⟩
  subst hsp;generalize hDF:(cbI pb1 pb2 pb3 pb4 pb5 pb6 l1 nn lc ⟨pa,pc,pl,oa,oc,ol,false⟩).F=DF at ok⊢;have ok:Hp hh DF [boxI pb5 93 [.slice pa pl.length pc],capI 1 3 (pa,pl.length,pc) (pl.map iv),boxI pb6 35 [.slice oa ol.length oc],capI 1 5 (oa,ol.length,oc) (ol.map bv),boxI pb1 3 [.J (nn:Int)],boxI pb2 93 [.N],boxI pb3 35 [.N],boxI pb4 39 [.J 0],lpI lc l1 .ready none] [rdI F2 E2 (x,b.length,cx) b] hh:=Hp.unstar ok;have hrc:=ok.r0.c;have hrm:=ok.r0.m;simp only at hrc hrm;have hkd:chK nn ol b=min (nn-ol.length) (b.length-4):=rfl;have hkl:=chK_len (n:=nn) (ol:=ol) (b:=b);refine HY.go' (args:=[.J no,.slice x b.length cx]) hlc ok.m8 ?_;refine .s<|.z .asI<|.nil<|.r<|.z .asS<|.nil<|.end<|⟨ok.m8,fun U20 cgl szl lpl=>?_⟩;have ok:=(ok.n8).lp cgl lpl;refine .block fun K2 hK2=>.seq<|.s<|.z (.ldx T.ag35 ok.m3)<|.z (.len T.el35)<|.z (.ldx T.ag3 ok.m5)<|.z .geq<|.nil<|.cd (fun C2=>?_) (fun C2=>?_)
  ·
   refine .s<|.ur' (.stS T.sz93 ok.n6) ?_;rintro U21 ⟨ok,cg⟩;refine .ur' (.stS T.sz35 ok.n7) ?_;rintro U22 ⟨ok,cg⟩;refine .ur' (.stI T.sz39 ok.n8) ?_;rintro U23 ⟨ok,cg⟩;refine .nil ?_;refine .ret<|⟨ok.m3,fun U24 cgl szl lpl=>?_⟩;have ok:=(ok.n3).lp cgl lpl;exact ⟨⟨pa,pc,pl,oa,oc,ol,true⟩,rfl,(chg_stop (show nn<=ol.length by omega)).symm,Hp.star (l:=cbL pb1 pb2 pb3 pb4 pb5 pb6 l1 nn lc ⟨pa,pc,pl,oa,oc,ol,true⟩) (M:=[]) (ok.n1.n2.n3.n8.n8.n8.n8.n8).k9.tR⟩
  refine .skip<|.s<|.z (.ldx T.ag93 ok.m1)<|.z .mvI<|.a' 42 (.lit [.tmp 41] (cs:=[.J no]) T.el93 T.sz3 T.zr3 ok ⟨rfl,trivial⟩) ?_;rintro _ U25 ⟨pb8,rfl,ok,xe⟩;refine .a' 43 (.app (news:=[.J no]) T.el93 T.sz3 T.by3 T.zr3 ok.n3 (ok.n3.m1).sl (oneL rfl) (by simp only [qM,qV,qB];omega)) ?_;rintro _ U26 ⟨ya1,yn1,yc1,rfl,ok,ap⟩;have ok:=ok.cx (ys:=(pl++[no]).map iv) snocI;obtain rfl:yn1=(pl++[no]).length:=ok.lenI2;refine .ur' (.stS T.sz93 ok.n3) ?_;rintro U27 ⟨ok,cg⟩;refine .nil ?_;refine .t 12 mixed ?_;simp only [kZ,kM,kH,kY];refine .z (.ldx T.ag35 ok.m4)<|.z .mvS<|.z (.ldx T.ag3 ok.m6)<|.z (.ldx T.ag35 ok.m4)<|.z (.len T.el35)<|.z .sub<|.z .mvS<|.z (.len T.el35)<|.z .sub<|.z .min2<|.z .add<|.z (.slh 4 (4+chK nn ol b) T.el35 T.sz5)<|?_;generalize hc1:cutA x 4 cx 1=ca1;generalize hn1:(4+chK nn ol b)-4=cn1;obtain rfl:cn1=(((b.drop 4).take (chK nn ol b))).length:=by rw [<-hn1];simp<;>omega
  have ok:=ok.d0 (rdI F2 E2 (ca1,(((b.drop 4).take (chK nn ol b))).length,cx-4) ((b.drop 4).take (chK nn ol b))) (by have h1:=ok.r0.cut (i:=4) (j:=(4+chK nn ol b)) (by omega) (by omega);rw [show ((b).drop 4).take ((4+chK nn ol b)-4)=((b.drop 4).take (chK nn ol b)) from (by rw [show 4+chK nn ol b-4=chK nn ol b from by omega])] at h1;rw [<-hc1,<-hn1];exact h1) (fun _ h=>h);refine .nil ?_;refine .a' 56 (.app (news:=((b.drop 4).take (chK nn ol b)).map bv) T.el35 T.sz5 T.by5 T.zr5 ok.n5 (ok.n5.r0).by bv_all (by simp only [qM,qA,qJ,qV,qB,kW,List.length_range,fixedN_len,sealN_len];omega)) ?_;rintro _ U28 ⟨ya2,yn2,yc2,rfl,ok,ap⟩;have ok:=ok.cx (ys:=(ol++((b.drop 4).take (chK nn ol b))).map bv) (by simp [bv]);obtain rfl:yn2=(ol++((b.drop 4).take (chK nn ol b))).length:=ok.lenB;refine .ur' (.stS T.sz35 ok.n5) ?_;rintro U29 ⟨ok,cg⟩;refine .nil ?_;refine .end<|hK2 _ _<|.end<|⟨ok.m5,fun U30 cgl szl lpl=>?_⟩;have ok:=(ok.n5).lp cgl lpl;exact ⟨⟨ya1,yc1,(pl++[no]),ya2,yc2,ol++((b.drop 4).take (chK nn ol b)),false⟩,congrArg Value.bool (chl_go hpl hol (by omega) (by omega)).symm,(chg_go (show ¬nn<=ol.length by omega)).symm,Hp.star (l:=cbL pb1 pb2 pb3 pb4 pb5 pb6 l1 nn lc ⟨ya1,yc1,(pl++[no]),ya2,yc2,ol++((b.drop 4).take (chK nn ol b)),false⟩) (M:=[]) (ok.n9.n9.n9.n9.n6.n6.n8.n8).k9.tR.tR⟩
 have ok:=(ok.nilC (k:=1) (e:=5)).nilC (k:=1) (e:=3);have ok:=Hp.star (l:=cbL pb1 pb2 pb3 pb4 pb5 pb6 l1 nn lc ⟨none,0,[],none,0,[],false⟩) (M:=[dfI D1,boxI b1k1 3 [.J first],boxI b2k1 24 [.P so],boxI b3k1 292 [.P pb7],boxI pb7 39 [.J 0],dsI G so F w]) (ok.n2.n10.n11.n12.n13.n6.n12.n7.n13);have okf:Hp h D ([dsI G so F w,boxI b1k1 3 [.J first],boxI b2k1 24 [.P so],boxI b3k1 292 [.P pb7],boxI pb7 39 [.J 0],cbI pb1 pb2 pb3 pb4 pb5 pb6 l1 nn lc ⟨none,0,[],none,0,[],false⟩]++[dfI D1]) [] _:=ok.n5.n5.n5.n5.n6;refine HC.mono (links1_any (ab:=CB.ab) (go:=chGo nn) (lv:=chLv nn) (Y:=cbI pb1 pb2 pb3 pb4 pb5 pb6 l1 nn lc) (y0:=⟨none,0,[],none,0,[],false⟩) hY (by simp [chLv,CB.ab]) hf (Hp.lc6 okf)) ?_;rintro _ U31 ⟨Fl,⟨pa,pc,pl,oa,oc,ol,_ | _⟩,hab,q⟩
 ·
  have ok:=Hp.lf6 okf q;have ok:Hp h D [boxI pb5 93 [.slice pa pl.length pc],capI 1 3 (pa,pl.length,pc) (pl.map iv),boxI pb6 35 [.slice oa ol.length oc],capI 1 5 (oa,ol.length,oc) (ol.map bv),boxI pb1 3 [.J (nn:Int)],boxI pb2 93 [.N],boxI pb3 35 [.N],boxI pb4 39 [.J 0],lpI lc l1 .ready none,dsI G so Fl w,boxI b1k1 3 [.J first],boxI b2k1 24 [.P so],boxI b3k1 292 [.P pb7],boxI pb7 39 [.J ((chR w first nn).2)],dfI D1] [] _:=Hp.unstar (ok.n5);have hch:(chR w first nn).1=(pl,ol,false):=hab.symm;have hsp:(chR w first nn).1.2.2=false:=by rw [hch]
  refine ⟨.ready,none,by decide,ok.m8,fun U32 cgl szl=>?_⟩;have ok:=(ok.n8).lpEnd cgl;show HS none _ _ _ _ _ _;refine .seq<|.block fun K3 hK3=>.s<|.z (.ldx T.ag39 ok.m12)<|.z .neq<|.z .asB<|.nil<|.cd (fun C3=>?_) (fun C3=>?_)
  ·
   have hev:(chR w first nn).2≠0:=C3;refine .seq<|.a 3 (fun fl hh=>cond fl True (Hp h D [boxI pb5 93 [.slice pa pl.length pc],capI 1 3 (pa,pl.length,pc) (pl.map iv),boxI pb6 35 [.slice oa ol.length oc],capI 1 5 (oa,ol.length,oc) (ol.map bv),boxI pb1 3 [.J (nn:Int)],boxI pb4 39 [.J 0],dsI G so Fl w,boxI b1k1 3 [.J first],boxI b2k1 24 [.P so],boxI b3k1 292 [.P pb7],boxI pb7 39 [.J ((chR w first nn).2)],dfI D1] [] hh)) mixed ?_;have hS:=ok.n13.n13.n13.n13.n13.n13.n13.n11.n11.n11.n11.n11.k12;refine .l 0 false rfl 60 hS (fun _ hS=>.ldx T.ag39 hS.m10)<|.o1 1<|.ur' false rfl (.stS T.sz93 ok.n5) ?_;rintro U33 ⟨ok,cg⟩;refine ⟨ok.n13.n13.n13.n13.n13.n13.n13.n12.n12.n12.n12.n12.k12,?_⟩;have hS:=ok.n13.n13.n13.n13.n13.n13.n13.n12.n12.n12.n12.n12.k12;refine .o1 2<|.ur' false rfl (.stS T.sz35 ok.n6) ?_;rintro U34 ⟨ok,cg⟩;refine ⟨ok.n13.n13.n13.n13.n13.n13.n13.n13.n13.n13.n13.n13.k12,?_⟩;have hS:=ok.n13.n13.n13.n13.n13.n13.n13.n13.n13.n13.n13.n13.k12;refine .o1 3<|.ur' true rfl (.stI T.sz39 ok.n7) ?_;rintro U35 ⟨ok,cg⟩;refine ⟨trivial,?_⟩;refine .e ?_;refine .ret ⟨D1,rfl,ok.m13,fun U36 cgd szd=>?_⟩;have ok:=(ok.n13).df cgd;refine ⟨.tuple #[.N,.N,.J ((chR w first nn).2)],Res.many (vs:=[.N,.N,.J ((chR w first nn).2)]) rfl ⟨⟨_,rfl,load_1 T.ag93 ok.m2⟩,⟨_,rfl,load_1 T.ag35 ok.m1⟩,⟨_,rfl,load_1 T.ag39 ok.m0⟩,trivial⟩ rfl,⟨Fl,none,0,none,0,by rw [chF_e hbad hsp hev]<;>rfl,by rw [chF_e hbad hsp hev];exact (((ok.n8).k1.nilC (k:=1) (e:=5)).nilC (k:=1) (e:=3)).n2⟩⟩
  have hev:(chR w first nn).2=0:=by simpa using C3
  refine .s<|.z (.ldx T.ag35 ok.m2)<|.z (.len T.el35)<|.z (.ldx T.ag3 ok.m4)<|.z .lss<|.z .asB<|.nil<|.cd (fun C4=>?_) (fun C4=>?_)
  ·
   have hlen:(chR w first nn).1.2.1.length<nn:=by rw [hch];show ol.length<nn;omega
   refine .s<|.ur' (.stS T.sz93 ok.n5) ?_;rintro U37 ⟨ok,cg⟩;refine .ur' (.stS T.sz35 ok.n6) ?_;rintro U38 ⟨ok,cg⟩;refine .ur' (.stI T.sz39 ok.n7) ?_;rintro U39 ⟨ok,cg⟩;refine .nil ?_;refine .ret ⟨D1,rfl,ok.m13,fun U40 cgd szd=>?_⟩;have ok:=(ok.n13).df cgd;refine ⟨.tuple #[.N,.N,.J 14],Res.many (vs:=[.N,.N,.J 14]) rfl ⟨⟨_,rfl,load_1 T.ag93 ok.m2⟩,⟨_,rfl,load_1 T.ag35 ok.m1⟩,⟨_,rfl,load_1 T.ag39 ok.m0⟩,trivial⟩ rfl,⟨Fl,none,0,none,0,by rw [chF_l hbad hsp hev hlen]<;>rfl,by rw [chF_l hbad hsp hev hlen];exact (((ok.n8).k1.nilC (k:=1) (e:=5)).nilC (k:=1) (e:=3)).n2⟩⟩
  have hlen:¬(chR w first nn).1.2.1.length<nn:=by rw [hch];show ¬ol.length<nn;omega
  refine .skip<|.end<|hK3 _ _<|.seq<|.a 3 (fun fl hh=>cond fl True (Hp h D [boxI pb5 93 [.slice pa pl.length pc],capI 1 3 (pa,pl.length,pc) (pl.map iv),boxI pb6 35 [.slice oa ol.length oc],capI 1 5 (oa,ol.length,oc) (ol.map bv),boxI pb1 3 [.J (nn:Int)],boxI pb3 35 [.N],boxI pb4 39 [.J 0],dsI G so Fl w,boxI b1k1 3 [.J first],boxI b2k1 24 [.P so],boxI b3k1 292 [.P pb7],boxI pb7 39 [.J ((chR w first nn).2)],dfI D1] [] hh)) mixed ?_;have hS:=ok.n13.n13.n13.n13.n13.n13.n13.n13.n12.n12.n12.n12.n12.k13;refine .l 0 false rfl 66 hS (fun _ hS=>.ldx T.ag93 hS.m0)<|.l 1 false rfl 67 hS (fun _ hS=>.ldx T.ag35 hS.m2)<|.o1 2<|.ur' false rfl (.stS T.sz93 ok.n5) ?_;rintro U41 ⟨ok,cg⟩;refine ⟨ok.n13.n13.n13.n13.n13.n13.n13.n13.n13.n13.n13.n13.n13.k13,?_⟩;have hS:=ok.n13.n13.n13.n13.n13.n13.n13.n13.n13.n13.n13.n13.n13.k13;refine .o1 3<|.ur' true rfl (.stS T.sz35 ok.n6) ?_;rintro U42 ⟨ok,cg⟩;refine ⟨trivial,?_⟩;refine .o1 4<|.ur' true rfl (.stI T.sz39 ok.n7) ?_;rintro U43 ⟨ok,cg⟩;refine ⟨trivial,?_⟩;refine .e ?_;refine .ret ⟨D1,rfl,ok.m13,fun U44 cgd szd=>?_⟩;have ok:=(ok.n13).df cgd;refine ⟨.tuple #[.slice pa pl.length pc,.slice oa ol.length oc,.J 0],Res.many (vs:=[.slice pa pl.length pc,.slice oa ol.length oc,.J 0]) rfl ⟨⟨_,rfl,load_1 T.ag93 ok.m2⟩,⟨_,rfl,load_1 T.ag35 ok.m1⟩,⟨_,rfl,load_1 T.ag39 ok.m0⟩,trivial⟩ rfl,⟨Fl,pa,pc,oa,oc,by rw [chF_0 hbad hsp hev hlen,hch]<;>rfl,by rw [chF_0 hbad hsp hev hlen,hch];exact (ok.n6.n5.n8).k3⟩⟩
 have ok:=Hp.lf6 okf q;have ok:Hp h D [boxI pb5 93 [.slice pa pl.length pc],capI 1 3 (pa,pl.length,pc) (pl.map iv),boxI pb6 35 [.slice oa ol.length oc],capI 1 5 (oa,ol.length,oc) (ol.map bv),boxI pb1 3 [.J (nn:Int)],boxI pb2 93 [.N],boxI pb3 35 [.N],boxI pb4 39 [.J 14],lpI lc l1 .done (some .ret),dsI G so Fl w,boxI b1k1 3 [.J first],boxI b2k1 24 [.P so],boxI b3k1 292 [.P pb7],boxI pb7 39 [.J ((chR w first nn).2)],dfI D1] [] _:=Hp.unstar (ok.n5);have hch:(chR w first nn).1=(pl,ol,true):=hab.symm;refine ⟨.done,(some .ret),by decide,ok.m8,fun U45 cgl szl=>?_⟩;have ok:=(ok.n8).lpEnd cgl;show finR _ _ _ [col D1] .ret _ _;refine ⟨D1,rfl,ok.m13,fun U46 cgd szd=>?_⟩;have ok:=(ok.n13).df cgd;refine ⟨.tuple #[.N,.N,.J 14],Res.many (vs:=[.N,.N,.J 14]) rfl ⟨⟨_,rfl,load_1 T.ag93 ok.m5⟩,⟨_,rfl,load_1 T.ag35 ok.m6⟩,⟨_,rfl,load_1 T.ag39 ok.m7⟩,trivial⟩ rfl,⟨Fl,none,0,none,0,by rw [chF_s hbad (by rw [hch])]<;>rfl,by rw [chF_s hbad (by rw [hch])];exact (((ok.n8).k1.nilC (k:=1) (e:=5)).nilC (k:=1) (e:=3)).n2⟩⟩
open Go Go.HL
section
variable {n c p:Nat} {a:Option Addr} {no:Int} {l:List UInt8}
def cntM (l:List (Int × Nat)) (out:List Int):Prop:=∀k,(mget l k).getD 0=out.count k
theorem cntM_nil:cntM [] []:=fun k=>rfl
theorem cntM_put {l:List (Int × Nat)} {out:List Int} (c:cntM l out):cntM (mput l no (out.count no+1)) (out++[no]):=fun k=>by
 rw [mget_mput,List.count_append,List.count_singleton];by_cases h:k=no
 ·subst h;simp
 ·rw [if_neg h,c k];have:(no == k)=false:=by simpa using fun e=>h e.symm
  rw [this];simp
theorem atE_put {l:List (Int × Nat)} {k:Int} : aput (atE l) k (iv' n)=atE (mput l k n):=aput_mp
def eachL (mb ob hb:Nat) (H:Hd) (mm:Nat) (l:List (Int × Nat)) (a:Option Addr) (c:Nat) (out:List Int):List Itm:=[boxI mb 201 [.map (some mm)],mapI (Value.int .i64) mm (atE l),boxI ob 93 [.slice a out.length c],capI 1 3 (a,out.length,c) (out.map iv),boxI hb 97 [.J H.size,.J H.pages,.J H.free,.J H.many,.J H.cookie,.J H.version]]
@[reducible] def eachI (mb ob hb:Nat) (H:Hd) (F:Nat->Prop) (out:List Int):Itm:=⟨fun h=>∃mm l a c,(starI (eachL mb ob hb H mm l a c out)).p h/\(∀j,(starI (eachL mb ob hb H mm l a c out)).F j->F j)/\cntM l out,F,fun _ _ _ c g ⟨mm,l,a,c',q,f,n⟩=>⟨mm,l,a,c',(starI (eachL mb ob hb H mm l a c' out)).st _ _ _ c (fun j hj=>g j (f j hj)) q,f,n⟩⟩
section
variable {h h':Heap} {mb ob hb:Nat} {H:Hd} {F D:Nat->Prop} {out:List Int} {M R:List Itm}
theorem each_open (ok:Hp h F [eachI mb ob hb H F out] [] h):∃mm l a c,cntM l out/\Hp h (starI (eachL mb ob hb H mm l a c out)).F (eachL mb ob hb H mm l a c out) [] h/\∀j,(starI (eachL mb ob hb H mm l a c out)).F j->F j:=by
 obtain ⟨mm,l,a,c,q,f,n⟩:=ok.m0;have hl:=(ok.m _ qX).2;refine ⟨mm,l,a,c,n,?_,f⟩;have o:Hp h (starI (eachL mb ob hb H mm l a c out)).F [starI (eachL mb ob hb H mm l a c out)] [] h:=⟨Chg.refl _ _,fun i hi=>by rw [qS.1 hi];exact ⟨q,fun j hj=>⟨(hl j (f j hj)).1,.inl hj⟩⟩,by simp,List.pairwise_singleton _ _,by simp⟩;simpa using Hp.unstar o
theorem each_close {mm:Nat} {l:List (Int × Nat)} (q:Hp h D (eachL mb ob hb H mm l a c out++M) R h') (hD:∀j,D j->F j) (n:cntM l out):Hp h F (eachI mb ob hb H (starI (eachL mb ob hb H mm l a c out)).F out::M) R h':=by
 have q:=Hp.star q;exact ⟨q.chg.mono fun j _=>hD j,fun i hi=>by
  rcases qK.1 hi with rfl | hi
  ·have:=q.m _ qX;exact ⟨⟨mm,l,a,c,this.1,fun _ h=>h,n⟩,fun j hj=>⟨(this.2 j hj).1,(this.2 j hj).2.imp (hD j) id⟩⟩
  ·have:=q.m i (qQ _ hi);exact ⟨this.1,fun j hj=>⟨(this.2 j hj).1,(this.2 j hj).2.imp (hD j) id⟩⟩,q.r,kK.2 (kK.1 q.mm),fun a ha b hb=>by
  rcases qK.1 ha with rfl | ha
  ·exact q.mr _ qX b hb
  ·exact q.mr a (qQ _ ha) b hb⟩
end
theorem put4_spl : spl (l.map bv) (p*1) ((fixedN n 4).map bv)=(put4 l p n).map bv:=by
 unfold spl put4;rw [Nat.mul_one,kJ,kJ,List.map_take,List.map_drop,qM,fixedN_len]
theorem _root_.Go.HL.Hp.lenI {h0 h:Heap} {D:Nat->Prop} {M R:List Itm} {e:TypeId} {l:List Int} (ok:Hp h0 D (capI 1 e (a,n,c) (l.map iv)::M) R h):n=l.length:=by
 have h1:Cap h 1 e (.slice a n c) (l.map iv):=ok.m0;have:=h1.sl.cells.1;rw [qM] at this;omega
theorem frOk_iff {N:Nat} {out:List Int} : frOk N out no=true↔2<=no/\no<=(N:Int)/\no∉out:=decide_eq_true_iff
theorem fnum_any {h:Heap} {F E:Nat->Prop} (hl:RdL h F E (a,l.length,c) l) (hp:p+4<=l.length) :
  Hc 125 #[.slice a l.length c,.J (p:Int)] h (fun v h'=>v=.J ((rdN l p 4:Nat):Int)/\h'=h):=by
 have hc2:=hl.m;have hc1:l.length<=c:=hl.c;simp only at hc2;have hr4:=rdN_lt4 l p;refine HC.go Tryz.func125 15 ?_;refine .s<|.z .asI<|.nil<|.s<|.z .mvS<|.z .mvI<|.k 10 .func (read_any (p:=p) (size:=4) (a:=a) (c:=c) (l:=l) hl (by omega) (by omega) (by omega))<|.z .mvU<|.z .ex<|.z .ex<|.z .asI<|.z .asI<|.nil<|.s<|.z .mvI<|.z (.cvi T.in3 T.in207 (ha:=by omega))<|.z .asI<|.nil<|.ret ⟨.J (((rdN l p 4):Nat):Int),Res.one rfl rfl,⟨rfl,rfl⟩⟩
theorem ftold_any {h:Heap} {e:Int} :
  Hc 123 #[.J no,.J e] h (fun v h'=>v=.tuple #[.J (if e=0 then no else 0),.J e]/\h'=h):=by
 refine HC.go Tryz.func123 10 ?_;refine .s<|.z .asI<|.z .asI<|.nil<|.seq<|.s<|.z .mvI<|.z .neq<|.nil<|.cd (fun C0=>?_) (fun C0=>?_)
 ·
  refine .s<|.z .mvI<|.z .asI<|.z .asI<|.nil<|.ret ⟨.tuple #[.J 0,.J e],Res.two rfl rfl rfl,⟨by rw [if_neg C0],rfl⟩⟩
 refine .skip<|.s<|.z .mvI<|.z .asI<|.z .asI<|.nil<|.ret ⟨.tuple #[.J no,.J 0],Res.two rfl rfl rfl,⟨by rw [if_pos (Decidable.not_not.1 C0),Decidable.not_not.1 C0],rfl⟩⟩
theorem froom_any {G:Pgr} {h:Heap} {so:Nat} {F:Nat->Prop} {w:St} (hd:(dsI G so F w).p h) :
  Hc 161 #[.P so] h (fun v h'=>v=.J (((w.z-8) / 4:Nat):Int)/\h'=h):=by
 have hzc:=okSz_c (ds_ok hd).z;refine HC.go Tryz.func161 7 ?_;refine .s<|.z .asI<|.nil<|.s<|.z .mvP<|.k 4 .func (sSize_any (G:=G) (F:=F) (w:=w) hd)<|.z .sub<|.z .quo<|.z .asI<|.nil<|.ret ⟨.J (((w.z:Int)-8) / 4),Res.one rfl rfl,⟨by congr 1;omega,rfl⟩⟩
theorem fput0_any {h:Heap} {D:Nat->Prop} (ok:Hp h D [capI 1 5 (a,l.length,c) (l.map bv)] [] h) (hp:p+4<=l.length) (hn:n<4294967296) (hl:l.length<=1000000) :
  Hc 126 #[.slice a l.length c,.J (p:Int),.J (n:Int)] h (fun v h'=>v=.tuple #[]/\Hp h D [capI 1 5 (a,l.length,c) ((put4 l p n).map bv)] [] h'):=by
 refine HC.go Tryz.func126 13 ?_;refine .a 5 (fun fl hh=>cond fl True (Hp h D [capI 1 5 (a,l.length,c) (l.map bv)] [] hh)) mixed ?_;have hS:=ok;refine .g 0 false rfl 6 hS (fun _=>.mvS)<|.g 1 false rfl 7 hS (fun _=>.mvI)<|.g 2 false rfl 8 hS (fun _=>.sll p T.el35 T.sz5)<|.g 3 false rfl 9 hS (fun _=>.mvI)<|.g 4 false rfl 10 hS (fun _=>.cvs T.in207 T.in3 (M:=18446744073709551616) rfl rfl)<|.o1 5<|.c' true rfl 11 .func (fixed_any (n:=n) (size:=4) (by omega) (by omega) (by omega)) ?_;rintro _ U1 own;obtain ⟨ya1,yc1,rfl⟩:=own.formB;have ok:=ok.own own;refine ⟨trivial,?_⟩;refine .o1 6<|.a' true rfl 12 (.cpyA (n:=l.length) (ys:=(fixedN n 4).map bv) (m:=(fixedN n 4).length) p T.el35 T.sz5 ok.n1 ok.n1.m1.sl bv_all rfl (him:=by rw [fixedN_len];omega)) ?_;rintro _ U2 ⟨rfl,ok,cg⟩;refine ⟨trivial,?_⟩;refine .e ?_;refine .end<|⟨.tuple #[],Res.none rfl,⟨rfl,ok.k1.cx put4_spl⟩⟩
theorem fput_any {h:Heap} {m:Nat} {D:Nat->Prop} (ok:Hp h D [capI 1 5 (a,m,c) (l.map bv)] [] h) (hp:p+4<=l.length) (hn:n<4294967296) (hl:l.length<=1000000) :
  Hc 126 #[.slice a m c,.J (p:Int),.J (n:Int)] h (fun v h'=>v=.tuple #[]/\Hp h D [capI 1 5 (a,m,c) ((put4 l p n).map bv)] [] h'):=by
 obtain rfl:m=l.length:=ok.lenB;exact fput0_any ok hp hn hl
theorem feach_any {h:Heap} {mb ob hb N:Nat} {H:Hd} {F:Nat->Prop} {out:List Int} (ok:Hp h F [eachI mb ob hb H F out] [] h) (hN:H.pages=(N:Int)) (ho:out.length<=1000000) :
  Hc 129 #[.J no,.P mb,.P ob,.P hb] h (fun v h'=>v=.bool (frOk N out no)/\∃F',Hp h F [eachI mb ob hb H F' (out++[no])] [] h'):=by
 obtain ⟨mm,l,a,c,hc,ok,hf⟩:=each_open ok;generalize (starI (eachL mb ob hb H mm l a c out)).F=DF at ok hf;have ok:Hp h DF [boxI mb 201 [.map (some mm)],mapI (Value.int .i64) mm (atE l),boxI ob 93 [.slice a out.length c],capI 1 3 (a,out.length,c) (out.map iv),boxI hb 97 [.J H.size,.J H.pages,.J H.free,.J H.many,.J H.cookie,.J H.version]] [] h:=ok;have hcn:=hc no;have hcl:out.count no<=out.length:=List.count_le_length;have hcm:no∉out->out.count no=0:=fun h=>List.count_eq_zero.2 h;refine HC.go Tryz.func129 28 ?_;refine .s<|.z .asB<|.nil<|.s<|.z (.ldx T.ag201 ok.m0)<|.z .mvI<|.z (.lk (KV.int .i64) no (v:=.J ((out.count no:Nat):Int)) T.mp201 (inB_iff T.in3) T.zr3 ok.m1 (by rw [at_get,hcn]))<|.z (.addI (b:=1))<|.ur' (.mpu (KV.int .i64) V.sbI no (v:=iv' (out.count no+1)) T.mp201 (inB_iff T.in3) ok.n1) ?_;rintro U1 ok;rw [atE_put] at ok;refine .nil ?_;refine .s<|.z (.ldx T.ag93 ok.m2)<|.z .mvI<|.a' 12 (.lit [.tmp 11] (cs:=[.J no]) T.el93 T.sz3 T.zr3 ok ⟨rfl,trivial⟩) ?_;rintro _ U2 ⟨pb1,rfl,ok,xe⟩;refine .a' 13 (.app (news:=[.J no]) T.el93 T.sz3 T.by3 T.zr3 ok.n4 (ok.n4.m1).sl (oneL rfl) (by simp only [qM,qV,qB];omega)) ?_;rintro _ U3 ⟨ya1,yn1,yc1,rfl,ok,ap⟩;have ok:=(ok).cx (ys:=(out++[no]).map iv) snocI;obtain rfl:yn1=(out++[no]).length:=ok.lenI;refine .ur' (.stS T.sz93 ok.n4) ?_;rintro U4 ⟨ok,cg⟩;refine .nil ?_;refine .s<|.z .mvI<|.z .geq<|.z .mvB<|.sd (fun G16=>?_) (fun G16=>?_)
 ·
  refine .z .mvI<|.z (.fa T.fd97_1)<|.z (.ldx T.ag3 ok.m5)<|.z .leq<|.z .pkt<|.z .mvB<|.sd (fun G22=>?_) (fun G22=>?_)
  ·
   refine .z (.ldx T.ag201 ok.m4)<|.z .mvI<|.z (.lk (KV.int .i64) no (v:=.J ((out.count no+1:Nat):Int)) T.mp201 (inB_iff T.in3) T.zr3 ok.m3 (by rw [at_get,mget_mput,if_pos rfl];rfl))<|.z .eql<|.z .pkt<|.z .asB<|.nil<|.ret ⟨.bool (decide (((out.count no+1:Nat):Int)=1)),Res.one rfl rfl,⟨congrArg Value.bool (decide_eq_decide.2 ⟨fun h=>⟨by omega,by omega,List.count_eq_zero.1 (by omega)⟩,fun h=>by have:=hcm h.2.2;omega⟩),_,each_close (M:=[]) (R:=[]) (ok.n5.n2.n2.n4.n5.k5) hf (cntM_put hc)⟩⟩
  refine .y<|.y<|.y<|.y<|.z .pkf<|.z .asB<|.nil<|.ret ⟨.bool false,Res.one rfl rfl,⟨congrArg Value.bool (Eq.symm (Bool.eq_false_iff.2 fun h=>by have:=frOk_iff.1 h;have:=hcm this.2.2;omega)),_,each_close (M:=[]) (R:=[]) (ok.n5.n2.n2.n4.n5.k5) hf (cntM_put hc)⟩⟩
 refine .y<|.y<|.y<|.y<|.z .pkf<|.z .mvB<|.y<|.y<|.y<|.y<|.z .pkf<|.z .asB<|.nil<|.ret ⟨.bool false,Res.one rfl rfl,⟨congrArg Value.bool (Eq.symm (Bool.eq_false_iff.2 fun h=>by have:=frOk_iff.1 h;have:=hcm this.2.2;omega)),_,each_close (M:=[]) (R:=[]) (ok.n5.n2.n2.n4.n5.k5) hf (cntM_put hc)⟩⟩
end
open Go Go.HL
theorem fpages_any {G:Pgr} {h:Heap} {so mb ob hb:Nat} {F Fe:Nat->Prop} {w:St} {H:Hd} {R:Option (List Int)} (ok:Hp h (starI [dsI G so F w,eachI mb ob hb H Fe []]).F [dsI G so F w,eachI mb ob hb H Fe []] [] h) (hN:H.pages=(w.pgs.length:Int)) (hR:frGo w.pgs ((w.z-8) / 4) (w.pgs.length+1) w.head.free []=R) :
  Hc 128 #[.P so,.func (.func 129) #[] #[.P mb,.P ob,.P hb]] h (fun v h'=>∃(c:Nat) (F' Fe':Nat->Prop) (out:List Int),v=.J (c:Int)/\Hp h (starI [dsI G so F w,eachI mb ob hb H Fe []]).F [dsI G so F' w,eachI mb ob hb H Fe' out] [] h'/\((R=some out/\c=0)\/(R=none/\c=14))):=by
 have hso:=ds_ok ok.m0;have hzc:=okSz_c hso.z;have hfew:=St.few hso;refine HC.go Tryz.func128 49 ?_;refine .s<|.z .asI<|.nil<|.seq<|.s<|.z .mvP<|.c' 11 .func (sHead_any (G:=G) (w:=w) (ok).loc0) ?_;rintro _ U1 ⟨Fh1,rfl,q⟩;have ok:=(ok).lift1 q;rw [show w.head.val=.agg #[.J w.head.size,.J w.head.pages,.J w.head.free,.J w.head.many,.J w.head.cookie,.J w.head.version] from rfl];refine .z (.fd T.fd97_2 T.ag3)<|.z .asI<|.nil<|.block fun K0 hK0=>.loop (fun m s hh=>∃(at_:Int) (out:List Int) (f:Nat) (F1 Fe1:Nat->Prop),Has s [(0,.P so),(1,.func (.func 129) #[] #[.P mb,.P ob,.P hb]),(5,.J at_)]/\Hp h (starI [dsI G so F w,eachI mb ob hb H Fe []]).F [dsI G so F1 w,eachI mb ob hb H Fe1 out] [] hh/\Met w.pgs.length out/\frGo w.pgs ((w.z-8) / 4) f at_ out=R/\w.pgs.length+1<=out.length+f/\m=f*1) ?_ ?_
 ·exact ⟨_,w.head.free,[],w.pgs.length+1,Fh1,Fe,⟨rfl,rfl,rfl,trivial⟩,ok.n1.n1,Met.nil,hR,by simp,rfl⟩
 rintro _ _ U2 ⟨at_,out,f,F1,Fe1,hs,ok,hm,hg,hf,rfl⟩ J0 hJ0;refine .frame hs fun τ=>?_;refine .seq<|.seq<|?_;have hlen:=hm.len;obtain ⟨f,rfl⟩:∃g,f=g+1:=⟨f-1,by omega⟩;refine .r<|.z .mvI<|.z .neq<|.nil<|.cdr (fun C0=>?_) (fun C0=>?_)
 ·
  have hat:at_=0:=Decidable.not_not.1 C0;refine .exit<|hK0 _ _<|.s<|.z .asI<|.nil<|.ret ⟨.J 0,Res.one rfl rfl,⟨0,F1,Fe1,out,rfl,(ok),.inl ⟨by rw [<-hg,hat];exact frGo_0,rfl⟩⟩⟩
 refine .skip<|.block fun K1 hK1=>.seq<|.s<|.z .mvF<|.z .mvI<|.c' 17 .dyn (feach_any (N:=w.pgs.length) (H:=H) (out:=out) (no:=at_) (ok.n1).loc0 hN (by first | omega | (have:=hmo.len;omega))) ?_;rintro _ U3 ⟨rfl,Fc1,q⟩;have ok:=(ok.n1).lift1 q;refine .z .not<|.nil<|.cond (fun C1=>?_) (fun C1=>?_)
 ·
  refine .s<|.z .asI<|.nil<|.ret ⟨.J 14,Res.one rfl rfl,⟨14,F1,Fc1,out++[at_],rfl,(ok.n1),.inr ⟨by rw [<-hg];exact frGo_bad C0 (by simpa using C1),rfl⟩⟩⟩
 have hk0:frOk w.pgs.length out at_=true:=by simpa using C1
 obtain ⟨hk1a,hk2a,hk3a⟩:=frOk_iff.1 hk0;refine .skip<|.seq<|?_;obtain ⟨b,hbe⟩:∃b,b=(w.pgs.getD (at_-1).toNat []):=⟨_,rfl⟩;refine .r<|.z .mvP<|.z .mvI<|.c' 22 .func (sReadOk_any (G:=G) (w:=w) (no:=at_) (b:=b) (ok.n1).loc0 (by omega) (by omega) hbe) ?_;rintro _ U4 ⟨Fr1,xr1,cr1,rfl,hlr1,q⟩;have ok:=(ok.n1).lift2 q;refine .z .mvU<|.z .ex<|.z .ex<|.z .asS<|.z .asI<|.nil<|.seq<|.s<|.z .mvI<|.z .neq<|.nil<|.cf<|.skip<|.s<|.z .mvS<|.k 29 .func (fnum_any (p:=4) (a:=xr1) (c:=cr1) (l:=b) (RdL.ofCapB (v:=(xr1,b.length,cr1)) (l:=b) ok.m0) (by omega))<|.z .asI<|.nil<|.seq<|.s<|.z .mvI<|.z .mvP<|.k 32 .func (froom_any (G:=G) (F:=Fr1) (w:=w) ok.m1)<|.z .gtr<|.nil<|.cd (fun C3=>?_) (fun C3=>?_)
 ·
  refine .s<|.z .asI<|.nil<|.ret ⟨.J 14,Res.one rfl rfl,⟨14,Fr1,Fc1,out++[at_],rfl,(ok.n2.n2.k2),.inr ⟨by rw [<-hg];exact frGo_many C0 hk0 (by rw [<-hbe];omega),rfl⟩⟩⟩
 refine .skip<|.seq<|.s<|.z .mvI<|.z .mvI<|.nil<|.block fun K2 hK2=>.loop (fun m s hh=>∃(i:Nat) (o:List Int) (Fe2:Nat->Prop),Has s [(0,.P so),(1,.func (.func 129) #[] #[.P mb,.P ob,.P hb]),(6,.slice xr1 b.length cr1),(34,.J (((rdN b 4 4):Nat):Int)),(35,.J (i:Int))]/\Hp h (starI [dsI G so F w,eachI mb ob hb H Fe []]).F [dsI G so Fr1 w,eachI mb ob hb H Fe2 o,capI 1 5 (xr1,b.length,cr1) (b.map bv)] [] hh/\Met w.pgs.length o/\frIn w.pgs.length ((frNums b).drop i) o=frIn w.pgs.length (frNums b) (out++[at_])/\i<=rdN b 4 4/\out.length+1<=o.length/\m=rdN b 4 4-i) ?_ ?_
 ·exact ⟨_,0,out++[at_],Fc1,⟨rfl,rfl,rfl,rfl,rfl,trivial⟩,ok.n2.n2,hm.snoc hk0,rfl,qL _,by simp,rfl⟩
 rintro _ _ U5 ⟨i,o,Fe2,hs,ok,hmo,hin,hi,hol,rfl⟩ J1 hJ1;refine .frame hs fun τ=>?_;refine .s<|.z .lss<|.nil<|.seq<|.cdr (fun C4=>?_) (fun C4=>?_)
 ·
  refine .exit<|hK2 _ _<|?_;have hi3:i=rdN b 4 4:=by omega
  have hgo:frGo w.pgs ((w.z-8) / 4) f ((rdN b 0 4:Nat):Int) o=R:=by
   rw [<-hg,frGo_in C0 hk0 (by rw [<-hbe];omega),<-hbe,<-hin,hi3,qN (by rw [frNums_len];exact qR _),frIn_nil];rfl
  refine .r<|.z .mvS<|.k 48 .func (fnum_any (p:=0) (a:=xr1) (c:=cr1) (l:=b) (RdL.ofCapB (v:=(xr1,b.length,cr1)) (l:=b) ok.m2) (by omega))<|.z .asI<|.nil<|.end<|hK1 _ _<|.end<|hJ0 _ _ _ ⟨(((rdN b 0 4):Nat):Int),o,f,Fr1,Fe2,⟨rfl,rfl,rfl,trivial⟩,ok.n1.n1.k2,hmo,hgo,by omega,rfl⟩ (by omega)
 have hi2:i<rdN b 4 4:=by omega
 refine .skip<|.seq<|.block fun K3 hK3=>.s<|.z .mvI<|.z .asI<|.nil<|.s<|.z .mvF<|.z .mvS<|.z .mvI<|.z (.mulI (a:=4))<|.z (.addI (a:=8))<|.k 43 .func (fnum_any (p:=(8+(4*i))) (a:=xr1) (c:=cr1) (l:=b) (RdL.ofCapB (v:=(xr1,b.length,cr1)) (l:=b) ok.m2) (by omega))<|.c' 44 .dyn (feach_any (N:=w.pgs.length) (H:=H) (out:=o) (no:=(((rdN b (8+(4*i)) 4):Nat):Int)) (ok.n1).loc0 hN (by first | omega | (have:=hmo.len;omega))) ?_;rintro _ U6 ⟨rfl,Fc2,q⟩;have ok:=(ok.n1).lift1 q;refine .z .not<|.nil<|.cond (fun C5=>?_) (fun C5=>?_)
 ·
  refine .s<|.z .asI<|.nil<|.ret ⟨.J 14,Res.one rfl rfl,⟨14,Fr1,Fc2,o++[(((rdN b (8+(4*i)) 4):Nat):Int)],rfl,(ok.n1.k2),.inr ⟨by rw [<-hg];exact (by rw [frGo_in C0 hk0 (by rw [<-hbe];omega),<-hbe,<-hin,frNums_drop hi2,frIn_no (by simpa using C5)];rfl),rfl⟩⟩⟩
 have hk1:frOk w.pgs.length o ((rdN b (8+4*i) 4:Nat):Int)=true:=by simpa using C5
 refine .skip<|.end<|hK3 _ _<|.r<|.z (.addI (b:=1))<|.z .mvI<|.nil<|.end<|hJ1 _ _ _ ⟨i+1,o++[((rdN b (8+4*i) 4:Nat):Int)],Fc2,⟨rfl,rfl,rfl,rfl,rfl,trivial⟩,ok.n2.n1.n2,hmo.snoc hk1,by rw [<-hin,frNums_drop hi2,frIn_ok hk1],by omega,by simp;omega,rfl⟩ (by omega)
section
variable {w:St} {h:Heap} {F:Nat->Prop} {l:List Int} {G:Pgr} {so:Nat}
theorem frL_n (h:frAll w=none):frL w=[]/\frC w=14:=by unfold frL frC;rw [h];exact ⟨rfl,rfl⟩
theorem frL_s (h:frAll w=some l):frL w=l/\frC w=0:=by unfold frL frC;rw [h];exact ⟨rfl,rfl⟩
theorem frAll_n (h:frGo w.pgs ((w.z-8) / 4) (w.pgs.length+1) w.head.free []=none):frAll w=none:=by unfold frAll;rw [h];rfl
theorem frAll_m (h:frGo w.pgs ((w.z-8) / 4) (w.pgs.length+1) w.head.free []=some l) (hm:(l.length:Int)≠w.head.many):frAll w=none:=by unfold frAll;rw [h];exact if_neg hm
theorem frAll_s (h:frGo w.pgs ((w.z-8) / 4) (w.pgs.length+1) w.head.free []=some l) (hm:(l.length:Int)=w.head.many):frAll w=some l:=by unfold frAll;rw [h];exact if_pos hm
theorem each_openM {h0:Heap} {mb ob hb:Nat} {H:Hd} {D:Nat->Prop} {out:List Int} {M R:List Itm} (ok:Hp h0 D (eachI mb ob hb H F out::M) R h):∃mm l a c,Hp h0 D (eachL mb ob hb H mm l a c out++M) R h:=by
 obtain ⟨mm,l,a,c,q,f,n⟩:=ok.m0;exact ⟨mm,l,a,c,Hp.unstar (ok.re (starI (eachL mb ob hb H mm l a c out)) q f)⟩
theorem fall_any (ok:Hp h F [dsI G so F w] [] h) :
  Hc 90 #[.P so] h (fun v h'=>∃F' x c,v=.tuple #[.slice x (frL w).length c,.J ((frC w:Nat):Int)]/\Hp h F [capI 1 3 (x,(frL w).length,c) ((frL w).map iv),dsI G so F' w] [] h'):=by
 have hso:=ds_ok ok.m0;have hzc:=okSz_c hso.z;have hfew:=St.few hso;have hhr:=St.head_r hso;have hhp:=St.head_pages (w:=w);have hH:=hhr.size;have hHf:=hhr.free;have hHm:=hhr.many;have hHc:=hhr.cookie;have hHv:=hhr.version;refine HC.go Tryz.func90 25 ?_;refine .s<|.z .asS<|.z .asI<|.nil<|.s<|.z .mvP<|.c' 9 .func (sHead_any (G:=G) (w:=w) (ok).loc0) ?_;rintro _ U1 ⟨Fh1,rfl,q⟩;have ok:=(ok).lift1 q;rw [show w.head.val=.agg #[.J w.head.size,.J w.head.pages,.J w.head.free,.J w.head.many,.J w.head.cookie,.J w.head.version] from rfl];refine .a' 4 (.alA T.zr97 ok) ?_;rintro _ U2 ⟨pb1,rfl,ok,xe⟩;refine .ur' (.stW (vs:=[.J w.head.size,.J w.head.pages,.J w.head.free,.J w.head.many,.J w.head.cookie,.J w.head.version]) T.sz97 ok (oneL rfl)) ?_;rintro U3 ⟨ok,cg⟩;refine .nil ?_;refine .s<|.a' 10 (.mkm (Value.int .i64) ok) ?_;rintro _ U4 ⟨mb1,rfl,ok⟩;refine .a' 5 (.alM T.zr201 ok) ?_;rintro _ U5 ⟨pb2,rfl,ok,xe⟩;refine .ur' (.stM T.sz201 ok) ?_;rintro U6 ⟨ok,cg⟩;refine .nil ?_;refine .s<|.a' 6 (.alS T.zr93 ok) ?_;rintro _ U7 ⟨pb3,rfl,ok,xe⟩;refine .nil ?_;refine .seq<|?_;have ok:=ok.nilC (k:=1) (e:=3);obtain ⟨D0,ok0⟩:∃D0,Hp h F (eachI pb2 pb3 pb1 w.head D0 []::[dsI G so Fh1 w]) [] _:=⟨_,each_close (out:=[]) (l:=[]) (H:=w.head) (F:=F) (ok.n4.n1.n2.n4.n4) (fun _ h=>h) cntM_nil⟩;refine .r<|.z .mvP<|.z (.mkf (vs:=[.P pb2,.P pb3,.P pb1]))<|.c' 13 .func (fpages_any (G:=G) (w:=w) (H:=w.head) (Hp.lc2 ok0.n1) St.head_pages rfl) ?_;rintro _ U8 ⟨cp1,Fp1,Ep1,op1,rfl,q,hRp1⟩;have ok:=Hp.lf2 ok0.n1 q;refine .z .asI<|.nil<|.seq<|.block fun K0 hK0=>.s<|.z .mvI<|.z .neq<|.z .asB<|.nil<|.cd (fun C0=>?_) (fun C0=>?_)
 ·
  refine .s<|.z .mvI<|.z .asS<|.z .asI<|.nil ?_;obtain ⟨hRn,hz⟩:=hRp1.resolve_left (fun h=>by have:=h.2;omega);obtain ⟨hl0,hc0⟩:=frL_n (frAll_n hRn);have ok:=ok.nilC (k:=1) (e:=3);refine .ret ⟨.tuple #[.N,.J (cp1:Int)],Res.two rfl rfl rfl,⟨_,none,0,by rw [hl0,hc0,hz];rfl,by rw [hl0];exact (ok).k2⟩⟩
 obtain ⟨hRs,hz⟩:=hRp1.resolve_right (fun h=>by have:=h.2;omega);obtain ⟨mm2,l2,a2,c2,ok⟩:=each_openM (ok.n1);have ok:Hp h F [boxI pb2 201 [.map (some mm2)],mapI (Value.int .i64) mm2 (atE l2),boxI pb3 93 [.slice a2 op1.length c2],capI 1 3 (a2,op1.length,c2) (op1.map iv),boxI pb1 97 [.J w.head.size,.J w.head.pages,.J w.head.free,.J w.head.many,.J w.head.cookie,.J w.head.version],dsI G so Fp1 w] [] _:=ok;refine .s<|.z (.ldx T.ag93 ok.m2)<|.z (.len T.el93)<|.z (.fa T.fd97_3)<|.z (.ldx T.ag3 ok.m4)<|.z .neq<|.z .asB<|.nil<|.cd (fun C1=>?_) (fun C1=>?_)
 ·
  refine .s<|.z .asS<|.z .asI<|.nil ?_;obtain ⟨hl0,hc0⟩:=frL_n (frAll_m hRs (by omega));have ok:=ok.nilC (k:=1) (e:=3);refine .ret ⟨.tuple #[.N,.J 14],Res.two rfl rfl rfl,⟨_,none,0,by rw [hl0,hc0];rfl,by rw [hl0];exact (ok.n6.n1).k2⟩⟩
 refine .skip<|.end<|hK0 _ _<|.s<|.z (.ldx T.ag93 ok.m2)<|.z .asS<|.z .asI<|.nil ?_;obtain ⟨hl0,hc0⟩:=frL_s (frAll_s hRs (by omega));refine .ret ⟨.tuple #[.slice a2 op1.length c2,.J 0],Res.two rfl rfl rfl,⟨_,a2,c2,by rw [hl0,hc0];rfl,by rw [hl0];exact (ok.n5.n4).k2⟩⟩
theorem frOp_10 (h:w.in_=false):frOp w=([],10):=if_pos h
theorem frOp_4 (h:w.in_=true) (h2:w.pgs.length=0):frOp w=([],4):=by unfold frOp;rw [if_neg (by rw [h];decide),if_pos h2]
theorem frOp_l (h:w.in_=true) (h2:w.pgs.length≠0):frOp w=(frL w,frC w):=by unfold frOp;rw [if_neg (by rw [h];decide),if_neg h2]
theorem frL_few {w:St} (k:StOk w):(frL w).length<=65536:=by
 have hf:=St.few k;unfold frL;cases h:frAll w with
 | none=>show ([]:List Int).length<=_;simp
 | some l=>
  show l.length<=_;have hm:=(St.head_r k).many;unfold frAll at h;cases hg:frGo w.pgs ((w.z-8) / 4) (w.pgs.length+1) w.head.free [] with
  | none=>rw [hg] at h;cases h
  | some l'=>
   rw [hg] at h;have h2:(if (l'.length:Int)=w.head.many then some l' else none)=some l:=h;split at h2
   ·injection h2 with h2;subst h2;have:=(frGo_met _ _ _ Met.nil hg).len;omega
   ·cases h2
theorem fopen_any (ok:Hp h F [dsI G so F w] [] h) :
  Hc 122 #[.P so] h (fun v h'=>∃F' x c,v=.tuple #[.slice x ((frOp w).1).length c,.J (((frOp w).2:Nat):Int)]/\Hp h F [capI 1 3 (x,((frOp w).1).length,c) (((frOp w).1).map iv),dsI G so F' w] [] h'):=by
 have hso:=ds_ok ok.m0;have hzc:=okSz_c hso.z;have hfew:=St.few hso;have hhr:=St.head_r hso;have hhp:=St.head_pages (w:=w);have hH:=hhr.size;have hHf:=hhr.free;have hHm:=hhr.many;have hHc:=hhr.cookie;have hHv:=hhr.version;refine HC.go Tryz.func122 20 ?_;refine .s<|.z .asS<|.z .asI<|.nil<|.seq<|.block fun K0 hK0=>.s<|.z .mvP<|.z (.pEqS T.pt24)<|.z .asB<|.nil<|.cf<|.s<|.z .mvP<|.k 9 .func (sIn_any (G:=G) (F:=F) (w:=w) ok.m0)<|.z .not<|.z .asB<|.nil<|.cond (fun C1=>?_) (fun C1=>?_)
 ·
  refine .s<|.z .asS<|.z .asI<|.nil ?_;have ok:=ok.nilC (k:=1) (e:=3);refine .ret ⟨.tuple #[.N,.J 10],Res.two rfl rfl rfl,⟨_,none,0,by rw [frOp_10 (by simpa using C1)]<;>rfl,by rw [frOp_10 (by simpa using C1)];exact ok⟩⟩
 refine .s<|.z .mvP<|.c' 13 .func (sHead_any (G:=G) (w:=w) (ok).loc0) ?_;rintro _ U1 ⟨Fh1,rfl,q⟩;have ok:=(ok).lift1 q;rw [show w.head.val=.agg #[.J w.head.size,.J w.head.pages,.J w.head.free,.J w.head.many,.J w.head.cookie,.J w.head.version] from rfl];refine .z (.fd T.fd97_1 T.ag3)<|.z .eql<|.z .asB<|.nil<|.cd (fun C2=>?_) (fun C2=>?_)
 ·
  refine .s<|.z .asS<|.z .asI<|.nil ?_;have ok:=ok.nilC (k:=1) (e:=3);refine .ret ⟨.tuple #[.N,.J 4],Res.two rfl rfl rfl,⟨_,none,0,by rw [frOp_4 (by simpa using C1) (by omega)]<;>rfl,by rw [frOp_4 (by simpa using C1) (by omega)];exact ok⟩⟩
 refine .skip<|.end<|hK0 _ _<|.s<|.z .mvP<|.c' 17 .func (fall_any (G:=G) (w:=w) (ok).loc0) ?_;rintro _ U2 ⟨Fl1,xl1,cl1,rfl,q⟩;have ok:=(ok).lift2 q;refine .z .ex<|.z .ex<|.z .asS<|.z .asI<|.nil<|.ret ⟨.tuple #[.slice xl1 ((frL w).length) cl1,.J ((frC w:Nat):Int)],Res.two rfl rfl rfl,⟨_,xl1,cl1,by rw [frOp_l (by simpa using C1) (by omega)]<;>rfl,by rw [frOp_l (by simpa using C1) (by omega)];exact ok⟩⟩
theorem fheaded_any {f m:Int} (ok:Hp h F [dsI G so F w] [] h) (hf:0<=f/\f<=4294967296) (hm : -1<=m/\m<=4294967296) :
  Hc 127 #[.P so,.J f,.J m] h (fun v h'=>∃F',v=.J (((hdd w f m).2:Nat):Int)/\Hp h F [dsI G so F' (hdd w f m).1] [] h'):=by
 have hso:=ds_ok ok.m0;have hzc:=okSz_c hso.z;have hfew:=St.few hso;have hhr:=St.head_r hso;have hhp:=St.head_pages (w:=w);have hH:=hhr.size;have hHf:=hhr.free;have hHm:=hhr.many;have hHc:=hhr.cookie;have hHv:=hhr.version;refine HC.go Tryz.func127 17 ?_;refine .s<|.z .asI<|.nil<|.s<|.z .mvP<|.c' 9 .func (sHead_any (G:=G) (w:=w) (ok).loc0) ?_;rintro _ U1 ⟨Fh1,rfl,q⟩;have ok:=(ok).lift1 q;rw [show w.head.val=.agg #[.J w.head.size,.J w.head.pages,.J w.head.free,.J w.head.many,.J w.head.cookie,.J w.head.version] from rfl];refine .a' 7 (.alA T.zr97 ok) ?_;rintro _ U2 ⟨pb1,rfl,ok,xe⟩;refine .ur' (.stW (vs:=[.J w.head.size,.J w.head.pages,.J w.head.free,.J w.head.many,.J w.head.cookie,.J w.head.version]) T.sz97 ok (oneL rfl)) ?_;rintro U3 ⟨ok,cg⟩;refine .nil ?_;refine .s<|.z .mvI<|.z .mvI<|.z (.fa T.fd97_2)<|.ur' (.stI T.sz3 ok) ?_;rintro U4 ⟨ok,cg⟩;refine .z (.fa T.fd97_3)<|.ur' (.stI T.sz3 ok) ?_;rintro U5 ⟨ok,cg⟩;refine .nil ?_;refine .s<|.z .mvP<|.z (.ldb T.ag97 ok.m0 T.sz97)<|.c' 16 .func (sSetHead_any (G:=G) (w:=w) (H:=(⟨w.head.size,w.head.pages,f,m,w.head.cookie,w.head.version⟩:Hd)) (ok.n1).loc0 ⟨⟨by show _<=w.head.size;omega,by show w.head.size<=_;omega⟩,⟨by show _<=w.head.pages;omega,by show w.head.pages<=_;omega⟩,⟨by show _<=f;omega,by show f<=_;omega⟩,⟨by show _<=m;omega,by show m<=_;omega⟩,⟨by show _<=w.head.cookie;omega,by show w.head.cookie<=_;omega⟩,⟨by show _<=w.head.version;omega,by show w.head.version<=_;omega⟩⟩) ?_;rintro _ U6 ⟨Fs1,rfl,q⟩;have ok:=(ok.n1).lift1 q;refine .z .asI<|.nil<|.ret ⟨.J (((w.setHead (⟨w.head.size,w.head.pages,f,m,w.head.cookie,w.head.version⟩:Hd)).2:Nat):Int),Res.one rfl rfl,⟨_,rfl,(ok).k1⟩⟩
end
end Go.Proofs.YtfegfklipbnhjaaGreat
