/- The pager that keeps a journal, its small parts: a file removed for good, the journal and its mark removed, the file's length. Conditions: the disk is in order. The pager that keeps a journal: the file is looked at. Conditions: the disk is in order. The pager that keeps a journal: the journal's pages are laid over the file. Conditions: the disk is in order; the frames' pages are in their range. Journals: sizes, beginnings and entries, of the program and of the document. Conditions: the slices are readable, numbers in their ranges. The program's Scan of a journal. Conditions: the bytes are readable. The pager that keeps a journal: the file is healed. Conditions: the disk is in order. The pager that keeps a journal, in memory: its box, the map of what is kept, and its disk as one item that turns (the core); the cache beside it. Conditions: those that each fact names. The pager that keeps a journal: its state, its present pages, a call's end, a page's bytes in the file. Conditions: the pager is in order. The pager that keeps a journal: the journal and its mark are written. Conditions: the pager is in order. The pager that keeps a journal: what save puts into the journal, in plain terms. Conditions: those that each fact names. The pager that keeps a journal: save. Conditions: the pager is in order. -/
import Derived.Test.YtpeaicddbnghfaaGreatPkC5
set_option maxRecDepth 100000
set_option maxHeartbeats 2000000
set_option linter.all false
namespace Go.Proofs.YtpeaicddbnghfaaGreat
open Go Go.HL
section
variable {d:Dk} {n:List UInt8}
theorem size_f (h:(sizeN d n).2=false):d.dark=true∨thereN d n=false:=by
 unfold sizeN at h;split at h
 ·assumption
 ·cases h
theorem size_t (h:(sizeN d n).2=true):d.dark=false∧thereN d n=true:=by
 unfold sizeN at h;split at h
 ·cases h
 ·rename_i h1;exact ⟨by cases hd:d.dark<;>simp [hd] at h1⊢,by cases ht:thereN d n<;>simp [ht] at h1⊢⟩
theorem rem_dark (hn:1≤n.length∧n.length≤32) (h:d.dark=true):removeN d n=(d,13):=by
 have h1:wrongN d n []=13:=by unfold wrongN;rw [if_neg (by rintro (h | h | ⟨z,hz,_⟩)<;>first | omega | cases hz),if_pos h]
 unfold removeN;rw [h1];rfl
theorem rem_none (hn:1≤n.length∧n.length≤32) (h:d.dark=false) (ht:thereN d n=false):removeN d n=(d,4):=by
 have h1:wrongN d n []=0:=by unfold wrongN;rw [if_neg (by rintro (h | h | ⟨z,hz,_⟩)<;>first | omega | cases hz),if_neg (by simp [h])]
 unfold removeN;rw [h1];simp [ht]
theorem rem_there (h:thereN d n=true):(removeN d n).2≠4:=by
 unfold removeN wrongN doN powerN
 repeat' split
 all_goals first | (simp_all;done) | (simp only;omega)
theorem bgone_1 (hn:1≤n.length∧n.length≤32) (h:d.dark=true):goneN d n=(d,13):=by unfold goneN;rw [rem_dark hn h];rfl
theorem bgone_2 (hn:1≤n.length∧n.length≤32) (h:(sizeN d n).2=false) (hd:d.dark=false):goneN d n=(d,0):=by
 unfold goneN;rw [rem_none hn hd ((size_f h).resolve_left (by simp [hd]))];rfl
theorem bgone_3 (h:(removeN d n).2=0):goneN d n=syncN (removeN d n).1 n:=if_pos h
theorem bgone_4 (h:(sizeN d n).2=true) (h1:(removeN d n).2≠0):goneN d n=removeN d n:=by
 unfold goneN;rw [if_neg h1,if_neg (rem_there (size_t h).2)]
theorem over_e (h:(goneN d nM).2≠0):overB d=goneN d nM:=thenN_e h
theorem over_0 (h:(goneN d nM).2=0):overB d=goneN (goneN d nM).1 nJ:=thenN_0 h
theorem over_chg:(overB d).1.chg≤d.chg+4:=by
 have:=then_chg (f:=fun d=>goneN d nJ) (y:=2) (gone_chg (d:=d) (n:=nM)) (fun d=>gone_chg) (by omega);unfold overB;omega
theorem DkOk.over (k:DkOk d):DkOk (overB d).1:=DkOk.then k.gone fun _ k=>k.gone
variable {m:Nat}
theorem len_1 (h:(sizeN d nT).2=false) (h0:m=0) (hd:d.dark=false):lengthB d m=(d,0):=by unfold lengthB;rw [if_pos h,if_pos ⟨h0,hd⟩]
theorem len_2 (h:(sizeN d nT).2=false) (h0:¬(m=0∧d.dark=false)):lengthB d m=thenN (writeN d nT ((m:Int)-1) [0]) fun d=>syncN d nT:=by unfold lengthB;rw [if_pos h,if_neg h0]
theorem len_3 (h:(sizeN d nT).2=true) (h0:(sizeN d nT).1≠m):lengthB d m=thenN (truncN d nT (m:Int)) fun d=>syncN d nT:=by unfold lengthB;rw [if_neg (by simp [h]),if_pos h0]
theorem len_4 (h:(sizeN d nT).2=true) (h0:(sizeN d nT).1=m):lengthB d m=syncN d nT:=by unfold lengthB;rw [if_neg (by simp [h]),if_neg (by simpa using h0)]
theorem len_chg:(lengthB d m).1.chg≤d.chg+2:=by
 unfold lengthB;repeat' split
 ·simp only;omega
 ·exact Int.le_trans (then_chg (x:=d.chg+1) (y:=1) write_chg (fun d=>sync_chg) (by omega)) (by omega)
 ·exact Int.le_trans (then_chg (x:=d.chg+1) (y:=1) trunc_chg (fun d=>sync_chg) (by omega)) (by omega)
 ·have:=sync_chg (d:=d) (n:=nT);omega
theorem DkOk.len (k:DkOk d):DkOk (lengthB d m).1:=by
 unfold lengthB;repeat' split
 ·exact k
 ·exact DkOk.then k.write fun _ k=>k.sync
 ·exact DkOk.then k.trunc fun _ k=>k.sync
 ·exact k.sync
end
theorem bgone_any {h:Heap} {d:Nat} {n:List UInt8} {r:RD} {E:Nat→Prop} (ok:Hp h (dskI d r).F [dskI d r] [bysI E r.fs] h) (hk:DkOk r.abs) (hcg:r.chg<900000000) (hn:1≤n.length∧n.length≤32) :
  HC Tryz.prog 186 #[.pointer (some ⟨d,0,none⟩),.string (BA n)] h (fun v h'=>∃r' E',v=.int .i64 ((goneN r.abs n).2:Int)∧r'.abs=(goneN r.abs n).1∧DUp h h' d r r' E E'):=by
 refine HC.go Tryz.func186 27 ?_;refine .seq<|.r<|.z .asI<|.nil ?_;refine .seq<|.seq<|.r<|.z .mvP<|.z .mvT<|.k 11 .func (size_anyD (d:=d) (r:=r) (n:=n) (ok.m0))<|.z .mvU<|.z .ex<|.z .ex<|.z .asI<|.z .asB<|.nil ?_;refine .seq<|.r<|.z .mvB<|.z .not<|.nil ?_;refine .cond (fun C0=>?_) (fun C0=>?_)
 ·
  have hs0:(sizeN r.abs n).2=false:=by simpa using C0
  refine .seq<|.seq<|.r<|.z .mvP<|.k 17 .func (dark_any (d:=d) (r:=r) (dsk_parts (ok.m0)).1)<|.nil ?_;refine .cond (fun C1=>?_) (fun C1=>?_)
  ·
   refine .seq<|.r<|.z .asI<|.nil ?_;refine .ret ⟨.int .i64 13,Res.one rfl rfl,⟨r,E,(by rw [bgone_1 hn (show r.abs.dark=true from C1)];rfl),(by rw [bgone_1 hn (show r.abs.dark=true from C1)]),((ok).k1.e1).up (fun _ h=>Or.inl h)⟩⟩
  refine .skip<|.seq<|.r<|.z .asI<|.nil ?_;refine .ret ⟨.int .i64 0,Res.one rfl rfl,⟨r,E,(by rw [bgone_2 hn hs0 (show r.dark=false by simpa using C1)];rfl),(by rw [bgone_2 hn hs0 (show r.dark=false by simpa using C1)]),((ok).k1.e1).up (fun _ h=>Or.inl h)⟩⟩
 have hs0:(sizeN r.abs n).2=true:=by simpa using C0
 refine .skip<|.seq<|.seq<|.r<|.z .mvP<|.z .mvT<|.c' 20 .func (remove_any (d:=d) (r:=r) (E:=E) (n:=n) (ok).loc1 hk (by omega)) ?_;rintro _ η1 ⟨rw1,Ew1,rfl,haw1,upw1⟩;have hzw1:=(ok).chg.size;have ok:=(ok).dsk (d:=d) (r:=r) upw1;have hkw1:DkOk rw1.abs:=by rw [haw1];exact (hk).remove
 have hcw1:rw1.chg≤r.chg+1:=Int.le_trans (Int.le_of_eq (congrArg Dk.chg haw1)) remove_chg;have hnw1:=fun j hj=>(upw1.new j hj).elim ((fun _ h=>Or.inl h) j) fun h1=>Or.inr (Nat.le_trans hzw1 h1);refine .z .asI<|.nil ?_;refine .seq<|.r<|.z .mvI<|.z .neq<|.nil ?_;refine .cd (fun C2=>?_) (fun C2=>?_)
 ·
  refine .seq<|.r<|.z .mvI<|.z .asI<|.nil ?_;refine .ret ⟨.int .i64 ((removeN r.abs n).2:Int),Res.one rfl rfl,⟨rw1,Ew1,(by rw [bgone_4 hs0 (by omega)]),(by rw [bgone_4 hs0 (by omega)];exact haw1),((ok).k1.e1).up hnw1⟩⟩
 refine .skip<|.seq<|.r<|.z .mvP<|.z .mvT<|.c' 26 .func (sync_any (d:=d) (r:=rw1) (E:=Ew1) (n:=n) (ok).loc1 hkw1 (by omega)) ?_;rintro _ η2 ⟨rw2,Ew2,rfl,haw2,upw2⟩;have hzw2:=(ok).chg.size;have ok:=(ok).dsk (d:=d) (r:=rw1) upw2;have hkw2:DkOk rw2.abs:=by rw [haw2];exact (hkw1).sync
 have hcw2:rw2.chg≤rw1.chg+1:=Int.le_trans (Int.le_of_eq (congrArg Dk.chg haw2)) sync_chg;have hnw2:=fun j hj=>(upw2.new j hj).elim (hnw1 j) fun h1=>Or.inr (Nat.le_trans hzw2 h1);refine .z .asI<|.nil ?_;refine .ret ⟨.int .i64 ((syncN rw1.abs n).2:Int),Res.one rfl rfl,⟨rw2,Ew2,(by rw [bgone_3 (by omega),haw1]),(by rw [bgone_3 (by omega),←haw1];exact haw2),((ok).k1.e1).up hnw2⟩⟩
theorem bover_any {h:Heap} {d:Nat} {r:RD} {E:Nat→Prop} (ok:Hp h (dskI d r).F [dskI d r] [bysI E r.fs] h) (hk:DkOk r.abs) (hcg:r.chg<800000000) :
  HC Tryz.prog 140 #[.pointer (some ⟨d,0,none⟩)] h (fun v h'=>∃r' E',v=.int .i64 ((overB r.abs).2:Int)∧r'.abs=(overB r.abs).1∧DUp h h' d r r' E E'):=by
 refine HC.go Tryz.func140 11 ?_;refine .seq<|.r<|.z .asI<|.nil ?_;refine .seq<|.seq<|.r<|.z .mvP<|.c' 5 .func (bgone_any (d:=d) (r:=r) (E:=E) (n:=nM) (ok).loc1 hk (by omega) (by decide)) ?_;rintro _ η1 ⟨rw1,Ew1,rfl,haw1,upw1⟩;have hzw1:=(ok).chg.size;have ok:=(ok).dsk (d:=d) (r:=r) upw1;have hkw1:DkOk rw1.abs:=by rw [haw1];exact (hk).gone
 have hcw1:rw1.chg≤r.chg+2:=Int.le_trans (Int.le_of_eq (congrArg Dk.chg haw1)) gone_chg;have hnw1:=fun j hj=>(upw1.new j hj).elim ((fun _ h=>Or.inl h) j) fun h1=>Or.inr (Nat.le_trans hzw1 h1);refine .z .asI<|.nil ?_;refine .seq<|.r<|.z .mvI<|.z .neq<|.nil ?_;refine .cd (fun C0=>?_) (fun C0=>?_)
 ·
  refine .seq<|.r<|.z .mvI<|.z .asI<|.nil ?_;refine .ret ⟨.int .i64 ((goneN r.abs nM).2:Int),Res.one rfl rfl,⟨rw1,Ew1,(by rw [over_e (by omega)]),(by rw [over_e (by omega)];exact haw1),((ok).k1.e1).up hnw1⟩⟩
 refine .skip<|.seq<|.r<|.z .mvP<|.c' 10 .func (bgone_any (d:=d) (r:=rw1) (E:=Ew1) (n:=nJ) (ok).loc1 hkw1 (by omega) (by decide)) ?_;rintro _ η2 ⟨rw2,Ew2,rfl,haw2,upw2⟩;have hzw2:=(ok).chg.size;have ok:=(ok).dsk (d:=d) (r:=rw1) upw2;have hkw2:DkOk rw2.abs:=by rw [haw2];exact (hkw1).gone
 have hcw2:rw2.chg≤rw1.chg+2:=Int.le_trans (Int.le_of_eq (congrArg Dk.chg haw2)) gone_chg;have hnw2:=fun j hj=>(upw2.new j hj).elim (hnw1 j) fun h1=>Or.inr (Nat.le_trans hzw2 h1);refine .z .asI<|.nil ?_;refine .ret ⟨.int .i64 ((goneN rw1.abs nJ).2:Int),Res.one rfl rfl,⟨rw2,Ew2,(by rw [over_0 (by omega),haw1]),(by rw [over_0 (by omega),←haw1];exact haw2),((ok).k1.e1).up hnw2⟩⟩
theorem most_any {h:Heap} {n:Nat} (hn:n≤16777216) :
  HC Tryz.prog 141 #[.int .i64 (n:Int)] h (fun v h'=>v=.int .i64 ((mostB n:Nat):Int)∧h'=h):=by
 refine HC.go Tryz.func141 6 ?_;refine .seq<|.r<|.z .asI<|.nil ?_;refine .seq<|.r<|.z .mvI<|.z (.addI (b:=8))<|.z (.quoI (a:=16777188) (b:=(n+8)))<|.z .asI<|.nil ?_;refine .ret ⟨.int .i64 ((16777188 / (n+8):Nat):Int),Res.one rfl rfl,⟨rfl,rfl⟩⟩
theorem blen_any {h:Heap} {d n:Nat} {r:RD} {E:Nat→Prop} (ok:Hp h (dskI d r).F [dskI d r] [bysI E r.fs] h) (hk:DkOk r.abs) (hcg:r.chg<800000000) (hn:n≤4611686018427387904) :
  HC Tryz.prog 158 #[.pointer (some ⟨d,0,none⟩),.int .i64 (n:Int)] h (fun v h'=>∃r' E',v=.int .i64 ((lengthB r.abs n).2:Int)∧r'.abs=(lengthB r.abs n).1∧DUp h h' d r r' E E'):=by
 refine HC.go Tryz.func158 45 ?_;refine .seq<|.r<|.z .asI<|.nil ?_;refine .seq<|.r<|.z .mvP<|.k 10 .func (size_anyD (d:=d) (r:=r) (n:=nT) (ok.m0))<|.z .mvU<|.z .ex<|.z .ex<|.z .asI<|.z .asB<|.nil ?_;refine .seq<|.r<|.z .asI<|.nil ?_;refine .seq<|.block fun K0 hK0=>.seq<|.r<|.z .mvB<|.z .not<|.z .mvB<|.spl (fun G16=>?_) (fun G16=>?_)
 ·
  refine .z .mvI<|.z .eql<|.z .pkt<|.z .mvB<|.sd (fun G20=>?_) (fun G20=>?_)
  ·
   refine .z .mvP<|.k 22 .func (dark_any (d:=d) (r:=r) (dsk_parts (ok.m0)).1)<|.z .not<|.z .pkt<|.z .asB<|.nil ?_;refine .cond (fun C0=>?_) (fun C0=>?_)
   ·
    refine .seq<|.r<|.z .asI<|.nil ?_;refine .ret ⟨.int .i64 0,Res.one rfl rfl,⟨r,E,(by rw [len_1 (by simpa using G16) (by omega) (show r.dark=false by simpa using C0)];rfl),(by rw [len_1 (by simpa using G16) (by omega) (show r.dark=false by simpa using C0)]),((ok).k1.e1).up (fun _ h=>Or.inl h)⟩⟩
   refine .seq<|.r<|.z .mvB<|.z .not<|.z .asB<|.nil ?_;refine .cond (fun C1=>?_) (fun C1=>?_)
   ·
    have hs0:(sizeN r.abs nT).2=false:=by simpa using C1
    have hL:=len_2 (m:=n) hs0 (by rintro ⟨h1,h2⟩;first | omega | exact absurd (show r.dark=false from h2) (by simpa using C0) | (rw [G16] at C1;cases C1));refine .r<|.z .mvP<|.z .mvI<|.z .sub<|.a' 31 (.lit [.const (.int .u8 0)] (cs:=[.int .u8 0]) T.el22 T.sz5 T.zr5 ok ⟨rfl,trivial⟩) ?_;rintro _ η1 ⟨pb1,rfl,ok,xe⟩;have ok:=ok.cx (ys:=([0]:List UInt8).map bv) rfl;have ok:=(ok).frzB (l:=[0]) rfl;refine .c' 32 .func (write_any (d:=d) (r:=r) (E:=E) (n:=nT) (z:=((n:Int)-1)) (a:=some ⟨pb1,0,none⟩) (c:=1) (l:=[0]) (ok.f1).loc2 hk (by omega) ⟨by omega,by omega⟩) ?_;rintro _ η2 ⟨rw1,Ew1,rfl,haw1,upw1⟩;have hzw1:=(ok).chg.size;have ok:=(ok.f1).dsk (d:=d) (r:=r) upw1;have hkw1:DkOk rw1.abs:=by rw [haw1];exact (hk).write
    have hcw1:rw1.chg≤r.chg+1:=Int.le_trans (Int.le_of_eq (congrArg Dk.chg haw1)) write_chg;have hnw1:=fun j hj=>(upw1.new j hj).elim ((fun _ h=>Or.inl h) j) fun h1=>Or.inr (Nat.le_trans hzw1 h1);refine .z .asI<|.nil ?_;refine .end<|hK0 _ _<|.seq<|.seq<|.r<|.z .mvI<|.z .neq<|.nil ?_;refine .cd (fun C3=>?_) (fun C3=>?_)
    ·
     refine .seq<|.r<|.z .mvI<|.z .asI<|.nil ?_;refine .ret ⟨.int .i64 ((writeN r.abs nT ((n:Int)-1) [0]).2:Int),Res.one rfl rfl,⟨rw1,Ew1,(by rw [hL,thenN_e (by omega)]),(by rw [hL,thenN_e (by omega)];exact haw1),((ok).k1.e1).up hnw1⟩⟩
    refine .skip<|.seq<|.r<|.z .mvP<|.c' 44 .func (sync_any (d:=d) (r:=rw1) (E:=Ew1) (n:=nT) (ok).loc1 hkw1 (by omega)) ?_;rintro _ η3 ⟨rw2,Ew2,rfl,haw2,upw2⟩;have hzw2:=(ok).chg.size;have ok:=(ok).dsk (d:=d) (r:=rw1) upw2;have hkw2:DkOk rw2.abs:=by rw [haw2];exact (hkw1).sync
    have hcw2:rw2.chg≤rw1.chg+1:=Int.le_trans (Int.le_of_eq (congrArg Dk.chg haw2)) sync_chg;have hnw2:=fun j hj=>(upw2.new j hj).elim (hnw1 j) fun h1=>Or.inr (Nat.le_trans hzw2 h1);refine .z .asI<|.nil ?_;refine .ret ⟨.int .i64 ((syncN rw1.abs nT).2:Int),Res.one rfl rfl,⟨rw2,Ew2,(by rw [hL,thenN_0 (by omega),haw1]),(by rw [hL,thenN_0 (by omega),←haw1];exact haw2),((ok).k1.e1).up hnw2⟩⟩
   have hs0:(sizeN r.abs nT).2=true:=by simpa using C1
   refine .seq<|.r<|.z .mvI<|.z .mvI<|.z .neq<|.z .asB<|.nil ?_;refine .cd (fun C2=>?_) (fun C2=>?_)
   ·
    have hL:=len_3 (m:=n) hs0 (by omega);refine .r<|.z .mvP<|.z .mvI<|.c' 39 .func (trunc_any (d:=d) (r:=r) (E:=E) (n:=nT) (z:=(n:Int)) (ok).loc1 hk (by omega) ⟨by omega,by omega⟩) ?_;rintro _ η4 ⟨rw3,Ew3,rfl,haw3,upw3⟩;have hzw3:=(ok).chg.size;have ok:=(ok).dsk (d:=d) (r:=r) upw3;have hkw3:DkOk rw3.abs:=by rw [haw3];exact (hk).trunc
    have hcw3:rw3.chg≤r.chg+1:=Int.le_trans (Int.le_of_eq (congrArg Dk.chg haw3)) trunc_chg;have hnw3:=fun j hj=>(upw3.new j hj).elim ((fun _ h=>Or.inl h) j) fun h1=>Or.inr (Nat.le_trans hzw3 h1);refine .z .asI<|.nil ?_;refine .end<|hK0 _ _<|.seq<|.seq<|.r<|.z .mvI<|.z .neq<|.nil ?_;refine .cd (fun C3=>?_) (fun C3=>?_)
    ·
     refine .seq<|.r<|.z .mvI<|.z .asI<|.nil ?_;refine .ret ⟨.int .i64 ((truncN r.abs nT (n:Int)).2:Int),Res.one rfl rfl,⟨rw3,Ew3,(by rw [hL,thenN_e (by omega)]),(by rw [hL,thenN_e (by omega)];exact haw3),((ok).k1.e1).up hnw3⟩⟩
    refine .skip<|.seq<|.r<|.z .mvP<|.c' 44 .func (sync_any (d:=d) (r:=rw3) (E:=Ew3) (n:=nT) (ok).loc1 hkw3 (by omega)) ?_;rintro _ η5 ⟨rw4,Ew4,rfl,haw4,upw4⟩;have hzw4:=(ok).chg.size;have ok:=(ok).dsk (d:=d) (r:=rw3) upw4;have hkw4:DkOk rw4.abs:=by rw [haw4];exact (hkw3).sync
    have hcw4:rw4.chg≤rw3.chg+1:=Int.le_trans (Int.le_of_eq (congrArg Dk.chg haw4)) sync_chg;have hnw4:=fun j hj=>(upw4.new j hj).elim (hnw3 j) fun h1=>Or.inr (Nat.le_trans hzw4 h1);refine .z .asI<|.nil ?_;refine .ret ⟨.int .i64 ((syncN rw3.abs nT).2:Int),Res.one rfl rfl,⟨rw4,Ew4,(by rw [hL,thenN_0 (by omega),haw3]),(by rw [hL,thenN_0 (by omega),←haw3];exact haw4),((ok).k1.e1).up hnw4⟩⟩
   have hL:=len_4 (m:=n) hs0 (by omega);refine .skip<|.end<|hK0 _ _<|.seq<|.seq<|.r<|.z .mvI<|.z .neq<|.nil ?_;refine .cf<|.skip<|.seq<|.r<|.z .mvP<|.c' 44 .func (sync_any (d:=d) (r:=r) (E:=E) (n:=nT) (ok).loc1 hk (by omega)) ?_;rintro _ η6 ⟨rw5,Ew5,rfl,haw5,upw5⟩;have hzw5:=(ok).chg.size;have ok:=(ok).dsk (d:=d) (r:=r) upw5;have hkw5:DkOk rw5.abs:=by rw [haw5];exact (hk).sync
   have hcw5:rw5.chg≤r.chg+1:=Int.le_trans (Int.le_of_eq (congrArg Dk.chg haw5)) sync_chg;have hnw5:=fun j hj=>(upw5.new j hj).elim ((fun _ h=>Or.inl h) j) fun h1=>Or.inr (Nat.le_trans hzw5 h1);refine .z .asI<|.nil ?_;refine .ret ⟨.int .i64 ((syncN r.abs nT).2:Int),Res.one rfl rfl,⟨rw5,Ew5,(by rw [hL]),(by rw [hL];exact haw5),((ok).k1.e1).up hnw5⟩⟩
  refine .y<|.y<|.y<|.z .pkf<|.z .asB<|.nil ?_;refine .cf<|.seq<|.r<|.z .mvB<|.z .not<|.z .asB<|.nil ?_;refine .cond (fun C1=>?_) (fun C1=>?_)
  ·
   have hs0:(sizeN r.abs nT).2=false:=by simpa using C1
   have hL:=len_2 (m:=n) hs0 (by rintro ⟨h1,h2⟩;first | omega | exact absurd (show r.dark=false from h2) (by simpa using C0) | (rw [G16] at C1;cases C1));refine .r<|.z .mvP<|.z .mvI<|.z .sub<|.a' 31 (.lit [.const (.int .u8 0)] (cs:=[.int .u8 0]) T.el22 T.sz5 T.zr5 ok ⟨rfl,trivial⟩) ?_;rintro _ η7 ⟨pb2,rfl,ok,xe⟩;have ok:=ok.cx (ys:=([0]:List UInt8).map bv) rfl;have ok:=(ok).frzB (l:=[0]) rfl;refine .c' 32 .func (write_any (d:=d) (r:=r) (E:=E) (n:=nT) (z:=((n:Int)-1)) (a:=some ⟨pb2,0,none⟩) (c:=1) (l:=[0]) (ok.f1).loc2 hk (by omega) ⟨by omega,by omega⟩) ?_;rintro _ η8 ⟨rw6,Ew6,rfl,haw6,upw6⟩;have hzw6:=(ok).chg.size;have ok:=(ok.f1).dsk (d:=d) (r:=r) upw6;have hkw6:DkOk rw6.abs:=by rw [haw6];exact (hk).write
   have hcw6:rw6.chg≤r.chg+1:=Int.le_trans (Int.le_of_eq (congrArg Dk.chg haw6)) write_chg;have hnw6:=fun j hj=>(upw6.new j hj).elim ((fun _ h=>Or.inl h) j) fun h1=>Or.inr (Nat.le_trans hzw6 h1);refine .z .asI<|.nil ?_;refine .end<|hK0 _ _<|.seq<|.seq<|.r<|.z .mvI<|.z .neq<|.nil ?_;refine .cd (fun C3=>?_) (fun C3=>?_)
   ·
    refine .seq<|.r<|.z .mvI<|.z .asI<|.nil ?_;refine .ret ⟨.int .i64 ((writeN r.abs nT ((n:Int)-1) [0]).2:Int),Res.one rfl rfl,⟨rw6,Ew6,(by rw [hL,thenN_e (by omega)]),(by rw [hL,thenN_e (by omega)];exact haw6),((ok).k1.e1).up hnw6⟩⟩
   refine .skip<|.seq<|.r<|.z .mvP<|.c' 44 .func (sync_any (d:=d) (r:=rw6) (E:=Ew6) (n:=nT) (ok).loc1 hkw6 (by omega)) ?_;rintro _ η9 ⟨rw7,Ew7,rfl,haw7,upw7⟩;have hzw7:=(ok).chg.size;have ok:=(ok).dsk (d:=d) (r:=rw6) upw7;have hkw7:DkOk rw7.abs:=by rw [haw7];exact (hkw6).sync
   have hcw7:rw7.chg≤rw6.chg+1:=Int.le_trans (Int.le_of_eq (congrArg Dk.chg haw7)) sync_chg;have hnw7:=fun j hj=>(upw7.new j hj).elim (hnw6 j) fun h1=>Or.inr (Nat.le_trans hzw7 h1);refine .z .asI<|.nil ?_;refine .ret ⟨.int .i64 ((syncN rw6.abs nT).2:Int),Res.one rfl rfl,⟨rw7,Ew7,(by rw [hL,thenN_0 (by omega),haw6]),(by rw [hL,thenN_0 (by omega),←haw6];exact haw7),((ok).k1.e1).up hnw7⟩⟩
  have hs0:(sizeN r.abs nT).2=true:=by simpa using C1
  refine .seq<|.r<|.z .mvI<|.z .mvI<|.z .neq<|.z .asB<|.nil ?_;refine .cd (fun C2=>?_) (fun C2=>?_)
  ·
   have hL:=len_3 (m:=n) hs0 (by omega);refine .r<|.z .mvP<|.z .mvI<|.c' 39 .func (trunc_any (d:=d) (r:=r) (E:=E) (n:=nT) (z:=(n:Int)) (ok).loc1 hk (by omega) ⟨by omega,by omega⟩) ?_;rintro _ η10 ⟨rw8,Ew8,rfl,haw8,upw8⟩;have hzw8:=(ok).chg.size;have ok:=(ok).dsk (d:=d) (r:=r) upw8;have hkw8:DkOk rw8.abs:=by rw [haw8];exact (hk).trunc
   have hcw8:rw8.chg≤r.chg+1:=Int.le_trans (Int.le_of_eq (congrArg Dk.chg haw8)) trunc_chg;have hnw8:=fun j hj=>(upw8.new j hj).elim ((fun _ h=>Or.inl h) j) fun h1=>Or.inr (Nat.le_trans hzw8 h1);refine .z .asI<|.nil ?_;refine .end<|hK0 _ _<|.seq<|.seq<|.r<|.z .mvI<|.z .neq<|.nil ?_;refine .cd (fun C3=>?_) (fun C3=>?_)
   ·
    refine .seq<|.r<|.z .mvI<|.z .asI<|.nil ?_;refine .ret ⟨.int .i64 ((truncN r.abs nT (n:Int)).2:Int),Res.one rfl rfl,⟨rw8,Ew8,(by rw [hL,thenN_e (by omega)]),(by rw [hL,thenN_e (by omega)];exact haw8),((ok).k1.e1).up hnw8⟩⟩
   refine .skip<|.seq<|.r<|.z .mvP<|.c' 44 .func (sync_any (d:=d) (r:=rw8) (E:=Ew8) (n:=nT) (ok).loc1 hkw8 (by omega)) ?_;rintro _ η11 ⟨rw9,Ew9,rfl,haw9,upw9⟩;have hzw9:=(ok).chg.size;have ok:=(ok).dsk (d:=d) (r:=rw8) upw9;have hkw9:DkOk rw9.abs:=by rw [haw9];exact (hkw8).sync
   have hcw9:rw9.chg≤rw8.chg+1:=Int.le_trans (Int.le_of_eq (congrArg Dk.chg haw9)) sync_chg;have hnw9:=fun j hj=>(upw9.new j hj).elim (hnw8 j) fun h1=>Or.inr (Nat.le_trans hzw9 h1);refine .z .asI<|.nil ?_;refine .ret ⟨.int .i64 ((syncN rw8.abs nT).2:Int),Res.one rfl rfl,⟨rw9,Ew9,(by rw [hL,thenN_0 (by omega),haw8]),(by rw [hL,thenN_0 (by omega),←haw8];exact haw9),((ok).k1.e1).up hnw9⟩⟩
  have hL:=len_4 (m:=n) hs0 (by omega);refine .skip<|.end<|hK0 _ _<|.seq<|.seq<|.r<|.z .mvI<|.z .neq<|.nil ?_;refine .cf<|.skip<|.seq<|.r<|.z .mvP<|.c' 44 .func (sync_any (d:=d) (r:=r) (E:=E) (n:=nT) (ok).loc1 hk (by omega)) ?_;rintro _ η12 ⟨rw10,Ew10,rfl,haw10,upw10⟩;have hzw10:=(ok).chg.size;have ok:=(ok).dsk (d:=d) (r:=r) upw10;have hkw10:DkOk rw10.abs:=by rw [haw10];exact (hk).sync
  have hcw10:rw10.chg≤r.chg+1:=Int.le_trans (Int.le_of_eq (congrArg Dk.chg haw10)) sync_chg;have hnw10:=fun j hj=>(upw10.new j hj).elim ((fun _ h=>Or.inl h) j) fun h1=>Or.inr (Nat.le_trans hzw10 h1);refine .z .asI<|.nil ?_;refine .ret ⟨.int .i64 ((syncN r.abs nT).2:Int),Res.one rfl rfl,⟨rw10,Ew10,(by rw [hL]),(by rw [hL];exact haw10),((ok).k1.e1).up hnw10⟩⟩
 refine .y<|.y<|.z .pkf<|.z .mvB<|.y<|.y<|.y<|.z .pkf<|.z .asB<|.nil ?_;refine .cf<|.seq<|.r<|.z .mvB<|.z .not<|.z .asB<|.nil ?_;refine .cond (fun C1=>?_) (fun C1=>?_)
 ·
  have hs0:(sizeN r.abs nT).2=false:=by simpa using C1
  have hL:=len_2 (m:=n) hs0 (by rintro ⟨h1,h2⟩;first | omega | exact absurd (show r.dark=false from h2) (by simpa using C0) | (rw [G16] at C1;cases C1));refine .r<|.z .mvP<|.z .mvI<|.z .sub<|.a' 31 (.lit [.const (.int .u8 0)] (cs:=[.int .u8 0]) T.el22 T.sz5 T.zr5 ok ⟨rfl,trivial⟩) ?_;rintro _ η13 ⟨pb3,rfl,ok,xe⟩;have ok:=ok.cx (ys:=([0]:List UInt8).map bv) rfl;have ok:=(ok).frzB (l:=[0]) rfl;refine .c' 32 .func (write_any (d:=d) (r:=r) (E:=E) (n:=nT) (z:=((n:Int)-1)) (a:=some ⟨pb3,0,none⟩) (c:=1) (l:=[0]) (ok.f1).loc2 hk (by omega) ⟨by omega,by omega⟩) ?_;rintro _ η14 ⟨rw11,Ew11,rfl,haw11,upw11⟩;have hzw11:=(ok).chg.size;have ok:=(ok.f1).dsk (d:=d) (r:=r) upw11;have hkw11:DkOk rw11.abs:=by rw [haw11];exact (hk).write
  have hcw11:rw11.chg≤r.chg+1:=Int.le_trans (Int.le_of_eq (congrArg Dk.chg haw11)) write_chg;have hnw11:=fun j hj=>(upw11.new j hj).elim ((fun _ h=>Or.inl h) j) fun h1=>Or.inr (Nat.le_trans hzw11 h1);refine .z .asI<|.nil ?_;refine .end<|hK0 _ _<|.seq<|.seq<|.r<|.z .mvI<|.z .neq<|.nil ?_;refine .cd (fun C3=>?_) (fun C3=>?_)
  ·
   refine .seq<|.r<|.z .mvI<|.z .asI<|.nil ?_;refine .ret ⟨.int .i64 ((writeN r.abs nT ((n:Int)-1) [0]).2:Int),Res.one rfl rfl,⟨rw11,Ew11,(by rw [hL,thenN_e (by omega)]),(by rw [hL,thenN_e (by omega)];exact haw11),((ok).k1.e1).up hnw11⟩⟩
  refine .skip<|.seq<|.r<|.z .mvP<|.c' 44 .func (sync_any (d:=d) (r:=rw11) (E:=Ew11) (n:=nT) (ok).loc1 hkw11 (by omega)) ?_;rintro _ η15 ⟨rw12,Ew12,rfl,haw12,upw12⟩;have hzw12:=(ok).chg.size;have ok:=(ok).dsk (d:=d) (r:=rw11) upw12;have hkw12:DkOk rw12.abs:=by rw [haw12];exact (hkw11).sync
  have hcw12:rw12.chg≤rw11.chg+1:=Int.le_trans (Int.le_of_eq (congrArg Dk.chg haw12)) sync_chg;have hnw12:=fun j hj=>(upw12.new j hj).elim (hnw11 j) fun h1=>Or.inr (Nat.le_trans hzw12 h1);refine .z .asI<|.nil ?_;refine .ret ⟨.int .i64 ((syncN rw11.abs nT).2:Int),Res.one rfl rfl,⟨rw12,Ew12,(by rw [hL,thenN_0 (by omega),haw11]),(by rw [hL,thenN_0 (by omega),←haw11];exact haw12),((ok).k1.e1).up hnw12⟩⟩
 have hs0:(sizeN r.abs nT).2=true:=by simpa using C1
 refine .seq<|.r<|.z .mvI<|.z .mvI<|.z .neq<|.z .asB<|.nil ?_;refine .cd (fun C2=>?_) (fun C2=>?_)
 ·
  have hL:=len_3 (m:=n) hs0 (by omega);refine .r<|.z .mvP<|.z .mvI<|.c' 39 .func (trunc_any (d:=d) (r:=r) (E:=E) (n:=nT) (z:=(n:Int)) (ok).loc1 hk (by omega) ⟨by omega,by omega⟩) ?_;rintro _ η16 ⟨rw13,Ew13,rfl,haw13,upw13⟩;have hzw13:=(ok).chg.size;have ok:=(ok).dsk (d:=d) (r:=r) upw13;have hkw13:DkOk rw13.abs:=by rw [haw13];exact (hk).trunc
  have hcw13:rw13.chg≤r.chg+1:=Int.le_trans (Int.le_of_eq (congrArg Dk.chg haw13)) trunc_chg;have hnw13:=fun j hj=>(upw13.new j hj).elim ((fun _ h=>Or.inl h) j) fun h1=>Or.inr (Nat.le_trans hzw13 h1);refine .z .asI<|.nil ?_;refine .end<|hK0 _ _<|.seq<|.seq<|.r<|.z .mvI<|.z .neq<|.nil ?_;refine .cd (fun C3=>?_) (fun C3=>?_)
  ·
   refine .seq<|.r<|.z .mvI<|.z .asI<|.nil ?_;refine .ret ⟨.int .i64 ((truncN r.abs nT (n:Int)).2:Int),Res.one rfl rfl,⟨rw13,Ew13,(by rw [hL,thenN_e (by omega)]),(by rw [hL,thenN_e (by omega)];exact haw13),((ok).k1.e1).up hnw13⟩⟩
  refine .skip<|.seq<|.r<|.z .mvP<|.c' 44 .func (sync_any (d:=d) (r:=rw13) (E:=Ew13) (n:=nT) (ok).loc1 hkw13 (by omega)) ?_;rintro _ η17 ⟨rw14,Ew14,rfl,haw14,upw14⟩;have hzw14:=(ok).chg.size;have ok:=(ok).dsk (d:=d) (r:=rw13) upw14;have hkw14:DkOk rw14.abs:=by rw [haw14];exact (hkw13).sync
  have hcw14:rw14.chg≤rw13.chg+1:=Int.le_trans (Int.le_of_eq (congrArg Dk.chg haw14)) sync_chg;have hnw14:=fun j hj=>(upw14.new j hj).elim (hnw13 j) fun h1=>Or.inr (Nat.le_trans hzw14 h1);refine .z .asI<|.nil ?_;refine .ret ⟨.int .i64 ((syncN rw13.abs nT).2:Int),Res.one rfl rfl,⟨rw14,Ew14,(by rw [hL,thenN_0 (by omega),haw13]),(by rw [hL,thenN_0 (by omega),←haw13];exact haw14),((ok).k1.e1).up hnw14⟩⟩
 have hL:=len_4 (m:=n) hs0 (by omega);refine .skip<|.end<|hK0 _ _<|.seq<|.seq<|.r<|.z .mvI<|.z .neq<|.nil ?_;refine .cf<|.skip<|.seq<|.r<|.z .mvP<|.c' 44 .func (sync_any (d:=d) (r:=r) (E:=E) (n:=nT) (ok).loc1 hk (by omega)) ?_;rintro _ η18 ⟨rw15,Ew15,rfl,haw15,upw15⟩;have hzw15:=(ok).chg.size;have ok:=(ok).dsk (d:=d) (r:=r) upw15;have hkw15:DkOk rw15.abs:=by rw [haw15];exact (hk).sync
 have hcw15:rw15.chg≤r.chg+1:=Int.le_trans (Int.le_of_eq (congrArg Dk.chg haw15)) sync_chg;have hnw15:=fun j hj=>(upw15.new j hj).elim ((fun _ h=>Or.inl h) j) fun h1=>Or.inr (Nat.le_trans hzw15 h1);refine .z .asI<|.nil ?_;refine .ret ⟨.int .i64 ((syncN r.abs nT).2:Int),Res.one rfl rfl,⟨rw15,Ew15,(by rw [hL]),(by rw [hL];exact haw15),((ok).k1.e1).up hnw15⟩⟩
open Go Go.HL
section
variable {d:Dk} {n:Nat}
theorem lkB_0 (h:(sizeN d nT).2=false∨(sizeN d nT).1=0):lookB d n=(0,0):=if_pos h
variable (h1:(sizeN d nT).2=true) (h0:(sizeN d nT).1≠0)
include h1 h0
theorem lkB_r (h:(readN d nT 0 64).2≠0):lookB d n=(0,(readN d nT 0 64).2):=by unfold lookB;rw [if_neg (by rw [h1];simp [h0]),if_pos h]
variable (hr:(readN d nT 0 64).2=0)
include hr
theorem lkB_14 (hd:(decN (readN d nT 0 64).1).2≠0∨((sizeN d nT).1:Int)%(decN (readN d nT 0 64).1).1.size≠0):lookB d n=(0,14):=by
 unfold lookB;rw [if_neg (by rw [h1];simp [h0]),if_neg (by simp [hr]),if_pos hd]
variable (hd:¬((decN (readN d nT 0 64).1).2≠0∨((sizeN d nT).1:Int)%(decN (readN d nT 0 64).1).1.size≠0))
include hd
theorem lkB_1 (hs:(decN (readN d nT 0 64).1).1.size≠n):lookB d n=(0,1):=by
 unfold lookB;rw [if_neg (by rw [h1];simp [h0]),if_neg (by simp [hr]),if_neg hd,if_pos hs]
variable (hs:(decN (readN d nT 0 64).1).1.size=n)
include hs
theorem lkB_5 (hm:mostB n<(sizeN d nT).1 / n):lookB d n=(0,5):=by
 unfold lookB;rw [if_neg (by rw [h1];simp [h0]),if_neg (by simp [hr]),if_neg hd,if_neg (by simp [hs]),if_pos hm]
theorem lkB_ok (hm:¬mostB n<(sizeN d nT).1 / n):lookB d n=((sizeN d nT).1,0):=by
 unfold lookB;rw [if_neg (by rw [h1];simp [h0]),if_neg (by simp [hr]),if_neg hd,if_neg (by simp [hs]),if_neg hm]
end
theorem blook_any {h:Heap} {d n:Nat} {r:RD} {E:Nat→Prop} (ok:Hp h none_ [] [dskI d r,bysI E r.fs] h) (hk:DkOk r.abs) (hn:1≤n∧n≤16777216) :
  HC Tryz.prog 82 #[.pointer (some ⟨d,0,none⟩),.int .i64 (n:Int)] h (fun v h'=>v=.tuple #[.int .i64 ((lookB r.abs n).1:Nat),.int .i64 ((lookB r.abs n).2:Nat)]∧Ext h h'):=by
 have hsn:=sizeN_lt (n:=nT) hk;refine HC.go Tryz.func82 58 ?_;refine .seq<|.r<|.z .asI<|.z .asI<|.nil ?_;refine .seq<|.r<|.z .mvP<|.k 13 .func (size_anyD (d:=d) (r:=r) (n:=nT) (ok.r0))<|.z .mvU<|.z .ex<|.z .ex<|.z .asI<|.z .asB<|.nil ?_;refine .seq<|.seq<|.r<|.z .mvB<|.z .not<|.z .mvB<|.spl (fun G18=>?_) (fun G18=>?_)
 ·
  refine .y<|.y<|.z .pkt<|.nil ?_;refine .ct<|.seq<|.r<|.z .asI<|.z .asI<|.nil ?_;refine .ret ⟨.tuple #[.int .i64 0,.int .i64 0],Res.two rfl rfl rfl,⟨by rw [lkB_0 (by first | exact .inl (by simpa using G18) | exact .inr (by omega))];rfl,ok.chg⟩⟩
 refine .z .mvI<|.z .eql<|.z .pkf<|.nil ?_;refine .cd (fun C0=>?_) (fun C0=>?_)
 ·
  refine .seq<|.r<|.z .asI<|.z .asI<|.nil ?_;refine .ret ⟨.tuple #[.int .i64 0,.int .i64 0],Res.two rfl rfl rfl,⟨by rw [lkB_0 (by first | exact .inl (by simpa using G18) | exact .inr (by omega))];rfl,ok.chg⟩⟩
 refine .skip<|.seq<|.r<|.z .mvP<|.c' 24 .func (read_anyD (d:=d) (r:=r) (E:=E) (n:=nT) (y:=0) (z:=64) (rdR (ok.r0) (ok.r1) (ok.l0) (ok.l1)) hk ⟨by omega,by omega⟩ ⟨by omega,by omega⟩) ?_;rintro _ η1 ⟨w,rfl,own⟩;obtain ⟨ya1,yc1,rfl⟩:=own.formB;have ok:=ok.own own;refine .z .mvU<|.z .ex<|.z .ex<|.z .asS<|.z .asI<|.nil ?_;refine .seq<|.seq<|.r<|.z .mvI<|.z .neq<|.nil ?_;refine .cd (fun C1=>?_) (fun C1=>?_)
 ·
  refine .seq<|.r<|.z .mvI<|.z .asI<|.z .asI<|.nil ?_;refine .ret ⟨.tuple #[.int .i64 0,.int .i64 (((readN r.abs nT 0 64).2:Nat):Int)],Res.two rfl rfl rfl,⟨by rw [lkB_r (by simpa using G18) (by omega) (by omega)];rfl,ok.chg⟩⟩
 refine .skip<|.seq<|?_;have hr0:(readN r.abs nT 0 64).2=0:=by omega
 refine .r<|.z .mvS<|.c' 32 .func (dec_any (a:=ya1) (c:=yc1) (l:=((readN r.abs nT 0 64).1)) (RdL.ofCapB (v:=(ya1,((readN r.abs nT 0 64).1).length,yc1)) (l:=((readN r.abs nT 0 64).1)) ok.m0)) ?_;rintro _ η2 ⟨rfl,hx⟩;rw [show (decN ((readN r.abs nT 0 64).1)).1.val=.agg #[.int .i64 (decN ((readN r.abs nT 0 64).1)).1.size,.int .i64 (decN ((readN r.abs nT 0 64).1)).1.pages,.int .i64 (decN ((readN r.abs nT 0 64).1)).1.free,.int .i64 (decN ((readN r.abs nT 0 64).1)).1.many,.int .i64 (decN ((readN r.abs nT 0 64).1)).1.cookie,.int .i64 (decN ((readN r.abs nT 0 64).1)).1.version] from rfl];have ok:=ok.ext hx;refine .z .mvU<|.z .ex<|.z .ex<|.a' 10 (.alA T.zr148 ok) ?_;rintro _ η3 ⟨pb1,rfl,ok,xe⟩;refine .ur' (.stW (vs:=[.int .i64 ((decN ((readN r.abs nT 0 64).1)).1.size),.int .i64 ((decN ((readN r.abs nT 0 64).1)).1.pages),.int .i64 ((decN ((readN r.abs nT 0 64).1)).1.free),.int .i64 ((decN ((readN r.abs nT 0 64).1)).1.many),.int .i64 ((decN ((readN r.abs nT 0 64).1)).1.cookie),.int .i64 ((decN ((readN r.abs nT 0 64).1)).1.version)]) T.sz148 ok (oneL rfl)) ?_;rintro η4 ⟨ok,cg⟩;refine .z .asI<|.nil ?_;refine .seq<|.block fun K0 hK0=>.seq<|.r<|.z .mvI<|.z .neq<|.z .mvB<|.sd (fun G38=>?_) (fun G38=>?_)
 ·
  refine .y<|.y<|.y<|.y<|.y<|.z .pkt<|.z .asB<|.nil ?_;refine .ct<|.seq<|.r<|.z .asI<|.z .asI<|.nil ?_;refine .ret ⟨.tuple #[.int .i64 0,.int .i64 14],Res.two rfl rfl rfl,⟨by rw [lkB_14 (by simpa using G18) (by omega) hr0 (by first | exact .inl (by omega) | exact .inr (by simpa using C2))];rfl,ok.chg⟩⟩
 have hdz:=okZ_cases (dec_sz (show (decN (readN r.abs nT 0 64).1).2=0 by omega));refine .z .mvI<|.z (.fa T.fd148_0)<|.z (.ldx T.ag3 ok.m0)<|.z .rem<|.z .neq<|.z .pkf<|.z .asB<|.nil ?_;refine .cd (fun C2=>?_) (fun C2=>?_)
 ·
  refine .seq<|.r<|.z .asI<|.z .asI<|.nil ?_;refine .ret ⟨.tuple #[.int .i64 0,.int .i64 14],Res.two rfl rfl rfl,⟨by rw [lkB_14 (by simpa using G18) (by omega) hr0 (by first | exact .inl (by omega) | exact .inr (by simpa using C2))];rfl,ok.chg⟩⟩
 refine .seq<|.r<|.z (.fa T.fd148_0)<|.z (.ldx T.ag3 ok.m0)<|.z .mvI<|.z .neq<|.z .asB<|.nil ?_;refine .cd (fun C3=>?_) (fun C3=>?_)
 ·
  refine .seq<|.r<|.z .asI<|.z .asI<|.nil ?_;refine .ret ⟨.tuple #[.int .i64 0,.int .i64 1],Res.two rfl rfl rfl,⟨by rw [lkB_1 (by simpa using G18) (by omega) hr0 (by rintro (h | h)<;>omega) (by simpa using C3)];rfl,ok.chg⟩⟩
 refine .seq<|.q (hm:=mixed)<|.z .mvI<|.z .mvI<|.z (.quoI (a:=(sizeN r.abs nT).1) (b:=n))<|.z .mvI<|.k 55 .func (most_any (n:=n) (by omega))<|.z .gtr<|.z .asB<|.nil ?_;refine .cd (fun C4=>?_) (fun C4=>?_)
 ·
  refine .seq<|.r<|.z .asI<|.z .asI<|.nil ?_;refine .ret ⟨.tuple #[.int .i64 0,.int .i64 5],Res.two rfl rfl rfl,⟨by rw [lkB_5 (by simpa using G18) (by omega) hr0 (by rintro (h | h)<;>omega) (by simpa using C3) (by omega)];rfl,ok.chg⟩⟩
 refine .skip<|.end<|hK0 _ _<|.seq<|.r<|.z .mvI<|.z .asI<|.z .asI<|.nil ?_;refine .ret ⟨.tuple #[.int .i64 ((sizeN r.abs nT).1:Int),.int .i64 0],Res.two rfl rfl rfl,⟨by rw [lkB_ok (by simpa using G18) (by omega) hr0 (by rintro (h | h)<;>omega) (by simpa using C3) (by omega)];rfl,ok.chg⟩⟩
open Go Go.HL
def setE (s:List Int):List (Int × Value):=s.map fun k=>(k,.bool true)
theorem setE_get {s:List Int} {k:Int} : (aget (setE s) k).getD (.bool false)=.bool (decide (k∈s)):=by
 induction s with
 | nil=>rfl
 | cons a s ih=>
  unfold setE aget at ih⊢;rw [List.map_cons,List.find?_cons];by_cases h:a=k
  ·simp [h]
  ·have h2:¬k=a:=fun e=>h e.symm;simpa [h,h2] using ih
theorem setE_put {s:List Int} {k:Int} (h:k∉s):aput (setE s) k (.bool true)=setE (s++[k]):=by
 induction s with
 | nil=>rfl
 | cons a s ih=>
  have h1:¬a=k:=fun e=>h (by simp [e]);have h2:=ih fun hs=>h (List.mem_cons_of_mem _ hs);unfold setE at h2⊢;simp only [List.map_cons,List.cons_append,aput,if_neg h1];rw [h2]
theorem firstF_app {s:List Int} {a b:List Fr} : firstF s (a++b)=firstF s a++firstF (s++(firstF s a).map fun f=>f.page) b:=by
 induction a generalizing s with
 | nil=>simp [firstF]
 | cons f a ih=>
  simp only [List.cons_append,firstF];split
  ·exact ih
  ·rw [ih];simp
def metF (l:List Fr):List Int:=(firstF [] l).map fun f=>f.page
theorem firstF_next {l:List Fr} {i:Nat} (hi:i<l.length):firstF [] (l.take (i+1))=firstF [] (l.take i)++if (frN l i).page∈metF (l.take i) then [] else [frN l i]:=by
 rw [List.take_succ_eq_append_getElem hi,firstF_app,show frN l i=l[i] by simp [frN,hi]];simp only [List.nil_append,firstF];rfl
theorem firstF_split {l:List Fr} (i:Nat):∃r,firstF [] l=firstF [] (l.take i)++r:=⟨_,by rw [←firstF_app,List.take_append_drop]⟩
theorem writes_one {size:Nat} {d d':Dk} {X:List Fr} {f:Fr} (h:writesN size d X=(d',0)):writesN size d (X++[f])=writeN d' nT ((f.page-1)*size) f.b:=by
 rw [writesN_app,h,thenN_0 rfl];simp only [writesN,thenN];split
 ·rename_i h1;rw [←h1]
 ·rfl
theorem res_e {d d':Dk} {n k:Nat} {l:List Fr} {i:Nat} (hi:i<l.length) (h:writesN n d (firstF [] (l.take i))=(d',0)) (hm:(frN l i).page∉metF (l.take i)) (he:(writeN d' nT (((frN l i).page-1)*n) (frN l i).b).2≠0) :
  restoreB d n k l=writeN d' nT (((frN l i).page-1)*n) (frN l i).b:=by
 obtain ⟨r,hr⟩:=firstF_split (l:=l) (i+1);have h1:writesN n d (firstF [] (l.take (i+1)))=writeN d' nT (((frN l i).page-1)*n) (frN l i).b:=by
  rw [firstF_next hi,if_neg hm];exact writes_one h
 have h2:writesN n d (firstF [] l)=writeN d' nT (((frN l i).page-1)*n) (frN l i).b:=by rw [hr,writesN_app,h1,thenN_e he]
 unfold restoreB;rw [h2,thenN_e he]
theorem res_0 {d d':Dk} {n k:Nat} {l:List Fr} (h:writesN n d (firstF [] l)=(d',0)):restoreB d n k l=lengthB d' (k*n):=by unfold restoreB;rw [h];rfl
theorem restore_any {h:Heap} {d n k:Nat} {a:Option Addr} {c:Nat} {l:List Fr} {Fl El:Nat→Prop} {r:RD} {E:Nat→Prop} (ok:Hp h (dskI d r).F [dskI d r] [bysI E r.fs,rdI Fl El (a,l.length,c) l] h) (hk:DkOk r.abs) (hcg:r.chg<700000000) (hn:n≤4096) (hkn:k≤1048576) (hN:l.length≤17000000) (hF:∀f∈l,1≤f.page∧f.page≤1048576) :
  HC Tryz.prog 139 #[.pointer (some ⟨d,0,none⟩),.int .i64 (n:Int),.int .i64 (k:Int),.slice a l.length c] h (fun v h'=>∃r' E',v=.int .i64 ((restoreB r.abs n k l).2:Int)∧r'.abs=(restoreB r.abs n k l).1∧DUp h h' d r r' E E'):=by
 have hmc:=ok.r1.m;have hcc:=ok.r1.c;simp only at hmc hcc;obtain ⟨xa,xc,hf⟩:=RdL.frs ok.r1;have ok:=ok.d1 (frsI Fl El (a,l.length,c) l xa xc) hf;have hkn2:k*n≤1048576*4096:=Nat.mul_le_mul hkn hn;refine HC.go Tryz.func139 45 ?_;refine .seq<|.r<|.z .asI<|.nil ?_;refine .seq<|.r<|.a' 13 (.mkm (Value.int .i64) ok) ?_;rintro _ η1 ⟨mb1,rfl,ok⟩;refine .z .asM<|.nil ?_;refine .seq<|.seq<|.r<|.z .mvS<|.z (.len T.el76)<|.z .mvI<|.nil ?_;refine .block fun K0 hK0=>.loop (fun m s hh=>∃(i:Nat) (ms:List Int) (rdi:RD) (Ei:Nat→Prop),Has s [(0,.pointer (some ⟨d,0,none⟩)),(1,.int .i64 (n:Int)),(2,.int .i64 (k:Int)),(9,.map (some mb1)),(14,.slice a l.length c),(15,.int .i64 (l.length:Int)),(16,.int .i64 (i:Int))]∧Hp h (dskI d r).F [dskI d rdi,mapI (Value.int .i64) mb1 (setE ms)] [bysI Ei rdi.fs,frsI Fl El (a,l.length,c) l xa xc,rdI Fl El (a,l.length,c) l] hh∧i≤l.length∧ms=metF (l.take i)∧writesN n r.abs (firstF [] (l.take i))=(rdi.abs,0)∧DkOk rdi.abs∧rdi.chg≤r.chg+i∧(∀j,Ei j→E j∨h.size≤j)∧m=l.length-i) ?_ ?_
 ·exact ⟨_,0,[],r,E,⟨rfl,rfl,rfl,rfl,rfl,rfl,rfl,trivial⟩,ok.n1.f2.f1.f2,Nat.zero_le _,rfl,rfl,hk,by omega,fun _ h=>.inl h,rfl⟩
 rintro _ _ η2 ⟨i,ms,rdi,Ei,hs,ok,hi,hms,hwi,hki,hci,hni,rfl⟩ J0 hJ0;refine .frame hs fun τ=>?_;refine .seq<|.r<|.z .lss<|.nil ?_;refine .seq<|.cdr (fun C0=>?_) (fun C0=>?_)
 ·
  refine .exit<|hK0 _ _<|.seq<|?_;have hwl:writesN n r.abs (firstF [] l)=(rdi.abs,0):=by rw [←hwi,show i=l.length by omega,List.take_length]
  refine .r<|.z .mvP<|.z .mvI<|.z .mvI<|.z .mulI<|.c' 44 .func (blen_any (d:=d) (r:=rdi) (E:=Ei) (n:=(k*n)) (ok).loc1 hki (by omega) (by omega)) ?_;rintro _ η3 ⟨rw1,Ew1,rfl,haw1,upw1⟩;have hzw1:=(ok).chg.size;have ok:=(ok).dsk (d:=d) (r:=rdi) upw1;have hkw1:DkOk rw1.abs:=by rw [haw1];exact (hki).len
  have hcw1:rw1.chg≤rdi.chg+2:=Int.le_trans (Int.le_of_eq (congrArg Dk.chg haw1)) len_chg;have hnw1:=fun j hj=>(upw1.new j hj).elim (hni j) fun h1=>Or.inr (Nat.le_trans hzw1 h1);refine .z .asI<|.nil ?_;refine .ret ⟨.int .i64 ((lengthB rdi.abs (k*n)).2:Int),Res.one rfl rfl,⟨rw1,Ew1,(by rw [res_0 hwl]),(by rw [res_0 hwl];exact haw1),((ok).k1.e1).up hnw1⟩⟩
 refine .skip<|.seq<|.block fun K1 hK1=>.seq<|?_;have hfo:=hF _ (frN_mem (l:=l) (i:=i) (by omega));refine .r<|?_;obtain ⟨bb1,oo1,rfl,fb1⟩:=ok.r1.pos (by omega);refine .z (.ix i T.el76 T.sz102)<|?_;have ok:=ok.d1 (rdI El El ((xa i),(frN l i).b.length,(xc i)) ((frN l i).b)) ((ok.r1).b i (by omega)) (fun _ h=>.inr (h.elim id id));refine .z (.ldc (vs:=vfN l xa xc i) T.ag102 (frs_ats (ok.r2).sl (i:=i) (by omega)) T.sz102)<|.a' 11 (.alA T.zr102 ok) ?_;rintro _ η4 ⟨pb1,rfl,ok,xe⟩;refine .ur' (.stW (vs:=[.int .i64 ((frN l i).page),.int .i64 ((frN l i).commit),.slice (xa i) ((frN l i).b.length) (xc i)]) T.sz102 ok (oneL rfl)) ?_;rintro η5 ⟨ok,cg⟩;refine .nil ?_;refine .seq<|.seq<|.r<|.z .mvM<|.z (.fa T.fd102_0)<|.z (.ldx T.ag3 ok.m0)<|.z (.lk (KV.int .i64) ((frN l i).page) (v:=.bool (decide ((frN l i).page∈ms))) T.mp132 (inB_iff T.in3) T.zr4 ok.m2 (by exact setE_get))<|.nil ?_;refine .cd (fun C1=>?_) (fun C1=>?_)
 ·
  refine .exit<|hK1 _ _<|.r<|.z (.addI (b:=1))<|.z .mvI<|.nil ?_;refine .end<|hJ0 _ _ _ ⟨i+1,ms,rdi,Ei,⟨rfl,rfl,rfl,rfl,rfl,rfl,rfl,trivial⟩,ok.n2.n2.k2.tR,(by omega),(by rw [hms,metF,metF,firstF_next (by omega),if_pos (hms▸C1),List.append_nil]),(by rw [firstF_next (by omega),if_pos (hms▸C1),List.append_nil];exact hwi),hki,(by omega),hni,rfl⟩ (by omega)
 refine .skip<|.seq<|.r<|.z .mvM<|.z (.fa T.fd102_0)<|.z (.ldx T.ag3 ok.m0)<|.ur' (.mpu (KV.int .i64) V.sbI ((frN l i).page) (v:=.bool true) T.mp132 (inB_iff T.in3) ok.n2) ?_;rintro η6 ok;rw [setE_put C1] at ok;refine .nil ?_;refine .seq<|.r<|.z .mvP<|.z (.fa T.fd102_0)<|.z (.ldx T.ag3 ok.m1)<|.z .sub<|.z .mvI<|?_;have hmz:=pg_mul (x:=(frN l i).page-1) (s:=n) (by omega) (by omega) hn;refine .z .mul<|.z (.fa T.fd102_2)<|.z (.ldx T.ag22 ok.m1)<|.c' 35 .func (write_any (d:=d) (r:=rdi) (E:=Ei) (n:=nT) (z:=(((frN l i).page-1)*(n:Int))) (a:=(xa i)) (c:=(xc i)) (l:=(frN l i).b) (ok.n2.f1).loc2 hki (by omega) ⟨by omega,by omega⟩) ?_;rintro _ η7 ⟨rw2,Ew2,rfl,haw2,upw2⟩;have hzw2:=(ok).chg.size;have ok:=(ok.n2.f1).dsk (d:=d) (r:=rdi) upw2;have hkw2:DkOk rw2.abs:=by rw [haw2];exact (hki).write
 have hcw2:rw2.chg≤rdi.chg+1:=Int.le_trans (Int.le_of_eq (congrArg Dk.chg haw2)) write_chg;have hnw2:=fun j hj=>(upw2.new j hj).elim (hni j) fun h1=>Or.inr (Nat.le_trans hzw2 h1);refine .z .asI<|.nil ?_;refine .seq<|.r<|.z .mvI<|.z .neq<|.nil ?_;refine .cd (fun C2=>?_) (fun C2=>?_)
 ·
  refine .seq<|.r<|.z .mvI<|.z .asI<|.nil ?_;refine .ret ⟨.int .i64 ((writeN rdi.abs nT (((frN l i).page-1)*(n:Int)) ((frN l i).b)).2:Int),Res.one rfl rfl,⟨rw2,Ew2,(by rw [res_e (by omega) hwi (hms▸C1) (by omega)]),(by rw [res_e (by omega) hwi (hms▸C1) (by omega)];exact haw2),((ok).k1.e1).up hnw2⟩⟩
 refine .skip<|.end<|hK1 _ _<|.r<|.z (.addI (b:=1))<|.z .mvI<|.nil ?_;refine .end<|hJ0 _ _ _ ⟨i+1,ms++[(frN l i).page],rw2,Ew2,⟨rfl,rfl,rfl,rfl,rfl,rfl,rfl,trivial⟩,ok.n1.n1.k2.f3.f3.f2.e3,(by omega),(by rw [hms,metF,metF,firstF_next (by omega),if_neg (hms▸C1),List.map_append];rfl),(by rw [firstF_next (by omega),if_neg (hms▸C1)];exact (writes_one hwi).trans (Prod.ext haw2.symm (by omega))),hkw2,(by omega),hnw2,rfl⟩ (by omega)
theorem jright_any {h:Heap} {z:Int} (hz : -9223372036854775808≤z∧z≤9223372036854775807) :
  HC Tryz.prog 214 #[.int .i64 z] h (fun v h'=>v=.bool (okZ z)∧h'=h):=by
 refine HC.go Tryz.func214 16 ?_;refine .seq<|.r<|.z .asB<|.nil ?_;refine .seq<|.r<|.z .mvI<|.z .geq<|.z .mvB<|.sd (fun G5=>?_) (fun G5=>?_)
 ·
  refine .z .mvI<|.z .leq<|.z .pkt<|.z .mvB<|.sd (fun G9=>?_) (fun G9=>?_)
  ·
   obtain ⟨q,rfl⟩:∃q:Nat,z=(q:Int):=⟨z.toNat,by omega⟩;have hq:=and_pow q (by omega) (by omega);refine .z .mvI<|.z .mvI<|.z .sub<|.z (.bandI q (q-1))<|.z .eql<|.z .pkt<|.z .asB<|.nil ?_;refine .ret ⟨.bool (decide ((((q &&& (q-1)):Nat):Int)=0)),Res.one rfl rfl,⟨by first | exact congrArg _ (by unfold okZ;rw [decide_eq_decide];omega) | exact congrArg _ (by unfold okZ;exact (decide_eq_false (by omega)).symm) | exact congrArg _ (by unfold okZ;exact (decide_eq_true (by omega)).symm),rfl⟩⟩
  refine .y<|.y<|.y<|.y<|.y<|.z .pkf<|.z .asB<|.nil ?_;refine .ret ⟨.bool false,Res.one rfl rfl,⟨by first | exact congrArg _ (by unfold okZ;rw [decide_eq_decide];omega) | exact congrArg _ (by unfold okZ;exact (decide_eq_false (by omega)).symm) | exact congrArg _ (by unfold okZ;exact (decide_eq_true (by omega)).symm),rfl⟩⟩
 refine .y<|.y<|.z .pkf<|.z .mvB<|.y<|.y<|.y<|.y<|.y<|.z .pkf<|.z .asB<|.nil ?_;refine .ret ⟨.bool false,Res.one rfl rfl,⟨by first | exact congrArg _ (by unfold okZ;rw [decide_eq_decide];omega) | exact congrArg _ (by unfold okZ;exact (decide_eq_false (by omega)).symm) | exact congrArg _ (by unfold okZ;exact (decide_eq_true (by omega)).symm),rfl⟩⟩
theorem jsize_any {h:Heap} {z:Int} (hz : -9223372036854775808≤z∧z≤9223372036854775807) :
  HC Tryz.prog 196 #[.int .i64 z] h (fun v h'=>v=.bool (okZ z)∧h'=h):=by
 refine HC.go Tryz.func196 21 ?_;refine .seq<|.r<|.z .asB<|.nil ?_;refine .seq<|.r<|.z .mvI<|.z .eql<|.z .mvB<|.sd (fun G5=>?_) (fun G5=>?_)
 ·
  refine .y<|.y<|.z .pkt<|.z .mvB<|.y<|.y<|.z .pkt<|.z .mvB<|.y<|.y<|.z .pkt<|.z .mvB<|.y<|.y<|.z .pkt<|.z .asB<|.nil ?_;refine .ret ⟨.bool true,Res.one rfl rfl,⟨by first | exact congrArg _ (by unfold okZ;rw [decide_eq_decide];omega) | exact congrArg _ (by unfold okZ;exact (decide_eq_false (by omega)).symm) | exact congrArg _ (by unfold okZ;exact (decide_eq_true (by omega)).symm),rfl⟩⟩
 refine .z .mvI<|.z .eql<|.z .pkf<|.z .mvB<|.sd (fun G9=>?_) (fun G9=>?_)
 ·
  refine .y<|.y<|.z .pkt<|.z .mvB<|.y<|.y<|.z .pkt<|.z .mvB<|.y<|.y<|.z .pkt<|.z .asB<|.nil ?_;refine .ret ⟨.bool true,Res.one rfl rfl,⟨by first | exact congrArg _ (by unfold okZ;rw [decide_eq_decide];omega) | exact congrArg _ (by unfold okZ;exact (decide_eq_false (by omega)).symm) | exact congrArg _ (by unfold okZ;exact (decide_eq_true (by omega)).symm),rfl⟩⟩
 refine .z .mvI<|.z .eql<|.z .pkf<|.z .mvB<|.sd (fun G13=>?_) (fun G13=>?_)
 ·
  refine .y<|.y<|.z .pkt<|.z .mvB<|.y<|.y<|.z .pkt<|.z .asB<|.nil ?_;refine .ret ⟨.bool true,Res.one rfl rfl,⟨by first | exact congrArg _ (by unfold okZ;rw [decide_eq_decide];omega) | exact congrArg _ (by unfold okZ;exact (decide_eq_false (by omega)).symm) | exact congrArg _ (by unfold okZ;exact (decide_eq_true (by omega)).symm),rfl⟩⟩
 refine .z .mvI<|.z .eql<|.z .pkf<|.z .mvB<|.sd (fun G17=>?_) (fun G17=>?_)
 ·
  refine .y<|.y<|.z .pkt<|.z .asB<|.nil ?_;refine .ret ⟨.bool true,Res.one rfl rfl,⟨by first | exact congrArg _ (by unfold okZ;rw [decide_eq_decide];omega) | exact congrArg _ (by unfold okZ;exact (decide_eq_false (by omega)).symm) | exact congrArg _ (by unfold okZ;exact (decide_eq_true (by omega)).symm),rfl⟩⟩
 refine .z .mvI<|.z .eql<|.z .pkf<|.z .asB<|.nil ?_;refine .ret ⟨.bool (decide (z=4096)),Res.one rfl rfl,⟨by first | exact congrArg _ (by unfold okZ;rw [decide_eq_decide];omega) | exact congrArg _ (by unfold okZ;exact (decide_eq_false (by omega)).symm) | exact congrArg _ (by unfold okZ;exact (decide_eq_true (by omega)).symm),rfl⟩⟩
theorem jstart0_any {h:Heap} {n k s:Nat} (hn:n<4294967296) (hk:k<4294967296) (hs:s<18446744073709551616) :
  HC Tryz.prog 215 #[.int .u64 (n:Int),.int .u64 (k:Int),.int .u64 (s:Int)] h (fun v h'=>Own h h' 1 5 v ((jheadN n k s).map bv)):=by
 have ok:=Hp.nil h none_;refine HC.go Tryz.func215 26 ?_;refine .seq<|.r<|.z .asS<|.nil ?_;refine .seq<|.r<|.a' 8 (.lit [.const (.int .u8 116),.const (.int .u8 111),.const (.int .u8 109),.const (.int .u8 101),.const (.int .u8 32),.const (.int .u8 106),.const (.int .u8 110),.const (.int .u8 108)] (cs:=[.int .u8 116,.int .u8 111,.int .u8 109,.int .u8 101,.int .u8 32,.int .u8 106,.int .u8 110,.int .u8 108]) T.el22 T.sz5 T.zr5 ok ⟨rfl,rfl,rfl,rfl,rfl,rfl,rfl,rfl,trivial⟩) ?_;rintro _ η1 ⟨pb1,rfl,ok,xe⟩;have ok:=ok.cx (ys:=([116,111,109,101,32,106,110,108]:List UInt8).map bv) rfl;refine .a' 9 (.cvL T.el22 T.in5 ok) ?_;rintro _ η2 ⟨rfl,ok,cg⟩;refine .z .mvI<|.c' 11 .func (fixed_any (n:=n) (size:=4) (by omega) (by omega) (by omega)) ?_;rintro _ η3 own;obtain ⟨ya1,yc1,rfl⟩:=own.formB;have ok:=ok.own own;refine .z .mvI<|.c' 13 .func (fixed_any (n:=k) (size:=4) (by omega) (by omega) (by omega)) ?_;rintro _ η4 own;obtain ⟨ya2,yc2,rfl⟩:=own.formB;have ok:=ok.own own;refine .z .mvI<|.c' 15 .func (fixed_any (n:=s) (size:=8) (by omega) (by omega) (by omega)) ?_;rintro _ η5 own;obtain ⟨ya3,yc3,rfl⟩:=own.formB;have ok:=ok.own own;refine .a' 16 (.lit [.tmp 9,.tmp 11,.tmp 13,.tmp 15] (cs:=[.slice (some ⟨pb1,0,none⟩) 8 8,.slice ya1 ((fixedN n 4).length) yc1,.slice ya2 ((fixedN k 4).length) yc2,.slice ya3 ((fixedN s 8).length) yc3]) T.el26 T.sz22 T.zr22 ok ⟨rfl,rfl,rfl,rfl,trivial⟩) ?_;rintro _ η6 ⟨pb2,rfl,ok,xe⟩;refine .c' 17 .func (njoin_any (a:=some ⟨pb2,0,none⟩) (c:=4) (L:=[[116,111,109,101,32,106,110,108],(fixedN n 4),(fixedN k 4),(fixedN s 8)]) (RdL.rows (v:=(some ⟨pb2,0,none⟩,4,4)) (xs:=[(some ⟨pb1,0,none⟩,8,8),(ya1,(fixedN n 4).length,yc1),(ya2,(fixedN k 4).length,yc2),(ya3,(fixedN s 8).length,yc3)]) (ls:=[[116,111,109,101,32,106,110,108],(fixedN n 4),(fixedN k 4),(fixedN s 8)]) ok.m0 ⟨⟨_,_,(RdL.ofCapB (v:=(some ⟨pb1,0,none⟩,8,8)) (l:=[116,111,109,101,32,106,110,108]) ok.m4)⟩,⟨_,_,(RdL.ofCapB (v:=(ya1,(fixedN n 4).length,yc1)) (l:=(fixedN n 4)) ok.m3)⟩,⟨_,_,(RdL.ofCapB (v:=(ya2,(fixedN k 4).length,yc2)) (l:=(fixedN k 4)) ok.m2)⟩,⟨_,_,(RdL.ofCapB (v:=(ya3,(fixedN s 8).length,yc3)) (l:=(fixedN s 8)) ok.m1)⟩,trivial⟩) (by simp [fixedN_len]<;>omega)) ?_;rintro _ η7 own;obtain ⟨ya4,yc4,rfl⟩:=own.formB;have ok:=ok.own own;refine .z .asS<|.nil ?_;refine .seq<|.r<|.z .mvS<|.z .mvS<|?_;have hsm:=sumN_lt ([([[116,111,109,101,32,106,110,108],(fixedN n 4),(fixedN k 4),(fixedN s 8)]).flatten]).flatten;refine .a' 20 (.lit [.tmp 19] (cs:=[.slice ya4 ((([[116,111,109,101,32,106,110,108],(fixedN n 4),(fixedN k 4),(fixedN s 8)]).flatten).length) yc4]) T.el26 T.sz22 T.zr22 ok ⟨rfl,trivial⟩) ?_;rintro _ η8 ⟨pb3,rfl,ok,xe⟩;refine .c' 21 .func (sum_any (a:=some ⟨pb3,0,none⟩) (c:=1) (L:=[([[116,111,109,101,32,106,110,108],(fixedN n 4),(fixedN k 4),(fixedN s 8)]).flatten]) (RdL.rows (v:=(some ⟨pb3,0,none⟩,1,1)) (xs:=[(ya4,(([[116,111,109,101,32,106,110,108],(fixedN n 4),(fixedN k 4),(fixedN s 8)]).flatten).length,yc4)]) (ls:=[([[116,111,109,101,32,106,110,108],(fixedN n 4),(fixedN k 4),(fixedN s 8)]).flatten]) ok.m0 ⟨⟨_,_,(RdL.ofCapB (v:=(ya4,(([[116,111,109,101,32,106,110,108],(fixedN n 4),(fixedN k 4),(fixedN s 8)]).flatten).length,yc4)) (l:=(([[116,111,109,101,32,106,110,108],(fixedN n 4),(fixedN k 4),(fixedN s 8)]).flatten)) ok.m1)⟩,trivial⟩)) ?_;rintro _ η9 ⟨rfl,hx⟩;have ok:=ok.ext hx;refine .z (.cvs T.in77 T.in243 (M:=18446744073709551616) rfl rfl)<|.c' 23 .func (fixed_any (n:=(sumN ([([[116,111,109,101,32,106,110,108],(fixedN n 4),(fixedN k 4),(fixedN s 8)]).flatten]).flatten)) (size:=4) (by omega) (by omega) (by omega)) ?_;rintro _ η10 own;obtain ⟨ya5,yc5,rfl⟩:=own.formB;have ok:=ok.own own;refine .a' 24 (.lit [.tmp 18,.tmp 23] (cs:=[.slice ya4 ((([[116,111,109,101,32,106,110,108],(fixedN n 4),(fixedN k 4),(fixedN s 8)]).flatten).length) yc4,.slice ya5 ((fixedN (sumN ([([[116,111,109,101,32,106,110,108],(fixedN n 4),(fixedN k 4),(fixedN s 8)]).flatten]).flatten) 4).length) yc5]) T.el26 T.sz22 T.zr22 ok ⟨rfl,rfl,trivial⟩) ?_;rintro _ η11 ⟨pb4,rfl,ok,xe⟩;refine .c' 25 .func (njoin_any (a:=some ⟨pb4,0,none⟩) (c:=2) (L:=[([[116,111,109,101,32,106,110,108],(fixedN n 4),(fixedN k 4),(fixedN s 8)]).flatten,(fixedN (sumN ([([[116,111,109,101,32,106,110,108],(fixedN n 4),(fixedN k 4),(fixedN s 8)]).flatten]).flatten) 4)]) (RdL.rows (v:=(some ⟨pb4,0,none⟩,2,2)) (xs:=[(ya4,(([[116,111,109,101,32,106,110,108],(fixedN n 4),(fixedN k 4),(fixedN s 8)]).flatten).length,yc4),(ya5,(fixedN (sumN ([([[116,111,109,101,32,106,110,108],(fixedN n 4),(fixedN k 4),(fixedN s 8)]).flatten]).flatten) 4).length,yc5)]) (ls:=[([[116,111,109,101,32,106,110,108],(fixedN n 4),(fixedN k 4),(fixedN s 8)]).flatten,(fixedN (sumN ([([[116,111,109,101,32,106,110,108],(fixedN n 4),(fixedN k 4),(fixedN s 8)]).flatten]).flatten) 4)]) ok.m0 ⟨⟨_,_,(RdL.ofCapB (v:=(ya4,(([[116,111,109,101,32,106,110,108],(fixedN n 4),(fixedN k 4),(fixedN s 8)]).flatten).length,yc4)) (l:=(([[116,111,109,101,32,106,110,108],(fixedN n 4),(fixedN k 4),(fixedN s 8)]).flatten)) ok.m3)⟩,⟨_,_,(RdL.ofCapB (v:=(ya5,(fixedN (sumN ([([[116,111,109,101,32,106,110,108],(fixedN n 4),(fixedN k 4),(fixedN s 8)]).flatten]).flatten) 4).length,yc5)) (l:=(fixedN (sumN ([([[116,111,109,101,32,106,110,108],(fixedN n 4),(fixedN k 4),(fixedN s 8)]).flatten]).flatten) 4)) ok.m1)⟩,trivial⟩) (by simp [fixedN_len]<;>omega)) ?_;rintro _ η12 own;obtain ⟨ya6,yc6,rfl⟩:=own.formB;have ok:=ok.own own;refine .z .asS<|.nil ?_;refine .ret ⟨.slice ya6 ((([([[116,111,109,101,32,106,110,108],(fixedN n 4),(fixedN k 4),(fixedN s 8)]).flatten,(fixedN (sumN ([([[116,111,109,101,32,106,110,108],(fixedN n 4),(fixedN k 4),(fixedN s 8)]).flatten]).flatten) 4)]).flatten).length) yc6,Res.one rfl rfl,by have:=ok.toOwn;simpa [jheadN,jfrontN,jsign] using this⟩
theorem jstart_any {h:Heap} {n k s:Nat} (hn:n<4294967296) (hk:k<4294967296) (hs:s<18446744073709551616) :
  HC Tryz.prog 184 #[.int .i64 (n:Int),.int .i64 (k:Int),.int .u64 (s:Int)] h (fun v h'=>(okJ n k=false∧v=.tuple #[.slice none 0 0,.int .i64 1]∧Ext h h')∨(okJ n k=true∧∃w,v=.tuple #[w,.int .i64 0]∧Own h h' 1 5 w ((jheadN n k s).map bv))):=by
 have ok:=Hp.nil h none_;refine HC.go Tryz.func184 31 ?_;refine .seq<|.r<|.z .asS<|.z .asI<|.nil ?_;refine .seq<|.seq<|.r<|.z .mvI<|.k 9 .func (jright_any (z:=(n:Int)) (by omega))<|.z .not<|.z .mvB<|.spl (fun G11=>?_) (fun G11=>?_)
 ·
  have hz:okZ (n:Int)=false:=by simpa using G11
  refine .y<|.y<|.z .pkt<|.z .mvB<|.y<|.y<|.z .pkt<|.z .mvB<|.y<|.y<|.y<|.y<|.z .pkt<|.nil ?_;refine .ct<|.seq<|.r<|.z .asS<|.z .asI<|.nil ?_;refine .ret ⟨.tuple #[.slice none 0 0,.int .i64 1],Res.two rfl rfl rfl,.inl ⟨by first | exact okJ_1 hz | exact okJ_2 (by omega) | exact okJ_3 (by omega) | exact okJ_3 (fun h9=>by have:=(okZ_quo (k:=k) hz).2 h9;omega),rfl,ok.chg⟩⟩
 have hz:okZ (n:Int)=true:=by simpa using G11
 refine .z .mvI<|.z .lss<|.z .pkf<|.z .mvB<|.sd (fun G15=>?_) (fun G15=>?_)
 ·
  refine .y<|.y<|.z .pkt<|.z .mvB<|.y<|.y<|.y<|.y<|.z .pkt<|.nil ?_;refine .ct<|.seq<|.r<|.z .asS<|.z .asI<|.nil ?_;refine .ret ⟨.tuple #[.slice none 0 0,.int .i64 1],Res.two rfl rfl rfl,.inl ⟨by first | exact okJ_1 hz | exact okJ_2 (by omega) | exact okJ_3 (by omega) | exact okJ_3 (fun h9=>by have:=(okZ_quo (k:=k) hz).2 h9;omega),rfl,ok.chg⟩⟩
 refine .z .mvI<|.z .gtr<|.z .pkf<|.z .mvB<|.sd (fun G19=>?_) (fun G19=>?_)
 ·
  refine .y<|.y<|.y<|.y<|.z .pkt<|.nil ?_;refine .ct<|.seq<|.r<|.z .asS<|.z .asI<|.nil ?_;refine .ret ⟨.tuple #[.slice none 0 0,.int .i64 1],Res.two rfl rfl rfl,.inl ⟨by first | exact okJ_1 hz | exact okJ_2 (by omega) | exact okJ_3 (by omega) | exact okJ_3 (fun h9=>by have:=(okZ_quo (k:=k) hz).2 h9;omega),rfl,ok.chg⟩⟩
 refine .z .mvI<|.z .mvI<|?_;have hmul:=okZ_mul (n:=n) (k:=k) hz (by omega);refine .z .mulI<|.z .gtr<|.z .pkf<|.nil ?_;refine .cd (fun C0=>?_) (fun C0=>?_)
 ·
  refine .seq<|.r<|.z .asS<|.z .asI<|.nil ?_;refine .ret ⟨.tuple #[.slice none 0 0,.int .i64 1],Res.two rfl rfl rfl,.inl ⟨by first | exact okJ_1 hz | exact okJ_2 (by omega) | exact okJ_3 (by omega) | exact okJ_3 (fun h9=>by have:=(okZ_quo (k:=k) hz).2 h9;omega),rfl,ok.chg⟩⟩
 refine .skip<|.seq<|.r<|.z .mvI<|.z (.cvs T.in77 T.in3 (M:=18446744073709551616) rfl rfl)<|.z .mvI<|.z (.cvs T.in77 T.in3 (M:=18446744073709551616) rfl rfl)<|.z .mvI<|.c' 30 .func (jstart0_any (n:=n) (k:=k) (s:=s) (by omega) (by omega) (by omega)) ?_;rintro _ η1 own;obtain ⟨ya1,yc1,rfl⟩:=own.formB;have ok:=ok.own own;refine .z .asS<|.z .asI<|.nil ?_;refine .ret ⟨.tuple #[.slice ya1 ((jheadN n k s).length) yc1,.int .i64 0],Res.two rfl rfl rfl,.inr ⟨okJ_t hz (by omega) (by first | omega | exact (okZ_quo hz).1 (by omega)),_,rfl,by have:=ok.toOwn;simpa [jheadN,jfrontN,jsign] using this⟩⟩
theorem jrstart_any {h:Heap} {n k s:Nat} (hn:n<4294967296) (hk:k<4294967296) (hs:s<18446744073709551616) :
  HC Tryz.prog 159 #[.int .i64 (n:Int),.int .i64 (k:Int),.int .u64 (s:Int)] h (fun v h'=>(okJ n k=false∧v=.tuple #[.slice none 0 0,.int .i64 1]∧Ext h h')∨(okJ n k=true∧∃w,v=.tuple #[w,.int .i64 0]∧Own h h' 1 5 w ((jheadN n k s).map bv))):=by
 have ok:=Hp.nil h none_;refine HC.go Tryz.func159 48 ?_;refine .seq<|.r<|.z .asS<|.z .asI<|.nil ?_;refine .seq<|.seq<|.r<|.z .mvI<|.k 10 .func (jsize_any (z:=(n:Int)) (by omega))<|.z .not<|.z .mvB<|.spl (fun G12=>?_) (fun G12=>?_)
 ·
  have hz:okZ (n:Int)=false:=by simpa using G12
  refine .y<|.y<|.z .pkt<|.z .mvB<|.y<|.y<|.z .pkt<|.z .mvB<|.y<|.y<|.y<|.y<|.z .pkt<|.nil ?_;refine .ct<|.seq<|.r<|.z .asS<|.z .asI<|.nil ?_;refine .ret ⟨.tuple #[.slice none 0 0,.int .i64 1],Res.two rfl rfl rfl,.inl ⟨by first | exact okJ_1 hz | exact okJ_2 (by omega) | exact okJ_3 (by omega) | exact okJ_3 (fun h9=>by have:=(okZ_quo (k:=k) hz).2 h9;omega),rfl,ok.chg⟩⟩
 have hz:okZ (n:Int)=true:=by simpa using G12
 refine .z .mvI<|.z .lss<|.z .pkf<|.z .mvB<|.sd (fun G16=>?_) (fun G16=>?_)
 ·
  refine .y<|.y<|.z .pkt<|.z .mvB<|.y<|.y<|.y<|.y<|.z .pkt<|.nil ?_;refine .ct<|.seq<|.r<|.z .asS<|.z .asI<|.nil ?_;refine .ret ⟨.tuple #[.slice none 0 0,.int .i64 1],Res.two rfl rfl rfl,.inl ⟨by first | exact okJ_1 hz | exact okJ_2 (by omega) | exact okJ_3 (by omega) | exact okJ_3 (fun h9=>by have:=(okZ_quo (k:=k) hz).2 h9;omega),rfl,ok.chg⟩⟩
 refine .z .mvI<|.z .gtr<|.z .pkf<|.z .mvB<|.sd (fun G20=>?_) (fun G20=>?_)
 ·
  refine .y<|.y<|.y<|.y<|.z .pkt<|.nil ?_;refine .ct<|.seq<|.r<|.z .asS<|.z .asI<|.nil ?_;refine .ret ⟨.tuple #[.slice none 0 0,.int .i64 1],Res.two rfl rfl rfl,.inl ⟨by first | exact okJ_1 hz | exact okJ_2 (by omega) | exact okJ_3 (by omega) | exact okJ_3 (fun h9=>by have:=(okZ_quo (k:=k) hz).2 h9;omega),rfl,ok.chg⟩⟩
 refine .z .mvI<|.z .mvI<|?_;have hzl:=okZ_le hz;refine .z (.quoI (a:=16777216) (b:=n))<|.z .gtr<|.z .pkf<|.nil ?_;refine .cd (fun C0=>?_) (fun C0=>?_)
 ·
  refine .seq<|.r<|.z .asS<|.z .asI<|.nil ?_;refine .ret ⟨.tuple #[.slice none 0 0,.int .i64 1],Res.two rfl rfl rfl,.inl ⟨by first | exact okJ_1 hz | exact okJ_2 (by omega) | exact okJ_3 (by omega) | exact okJ_3 (fun h9=>by have:=(okZ_quo (k:=k) hz).2 h9;omega),rfl,ok.chg⟩⟩
 refine .skip<|.seq<|.r<|.a' 26 (.lit [.const (.int .u8 116),.const (.int .u8 111),.const (.int .u8 109),.const (.int .u8 101),.const (.int .u8 32),.const (.int .u8 106),.const (.int .u8 110),.const (.int .u8 108)] (cs:=[.int .u8 116,.int .u8 111,.int .u8 109,.int .u8 101,.int .u8 32,.int .u8 106,.int .u8 110,.int .u8 108]) T.el22 T.sz5 T.zr5 ok ⟨rfl,rfl,rfl,rfl,rfl,rfl,rfl,rfl,trivial⟩) ?_;rintro _ η1 ⟨pb1,rfl,ok,xe⟩;have ok:=ok.cx (ys:=([116,111,109,101,32,106,110,108]:List UInt8).map bv) rfl;refine .a' 27 (.cvL T.el22 T.in5 ok) ?_;rintro _ η2 ⟨rfl,ok,cg⟩;refine .z .asS<|.nil ?_;refine .seq<|.r<|.z .mvS<|.z .mvI<|.z (.cvs T.in77 T.in3 (M:=18446744073709551616) rfl rfl)<|.c' 31 .func (rfixed_any (n:=n) (size:=4) (by omega) (by omega) (by omega)) ?_;rintro _ η3 own;obtain ⟨ya1,yc1,rfl⟩:=own.formB;have ok:=ok.own own;refine .a' 32 (.app (news:=(fixedN n 4).map bv) T.el22 T.sz5 T.by5 T.zr5 ok.n1 (ok.n1.m1).sl bv_all (by simp only [List.length_map,List.length_append,List.length_take,List.length_cons,List.length_nil,List.length_replicate,List.length_range,fixedN_len,sealN_len];omega)) ?_;rintro _ η4 ⟨ya2,yn2,yc2,rfl,ok,ap⟩;have ok:=ok.cx (ys:=([116,111,109,101,32,106,110,108]++(fixedN n 4)).map bv) (by simp [bv]);obtain rfl:yn2=([116,111,109,101,32,106,110,108]++(fixedN n 4)).length:=ok.lenB;refine .z .asS<|.nil ?_;refine .seq<|.r<|.z .mvS<|.z .mvI<|.z (.cvs T.in77 T.in3 (M:=18446744073709551616) rfl rfl)<|.c' 36 .func (rfixed_any (n:=k) (size:=4) (by omega) (by omega) (by omega)) ?_;rintro _ η5 own;obtain ⟨ya3,yc3,rfl⟩:=own.formB;have ok:=ok.own own;refine .a' 37 (.app (news:=(fixedN k 4).map bv) T.el22 T.sz5 T.by5 T.zr5 ok.n1 (ok.n1.m1).sl bv_all (by simp only [List.length_map,List.length_append,List.length_take,List.length_cons,List.length_nil,List.length_replicate,List.length_range,fixedN_len,sealN_len];omega)) ?_;rintro _ η6 ⟨ya4,yn4,yc4,rfl,ok,ap⟩;have ok:=ok.cx (ys:=([116,111,109,101,32,106,110,108]++(fixedN n 4)++(fixedN k 4)).map bv) (by simp [bv]);obtain rfl:yn4=([116,111,109,101,32,106,110,108]++(fixedN n 4)++(fixedN k 4)).length:=ok.lenB;refine .z .asS<|.nil ?_;refine .seq<|.r<|.z .mvS<|.z .mvI<|.c' 40 .func (rfixed_any (n:=s) (size:=8) (by omega) (by omega) (by omega)) ?_;rintro _ η7 own;obtain ⟨ya5,yc5,rfl⟩:=own.formB;have ok:=ok.own own;refine .a' 41 (.app (news:=(fixedN s 8).map bv) T.el22 T.sz5 T.by5 T.zr5 ok.n1 (ok.n1.m1).sl bv_all (by simp only [List.length_map,List.length_append,List.length_take,List.length_cons,List.length_nil,List.length_replicate,List.length_range,fixedN_len,sealN_len];omega)) ?_;rintro _ η8 ⟨ya6,yn6,yc6,rfl,ok,ap⟩;have ok:=ok.cx (ys:=([116,111,109,101,32,106,110,108]++(fixedN n 4)++(fixedN k 4)++(fixedN s 8)).map bv) (by simp [bv]);obtain rfl:yn6=([116,111,109,101,32,106,110,108]++(fixedN n 4)++(fixedN k 4)++(fixedN s 8)).length:=ok.lenB;refine .z .asS<|.nil ?_;refine .seq<|.r<|.z .mvS<|.z .mvS<|?_;have hsm:=sumN_lt ([116,111,109,101,32,106,110,108]++fixedN n 4++fixedN k 4++fixedN s 8);refine .k 44 .func (rsum_any (a:=ya6) (c:=yc6) (l:=[116,111,109,101,32,106,110,108]++(fixedN n 4)++(fixedN k 4)++(fixedN s 8)) (RdL.ofCapB (v:=(ya6,([116,111,109,101,32,106,110,108]++(fixedN n 4)++(fixedN k 4)++(fixedN s 8)).length,yc6)) (l:=([116,111,109,101,32,106,110,108]++(fixedN n 4)++(fixedN k 4)++(fixedN s 8))) ok.m0))<|.z (.cvs T.in77 T.in243 (M:=18446744073709551616) rfl rfl)<|.c' 46 .func (rfixed_any (n:=(sumN ([116,111,109,101,32,106,110,108]++(fixedN n 4)++(fixedN k 4)++(fixedN s 8)))) (size:=4) (by omega) (by omega) (by omega)) ?_;rintro _ η9 own;obtain ⟨ya7,yc7,rfl⟩:=own.formB;have ok:=ok.own own;refine .a' 47 (.app (news:=(fixedN (sumN ([116,111,109,101,32,106,110,108]++(fixedN n 4)++(fixedN k 4)++(fixedN s 8))) 4).map bv) T.el22 T.sz5 T.by5 T.zr5 ok.n1 (ok.n1.m1).sl bv_all (by simp only [List.length_map,List.length_append,List.length_take,List.length_cons,List.length_nil,List.length_replicate,List.length_range,fixedN_len,sealN_len];omega)) ?_;rintro _ η10 ⟨ya8,yn8,yc8,rfl,ok,ap⟩;have ok:=ok.cx (ys:=([116,111,109,101,32,106,110,108]++(fixedN n 4)++(fixedN k 4)++(fixedN s 8)++(fixedN (sumN ([116,111,109,101,32,106,110,108]++(fixedN n 4)++(fixedN k 4)++(fixedN s 8))) 4)).map bv) (by simp [bv]);obtain rfl:yn8=([116,111,109,101,32,106,110,108]++(fixedN n 4)++(fixedN k 4)++(fixedN s 8)++(fixedN (sumN ([116,111,109,101,32,106,110,108]++(fixedN n 4)++(fixedN k 4)++(fixedN s 8))) 4)).length:=ok.lenB;refine .z .asS<|.z .asI<|.nil ?_;refine .ret ⟨.tuple #[.slice ya8 (([116,111,109,101,32,106,110,108]++(fixedN n 4)++(fixedN k 4)++(fixedN s 8)++(fixedN (sumN ([116,111,109,101,32,106,110,108]++(fixedN n 4)++(fixedN k 4)++(fixedN s 8))) 4)).length) yc8,.int .i64 0],Res.two rfl rfl rfl,.inr ⟨okJ_t hz (by omega) (by first | omega | exact (okZ_quo hz).1 (by omega)),_,rfl,by have:=ok.toOwn;simpa [jheadN,jfrontN,jsign] using this⟩⟩
theorem jfoot_any {h:Heap} {F E:Nat→Prop} {s:Nat} {a:Option Addr} {c:Nat} {l:List UInt8} (hs:s<18446744073709551616) (hl:RdL h F E (a,l.length,c) l) :
  HC Tryz.prog 185 #[.int .u64 (s:Int),.slice a l.length c] h (fun v h'=>Own h h' 1 5 v ((jfootN s l).map bv)):=by
 have hc2:=hl.m;have hc1:l.length≤c:=hl.c;simp only at hc2;have ok:=(Hp.nil h none_).arg hl;refine HC.go Tryz.func185 12 ?_;refine .seq<|.r<|.z .asS<|.nil ?_;refine .seq<|.r<|.z .mvI<|.c' 6 .func (fixed_any (n:=s) (size:=8) (by omega) (by omega) (by omega)) ?_;rintro _ η1 own;obtain ⟨ya1,yc1,rfl⟩:=own.formB;have ok:=ok.own own;refine .z .mvS<|.a' 8 (.lit [.tmp 6,.tmp 7] (cs:=[.slice ya1 ((fixedN s 8).length) yc1,.slice a l.length c]) T.el26 T.sz22 T.zr22 ok ⟨rfl,rfl,trivial⟩) ?_;rintro _ η2 ⟨pb1,rfl,ok,xe⟩;have hsm:=sumN_lt ([fixedN s 8,l]).flatten;refine .c' 9 .func (sum_any (a:=some ⟨pb1,0,none⟩) (c:=2) (L:=[(fixedN s 8),l]) (RdL.rows (v:=(some ⟨pb1,0,none⟩,2,2)) (xs:=[(ya1,(fixedN s 8).length,yc1),(a,l.length,c)]) (ls:=[(fixedN s 8),l]) ok.m0 ⟨⟨_,_,(RdL.ofCapB (v:=(ya1,(fixedN s 8).length,yc1)) (l:=(fixedN s 8)) ok.m1)⟩,⟨_,_,ok.r0⟩,trivial⟩)) ?_;rintro _ η3 ⟨rfl,hx⟩;have ok:=ok.ext hx;refine .z (.cvs T.in77 T.in243 (M:=18446744073709551616) rfl rfl)<|.c' 11 .func (fixed_any (n:=(sumN ([(fixedN s 8),l]).flatten)) (size:=4) (by omega) (by omega) (by omega)) ?_;rintro _ η4 own;obtain ⟨ya2,yc2,rfl⟩:=own.formB;have ok:=ok.own own;refine .z .asS<|.nil ?_;refine .ret ⟨.slice ya2 ((fixedN (sumN ([(fixedN s 8),l]).flatten) 4).length) yc2,Res.one rfl rfl,by have:=ok.toOwn;simpa [jfootN] using this⟩
theorem jentry_any {h:Heap} {F E:Nat→Prop} {s:Nat} {z1 z2:Int} {a:Option Addr} {c:Nat} {l:List UInt8} (hs:s<18446744073709551616) (hN:l.length≤10000000) (hl:RdL h F E (a,l.length,c) l) :
  HC Tryz.prog 194 #[.int .u64 (s:Int),.agg #[.int .i64 z1,.int .i64 z2,.slice a l.length c]] h (fun v h'=>(okE ⟨z1,z2,l⟩=false∧v=.tuple #[.slice none 0 0,.int .i64 1]∧Ext h h')∨(okE ⟨z1,z2,l⟩=true∧∃w,v=.tuple #[w,.int .i64 0]∧Own h h' 1 5 w ((jputN s z1.toNat l).map bv))):=by
 have hc2:=hl.m;have hc1:l.length≤c:=hl.c;simp only at hc2;have ok:=(Hp.nil h none_).arg hl;refine HC.go Tryz.func194 41 ?_;refine .seq<|.r<|.a' 3 (.bxA (cs:=[.int .i64 z1,.int .i64 z2,.slice a l.length c]) ok) ?_;rintro _ η1 ⟨pb1,rfl,ok,xe⟩;refine .z .asS<|.z .asI<|.nil ?_;refine .seq<|.seq<|.r<|.z (.fa T.fd102_0)<|.z (.ldx T.ag3 ok.m0)<|.z .lss<|.z .mvB<|.sd (fun G10=>?_) (fun G10=>?_)
 ·
  refine .y<|.y<|.y<|.z .pkt<|.z .mvB<|.y<|.y<|.y<|.z .pkt<|.z .mvB<|.y<|.y<|.y<|.y<|.y<|.z .pkt<|.nil ?_;refine .ct<|.seq<|.r<|.z .asS<|.z .asI<|.nil ?_;refine .ret ⟨.tuple #[.slice none 0 0,.int .i64 1],Res.two rfl rfl rfl,.inl ⟨by first | exact okE_1 (by omega) | exact okE_2 (by simpa using C0),rfl,ok.chg⟩⟩
 refine .z (.fa T.fd102_0)<|.z (.ldx T.ag3 ok.m0)<|.z .gtr<|.z .pkf<|.z .mvB<|.sd (fun G15=>?_) (fun G15=>?_)
 ·
  refine .y<|.y<|.y<|.z .pkt<|.z .mvB<|.y<|.y<|.y<|.y<|.y<|.z .pkt<|.nil ?_;refine .ct<|.seq<|.r<|.z .asS<|.z .asI<|.nil ?_;refine .ret ⟨.tuple #[.slice none 0 0,.int .i64 1],Res.two rfl rfl rfl,.inl ⟨by first | exact okE_1 (by omega) | exact okE_2 (by simpa using C0),rfl,ok.chg⟩⟩
 refine .z (.fa T.fd102_1)<|.z (.ldx T.ag3 ok.m0)<|.z .neq<|.z .pkf<|.z .mvB<|.sd (fun G20=>?_) (fun G20=>?_)
 ·
  refine .y<|.y<|.y<|.y<|.y<|.z .pkt<|.nil ?_;refine .ct<|.seq<|.r<|.z .asS<|.z .asI<|.nil ?_;refine .ret ⟨.tuple #[.slice none 0 0,.int .i64 1],Res.two rfl rfl rfl,.inl ⟨by first | exact okE_1 (by omega) | exact okE_2 (by simpa using C0),rfl,ok.chg⟩⟩
 refine .z (.fa T.fd102_2)<|.z (.ldx T.ag22 ok.m0)<|.z (.len T.el22)<|.k 24 .func (jright_any (z:=(l.length:Int)) (by omega))<|.z .not<|.z .pkf<|.nil ?_;refine .cond (fun C0=>?_) (fun C0=>?_)
 ·
  refine .seq<|.r<|.z .asS<|.z .asI<|.nil ?_;refine .ret ⟨.tuple #[.slice none 0 0,.int .i64 1],Res.two rfl rfl rfl,.inl ⟨by first | exact okE_1 (by omega) | exact okE_2 (by simpa using C0),rfl,ok.chg⟩⟩
 refine .skip<|.seq<|?_;obtain ⟨p,rfl⟩:∃p:Nat,z1=(p:Int):=⟨z1.toNat,by omega⟩;refine .a 9 (fun fl hh=>Hp h none_ [boxI pb1 102 [.int .i64 (p:Int),.int .i64 z2,.slice a l.length c]] [rdI (fun j=>F j∧j<h.size) (fun j=>E j∧j<h.size) (a,l.length,c) l] hh) mixed ?_;have hS:=ok;refine .g 0 false rfl 27 hS (fun _=>.fa T.fd102_0)<|.lw 1 false rfl 28 hS (fun _ _ hS=>.ldx T.ag3 hS.m0)<|.g 2 false rfl 29 hS (fun _=>.cvs T.in77 T.in3 (M:=18446744073709551616) rfl rfl)<|.g 4 false rfl 31 hS (fun _=>.fa T.fd102_2)<|.lw 5 false rfl 32 hS (fun _ _ hS=>.ldx T.ag22 hS.m0)<|.o1 3<|.c' false rfl 30 .func (fixed_any (n:=p) (size:=4) (by omega) (by omega) (by omega)) ?_;rintro _ η2 own;obtain ⟨ya1,yc1,rfl⟩:=own.formB;have ok:=ok.own own;refine ⟨ok.n1.k1,?_⟩;have hS:=ok.n1.k1;refine .o1 6<|.a' false rfl 33 (.lit [.tmp 30,.tmp 32] (cs:=[.slice ya1 ((fixedN p 4).length) yc1,.slice a l.length c]) T.el26 T.sz22 T.zr22 ok ⟨rfl,rfl,trivial⟩) ?_;rintro _ η3 ⟨pb2,rfl,ok,xe⟩;refine ⟨ok.n2.k1,?_⟩;have hS:=ok.n2.k1;refine .o1 7<|.c' false rfl 34 .func (njoin_any (a:=some ⟨pb2,0,none⟩) (c:=2) (L:=[(fixedN p 4),l]) (RdL.rows (v:=(some ⟨pb2,0,none⟩,2,2)) (xs:=[(ya1,(fixedN p 4).length,yc1),(a,l.length,c)]) (ls:=[(fixedN p 4),l]) ok.m0 ⟨⟨_,_,(RdL.ofCapB (v:=(ya1,(fixedN p 4).length,yc1)) (l:=(fixedN p 4)) ok.m1)⟩,⟨_,_,ok.r0⟩,trivial⟩) (by simp [fixedN_len,jfootN]<;>omega)) ?_;rintro _ η4 own;obtain ⟨ya2,yc2,rfl⟩:=own.formB;have ok:=ok.own own;refine ⟨ok.n3.k1,?_⟩;have hS:=ok.n3.k1;refine .g 8 false rfl 6 hS (fun _=>.asS)<|.e ?_;refine .seq<|.r<|.z .mvS<|.z .mvI<|.z .mvS<|.c' 38 .func (jfoot_any (s:=s) (by omega) (a:=ya2) (c:=yc2) (l:=([(fixedN p 4),l]).flatten) (RdL.ofCapB (v:=(ya2,(([(fixedN p 4),l]).flatten).length,yc2)) (l:=(([(fixedN p 4),l]).flatten)) ok.m0)) ?_;rintro _ η5 own;obtain ⟨ya3,yc3,rfl⟩:=own.formB;have ok:=ok.own own;refine .a' 39 (.lit [.tmp 35,.tmp 38] (cs:=[.slice ya2 ((([(fixedN p 4),l]).flatten).length) yc2,.slice ya3 ((jfootN s (([(fixedN p 4),l]).flatten)).length) yc3]) T.el26 T.sz22 T.zr22 ok ⟨rfl,rfl,trivial⟩) ?_;rintro _ η6 ⟨pb3,rfl,ok,xe⟩;refine .c' 40 .func (njoin_any (a:=some ⟨pb3,0,none⟩) (c:=2) (L:=[([(fixedN p 4),l]).flatten,(jfootN s (([(fixedN p 4),l]).flatten))]) (RdL.rows (v:=(some ⟨pb3,0,none⟩,2,2)) (xs:=[(ya2,(([(fixedN p 4),l]).flatten).length,yc2),(ya3,(jfootN s (([(fixedN p 4),l]).flatten)).length,yc3)]) (ls:=[([(fixedN p 4),l]).flatten,(jfootN s (([(fixedN p 4),l]).flatten))]) ok.m0 ⟨⟨_,_,(RdL.ofCapB (v:=(ya2,(([(fixedN p 4),l]).flatten).length,yc2)) (l:=(([(fixedN p 4),l]).flatten)) ok.m2)⟩,⟨_,_,(RdL.ofCapB (v:=(ya3,(jfootN s (([(fixedN p 4),l]).flatten)).length,yc3)) (l:=(jfootN s (([(fixedN p 4),l]).flatten))) ok.m1)⟩,trivial⟩) (by simp [fixedN_len,jfootN]<;>omega)) ?_;rintro _ η7 own;obtain ⟨ya4,yc4,rfl⟩:=own.formB;have ok:=ok.own own;refine .z .asS<|.z .asI<|.nil ?_;refine .ret ⟨.tuple #[.slice ya4 ((([([(fixedN p 4),l]).flatten,(jfootN s (([(fixedN p 4),l]).flatten))]).flatten).length) yc4,.int .i64 0],Res.two rfl rfl rfl,.inr ⟨okE_t (by simpa using C0) (by omega),_,rfl,by have:=ok.toOwn;simpa [jputN,jbodyN,jfootN] using this⟩⟩
theorem jrentry_any {h:Heap} {F E:Nat→Prop} {s:Nat} {z1 z2:Int} {a:Option Addr} {c:Nat} {l:List UInt8} (hs:s<18446744073709551616) (hN:l.length≤10000000) (hl:RdL h F E (a,l.length,c) l) :
  HC Tryz.prog 160 #[.int .u64 (s:Int),.agg #[.int .i64 z1,.int .i64 z2,.slice a l.length c]] h (fun v h'=>(okE ⟨z1,z2,l⟩=false∧v=.tuple #[.slice none 0 0,.int .i64 1]∧Ext h h')∨(okE ⟨z1,z2,l⟩=true∧∃w,v=.tuple #[w,.int .i64 0]∧Own h h' 1 5 w ((jputN s z1.toNat l).map bv))):=by
 have hc2:=hl.m;have hc1:l.length≤c:=hl.c;simp only at hc2;have ok:=(Hp.nil h none_).arg hl;refine HC.go Tryz.func160 45 ?_;refine .seq<|.r<|.a' 3 (.bxA (cs:=[.int .i64 z1,.int .i64 z2,.slice a l.length c]) ok) ?_;rintro _ η1 ⟨pb1,rfl,ok,xe⟩;refine .z .asS<|.z .asI<|.nil ?_;refine .seq<|.seq<|.r<|.z (.fa T.fd102_0)<|.z (.ldx T.ag3 ok.m0)<|.z .lss<|.z .mvB<|.sd (fun G11=>?_) (fun G11=>?_)
 ·
  refine .y<|.y<|.y<|.z .pkt<|.z .mvB<|.y<|.y<|.y<|.z .pkt<|.z .mvB<|.y<|.y<|.y<|.y<|.y<|.z .pkt<|.nil ?_;refine .ct<|.seq<|.r<|.z .asS<|.z .asI<|.nil ?_;refine .ret ⟨.tuple #[.slice none 0 0,.int .i64 1],Res.two rfl rfl rfl,.inl ⟨by first | exact okE_1 (by omega) | exact okE_2 (by simpa using C0),rfl,ok.chg⟩⟩
 refine .z (.fa T.fd102_0)<|.z (.ldx T.ag3 ok.m0)<|.z .gtr<|.z .pkf<|.z .mvB<|.sd (fun G16=>?_) (fun G16=>?_)
 ·
  refine .y<|.y<|.y<|.z .pkt<|.z .mvB<|.y<|.y<|.y<|.y<|.y<|.z .pkt<|.nil ?_;refine .ct<|.seq<|.r<|.z .asS<|.z .asI<|.nil ?_;refine .ret ⟨.tuple #[.slice none 0 0,.int .i64 1],Res.two rfl rfl rfl,.inl ⟨by first | exact okE_1 (by omega) | exact okE_2 (by simpa using C0),rfl,ok.chg⟩⟩
 refine .z (.fa T.fd102_1)<|.z (.ldx T.ag3 ok.m0)<|.z .neq<|.z .pkf<|.z .mvB<|.sd (fun G21=>?_) (fun G21=>?_)
 ·
  refine .y<|.y<|.y<|.y<|.y<|.z .pkt<|.nil ?_;refine .ct<|.seq<|.r<|.z .asS<|.z .asI<|.nil ?_;refine .ret ⟨.tuple #[.slice none 0 0,.int .i64 1],Res.two rfl rfl rfl,.inl ⟨by first | exact okE_1 (by omega) | exact okE_2 (by simpa using C0),rfl,ok.chg⟩⟩
 refine .z (.fa T.fd102_2)<|.z (.ldx T.ag22 ok.m0)<|.z (.len T.el22)<|.k 25 .func (jsize_any (z:=(l.length:Int)) (by omega))<|.z .not<|.z .pkf<|.nil ?_;refine .cond (fun C0=>?_) (fun C0=>?_)
 ·
  refine .seq<|.r<|.z .asS<|.z .asI<|.nil ?_;refine .ret ⟨.tuple #[.slice none 0 0,.int .i64 1],Res.two rfl rfl rfl,.inl ⟨by first | exact okE_1 (by omega) | exact okE_2 (by simpa using C0),rfl,ok.chg⟩⟩
 refine .skip<|.seq<|?_;obtain ⟨p,rfl⟩:∃p:Nat,z1=(p:Int):=⟨z1.toNat,by omega⟩;refine .a 8 (fun fl hh=>Hp h none_ [boxI pb1 102 [.int .i64 (p:Int),.int .i64 z2,.slice a l.length c]] [rdI (fun j=>F j∧j<h.size) (fun j=>E j∧j<h.size) (a,l.length,c) l] hh) mixed ?_;have hS:=ok;refine .g 0 false rfl 28 hS (fun _=>.fa T.fd102_0)<|.lw 1 false rfl 29 hS (fun _ _ hS=>.ldx T.ag3 hS.m0)<|.g 2 false rfl 30 hS (fun _=>.cvs T.in77 T.in3 (M:=18446744073709551616) rfl rfl)<|.g 4 false rfl 32 hS (fun _=>.fa T.fd102_2)<|.lw 5 false rfl 33 hS (fun _ _ hS=>.ldx T.ag22 hS.m0)<|.o1 3<|.c' false rfl 31 .func (rfixed_any (n:=p) (size:=4) (by omega) (by omega) (by omega)) ?_;rintro _ η2 own;obtain ⟨ya1,yc1,rfl⟩:=own.formB;have ok:=ok.own own;refine ⟨ok.n1.k1,?_⟩;have hS:=ok.n1.k1;refine .o1 6<|.a' false rfl 34 (.app (news:=l.map bv) T.el22 T.sz5 T.by5 T.zr5 ok (ok.r0).by bv_all (by simp only [List.length_map,List.length_append,List.length_take,List.length_cons,List.length_nil,List.length_replicate,List.length_range,fixedN_len,sealN_len];omega)) ?_;rintro _ η3 ⟨ya2,yn2,yc2,rfl,ok,ap⟩;have ok:=ok.cx (ys:=((fixedN p 4)++l).map bv) (by simp [bv]);obtain rfl:yn2=((fixedN p 4)++l).length:=ok.lenB;refine ⟨ok.n1.k1,?_⟩;have hS:=ok.n1.k1;refine .g 7 false rfl 6 hS (fun _=>.asS)<|.e ?_;refine .seq<|.r<|.z .mvI<|.c' 36 .func (rfixed_any (n:=s) (size:=8) (by omega) (by omega) (by omega)) ?_;rintro _ η4 own;obtain ⟨ya3,yc3,rfl⟩:=own.formB;have ok:=ok.own own;refine .z .mvS<|.a' 38 (.app (news:=((fixedN p 4)++l).map bv) T.el22 T.sz5 T.by5 T.zr5 ok (ok.m1).sl bv_all (by simp only [List.length_map,List.length_append,List.length_take,List.length_cons,List.length_nil,List.length_replicate,List.length_range,fixedN_len,sealN_len];omega)) ?_;rintro _ η5 ⟨ya4,yn4,yc4,rfl,ok,ap⟩;have ok:=ok.cx (ys:=((fixedN s 8)++((fixedN p 4)++l)).map bv) (by simp [bv]);obtain rfl:yn4=((fixedN s 8)++((fixedN p 4)++l)).length:=ok.lenB;have hsm:=sumN_lt (fixedN s 8++(fixedN p 4++l));refine .k 39 .func (rsum_any (a:=ya4) (c:=yc4) (l:=(fixedN s 8)++((fixedN p 4)++l)) (RdL.ofCapB (v:=(ya4,((fixedN s 8)++((fixedN p 4)++l)).length,yc4)) (l:=((fixedN s 8)++((fixedN p 4)++l))) ok.m0))<|.z .asI<|.nil ?_;refine .seq<|.r<|.z .mvS<|.z .mvI<|.z (.cvs T.in77 T.in243 (M:=18446744073709551616) rfl rfl)<|.c' 43 .func (rfixed_any (n:=(sumN ((fixedN s 8)++((fixedN p 4)++l)))) (size:=4) (by omega) (by omega) (by omega)) ?_;rintro _ η6 own;obtain ⟨ya5,yc5,rfl⟩:=own.formB;have ok:=ok.own own;refine .a' 44 (.app (news:=(fixedN (sumN ((fixedN s 8)++((fixedN p 4)++l))) 4).map bv) T.el22 T.sz5 T.by5 T.zr5 ok.n2 (ok.n2.m1).sl bv_all (by simp only [List.length_map,List.length_append,List.length_take,List.length_cons,List.length_nil,List.length_replicate,List.length_range,fixedN_len,sealN_len];omega)) ?_;rintro _ η7 ⟨ya6,yn6,yc6,rfl,ok,ap⟩;have ok:=ok.cx (ys:=((fixedN p 4)++l++(fixedN (sumN ((fixedN s 8)++((fixedN p 4)++l))) 4)).map bv) (by simp [bv]);obtain rfl:yn6=((fixedN p 4)++l++(fixedN (sumN ((fixedN s 8)++((fixedN p 4)++l))) 4)).length:=ok.lenB;refine .z .asS<|.z .asI<|.nil ?_;refine .ret ⟨.tuple #[.slice ya6 (((fixedN p 4)++l++(fixedN (sumN ((fixedN s 8)++((fixedN p 4)++l))) 4)).length) yc6,.int .i64 0],Res.two rfl rfl rfl,.inr ⟨okE_t (by simpa using C0) (by omega),_,rfl,by have:=ok.toOwn;simpa [jputN,jbodyN,jfootN] using this⟩⟩
theorem jscan_1 {l:List UInt8} (h:l.length<28):jscanN l=(0,0,[],6):=if_pos h
theorem jscan_2 {l:List UInt8} (h:¬l.length<28) (h1:l.take 8≠jsign):jscanN l=(0,0,[],8):=by unfold jscanN;rw [if_neg h,if_pos h1]
theorem jscan_3 {l:List UInt8} (h:¬l.length<28) (h1:l.take 8=jsign) (h2:okJ (rdN l 8 4) (rdN l 12 4)=false∨jheadN (rdN l 8 4) (rdN l 12 4) (rdN l 16 8)≠l.take 28):jscanN l=(0,0,[],14):=by
 unfold jscanN;rw [if_neg h,if_neg (by simpa using h1),if_pos (by unfold jhOk;rcases h2 with h2 | h2<;>simp [h2])]
theorem jscan_4 {l:List UInt8} (h:¬l.length<28) (h1:l.take 8=jsign) (h2:okJ (rdN l 8 4) (rdN l 12 4)=true) (h3:jheadN (rdN l 8 4) (rdN l 12 4) (rdN l 16 8)=l.take 28):jscanN l=(rdN l 8 4,rdN l 12 4,jents l (rdN l 8 4) (rdN l 16 8) 28,0):=by
 unfold jscanN;rw [if_neg h,if_neg (by simpa using h1),if_neg (by simp [jhOk,h2,h3])]
theorem okJ_le {n k:Nat} (h:okJ n k=true):n≤4096∧k≤1048576∧n*k≤16777216∧okSz n=true:=by
 simp only [okJ,Bool.and_eq_true,decide_eq_true_eq] at h;have:=h.1;simp only [okSz,Bool.or_eq_true,beq_iff_eq] at this;exact ⟨by omega,h.2.1,h.2.2,h.1⟩
theorem jscan_any {h:Heap} {F E:Nat→Prop} {a:Option Addr} {c:Nat} {l:List UInt8} (hl:RdL h F E (a,l.length,c) l) (hN:l.length≤100000000) :
  HC Tryz.prog 138 #[.slice a l.length c] h (fun v h'=>∃x,v=.tuple #[.int .i64 ((jscanN l).1:Nat),.int .i64 ((jscanN l).2.1:Nat),sv x,.int .i64 ((jscanN l).2.2.2:Nat)]∧Ext h h'∧RdL h' (Nw h h') (Nw h h') x (jscanN l).2.2.1):=by
 have hc2:=hl.m;have hc1:l.length≤c:=hl.c;simp only at hc2;have ok:=(Hp.nil h none_).arg hl;have h41:=rdN_lt4 l 8;have h42:=rdN_lt4 l 12;have h81:=rdN_lt8 l 16;refine HC.go Tryz.func138 126 ?_;refine .seq<|.r<|.z .asI<|.z .asI<|.z .asS<|.z .asI<|.nil ?_;refine .scope<|.seq<|.seq<|.r<|.z .mvS<|.z (.len T.el22)<|.z .lss<|.nil ?_;refine .cd (fun C0=>?_) (fun C0=>?_)
 ·
  refine .seq<|.r<|.z .asI<|.z .asI<|.z .asS<|.z .asI<|.nil ?_;refine .ret ⟨.tuple #[.int .i64 0,.int .i64 0,.slice none 0 0,.int .i64 6],Res.many (vs:=[.int .i64 0,.int .i64 0,.slice none 0 0,.int .i64 6]) rfl ⟨rfl,rfl,rfl,rfl,trivial⟩ rfl,⟨(none,0,0),by rw [jscan_1 (by omega)];rfl,ok.chg,by rw [jscan_1 (by omega)];exact RdL.nil _ _ _⟩⟩
 refine .skip<|.seq<|.seq<|.r<|.z .mvS<|.z (.sl_h ((l.take 8).length) T.el22 T.sz5 (hb:=by (simp;omega)))<|?_;have ok:=ok.d0 (rdI (fun j=>F j∧j<h.size) (fun j=>E j∧j<h.size) (a,(l.take 8).length,c) (l.take 8)) ((ok.r0).pre (l2:=l.take 8) (List.take_prefix _ _)) (fun _ h=>h);refine .z (.bts T.el22 T.in5 T.st9 (ok.r0).by)<|.z .tNeB<|.nil ?_;refine .cd (fun C1=>?_) (fun C1=>?_)
 ·
  refine .seq<|.r<|.z .asI<|.z .asI<|.z .asS<|.z .asI<|.nil ?_;refine .ret ⟨.tuple #[.int .i64 0,.int .i64 0,.slice none 0 0,.int .i64 8],Res.many (vs:=[.int .i64 0,.int .i64 0,.slice none 0 0,.int .i64 8]) rfl ⟨rfl,rfl,rfl,rfl,trivial⟩ rfl,⟨(none,0,0),by rw [jscan_2 (by omega) C1];rfl,ok.chg,by rw [jscan_2 (by omega) C1];exact RdL.nil _ _ _⟩⟩
 have hsg:l.take 8=jsign:=Decidable.not_not.1 C1;refine .skip<|.seq<|.r<|.z .mvS<|.k 28 .func (read_any (p:=8) (size:=4) (a:=a) (c:=c) (l:=l) ok.r1 (by omega) (by omega) (by omega))<|.z .mvU<|.z .ex<|.z .ex<|.z .asI<|.z .asI<|.nil ?_;refine .seq<|.r<|.z .mvS<|.k 33 .func (read_any (p:=12) (size:=4) (a:=a) (c:=c) (l:=l) ok.r1 (by omega) (by omega) (by omega))<|.z .mvU<|.z .ex<|.z .ex<|.z .asI<|.z .asI<|.nil ?_;refine .seq<|.r<|.z .mvS<|.k 38 .func (read_any (p:=16) (size:=8) (a:=a) (c:=c) (l:=l) ok.r1 (by omega) (by omega) (by omega))<|.z .mvU<|.z .ex<|.z .ex<|.z .asI<|.z .asI<|.nil ?_;refine .seq<|.r<|.z .mvI<|.z (.cvi T.in3 T.in77)<|.z .mvI<|.z (.cvi T.in3 T.in77)<|.z .mvI<|.c' 47 .func (jstart_any (n:=(rdN l 8 4)) (k:=(rdN l 12 4)) (s:=(rdN l 16 8)) (by omega) (by omega) (by omega)) ?_;rintro _ η1 (⟨hoj,rfl,hx⟩ | ⟨hoj,w,rfl,own⟩)
 ·
  have ok:=ok.ext hx;have hbad:okJ (rdN l 8 4) (rdN l 12 4)=false∨jheadN (rdN l 8 4) (rdN l 12 4) (rdN l 16 8)≠l.take 28:=.inl hoj;refine .z .mvU<|.z .ex<|.z .ex<|.z .asS<|.z .asI<|.nil ?_;refine .seq<|.seq<|.q (hm:=mixed)<|.z .mvI<|.z .neq<|.z .mvB<|.y<|.y<|.y<|.y<|.y<|.y<|.z .pkt<|.nil ?_;refine .ct<|.seq<|.r<|.z .asI<|.z .asI<|.z .asS<|.z .asI<|.nil ?_;refine .ret ⟨.tuple #[.int .i64 0,.int .i64 0,.slice none 0 0,.int .i64 14],Res.many (vs:=[.int .i64 0,.int .i64 0,.slice none 0 0,.int .i64 14]) rfl ⟨rfl,rfl,rfl,rfl,trivial⟩ rfl,⟨(none,0,0),by rw [jscan_3 (by omega) hsg hbad];rfl,ok.chg,by rw [jscan_3 (by omega) hsg hbad];exact RdL.nil _ _ _⟩⟩
 obtain ⟨ya1,yc1,rfl⟩:=own.formB;have ok:=ok.own own;have hoj2:=okJ_le hoj;refine .z .mvU<|.z .ex<|.z .ex<|.z .asS<|.z .asI<|.nil ?_;refine .seq<|.seq<|.q (hm:=mixed)<|.z .mvI<|.z .neq<|.z .mvB<|.z .mvS<|.z (.bts T.el22 T.in5 T.st9 (ok.m0).sl)<|.z .mvS<|.z (.sl_h ((l.take 28).length) T.el22 T.sz5 (hb:=by (simp;omega)))<|?_;have ok:=ok.d1 (rdI (fun j=>F j∧j<h.size) (fun j=>E j∧j<h.size) (a,(l.take 28).length,c) (l.take 28)) ((ok.r1).pre (l2:=l.take 28) (List.take_prefix _ _)) (fun _ h=>h);refine .z (.bts T.el22 T.in5 T.st9 (ok.r0).by)<|.z .tNeB<|.z .pkf<|.nil ?_;refine .cd (fun C2=>?_) (fun C2=>?_)
 ·
  have hbad:okJ (rdN l 8 4) (rdN l 12 4)=false∨jheadN (rdN l 8 4) (rdN l 12 4) (rdN l 16 8)≠l.take 28:=.inr C2;refine .seq<|.r<|.z .asI<|.z .asI<|.z .asS<|.z .asI<|.nil ?_;refine .ret ⟨.tuple #[.int .i64 0,.int .i64 0,.slice none 0 0,.int .i64 14],Res.many (vs:=[.int .i64 0,.int .i64 0,.slice none 0 0,.int .i64 14]) rfl ⟨rfl,rfl,rfl,rfl,trivial⟩ rfl,⟨(none,0,0),by rw [jscan_3 (by omega) hsg hbad];rfl,ok.chg,by rw [jscan_3 (by omega) hsg hbad];exact RdL.nil _ _ _⟩⟩
 have hJ4:=jscan_4 (by omega) hsg hoj (Decidable.not_not.1 C2);refine .skip<|.seq<|.r<|.z .mvI<|.z (.cvi T.in3 T.in77)<|.z (.addI (a:=4))<|.z (.addI (b:=4))<|.z .asI<|.nil ?_;refine .seq<|.label<|.seq<|.seq<|?_;have ok:=ok.accNil 102 Fr;refine .r<|.z .asI<|.nil ?_;refine .block fun K0 hK0=>.loop (fun m s hh=>∃(at_:Nat) (L:List Fr) (a8:Option Addr) (n8 c8:Nat) (E2:Nat→Prop),Has s [(0,.slice a l.length c),(4,.slice a8 n8 c8),(6,.int .u64 (((rdN l 8 4):Nat):Int)),(8,.int .u64 (((rdN l 12 4):Nat):Int)),(10,.int .u64 (((rdN l 16 8):Nat):Int)),(14,.int .i64 (((4+(rdN l 8 4))+4:Nat):Int)),(15,.int .i64 (at_:Int))]∧Hp h none_ [accI 102 (a8,n8,c8) (none,0,0) E2 L []] [rdI (fun j=>F j∧j<h.size) (fun j=>E j∧j<h.size) (a,(l.take 28).length,c) (l.take 28),rdI (fun j=>F j∧j<h.size) (fun j=>E j∧j<h.size) (a,(l.take 8).length,c) (l.take 8),rdI (fun j=>F j∧j<h.size) (fun j=>E j∧j<h.size) (a,l.length,c) l] hh∧L++jents l (rdN l 8 4) (rdN l 16 8) at_=jents l (rdN l 8 4) (rdN l 16 8) 28∧L.length≤at_∧28≤at_∧at_≤l.length∧m=l.length-at_) ?_ ?_
 ·exact ⟨_,28,[],none,0,0,none_,⟨rfl,rfl,rfl,rfl,rfl,rfl,rfl,trivial⟩,ok.k1,rfl,Nat.zero_le _,Nat.le_refl _,by omega,rfl⟩
 rintro _ _ η2 ⟨at_,L,a8,n8,c8,E2,hs,ok,hL,hLl,h28,hat,rfl⟩ J0 hJ0;refine .frame hs fun τ=>?_;refine .seq<|.block fun K1 hK1=>.seq<|.seq<|.r<|.z .mvS<|.z (.len T.el22)<|.z .mvI<|.z .sub<|.z .mvI<|.z .lss<|.nil ?_;refine .cd (fun C3=>?_) (fun C3=>?_)
 ·
  have hnf:¬jfits l (rdN l 8 4) (rdN l 16 8) at_:=fun h=>by have:=h.1;omega
  have hEnd:jents l (rdN l 8 4) (rdN l 16 8) 28=L:=by rw [←hL,jents_f hnf,List.append_nil]
  refine .exit<|hK0 _ _<|.seq<|.r<|.z .mvI<|.z (.cvi T.in3 T.in77)<|.z .mvI<|.z (.cvi T.in3 T.in77)<|.z .mvS<|.z .asI<|.z .asI<|.z .asS<|.z .asI<|.nil ?_;have ok:=(ok).accEq;refine .ret ⟨.tuple #[.int .i64 (((rdN l 8 4):Nat):Int),.int .i64 (((rdN l 12 4):Nat):Int),.slice a8 n8 c8,.int .i64 0],Res.many (vs:=[.int .i64 (((rdN l 8 4):Nat):Int),.int .i64 (((rdN l 12 4):Nat):Int),.slice a8 n8 c8,.int .i64 0]) rfl ⟨rfl,rfl,rfl,rfl,trivial⟩ rfl,⟨(a8,n8,c8),by rw [hJ4];rfl,ok.chg,by rw [hJ4];show RdL _ _ _ _ (jents _ _ _ 28);rw [hEnd];exact (ok).m0.l3.mono (fun j hj=>(ok).fresh j (.inr (.inl hj))) (fun j hj=>(ok).fresh j (.inr (.inr hj)))⟩⟩
 refine .skip<|.seq<|.r<|.z .mvS<|.z .mvI<|.k 76 .func (read_any (p:=at_) (size:=4) (a:=a) (c:=c) (l:=l) ok.r2 (by omega) (by omega) (by omega))<|.z .mvU<|.z .ex<|.z .ex<|.z .asI<|.z .asI<|.nil ?_;refine .seq<|.r<|.z .mvS<|.z .mvI<|.z .mvI<|.z (.addI (b:=4))<|.z .mvI<|.z (.cvi T.in3 T.in77)<|.z .addI<|.z (.slh at_ (at_+4+(rdN l 8 4)) T.el22 T.sz5)<|?_;generalize hc1:cutA a at_ c 1=ca1;generalize hn1:(at_+4+(rdN l 8 4))-at_=cn1;obtain rfl:cn1=((l.drop at_).take (4+(rdN l 8 4))).length:=by rw [←hn1];simp;omega
 have ok:=ok.d2 (rdI (fun j=>F j∧j<h.size) (fun j=>E j∧j<h.size) (ca1,((l.drop at_).take (4+(rdN l 8 4))).length,c-at_) ((l.drop at_).take (4+(rdN l 8 4)))) (by have h1:=ok.r2.cut (i:=at_) (j:=(at_+4+(rdN l 8 4))) (by omega) (by omega);rw [show ((l).drop at_).take ((at_+4+(rdN l 8 4))-at_)=(l.drop at_).take (4+(rdN l 8 4)) from by congr 1;omega] at h1;rw [←hc1,←hn1];exact h1) (fun _ h=>h);refine .z .asS<|.nil ?_;refine .seq<|.seq<|.a 24 (fun fl hh=>Hp h none_ [accI 102 (a8,n8,c8) (none,0,0) E2 L []] [rdI (fun j=>F j∧j<h.size) (fun j=>E j∧j<h.size) (ca1,((l.drop at_).take (4+(rdN l 8 4))).length,c-at_) ((l.drop at_).take (4+(rdN l 8 4))),rdI (fun j=>F j∧j<h.size) (fun j=>E j∧j<h.size) (a,(l.take 28).length,c) (l.take 28),rdI (fun j=>F j∧j<h.size) (fun j=>E j∧j<h.size) (a,(l.take 8).length,c) (l.take 8),rdI (fun j=>F j∧j<h.size) (fun j=>E j∧j<h.size) (a,l.length,c) l] hh) mixed ?_;have hS:=ok;refine .g 0 false rfl 87 hS (fun _=>.mvI)<|.g 1 false rfl 88 hS (fun _=>.lss)<|.g 2 false rfl 89 hS (fun _=>.mvB)<|.sd (fun G89=>?_) (fun G89=>?_)
 ·
  have hnf:¬jfits l (rdN l 8 4) (rdN l 16 8) at_:=fun h=>by have:=h.2.1;omega
  have hEnd:jents l (rdN l 8 4) (rdN l 16 8) 28=L:=by rw [←hL,jents_f hnf,List.append_nil]
  refine .x 3 false rfl 90 hS<|.x 4 false rfl 91 hS<|.g 5 false rfl 92 hS (fun _=>.pkt)<|.g 6 false rfl 93 hS (fun _=>.mvB)<|.x 7 false rfl 94 hS<|.x 8 false rfl 95 hS<|.x 9 false rfl 96 hS<|.x 10 false rfl 97 hS<|.x 11 false rfl 98 hS<|.x 12 false rfl 99 hS<|.x 13 false rfl 100 hS<|.x 14 false rfl 101 hS<|.x 15 false rfl 102 hS<|.x 16 false rfl 103 hS<|.x 17 false rfl 104 hS<|.x 18 false rfl 105 hS<|.x 19 false rfl 106 hS<|.x 20 false rfl 107 hS<|.x 21 false rfl 108 hS<|.x 22 false rfl 109 hS<|.g 23 false rfl 110 hS (fun _=>.pkt)<|.e ?_;refine .ct<|.exit<|hK0 _ _<|.seq<|.r<|.z .mvI<|.z (.cvi T.in3 T.in77)<|.z .mvI<|.z (.cvi T.in3 T.in77)<|.z .mvS<|.z .asI<|.z .asI<|.z .asS<|.z .asI<|.nil ?_;have ok:=(ok).accEq;refine .ret ⟨.tuple #[.int .i64 (((rdN l 8 4):Nat):Int),.int .i64 (((rdN l 12 4):Nat):Int),.slice a8 n8 c8,.int .i64 0],Res.many (vs:=[.int .i64 (((rdN l 8 4):Nat):Int),.int .i64 (((rdN l 12 4):Nat):Int),.slice a8 n8 c8,.int .i64 0]) rfl ⟨rfl,rfl,rfl,rfl,trivial⟩ rfl,⟨(a8,n8,c8),by rw [hJ4];rfl,ok.chg,by rw [hJ4];show RdL _ _ _ _ (jents _ _ _ 28);rw [hEnd];exact (ok).m0.l3.mono (fun j hj=>(ok).fresh j (.inr (.inl hj))) (fun j hj=>(ok).fresh j (.inr (.inr hj)))⟩⟩
 refine .g 3 false rfl 90 hS (fun _=>.mvI)<|.g 4 false rfl 91 hS (fun _=>.gtr)<|.g 5 false rfl 92 hS (fun _=>.pkf)<|.g 6 false rfl 93 hS (fun _=>.mvB)<|.sd (fun G93=>?_) (fun G93=>?_)
 ·
  have hnf:¬jfits l (rdN l 8 4) (rdN l 16 8) at_:=fun h=>by have:=h.2.1;omega
  have hEnd:jents l (rdN l 8 4) (rdN l 16 8) 28=L:=by rw [←hL,jents_f hnf,List.append_nil]
  refine .x 7 false rfl 94 hS<|.x 8 false rfl 95 hS<|.x 9 false rfl 96 hS<|.x 10 false rfl 97 hS<|.x 11 false rfl 98 hS<|.x 12 false rfl 99 hS<|.x 13 false rfl 100 hS<|.x 14 false rfl 101 hS<|.x 15 false rfl 102 hS<|.x 16 false rfl 103 hS<|.x 17 false rfl 104 hS<|.x 18 false rfl 105 hS<|.x 19 false rfl 106 hS<|.x 20 false rfl 107 hS<|.x 21 false rfl 108 hS<|.x 22 false rfl 109 hS<|.g 23 false rfl 110 hS (fun _=>.pkt)<|.e ?_;refine .ct<|.exit<|hK0 _ _<|.seq<|.r<|.z .mvI<|.z (.cvi T.in3 T.in77)<|.z .mvI<|.z (.cvi T.in3 T.in77)<|.z .mvS<|.z .asI<|.z .asI<|.z .asS<|.z .asI<|.nil ?_;have ok:=(ok).accEq;refine .ret ⟨.tuple #[.int .i64 (((rdN l 8 4):Nat):Int),.int .i64 (((rdN l 12 4):Nat):Int),.slice a8 n8 c8,.int .i64 0],Res.many (vs:=[.int .i64 (((rdN l 8 4):Nat):Int),.int .i64 (((rdN l 12 4):Nat):Int),.slice a8 n8 c8,.int .i64 0]) rfl ⟨rfl,rfl,rfl,rfl,trivial⟩ rfl,⟨(a8,n8,c8),by rw [hJ4];rfl,ok.chg,by rw [hJ4];show RdL _ _ _ _ (jents _ _ _ 28);rw [hEnd];exact (ok).m0.l3.mono (fun j hj=>(ok).fresh j (.inr (.inl hj))) (fun j hj=>(ok).fresh j (.inr (.inr hj)))⟩⟩
 refine .g 7 false rfl 94 hS (fun _=>.mvI)<|.g 8 false rfl 95 hS (fun _=>.mvS)<|.g 11 false rfl 98 hS (fun _=>.mvS)<|.g 12 false rfl 99 hS (fun _=>.mvI)<|.g 13 false rfl 100 hS (fun _=>.addI (b:=4))<|.g 14 false rfl 101 hS (fun _=>.mvI)<|.g 15 false rfl 102 hS (fun _=>.cvi T.in3 T.in77)<|.g 16 false rfl 103 hS (fun _=>.addI)<|.g 17 false rfl 104 hS (fun _=>.mvI)<|.g 18 false rfl 105 hS (fun _=>.mvI)<|.g 19 false rfl 106 hS (fun _=>.addI)<|.g 20 false rfl 107 hS (fun _=>.slh (at_+4+(rdN l 8 4)) (at_+(4+(rdN l 8 4)+4)) T.el22 T.sz5)<|.lw 21 false rfl 108 hS (fun _ _ hS=>.bts (l:=(l.drop (at_+4+(rdN l 8 4))).take 4) T.el22 T.in5 T.st9 (by have h1:=RdL.by ((hS.r3).cut (i:=(at_+4+(rdN l 8 4))) (j:=(at_+(4+(rdN l 8 4)+4))) (by omega) (by omega));rw [show (l.drop (at_+4+(rdN l 8 4))).take ((at_+(4+(rdN l 8 4)+4))-(at_+4+(rdN l 8 4)))=(l.drop (at_+4+(rdN l 8 4))).take 4 from by congr 1;omega] at h1;exact h1))<|.o1 9<|.c' false rfl 96 .func (jfoot_any (s:=(rdN l 16 8)) (by omega) (a:=ca1) (c:=c-at_) (l:=(l.drop at_).take (4+(rdN l 8 4))) ok.r0) ?_;rintro _ η3 own;obtain ⟨ya2,yc2,rfl⟩:=own.formB;have ok:=ok.own own;refine ⟨ok.n1.k1,?_⟩;have hS:=ok.n1.k1;refine .str (fun _ hh=>Hp h none_ [capI 1 5 (ya2,(jfootN (rdN l 16 8) ((l.drop at_).take (4+(rdN l 8 4)))).length,yc2) ((jfootN (rdN l 16 8) ((l.drop at_).take (4+(rdN l 8 4)))).map bv),accI 102 (a8,n8,c8) (none,0,0) E2 L []] [rdI (fun j=>F j∧j<h.size) (fun j=>E j∧j<h.size) (ca1,((l.drop at_).take (4+(rdN l 8 4))).length,c-at_) ((l.drop at_).take (4+(rdN l 8 4))),rdI (fun j=>F j∧j<h.size) (fun j=>E j∧j<h.size) (a,(l.take 28).length,c) (l.take 28),rdI (fun j=>F j∧j<h.size) (fun j=>E j∧j<h.size) (a,(l.take 8).length,c) (l.take 8),rdI (fun j=>F j∧j<h.size) (fun j=>E j∧j<h.size) (a,l.length,c) l] hh) (fun _ _ h=>h.tM) ?_;have hS:=ok;refine .lw 10 false rfl 97 hS (fun _ _ hS=>.bts T.el22 T.in5 T.st9 (hS.m0).sl)<|.g 22 false rfl 109 hS (fun _=>.tNeB)<|.g 23 false rfl 110 hS (fun _=>.pkf)<|.e ?_;refine .cd (fun C4=>?_) (fun C4=>?_)
 ·
  have hnf:¬jfits l (rdN l 8 4) (rdN l 16 8) at_:=fun h=>by exact C4 h.2.2
  have hEnd:jents l (rdN l 8 4) (rdN l 16 8) 28=L:=by rw [←hL,jents_f hnf,List.append_nil]
  refine .exit<|hK0 _ _<|.seq<|.r<|.z .mvI<|.z (.cvi T.in3 T.in77)<|.z .mvI<|.z (.cvi T.in3 T.in77)<|.z .mvS<|.z .asI<|.z .asI<|.z .asS<|.z .asI<|.nil ?_;have ok:=(ok.n1).accEq;refine .ret ⟨.tuple #[.int .i64 (((rdN l 8 4):Nat):Int),.int .i64 (((rdN l 12 4):Nat):Int),.slice a8 n8 c8,.int .i64 0],Res.many (vs:=[.int .i64 (((rdN l 8 4):Nat):Int),.int .i64 (((rdN l 12 4):Nat):Int),.slice a8 n8 c8,.int .i64 0]) rfl ⟨rfl,rfl,rfl,rfl,trivial⟩ rfl,⟨(a8,n8,c8),by rw [hJ4];rfl,ok.chg,by rw [hJ4];show RdL _ _ _ _ (jents _ _ _ 28);rw [hEnd];exact (ok).m0.l3.mono (fun j hj=>(ok).fresh j (.inr (.inl hj))) (fun j hj=>(ok).fresh j (.inr (.inr hj)))⟩⟩
 have hfit:jfits l (rdN l 8 4) (rdN l 16 8) at_:=⟨by omega,⟨by omega,by omega⟩,Decidable.not_not.1 C4⟩;refine .skip<|.r<|.z .mvS<|.z .mvI<|.z (.cvi T.in3 T.in77)<|.a' 114 (.lit [] (cs:=[]) T.el22 T.sz5 T.zr5 ok trivial) ?_;rintro _ η4 ⟨pb1,rfl,ok,xe⟩;have ok:=ok.cx (ys:=([]:List UInt8).map bv) rfl;refine .z .mvS<|.z (.sll 4 T.el22 T.sz5)<|?_;generalize hc2:cutA ca1 4 (c-at_) 1=ca2;generalize hn2:(((l.drop at_).take (4+(rdN l 8 4))).length)-4=cn2;obtain rfl:cn2=((l.drop (at_+4)).take (rdN l 8 4)).length:=by rw [←hn2];simp;omega
 have ok:=ok.d0 (rdI (fun j=>F j∧j<h.size) (fun j=>E j∧j<h.size) (ca2,((l.drop (at_+4)).take (rdN l 8 4)).length,(c-at_)-4) ((l.drop (at_+4)).take (rdN l 8 4))) (by have h1:=ok.r0.cut (i:=4) (j:=((l.drop at_).take (4+(rdN l 8 4))).length) (by omega) (by omega);rw [show (((l.drop at_).take (4+(rdN l 8 4))).drop 4).take (((l.drop at_).take (4+(rdN l 8 4))).length-4)=(l.drop (at_+4)).take (rdN l 8 4) from by rw [List.drop_take,List.drop_drop,List.take_take];congr 1;rw [List.length_take,List.length_drop];omega] at h1;rw [←hc2,←hn2];exact h1) (fun _ h=>h);refine .a' 117 (.app (news:=((l.drop (at_+4)).take (rdN l 8 4)).map bv) T.el22 T.sz5 T.by5 T.zr5 ok (ok.r0).by bv_all (by simp only [List.length_map,List.length_append,List.length_take,List.length_cons,List.length_nil,List.length_replicate,List.length_range,fixedN_len,sealN_len];omega)) ?_;rintro _ η5 ⟨ya3,yn2,yc3,rfl,ok,ap⟩;have ok:=ok.cx (ys:=(((l.drop (at_+4)).take (rdN l 8 4))).map bv) (by simp [bv]);obtain rfl:yn2=(((l.drop (at_+4)).take (rdN l 8 4))).length:=ok.lenB;refine .z (.bd #[.int .i64 (((rdN l at_ 4):Nat):Int),.int .i64 0,.slice ya3 ((((l.drop (at_+4)).take (rdN l 8 4))).length) yc3] T.zr102 T.pl102 rfl)<|.a' 119 (.lit [.tmp 118] (cs:=[.int .i64 (((rdN l at_ 4):Nat):Int),.int .i64 0,.slice ya3 ((((l.drop (at_+4)).take (rdN l 8 4))).length) yc3]) T.el76 T.sz102 T.zr102 ok ⟨rfl,trivial⟩) ?_;rintro _ η6 ⟨pb2,rfl,ok,xe⟩;refine .a' 120 (.appA (jraw l (rdN l 8 4) at_) T.el76 T.sz102 T.by102 T.zr102 (ok.n1.n3) ((ok.n1.n3.m2).sl) (Fr.rd_cap (ok.n1.n3).m1) (by omega)) ?_;rintro _ η7 ⟨az1,nz1,cz1,rfl,ok⟩;refine .z .asS<|.nil ?_;refine .end<|hK1 _ _<|.r<|.z .mvI<|.z .mvI<|.z .addI<|.z .asI<|.nil ?_;refine .end<|hJ0 _ _ _ ⟨(at_+(4+(rdN l 8 4)+4)),L++[(jraw l (rdN l 8 4) at_)],az1,nz1,cz1,_,⟨rfl,rfl,rfl,rfl,rfl,rfl,rfl,trivial⟩,ok.k1.tR.tR,(by rw [←hL,jents_t hfit,List.append_assoc,show at_+(4+(rdN l 8 4)+4)=at_+(rdN l 8 4)+8 by omega];rfl),(by simp only [List.length_append,List.length_singleton];omega),(by omega),(by omega),rfl⟩ (by omega)
theorem jents_page {b:List UInt8} {n s p:Nat} : ∀f∈jents b n s p,1≤f.page∧f.page≤1048576:=by
 fun_induction jents b n s p with
 | case1 p h ih=>
  intro f hf;rcases List.mem_cons.1 hf with rfl | hf
  ·have:=h.2.1;simp only [jraw];omega
  ·exact ih f hf
 | case2 p h=>intro f hf;cases hf
theorem jents_len {b:List UInt8} {n s p:Nat} : (jents b n s p).length≤b.length-p:=by
 fun_induction jents b n s p with
 | case1 p h ih=>have:=h.1;simp only [List.length_cons];omega
 | case2 p h=>simp
theorem jscan_facts (b:List UInt8):(∀f∈(jscanN b).2.2.1,1≤f.page∧f.page≤1048576)∧(jscanN b).2.2.1.length≤b.length∧(jscanN b).1≤4096∧(jscanN b).2.1≤1048576:=by
 have z:∀e:Nat,(∀f∈((0,0,[],e):Nat × Nat × List Fr × Nat).2.2.1,1≤f.page∧f.page≤1048576)∧((0,0,[],e):Nat × Nat × List Fr × Nat).2.2.1.length≤b.length∧((0,0,[],e):Nat × Nat × List Fr × Nat).1≤4096∧((0,0,[],e):Nat × Nat × List Fr × Nat).2.1≤1048576:=
  fun e=>⟨fun f hf=>(by cases hf),Nat.zero_le _,Nat.zero_le _,Nat.zero_le _⟩
 by_cases h:b.length<28
 ·rw [jscan_1 h];exact z 6
 by_cases h1:b.take 8=jsign
 ·cases h2:jhOk b with
  | false=>
   have:jscanN b=(0,0,[],14):=by unfold jscanN;rw [if_neg h,if_neg (by simpa using h1),if_pos h2]
   rw [this];exact z 14
  | true=>
   have h3:=h2;simp only [jhOk,Bool.and_eq_true,decide_eq_true_eq] at h3;rw [jscan_4 h h1 h3.1 h3.2];have h4:=okJ_le h3.1;exact ⟨jents_page,Nat.le_trans jents_len (by omega),h4.1,h4.2.1⟩
 ·rw [jscan_2 h h1];exact z 8
theorem firstF_len {s:List Int} {l:List Fr} : (firstF s l).length≤l.length:=by
 induction l generalizing s with
 | nil=>simp [firstF]
 | cons f l ih=>
  unfold firstF;split
  ·have:=ih (s:=s);simp only [List.length_cons];omega
  ·have:=ih (s:=s++[f.page]);simp only [List.length_cons];omega
section
variable {d:Dk} {n k:Nat} {l:List Fr}
theorem restore_chg:(restoreB d n k l).1.chg≤d.chg+((l.length:Int)+2):=by
 have h1:=writes_chg (size:=n) (d:=d) (l:=firstF [] l);have h2:=firstF_len (s:=[]) (l:=l);have h3:=then_chg (f:=fun d=>lengthB d (k*n)) (y:=2) h1 (fun d=>len_chg) (by omega);unfold restoreB;omega
theorem DkOk.restore (h:DkOk d):DkOk (restoreB d n k l).1:=DkOk.then h.writes fun _ h=>h.len
theorem heal_no (h:¬((sizeN d nM).2=true∧0<(sizeN d nM).1)):healB d=if d.dark=true then (d,13) else overB d:=by unfold healB;rw [if_neg h];rfl
variable (hc:(sizeN d nM).2=true∧0<(sizeN d nM).1)
include hc
theorem heal_e (he:(healJ d (sizeN d nM).1).2≠0):healB d=healJ d (sizeN d nM).1:=by unfold healB;rw [if_pos hc,thenN_e he]
theorem heal_0 (he:(healJ d (sizeN d nM).1).2=0):healB d=if (healJ d (sizeN d nM).1).1.dark=true then ((healJ d (sizeN d nM).1).1,13) else overB (healJ d (sizeN d nM).1).1:=by unfold healB;rw [if_pos hc,thenN_0 he]
omit hc
theorem hJ_13 (h:(readN d nJ 0 16777216).2=13):healJ d n=(d,13):=if_pos h
theorem hJ_14 {J:Nat × Nat × List Fr × Nat} (hJ:jscanN (readN d nJ 0 16777216).1=J) (h:(readN d nJ 0 16777216).2≠13) (h2:(readN d nJ 0 16777216).2≠0∨J.2.2.2≠0∨J.2.2.1.length<n-1):healJ d n=(d,14):=by
 subst hJ;unfold healJ;simp only;rw [if_neg h,if_pos h2]
theorem hJ_go {J:Nat × Nat × List Fr × Nat} (hJ:jscanN (readN d nJ 0 16777216).1=J) (h:(readN d nJ 0 16777216).2≠13) (h2:¬((readN d nJ 0 16777216).2≠0∨J.2.2.2≠0∨J.2.2.1.length<n-1)):healJ d n=restoreB d J.1 J.2.1 (J.2.2.1.take (n-1)):=by
 subst hJ;unfold healJ;simp only;rw [if_neg h,if_neg h2]
end
theorem heal_chg {d:Dk} (hk:DkOk d):(healB d).1.chg≤d.chg+17000000:=by
 have h3:(healJ d (sizeN d nM).1).1.chg≤d.chg+16777218:=by
  unfold healJ;simp only
  repeat' split
  ·simp only;omega
  ·simp only;omega
  ·refine Int.le_trans restore_chg ?_;have h1:=(jscan_facts (readN d nJ 0 16777216).1).2.1;have h2:=readN_len (d:=d) (n:=nJ) (p:=0) (z:=16777216) hk;have h4:=List.length_take_le ((sizeN d nM).1-1) (jscanN (readN d nJ 0 16777216).1).2.2.1;have h5:=List.length_take_le' ((sizeN d nM).1-1) (jscanN (readN d nJ 0 16777216).1).2.2.1;omega
 have h4:∀e:Dk,(if e.dark=true then (e,13) else overB e).1.chg≤e.chg+4:=fun e=>by
  split
  ·simp only;omega
  ·exact over_chg
 unfold healB;refine Int.le_trans (then_chg (x:=d.chg+16777218) (y:=4) ?_ h4 (by omega)) (by omega);split
 ·exact h3
 ·simp only;omega
theorem DkOk.heal {d:Dk} (h:DkOk d):DkOk (healB d).1:=by
 have h4:∀e:Dk,DkOk e→DkOk (if e.dark=true then (e,13) else overB e).1:=fun e h=>by
  split
  ·exact h
  ·exact h.over
 unfold healB;refine DkOk.then ?_ h4;split
 ·unfold healJ;simp only
  repeat' split
  ·exact h
  ·exact h
  ·exact h.restore
 ·exact h
theorem heal_any {h:Heap} {d:Nat} {r:RD} {E:Nat→Prop} (ok:Hp h (dskI d r).F [dskI d r] [bysI E r.fs] h) (hk:DkOk r.abs) (hcg:r.chg<600000000) :
  HC Tryz.prog 81 #[.pointer (some ⟨d,0,none⟩)] h (fun v h'=>∃r' E',v=.int .i64 ((healB r.abs).2:Int)∧r'.abs=(healB r.abs).1∧DUp h h' d r r' E E'):=by
 have hsn:=sizeN_lt (n:=nM) hk;have hrl:=readN_len (n:=nJ) (p:=0) (z:=16777216) hk;refine HC.go Tryz.func81 65 ?_;refine .seq<|.r<|.z .asI<|.nil ?_;refine .seq<|.seq<|.r<|.z .mvP<|.k 14 .func (size_anyD (d:=d) (r:=r) (n:=nM) (ok.m0))<|.z .mvU<|.z .ex<|.z .ex<|.z .asI<|.z .asB<|.nil ?_;refine .seq<|.r<|.z .mvB<|.z .mvB<|.spl (fun G18=>?_) (fun G18=>?_)
 ·
  refine .z .mvI<|.z .gtr<|.z .pkt<|.nil ?_;refine .cd (fun C0=>?_) (fun C0=>?_)
  ·
   refine .seq<|.r<|.z .mvP<|.c' 24 .func (read_anyD (d:=d) (r:=r) (E:=E) (n:=nJ) (y:=0) (z:=16777216) ((ok).rdo) hk ⟨by omega,by omega⟩ ⟨by omega,by omega⟩) ?_;rintro _ η1 ⟨w,rfl,own⟩;obtain ⟨ya1,yc1,rfl⟩:=own.formB;have ok:=ok.own own;refine .z .mvU<|.z .ex<|.z .ex<|.z .asS<|.z .asI<|.nil ?_;refine .seq<|.seq<|.r<|.z .mvI<|.z .eql<|.nil ?_;refine .cd (fun C1=>?_) (fun C1=>?_)
   ·
    refine .seq<|.r<|.z .mvI<|.z .asI<|.nil ?_;refine .ret ⟨.int .i64 (((readN r.abs nJ 0 16777216).2:Nat):Int),Res.one rfl rfl,⟨r,E,(by rw [heal_e ⟨by simpa using G18,by omega⟩ (by rw [hJ_13 (by omega)];simp),hJ_13 (by omega),show (readN r.abs nJ 0 16777216).2=13 by omega]),(by rw [heal_e ⟨by simpa using G18,by omega⟩ (by rw [hJ_13 (by omega)];simp),hJ_13 (by omega)]),((ok.n1).k1.e1).up (fun _ h=>Or.inl h)⟩⟩
   refine .skip<|.seq<|.r<|.z .mvS<|.c' 32 .func (jscan_any (a:=ya1) (c:=yc1) (l:=((readN r.abs nJ 0 16777216).1)) (RdL.ofCapB (v:=(ya1,((readN r.abs nJ 0 16777216).1).length,yc1)) (l:=((readN r.abs nJ 0 16777216).1)) ok.m0) (by omega)) ?_;rintro _ η2 ⟨jx1,rfl,hx,hr⟩;generalize hJ1:jscanN ((readN r.abs nJ 0 16777216).1)=J1 at hr⊢;obtain ⟨ajx1,njx1,cjx1⟩:=jx1;have hnjx1:=hr.n;have hccjx1:=hr.c;have hmjx1:=hr.m;simp only at hnjx1 hccjx1 hmjx1;subst hnjx1;rw [show sv (ajx1,J1.2.2.1.length,cjx1)=.slice ajx1 J1.2.2.1.length cjx1 from rfl];have ok:=ok.ret hx hr;refine .z .mvU<|.z .ex<|.z .ex<|.z .ex<|.z .ex<|.z .asI<|.z .asI<|.z .asS<|.z .asI<|.nil ?_;refine .seq<|.seq<|?_;have hjf:=jscan_facts (readN r.abs nJ 0 16777216).1;rw [hJ1] at hjf;refine .r<|.z .mvI<|.z .neq<|.z .mvB<|.sd (fun G39=>?_) (fun G39=>?_)
   ·
    refine .y<|.y<|.z .pkt<|.z .mvB<|.y<|.y<|.y<|.y<|.y<|.z .pkt<|.nil ?_;refine .ct<|.seq<|.r<|.z .asI<|.nil ?_;refine .ret ⟨.int .i64 14,Res.one rfl rfl,⟨r,E,(by rw [heal_e ⟨by simpa using G18,by omega⟩ (by rw [hJ_14 hJ1 (by omega) (by first | exact .inl (by omega) | exact .inr (.inl (by omega)) | exact .inr (.inr (by omega)))];simp),hJ_14 hJ1 (by omega) (by first | exact .inl (by omega) | exact .inr (.inl (by omega)) | exact .inr (.inr (by omega)))];rfl),(by rw [heal_e ⟨by simpa using G18,by omega⟩ (by rw [hJ_14 hJ1 (by omega) (by first | exact .inl (by omega) | exact .inr (.inl (by omega)) | exact .inr (.inr (by omega)))];simp),hJ_14 hJ1 (by omega) (by first | exact .inl (by omega) | exact .inr (.inl (by omega)) | exact .inr (.inr (by omega)))]),((ok.n1.f1).k1.e1).up (fun _ h=>Or.inl h)⟩⟩
   refine .z .mvI<|.z .neq<|.z .pkf<|.z .mvB<|.sd (fun G43=>?_) (fun G43=>?_)
   ·
    refine .y<|.y<|.y<|.y<|.y<|.z .pkt<|.nil ?_;refine .ct<|.seq<|.r<|.z .asI<|.nil ?_;refine .ret ⟨.int .i64 14,Res.one rfl rfl,⟨r,E,(by rw [heal_e ⟨by simpa using G18,by omega⟩ (by rw [hJ_14 hJ1 (by omega) (by first | exact .inl (by omega) | exact .inr (.inl (by omega)) | exact .inr (.inr (by omega)))];simp),hJ_14 hJ1 (by omega) (by first | exact .inl (by omega) | exact .inr (.inl (by omega)) | exact .inr (.inr (by omega)))];rfl),(by rw [heal_e ⟨by simpa using G18,by omega⟩ (by rw [hJ_14 hJ1 (by omega) (by first | exact .inl (by omega) | exact .inr (.inl (by omega)) | exact .inr (.inr (by omega)))];simp),hJ_14 hJ1 (by omega) (by first | exact .inl (by omega) | exact .inr (.inl (by omega)) | exact .inr (.inr (by omega)))]),((ok.n1.f1).k1.e1).up (fun _ h=>Or.inl h)⟩⟩
   refine .z .mvS<|.z (.len T.el76)<|.z .mvI<|.z .sub<|.z .lss<|.z .pkf<|.nil ?_;refine .cd (fun C2=>?_) (fun C2=>?_)
   ·
    refine .seq<|.r<|.z .asI<|.nil ?_;refine .ret ⟨.int .i64 14,Res.one rfl rfl,⟨r,E,(by rw [heal_e ⟨by simpa using G18,by omega⟩ (by rw [hJ_14 hJ1 (by omega) (by first | exact .inl (by omega) | exact .inr (.inl (by omega)) | exact .inr (.inr (by omega)))];simp),hJ_14 hJ1 (by omega) (by first | exact .inl (by omega) | exact .inr (.inl (by omega)) | exact .inr (.inr (by omega)))];rfl),(by rw [heal_e ⟨by simpa using G18,by omega⟩ (by rw [hJ_14 hJ1 (by omega) (by first | exact .inl (by omega) | exact .inr (.inl (by omega)) | exact .inr (.inr (by omega)))];simp),hJ_14 hJ1 (by omega) (by first | exact .inl (by omega) | exact .inr (.inl (by omega)) | exact .inr (.inr (by omega)))]),((ok.n1.f1).k1.e1).up (fun _ h=>Or.inl h)⟩⟩
   refine .skip<|.seq<|?_;have htl:(J1.2.2.1.take ((sizeN r.abs nM).1-1)).length≤J1.2.2.1.length:=List.length_take_le' _ _;have hgo:=hJ_go (d:=r.abs) (n:=(sizeN r.abs nM).1) hJ1 (by omega) (by rintro (h | h | h)<;>omega);refine .r<|.z .mvP<|.z .mvI<|.z .mvI<|.z .mvS<|.z .mvI<|.z .sub<|.z (.sl_h ((J1.2.2.1.take ((sizeN r.abs nM).1-1)).length) T.el76 T.sz102 (hb:=by (rw [List.length_take];omega)))<|?_;have ok:=ok.d0 (rdI (Nw η1 η2) (Nw η1 η2) (ajx1,(J1.2.2.1.take ((sizeN r.abs nM).1-1)).length,cjx1) (J1.2.2.1.take ((sizeN r.abs nM).1-1))) ((ok.r0).pre (l2:=J1.2.2.1.take ((sizeN r.abs nM).1-1)) (List.take_prefix _ _)) (fun _ h=>h);refine .c' 57 .func (restore_any (d:=d) (r:=r) (E:=E) (n:=J1.1) (k:=J1.2.1) (a:=ajx1) (c:=cjx1) (l:=J1.2.2.1.take ((sizeN r.abs nM).1-1)) (ok.n1.f2).loc2 hk (by omega) (by omega) (by omega) (by rw [List.length_take];omega) (fun f hf=>hjf.1 f (List.mem_of_mem_take hf))) ?_;rintro _ η3 ⟨rw1,Ew1,rfl,haw1,upw1⟩;have hzw1:=(ok).chg.size;have ok:=(ok.n1.f2).dsk (d:=d) (r:=r) upw1;have hkw1:DkOk rw1.abs:=by rw [haw1];exact (hk).restore
   have hcw1:rw1.chg≤r.chg+(((J1.2.2.1.take ((sizeN r.abs nM).1-1)).length:Int)+2):=Int.le_trans (Int.le_of_eq (congrArg Dk.chg haw1)) restore_chg;have hnw1:=fun j hj=>(upw1.new j hj).elim ((fun _ h=>Or.inl h) j) fun h1=>Or.inr (Nat.le_trans hzw1 h1);refine .z .asI<|.nil ?_;refine .seq<|.r<|.z .mvI<|.z .neq<|.nil ?_;refine .cd (fun C3=>?_) (fun C3=>?_)
   ·
    refine .seq<|.r<|.z .mvI<|.z .asI<|.nil ?_;refine .ret ⟨.int .i64 ((restoreB r.abs J1.1 J1.2.1 (J1.2.2.1.take ((sizeN r.abs nM).1-1))).2:Int),Res.one rfl rfl,⟨rw1,Ew1,(by rw [heal_e ⟨by simpa using G18,by omega⟩ (by rw [hgo];omega),hgo]),(by rw [heal_e ⟨by simpa using G18,by omega⟩ (by rw [hgo];omega),hgo];exact haw1),((ok).k1.e1).up hnw1⟩⟩
   refine .skip<|.seq<|.seq<|?_;have hv:healB r.abs=if rw1.abs.dark=true then (rw1.abs,13) else overB rw1.abs:=by rw [heal_0 ⟨by simpa using G18,by omega⟩ (by rw [hgo];omega),hgo,←haw1]
   refine .r<|.z .mvP<|.k 62 .func (dark_any (d:=d) (r:=rw1) (dsk_parts (ok.m0)).1)<|.nil ?_;refine .cond (fun C4=>?_) (fun C4=>?_)
   ·
    refine .seq<|.r<|.z .asI<|.nil ?_;refine .ret ⟨.int .i64 13,Res.one rfl rfl,⟨rw1,Ew1,(by rw [hv,if_pos (show rw1.abs.dark=true from C4)];rfl),(by rw [hv,if_pos (show rw1.abs.dark=true from C4)]),((ok).k1.e1).up hnw1⟩⟩
   refine .skip<|.seq<|.r<|.z .mvP<|.c' 64 .func (bover_any (d:=d) (r:=rw1) (E:=Ew1) (ok).loc1 hkw1 (by omega)) ?_;rintro _ η4 ⟨rw2,Ew2,rfl,haw2,upw2⟩;have hzw2:=(ok).chg.size;have ok:=(ok).dsk (d:=d) (r:=rw1) upw2;have hkw2:DkOk rw2.abs:=by rw [haw2];exact (hkw1).over
   have hcw2:rw2.chg≤rw1.chg+4:=Int.le_trans (Int.le_of_eq (congrArg Dk.chg haw2)) over_chg;have hnw2:=fun j hj=>(upw2.new j hj).elim (hnw1 j) fun h1=>Or.inr (Nat.le_trans hzw2 h1);refine .z .asI<|.nil ?_;refine .ret ⟨.int .i64 ((overB rw1.abs).2:Int),Res.one rfl rfl,⟨rw2,Ew2,(by rw [hv,if_neg (show ¬rw1.abs.dark=true from (show ¬rw1.dark=true by simpa using C4))]),(by rw [hv,if_neg (show ¬rw1.abs.dark=true from (show ¬rw1.dark=true by simpa using C4))];exact haw2),((ok).k1.e1).up hnw2⟩⟩
  refine .skip<|.seq<|.seq<|?_;have hv:healB r.abs=if r.abs.dark=true then (r.abs,13) else overB r.abs:=heal_no (by first | (rintro ⟨h1,h2⟩;omega) | (rintro ⟨h1,h2⟩;rw [h1] at G18;cases G18))
  refine .r<|.z .mvP<|.k 62 .func (dark_any (d:=d) (r:=r) (dsk_parts (ok.m0)).1)<|.nil ?_;refine .cond (fun C4=>?_) (fun C4=>?_)
  ·
   refine .seq<|.r<|.z .asI<|.nil ?_;refine .ret ⟨.int .i64 13,Res.one rfl rfl,⟨r,E,(by rw [hv,if_pos (show r.abs.dark=true from C4)];rfl),(by rw [hv,if_pos (show r.abs.dark=true from C4)]),((ok).k1.e1).up (fun _ h=>Or.inl h)⟩⟩
  refine .skip<|.seq<|.r<|.z .mvP<|.c' 64 .func (bover_any (d:=d) (r:=r) (E:=E) (ok).loc1 hk (by omega)) ?_;rintro _ η5 ⟨rw3,Ew3,rfl,haw3,upw3⟩;have hzw3:=(ok).chg.size;have ok:=(ok).dsk (d:=d) (r:=r) upw3;have hkw3:DkOk rw3.abs:=by rw [haw3];exact (hk).over
  have hcw3:rw3.chg≤r.chg+4:=Int.le_trans (Int.le_of_eq (congrArg Dk.chg haw3)) over_chg;have hnw3:=fun j hj=>(upw3.new j hj).elim ((fun _ h=>Or.inl h) j) fun h1=>Or.inr (Nat.le_trans hzw3 h1);refine .z .asI<|.nil ?_;refine .ret ⟨.int .i64 ((overB r.abs).2:Int),Res.one rfl rfl,⟨rw3,Ew3,(by rw [hv,if_neg (show ¬r.abs.dark=true from (show ¬r.dark=true by simpa using C4))]),(by rw [hv,if_neg (show ¬r.abs.dark=true from (show ¬r.dark=true by simpa using C4))];exact haw3),((ok).k1.e1).up hnw3⟩⟩
 refine .y<|.y<|.z .pkf<|.nil ?_;refine .cf<|.skip<|.seq<|.seq<|?_;have hv:healB r.abs=if r.abs.dark=true then (r.abs,13) else overB r.abs:=heal_no (by first | (rintro ⟨h1,h2⟩;omega) | (rintro ⟨h1,h2⟩;rw [h1] at G18;cases G18))
 refine .r<|.z .mvP<|.k 62 .func (dark_any (d:=d) (r:=r) (dsk_parts (ok.m0)).1)<|.nil ?_;refine .cond (fun C4=>?_) (fun C4=>?_)
 ·
  refine .seq<|.r<|.z .asI<|.nil ?_;refine .ret ⟨.int .i64 13,Res.one rfl rfl,⟨r,E,(by rw [hv,if_pos (show r.abs.dark=true from C4)];rfl),(by rw [hv,if_pos (show r.abs.dark=true from C4)]),((ok).k1.e1).up (fun _ h=>Or.inl h)⟩⟩
 refine .skip<|.seq<|.r<|.z .mvP<|.c' 64 .func (bover_any (d:=d) (r:=r) (E:=E) (ok).loc1 hk (by omega)) ?_;rintro _ η6 ⟨rw4,Ew4,rfl,haw4,upw4⟩;have hzw4:=(ok).chg.size;have ok:=(ok).dsk (d:=d) (r:=r) upw4;have hkw4:DkOk rw4.abs:=by rw [haw4];exact (hk).over
 have hcw4:rw4.chg≤r.chg+4:=Int.le_trans (Int.le_of_eq (congrArg Dk.chg haw4)) over_chg;have hnw4:=fun j hj=>(upw4.new j hj).elim ((fun _ h=>Or.inl h) j) fun h1=>Or.inr (Nat.le_trans hzw4 h1);refine .z .asI<|.nil ?_;refine .ret ⟨.int .i64 ((overB r.abs).2:Int),Res.one rfl rfl,⟨rw4,Ew4,(by rw [hv,if_neg (show ¬r.abs.dark=true from (show ¬r.dark=true by simpa using C4))]),(by rw [hv,if_neg (show ¬r.abs.dark=true from (show ¬r.dark=true by simpa using C4))];exact haw4),((ok).k1.e1).up hnw4⟩⟩
open Go Go.HL
@[reducible] def cacL (c:Nat) (F:Nat→Prop) (room:Int) (L:List AP):Itm:=⟨fun h=>CRep h F c room L,F,fun _ _ _ cg d q=>q.chg cg d⟩
theorem lpage {L:List AP} {no:Int} {x:AP} (h:hit no L=some x):gotL no L=x.b:=by unfold gotL;rw [h];rfl
section
variable {h:Heap} {c:Nat} {F:Nat→Prop} {room:Int} {L:List AP} {no:Int} {l:List UInt8}
theorem lget_any (q:CRep h F c room L) :
  HC Tryz.prog 148 #[.pointer (some ⟨c,0,none⟩),.int .i64 no] h (fun v h'=>∃F',(∃a c' x,v=.tuple #[.slice a x.b.length c',.bool true]∧hit no L=some x∧Hp h F [capI 1 5 (a,x.b.length,c') (x.b.map bv),cacL c F' room (getL no L)] [] h')∨
   (∃a n m,v=.tuple #[.slice a n m,.bool false]∧hit no L=none∧Hp h F [cacL c F' room (getL no L)] [] h')):=by
 refine (get_any q no).mono fun v h' ⟨g,F',hv,hr,hs,hcap,hg⟩=>⟨F',?_⟩;have o1:Hp h F [cacL c F' room (getL no L)] [] h':=Step.hp (x:=cacL c F room L) (it:=cacL c F' room (getL no L)) q q.lt rfl hs hr hr.lt rfl;cases hh:hit no L with
 | none=>obtain ⟨ga,gn,gc⟩:=g;exact .inr ⟨ga,gn,gc,by rw [hv,hh];rfl,rfl,o1⟩
 | some x=>
  rw [lpage hh] at hcap;obtain ⟨a,n,c'⟩:=g;have hn:n=x.b.length:=Cap.lenB hcap;subst hn;refine .inl ⟨a,c',x,by rw [hv,hh];rfl,rfl,⟨o1.chg,fun i hi=>?_,by simp,?_,by simp⟩⟩
  ·rcases List.mem_cons.1 hi with rfl | hi
   ·exact ⟨hcap,fun j hj=>⟨hcap.lt hj,.inr (hg j hj).1⟩⟩
   ·exact o1.m i hi
  ·exact List.pairwise_cons.2 ⟨fun b hb j hj=>by rw [List.mem_singleton.1 hb];exact (hg j hj).2,List.pairwise_singleton _ _⟩
theorem lput_any {a:Option Addr} {n:Nat} {Fb Eb:Nat→Prop} {d:Bool} (q:CRep h F c room L) (hb:RdL h Fb Eb (a,l.length,n) l) (hbl:l.length≤1000000) (hr:1≤room) (hlen:L.length≤100000000) :
  HC Tryz.prog 161 #[.pointer (some ⟨c,0,none⟩),.int .i64 no,.slice a l.length n,.bool d] h (fun v h'=>∃F',Hp h F [cacL c F' room (putL room no l d L)] [] h'∧FrIn h' F' v (putA room no l d L)):=
 (put_anyF q hlen no (bs:=(a,l.length,n)) hb.by hbl d hr).mono fun v h' ⟨F',hr,hst,hf⟩=>⟨F',Step.hp (x:=cacL c F room L) (it:=cacL c F' room (putL room no l d L)) q q.lt rfl hst hr hr.lt rfl,hf⟩
end
structure RK where
 in_:Bool
 now:Nat
 valid:Nat
 begun:Bool
 nonce:Nat
 km:Option Nat
 kept:List Int
 marked:Nat
 d:Nat
 rd:RD
 size:Nat
 c:Nat
 sure:Nat
 bytes:Nat
 broken:Bool
@[reducible] def bboxI (p:Nat) (r:RK):Itm:=boxI p 136 [.bool r.in_,.int .i64 (r.now:Int),.int .i64 (r.valid:Int),.bool r.begun,.int .u64 (r.nonce:Int),.map r.km,.int .i64 (r.marked:Int),.pointer (some ⟨r.d,0,none⟩),.int .i64 (r.size:Int),.pointer (some ⟨r.c,0,none⟩),.int .i64 (r.sure:Int),.int .i64 (r.bytes:Int),.bool r.broken]
def kepI (km:Option Nat) (kept:List Int):Itm:=match km with
 | none=>anyI none_ (fun _=>True) (fun _ _ _ _ _ _=>trivial)
 | some m=>mapI (Value.int .i64) m (setE kept)
def corI (p:Nat) (r:RK):Itm:=starI [bboxI p r,kepI r.km r.kept,dskI r.d r.rd]
def RK.abs (r:RK) (room:Int) (L:List AP):Bk:=⟨r.rd.abs,r.size,room,L,r.in_,r.now,r.valid,r.begun,r.nonce,r.kept,r.marked,r.sure,r.bytes,r.broken⟩
structure CUp (h h':Heap) (p:Nat) (r r':RK) (E E':Nat→Prop):Prop where
 hp:Hp h (corI p r).F [corI p r'] [bysI E' r'.rd.fs] h'
 new:∀j,E' j→E j∨h.size≤j
end Go.Proofs.YtpeaicddbnghfaaGreat
namespace Go.HL
open Go Go.Proofs.YtpeaicddbnghfaaGreat
section
variable {h0 h h':Heap} {D G:Nat→Prop} {M R:List Itm} {p:Nat} {r r':RK} {E E':Nat→Prop}
theorem Hp.bopn {in_ begun broken:Bool} {now valid nonce marked d size c sure bytes:Nat} {km:Option Nat} {kept:List Int} {rd:RD} (ok:Hp h0 D (corI p ⟨in_,now,valid,begun,nonce,km,kept,marked,d,rd,size,c,sure,bytes,broken⟩::M) R h) :
  Hp h0 D (boxI p 136 [.bool in_,.int .i64 (now:Int),.int .i64 (valid:Int),.bool begun,.int .u64 (nonce:Int),.map km,.int .i64 (marked:Int),.pointer (some ⟨d,0,none⟩),.int .i64 (size:Int),.pointer (some ⟨c,0,none⟩),.int .i64 (sure:Int),.int .i64 (bytes:Int),.bool broken]::kepI km kept::dskI d rd::M) R h:=Hp.unstar ok
theorem Hp.bcls {in_ begun broken:Bool} {now valid nonce marked d size c sure bytes:Nat} {km:Option Nat} {kept:List Int} {rd:RD} (ok:Hp h0 D (boxI p 136 [.bool in_,.int .i64 (now:Int),.int .i64 (valid:Int),.bool begun,.int .u64 (nonce:Int),.map km,.int .i64 (marked:Int),.pointer (some ⟨d,0,none⟩),.int .i64 (size:Int),.pointer (some ⟨c,0,none⟩),.int .i64 (sure:Int),.int .i64 (bytes:Int),.bool broken]::kepI km kept::dskI d rd::M) R h) :
  Hp h0 D (corI p ⟨in_,now,valid,begun,nonce,km,kept,marked,d,rd,size,c,sure,bytes,broken⟩::M) R h:=
 Hp.star (l:=[boxI p 136 [.bool in_,.int .i64 (now:Int),.int .i64 (valid:Int),.bool begun,.int .u64 (nonce:Int),.map km,.int .i64 (marked:Int),.pointer (some ⟨d,0,none⟩),.int .i64 (size:Int),.pointer (some ⟨c,0,none⟩),.int .i64 (sure:Int),.int .i64 (bytes:Int),.bool broken],kepI km kept,dskI d rd]) ok
theorem Hp.cor (ok:Hp h0 D (corI p r::M) (bysI E r.rd.fs::R) h) (q:CUp h h' p r r' E E'):Hp h0 D (corI p r'::M) (bysI E' r'.rd.fs::R) h':=ok.turnR q.hp q.new
theorem Hp.cup {R':List Itm} (q:Hp h (corI p r).F [corI p r'] (bysI E' r'.rd.fs::R') h') (hE:∀j,E' j→E j∨h.size≤j):CUp h h' p r r' E E':=⟨q.sub (by simp),hE⟩
theorem Hp.kepNil {kept:List Int} (ok:Hp h0 D M R h):Hp h0 D (kepI none kept::M) R h:=ok.newM (Ext.refl _) _ trivial (fun _ f=>f.elim)
theorem Hp.kepSome {m:Nat} {kept:List Int} (ok:Hp h0 D (kepI (some m) kept::M) R h):Hp h0 D (mapI (Value.int .i64) m (setE kept)::M) R h:=ok
theorem cor_F {j:Nat} : (corI p r).F j↔j=p∨(kepI r.km r.kept).F j∨(dskI r.d r.rd).F j:=by simp [corI]
end
end Go.HL
namespace Go.Proofs.YtpeaicddbnghfaaGreat
open Go Go.HL
def stE (b:Bool):Nat:=if b=true then 13 else 0
theorem stE_t {b:Bool} (h:((stE b:Nat):Int)≠0):b=true:=by unfold stE at h;split at h;assumption;exact absurd rfl h
theorem stE_f {b:Bool} (h:¬((stE b:Nat):Int)≠0):b=false:=by unfold stE at h;split at h;exact absurd (by decide) h;cases b<;>simp_all
def presK (r:RK):Nat:=if r.in_=true then r.now else r.sure
def endK (z:Int) (b:Bool):Bool:=if z=13 then true else b
theorem readN_z {d:Dk} {n:List UInt8} {p:Int} {z:Nat} : (readN d n p (z:Int)).1.length≤z:=by
 unfold readN;repeat' split
 all_goals first | (simp only [List.length_nil];omega) | (simp only [List.length_take,List.length_drop];omega)
theorem longN_pad {b:List UInt8} {n:Nat} (h:b.length≤n):longN b n=b++List.replicate (n-b.length) 0:=longN_ge h
theorem st_any {h:Heap} {p:Nat} {r:RK} (hb:(bboxI p r).p h) :
  HC Tryz.prog 95 #[.pointer (some ⟨p,0,none⟩)] h (fun v h'=>v=.int .i64 ((stE r.broken:Nat):Int)∧h'=h):=by
 refine HC.go Tryz.func95 11 ?_;refine .seq<|.r<|.z .asI<|.nil ?_;refine .seq<|.block fun K0 hK0=>.seq<|.r<|.z .mvP<|.z (.pEqS T.pt47)<|.z .asB<|.nil ?_;refine .cf<|.seq<|.r<|.z .mvP<|.z .nil<|.z (.fa T.fd136_6)<|.z (.ldx T.ag4 hb)<|.z .asB<|.nil ?_;refine .cond (fun C1=>?_) (fun C1=>?_)
 ·
  refine .seq<|.r<|.z .asI<|.nil ?_;refine .ret ⟨.int .i64 13,Res.one rfl rfl,⟨by rw [show stE r.broken=13 from if_pos C1];rfl,rfl⟩⟩
 refine .skip<|.end<|hK0 _ _<|.seq<|.r<|.z .asI<|.nil ?_;refine .ret ⟨.int .i64 0,Res.one rfl rfl,⟨by rw [show stE r.broken=0 from if_neg (by simp [C1])];rfl,rfl⟩⟩
theorem stNil_any {h:Heap} :
  HC Tryz.prog 95 #[.pointer none] h (fun v h'=>v=.int .i64 2∧h'=h):=by
 refine HC.go Tryz.func95 11 ?_;refine .seq<|.r<|.z .asI<|.nil ?_;refine .seq<|.block fun K0 hK0=>.seq<|.r<|.z .mvP<|.z (.pEqN T.pt47)<|.z .asB<|.nil ?_;refine .ct<|.seq<|.r<|.z .asI<|.nil ?_;refine .ret ⟨.int .i64 2,Res.one rfl rfl,⟨rfl,rfl⟩⟩
theorem pres_any {h:Heap} {p:Nat} {r:RK} (hb:(bboxI p r).p h) :
  HC Tryz.prog 94 #[.pointer (some ⟨p,0,none⟩)] h (fun v h'=>v=.int .i64 ((presK r:Nat):Int)∧h'=h):=by
 refine HC.go Tryz.func94 17 ?_;refine .seq<|.r<|.z .asI<|.nil ?_;refine .seq<|.seq<|.r<|.z .mvP<|.z .nil<|.z (.fa T.fd136_0)<|.z (.fa T.fd134_0)<|.z (.ldx T.ag4 hb)<|.nil ?_;refine .cond (fun C0=>?_) (fun C0=>?_)
 ·
  refine .seq<|.r<|.z .mvP<|.z .nil<|.z (.fa T.fd136_0)<|.z (.fa T.fd134_1)<|.z (.ldx T.ag3 hb)<|.z .asI<|.nil ?_;refine .ret ⟨.int .i64 (r.now:Int),Res.one rfl rfl,⟨by rw [show presK r=r.now from if_pos C0],rfl⟩⟩
 refine .skip<|.seq<|.r<|.z .mvP<|.z .nil<|.z (.fa T.fd136_4)<|.z (.ldx T.ag3 hb)<|.z .asI<|.nil ?_;refine .ret ⟨.int .i64 (r.sure:Int),Res.one rfl rfl,⟨by rw [show presK r=r.sure from if_neg (by simp [C0])],rfl⟩⟩
theorem end_any {h:Heap} {p q:Nat} {r:RK} {z:Int} (ok:Hp h (bboxI p r).F [bboxI p r] [] h) (he:(boxI q 34 [.int .i64 z]).p h) :
  HCD Tryz.prog 96 #[.pointer (some ⟨p,0,none⟩),.pointer (some ⟨q,0,none⟩)] h (fun v h'=>v=.tuple #[]∧Hp h (bboxI p r).F [bboxI p { r with broken:=endK z r.broken }] [] h'):=by
 refine HCD.go Tryz.func96 11 ?_;refine .seq<|.r<|.z .mvP<|.z .nil<|.z (.ldx T.ag34 he)<|.z .eql<|.nil ?_;refine .cd (fun C0=>?_) (fun C0=>?_)
 ·
  refine .r<|.z .mvP<|.z .nil<|.z (.fa T.fd136_6)<|.ur' (.stB T.sz4 ok) ?_;rintro η1 ⟨ok,cg⟩;refine .nil ?_;refine .end<|⟨.tuple #[],Res.none rfl,⟨rfl,by rw [show endK z r.broken=true from if_pos C0];exact ok⟩⟩
 refine .skip<|.end<|⟨.tuple #[],Res.none rfl,⟨rfl,by rw [show endK z r.broken=r.broken from if_neg C0];exact ok⟩⟩
theorem bold_any {h:Heap} {p no:Nat} {r:RK} {E:Nat→Prop} (ok:Hp h (corI p r).F [corI p r] [bysI E r.rd.fs] h) (hk:DkOk r.rd.abs) (hsz:r.size≤4096) (hno:1≤no∧no≤1048576) :
  HC Tryz.prog 149 #[.pointer (some ⟨p,0,none⟩),.int .i64 (no:Int)] h (fun v h'=>∃a c,v=.tuple #[.slice a (oldB r.rd.abs r.size no).1.length c,.int .i64 ((oldB r.rd.abs r.size no).2:Nat)]∧Hp h (corI p r).F [capI 1 5 (a,(oldB r.rd.abs r.size no).1.length,c) ((oldB r.rd.abs r.size no).1.map bv),corI p r] [] h'):=by
 refine HC.go Tryz.func149 39 ?_;refine .seq<|.r<|.z .asS<|.z .asI<|.nil ?_;refine .seq<|?_;have ok:=(ok).bopn;refine .a 21 (fun fl hh=>Hp h (corI p r).F [boxI p 136 [.bool r.in_,.int .i64 (r.now:Int),.int .i64 (r.valid:Int),.bool r.begun,.int .u64 (r.nonce:Int),.map r.km,.int .i64 (r.marked:Int),.pointer (some ⟨r.d,0,none⟩),.int .i64 (r.size:Int),.pointer (some ⟨r.c,0,none⟩),.int .i64 (r.sure:Int),.int .i64 (r.bytes:Int),.bool r.broken]] [] hh) mixed ?_;have hS:=ok.k1.tR;refine .g 0 false rfl 9 hS (fun _=>.mvP)<|.g 1 false rfl 10 hS (fun _=>.nil)<|.g 2 false rfl 11 hS (fun _=>.fa T.fd136_1)<|.lw 3 false rfl 12 hS (fun _ _ hS=>.ldx T.ag30 hS.m0)<|.g 4 false rfl 13 hS (fun _=>.mvI)<|.g 5 false rfl 14 hS (fun _=>.sub)<|.g 6 false rfl 15 hS (fun _=>.mvP)<|.g 7 false rfl 16 hS (fun _=>.nil)<|.g 8 false rfl 17 hS (fun _=>.fa T.fd136_2)<|.lw 9 false rfl 18 hS (fun _ _ hS=>.ldx T.ag3 hS.m0)<|?_;have hmz:=pg_mul (x:=(no:Int)-1) (s:=r.size) (by omega) (by omega) hsz;refine .g 10 false rfl 19 hS (fun _=>.mul)<|.g 11 false rfl 20 hS (fun _=>.mvP)<|.g 12 false rfl 21 hS (fun _=>.nil)<|.g 13 false rfl 22 hS (fun _=>.fa T.fd136_2)<|.lw 14 false rfl 23 hS (fun _ _ hS=>.ldx T.ag3 hS.m0)<|.o1 15<|.c' false rfl 24 .func (read_anyD (d:=r.d) (r:=r.rd) (E:=E) (n:=nT) (y:=(((no:Int)-1)*(r.size:Int))) (z:=(r.size:Int)) ((ok.n2).rdo) hk ⟨by omega,by omega⟩ ⟨by omega,by omega⟩) ?_;rintro _ η1 ⟨w,rfl,own⟩;obtain ⟨ya1,yc1,rfl⟩:=own.formB;have ok:=ok.own own;refine ⟨ok.n1.k1.tR,?_⟩;have hS:=ok.n1.k1.tR;refine .g 16 false rfl 8 hS (fun _=>.mvU)<|.g 17 false rfl 25 hS (fun _=>.ex)<|.g 18 false rfl 26 hS (fun _=>.ex)<|.g 19 false rfl 6 hS (fun _=>.asS)<|.g 20 false rfl 7 hS (fun _=>.asI)<|.e ?_;refine .seq<|.seq<|?_;have hpz:(readN r.rd.abs nT (((no:Int)-1)*r.size) r.size).1.length≤r.size:=by have:=readN_z (d:=r.rd.abs) (n:=nT) (p:=((no:Int)-1)*r.size) (z:=r.size);omega
 refine .r<|.z .mvI<|.z .eql<|.nil ?_;refine .cd (fun C0=>?_) (fun C0=>?_)
 ·
  refine .r<|.z .asI<|.nil ?_;refine .seq<|.r<|.z .mvS<|.z .mvP<|.z .nil<|.z (.fa T.fd136_2)<|.z (.ldx T.ag3 ok.m1)<|.z .mvS<|.z (.len T.el22)<|.z .sub<|.a' 37 (.apz (z:=((r.size:Int)-((((readN r.rd.abs nT (((no:Int)-1)*(r.size:Int)) (r.size:Int)).1).length:Nat):Int))) (r.size-(readN r.rd.abs nT (((no:Int)-1)*r.size) r.size).1.length) T.el22 T.in3 T.sz5 T.by5 T.zr5 ok (by omega) (by omega)) ?_;rintro _ η2 ⟨ya2,yc2,rfl,ok⟩;refine .z .mvI<|.z .asS<|.z .asI<|.nil ?_;have ok:=Hp.bcls (p:=p) (kept:=r.kept) (ok.n3.n3.n3);have hL:(oldB r.rd.abs r.size no).1=(((readN r.rd.abs nT (((no:Int)-1)*(r.size:Int)) (r.size:Int)).1)++List.replicate (r.size-(readN r.rd.abs nT (((no:Int)-1)*r.size) r.size).1.length) 0):=longN_pad hpz;have hE:(oldB r.rd.abs r.size no).2=0:=if_pos (by omega);refine .ret ⟨.tuple #[.slice ya2 ((((readN r.rd.abs nT (((no:Int)-1)*(r.size:Int)) (r.size:Int)).1)++List.replicate (r.size-(readN r.rd.abs nT (((no:Int)-1)*r.size) r.size).1.length) 0).length) yc2,.int .i64 0],Res.two rfl rfl rfl,⟨ya2,yc2,by rw [hL,hE];rfl,by rw [hL];exact (ok.n1).k2.tR⟩⟩
 refine .skip<|.seq<|.r<|.z .mvS<|.z .mvP<|.z .nil<|.z (.fa T.fd136_2)<|.z (.ldx T.ag3 ok.m1)<|.z .mvS<|.z (.len T.el22)<|.z .sub<|.a' 37 (.apz (z:=((r.size:Int)-((((readN r.rd.abs nT (((no:Int)-1)*(r.size:Int)) (r.size:Int)).1).length:Nat):Int))) (r.size-(readN r.rd.abs nT (((no:Int)-1)*r.size) r.size).1.length) T.el22 T.in3 T.sz5 T.by5 T.zr5 ok (by omega) (by omega)) ?_;rintro _ η3 ⟨ya3,yc3,rfl,ok⟩;refine .z .mvI<|.z .asS<|.z .asI<|.nil ?_;have ok:=Hp.bcls (p:=p) (kept:=r.kept) (ok.n3.n3.n3);have hL:(oldB r.rd.abs r.size no).1=(((readN r.rd.abs nT (((no:Int)-1)*(r.size:Int)) (r.size:Int)).1)++List.replicate (r.size-(readN r.rd.abs nT (((no:Int)-1)*r.size) r.size).1.length) 0):=longN_pad hpz;have hE:(oldB r.rd.abs r.size no).2=(readN r.rd.abs nT (((no:Int)-1)*r.size) r.size).2:=if_neg (by omega);refine .ret ⟨.tuple #[.slice ya3 ((((readN r.rd.abs nT (((no:Int)-1)*(r.size:Int)) (r.size:Int)).1)++List.replicate (r.size-(readN r.rd.abs nT (((no:Int)-1)*r.size) r.size).1.length) 0).length) yc3,.int .i64 (((readN r.rd.abs nT (((no:Int)-1)*(r.size:Int)) (r.size:Int)).2:Nat):Int)],Res.two rfl rfl rfl,⟨ya3,yc3,by rw [hL,hE],by rw [hL];exact (ok.n1).k2.tR⟩⟩
section
variable {A:Bk} {b:List UInt8} {many aa mm:Nat} {d1 d2 d3 d4:Dk} (ha:aa=if A.begun=true then 28+(A.marked-1)*(A.size+8) else 0) (hm:mm=if A.begun=true then many else many+1)
include ha hm
theorem ct_1 (e1:d1=(writeN A.dk nJ (aa:Int) b).1) (z1:(writeN A.dk nJ (aa:Int) b).2≠0):countB A b many=({ A with dk:=d1 },(writeN A.dk nJ (aa:Int) b).2):=by
 subst e1;unfold countB;simp only;rw [←ha,←hm,thenN_e (a:=writeN A.dk nJ (aa:Int) b) z1,thenN_e z1,if_pos z1]
variable (e1:d1=(writeN A.dk nJ (aa:Int) b).1) (z1:(writeN A.dk nJ (aa:Int) b).2=0)
include e1 z1
theorem ct_2 (e2:d2=(syncN d1 nJ).1) (z2:(syncN d1 nJ).2≠0):countB A b many=({ A with dk:=d2 },(syncN d1 nJ).2):=by
 subst e1 e2;unfold countB;simp only;rw [←ha,←hm,thenN_0 (a:=writeN A.dk nJ (aa:Int) b) z1,thenN_e z2,if_pos z2]
variable (e2:d2=(syncN d1 nJ).1) (z2:(syncN d1 nJ).2=0)
include e2 z2
theorem ct_3 (e3:d3=(writeN d2 nM (A.marked:Int) (List.replicate mm 0)).1) (z3:(writeN d2 nM (A.marked:Int) (List.replicate mm 0)).2≠0):countB A b many=({ A with dk:=d3 },(writeN d2 nM (A.marked:Int) (List.replicate mm 0)).2):=by
 subst e1 e2 e3;unfold countB;simp only;rw [←ha,←hm,thenN_0 (a:=writeN A.dk nJ (aa:Int) b) z1,thenN_0 z2,if_pos z3]
theorem ct_4 (e3:d3=(writeN d2 nM (A.marked:Int) (List.replicate mm 0)).1) (z3:(writeN d2 nM (A.marked:Int) (List.replicate mm 0)).2=0) (e4:d4=(syncN d3 nM).1) :
  countB A b many=({ A with dk:=d4,begun:=true,marked:=A.marked+mm },(syncN d3 nM).2):=by
 subst e1 e2 e3 e4;unfold countB;simp only;rw [←ha,←hm,thenN_0 (a:=writeN A.dk nJ (aa:Int) b) z1,thenN_0 z2,if_neg (by simp [z3])]
end
theorem count_any {h:Heap} {p:Nat} {r:RK} {room:Int} {L:List AP} {E F2 E2:Nat→Prop} {a:Option Addr} {c many:Nat} {l:List UInt8} (ok:Hp h (corI p r).F [corI p r] [bysI E r.rd.fs,rdI F2 E2 (a,l.length,c) l] h) (hk:DkOk r.rd.abs) (hcg:r.rd.chg<500000000) (hbg:r.begun=true→1≤r.marked) (hmk:r.marked≤1048577) (hsz:r.size≤4096) (hmn:many≤1048576) :
  HC Tryz.prog 195 #[.pointer (some ⟨p,0,none⟩),.slice a l.length c,.int .i64 (many:Int)] h (fun v h'=>∃r' E',v=.int .i64 ((countB (r.abs room L) l many).2:Int)∧r'.abs room L=(countB (r.abs room L) l many).1∧(r'.d=r.d∧r'.c=r.c∧r'.km=r.km)∧CUp h h' p r r' E E'):=by
 have hmul:(r.marked-1)*(r.size+8)≤1048576*4104:=Nat.mul_le_mul (by omega) (by omega);refine HC.go Tryz.func195 83 ?_;refine .seq<|.r<|.z .asI<|.nil ?_;refine .seq<|.r<|.z .asI<|.nil ?_;refine .seq<|.seq<|?_;have ok:=(ok).bopn;refine .r<|.z .mvP<|.z .nil<|.z (.fa T.fd136_0)<|.z (.fa T.fd134_3)<|.z (.ldx T.ag4 ok.m0)<|.nil ?_;refine .join (fun s hh=>∃(aa:Nat) (mm:Nat),Has s [(0,.pointer (some ⟨p,0,none⟩)),(1,.slice a l.length c),(2,.int .i64 (mm:Int)),(7,.int .i64 (aa:Int))]∧Hp h (corI p r).F [boxI p 136 [.bool r.in_,.int .i64 (r.now:Int),.int .i64 (r.valid:Int),.bool r.begun,.int .u64 (r.nonce:Int),.map r.km,.int .i64 (r.marked:Int),.pointer (some ⟨r.d,0,none⟩),.int .i64 (r.size:Int),.pointer (some ⟨r.c,0,none⟩),.int .i64 (r.sure:Int),.int .i64 (r.bytes:Int),.bool r.broken],kepI r.km r.kept,dskI r.d r.rd] [bysI E r.rd.fs,rdI F2 E2 (a,l.length,c) l] hh∧aa=(if r.begun=true then 28+(r.marked-1)*(r.size+8) else 0)∧mm=(if r.begun=true then many else many+1)∧aa≤4400000000∧mm≤1048577) ?_ ?_
 ·
  refine .cond (fun C0=>?_) (fun C0=>?_)
  ·
   have hb1:=hbg C0;refine .q (hm:=mixed)<|.z .mvP<|.z .nil<|.z (.fa T.fd136_0)<|.z (.fa T.fd134_6)<|.z (.ldx T.ag3 ok.m0)<|.z .sub<|?_;rw [show (((r.marked:Int)-1):Int)=((r.marked-1:Nat):Int) from by omega];refine .z .mvP<|.z .nil<|.z (.fa T.fd136_2)<|.z (.ldx T.ag3 ok.m0)<|.z (.addI (b:=8))<|.z .mulI<|.z (.addI (a:=28))<|.z .asI<|.nil ?_;refine .end<|⟨(28+((r.marked-1)*(r.size+8))),many,⟨rfl,rfl,rfl,rfl,trivial⟩,ok.n2.n2.n2,by rw [if_pos C0],by rw [if_pos C0],by omega,by omega⟩
  refine .r<|.z .mvI<|.z (.addI (b:=1))<|.z .asI<|.nil ?_;refine .end<|⟨0,(many+1),⟨rfl,rfl,rfl,rfl,trivial⟩,ok.n2.n2.n2,by rw [if_neg (by simp [C0])],by rw [if_neg (by simp [C0])],by omega,by omega⟩
 rintro s η1 ⟨aa,mm,hs,ok,haa,hmm,hal,hml⟩;refine .frame hs fun τ=>?_;refine .seq<|.seq<|.r<|.z .mvP<|.z .nil<|.z (.fa T.fd136_1)<|.z (.ldx T.ag30 ok.m0)<|.z .mvI<|.z .mvS<|.c' 37 .func (write_any (d:=r.d) (r:=r.rd) (E:=E) (n:=nJ) (z:=(aa:Int)) (a:=a) (c:=c) (l:=l) (ok.n2.f1.f1).loc2 hk (by omega) ⟨by omega,by omega⟩) ?_;rintro _ η2 ⟨rw1,Ew1,rfl,haw1,upw1⟩;have hzw1:=(ok).chg.size;have ok:=(ok.n2.f1.f1).dsk (d:=r.d) (r:=r.rd) upw1;have hkw1:DkOk rw1.abs:=by rw [haw1];exact (hk).write
 have hcw1:rw1.chg≤r.rd.chg+1:=Int.le_trans (Int.le_of_eq (congrArg Dk.chg haw1)) write_chg;have hnw1:=fun j hj=>(upw1.new j hj).elim ((fun _ h=>Or.inl h) j) fun h1=>Or.inr (Nat.le_trans hzw1 h1);refine .z .asI<|.nil ?_;refine .seq<|.r<|.z .mvI<|.z .neq<|.nil ?_;refine .cd (fun C1=>?_) (fun C1=>?_)
 ·
  refine .seq<|.r<|.z .mvI<|.z .asI<|.nil ?_;have hct:=ct_1 (A:=r.abs room L) (b:=l) (many:=many) haa hmm haw1 (by show (writeN r.rd.abs nJ (aa:Int) l).2≠0;omega);have ok:=Hp.bcls (p:=p) (kept:=r.kept) (ok.n2.n2);refine .ret ⟨.int .i64 ((writeN r.rd.abs nJ (aa:Int) l).2:Int),Res.one rfl rfl,⟨(⟨r.in_,r.now,r.valid,r.begun,r.nonce,r.km,r.kept,r.marked,r.d,rw1,r.size,r.c,r.sure,r.bytes,r.broken⟩:RK),Ew1,(by rw [hct]<;>rfl),(by rw [hct];rfl),⟨rfl,rfl,rfl⟩,((ok).k1.e1).cup hnw1⟩⟩
 refine .skip<|.seq<|.seq<|.r<|.z .mvP<|.z .nil<|.z (.fa T.fd136_1)<|.z (.ldx T.ag30 ok.m1)<|.c' 45 .func (sync_any (d:=r.d) (r:=rw1) (E:=Ew1) (n:=nJ) (ok).loc1 hkw1 (by omega)) ?_;rintro _ η3 ⟨rw2,Ew2,rfl,haw2,upw2⟩;have hzw2:=(ok).chg.size;have ok:=(ok).dsk (d:=r.d) (r:=rw1) upw2;have hkw2:DkOk rw2.abs:=by rw [haw2];exact (hkw1).sync
 have hcw2:rw2.chg≤rw1.chg+1:=Int.le_trans (Int.le_of_eq (congrArg Dk.chg haw2)) sync_chg;have hnw2:=fun j hj=>(upw2.new j hj).elim (hnw1 j) fun h1=>Or.inr (Nat.le_trans hzw2 h1);refine .z .asI<|.nil ?_;refine .seq<|.r<|.z .mvI<|.z .neq<|.nil ?_;refine .cd (fun C2=>?_) (fun C2=>?_)
 ·
  refine .seq<|.r<|.z .mvI<|.z .asI<|.nil ?_;have hct:=ct_2 (A:=r.abs room L) (b:=l) (many:=many) haa hmm haw1 (by show (writeN r.rd.abs nJ (aa:Int) l).2=0;omega) haw2 (by show (syncN rw1.abs nJ).2≠0;omega);have ok:=Hp.bcls (p:=p) (kept:=r.kept) (ok.n2.n2);refine .ret ⟨.int .i64 ((syncN rw1.abs nJ).2:Int),Res.one rfl rfl,⟨(⟨r.in_,r.now,r.valid,r.begun,r.nonce,r.km,r.kept,r.marked,r.d,rw2,r.size,r.c,r.sure,r.bytes,r.broken⟩:RK),Ew2,(by rw [hct]<;>rfl),(by rw [hct];rfl),⟨rfl,rfl,rfl⟩,((ok).k1.e1).cup hnw2⟩⟩
 refine .skip<|.seq<|.seq<|?_;obtain ⟨zl,hzl,rfl⟩:∃zl:List UInt8,List.replicate zl.length (0:UInt8)=zl∧zl.length=mm:=⟨List.replicate mm 0,by simp,by simp⟩;refine .a 11 (fun fl hh=>cond fl True (Hp h (corI p r).F [boxI p 136 [.bool r.in_,.int .i64 (r.now:Int),.int .i64 (r.valid:Int),.bool r.begun,.int .u64 (r.nonce:Int),.map r.km,.int .i64 (r.marked:Int),.pointer (some ⟨r.d,0,none⟩),.int .i64 (r.size:Int),.pointer (some ⟨r.c,0,none⟩),.int .i64 (r.sure:Int),.int .i64 (r.bytes:Int),.bool r.broken]] [] hh)) mixed ?_;have hS:=ok.n1.k1.tR.tR;refine .g 0 false rfl 49 hS (fun _=>.mvP)<|.g 1 false rfl 50 hS (fun _=>.nil)<|.g 2 false rfl 51 hS (fun _=>.fa T.fd136_1)<|.l 3 false rfl 52 hS (fun _ hS=>.ldx T.ag30 hS.m0)<|.g 4 false rfl 53 hS (fun _=>.mvP)<|.g 5 false rfl 54 hS (fun _=>.nil)<|.g 6 false rfl 55 hS (fun _=>.fa T.fd136_0)<|.g 7 false rfl 56 hS (fun _=>.fa T.fd134_6)<|.l 8 false rfl 57 hS (fun _ hS=>.ldx T.ag3 hS.m0)<|.g 9 false rfl 58 hS (fun _=>.mvI)<|.o1 10<|.a' false rfl 59 (.mks zl.length zl.length T.el22 T.sz5 T.by5 T.zr5 ok) ?_;rintro _ η4 ⟨pb1,rfl,ok,xe⟩;have ok:=ok.cx (ys:=(List.replicate zl.length (0:UInt8)).map bv) (zeros8 _);rw [hzl] at ok;refine ⟨ok.n2.k1.tR.tR,?_⟩;have hS:=ok.n2.k1.tR.tR;refine .o1 11<|?_;have ok:=(ok).frzB (l:=zl) rfl;refine .c' true rfl 60 .func (write_any (d:=r.d) (r:=rw2) (E:=Ew2) (n:=nM) (z:=(r.marked:Int)) (a:=some ⟨pb1,0,none⟩) (c:=zl.length) (l:=zl) (ok.f1).loc2 hkw2 (by omega) ⟨by omega,by omega⟩) ?_;rintro _ η5 ⟨rw3,Ew3,rfl,haw3,upw3⟩;have hzw3:=(ok).chg.size;have ok:=(ok.f1).dsk (d:=r.d) (r:=rw2) upw3;have hkw3:DkOk rw3.abs:=by rw [haw3];exact (hkw2).write
 have hcw3:rw3.chg≤rw2.chg+1:=Int.le_trans (Int.le_of_eq (congrArg Dk.chg haw3)) write_chg;have hnw3:=fun j hj=>(upw3.new j hj).elim (hnw2 j) fun h1=>Or.inr (Nat.le_trans hzw3 h1);refine ⟨trivial,?_⟩;refine .g 12 true rfl 10 trivial (fun _=>.asI)<|.e ?_;refine .seq<|.r<|.z .mvI<|.z .neq<|.nil ?_;refine .cd (fun C3=>?_) (fun C3=>?_)
 ·
  refine .seq<|.r<|.z .mvI<|.z .asI<|.nil ?_;have hct:=ct_3 (A:=r.abs room L) (b:=l) (many:=many) haa hmm haw1 (by show (writeN r.rd.abs nJ (aa:Int) l).2=0;omega) haw2 (by show (syncN rw1.abs nJ).2=0;omega) (by show rw3.abs=(writeN rw2.abs nM (r.marked:Int) (List.replicate zl.length 0)).1;rw [hzl];exact haw3) (by show (writeN rw2.abs nM (r.marked:Int) (List.replicate zl.length 0)).2≠0;rw [hzl];omega);rw [hzl] at hct;have ok:=Hp.bcls (p:=p) (kept:=r.kept) (ok.n2.n2);refine .ret ⟨.int .i64 ((writeN rw2.abs nM (r.marked:Int) zl).2:Int),Res.one rfl rfl,⟨(⟨r.in_,r.now,r.valid,r.begun,r.nonce,r.km,r.kept,r.marked,r.d,rw3,r.size,r.c,r.sure,r.bytes,r.broken⟩:RK),Ew3,(by rw [hct]<;>rfl),(by rw [hct];rfl),⟨rfl,rfl,rfl⟩,((ok).k1.e1).cup hnw3⟩⟩
 refine .skip<|.seq<|.r<|.z .mvP<|.z .nil<|.z (.fa T.fd136_0)<|.z (.fa T.fd134_3)<|.ur' (.stB T.sz4 ok.n1) ?_;rintro η6 ⟨ok,cg⟩;refine .nil ?_;refine .seq<|.r<|.z .mvP<|.z .nil<|.z (.fa T.fd136_0)<|.z (.fa T.fd134_6)<|.z (.ldx T.ag3 ok.m0)<|.z .mvI<|.z .addI<|.z .nil<|.z (.fa T.fd136_0)<|.z (.fa T.fd134_6)<|.ur' (.stI T.sz3 ok) ?_;rintro η7 ⟨ok,cg⟩;refine .nil ?_;refine .seq<|.r<|.z .mvP<|.z .nil<|.z (.fa T.fd136_1)<|.z (.ldx T.ag30 ok.m0)<|.c' 82 .func (sync_any (d:=r.d) (r:=rw3) (E:=Ew3) (n:=nM) (ok.n1).loc1 hkw3 (by omega)) ?_;rintro _ η8 ⟨rw4,Ew4,rfl,haw4,upw4⟩;have hzw4:=(ok).chg.size;have ok:=(ok.n1).dsk (d:=r.d) (r:=rw3) upw4;have hkw4:DkOk rw4.abs:=by rw [haw4];exact (hkw3).sync
 have hcw4:rw4.chg≤rw3.chg+1:=Int.le_trans (Int.le_of_eq (congrArg Dk.chg haw4)) sync_chg;have hnw4:=fun j hj=>(upw4.new j hj).elim (hnw3 j) fun h1=>Or.inr (Nat.le_trans hzw4 h1);refine .z .asI<|.nil ?_;have hct:=ct_4 (A:=r.abs room L) (b:=l) (many:=many) haa hmm haw1 (by show (writeN r.rd.abs nJ (aa:Int) l).2=0;omega) haw2 (by show (syncN rw1.abs nJ).2=0;omega) (by show rw3.abs=(writeN rw2.abs nM (r.marked:Int) (List.replicate zl.length 0)).1;rw [hzl];exact haw3) (by show (writeN rw2.abs nM (r.marked:Int) (List.replicate zl.length 0)).2=0;rw [hzl];omega) haw4;have ok:=Hp.bcls (p:=p) (kept:=r.kept) (ok.n2.n2);refine .ret ⟨.int .i64 ((syncN rw3.abs nM).2:Int),Res.one rfl rfl,⟨(⟨r.in_,r.now,r.valid,true,r.nonce,r.km,r.kept,(r.marked+zl.length),r.d,rw4,r.size,r.c,r.sure,r.bytes,r.broken⟩:RK),Ew4,(by rw [hct]<;>rfl),(by rw [hct];rfl),⟨rfl,rfl,rfl⟩,((ok).k1.e1).cup hnw4⟩⟩
open Go Go.HL
section
variable {d:Dk} {z u na:Nat} {x y l:List Nat} {b b':List UInt8} {k k':List Int} {m m' e i:Nat}
theorem saveL_app:saveL d z u na (x++y) b k m=if (saveL d z u na x b k m).2.2.2=0 then saveL d z u na y (saveL d z u na x b k m).1 (saveL d z u na x b k m).2.1 (saveL d z u na x b k m).2.2.1 else saveL d z u na x b k m:=by
 induction x generalizing b k m with
 | nil=>simp [saveL]
 | cons n x ih=>
  simp only [List.cons_append,saveL];by_cases h1:u<n∨(n:Int)∈k
  ·simp only [if_pos h1];exact ih
  ·simp only [if_neg h1];by_cases h2:(oldB d z n).2=0
   ·have h3:¬(oldB d z n).2≠0:=by simp [h2]
    simp only [if_neg h3];exact ih
   ·simp only [if_pos (show (oldB d z n).2≠0 from h2)];rw [if_neg h2]
theorem saveL_step (h:saveL d z u na x b k m=(b',k',m',0)):saveL d z u na (x++y) b k m=saveL d z u na y b' k' m':=by rw [saveL_app,h,if_pos rfl]
theorem saveL_skip (hi:i<l.length) (h:saveL d z u na (l.take i) b k m=(b',k',m',0)) (hs:u<l[i]∨(l[i]:Int)∈k'):saveL d z u na (l.take (i+1)) b k m=(b',k',m',0):=by
 rw [List.take_succ_eq_append_getElem hi,saveL_step h];simp only [saveL];rw [if_pos hs]
theorem saveL_add (hi:i<l.length) (h:saveL d z u na (l.take i) b k m=(b',k',m',0)) (hs:¬(u<l[i]∨(l[i]:Int)∈k')) (he:(oldB d z l[i]).2=0) :
  saveL d z u na (l.take (i+1)) b k m=(b'++jputN na l[i] (oldB d z l[i]).1,k'++[(l[i]:Int)],m'+1,0):=by
 rw [List.take_succ_eq_append_getElem hi,saveL_step h];simp only [saveL];rw [if_neg hs,if_neg (by simp [he])]
theorem saveL_stop (hi:i<l.length) (h:saveL d z u na (l.take i) b k m=(b',k',m',0)) (hs:¬(u<l[i]∨(l[i]:Int)∈k')) (he:(oldB d z l[i]).2≠0) :
  saveL d z u na l b k m=(b',k',m',(oldB d z l[i]).2):=by
 have h1:l=l.take i++l[i]::l.drop (i+1):=by rw [←List.drop_eq_getElem_cons hi,List.take_append_drop]
 have h2:saveL d z u na (l.take i++l[i]::l.drop (i+1)) b k m=(b',k',m',(oldB d z l[i]).2):=by
  rw [saveL_step h];simp only [saveL];rw [if_neg hs,if_pos he]
 rwa [←h1] at h2
end
section
variable {A:Bk} {l:List Nat} {na:Nat} {b0 b:List UInt8} {k:List Int} {m e:Nat} (hn:na=if A.begun=true then A.nonce else (A.dk.chg%18446744073709551616).toNat) (hb:b0=if A.begun=true then [] else jheadN A.size A.sure na)
include hn hb
theorem sv_e (h:saveL A.dk A.size A.sure na l b0 A.kept 0=(b,k,m,e)) (he:e≠0):saveB A l=({ A with nonce:=na,kept:=k },e):=by
 unfold saveB;simp only;rw [←hn,←hb,h,if_pos he]
theorem sv_nil (h:saveL A.dk A.size A.sure na l b0 A.kept 0=([],k,m,0)):saveB A l=({ A with nonce:=na,kept:=k },0):=by
 unfold saveB;simp only;rw [←hn,←hb,h,if_neg (by simp),if_pos rfl]
theorem sv_go (h:saveL A.dk A.size A.sure na l b0 A.kept 0=(b,k,m,0)) (hx:b≠[]):saveB A l=countB { A with nonce:=na,kept:=k } b m:=by
 unfold saveB;simp only;rw [←hn,←hb,h,if_neg (by simp),if_neg hx]
end
open Go Go.HL
theorem jstart_ok {h:Heap} {n k s:Nat} (hn:n<4294967296) (hk:k<4294967296) (hs:s<18446744073709551616) (ho:okJ n k=true) :
  HC Tryz.prog 184 #[.int .i64 (n:Int),.int .i64 (k:Int),.int .u64 (s:Int)] h (fun v h'=>∃w,v=.tuple #[w,.int .i64 0]∧Own h h' 1 5 w ((jheadN n k s).map bv)):=
 (jstart_any hn hk hs).mono fun v h' q=>q.elim (fun q=>absurd q.1 (by rw [ho];decide)) fun q=>q.2
theorem jentry_ok {h:Heap} {F E:Nat→Prop} {s p:Nat} {a:Option Addr} {c:Nat} {l:List UInt8} (hs:s<18446744073709551616) (hN:l.length≤10000000) (hl:RdL h F E (a,l.length,c) l) (ho:okE ⟨(p:Int),0,l⟩=true) :
  HC Tryz.prog 194 #[.int .u64 (s:Int),.agg #[.int .i64 (p:Int),.int .i64 0,.slice a l.length c]] h (fun v h'=>∃w,v=.tuple #[w,.int .i64 0]∧Own h h' 1 5 w ((jputN s p l).map bv)):=
 (jentry_any hs hN hl).mono fun v h' q=>q.elim (fun q=>absurd q.1 (by rw [ho];decide)) fun q=>q.2
theorem oldB_len {d:Dk} {z n:Nat} : (oldB d z n).1.length=z:=longN_len _ _
theorem save_any {h:Heap} {p:Nat} {r:RK} {room:Int} {L:List AP} {E F2 E2:Nat→Prop} {a:Option Addr} {c:Nat} {li:List Int} (ok:Hp h (corI p r).F [corI p r] [bysI E r.rd.fs,rdI F2 E2 (a,li.length,c) li] h) (hk:DkOk r.rd.abs) (hcg:r.rd.chg<500000000) (hcz:0≤r.rd.chg) (hbg:r.begun=true→1≤r.marked) (hmk:r.marked≤1048577) (hno:r.nonce<18446744073709551616) (hokz:okZ (r.size:Int)=true) (hoj:okJ r.size r.sure=true) (hkm:∃m,r.km=some m) (hN:li.length≤1048576) (hpos:∀x∈li,1≤x∧x≤1048576) :
  HC Tryz.prog 155 #[.pointer (some ⟨p,0,none⟩),.slice a li.length c] h (fun v h'=>∃r' E',v=.int .i64 ((saveB (r.abs room L) (li.map Int.toNat)).2:Int)∧r'.abs room L=(saveB (r.abs room L) (li.map Int.toNat)).1∧(r'.d=r.d∧r'.c=r.c∧r'.km=r.km)∧CUp h h' p r r' E E'):=by
 obtain ⟨mk,hkm⟩:=hkm;have hmc:=ok.r1.m;have hcc:=ok.r1.c;simp only at hmc hcc;have hsz:r.size≤4096:=by have:=okZ_le hokz;omega
 have hju:=okJ_le hoj;refine HC.go Tryz.func155 107 ?_;refine .seq<|.r<|.z .asI<|.nil ?_;refine .seq<|.r<|.z .asS<|.nil ?_;refine .seq<|.seq<|?_;have ok:=(ok).bopn;rw [hkm] at ok;have ok:=Hp.kepSome (ok.n1);refine .r<|.z .mvP<|.z .nil<|.z (.fa T.fd136_0)<|.z (.fa T.fd134_3)<|.z (.ldx T.ag4 ok.m1)<|.z .not<|.nil ?_;refine .join (fun s hh=>∃(na:Nat) (b0:List UInt8) (a5:Option Addr) (c5:Nat),Has s [(0,.pointer (some ⟨p,0,none⟩)),(1,.slice a li.length c),(5,.slice a5 b0.length c5)]∧Hp h (corI p r).F [capI 1 5 (a5,b0.length,c5) (b0.map bv),boxI p 136 [.bool r.in_,.int .i64 (r.now:Int),.int .i64 (r.valid:Int),.bool r.begun,.int .u64 (na:Int),.map (some mk),.int .i64 (r.marked:Int),.pointer (some ⟨r.d,0,none⟩),.int .i64 (r.size:Int),.pointer (some ⟨r.c,0,none⟩),.int .i64 (r.sure:Int),.int .i64 (r.bytes:Int),.bool r.broken],mapI (Value.int .i64) mk (setE r.kept),dskI r.d r.rd] [bysI E r.rd.fs,rdI F2 E2 (a,li.length,c) li] hh∧na=(if r.begun=true then r.nonce else (r.rd.chg%18446744073709551616).toNat)∧b0=(if r.begun=true then [] else jheadN r.size r.sure na)∧na<18446744073709551616∧b0.length≤28) ?_ ?_
 ·
  refine .cond (fun C0=>?_) (fun C0=>?_)
  ·
   refine .seq<|.r<|.z .mvP<|.z .mvP<|.z .nil<|.z (.fa T.fd136_1)<|.z (.ldx T.ag30 ok.m1)<|.k 24 .func (changes_any (d:=r.d) (r:=r.rd) (dsk_parts (ok.m2)).1)<|.z (.cvz T.in77 T.in3)<|.z .nil<|.z (.fa T.fd136_0)<|.z (.fa T.fd134_4)<|.ur' (.stI T.sz77 ok.n1) ?_;rintro η1 ⟨ok,cg⟩;refine .nil ?_;refine .a 13 (fun fl hh=>cond fl True (Hp h (corI p r).F [boxI p 136 [.bool r.in_,.int .i64 (r.now:Int),.int .i64 (r.valid:Int),.bool r.begun,.int .u64 (((r.rd.chg%18446744073709551616).toNat:Nat):Int),.map (some mk),.int .i64 (r.marked:Int),.pointer (some ⟨r.d,0,none⟩),.int .i64 (r.size:Int),.pointer (some ⟨r.c,0,none⟩),.int .i64 (r.sure:Int),.int .i64 (r.bytes:Int),.bool r.broken],mapI (Value.int .i64) mk (setE r.kept),dskI r.d r.rd] [bysI E r.rd.fs,rdI F2 E2 (a,li.length,c) li] hh)) mixed ?_;have hS:=ok;refine .g 0 false rfl 30 hS (fun _=>.mvP)<|.g 1 false rfl 31 hS (fun _=>.nil)<|.g 2 false rfl 32 hS (fun _=>.fa T.fd136_2)<|.l 3 false rfl 33 hS (fun _ hS=>.ldx T.ag3 hS.m0)<|.g 4 false rfl 34 hS (fun _=>.mvP)<|.g 5 false rfl 35 hS (fun _=>.nil)<|.g 6 false rfl 36 hS (fun _=>.fa T.fd136_4)<|.l 7 false rfl 37 hS (fun _ hS=>.ldx T.ag3 hS.m0)<|.g 8 false rfl 38 hS (fun _=>.mvP)<|.g 9 false rfl 39 hS (fun _=>.nil)<|.g 10 false rfl 40 hS (fun _=>.fa T.fd136_0)<|.g 11 false rfl 41 hS (fun _=>.fa T.fd134_4)<|.l 12 false rfl 42 hS (fun _ hS=>.ldx T.ag77 hS.m0)<|.o1 13<|.c' true rfl 43 .func (jstart_ok (n:=r.size) (k:=r.sure) (s:=(r.rd.chg%18446744073709551616).toNat) (by omega) (by omega) (by omega) hoj) ?_;rintro _ η2 ⟨yw1,rfl,own⟩;obtain ⟨ya1,yc1,rfl⟩:=own.formB;have ok:=ok.own own;refine ⟨trivial,?_⟩;refine .g 14 true rfl 29 trivial (fun _=>.mvU)<|.g 15 true rfl 44 trivial (fun _=>.ex)<|.g 16 true rfl 45 trivial (fun _=>.ex)<|.g 17 true rfl 5 trivial (fun _=>.asS)<|.e ?_;refine .end<|⟨((r.rd.chg%18446744073709551616).toNat),(jheadN r.size r.sure ((r.rd.chg%18446744073709551616).toNat)),ya1,yc1,⟨rfl,rfl,rfl,trivial⟩,ok.n3.n3.n3.n3.cx (by rfl),by rw [if_neg (by simpa using C0)],by rw [if_neg (by simpa using C0)],by omega,by rw [jheadN_len];omega⟩
  have ok:=ok.nilC (k:=1) (e:=5);refine .skip<|.end<|⟨r.nonce,[],none,0,⟨rfl,rfl,rfl,trivial⟩,ok.n3.n2.n3.n3.cx (by rfl),by rw [if_pos (by simpa using C0)],by rw [if_pos (by simpa using C0)],hno,by simp⟩
 rintro s η3 ⟨na,b0,a5,c5,hs,ok,hna,hb0,hnl,hbl⟩;refine .frame hs fun τ=>?_;refine .seq<|.r<|.z .asI<|.nil ?_;refine .seq<|.seq<|?_;have ok:=Hp.bcls (p:=p) (kept:=r.kept) (ok.n3.n3.n3);refine .r<|.z .mvS<|.z (.len T.el167)<|.z .mvI<|.nil ?_;refine .block fun K0 hK0=>.loop (fun m s hh=>∃(i:Nat) (bb:List UInt8) (ks:List Int) (mm:Nat) (ab:Option Addr) (cb:Nat),Has s [(0,.pointer (some ⟨p,0,none⟩)),(5,.slice ab bb.length cb),(6,.int .i64 (mm:Int)),(46,.slice a li.length c),(47,.int .i64 (li.length:Int)),(48,.int .i64 (i:Int))]∧Hp h (corI p r).F [capI 1 5 (ab,bb.length,cb) (bb.map bv),corI p (⟨r.in_,r.now,r.valid,r.begun,na,(some mk),ks,r.marked,r.d,r.rd,r.size,r.c,r.sure,r.bytes,r.broken⟩:RK)] [bysI E r.rd.fs,rdI F2 E2 (a,li.length,c) li] hh∧i≤li.length∧saveL r.rd.abs r.size r.sure na ((li.map Int.toNat).take i) b0 r.kept 0=(bb,ks,mm,0)∧mm≤i∧bb.length≤28+i*4104∧m=li.length-i) ?_ ?_
 ·exact ⟨_,0,b0,r.kept,0,a5,c5,⟨rfl,rfl,rfl,rfl,rfl,rfl,trivial⟩,ok.n1.cx (by rfl),Nat.zero_le _,rfl,Nat.le_refl _,by omega,rfl⟩
 rintro _ _ η4 ⟨i,bb,ks,mm,ab,cb,hs,ok,hi,hsl,hmi,hbi,rfl⟩ J0 hJ0;refine .frame hs fun τ=>?_;refine .seq<|.r<|.z .lss<|.nil ?_;refine .seq<|.cdr (fun C1=>?_) (fun C1=>?_)
 ·
  refine .exit<|hK0 _ _<|.seq<|.seq<|?_;have hfull:saveL r.rd.abs r.size r.sure na (li.map Int.toNat) b0 r.kept 0=(bb,ks,mm,0):=by rw [←hsl,show i=(li.map Int.toNat).length by rw [List.length_map];omega,List.take_length]
  refine .r<|.z .mvS<|.z (.len T.el22)<|.z .eql<|.nil ?_;refine .cd (fun C4=>?_) (fun C4=>?_)
  ·
   refine .seq<|.r<|.z .asI<|.nil ?_;have hbn:bb=[]:=List.eq_nil_of_length_eq_zero (by omega);have hsv:=sv_nil (A:=r.abs room L) (l:=li.map Int.toNat) hna hb0 (by rw [←hbn];exact hfull);refine .ret ⟨.int .i64 0,Res.one rfl rfl,⟨(⟨r.in_,r.now,r.valid,r.begun,na,(some mk),ks,r.marked,r.d,r.rd,r.size,r.c,r.sure,r.bytes,r.broken⟩:RK),E,(by rw [hsv]<;>rfl),(by rw [hsv];rfl),⟨rfl,rfl,hkm.symm⟩,((ok.n1).k1.e1).cup (fun _ h=>Or.inl h)⟩⟩
  refine .skip<|.seq<|.r<|.z .mvP<|.z .mvS<|.z .mvI<|?_;have ok:=(ok).frzB (l:=bb) rfl;refine .c' 106 .func (count_any (p:=p) (r:=(⟨r.in_,r.now,r.valid,r.begun,na,(some mk),ks,r.marked,r.d,r.rd,r.size,r.c,r.sure,r.bytes,r.broken⟩:RK)) (room:=room) (L:=L) (E:=E) (a:=ab) (c:=cb) (l:=bb) (many:=mm) (ok.f1).loc2 hk (show r.rd.chg<500000000 by omega) (by omega) (by omega) hsz (by omega)) ?_;rintro _ η5 ⟨rk1,Ek1,rfl,hAk1,hdk1,upk1⟩;have hzk1:=(ok.f1).chg.size;have ok:=(ok.f1).cor upk1;have hnk1:=fun j hj=>(upk1.new j hj).elim ((fun _ h=>Or.inl h) j) fun h1=>Or.inr (Nat.le_trans hzk1 h1);refine .z .asI<|.nil ?_;have hsv:=sv_go (A:=r.abs room L) (l:=li.map Int.toNat) hna hb0 hfull (by intro h;rw [h] at C4;exact C4 rfl);refine .ret ⟨.int .i64 ((countB (RK.abs (⟨r.in_,r.now,r.valid,r.begun,na,(some mk),ks,r.marked,r.d,r.rd,r.size,r.c,r.sure,r.bytes,r.broken⟩:RK) room L) bb mm).2:Int),Res.one rfl rfl,⟨rk1,Ek1,(by rw [hsv]<;>rfl),(by rw [hsv];exact hAk1),⟨hdk1.1,hdk1.2.1,hdk1.2.2.trans hkm.symm⟩,((ok).k1.e1).cup hnk1⟩⟩
 refine .skip<|.seq<|.block fun K1 hK1=>.seq<|.r<|?_;obtain ⟨bb1,oo1,rfl,fb1⟩:=ok.r1.pos (by omega);refine .z (.ix1 i T.el167 T.sz3)<|.z (.ld T.ag3 (ok.r1.i64 (i:=i) (by omega)))<|?_;have hil:i<li.length:=by omega
 have hnp:=hpos _ (List.getElem_mem (l:=li) (n:=i) hil);obtain ⟨nn,hnn⟩:∃nn:Nat,li[i]=(nn:Int):=⟨li[i].toNat,by omega⟩;rw [hnn] at hnp;have hlm:i<(li.map Int.toNat).length:=by rw [List.length_map];exact hil
 have hln:(li.map Int.toNat)[i]=nn:=by simp [hnn]
 rw [hnn];refine .z .asI<|.nil ?_;refine .seq<|.seq<|?_;have ok:=(ok.n1).bopn;have ok:=Hp.kepSome ok.n1;refine .r<|.z .mvI<|.z .mvP<|.z .nil<|.z (.fa T.fd136_4)<|.z (.ldx T.ag3 ok.m1)<|.z .gtr<|.z .mvB<|.sd (fun G58=>?_) (fun G58=>?_)
 ·
  refine .y<|.y<|.y<|.y<|.y<|.y<|.y<|.z .pkt<|.nil ?_;refine .ct<|.exit<|hK1 _ _<|.r<|.z (.addI (b:=1))<|.z .mvI<|.nil ?_;refine .end<|?_;have ok:=Hp.bcls (p:=p) (kept:=ks) (ok.n2.n1.n2);refine hJ0 _ _ _ ⟨i+1,bb,ks,mm,ab,cb,⟨rfl,rfl,rfl,rfl,rfl,rfl,trivial⟩,ok.n1.cx (by rfl),by omega,saveL_skip hlm hsl (by rw [hln];first | exact .inl (by omega) | exact .inr C2),by omega,by omega,rfl⟩ (by omega)
 refine .z .mvP<|.z .nil<|.z (.fa T.fd136_0)<|.z (.fa T.fd134_5)<|.z (.ldx T.ag132 ok.m1)<|.z .mvI<|.z (.lk (KV.int .i64) (nn:Int) (v:=.bool (decide ((nn:Int)∈ks))) T.mp132 (inB_iff T.in3) T.zr4 ok.m0 (by exact setE_get))<|.z .pkf<|.nil ?_;refine .cd (fun C2=>?_) (fun C2=>?_)
 ·
  refine .exit<|hK1 _ _<|.r<|.z (.addI (b:=1))<|.z .mvI<|.nil ?_;refine .end<|?_;have ok:=Hp.bcls (p:=p) (kept:=ks) (ok.n2.n1.n2);refine hJ0 _ _ _ ⟨i+1,bb,ks,mm,ab,cb,⟨rfl,rfl,rfl,rfl,rfl,rfl,trivial⟩,ok.n1.cx (by rfl),by omega,saveL_skip hlm hsl (by rw [hln];first | exact .inl (by omega) | exact .inr C2),by omega,by omega,rfl⟩ (by omega)
 refine .skip<|.seq<|.r<|.z .mvP<|.z .mvI<|?_;have ok:=Hp.bcls (p:=p) (kept:=ks) (ok.n2.n1.n2);refine .c' 70 .func (bold_any (p:=p) (r:=(⟨r.in_,r.now,r.valid,r.begun,na,(some mk),ks,r.marked,r.d,r.rd,r.size,r.c,r.sure,r.bytes,r.broken⟩:RK)) (E:=E) (no:=nn) (ok).loc1 hk (by exact hsz) (by omega)) ?_;rintro vo1 η6 ⟨ao1,co1,hvo1,q⟩;obtain rfl:vo1=.tuple #[.slice ao1 (oldB r.rd.abs r.size nn).1.length co1,.int .i64 (((oldB r.rd.abs r.size nn).2:Nat):Int)]:=hvo1;have ok:=(ok).lift2 q;refine .z .mvU<|.z .ex<|.z .ex<|.z .asS<|.z .asI<|.nil ?_;refine .seq<|.seq<|.r<|.z .mvI<|.z .neq<|.nil ?_;refine .cd (fun C3=>?_) (fun C3=>?_)
 ·
  refine .seq<|.r<|.z .mvI<|.z .asI<|.nil ?_;have hsv:=sv_e (A:=r.abs room L) (l:=li.map Int.toNat) hna hb0 (saveL_stop hlm hsl (by rw [hln];rintro (h | h);(have h9:r.sure<nn:=h;omega);exact C2 h) (by rw [hln];show (oldB r.rd.abs r.size nn).2≠0;omega)) (by rw [hln];show (oldB r.rd.abs r.size nn).2≠0;omega);rw [hln] at hsv;refine .ret ⟨.int .i64 (((oldB r.rd.abs r.size nn).2:Nat):Int),Res.one rfl rfl,⟨(⟨r.in_,r.now,r.valid,r.begun,na,(some mk),ks,r.marked,r.d,r.rd,r.size,r.c,r.sure,r.bytes,r.broken⟩:RK),E,(by rw [hsv]<;>rfl),(by rw [hsv];rfl),⟨rfl,rfl,hkm.symm⟩,((ok.n1).k1.e1).cup (fun _ h=>Or.inl h)⟩⟩
 refine .skip<|.seq<|?_;have ok:=(ok.n1).bopn;have ok:=Hp.kepSome ok.n1;refine .r<|.z .mvP<|.z .nil<|.z (.fa T.fd136_0)<|.z (.fa T.fd134_4)<|.z (.ldx T.ag77 ok.m1)<|.z .mvI<|.z .mvS<|.z (.bd #[.int .i64 (nn:Int),.int .i64 0,.slice ao1 ((oldB r.rd.abs r.size nn).1.length) co1] T.zr102 T.pl102 rfl)<|.c' 85 .func (jentry_ok (s:=na) (p:=nn) (by omega) (by rw [oldB_len];omega) (a:=ao1) (c:=co1) (l:=(oldB r.rd.abs r.size nn).1) (RdL.ofCapB (v:=(ao1,(oldB r.rd.abs r.size nn).1.length,co1)) (l:=((oldB r.rd.abs r.size nn).1)) ok.m3) (by exact okE_t (by rw [oldB_len];exact hokz) (by omega))) ?_;rintro _ η7 ⟨yw2,rfl,own⟩;obtain ⟨ya2,yc2,rfl⟩:=own.formB;have ok:=ok.own own;refine .z .mvU<|.z .ex<|.z .ex<|.z .asS<|.z .asI<|.nil ?_;refine .seq<|.r<|.z .mvS<|.z .mvS<|.a' 90 (.app (news:=(jputN na nn ((oldB r.rd.abs r.size nn).1)).map bv) T.el22 T.sz5 T.by5 T.zr5 ok.n5 (ok.n5.m1).sl bv_all (by simp only [List.length_map,List.length_append,List.length_take,List.length_cons,List.length_nil,List.length_replicate,List.length_range,fixedN_len,sealN_len,jputN_len,oldB_len];omega)) ?_;rintro _ η8 ⟨ya3,yn3,yc3,rfl,ok,ap⟩;have ok:=ok.cx (ys:=(bb++(jputN na nn ((oldB r.rd.abs r.size nn).1))).map bv) (by simp [bv]);obtain rfl:yn3=(bb++(jputN na nn ((oldB r.rd.abs r.size nn).1))).length:=ok.lenB;refine .z .asS<|.nil ?_;refine .seq<|.r<|.z .mvP<|.z .nil<|.z (.fa T.fd136_0)<|.z (.fa T.fd134_5)<|.z (.ldx T.ag132 ok.m3)<|.z .mvI<|.ur' (.mpu (KV.int .i64) V.sbI (nn:Int) (v:=.bool true) T.mp132 (inB_iff T.in3) ok.n2) ?_;rintro η9 ok;rw [setE_put C2] at ok;refine .nil ?_;refine .r<|.z .mvI<|.z (.addI (b:=1))<|.z .asI<|.nil ?_;refine .end<|hK1 _ _<|.r<|.z (.addI (b:=1))<|.z .mvI<|.nil ?_;refine .end<|?_;have ok:=Hp.bcls (p:=p) (kept:=(ks++[(nn:Int)])) (ok.n4.n1.n4);refine hJ0 _ _ _ ⟨i+1,bb++(jputN na nn ((oldB r.rd.abs r.size nn).1)),ks++[(nn:Int)],mm+1,ya3,yc3,⟨rfl,rfl,rfl,rfl,rfl,rfl,trivial⟩,ok.n1.k2.cx (by rfl),by omega,(by rw [saveL_add hlm hsl (by rw [hln];rintro (h | h);omega;exact C2 h) (by rw [hln];omega),hln]),by omega,(by rw [List.length_append,jputN_len,oldB_len];omega),rfl⟩ (by omega)
end Go.Proofs.YtpeaicddbnghfaaGreat
