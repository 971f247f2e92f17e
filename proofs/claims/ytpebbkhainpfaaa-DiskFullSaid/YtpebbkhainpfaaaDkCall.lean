/- A disk's calls: Write, Truncate, Remove, Sync, Size, Dark, Changes, Cut, New. Conditions: the disk is in order, its changes few. -/
import Derived.Test.YtpebbkhainpfaaaDkDo
namespace Go.HL
open Go Go.Proofs.Ytpebbkhainpfaaa
theorem Hp.byX {h0 h : Heap} {D E F2 : Nat → Prop} {M R : List Itm} {fs : Fs} {a : Option Addr} {c : Nat} {l : List UInt8} (ok : Hp h0 D M (rdI F2 none_ (a, l.length, c) l :: bysI E fs :: R) h) : Hp h0 D M (bysI (fun j => E j ∨ F2 j) fs :: rdI (fun j => E j ∨ F2 j) (fun j => E j ∨ F2 j) (a, l.length, c) l :: R) h := by
  have o1 := ok.or (r := rdI F2 none_ (a, l.length, c) l) (r' := bysI E fs) (by simp) (by simp) (rdI (fun j => E j ∨ F2 j) (fun j => E j ∨ F2 j) (a, l.length, c) l) (RdL.mono (fun _ h => .inr h) (fun _ f => f.elim) ok.r0) (fun j hj => (hj.elim id id).elim .inr (fun h => .inl (.inl h)))
  have o2 := o1.or (r := rdI F2 none_ (a, l.length, c) l) (r' := bysI E fs) (by simp) (by simp) (bysI (fun j => E j ∨ F2 j) fs) (Bys.mono (fun _ h => .inl h) ok.r1) (fun j hj => hj.elim .inr (fun h => .inl (.inl h)))
  exact o2.sub (by
    intro i hi
    simp only [List.mem_cons] at hi ⊢
    rcases hi with h | h | h
    · exact .inl h
    · exact .inr (.inl h)
    · exact .inr (.inr (.inr (.inr h))))
end Go.HL
namespace Go.Proofs.Ytpebbkhainpfaaa
open Go Go.HL
theorem write_w {d : Dk} {n : List UInt8} {z : Int} {l : List UInt8} (h : ¬ (wrongN d n [z] : Int) = 0) : writeN d n z l = (d, wrongN d n [z]) := by unfold writeN; rw [if_pos (by omega)]
theorem write_f {d : Dk} {n : List UInt8} {z : Int} {l : List UInt8} (h : wrongN d n [z] = 0) (h2 : 16777216 < z ∨ 16777216 - z < l.length) : writeN d n z l = (d, 5) := by unfold writeN; rw [if_neg (by omega), if_pos h2]
theorem write_d {d : Dk} {n : List UInt8} {p : Nat} {l : List UInt8} (h : wrongN d n [(p : Int)] = 0) (h2 : ¬ (16777216 < (p : Int) ∨ 16777216 - (p : Int) < l.length)) : writeN d n (p : Int) l = doN d n ⟨0, p, l⟩ := by unfold writeN; rw [if_neg (by omega), if_neg h2]; rfl

set_option maxRecDepth 100000 in
set_option maxHeartbeats 2000000 in
theorem write_any {h : Heap} {d : Nat} {r : RD} {E : Nat → Prop} {n : List UInt8} {F2 E2 : Nat → Prop} {z : Int} {a : Option Addr} {c : Nat} {l : List UInt8} (ok : Hp h (dskI d r).F [dskI d r] [bysI E r.fs, rdI F2 E2 (a, l.length, c) l] h) (hk : DkOk r.abs) (hcg : r.chg < 1000000000) (hz : -9223372036854775808 ≤ z ∧ z ≤ 9223372036854775807) :
    HC Try.prog 29 #[.pointer (some ⟨d, 0, none⟩), .string (BA n), .int .i64 z, .slice a l.length c] h (fun v h' => ∃ r' E', v = .int .i64 ((writeN r.abs n z l).2 : Int) ∧ r'.abs = (writeN r.abs n z l).1 ∧ DUp h h' d r r' E E') := by
  refine HC.go Try.func29 34 ?_
  refine .seq <| .r <| .w 8 .asI <| .nil ?_
  refine .seq <| .seq <| .r <| .w 10 .mvP <| .w 11 .mvT <| .w 12 .mvI <| .a' 13 (.lit [.tmp 12] (cs := [.int .i64 z]) T.el101 T.sz3 T.zr3 ok ⟨rfl, trivial⟩) ?_
  rintro _ η1 ⟨pb1, rfl, ok, xe⟩
  refine .k 14 .func (wrong_any (d := d) (r := r) (n := n) (dsk_parts (ok.m1)).1 (a := some ⟨pb1, 0, none⟩) (c := 1) (l := [z]) (RdL.ofCapI ok.m0)) <| .w 9 .asI <| .nil ?_
  refine .seq <| .r <| .w 15 .mvI <| .w 16 .neq <| .nil ?_
  refine .cd (fun C0 => ?_) (fun C0 => ?_)
  · --
    refine .seq <| .r <| .w 17 .mvI <| .w 8 .asI <| .nil ?_
    refine .ret ⟨.int .i64 (wrongN r.abs n [z] : Int), Res.one rfl rfl, ⟨r, E, (by rw [write_w C0] <;> rfl), (by rw [write_w C0] <;> rfl), (ok.n1).k1.up fun _ h => .inl h⟩⟩
  have hw0 : wrongN r.abs n [z] = 0 := by omega
  obtain ⟨p, rfl⟩ : ∃ p : Nat, z = (p : Int) := ⟨z.toNat, by have := (wrongN_ok hw0).2.2.1 z (by simp); omega⟩
  have ok := (ok).tM
  refine .skip <| .seq <| .seq <| .r <| .w 18 .mvI <| .w 19 .gtr <| .w 20 .mvB <| .sd (fun G20 => ?_) (fun G20 => ?_)
  ·
    refine .x 21 <| .x 22 <| .x 23 <| .x 24 <| .x 25 <| .w 26 .pkt <| .nil ?_
    refine .ct <| .seq <| .r <| .w 8 .asI <| .nil ?_
    refine .ret ⟨.int .i64 5, Res.one rfl rfl, ⟨r, E, (by rw [write_f hw0 (by omega)] <;> rfl), (by rw [write_f hw0 (by omega)] <;> rfl), (ok).k1.up fun _ h => .inl h⟩⟩
  refine .w 21 .mvS <| .w 22 (.len T.el22) <| .w 23 .mvI <| .w 24 .sub <| .w 25 .gtr <| .w 26 .pkf <| .nil ?_
  refine .cd (fun C1 => ?_) (fun C1 => ?_)
  · --
    refine .seq <| .r <| .w 8 .asI <| .nil ?_
    refine .ret ⟨.int .i64 5, Res.one rfl rfl, ⟨r, E, (by rw [write_f hw0 (by omega)] <;> rfl), (by rw [write_f hw0 (by omega)] <;> rfl), (ok).k1.up fun _ h => .inl h⟩⟩
  refine .skip <| .seq <| .r <| .w 27 .mvP <| .w 28 .mvT <| .w 29 .mvI <| .w 30 .mvS <| ?_
  have hsy := ok.chg.size
  refine .c' 31 .func (bclone_any (a := a) (c := c) (l := l) ok.r1 (by omega)) ?_
  rintro _ η2 own
  obtain ⟨ya1, yc1, rfl⟩ := own.formB
  have ok := ok.own own
  have hyf := own.fresh
  have ok := (ok.frzB rfl).f1.f1.byX
  refine .w 32 (.bd #[.int .i64 0, .int .i64 (p : Int), .slice ya1 ((l).length) yc1] T.zr117 T.pl117 rfl) <| .c' 33 .func (do_any (d := d) (r := r) (E := fun j => E j ∨ blkC (sv (ya1, (l).length, yc1)) j) (n := n) (kind := 0) (pos := p) (ba := ya1) (bc := yc1) (bl := l) (ok).loc1 hk hcg ok.r1 ⟨by simp, by simp only; omega⟩) ?_
  rintro _ η3 ⟨rdk1, Edk1, rfl, hadk1, updk1⟩
  have hszdk1 := ok.chg.size
  have ok := (ok).dsk (d := d) (r := r) updk1
  refine .w 8 .asI <| .nil ?_
  refine .ret ⟨.int .i64 ((doN r.abs n ⟨0, p, l⟩).2 : Int), Res.one rfl rfl, ⟨rdk1, Edk1, by rw [write_d hw0 (by omega)], by rw [write_d hw0 (by omega)]; exact hadk1, (ok).k1.up fun j hj => (updk1.new j hj).elim (fun h => h.imp id fun h => Nat.le_trans hsy (hyf j h)) fun h => .inr (Nat.le_trans hszdk1 h)⟩⟩

theorem trunc_w {d : Dk} {n : List UInt8} {z : Int} (h : ¬ (wrongN d n [z] : Int) = 0) : truncN d n z = (d, wrongN d n [z]) := by unfold truncN; rw [if_pos (by omega)]
theorem trunc_n {d : Dk} {n : List UInt8} {z : Int} (h : wrongN d n [z] = 0) (h1 : thereN d n = false) : truncN d n z = (d, 4) := by unfold truncN; rw [if_neg (by omega), if_pos h1]
theorem trunc_f {d : Dk} {n : List UInt8} {z : Int} (h : wrongN d n [z] = 0) (h1 : thereN d n = true) (h2 : 16777216 < z) : truncN d n z = (d, 5) := by unfold truncN; rw [if_neg (by omega), if_neg (by rw [h1]; decide), if_pos h2]
theorem trunc_d {d : Dk} {n : List UInt8} {p : Nat} (h : wrongN d n [(p : Int)] = 0) (h1 : thereN d n = true) (h2 : ¬ 16777216 < (p : Int)) : truncN d n (p : Int) = doN d n ⟨1, p, []⟩ := by unfold truncN; rw [if_neg (by omega), if_neg (by rw [h1]; decide), if_neg h2]; rfl
theorem rem_w {d : Dk} {n : List UInt8} (h : ¬ (wrongN d n [] : Int) = 0) : removeN d n = (d, wrongN d n []) := by unfold removeN; rw [if_pos (by omega)]
theorem rem_n {d : Dk} {n : List UInt8} (h : wrongN d n [] = 0) (h1 : thereN d n = false) : removeN d n = (d, 4) := by unfold removeN; rw [if_neg (by omega), if_pos h1]
theorem rem_d {d : Dk} {n : List UInt8} (h : wrongN d n [] = 0) (h1 : thereN d n = true) : removeN d n = doN d n ⟨2, 0, []⟩ := by unfold removeN; rw [if_neg (by omega), if_neg (by rw [h1]; decide)]
theorem sync_w {d : Dk} {n : List UInt8} (h : ¬ (wrongN d n [] : Int) = 0) : syncN d n = (d, wrongN d n []) := by unfold syncN; rw [if_pos (by omega)]
theorem sync_n {d : Dk} {n : List UInt8} (h : wrongN d n [] = 0) (h1 : d.fs n = none) : syncN d n = (d, 4) := by unfold syncN; rw [if_neg (by omega), h1]
theorem sync_0 {d : Dk} {n : List UInt8} {f : Fl} (h : wrongN d n [] = 0) (h1 : d.fs n = some f) (h2 : f.here = false ∧ f.opn = []) : syncN d n = (d, 4) := by unfold syncN; rw [if_neg (by omega), h1]; simp only; rw [if_pos h2]
theorem sync_p {d : Dk} {n : List UInt8} {f : Fl} (h : wrongN d n [] = 0) (h1 : d.fs n = some f) (h2 : ¬ (f.here = false ∧ f.opn = [])) (h3 : d.left = 0) : syncN d n = powerN d := by unfold syncN; rw [if_neg (by omega), h1]; simp only; rw [if_neg h2, if_pos h3]
theorem sync_d {d : Dk} {n : List UInt8} {f : Fl} (h : wrongN d n [] = 0) (h1 : d.fs n = some f) (h2 : ¬ (f.here = false ∧ f.opn = [])) (h3 : ¬ d.left = 0) : syncN d n = (⟨put1 d.fs n (settleF f), d.dark, if 0 < d.left then d.left - 1 else d.left, d.chg + 1⟩, 0) := by unfold syncN; rw [if_neg (by omega), h1]; simp only; rw [if_neg h2, if_neg h3]

set_option maxRecDepth 100000 in
set_option maxHeartbeats 2000000 in
theorem trunc_any {h : Heap} {d : Nat} {r : RD} {E : Nat → Prop} {n : List UInt8} {z : Int} (ok : Hp h (dskI d r).F [dskI d r] [bysI E r.fs] h) (hk : DkOk r.abs) (hcg : r.chg < 1000000000) (hz : -9223372036854775808 ≤ z ∧ z ≤ 9223372036854775807) :
    HC Try.prog 32 #[.pointer (some ⟨d, 0, none⟩), .string (BA n), .int .i64 z] h (fun v h' => ∃ r' E', v = .int .i64 ((truncN r.abs n z).2 : Int) ∧ r'.abs = (truncN r.abs n z).1 ∧ DUp h h' d r r' E E') := by
  refine HC.go Try.func32 29 ?_
  refine .seq <| .r <| .w 6 .asI <| .nil ?_
  refine .seq <| .seq <| .r <| .w 8 .mvP <| .w 9 .mvT <| .w 10 .mvI <| .a' 11 (.lit [.tmp 10] (cs := [.int .i64 z]) T.el101 T.sz3 T.zr3 ok ⟨rfl, trivial⟩) ?_
  rintro _ η1 ⟨pb1, rfl, ok, xe⟩
  refine .k 12 .func (wrong_any (d := d) (r := r) (n := n) (dsk_parts (ok.m1)).1 (a := some ⟨pb1, 0, none⟩) (c := 1) (l := [z]) (RdL.ofCapI ok.m0)) <| .w 7 .asI <| .nil ?_
  refine .seq <| .r <| .w 13 .mvI <| .w 14 .neq <| .nil ?_
  refine .cd (fun C0 => ?_) (fun C0 => ?_)
  · --
    refine .seq <| .r <| .w 15 .mvI <| .w 6 .asI <| .nil ?_
    refine .ret ⟨.int .i64 (wrongN r.abs n [z] : Int), Res.one rfl rfl, ⟨r, E, (by rw [trunc_w C0] <;> rfl), (by rw [trunc_w C0] <;> rfl), (ok.n1).k1.up fun _ h => .inl h⟩⟩
  have hw0 : wrongN r.abs n [z] = 0 := by omega
  obtain ⟨p, rfl⟩ : ∃ p : Nat, z = (p : Int) := ⟨z.toNat, by have := (wrongN_ok hw0).2.2.1 z (by simp); omega⟩
  have ok := (ok).tM
  refine .skip <| .seq <| .block fun K0 hK0 => .seq <| .r <| .w 17 .mvP <| .w 18 .mvT <| .c' 19 .func (there_any (d := d) (r := r) (n := n) (ok.m0)) ?_
  rintro _ _ ⟨(⟨hnotf1, rfl⟩ | ⟨tf1, hgtf1, hhtf1, rfl⟩), heq⟩
  · --
    obtain rfl := heq.symm
    refine .w 20 (.pEqN T.pt118) <| .w 16 .asB <| .nil ?_
    refine .ct <| .seq <| .r <| .w 6 .asI <| .nil ?_
    refine .ret ⟨.int .i64 4, Res.one rfl rfl, ⟨r, E, (by rw [trunc_n hw0 hnotf1] <;> rfl), (by rw [trunc_n hw0 hnotf1] <;> rfl), (ok).k1.up fun _ h => .inl h⟩⟩
  obtain rfl := heq.symm
  refine .w 20 (.pEqS T.pt118) <| .w 16 .asB <| .nil ?_
  refine .cf <| .seq <| .r <| .w 22 .mvI <| .w 23 .gtr <| .w 21 .asB <| .nil ?_
  refine .cd (fun C2 => ?_) (fun C2 => ?_)
  · --
    refine .seq <| .r <| .w 6 .asI <| .nil ?_
    refine .ret ⟨.int .i64 5, Res.one rfl rfl, ⟨r, E, (by rw [trunc_f hw0 (by rw [there_f hgtf1]; exact hhtf1) C2] <;> rfl), (by rw [trunc_f hw0 (by rw [there_f hgtf1]; exact hhtf1) C2] <;> rfl), (ok).k1.up fun _ h => .inl h⟩⟩
  refine .skip <| .end <| hK0 _ _ <| .seq <| .r <| .w 24 .mvP <| .w 25 .mvT <| .w 26 .mvI <| .w 27 (.bd #[.int .i64 1, .int .i64 (p : Int), .slice none 0 0] T.zr117 T.pl117 rfl) <| .c' 28 .func (do_any (d := d) (r := r) (E := E) (n := n) (kind := 1) (pos := p) (ba := none) (bc := 0) (bl := ([] : List UInt8)) (ok).loc1 hk hcg (RdL.nil _ _ _) ⟨by simp, by simp only [List.length_nil]; omega⟩) ?_
  rintro _ η2 ⟨rdk1, Edk1, rfl, hadk1, updk1⟩
  have hszdk1 := ok.chg.size
  have ok := (ok).dsk (d := d) (r := r) updk1
  refine .w 6 .asI <| .nil ?_
  refine .ret ⟨.int .i64 ((doN r.abs n ⟨1, p, ([] : List UInt8)⟩).2 : Int), Res.one rfl rfl, ⟨rdk1, Edk1, (by rw [trunc_d hw0 (by rw [there_f hgtf1]; exact hhtf1) C2] <;> rfl), (by rw [trunc_d hw0 (by rw [there_f hgtf1]; exact hhtf1) C2]; exact hadk1), (ok).k1.up fun j hj => (updk1.new j hj).elim .inl fun h => .inr (Nat.le_trans hszdk1 h)⟩⟩

set_option maxRecDepth 100000 in
set_option maxHeartbeats 2000000 in
theorem remove_any {h : Heap} {d : Nat} {r : RD} {E : Nat → Prop} {n : List UInt8} (ok : Hp h (dskI d r).F [dskI d r] [bysI E r.fs] h) (hk : DkOk r.abs) (hcg : r.chg < 1000000000) :
    HC Try.prog 76 #[.pointer (some ⟨d, 0, none⟩), .string (BA n)] h (fun v h' => ∃ r' E', v = .int .i64 ((removeN r.abs n).2 : Int) ∧ r'.abs = (removeN r.abs n).1 ∧ DUp h h' d r r' E E') := by
  refine HC.go Try.func76 20 ?_
  refine .seq <| .r <| .w 4 .asI <| .nil ?_
  refine .seq <| .seq <| .r <| .w 6 .mvP <| .w 7 .mvT <| .k 8 .func (wrong_any (d := d) (r := r) (n := n) (dsk_parts (ok.m0)).1 (a := none) (c := 0) (l := ([] : List Int)) (RdL.nil _ none_ none_)) <| .w 5 .asI <| .nil ?_
  refine .seq <| .r <| .w 9 .mvI <| .w 10 .neq <| .nil ?_
  refine .cd (fun C0 => ?_) (fun C0 => ?_)
  · --
    refine .seq <| .r <| .w 11 .mvI <| .w 4 .asI <| .nil ?_
    refine .ret ⟨.int .i64 (wrongN r.abs n ([] : List Int) : Int), Res.one rfl rfl, ⟨r, E, (by rw [rem_w C0] <;> rfl), (by rw [rem_w C0] <;> rfl), (ok).k1.up fun _ h => .inl h⟩⟩
  have hw0 : wrongN r.abs n [] = 0 := by omega
  refine .skip <| .seq <| .seq <| .r <| .w 12 .mvP <| .w 13 .mvT <| .c' 14 .func (there_any (d := d) (r := r) (n := n) (ok.m0)) ?_
  rintro _ _ ⟨(⟨hnotf1, rfl⟩ | ⟨tf1, hgtf1, hhtf1, rfl⟩), heq⟩
  · --
    obtain rfl := heq.symm
    refine .w 15 (.pEqN T.pt118) <| .nil ?_
    refine .ct <| .seq <| .r <| .w 4 .asI <| .nil ?_
    refine .ret ⟨.int .i64 4, Res.one rfl rfl, ⟨r, E, (by rw [rem_n hw0 hnotf1] <;> rfl), (by rw [rem_n hw0 hnotf1] <;> rfl), (ok).k1.up fun _ h => .inl h⟩⟩
  obtain rfl := heq.symm
  refine .w 15 (.pEqS T.pt118) <| .nil ?_
  refine .cf <| .skip <| .seq <| .r <| .w 16 .mvP <| .w 17 .mvT <| .w 18 (.bd #[.int .i64 2, .int .i64 0, .slice none 0 0] T.zr117 T.pl117 rfl) <| .c' 19 .func (do_any (d := d) (r := r) (E := E) (n := n) (kind := 2) (pos := 0) (ba := none) (bc := 0) (bl := ([] : List UInt8)) (ok).loc1 hk hcg (RdL.nil _ _ _) ⟨by simp, by simp⟩) ?_
  rintro _ η1 ⟨rdk1, Edk1, rfl, hadk1, updk1⟩
  have hszdk1 := ok.chg.size
  have ok := (ok).dsk (d := d) (r := r) updk1
  refine .w 4 .asI <| .nil ?_
  refine .ret ⟨.int .i64 ((doN r.abs n ⟨2, 0, ([] : List UInt8)⟩).2 : Int), Res.one rfl rfl, ⟨rdk1, Edk1, (by rw [rem_d hw0 (by rw [there_f hgtf1]; exact hhtf1)] <;> rfl), (by rw [rem_d hw0 (by rw [there_f hgtf1]; exact hhtf1)]; exact hadk1), (ok).k1.up fun j hj => (updk1.new j hj).elim .inl fun h => .inr (Nat.le_trans hszdk1 h)⟩⟩

set_option maxRecDepth 100000 in
set_option maxHeartbeats 2000000 in
theorem sync_any {h : Heap} {d : Nat} {r : RD} {E : Nat → Prop} {n : List UInt8} (ok : Hp h (dskI d r).F [dskI d r] [bysI E r.fs] h) (hk : DkOk r.abs) (hcg : r.chg < 1000000000) :
    HC Try.prog 37 #[.pointer (some ⟨d, 0, none⟩), .string (BA n)] h (fun v h' => ∃ r' E', v = .int .i64 ((syncN r.abs n).2 : Int) ∧ r'.abs = (syncN r.abs n).1 ∧ DUp h h' d r r' E E') := by
  refine HC.go Try.func37 46 ?_
  refine .seq <| .r <| .w 4 .asI <| .nil ?_
  refine .seq <| .seq <| .r <| .w 8 .mvP <| .w 9 .mvT <| .k 10 .func (wrong_any (d := d) (r := r) (n := n) (dsk_parts (ok.m0)).1 (a := none) (c := 0) (l := ([] : List Int)) (RdL.nil _ none_ none_)) <| .w 5 .asI <| .nil ?_
  refine .seq <| .r <| .w 11 .mvI <| .w 12 .neq <| .nil ?_
  refine .cd (fun C0 => ?_) (fun C0 => ?_)
  · --
    refine .seq <| .r <| .w 13 .mvI <| .w 4 .asI <| .nil ?_
    refine .ret ⟨.int .i64 (wrongN r.abs n ([] : List Int) : Int), Res.one rfl rfl, ⟨r, E, (by rw [sync_w C0] <;> rfl), (by rw [sync_w C0] <;> rfl), (ok).k1.up fun _ h => .inl h⟩⟩
  have hw0 : wrongN r.abs n [] = 0 := by omega
  refine .skip <| .seq <| ?_
  obtain ⟨hd1, hd2, hd3, hd4⟩ := dsk_parts (ok.m0)
  refine .r <| .w 14 .mvP <| .w 15 .nil <| .w 16 (.fa T.fd113_0) <| .w 17 (.ldx T.ag111 hd1) <| .w 18 .mvT <| .w 19 (.lk KV.ba n (v := .pointer (ptrN (bget r.fs n))) T.mp111 (stB_iff T.st9) T.zr118 hd2 (by exact ents_getD)) <| .w 6 .asP <| .nil ?_
  refine .seq <| .seq <| .r <| .w 20 .mvP <| .w 21 (.pEq T.pt118) <| .w 22 .mvB <| .spl (fun G22 => ?_) (fun G22 => ?_)
  ·
    refine .x 23 <| .x 24 <| .x 25 <| .x 26 <| .x 27 <| .x 28 <| .x 29 <| .x 30 <| .x 31 <| .x 32 <| .x 33 <| .x 34 <| .x 35 <| .w 36 .pkt <| .nil ?_
    refine .ct <| .seq <| .r <| .w 4 .asI <| .nil ?_
    refine .ret ⟨.int .i64 4, Res.one rfl rfl, ⟨r, E, (by rw [sync_n hw0 (by simp only [RD.abs]; cases hb : bget r.fs n with | none => rfl | some x => (rw [hb] at G22; simp [ptrN] at G22))] <;> rfl), (by rw [sync_n hw0 (by simp only [RD.abs]; cases hb : bget r.fs n with | none => rfl | some x => (rw [hb] at G22; simp [ptrN] at G22))] <;> rfl), (ok).k1.up fun _ h => .inl h⟩⟩
  obtain ⟨f, hg⟩ : ∃ f0, bget r.fs n = some f0 := by (cases hb : bget r.fs n with | none => (rw [hb] at G22; simp [ptrN] at G22) | some x => exact ⟨x, rfl⟩)
  rw [hg]
  simp only [ptrN, Option.map_some]
  have hfb := hd4 n f hg
  refine .w 23 .mvP <| .w 24 .nil <| .w 25 (.fa T.fd122_2) <| .w 26 (.ldx T.ag4 hfb) <| .w 27 .not <| .w 28 .mvB <| .spl (fun G28 => ?_) (fun G28 => ?_)
  ·
    refine .w 29 .mvP <| .w 30 .nil <| .w 31 (.fa T.fd122_4) <| .w 32 (.ldx T.ag120 hfb) <| .w 33 (.len T.el120) <| .w 34 .eql <| .w 35 .pkt <| .w 36 .pkf <| .nil ?_
    refine .cd (fun C1 => ?_) (fun C1 => ?_)
    · --
      refine .seq <| .r <| .w 4 .asI <| .nil ?_
      refine .ret ⟨.int .i64 4, Res.one rfl rfl, ⟨r, E, (by rw [sync_0 hw0 (show r.abs.fs n = some f.abs by simp [RD.abs, hg]) ⟨by show f.here = false; simpa using G28, by have h2 : f.ol = [] := List.eq_nil_of_length_eq_zero (by omega); simp [RF.abs, h2]⟩] <;> rfl), (by rw [sync_0 hw0 (show r.abs.fs n = some f.abs by simp [RD.abs, hg]) ⟨by show f.here = false; simpa using G28, by have h2 : f.ol = [] := List.eq_nil_of_length_eq_zero (by omega); simp [RF.abs, h2]⟩] <;> rfl), (ok).k1.up fun _ h => .inl h⟩⟩
    have hne : ¬ (f.abs.here = false ∧ f.abs.opn = []) := by rintro ⟨_, h1⟩; exact absurd (show f.ol = [] by simpa [RF.abs] using h1) (fun h2 => C1 (by rw [h2]; rfl))
    refine .skip <| .seq <| .seq <| .r <| .w 37 .mvP <| .c' 38 .func (power_any (ok).loc0 hk hcg) ?_
    rintro _ η1 ⟨rfl, q⟩
    have ok := (ok).lift1 q
    refine .w 7 .asI <| .nil ?_
    refine .seq <| .r <| .w 39 .mvI <| .w 40 .neq <| .nil ?_
    refine .cd (fun C2 => ?_) (fun C2 => ?_)
    · --
      have hp0 : r.left = 0 := by by_cases h : r.left = 0; exact h; exact absurd (by rw [powerR_1 h]; rfl) C2
      refine .seq <| .r <| .w 41 .mvI <| .w 4 .asI <| .nil ?_
      refine .ret ⟨.int .i64 ((powerR r).2 : Int), Res.one rfl rfl, ⟨(powerR r).1, E, (by rw [sync_p hw0 (show r.abs.fs n = some f.abs by simp [RD.abs, hg]) hne hp0, (powerR_abs r).2]), (by rw [sync_p hw0 (show r.abs.fs n = some f.abs by simp [RD.abs, hg]) hne hp0, (powerR_abs r).1]), (by rw [powerR_fs]; exact ok.k1 : Hp _ _ [dskI d (powerR r).1] [bysI E (powerR r).1.fs] _).up fun _ h => .inl h⟩⟩
    have hpl : ¬ r.left = 0 := fun h => by rw [powerR_0 h] at C2; exact C2 (by simp)
    have ok := ok
    rw [powerR_1 hpl] at ok
    refine .skip <| .seq <| .r <| .w 42 .mvP <| .w 43 .mvT <| .w 44 .mvP <| .c' 45 .func (settle_any (d := d) (r := ⟨r.m, r.fs, r.dark, lfR r, r.chg + 1⟩) (E := E) (f := f) (ok).loc1 hg) ?_
    rintro _ η2 ⟨rfl, q⟩
    have ok := (ok).dsk (d := d) (r := ⟨r.m, r.fs, r.dark, lfR r, r.chg + 1⟩) (r' := (settleR ⟨r.m, r.fs, r.dark, lfR r, r.chg + 1⟩ n f)) (E' := E) ⟨q, fun _ h => .inl h⟩
    refine .nil ?_
    refine .seq <| .r <| .w 4 .asI <| .nil ?_
    refine .ret ⟨.int .i64 0, Res.one rfl rfl, ⟨settleR ⟨r.m, r.fs, r.dark, lfR r, r.chg + 1⟩ n f, E, (by rw [sync_d hw0 (show r.abs.fs n = some f.abs by simp [RD.abs, hg]) hne (by exact hpl)]; rfl), (by rw [sync_d hw0 (show r.abs.fs n = some f.abs by simp [RD.abs, hg]) hne (by exact hpl), settleR_abs]; rfl), ok.k1.up fun _ h => .inl h⟩⟩
  have hne : ¬ (f.abs.here = false ∧ f.abs.opn = []) := by rintro ⟨h1, _⟩; have h2 : f.here = false := h1; rw [h2] at G28; cases G28
  refine .x 29 <| .x 30 <| .x 31 <| .x 32 <| .x 33 <| .x 34 <| .w 35 .pkf <| .w 36 .pkf <| .nil ?_
  refine .cf <| .skip <| .seq <| .seq <| .r <| .w 37 .mvP <| .c' 38 .func (power_any (ok).loc0 hk hcg) ?_
  rintro _ η3 ⟨rfl, q⟩
  have ok := (ok).lift1 q
  refine .w 7 .asI <| .nil ?_
  refine .seq <| .r <| .w 39 .mvI <| .w 40 .neq <| .nil ?_
  refine .cd (fun C2 => ?_) (fun C2 => ?_)
  · --
    have hp0 : r.left = 0 := by by_cases h : r.left = 0; exact h; exact absurd (by rw [powerR_1 h]; rfl) C2
    refine .seq <| .r <| .w 41 .mvI <| .w 4 .asI <| .nil ?_
    refine .ret ⟨.int .i64 ((powerR r).2 : Int), Res.one rfl rfl, ⟨(powerR r).1, E, (by rw [sync_p hw0 (show r.abs.fs n = some f.abs by simp [RD.abs, hg]) hne hp0, (powerR_abs r).2]), (by rw [sync_p hw0 (show r.abs.fs n = some f.abs by simp [RD.abs, hg]) hne hp0, (powerR_abs r).1]), (by rw [powerR_fs]; exact ok.k1 : Hp _ _ [dskI d (powerR r).1] [bysI E (powerR r).1.fs] _).up fun _ h => .inl h⟩⟩
  have hpl : ¬ r.left = 0 := fun h => by rw [powerR_0 h] at C2; exact C2 (by simp)
  have ok := ok
  rw [powerR_1 hpl] at ok
  refine .skip <| .seq <| .r <| .w 42 .mvP <| .w 43 .mvT <| .w 44 .mvP <| .c' 45 .func (settle_any (d := d) (r := ⟨r.m, r.fs, r.dark, lfR r, r.chg + 1⟩) (E := E) (f := f) (ok).loc1 hg) ?_
  rintro _ η4 ⟨rfl, q⟩
  have ok := (ok).dsk (d := d) (r := ⟨r.m, r.fs, r.dark, lfR r, r.chg + 1⟩) (r' := (settleR ⟨r.m, r.fs, r.dark, lfR r, r.chg + 1⟩ n f)) (E' := E) ⟨q, fun _ h => .inl h⟩
  refine .nil ?_
  refine .seq <| .r <| .w 4 .asI <| .nil ?_
  refine .ret ⟨.int .i64 0, Res.one rfl rfl, ⟨settleR ⟨r.m, r.fs, r.dark, lfR r, r.chg + 1⟩ n f, E, (by rw [sync_d hw0 (show r.abs.fs n = some f.abs by simp [RD.abs, hg]) hne (by exact hpl)]; rfl), (by rw [sync_d hw0 (show r.abs.fs n = some f.abs by simp [RD.abs, hg]) hne (by exact hpl), settleR_abs]; rfl), ok.k1.up fun _ h => .inl h⟩⟩

end Go.Proofs.Ytpebbkhainpfaaa
