/- What the chapter's examples tell of logs. Conditions: none. -/
import Derived.Test.YtpebbkhainpfaaaWfRLat
namespace Go.Proofs.Ytpebbkhainpfaaa
open Go Go.HL
theorem take_headN {n salt : Nat} {z : List UInt8} : (headN n salt ++ z).take 20 = headN n salt := List.take_left' (headN_len n salt)
theorem rd4_headN {n salt : Nat} (hn : n < 4294967296) (z : List UInt8) : rdN (headN n salt ++ z) 4 4 = n := by
  have e : headN n salt ++ z = [116, 111, 109, 101] ++ (fixedN n 4 ++ (fixedN salt 8 ++ (sealN ([116, 111, 109, 101] ++ fixedN n 4 ++ fixedN salt 8)).drop 16 ++ z)) := by
    have hd : (sealN ([116, 111, 109, 101] ++ fixedN n 4 ++ fixedN salt 8)).drop 16 = footN ([116, 111, 109, 101] ++ fixedN n 4 ++ fixedN salt 8) := List.drop_left' (by simp [fixedN_len])
    rw [hd]
    simp [headN, sealN, footN]
  rw [e]
  have := rdN_app (x := [116, 111, 109, 101]) (y := fixedN n 4) (z := fixedN salt 8 ++ (sealN ([116, 111, 109, 101] ++ fixedN n 4 ++ fixedN salt 8)).drop 16 ++ z) (k := 4) (fixedN_len n 4)
  rw [show ([116, 111, 109, 101] : List UInt8).length = 4 from rfl] at this
  rw [this, beN_fixed (by simpa using hn)]
theorem rd8_headN {n salt : Nat} (hs : salt < 18446744073709551616) (z : List UInt8) : rdN (headN n salt ++ z) 8 8 = salt := by
  have e : headN n salt ++ z = ([116, 111, 109, 101] ++ fixedN n 4) ++ (fixedN salt 8 ++ ((sealN ([116, 111, 109, 101] ++ fixedN n 4 ++ fixedN salt 8)).drop 16 ++ z)) := by
    have hd : (sealN ([116, 111, 109, 101] ++ fixedN n 4 ++ fixedN salt 8)).drop 16 = footN ([116, 111, 109, 101] ++ fixedN n 4 ++ fixedN salt 8) := List.drop_left' (by simp [fixedN_len])
    rw [hd]
    simp [headN, sealN, footN]
  rw [e]
  have := rdN_app (x := [116, 111, 109, 101] ++ fixedN n 4) (y := fixedN salt 8) (z := (sealN ([116, 111, 109, 101] ++ fixedN n 4 ++ fixedN salt 8)).drop 16 ++ z) (k := 8) (fixedN_len salt 8)
  rw [show ([116, 111, 109, 101] ++ fixedN n 4 : List UInt8).length = 8 by simp [fixedN_len]] at this
  rw [this, beN_fixed (by simpa using hs)]
theorem headOk_headN {n salt : Nat} (hn : n < 4294967296) (hs : salt < 18446744073709551616) (hk : okSz n = true) (z : List UInt8) : headOk (headN n salt ++ z) = true := by
  unfold headOk; rw [rd4_headN hn, rd8_headN hs, take_headN, hk]; simp
theorem firstN_headN {n salt : Nat} (hs : salt < 18446744073709551616) (z : List UInt8) : firstN (headN n salt ++ z) = nextN salt (headN n salt) := by
  unfold firstN; rw [rd8_headN hs, take_headN]
theorem scan_short {b : List UInt8} {s : Sc} (hb : b.length ≤ 20) (h : ScanE b s) : s = scan0 b :=
  h.uniq ⟨.refl _, fun hf => by have h1 : 20 + 16 + rdN b 4 4 ≤ b.length := hf.1; omega⟩
theorem _root_.Go.HL.Hp.accNew {α : Type} [Rep α] {h0 h h' : Heap} {D : Nat → Prop} {M R : List Itm} {e : TypeId} {x : SV} {E : Nat → Prop} {l : List α} (ok : Hp h0 D M R h) (c : Ext h h') (ha : Acc h' e x (none, 0, 0) E l []) (hn : ∀ j, (blkC (sv x) j ∨ E j) → Nw h h' j) : Hp h0 D (accI e x (none, 0, 0) E l [] :: M) R h' :=
  ok.newM c _ ha fun j hj => hn j (hj.elim .inl (·.elim (fun ⟨o, n, c, e⟩ => by cases e) .inr))
theorem _root_.Go.HL.Hp.accFrz {α : Type} [Rep α] {h0 h : Heap} {D : Nat → Prop} {M R : List Itm} {e : TypeId} {x x3 : SV} {E : Nat → Prop} {all l : List α} (ok : Hp h0 D (accI e x x3 E all l :: M) R h) : Hp h0 D M (rdI (blkC (sv x)) E x all :: R) h :=
  (ok.re (rdI (blkC (sv x)) E x all) ok.m0.rd (fun j hj => hj.elim .inl fun h => .inr (.inr h))).frz
def exN : List Fr := [⟨3, 0, []⟩, ⟨5, 0, []⟩, ⟨3, 4, []⟩]
theorem exN_lat : latF exN = [⟨3, 4, []⟩] := by decide
theorem exN_com : latC exN exN.length = 4 := by decide
theorem exN_rd {h : Heap} {b : Nat} (c : Cap h 3 38 (.slice (some ⟨b, 0, none⟩) 3 3) [.int .i64 3, .int .i64 0, .slice none 0 0, .int .i64 5, .int .i64 0, .slice none 0 0, .int .i64 3, .int .i64 4, .slice none 0 0]) : RdL h (blkC (sv (some ⟨b, 0, none⟩, 3, 3))) none_ (some ⟨b, 0, none⟩, 3, 3) exN := by
  have h1 : ∀ z1 z2 : Int, Rep.rd h none_ [.int .i64 z1, .int .i64 z2, .slice none 0 0] (⟨z1, z2, []⟩ : Fr) := fun z1 z2 => ⟨(none, 0, 0), rfl, RdL.nil _ _ _⟩
  exact RdL.of_cap (α := Fr) (css := [[.int .i64 3, .int .i64 0, .slice none 0 0], [.int .i64 5, .int .i64 0, .slice none 0 0], [.int .i64 3, .int .i64 4, .slice none 0 0]]) c (All2.cons (h1 3 0) (All2.cons (h1 5 0) (All2.cons (h1 3 4) All2.nil)))

set_option maxRecDepth 100000 in
set_option maxHeartbeats 2000000 in
theorem live_any {h : Heap} : HC Try.prog 13 #[] h (fun v h' => v = .bool true ∧ Ext h h') := by
  have ok := Hp.nil h none_
  have hk256 : okZ ((256 : Nat) : Int) = true := by decide
  have hro := headOk_headN (n := 256) (salt := 7) (by decide) (by decide) (by decide) []
  have hr4 := rd4_headN (n := 256) (salt := 7) (by decide) []
  rw [List.append_nil] at hro hr4
  have hl20 := headN_len 256 7
  refine HC.go Try.func13 90 ?_
  refine .seq <| .r <| .w 0 .asB <| .nil ?_
  refine .seq <| .r <| .c' 16 .func (start_ok (n := 256) (salt := 7) (by omega) (by omega) (by exact hk256)) ?_
  rintro _ η1 ⟨yw1, rfl, own⟩
  obtain ⟨ya1, yc1, rfl⟩ := own.formB
  have ok := ok.own own
  refine .w 15 .mvU <| .w 17 .ex <| .w 18 .ex <| .w 1 .asS <| .w 2 .asI <| .nil ?_
  refine .seq <| .r <| .w 20 .mvS <| .c' 21 .func (scan_any (a := ya1) (c := yc1) (l := (headN 256 7)) (RdL.ofCapB (v := (ya1, (headN 256 7).length, yc1)) (l := (headN 256 7)) ok.m0) (by first | omega | (simp; done))) ?_
  rintro _ η2 (⟨hlt, rfl, hx⟩ | ⟨hge, hhd, rfl, hx⟩ | ⟨hge, hhd, sc1, sx1, hscsc1, rfl, hx, hr⟩)
  · --
    first | (rw [hro] at hhd; cases hhd) | omega
  · --
    first | (rw [hro] at hhd; cases hhd) | omega
  obtain ⟨asx1, nsx1, csx1⟩ := sx1
  have hnsx1 := hr.n
  have hccsx1 := hr.c
  have hmsx1 := hr.m
  simp only at hnsx1 hccsx1 hmsx1
  subst hnsx1
  have ok := ok.ret hx hr
  obtain rfl := scan_short (by rw [headN_len]; omega) hscsc1
  have hx0 : asx1 = none ∨ True := .inr trivial
  refine .w 19 .mvU <| .w 22 .ex <| .w 23 .ex <| .w 24 .ex <| .w 25 .ex <| .w 26 .ex <| .w 3 .asI <| .w 4 .asS <| .w 5 .asI <| .w 6 .asI <| .w 7 .asI <| .nil ?_
  refine .seq <| .seq <| .r <| .w 27 .mvI <| .w 28 .neq <| .w 29 .mvB <| .w 30 .mvI <| .w 31 .neq <| .w 32 .pkf <| .w 33 .mvB <| .w 34 .mvI <| .w 35 .neq <| .w 36 .pkf <| .w 37 .mvB <| .sd (fun G37 => ?_) (fun G37 => ?_)
  ·
    omega
  refine .w 38 .mvS <| .w 39 (.len T.el24) <| .w 40 .neq <| .w 41 .pkf <| .w 42 .mvB <| .w 43 .mvI <| .w 44 .neq <| .w 45 .pkf <| .w 46 .mvB <| .w 47 .mvS <| .w 48 (.len T.el22) <| .w 49 .neq <| .w 50 .pkf <| .w 51 .mvB <| .sd (fun G51 => ?_) (fun G51 => ?_)
  ·
    omega
  refine .w 52 .mvI <| .w 53 .mvS <| .k 54 .func (first_any (by omega) (a := ya1) (c := yc1) (l := (headN 256 7)) (RdL.ofCapB (v := (ya1, (headN 256 7).length, yc1)) (l := (headN 256 7)) ok.m0)) <| .w 55 .neq <| .w 56 .pkf <| .nil ?_
  refine .cd (fun C0 => ?_) (fun C0 => ?_)
  · --
    exact absurd rfl C0
  refine .skip <| .seq <| .r <| .w 58 (.bd #[.int .i64 3, .int .i64 0, .slice none 0 0] T.zr38 T.pl38 rfl) <| .w 59 (.bd #[.int .i64 5, .int .i64 0, .slice none 0 0] T.zr38 T.pl38 rfl) <| .w 60 (.bd #[.int .i64 3, .int .i64 4, .slice none 0 0] T.zr38 T.pl38 rfl) <| .a' 61 (.lit [.tmp 58, .tmp 59, .tmp 60] (cs := [.int .i64 3, .int .i64 0, .slice none 0 0, .int .i64 5, .int .i64 0, .slice none 0 0, .int .i64 3, .int .i64 4, .slice none 0 0]) T.el24 T.sz38 T.zr38 ok ⟨rfl, rfl, rfl, trivial⟩) ?_
  rintro _ η3 ⟨pb1, rfl, ok, xe⟩
  refine .c' 62 .func (latest_any (a := some ⟨pb1, 0, none⟩) (c := 3) (l := exN) (exN_rd ok.m0) (by decide) (by decide) (by decide)) ?_
  rintro _ η4 ⟨xm, Em, rfl, hx, ha, hnw⟩
  rw [exN_lat] at ha
  rw [exN_com]
  have ok := (ok.accNew hx ha hnw).accFrz
  obtain ⟨am, nm, cm⟩ := xm
  obtain rfl : nm = 1 := ok.r0.n
  have hmc := ok.r0.c
  have hmm := ok.r0.m
  simp only at hmc hmm
  obtain ⟨xb, xd, hfm⟩ := RdL.frs ok.r0
  have ok := ok.d0 (frsI (blkC (sv (am, 1, cm))) Em (am, 1, cm) [⟨3, 4, []⟩] xb xd) hfm
  refine .w 57 .mvU <| .w 63 .ex <| .w 64 .ex <| .w 8 .asS <| .w 9 .asI <| .nil ?_
  refine .seq <| .r <| .c' 66 .func (scan_any (a := none) (c := 0) (l := []) (RdL.nil _ none_ none_) (by first | omega | (simp; done))) ?_
  rintro _ η5 (⟨hlt, rfl, hx⟩ | ⟨hge, hhd, rfl, hx⟩ | ⟨hge, hhd, sc2, sx2, hscsc2, rfl, hx, hr⟩)
  · --
    have ok := ok.ext hx
    refine .w 65 .mvU <| .w 67 .ex <| .w 68 .ex <| .w 69 .ex <| .w 70 .ex <| .w 71 .ex <| .w 10 .asI <| .w 11 .asS <| .w 12 .asI <| .w 13 .asI <| .w 14 .asI <| .nil ?_
    refine .seq <| .r <| .w 72 .mvS <| .w 73 (.len T.el24) <| .w 74 .eql <| .w 75 .mvB <| .w 76 .mvS <| ?_
    obtain ⟨bb1, oo1, rfl, fb1⟩ := ok.r0.pos (by first | omega | (simp; done))
    refine .w 77 (.ix 0 T.el24 T.sz38 (hi := by exact ⟨rfl, Nat.one_pos⟩)) <| .w 78 (.fa T.fd38_1) <| .w 79 (.ld T.ag3 (frs_at (ok.r0).sl (i := 0) (j := 1) (by simp) rfl)) <| .w 80 .eql <| .w 81 .pkt <| .w 82 .mvB <| .sd (fun G82 => ?_) (fun G82 => ?_)
    ·
      refine .w 83 .mvI <| .w 84 .eql <| .w 85 .pkt <| .w 86 .mvB <| .w 87 .mvI <| .w 88 .eql <| .w 89 .pkt <| .w 0 .asB <| .nil ?_
      refine .ret ⟨.bool true, Res.one rfl rfl, ⟨rfl, ok.chg⟩⟩
    exact absurd rfl G82
  · --
    simp at hge
  simp at hge

end Go.Proofs.Ytpebbkhainpfaaa
