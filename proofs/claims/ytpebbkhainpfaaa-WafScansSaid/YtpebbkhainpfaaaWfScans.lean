/- The law WafScans: the program's Scan tells what the document's tells. Conditions: the bytes are readable. -/
import Derived.Test.YtpebbkhainpfaaaWfLive
namespace Go.Proofs.Ytpebbkhainpfaaa
open Go Go.HL

set_option maxRecDepth 100000 in
set_option maxHeartbeats 2000000 in
theorem scans_walk {h : Heap} {F E : Nat → Prop} {a : Option Addr} {c : Nat} {l : List UInt8} (hl : RdL h F E (a, l.length, c) l) :
    HC Try.prog 3 #[.slice a l.length c] h (fun v h' => v = .bool true ∧ Ext h h') := by
  have hc2 := hl.m
  have hc1 : l.length ≤ c := hl.c
  simp only at hc2
  have ok := (Hp.nil h none_).arg hl
  refine HC.go Try.func3 59 ?_
  refine .seq <| .r <| .w 2 .asB <| .nil ?_
  refine .seq <| .seq <| .r <| .w 13 .mvS <| .w 14 (.len T.el22) <| .w 15 .gtr <| .nil ?_
  refine .cd (fun C0 => ?_) (fun C0 => ?_)
  · --
    refine .seq <| .r <| .c' 16 .func live_any ?_
    rintro _ η1 ⟨rfl, hx⟩
    have ok := ok.ext hx
    refine .w 2 .asB <| .nil ?_
    refine .ret ⟨.bool true, Res.one rfl rfl, ⟨rfl, ok.chg⟩⟩
  refine .skip <| .seq <| .r <| .w 18 .mvS <| .c' 19 .func (scan_any (a := a) (c := c) (l := l) ok.r0 (by omega)) ?_
  rintro _ η2 (⟨hlt, rfl, hx⟩ | ⟨hge, hhd, rfl, hx⟩ | ⟨hge, hhd, sc1, sx1, hscsc1, rfl, hx, hr⟩)
  · --
    have ok := ok.ext hx
    refine .w 17 .mvU <| .w 20 .ex <| .w 21 .ex <| .w 22 .ex <| .w 23 .ex <| .w 24 .ex <| .w 3 .asI <| .w 4 .asS <| .w 5 .asI <| .w 6 .asI <| .w 7 .asI <| .nil ?_
    refine .seq <| .r <| .w 26 .mvS <| .c' 27 .func (rscan_any (a := a) (c := c) (l := l) ok.r0 (by omega)) ?_
    rintro _ η3 (⟨hltB, rfl, hx⟩ | ⟨hgeB, hhdB, rfl, hx⟩ | ⟨hgeB, hhdB, sc2, sx2, hscsc2, rfl, hx, hr⟩)
    · --
      have ok := ok.ext hx
      refine .w 25 .mvU <| .w 28 .ex <| .w 29 .ex <| .w 30 .ex <| .w 31 .ex <| .w 32 .ex <| .w 8 .asI <| .w 9 .asS <| .w 10 .asI <| .w 11 .asI <| .w 12 .asI <| .nil ?_
      refine .seq <| .r <| .c' 33 .func live_any ?_
      rintro _ η4 ⟨rfl, hx⟩
      have ok := ok.ext hx
      refine .w 34 .mvB <| .w 35 .mvI <| .w 36 .mvI <| .w 37 .eql <| .w 38 .pkt <| .w 39 .mvB <| .w 40 .mvS <| .w 41 .mvS <| .k 42 .func (fsame_any (a := none) (c := 0) (l := []) (b := none) (d := 0) (l2 := []) (RdL.nil _ none_ none_) (RdL.nil _ none_ none_)) <| .w 43 .pkt <| .w 44 .mvB <| .sd (fun G44 => ?_) (fun G44 => ?_)
      ·
        refine .w 45 .mvI <| .w 46 .mvI <| .w 47 .eql <| .w 48 .pkt <| .w 49 .mvB <| .w 50 .mvI <| .w 51 .mvI <| .w 52 .eql <| .w 53 .pkt <| .w 54 .mvB <| .w 55 .mvI <| .w 56 .mvI <| .w 57 .eql <| .w 58 .pkt <| .w 2 .asB <| .nil ?_
        refine .ret ⟨.bool true, Res.one rfl rfl, ⟨rfl, ok.chg⟩⟩
      first | exact absurd rfl G44 | exact absurd (by rw [heq]) G44
    · --
      first | omega | (rw [hhd] at hhdB; cases hhdB)
    first | omega | (rw [hhd] at hhdB; cases hhdB)
  · --
    have ok := ok.ext hx
    refine .w 17 .mvU <| .w 20 .ex <| .w 21 .ex <| .w 22 .ex <| .w 23 .ex <| .w 24 .ex <| .w 3 .asI <| .w 4 .asS <| .w 5 .asI <| .w 6 .asI <| .w 7 .asI <| .nil ?_
    refine .seq <| .r <| .w 26 .mvS <| .c' 27 .func (rscan_any (a := a) (c := c) (l := l) ok.r0 (by omega)) ?_
    rintro _ η5 (⟨hltB, rfl, hx⟩ | ⟨hgeB, hhdB, rfl, hx⟩ | ⟨hgeB, hhdB, sc3, sx3, hscsc3, rfl, hx, hr⟩)
    · --
      first | omega | (rw [hhd] at hhdB; cases hhdB)
    · --
      have ok := ok.ext hx
      refine .w 25 .mvU <| .w 28 .ex <| .w 29 .ex <| .w 30 .ex <| .w 31 .ex <| .w 32 .ex <| .w 8 .asI <| .w 9 .asS <| .w 10 .asI <| .w 11 .asI <| .w 12 .asI <| .nil ?_
      refine .seq <| .r <| .c' 33 .func live_any ?_
      rintro _ η6 ⟨rfl, hx⟩
      have ok := ok.ext hx
      refine .w 34 .mvB <| .w 35 .mvI <| .w 36 .mvI <| .w 37 .eql <| .w 38 .pkt <| .w 39 .mvB <| .w 40 .mvS <| .w 41 .mvS <| .k 42 .func (fsame_any (a := none) (c := 0) (l := []) (b := none) (d := 0) (l2 := []) (RdL.nil _ none_ none_) (RdL.nil _ none_ none_)) <| .w 43 .pkt <| .w 44 .mvB <| .sd (fun G44 => ?_) (fun G44 => ?_)
      ·
        refine .w 45 .mvI <| .w 46 .mvI <| .w 47 .eql <| .w 48 .pkt <| .w 49 .mvB <| .w 50 .mvI <| .w 51 .mvI <| .w 52 .eql <| .w 53 .pkt <| .w 54 .mvB <| .w 55 .mvI <| .w 56 .mvI <| .w 57 .eql <| .w 58 .pkt <| .w 2 .asB <| .nil ?_
        refine .ret ⟨.bool true, Res.one rfl rfl, ⟨rfl, ok.chg⟩⟩
      first | exact absurd rfl G44 | exact absurd (by rw [heq]) G44
    first | omega | (rw [hhd] at hhdB; cases hhdB)
  obtain ⟨asx1, nsx1, csx1⟩ := sx1
  have hnsx1 := hr.n
  have hccsx1 := hr.c
  have hmsx1 := hr.m
  simp only at hnsx1 hccsx1 hmsx1
  subst hnsx1
  have ok := ok.ret hx hr
  refine .w 17 .mvU <| .w 20 .ex <| .w 21 .ex <| .w 22 .ex <| .w 23 .ex <| .w 24 .ex <| .w 3 .asI <| .w 4 .asS <| .w 5 .asI <| .w 6 .asI <| .w 7 .asI <| .nil ?_
  refine .seq <| .r <| .w 26 .mvS <| .c' 27 .func (rscan_any (a := a) (c := c) (l := l) ok.r1 (by omega)) ?_
  rintro _ η7 (⟨hltB, rfl, hx⟩ | ⟨hgeB, hhdB, rfl, hx⟩ | ⟨hgeB, hhdB, sc4, sx4, hscsc4, rfl, hx, hr⟩)
  · --
    first | omega | (rw [hhd] at hhdB; cases hhdB)
  · --
    first | omega | (rw [hhd] at hhdB; cases hhdB)
  obtain ⟨asx4, nsx4, csx4⟩ := sx4
  have hnsx4 := hr.n
  have hccsx4 := hr.c
  have hmsx4 := hr.m
  simp only at hnsx4 hccsx4 hmsx4
  subst hnsx4
  have ok := ok.ret hx hr
  have heq := hscsc1.uniq hscsc4
  refine .w 25 .mvU <| .w 28 .ex <| .w 29 .ex <| .w 30 .ex <| .w 31 .ex <| .w 32 .ex <| .w 8 .asI <| .w 9 .asS <| .w 10 .asI <| .w 11 .asI <| .w 12 .asI <| .nil ?_
  refine .seq <| .r <| .c' 33 .func live_any ?_
  rintro _ η8 ⟨rfl, hx⟩
  have ok := ok.ext hx
  refine .w 34 .mvB <| .w 35 .mvI <| .w 36 .mvI <| .w 37 .eql <| .w 38 .pkt <| .w 39 .mvB <| .sd (fun G39 => ?_) (fun G39 => ?_)
  ·
    refine .w 40 .mvS <| .w 41 .mvS <| .k 42 .func (fsame_any (a := asx1) (c := csx1) (l := sc1.l) (b := asx4) (d := csx4) (l2 := sc4.l) ok.r1 ok.r0) <| .w 43 .pkt <| .w 44 .mvB <| .sd (fun G44 => ?_) (fun G44 => ?_)
    ·
      refine .w 45 .mvI <| .w 46 .mvI <| .w 47 .eql <| .w 48 .pkt <| .w 49 .mvB <| .sd (fun G49 => ?_) (fun G49 => ?_)
      ·
        refine .w 50 .mvI <| .w 51 .mvI <| .w 52 .eql <| .w 53 .pkt <| .w 54 .mvB <| .sd (fun G54 => ?_) (fun G54 => ?_)
        ·
          refine .w 55 .mvI <| .w 56 .mvI <| .w 57 .eql <| .w 58 .pkt <| .w 2 .asB <| .nil ?_
          refine .ret ⟨.bool true, Res.one rfl rfl, ⟨rfl, ok.chg⟩⟩
        first | exact absurd rfl G54 | exact absurd (by rw [heq]) G54
      first | exact absurd rfl G49 | exact absurd (by rw [heq]) G49
    first | exact absurd rfl G44 | exact absurd (by rw [heq]) G44
  first | exact absurd rfl G39 | exact absurd (by rw [heq]) G39

theorem scans_row {h : Heap} {a : Option Addr} {n c : Nat} {l : List UInt8} (hb : Bytes h (.slice a n c) l) : HC Try.prog 3 #[.slice a n c] h (fun v h' => v = .bool true ∧ Ext h h') := by
  have r := RdL.ofBytes (x := (a, n, c)) (E := none_) hb
  obtain rfl : n = l.length := r.n
  exact scans_walk r
end Go.Proofs.Ytpebbkhainpfaaa
