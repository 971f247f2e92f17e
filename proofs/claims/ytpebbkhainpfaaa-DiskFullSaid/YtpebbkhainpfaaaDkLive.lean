/- What the chapter's examples tell of a disk. Conditions: none. -/
import Derived.Test.YtpebbkhainpfaaaDkCr
namespace Go.Proofs.Ytpebbkhainpfaaa
open Go Go.HL
theorem write_chg {d : Dk} {n : List UInt8} {z : Int} {l : List UInt8} : (writeN d n z l).1.chg ≤ d.chg + 1 := by
  unfold writeN doN powerN; repeat' split
  all_goals (simp only; omega)
theorem sync_chg {d : Dk} {n : List UInt8} : (syncN d n).1.chg ≤ d.chg + 1 := by
  unfold syncN powerN; repeat' split
  all_goals (simp only; omega)
theorem remove_chg {d : Dk} {n : List UInt8} : (removeN d n).1.chg ≤ d.chg + 1 := by
  unfold removeN doN powerN; repeat' split
  all_goals (simp only; omega)
theorem trunc_chg {d : Dk} {n : List UInt8} {z : Int} : (truncN d n z).1.chg ≤ d.chg + 1 := by
  unfold truncN doN powerN; repeat' split
  all_goals (simp only; omega)
def lv1 : Dk := (writeN newN [102] 0 [1, 2]).1
def lv2 : Dk := (syncN lv1 [102]).1
def lv3 : Dk := (writeN lv2 [102] 1 [3, 4]).1
def lv4 : Dk := crashN lv3 [[102]] [128]
def lv5 : Dk := cutN lv4 0
def lv6 : Dk := (writeN lv5 [102] 0 []).1
theorem keys_one {fs : List UInt8 → Option Fl} {S : List (List UInt8)} {n : List UInt8} (k : Keys fs S) (h : ∀ m, (fs m).isSome = true ↔ m = n) : S = [n] := by
  have h1 : ∀ m ∈ S, m = n := fun m hm => (h m).1 ((k.iff m).1 hm)
  have h2 : n ∈ S := (k.iff n).2 ((h n).2 rfl)
  match S, k.up, h1, h2 with
  | [a], _, h1, _ => rw [h1 a (by simp)]
  | a :: b :: l, u, h1, _ =>
    have h3 := (List.pairwise_cons.1 u).1 b (by simp)
    rw [h1 a (by simp), h1 b (by simp)] at h3
    exact absurd h3 (List.lt_irrefl _)
theorem lv3_keys {S : List (List UInt8)} (k : Keys lv3.fs S) : S = [[102]] := keys_one k fun m => by
  have h : lv3.fs = put1 (put1 (put1 (fun _ => none) [102] (lv1.fs [102])) [102] (lv2.fs [102])) [102] (lv3.fs [102]) := by
    funext m
    by_cases hm : m = [102]
    · subst hm; simp [put1]
    · simp only [put1, hm, if_false]
      show put1 _ _ _ m = _
      rw [put1_ne hm]
      show put1 _ _ _ m = _
      rw [put1_ne hm]
      show put1 _ _ _ m = _
      rw [put1_ne hm]
      rfl
  rw [h]
  by_cases hm : m = [102]
  · subst hm; simp only [put1_at]; exact ⟨fun _ => trivial, fun _ => rfl⟩
  · rw [put1_ne hm, put1_ne hm, put1_ne hm]; simp [hm]

set_option maxRecDepth 100000 in
set_option maxHeartbeats 2000000 in
theorem live_any {h : Heap} : HC Try.prog 30 #[] h (fun v h' => v = .bool true ∧ Ext h h') := by
  have ok := Hp.nil h none_
  refine HC.go Try.func30 122 ?_
  refine .seq <| .r <| .w 0 .asB <| .nil ?_
  refine .seq <| .r <| .c' 13 .func new_any ?_
  rintro _ η1 ⟨dnd1, rnd1, rfl, hand1, q⟩
  have ok := ok.addE q (fun _ f => f.elim)
  have hknd1 : DkOk rnd1.abs := by rw [hand1]; exact newN_ok
  have hcnd1 : rnd1.chg = 0 := congrArg Dk.chg hand1
  refine .w 1 .asP <| .nil ?_
  refine .seq <| .seq <| .r <| .w 14 .mvP <| .w 15 (.pEqS T.pt57) <| .nil ?_
  refine .cf <| .skip <| .seq <| .r <| .w 16 .mvP <| .a' 17 (.lit [.const (.int .u8 1), .const (.int .u8 2)] (cs := [.int .u8 1, .int .u8 2]) T.el22 T.sz5 T.zr5 ok ⟨rfl, rfl, trivial⟩) ?_
  rintro _ η2 ⟨pb1, rfl, ok, xe⟩
  have ok := ok.cx (ys := ([1, 2] : List UInt8).map bv) rfl
  have ok := (ok).frzB (l := [1, 2]) rfl
  refine .c' 18 .func (write_any (d := dnd1) (r := rnd1) (E := none_) (n := ([102] : List UInt8)) (z := 0) (a := some ⟨pb1, 0, none⟩) (c := 2) (l := [1, 2]) (ok.f1).loc2 hknd1 (by omega) ⟨by omega, by omega⟩) ?_
  rintro _ η3 ⟨rw1, Ew1, rfl, haw1, upw1⟩
  have ok := (ok.f1).dsk (d := dnd1) (r := rnd1) upw1
  have hkw1 : DkOk rw1.abs := by rw [haw1]; exact (hknd1).write
  have hcw1 : rw1.chg ≤ rnd1.chg + 1 := Int.le_trans (Int.le_of_eq (congrArg Dk.chg haw1)) write_chg
  have hvw1 : (writeN rnd1.abs ([102] : List UInt8) 0 [1, 2]).2 = 0 := by rw [hand1]; rfl
  rw [hvw1]
  have hbw1 : rw1.abs = lv1 := haw1.trans (by rw [hand1]; rfl)
  refine .w 19 .mvP <| .c' 20 .func (sync_any (d := dnd1) (r := rw1) (E := Ew1) (n := ([102] : List UInt8)) (ok).loc1 hkw1 (by omega)) ?_
  rintro _ η4 ⟨rw2, Ew2, rfl, haw2, upw2⟩
  have ok := (ok).dsk (d := dnd1) (r := rw1) upw2
  have hkw2 : DkOk rw2.abs := by rw [haw2]; exact (hkw1).sync
  have hcw2 : rw2.chg ≤ rw1.chg + 1 := Int.le_trans (Int.le_of_eq (congrArg Dk.chg haw2)) sync_chg
  have hvw2 : (syncN rw1.abs ([102] : List UInt8)).2 = 0 := by rw [hbw1]; rfl
  rw [hvw2]
  have hbw2 : rw2.abs = lv2 := haw2.trans (by rw [hbw1]; rfl)
  refine .w 21 .mvP <| .a' 22 (.lit [.const (.int .u8 3), .const (.int .u8 4)] (cs := [.int .u8 3, .int .u8 4]) T.el22 T.sz5 T.zr5 ok ⟨rfl, rfl, trivial⟩) ?_
  rintro _ η5 ⟨pb2, rfl, ok, xe⟩
  have ok := ok.cx (ys := ([3, 4] : List UInt8).map bv) rfl
  have ok := (ok).frzB (l := [3, 4]) rfl
  refine .c' 23 .func (write_any (d := dnd1) (r := rw2) (E := Ew2) (n := ([102] : List UInt8)) (z := 1) (a := some ⟨pb2, 0, none⟩) (c := 2) (l := [3, 4]) (ok.f1).loc2 hkw2 (by omega) ⟨by omega, by omega⟩) ?_
  rintro _ η6 ⟨rw3, Ew3, rfl, haw3, upw3⟩
  have ok := (ok.f1).dsk (d := dnd1) (r := rw2) upw3
  have hkw3 : DkOk rw3.abs := by rw [haw3]; exact (hkw2).write
  have hcw3 : rw3.chg ≤ rw2.chg + 1 := Int.le_trans (Int.le_of_eq (congrArg Dk.chg haw3)) write_chg
  have hvw3 : (writeN rw2.abs ([102] : List UInt8) 1 [3, 4]).2 = 0 := by rw [hbw2]; rfl
  rw [hvw3]
  have hbw3 : rw3.abs = lv3 := haw3.trans (by rw [hbw2]; rfl)
  refine .w 2 .asI <| .w 3 .asI <| .w 4 .asI <| .nil ?_
  refine .seq <| .r <| .w 25 .mvP <| .c' 26 .func (read_anyD (d := dnd1) (r := rw3) (E := Ew3) (n := ([102] : List UInt8)) (y := 0) (z := 9) ((ok).rdo) hkw3 ⟨by omega, by omega⟩ ⟨by omega, by omega⟩) ?_
  rintro _ η7 ⟨w, rfl, own⟩
  have hrd : readN rw3.abs ([102] : List UInt8) 0 9 = (([1, 3, 4] : List UInt8), 0) := by rw [hbw3]; rfl
  rw [hrd] at own
  rw [hrd]
  obtain ⟨ya1, yc1, rfl⟩ := own.formB
  have ok := ok.own own
  refine .w 24 .mvU <| .w 27 .ex <| .w 28 .ex <| .w 5 .asS <| .w 6 .asI <| .nil ?_
  refine .seq <| .r <| .w 29 .mvP <| .a' 30 (.lit [.const (.int .u8 128)] (cs := [.int .u8 128]) T.el22 T.sz5 T.zr5 ok ⟨rfl, trivial⟩) ?_
  rintro _ η8 ⟨pb3, rfl, ok, xe⟩
  have ok := ok.cx (ys := ([128] : List UInt8).map bv) rfl
  have ok := (ok).frzB (l := [128]) rfl
  refine .c' 31 .func (crash_any (d := dnd1) (r := rw3) (E := Ew3) (a := some ⟨pb3, 0, none⟩) (c := 1) (l := [128]) (ok.n1.f1).loc2 hkw3 (by omega)) ?_
  rintro _ η9 ⟨Scr1, rcr1, Ecr1, rfl, hKcr1, hacr1, upcr1⟩
  have ok := (ok.n1.f1).dsk (d := dnd1) (r := rw3) upcr1
  have hkcr1 : DkOk rcr1.abs := by rw [hacr1]; exact (hkw3).crash
  have hccr1 : rcr1.chg = rw3.chg := congrArg Dk.chg hacr1
  have hbcr1 : rcr1.abs = lv4 := hacr1.trans (by rw [hbw3] at hKcr1 ⊢; rw [lv3_keys hKcr1]; rfl)
  refine .nil ?_
  refine .seq <| .r <| .w 33 .mvP <| .c' 34 .func (read_anyD (d := dnd1) (r := rcr1) (E := Ecr1) (n := ([102] : List UInt8)) (y := 0) (z := 9) ((ok).rdo) hkcr1 ⟨by omega, by omega⟩ ⟨by omega, by omega⟩) ?_
  rintro _ η10 ⟨w, rfl, own⟩
  have hrd : readN rcr1.abs ([102] : List UInt8) 0 9 = (([1, 3] : List UInt8), 0) := by rw [hbcr1]; rfl
  rw [hrd] at own
  rw [hrd]
  obtain ⟨ya2, yc2, rfl⟩ := own.formB
  have ok := ok.own own
  refine .w 32 .mvU <| .w 35 .ex <| .w 36 .ex <| .w 7 .asS <| .w 8 .asI <| .nil ?_
  refine .seq <| .r <| .w 37 .mvP <| .c' 38 .func (cut_any (d := dnd1) (r := rcr1) (z := 0) (ok.n1).loc0) ?_
  rintro _ η11 ⟨rfl, q⟩
  have ok := (ok.n1).lift1 q
  obtain ⟨rcu1, hrcu1⟩ : ∃ rcu1, cutR rcr1 0 = rcu1 := ⟨_, rfl⟩
  have hacu1 : rcu1.abs = cutN rcr1.abs 0 := by rw [← hrcu1]; exact cutR_abs
  have hfcu1 : rcu1.fs = rcr1.fs := by rw [← hrcu1]; exact cutR_fs
  rw [hrcu1, ← hfcu1] at ok
  have hkcu1 : DkOk rcu1.abs := by rw [hacu1]; exact (hkcr1).cut (by omega)
  have hccu1 : rcu1.chg = rcr1.chg := by rw [← hrcu1]; unfold cutR; split <;> rfl
  have hbcu1 : rcu1.abs = lv5 := hacu1.trans (by rw [hbcr1]; rfl)
  refine .nil ?_
  refine .seq <| .r <| .w 39 .mvP <| ?_
  have ok := ok.dE (rdI none_ none_ (none, 0, 0) ([] : List UInt8)) (RdL.nil _ none_ none_) (fun _ f => f.elim id id)
  refine .c' 40 .func (write_any (d := dnd1) (r := rcu1) (E := Ecr1) (n := ([102] : List UInt8)) (z := 0) (a := none) (c := 0) (l := ([] : List UInt8)) (ok.f1).loc2 hkcu1 (by omega) ⟨by omega, by omega⟩) ?_
  rintro _ η12 ⟨rw4, Ew4, rfl, haw4, upw4⟩
  have ok := (ok.f1).dsk (d := dnd1) (r := rcu1) upw4
  have hkw4 : DkOk rw4.abs := by rw [haw4]; exact (hkcu1).write
  have hcw4 : rw4.chg ≤ rcu1.chg + 1 := Int.le_trans (Int.le_of_eq (congrArg Dk.chg haw4)) write_chg
  have hvw4 : (writeN rcu1.abs ([102] : List UInt8) 0 ([] : List UInt8)).2 = 13 := by rw [hbcu1]; rfl
  rw [hvw4]
  have hbw4 : rw4.abs = lv6 := haw4.trans (by rw [hbcu1]; rfl)
  refine .w 9 .asI <| .nil ?_
  refine .seq <| .r <| .w 42 .mvP <| .k 43 .func ((size_anyD (d := dnd1) (r := rw4) (n := ([102] : List UInt8)) (ok.m0)).mono fun _ _ q => (by rw [show sizeN rw4.abs ([102] : List UInt8) = (0, false) from by rw [hbw4]; rfl] at q; exact q : _ = Value.tuple #[.int .i64 ((0 : Nat) : Int), .bool false] ∧ _)) <| .w 41 .mvU <| .w 44 .ex <| .w 45 .ex <| .w 10 .asI <| .w 11 .asB <| .nil ?_
  refine .seq <| .r <| .w 12 .asP <| .nil ?_
  refine .seq <| .r <| .w 46 .mvI <| .w 47 .eql <| .w 48 .mvB <| .sd (fun G48 => ?_) (fun G48 => ?_)
  ·
    refine .w 49 .mvI <| .w 50 .eql <| .w 51 .pkt <| .w 52 .mvB <| .sd (fun G52 => ?_) (fun G52 => ?_)
    ·
      refine .w 53 .mvI <| .w 54 .eql <| .w 55 .pkt <| .w 56 .mvB <| .sd (fun G56 => ?_) (fun G56 => ?_)
      ·
        refine .w 57 .mvI <| .w 58 .eql <| .w 59 .pkt <| .w 60 .mvB <| .sd (fun G60 => ?_) (fun G60 => ?_)
        ·
          refine .w 61 .mvI <| .w 62 .eql <| .w 63 .pkt <| .w 64 .mvB <| .sd (fun G64 => ?_) (fun G64 => ?_)
          ·
            refine .w 65 .mvS <| .a' 66 (.lit [.const (.int .u8 1), .const (.int .u8 3), .const (.int .u8 4)] (cs := [.int .u8 1, .int .u8 3, .int .u8 4]) T.el22 T.sz5 T.zr5 ok ⟨rfl, rfl, rfl, trivial⟩) ?_
            rintro _ η13 ⟨pb4, rfl, ok, xe⟩
            have ok := ok.cx (ys := ([1, 3, 4] : List UInt8).map bv) rfl
            refine .k 67 .func (same_any (a := ya1) (c := yc1) (l := (([1, 3, 4] : List UInt8))) (b := some ⟨pb4, 0, none⟩) (d := 3) (l2 := [1, 3, 4]) (RdL.ofCapB (v := (ya1, (([1, 3, 4] : List UInt8)).length, yc1)) (l := (([1, 3, 4] : List UInt8))) ok.m3) (RdL.ofCapB (v := (some ⟨pb4, 0, none⟩, 3, 3)) (l := [1, 3, 4]) ok.m0)) <| .w 68 .pkt <| .w 69 .mvB <| .sd (fun G69 => ?_) (fun G69 => ?_)
            ·
              refine .w 70 .mvS <| .a' 71 (.lit [.const (.int .u8 1), .const (.int .u8 3)] (cs := [.int .u8 1, .int .u8 3]) T.el22 T.sz5 T.zr5 ok ⟨rfl, rfl, trivial⟩) ?_
              rintro _ η14 ⟨pb5, rfl, ok, xe⟩
              have ok := ok.cx (ys := ([1, 3] : List UInt8).map bv) rfl
              refine .k 72 .func (same_any (a := ya2) (c := yc2) (l := (([1, 3] : List UInt8))) (b := some ⟨pb5, 0, none⟩) (d := 2) (l2 := [1, 3]) (RdL.ofCapB (v := (ya2, (([1, 3] : List UInt8)).length, yc2)) (l := (([1, 3] : List UInt8))) ok.m3) (RdL.ofCapB (v := (some ⟨pb5, 0, none⟩, 2, 2)) (l := [1, 3]) ok.m0)) <| .w 73 .pkt <| .w 74 .mvB <| .sd (fun G74 => ?_) (fun G74 => ?_)
              ·
                refine .w 75 .mvI <| .w 76 .eql <| .w 77 .pkt <| .w 78 .mvB <| .sd (fun G78 => ?_) (fun G78 => ?_)
                ·
                  refine .w 79 .mvP <| .k 80 .func (dark_any (d := dnd1) (r := rw4) (dsk_parts (ok.m2)).1) <| .w 81 .pkt <| .w 82 .mvB <| .spl (fun G82 => ?_) (fun G82 => ?_)
                  ·
                    refine .w 83 .mvB <| .w 84 .not <| .w 85 .pkt <| .w 86 .mvB <| .w 87 .mvP <| .k 88 .func (changes_any (d := dnd1) (r := rw4) (dsk_parts (ok.m2)).1) <| .w 89 .eql <| .w 90 .pkt <| .w 91 .mvB <| .sd (fun G91 => ?_) (fun G91 => ?_)
                    ·
                      refine .w 92 .mvP <| ?_
                      have ok := ok.dE (rdI none_ none_ (none, 0, 0) ([] : List UInt8)) (RdL.nil _ none_ none_) (fun _ f => f.elim id id)
                      refine .c' 93 .func (write_any (d := dnd1) (r := rw4) (E := Ew4) (n := ([] : List UInt8)) (z := 0) (a := none) (c := 0) (l := ([] : List UInt8)) (ok.n2.f1).loc2 hkw4 (by omega) ⟨by omega, by omega⟩) ?_
                      rintro _ η15 ⟨rw5, Ew5, rfl, haw5, upw5⟩
                      have ok := (ok.n2.f1).dsk (d := dnd1) (r := rw4) upw5
                      have hkw5 : DkOk rw5.abs := by rw [haw5]; exact (hkw4).write
                      have hcw5 : rw5.chg ≤ rw4.chg + 1 := Int.le_trans (Int.le_of_eq (congrArg Dk.chg haw5)) write_chg
                      have hvw5 : (writeN rw4.abs ([] : List UInt8) 0 ([] : List UInt8)).2 = 1 := by rw [hbw4]; rfl
                      rw [hvw5]
                      have hbw5 : rw5.abs = lv6 := haw5.trans (by rw [hbw4]; rfl)
                      refine .w 94 .eql <| .w 95 .pkt <| .w 96 .mvB <| .sd (fun G96 => ?_) (fun G96 => ?_)
                      ·
                        refine .w 97 .mvP <| .c' 98 .func (writeNil_any (n := ([102] : List UInt8)) (z := 0) (v := .slice none 0 0)) ?_
                        rintro _ η16 ⟨rfl, hx⟩
                        have ok := ok.ext hx
                        refine .w 99 .eql <| .w 100 .pkt <| .w 101 .mvB <| .w 102 .mvP <| .c' 103 .func filesNil_any ?_
                        rintro _ η17 ⟨rfl, hx⟩
                        have ok := ok.ext hx
                        refine .w 104 (.len T.el82) <| .w 105 .eql <| .w 106 .pkt <| .w 107 .mvB <| .w 108 .mvP <| .k 109 .func copyNil_any <| .w 110 (.pEqN T.pt57) <| .w 111 .pkt <| .w 112 .mvB <| .w 113 .mvP <| .k 114 .func darkNil_any <| .w 115 .not <| .w 116 .pkt <| .w 117 .mvB <| .w 118 .mvP <| .k 119 .func changesNil_any <| .w 120 .eql <| .w 121 .pkt <| .w 0 .asB <| .nil ?_
                        refine .ret ⟨.bool true, Res.one rfl rfl, ⟨rfl, ok.chg⟩⟩
                      exact absurd rfl G96
                    exact absurd (congrArg Dk.chg hbw4) G91
                  exact absurd (G82.symm.trans (congrArg Dk.dark hbw4)) (by decide)
                exact absurd rfl G78
              exact absurd rfl G74
            exact absurd rfl G69
          exact absurd rfl G64
        exact absurd rfl G60
      exact absurd rfl G56
    exact absurd rfl G52
  exact absurd rfl G48

end Go.Proofs.Ytpebbkhainpfaaa
