/- The law DiskFull: a file never has more than its bytes, and numbers below 0 are none. Conditions: none. -/
import Derived.Test.YtpebbkhainpfaaaDkLive
namespace Go.Proofs.Ytpebbkhainpfaaa
open Go Go.HL
def fu1 : Dk := (writeN newN [102] 0 [1]).1
theorem fu_write {z : Int} (h : ¬ (0 ≤ z ∧ z < 16777216)) : writeN fu1 [102] z [1] = (fu1, if z < 0 then 1 else 5) := by
  have hd : fu1.dark = false := rfl
  by_cases hz : z < 0
  · have hw : wrongN fu1 [102] [z] = 1 := if_pos (.inr (.inr ⟨z, by simp, hz⟩))
    unfold writeN; rw [hw, if_pos hz]; rfl
  · have hw : wrongN fu1 [102] [z] = 0 := by
      unfold wrongN; rw [if_neg (by simp; omega), hd]; rfl
    unfold writeN; rw [hw, if_neg hz, if_neg (by decide), if_pos (by simp only [List.length_singleton]; omega)]
theorem fu_trunc {z : Int} (h : ¬ (0 ≤ z ∧ z ≤ 16777216)) : truncN fu1 [102] z = (fu1, if z < 0 then 1 else 5) := by
  have hd : fu1.dark = false := rfl
  by_cases hz : z < 0
  · have hw : wrongN fu1 [102] [z] = 1 := if_pos (.inr (.inr ⟨z, by simp, hz⟩))
    unfold truncN; rw [hw, if_pos hz]; rfl
  · have hw : wrongN fu1 [102] [z] = 0 := by
      unfold wrongN; rw [if_neg (by simp; omega), hd]; rfl
    unfold truncN; rw [hw, if_neg hz, if_neg (by decide), if_neg (show ¬ thereN fu1 [102] = false by decide), if_pos (by omega)]

set_option maxRecDepth 100000 in
set_option maxHeartbeats 2000000 in
theorem full_walk {h : Heap} {z0 z1 : Int} (hz : -9223372036854775808 ≤ z0 ∧ z0 ≤ 9223372036854775807) (hy : -9223372036854775808 ≤ z1 ∧ z1 ≤ 9223372036854775807) : HC Try.prog 8 #[.int .i64 z0, .int .i64 z1] h (fun v h' => v = .bool true ∧ Ext h h') := by
  have ok := Hp.nil h none_
  refine HC.go Try.func8 71 ?_
  refine .seq <| .r <| .w 4 .asB <| .nil ?_
  refine .seq <| .r <| .c' 10 .func new_any ?_
  rintro _ η1 ⟨dnd1, rnd1, rfl, hand1, q⟩
  have ok := ok.addE q (fun _ f => f.elim)
  have hknd1 : DkOk rnd1.abs := by rw [hand1]; exact newN_ok
  have hcnd1 : rnd1.chg = 0 := congrArg Dk.chg hand1
  refine .w 5 .asP <| .nil ?_
  refine .seq <| .seq <| .r <| .w 11 .mvP <| .w 12 (.pEqS T.pt57) <| .w 13 .mvB <| .w 14 .mvP <| .a' 15 (.lit [.const (.int .u8 1)] (cs := [.int .u8 1]) T.el22 T.sz5 T.zr5 ok ⟨rfl, trivial⟩) ?_
  rintro _ η2 ⟨pb1, rfl, ok, xe⟩
  have ok := ok.cx (ys := ([1] : List UInt8).map bv) rfl
  have ok := (ok).frzB (l := [1]) rfl
  refine .c' 16 .func (write_any (d := dnd1) (r := rnd1) (E := none_) (n := ([102] : List UInt8)) (z := 0) (a := some ⟨pb1, 0, none⟩) (c := 1) (l := [1]) (ok.f1).loc2 hknd1 (by omega) ⟨by omega, by omega⟩) ?_
  rintro _ η3 ⟨rw1, Ew1, rfl, haw1, upw1⟩
  have ok := (ok.f1).dsk (d := dnd1) (r := rnd1) upw1
  have hkw1 : DkOk rw1.abs := by rw [haw1]; exact (hknd1).write
  have hcw1 : rw1.chg ≤ rnd1.chg + 1 := Int.le_trans (Int.le_of_eq (congrArg Dk.chg haw1)) write_chg
  have hvw1 : (writeN rnd1.abs ([102] : List UInt8) 0 [1]).2 = 0 := by rw [hand1]; rfl
  rw [hvw1]
  have hbw1 : rw1.abs = fu1 := haw1.trans (by rw [hand1]; rfl)
  refine .w 17 .neq <| .w 18 .pkf <| .nil ?_
  refine .cd (fun C0 => ?_) (fun C0 => ?_)
  · --
    exact absurd rfl C0
  refine .skip <| .seq <| .seq <| .r <| .w 19 .mvI <| .w 20 .geq <| .w 21 .mvB <| .sd (fun G21 => ?_) (fun G21 => ?_)
  ·
    refine .w 22 .mvI <| .w 23 .lss <| .w 24 .pkt <| .w 25 .mvB <| .sd (fun G25 => ?_) (fun G25 => ?_)
    ·
      refine .x 26 <| .x 27 <| .x 28 <| .x 29 <| .x 30 <| .x 31 <| .w 32 .pkt <| .nil ?_
      refine .ct <| .seq <| .r <| .c' 33 .func live_any ?_
      rintro _ η4 ⟨rfl, hx⟩
      have ok := ok.ext hx
      refine .w 4 .asB <| .nil ?_
      refine .ret ⟨.bool true, Res.one rfl rfl, ⟨rfl, ok.chg⟩⟩
    refine .w 26 .mvI <| .w 27 .geq <| .w 28 .mvB <| .sd (fun G28 => ?_) (fun G28 => ?_)
    ·
      refine .w 29 .mvI <| .w 30 .leq <| .w 31 .pkt <| .w 32 .pkf <| .nil ?_
      refine .cd (fun C1 => ?_) (fun C1 => ?_)
      · --
        refine .seq <| .r <| .c' 33 .func live_any ?_
        rintro _ η5 ⟨rfl, hx⟩
        have ok := ok.ext hx
        refine .w 4 .asB <| .nil ?_
        refine .ret ⟨.bool true, Res.one rfl rfl, ⟨rfl, ok.chg⟩⟩
      refine .skip <| .seq <| .r <| .w 6 .asI <| .w 7 .asI <| .nil ?_
      refine .seq <| .seq <| .r <| .w 34 .mvI <| .w 35 .lss <| .nil ?_
      refine .cd (fun C2 => ?_) (fun C2 => ?_)
      · --
        refine .r <| .w 6 .asI <| .nil ?_
        refine .seq <| .seq <| .r <| .w 36 .mvI <| .w 37 .lss <| .nil ?_
        refine .cd (fun C3 => ?_) (fun C3 => ?_)
        · --
          refine .r <| .w 7 .asI <| .nil ?_
          refine .seq <| .r <| .w 39 .mvP <| .k 40 .func ((size_anyD (d := dnd1) (r := rw1) (n := ([102] : List UInt8)) (ok.m0)).mono fun _ _ q => (by rw [show sizeN rw1.abs ([102] : List UInt8) = (1, true) from by rw [hbw1]; rfl] at q; exact q : _ = Value.tuple #[.int .i64 ((1 : Nat) : Int), .bool true] ∧ _)) <| .w 38 .mvU <| .w 41 .ex <| .w 42 .ex <| .w 8 .asI <| .w 9 .asB <| .nil ?_
          refine .seq <| .r <| .c' 43 .func live_any ?_
          rintro _ η6 ⟨rfl, hx⟩
          have ok := ok.ext hx
          refine .w 44 .mvB <| .w 45 .mvP <| .w 46 .mvI <| .a' 47 (.lit [.const (.int .u8 1)] (cs := [.int .u8 1]) T.el22 T.sz5 T.zr5 ok ⟨rfl, trivial⟩) ?_
          rintro _ η7 ⟨pb2, rfl, ok, xe⟩
          have ok := ok.cx (ys := ([1] : List UInt8).map bv) rfl
          have ok := (ok).frzB (l := [1]) rfl
          refine .c' 48 .func (write_any (d := dnd1) (r := rw1) (E := Ew1) (n := ([102] : List UInt8)) (z := z0) (a := some ⟨pb2, 0, none⟩) (c := 1) (l := [1]) (ok.f1).loc2 hkw1 (by omega) ⟨by omega, by omega⟩) ?_
          rintro _ η8 ⟨rw2, Ew2, rfl, haw2, upw2⟩
          have ok := (ok.f1).dsk (d := dnd1) (r := rw1) upw2
          have hkw2 : DkOk rw2.abs := by rw [haw2]; exact (hkw1).write
          have hcw2 : rw2.chg ≤ rw1.chg + 1 := Int.le_trans (Int.le_of_eq (congrArg Dk.chg haw2)) write_chg
          have hvw2 : writeN rw1.abs ([102] : List UInt8) z0 [1] = (fu1, (if z0 < 0 then 1 else 5)) := by rw [hbw1]; exact fu_write (by omega)
          rw [hvw2] at haw2 ⊢
          have hbw2 : rw2.abs = fu1 := haw2
          refine .w 49 .mvI <| .w 50 .eql <| .w 51 .pkt <| .w 52 .mvB <| .sd (fun G52 => ?_) (fun G52 => ?_)
          ·
            refine .w 53 .mvP <| .w 54 .mvI <| .c' 55 .func (trunc_any (d := dnd1) (r := rw2) (E := Ew2) (n := ([102] : List UInt8)) (z := z1) (ok).loc1 hkw2 (by omega) ⟨by omega, by omega⟩) ?_
            rintro _ η9 ⟨rw3, Ew3, rfl, haw3, upw3⟩
            have ok := (ok).dsk (d := dnd1) (r := rw2) upw3
            have hkw3 : DkOk rw3.abs := by rw [haw3]; exact (hkw2).trunc
            have hcw3 : rw3.chg ≤ rw2.chg + 1 := Int.le_trans (Int.le_of_eq (congrArg Dk.chg haw3)) trunc_chg
            have hvw3 : truncN rw2.abs ([102] : List UInt8) z1 = (fu1, (if z1 < 0 then 1 else 5)) := by rw [hbw2]; exact fu_trunc (by omega)
            rw [hvw3] at haw3 ⊢
            have hbw3 : rw3.abs = fu1 := haw3
            refine .w 56 .mvI <| .w 57 .eql <| .w 58 .pkt <| .w 59 .mvB <| .sd (fun G59 => ?_) (fun G59 => ?_)
            ·
              refine .w 60 .mvI <| .w 61 .eql <| .w 62 .pkt <| .w 63 .mvB <| .sd (fun G63 => ?_) (fun G63 => ?_)
              ·
                refine .w 64 .mvB <| .w 65 .pkt <| .w 66 .mvB <| .w 67 .mvP <| .k 68 .func (changes_any (d := dnd1) (r := rw3) (dsk_parts (ok.m0)).1) <| .w 69 .eql <| .w 70 .pkt <| .w 4 .asB <| .nil ?_
                refine .ret ⟨.bool (decide (rw3.chg = 1)), Res.one rfl rfl, ⟨by rw [show rw3.chg = 1 from congrArg Dk.chg hbw3]; rfl, ok.chg⟩⟩
              exact absurd rfl G63
            first | (rw [if_neg C3] at G59; exact absurd rfl G59) | (rw [if_pos C3] at G59; exact absurd rfl G59) | (simp_all; done) | (simp_all; omega)
          first | (rw [if_neg C2] at G52; exact absurd rfl G52) | (rw [if_pos C2] at G52; exact absurd rfl G52) | (simp_all; done) | (simp_all; omega)
        refine .skip <| .seq <| .r <| .w 39 .mvP <| .k 40 .func ((size_anyD (d := dnd1) (r := rw1) (n := ([102] : List UInt8)) (ok.m0)).mono fun _ _ q => (by rw [show sizeN rw1.abs ([102] : List UInt8) = (1, true) from by rw [hbw1]; rfl] at q; exact q : _ = Value.tuple #[.int .i64 ((1 : Nat) : Int), .bool true] ∧ _)) <| .w 38 .mvU <| .w 41 .ex <| .w 42 .ex <| .w 8 .asI <| .w 9 .asB <| .nil ?_
        refine .seq <| .r <| .c' 43 .func live_any ?_
        rintro _ η10 ⟨rfl, hx⟩
        have ok := ok.ext hx
        refine .w 44 .mvB <| .w 45 .mvP <| .w 46 .mvI <| .a' 47 (.lit [.const (.int .u8 1)] (cs := [.int .u8 1]) T.el22 T.sz5 T.zr5 ok ⟨rfl, trivial⟩) ?_
        rintro _ η11 ⟨pb3, rfl, ok, xe⟩
        have ok := ok.cx (ys := ([1] : List UInt8).map bv) rfl
        have ok := (ok).frzB (l := [1]) rfl
        refine .c' 48 .func (write_any (d := dnd1) (r := rw1) (E := Ew1) (n := ([102] : List UInt8)) (z := z0) (a := some ⟨pb3, 0, none⟩) (c := 1) (l := [1]) (ok.f1).loc2 hkw1 (by omega) ⟨by omega, by omega⟩) ?_
        rintro _ η12 ⟨rw4, Ew4, rfl, haw4, upw4⟩
        have ok := (ok.f1).dsk (d := dnd1) (r := rw1) upw4
        have hkw4 : DkOk rw4.abs := by rw [haw4]; exact (hkw1).write
        have hcw4 : rw4.chg ≤ rw1.chg + 1 := Int.le_trans (Int.le_of_eq (congrArg Dk.chg haw4)) write_chg
        have hvw4 : writeN rw1.abs ([102] : List UInt8) z0 [1] = (fu1, (if z0 < 0 then 1 else 5)) := by rw [hbw1]; exact fu_write (by omega)
        rw [hvw4] at haw4 ⊢
        have hbw4 : rw4.abs = fu1 := haw4
        refine .w 49 .mvI <| .w 50 .eql <| .w 51 .pkt <| .w 52 .mvB <| .sd (fun G52 => ?_) (fun G52 => ?_)
        ·
          refine .w 53 .mvP <| .w 54 .mvI <| .c' 55 .func (trunc_any (d := dnd1) (r := rw4) (E := Ew4) (n := ([102] : List UInt8)) (z := z1) (ok).loc1 hkw4 (by omega) ⟨by omega, by omega⟩) ?_
          rintro _ η13 ⟨rw5, Ew5, rfl, haw5, upw5⟩
          have ok := (ok).dsk (d := dnd1) (r := rw4) upw5
          have hkw5 : DkOk rw5.abs := by rw [haw5]; exact (hkw4).trunc
          have hcw5 : rw5.chg ≤ rw4.chg + 1 := Int.le_trans (Int.le_of_eq (congrArg Dk.chg haw5)) trunc_chg
          have hvw5 : truncN rw4.abs ([102] : List UInt8) z1 = (fu1, (if z1 < 0 then 1 else 5)) := by rw [hbw4]; exact fu_trunc (by omega)
          rw [hvw5] at haw5 ⊢
          have hbw5 : rw5.abs = fu1 := haw5
          refine .w 56 .mvI <| .w 57 .eql <| .w 58 .pkt <| .w 59 .mvB <| .sd (fun G59 => ?_) (fun G59 => ?_)
          ·
            refine .w 60 .mvI <| .w 61 .eql <| .w 62 .pkt <| .w 63 .mvB <| .sd (fun G63 => ?_) (fun G63 => ?_)
            ·
              refine .w 64 .mvB <| .w 65 .pkt <| .w 66 .mvB <| .w 67 .mvP <| .k 68 .func (changes_any (d := dnd1) (r := rw5) (dsk_parts (ok.m0)).1) <| .w 69 .eql <| .w 70 .pkt <| .w 4 .asB <| .nil ?_
              refine .ret ⟨.bool (decide (rw5.chg = 1)), Res.one rfl rfl, ⟨by rw [show rw5.chg = 1 from congrArg Dk.chg hbw5]; rfl, ok.chg⟩⟩
            exact absurd rfl G63
          first | (rw [if_neg C3] at G59; exact absurd rfl G59) | (rw [if_pos C3] at G59; exact absurd rfl G59) | (simp_all; done) | (simp_all; omega)
        first | (rw [if_neg C2] at G52; exact absurd rfl G52) | (rw [if_pos C2] at G52; exact absurd rfl G52) | (simp_all; done) | (simp_all; omega)
      refine .skip <| .seq <| .seq <| .r <| .w 36 .mvI <| .w 37 .lss <| .nil ?_
      refine .cd (fun C3 => ?_) (fun C3 => ?_)
      · --
        refine .r <| .w 7 .asI <| .nil ?_
        refine .seq <| .r <| .w 39 .mvP <| .k 40 .func ((size_anyD (d := dnd1) (r := rw1) (n := ([102] : List UInt8)) (ok.m0)).mono fun _ _ q => (by rw [show sizeN rw1.abs ([102] : List UInt8) = (1, true) from by rw [hbw1]; rfl] at q; exact q : _ = Value.tuple #[.int .i64 ((1 : Nat) : Int), .bool true] ∧ _)) <| .w 38 .mvU <| .w 41 .ex <| .w 42 .ex <| .w 8 .asI <| .w 9 .asB <| .nil ?_
        refine .seq <| .r <| .c' 43 .func live_any ?_
        rintro _ η14 ⟨rfl, hx⟩
        have ok := ok.ext hx
        refine .w 44 .mvB <| .w 45 .mvP <| .w 46 .mvI <| .a' 47 (.lit [.const (.int .u8 1)] (cs := [.int .u8 1]) T.el22 T.sz5 T.zr5 ok ⟨rfl, trivial⟩) ?_
        rintro _ η15 ⟨pb4, rfl, ok, xe⟩
        have ok := ok.cx (ys := ([1] : List UInt8).map bv) rfl
        have ok := (ok).frzB (l := [1]) rfl
        refine .c' 48 .func (write_any (d := dnd1) (r := rw1) (E := Ew1) (n := ([102] : List UInt8)) (z := z0) (a := some ⟨pb4, 0, none⟩) (c := 1) (l := [1]) (ok.f1).loc2 hkw1 (by omega) ⟨by omega, by omega⟩) ?_
        rintro _ η16 ⟨rw6, Ew6, rfl, haw6, upw6⟩
        have ok := (ok.f1).dsk (d := dnd1) (r := rw1) upw6
        have hkw6 : DkOk rw6.abs := by rw [haw6]; exact (hkw1).write
        have hcw6 : rw6.chg ≤ rw1.chg + 1 := Int.le_trans (Int.le_of_eq (congrArg Dk.chg haw6)) write_chg
        have hvw6 : writeN rw1.abs ([102] : List UInt8) z0 [1] = (fu1, (if z0 < 0 then 1 else 5)) := by rw [hbw1]; exact fu_write (by omega)
        rw [hvw6] at haw6 ⊢
        have hbw6 : rw6.abs = fu1 := haw6
        refine .w 49 .mvI <| .w 50 .eql <| .w 51 .pkt <| .w 52 .mvB <| .sd (fun G52 => ?_) (fun G52 => ?_)
        ·
          refine .w 53 .mvP <| .w 54 .mvI <| .c' 55 .func (trunc_any (d := dnd1) (r := rw6) (E := Ew6) (n := ([102] : List UInt8)) (z := z1) (ok).loc1 hkw6 (by omega) ⟨by omega, by omega⟩) ?_
          rintro _ η17 ⟨rw7, Ew7, rfl, haw7, upw7⟩
          have ok := (ok).dsk (d := dnd1) (r := rw6) upw7
          have hkw7 : DkOk rw7.abs := by rw [haw7]; exact (hkw6).trunc
          have hcw7 : rw7.chg ≤ rw6.chg + 1 := Int.le_trans (Int.le_of_eq (congrArg Dk.chg haw7)) trunc_chg
          have hvw7 : truncN rw6.abs ([102] : List UInt8) z1 = (fu1, (if z1 < 0 then 1 else 5)) := by rw [hbw6]; exact fu_trunc (by omega)
          rw [hvw7] at haw7 ⊢
          have hbw7 : rw7.abs = fu1 := haw7
          refine .w 56 .mvI <| .w 57 .eql <| .w 58 .pkt <| .w 59 .mvB <| .sd (fun G59 => ?_) (fun G59 => ?_)
          ·
            refine .w 60 .mvI <| .w 61 .eql <| .w 62 .pkt <| .w 63 .mvB <| .sd (fun G63 => ?_) (fun G63 => ?_)
            ·
              refine .w 64 .mvB <| .w 65 .pkt <| .w 66 .mvB <| .w 67 .mvP <| .k 68 .func (changes_any (d := dnd1) (r := rw7) (dsk_parts (ok.m0)).1) <| .w 69 .eql <| .w 70 .pkt <| .w 4 .asB <| .nil ?_
              refine .ret ⟨.bool (decide (rw7.chg = 1)), Res.one rfl rfl, ⟨by rw [show rw7.chg = 1 from congrArg Dk.chg hbw7]; rfl, ok.chg⟩⟩
            exact absurd rfl G63
          first | (rw [if_neg C3] at G59; exact absurd rfl G59) | (rw [if_pos C3] at G59; exact absurd rfl G59) | (simp_all; done) | (simp_all; omega)
        first | (rw [if_neg C2] at G52; exact absurd rfl G52) | (rw [if_pos C2] at G52; exact absurd rfl G52) | (simp_all; done) | (simp_all; omega)
      refine .skip <| .seq <| .r <| .w 39 .mvP <| .k 40 .func ((size_anyD (d := dnd1) (r := rw1) (n := ([102] : List UInt8)) (ok.m0)).mono fun _ _ q => (by rw [show sizeN rw1.abs ([102] : List UInt8) = (1, true) from by rw [hbw1]; rfl] at q; exact q : _ = Value.tuple #[.int .i64 ((1 : Nat) : Int), .bool true] ∧ _)) <| .w 38 .mvU <| .w 41 .ex <| .w 42 .ex <| .w 8 .asI <| .w 9 .asB <| .nil ?_
      refine .seq <| .r <| .c' 43 .func live_any ?_
      rintro _ η18 ⟨rfl, hx⟩
      have ok := ok.ext hx
      refine .w 44 .mvB <| .w 45 .mvP <| .w 46 .mvI <| .a' 47 (.lit [.const (.int .u8 1)] (cs := [.int .u8 1]) T.el22 T.sz5 T.zr5 ok ⟨rfl, trivial⟩) ?_
      rintro _ η19 ⟨pb5, rfl, ok, xe⟩
      have ok := ok.cx (ys := ([1] : List UInt8).map bv) rfl
      have ok := (ok).frzB (l := [1]) rfl
      refine .c' 48 .func (write_any (d := dnd1) (r := rw1) (E := Ew1) (n := ([102] : List UInt8)) (z := z0) (a := some ⟨pb5, 0, none⟩) (c := 1) (l := [1]) (ok.f1).loc2 hkw1 (by omega) ⟨by omega, by omega⟩) ?_
      rintro _ η20 ⟨rw8, Ew8, rfl, haw8, upw8⟩
      have ok := (ok.f1).dsk (d := dnd1) (r := rw1) upw8
      have hkw8 : DkOk rw8.abs := by rw [haw8]; exact (hkw1).write
      have hcw8 : rw8.chg ≤ rw1.chg + 1 := Int.le_trans (Int.le_of_eq (congrArg Dk.chg haw8)) write_chg
      have hvw8 : writeN rw1.abs ([102] : List UInt8) z0 [1] = (fu1, (if z0 < 0 then 1 else 5)) := by rw [hbw1]; exact fu_write (by omega)
      rw [hvw8] at haw8 ⊢
      have hbw8 : rw8.abs = fu1 := haw8
      refine .w 49 .mvI <| .w 50 .eql <| .w 51 .pkt <| .w 52 .mvB <| .sd (fun G52 => ?_) (fun G52 => ?_)
      ·
        refine .w 53 .mvP <| .w 54 .mvI <| .c' 55 .func (trunc_any (d := dnd1) (r := rw8) (E := Ew8) (n := ([102] : List UInt8)) (z := z1) (ok).loc1 hkw8 (by omega) ⟨by omega, by omega⟩) ?_
        rintro _ η21 ⟨rw9, Ew9, rfl, haw9, upw9⟩
        have ok := (ok).dsk (d := dnd1) (r := rw8) upw9
        have hkw9 : DkOk rw9.abs := by rw [haw9]; exact (hkw8).trunc
        have hcw9 : rw9.chg ≤ rw8.chg + 1 := Int.le_trans (Int.le_of_eq (congrArg Dk.chg haw9)) trunc_chg
        have hvw9 : truncN rw8.abs ([102] : List UInt8) z1 = (fu1, (if z1 < 0 then 1 else 5)) := by rw [hbw8]; exact fu_trunc (by omega)
        rw [hvw9] at haw9 ⊢
        have hbw9 : rw9.abs = fu1 := haw9
        refine .w 56 .mvI <| .w 57 .eql <| .w 58 .pkt <| .w 59 .mvB <| .sd (fun G59 => ?_) (fun G59 => ?_)
        ·
          refine .w 60 .mvI <| .w 61 .eql <| .w 62 .pkt <| .w 63 .mvB <| .sd (fun G63 => ?_) (fun G63 => ?_)
          ·
            refine .w 64 .mvB <| .w 65 .pkt <| .w 66 .mvB <| .w 67 .mvP <| .k 68 .func (changes_any (d := dnd1) (r := rw9) (dsk_parts (ok.m0)).1) <| .w 69 .eql <| .w 70 .pkt <| .w 4 .asB <| .nil ?_
            refine .ret ⟨.bool (decide (rw9.chg = 1)), Res.one rfl rfl, ⟨by rw [show rw9.chg = 1 from congrArg Dk.chg hbw9]; rfl, ok.chg⟩⟩
          exact absurd rfl G63
        first | (rw [if_neg C3] at G59; exact absurd rfl G59) | (rw [if_pos C3] at G59; exact absurd rfl G59) | (simp_all; done) | (simp_all; omega)
      first | (rw [if_neg C2] at G52; exact absurd rfl G52) | (rw [if_pos C2] at G52; exact absurd rfl G52) | (simp_all; done) | (simp_all; omega)
    refine .x 29 <| .x 30 <| .w 31 .pkf <| .w 32 .pkf <| .nil ?_
    refine .cf <| .skip <| .seq <| .r <| .w 6 .asI <| .w 7 .asI <| .nil ?_
    refine .seq <| .seq <| .r <| .w 34 .mvI <| .w 35 .lss <| .nil ?_
    refine .cd (fun C2 => ?_) (fun C2 => ?_)
    · --
      refine .r <| .w 6 .asI <| .nil ?_
      refine .seq <| .seq <| .r <| .w 36 .mvI <| .w 37 .lss <| .nil ?_
      refine .cd (fun C3 => ?_) (fun C3 => ?_)
      · --
        refine .r <| .w 7 .asI <| .nil ?_
        refine .seq <| .r <| .w 39 .mvP <| .k 40 .func ((size_anyD (d := dnd1) (r := rw1) (n := ([102] : List UInt8)) (ok.m0)).mono fun _ _ q => (by rw [show sizeN rw1.abs ([102] : List UInt8) = (1, true) from by rw [hbw1]; rfl] at q; exact q : _ = Value.tuple #[.int .i64 ((1 : Nat) : Int), .bool true] ∧ _)) <| .w 38 .mvU <| .w 41 .ex <| .w 42 .ex <| .w 8 .asI <| .w 9 .asB <| .nil ?_
        refine .seq <| .r <| .c' 43 .func live_any ?_
        rintro _ η22 ⟨rfl, hx⟩
        have ok := ok.ext hx
        refine .w 44 .mvB <| .w 45 .mvP <| .w 46 .mvI <| .a' 47 (.lit [.const (.int .u8 1)] (cs := [.int .u8 1]) T.el22 T.sz5 T.zr5 ok ⟨rfl, trivial⟩) ?_
        rintro _ η23 ⟨pb6, rfl, ok, xe⟩
        have ok := ok.cx (ys := ([1] : List UInt8).map bv) rfl
        have ok := (ok).frzB (l := [1]) rfl
        refine .c' 48 .func (write_any (d := dnd1) (r := rw1) (E := Ew1) (n := ([102] : List UInt8)) (z := z0) (a := some ⟨pb6, 0, none⟩) (c := 1) (l := [1]) (ok.f1).loc2 hkw1 (by omega) ⟨by omega, by omega⟩) ?_
        rintro _ η24 ⟨rw10, Ew10, rfl, haw10, upw10⟩
        have ok := (ok.f1).dsk (d := dnd1) (r := rw1) upw10
        have hkw10 : DkOk rw10.abs := by rw [haw10]; exact (hkw1).write
        have hcw10 : rw10.chg ≤ rw1.chg + 1 := Int.le_trans (Int.le_of_eq (congrArg Dk.chg haw10)) write_chg
        have hvw10 : writeN rw1.abs ([102] : List UInt8) z0 [1] = (fu1, (if z0 < 0 then 1 else 5)) := by rw [hbw1]; exact fu_write (by omega)
        rw [hvw10] at haw10 ⊢
        have hbw10 : rw10.abs = fu1 := haw10
        refine .w 49 .mvI <| .w 50 .eql <| .w 51 .pkt <| .w 52 .mvB <| .sd (fun G52 => ?_) (fun G52 => ?_)
        ·
          refine .w 53 .mvP <| .w 54 .mvI <| .c' 55 .func (trunc_any (d := dnd1) (r := rw10) (E := Ew10) (n := ([102] : List UInt8)) (z := z1) (ok).loc1 hkw10 (by omega) ⟨by omega, by omega⟩) ?_
          rintro _ η25 ⟨rw11, Ew11, rfl, haw11, upw11⟩
          have ok := (ok).dsk (d := dnd1) (r := rw10) upw11
          have hkw11 : DkOk rw11.abs := by rw [haw11]; exact (hkw10).trunc
          have hcw11 : rw11.chg ≤ rw10.chg + 1 := Int.le_trans (Int.le_of_eq (congrArg Dk.chg haw11)) trunc_chg
          have hvw11 : truncN rw10.abs ([102] : List UInt8) z1 = (fu1, (if z1 < 0 then 1 else 5)) := by rw [hbw10]; exact fu_trunc (by omega)
          rw [hvw11] at haw11 ⊢
          have hbw11 : rw11.abs = fu1 := haw11
          refine .w 56 .mvI <| .w 57 .eql <| .w 58 .pkt <| .w 59 .mvB <| .sd (fun G59 => ?_) (fun G59 => ?_)
          ·
            refine .w 60 .mvI <| .w 61 .eql <| .w 62 .pkt <| .w 63 .mvB <| .sd (fun G63 => ?_) (fun G63 => ?_)
            ·
              refine .w 64 .mvB <| .w 65 .pkt <| .w 66 .mvB <| .w 67 .mvP <| .k 68 .func (changes_any (d := dnd1) (r := rw11) (dsk_parts (ok.m0)).1) <| .w 69 .eql <| .w 70 .pkt <| .w 4 .asB <| .nil ?_
              refine .ret ⟨.bool (decide (rw11.chg = 1)), Res.one rfl rfl, ⟨by rw [show rw11.chg = 1 from congrArg Dk.chg hbw11]; rfl, ok.chg⟩⟩
            exact absurd rfl G63
          first | (rw [if_neg C3] at G59; exact absurd rfl G59) | (rw [if_pos C3] at G59; exact absurd rfl G59) | (simp_all; done) | (simp_all; omega)
        first | (rw [if_neg C2] at G52; exact absurd rfl G52) | (rw [if_pos C2] at G52; exact absurd rfl G52) | (simp_all; done) | (simp_all; omega)
      refine .skip <| .seq <| .r <| .w 39 .mvP <| .k 40 .func ((size_anyD (d := dnd1) (r := rw1) (n := ([102] : List UInt8)) (ok.m0)).mono fun _ _ q => (by rw [show sizeN rw1.abs ([102] : List UInt8) = (1, true) from by rw [hbw1]; rfl] at q; exact q : _ = Value.tuple #[.int .i64 ((1 : Nat) : Int), .bool true] ∧ _)) <| .w 38 .mvU <| .w 41 .ex <| .w 42 .ex <| .w 8 .asI <| .w 9 .asB <| .nil ?_
      refine .seq <| .r <| .c' 43 .func live_any ?_
      rintro _ η26 ⟨rfl, hx⟩
      have ok := ok.ext hx
      refine .w 44 .mvB <| .w 45 .mvP <| .w 46 .mvI <| .a' 47 (.lit [.const (.int .u8 1)] (cs := [.int .u8 1]) T.el22 T.sz5 T.zr5 ok ⟨rfl, trivial⟩) ?_
      rintro _ η27 ⟨pb7, rfl, ok, xe⟩
      have ok := ok.cx (ys := ([1] : List UInt8).map bv) rfl
      have ok := (ok).frzB (l := [1]) rfl
      refine .c' 48 .func (write_any (d := dnd1) (r := rw1) (E := Ew1) (n := ([102] : List UInt8)) (z := z0) (a := some ⟨pb7, 0, none⟩) (c := 1) (l := [1]) (ok.f1).loc2 hkw1 (by omega) ⟨by omega, by omega⟩) ?_
      rintro _ η28 ⟨rw12, Ew12, rfl, haw12, upw12⟩
      have ok := (ok.f1).dsk (d := dnd1) (r := rw1) upw12
      have hkw12 : DkOk rw12.abs := by rw [haw12]; exact (hkw1).write
      have hcw12 : rw12.chg ≤ rw1.chg + 1 := Int.le_trans (Int.le_of_eq (congrArg Dk.chg haw12)) write_chg
      have hvw12 : writeN rw1.abs ([102] : List UInt8) z0 [1] = (fu1, (if z0 < 0 then 1 else 5)) := by rw [hbw1]; exact fu_write (by omega)
      rw [hvw12] at haw12 ⊢
      have hbw12 : rw12.abs = fu1 := haw12
      refine .w 49 .mvI <| .w 50 .eql <| .w 51 .pkt <| .w 52 .mvB <| .sd (fun G52 => ?_) (fun G52 => ?_)
      ·
        refine .w 53 .mvP <| .w 54 .mvI <| .c' 55 .func (trunc_any (d := dnd1) (r := rw12) (E := Ew12) (n := ([102] : List UInt8)) (z := z1) (ok).loc1 hkw12 (by omega) ⟨by omega, by omega⟩) ?_
        rintro _ η29 ⟨rw13, Ew13, rfl, haw13, upw13⟩
        have ok := (ok).dsk (d := dnd1) (r := rw12) upw13
        have hkw13 : DkOk rw13.abs := by rw [haw13]; exact (hkw12).trunc
        have hcw13 : rw13.chg ≤ rw12.chg + 1 := Int.le_trans (Int.le_of_eq (congrArg Dk.chg haw13)) trunc_chg
        have hvw13 : truncN rw12.abs ([102] : List UInt8) z1 = (fu1, (if z1 < 0 then 1 else 5)) := by rw [hbw12]; exact fu_trunc (by omega)
        rw [hvw13] at haw13 ⊢
        have hbw13 : rw13.abs = fu1 := haw13
        refine .w 56 .mvI <| .w 57 .eql <| .w 58 .pkt <| .w 59 .mvB <| .sd (fun G59 => ?_) (fun G59 => ?_)
        ·
          refine .w 60 .mvI <| .w 61 .eql <| .w 62 .pkt <| .w 63 .mvB <| .sd (fun G63 => ?_) (fun G63 => ?_)
          ·
            refine .w 64 .mvB <| .w 65 .pkt <| .w 66 .mvB <| .w 67 .mvP <| .k 68 .func (changes_any (d := dnd1) (r := rw13) (dsk_parts (ok.m0)).1) <| .w 69 .eql <| .w 70 .pkt <| .w 4 .asB <| .nil ?_
            refine .ret ⟨.bool (decide (rw13.chg = 1)), Res.one rfl rfl, ⟨by rw [show rw13.chg = 1 from congrArg Dk.chg hbw13]; rfl, ok.chg⟩⟩
          exact absurd rfl G63
        first | (rw [if_neg C3] at G59; exact absurd rfl G59) | (rw [if_pos C3] at G59; exact absurd rfl G59) | (simp_all; done) | (simp_all; omega)
      first | (rw [if_neg C2] at G52; exact absurd rfl G52) | (rw [if_pos C2] at G52; exact absurd rfl G52) | (simp_all; done) | (simp_all; omega)
    refine .skip <| .seq <| .seq <| .r <| .w 36 .mvI <| .w 37 .lss <| .nil ?_
    refine .cd (fun C3 => ?_) (fun C3 => ?_)
    · --
      refine .r <| .w 7 .asI <| .nil ?_
      refine .seq <| .r <| .w 39 .mvP <| .k 40 .func ((size_anyD (d := dnd1) (r := rw1) (n := ([102] : List UInt8)) (ok.m0)).mono fun _ _ q => (by rw [show sizeN rw1.abs ([102] : List UInt8) = (1, true) from by rw [hbw1]; rfl] at q; exact q : _ = Value.tuple #[.int .i64 ((1 : Nat) : Int), .bool true] ∧ _)) <| .w 38 .mvU <| .w 41 .ex <| .w 42 .ex <| .w 8 .asI <| .w 9 .asB <| .nil ?_
      refine .seq <| .r <| .c' 43 .func live_any ?_
      rintro _ η30 ⟨rfl, hx⟩
      have ok := ok.ext hx
      refine .w 44 .mvB <| .w 45 .mvP <| .w 46 .mvI <| .a' 47 (.lit [.const (.int .u8 1)] (cs := [.int .u8 1]) T.el22 T.sz5 T.zr5 ok ⟨rfl, trivial⟩) ?_
      rintro _ η31 ⟨pb8, rfl, ok, xe⟩
      have ok := ok.cx (ys := ([1] : List UInt8).map bv) rfl
      have ok := (ok).frzB (l := [1]) rfl
      refine .c' 48 .func (write_any (d := dnd1) (r := rw1) (E := Ew1) (n := ([102] : List UInt8)) (z := z0) (a := some ⟨pb8, 0, none⟩) (c := 1) (l := [1]) (ok.f1).loc2 hkw1 (by omega) ⟨by omega, by omega⟩) ?_
      rintro _ η32 ⟨rw14, Ew14, rfl, haw14, upw14⟩
      have ok := (ok.f1).dsk (d := dnd1) (r := rw1) upw14
      have hkw14 : DkOk rw14.abs := by rw [haw14]; exact (hkw1).write
      have hcw14 : rw14.chg ≤ rw1.chg + 1 := Int.le_trans (Int.le_of_eq (congrArg Dk.chg haw14)) write_chg
      have hvw14 : writeN rw1.abs ([102] : List UInt8) z0 [1] = (fu1, (if z0 < 0 then 1 else 5)) := by rw [hbw1]; exact fu_write (by omega)
      rw [hvw14] at haw14 ⊢
      have hbw14 : rw14.abs = fu1 := haw14
      refine .w 49 .mvI <| .w 50 .eql <| .w 51 .pkt <| .w 52 .mvB <| .sd (fun G52 => ?_) (fun G52 => ?_)
      ·
        refine .w 53 .mvP <| .w 54 .mvI <| .c' 55 .func (trunc_any (d := dnd1) (r := rw14) (E := Ew14) (n := ([102] : List UInt8)) (z := z1) (ok).loc1 hkw14 (by omega) ⟨by omega, by omega⟩) ?_
        rintro _ η33 ⟨rw15, Ew15, rfl, haw15, upw15⟩
        have ok := (ok).dsk (d := dnd1) (r := rw14) upw15
        have hkw15 : DkOk rw15.abs := by rw [haw15]; exact (hkw14).trunc
        have hcw15 : rw15.chg ≤ rw14.chg + 1 := Int.le_trans (Int.le_of_eq (congrArg Dk.chg haw15)) trunc_chg
        have hvw15 : truncN rw14.abs ([102] : List UInt8) z1 = (fu1, (if z1 < 0 then 1 else 5)) := by rw [hbw14]; exact fu_trunc (by omega)
        rw [hvw15] at haw15 ⊢
        have hbw15 : rw15.abs = fu1 := haw15
        refine .w 56 .mvI <| .w 57 .eql <| .w 58 .pkt <| .w 59 .mvB <| .sd (fun G59 => ?_) (fun G59 => ?_)
        ·
          refine .w 60 .mvI <| .w 61 .eql <| .w 62 .pkt <| .w 63 .mvB <| .sd (fun G63 => ?_) (fun G63 => ?_)
          ·
            refine .w 64 .mvB <| .w 65 .pkt <| .w 66 .mvB <| .w 67 .mvP <| .k 68 .func (changes_any (d := dnd1) (r := rw15) (dsk_parts (ok.m0)).1) <| .w 69 .eql <| .w 70 .pkt <| .w 4 .asB <| .nil ?_
            refine .ret ⟨.bool (decide (rw15.chg = 1)), Res.one rfl rfl, ⟨by rw [show rw15.chg = 1 from congrArg Dk.chg hbw15]; rfl, ok.chg⟩⟩
          exact absurd rfl G63
        first | (rw [if_neg C3] at G59; exact absurd rfl G59) | (rw [if_pos C3] at G59; exact absurd rfl G59) | (simp_all; done) | (simp_all; omega)
      first | (rw [if_neg C2] at G52; exact absurd rfl G52) | (rw [if_pos C2] at G52; exact absurd rfl G52) | (simp_all; done) | (simp_all; omega)
    refine .skip <| .seq <| .r <| .w 39 .mvP <| .k 40 .func ((size_anyD (d := dnd1) (r := rw1) (n := ([102] : List UInt8)) (ok.m0)).mono fun _ _ q => (by rw [show sizeN rw1.abs ([102] : List UInt8) = (1, true) from by rw [hbw1]; rfl] at q; exact q : _ = Value.tuple #[.int .i64 ((1 : Nat) : Int), .bool true] ∧ _)) <| .w 38 .mvU <| .w 41 .ex <| .w 42 .ex <| .w 8 .asI <| .w 9 .asB <| .nil ?_
    refine .seq <| .r <| .c' 43 .func live_any ?_
    rintro _ η34 ⟨rfl, hx⟩
    have ok := ok.ext hx
    refine .w 44 .mvB <| .w 45 .mvP <| .w 46 .mvI <| .a' 47 (.lit [.const (.int .u8 1)] (cs := [.int .u8 1]) T.el22 T.sz5 T.zr5 ok ⟨rfl, trivial⟩) ?_
    rintro _ η35 ⟨pb9, rfl, ok, xe⟩
    have ok := ok.cx (ys := ([1] : List UInt8).map bv) rfl
    have ok := (ok).frzB (l := [1]) rfl
    refine .c' 48 .func (write_any (d := dnd1) (r := rw1) (E := Ew1) (n := ([102] : List UInt8)) (z := z0) (a := some ⟨pb9, 0, none⟩) (c := 1) (l := [1]) (ok.f1).loc2 hkw1 (by omega) ⟨by omega, by omega⟩) ?_
    rintro _ η36 ⟨rw16, Ew16, rfl, haw16, upw16⟩
    have ok := (ok.f1).dsk (d := dnd1) (r := rw1) upw16
    have hkw16 : DkOk rw16.abs := by rw [haw16]; exact (hkw1).write
    have hcw16 : rw16.chg ≤ rw1.chg + 1 := Int.le_trans (Int.le_of_eq (congrArg Dk.chg haw16)) write_chg
    have hvw16 : writeN rw1.abs ([102] : List UInt8) z0 [1] = (fu1, (if z0 < 0 then 1 else 5)) := by rw [hbw1]; exact fu_write (by omega)
    rw [hvw16] at haw16 ⊢
    have hbw16 : rw16.abs = fu1 := haw16
    refine .w 49 .mvI <| .w 50 .eql <| .w 51 .pkt <| .w 52 .mvB <| .sd (fun G52 => ?_) (fun G52 => ?_)
    ·
      refine .w 53 .mvP <| .w 54 .mvI <| .c' 55 .func (trunc_any (d := dnd1) (r := rw16) (E := Ew16) (n := ([102] : List UInt8)) (z := z1) (ok).loc1 hkw16 (by omega) ⟨by omega, by omega⟩) ?_
      rintro _ η37 ⟨rw17, Ew17, rfl, haw17, upw17⟩
      have ok := (ok).dsk (d := dnd1) (r := rw16) upw17
      have hkw17 : DkOk rw17.abs := by rw [haw17]; exact (hkw16).trunc
      have hcw17 : rw17.chg ≤ rw16.chg + 1 := Int.le_trans (Int.le_of_eq (congrArg Dk.chg haw17)) trunc_chg
      have hvw17 : truncN rw16.abs ([102] : List UInt8) z1 = (fu1, (if z1 < 0 then 1 else 5)) := by rw [hbw16]; exact fu_trunc (by omega)
      rw [hvw17] at haw17 ⊢
      have hbw17 : rw17.abs = fu1 := haw17
      refine .w 56 .mvI <| .w 57 .eql <| .w 58 .pkt <| .w 59 .mvB <| .sd (fun G59 => ?_) (fun G59 => ?_)
      ·
        refine .w 60 .mvI <| .w 61 .eql <| .w 62 .pkt <| .w 63 .mvB <| .sd (fun G63 => ?_) (fun G63 => ?_)
        ·
          refine .w 64 .mvB <| .w 65 .pkt <| .w 66 .mvB <| .w 67 .mvP <| .k 68 .func (changes_any (d := dnd1) (r := rw17) (dsk_parts (ok.m0)).1) <| .w 69 .eql <| .w 70 .pkt <| .w 4 .asB <| .nil ?_
          refine .ret ⟨.bool (decide (rw17.chg = 1)), Res.one rfl rfl, ⟨by rw [show rw17.chg = 1 from congrArg Dk.chg hbw17]; rfl, ok.chg⟩⟩
        exact absurd rfl G63
      first | (rw [if_neg C3] at G59; exact absurd rfl G59) | (rw [if_pos C3] at G59; exact absurd rfl G59) | (simp_all; done) | (simp_all; omega)
    first | (rw [if_neg C2] at G52; exact absurd rfl G52) | (rw [if_pos C2] at G52; exact absurd rfl G52) | (simp_all; done) | (simp_all; omega)
  refine .x 22 <| .x 23 <| .w 24 .pkf <| .w 25 .mvB <| .w 26 .mvI <| .w 27 .geq <| .w 28 .mvB <| .sd (fun G28 => ?_) (fun G28 => ?_)
  ·
    refine .w 29 .mvI <| .w 30 .leq <| .w 31 .pkt <| .w 32 .pkf <| .nil ?_
    refine .cd (fun C1 => ?_) (fun C1 => ?_)
    · --
      refine .seq <| .r <| .c' 33 .func live_any ?_
      rintro _ η38 ⟨rfl, hx⟩
      have ok := ok.ext hx
      refine .w 4 .asB <| .nil ?_
      refine .ret ⟨.bool true, Res.one rfl rfl, ⟨rfl, ok.chg⟩⟩
    refine .skip <| .seq <| .r <| .w 6 .asI <| .w 7 .asI <| .nil ?_
    refine .seq <| .seq <| .r <| .w 34 .mvI <| .w 35 .lss <| .nil ?_
    refine .cd (fun C2 => ?_) (fun C2 => ?_)
    · --
      refine .r <| .w 6 .asI <| .nil ?_
      refine .seq <| .seq <| .r <| .w 36 .mvI <| .w 37 .lss <| .nil ?_
      refine .cd (fun C3 => ?_) (fun C3 => ?_)
      · --
        refine .r <| .w 7 .asI <| .nil ?_
        refine .seq <| .r <| .w 39 .mvP <| .k 40 .func ((size_anyD (d := dnd1) (r := rw1) (n := ([102] : List UInt8)) (ok.m0)).mono fun _ _ q => (by rw [show sizeN rw1.abs ([102] : List UInt8) = (1, true) from by rw [hbw1]; rfl] at q; exact q : _ = Value.tuple #[.int .i64 ((1 : Nat) : Int), .bool true] ∧ _)) <| .w 38 .mvU <| .w 41 .ex <| .w 42 .ex <| .w 8 .asI <| .w 9 .asB <| .nil ?_
        refine .seq <| .r <| .c' 43 .func live_any ?_
        rintro _ η39 ⟨rfl, hx⟩
        have ok := ok.ext hx
        refine .w 44 .mvB <| .w 45 .mvP <| .w 46 .mvI <| .a' 47 (.lit [.const (.int .u8 1)] (cs := [.int .u8 1]) T.el22 T.sz5 T.zr5 ok ⟨rfl, trivial⟩) ?_
        rintro _ η40 ⟨pb10, rfl, ok, xe⟩
        have ok := ok.cx (ys := ([1] : List UInt8).map bv) rfl
        have ok := (ok).frzB (l := [1]) rfl
        refine .c' 48 .func (write_any (d := dnd1) (r := rw1) (E := Ew1) (n := ([102] : List UInt8)) (z := z0) (a := some ⟨pb10, 0, none⟩) (c := 1) (l := [1]) (ok.f1).loc2 hkw1 (by omega) ⟨by omega, by omega⟩) ?_
        rintro _ η41 ⟨rw18, Ew18, rfl, haw18, upw18⟩
        have ok := (ok.f1).dsk (d := dnd1) (r := rw1) upw18
        have hkw18 : DkOk rw18.abs := by rw [haw18]; exact (hkw1).write
        have hcw18 : rw18.chg ≤ rw1.chg + 1 := Int.le_trans (Int.le_of_eq (congrArg Dk.chg haw18)) write_chg
        have hvw18 : writeN rw1.abs ([102] : List UInt8) z0 [1] = (fu1, (if z0 < 0 then 1 else 5)) := by rw [hbw1]; exact fu_write (by omega)
        rw [hvw18] at haw18 ⊢
        have hbw18 : rw18.abs = fu1 := haw18
        refine .w 49 .mvI <| .w 50 .eql <| .w 51 .pkt <| .w 52 .mvB <| .sd (fun G52 => ?_) (fun G52 => ?_)
        ·
          refine .w 53 .mvP <| .w 54 .mvI <| .c' 55 .func (trunc_any (d := dnd1) (r := rw18) (E := Ew18) (n := ([102] : List UInt8)) (z := z1) (ok).loc1 hkw18 (by omega) ⟨by omega, by omega⟩) ?_
          rintro _ η42 ⟨rw19, Ew19, rfl, haw19, upw19⟩
          have ok := (ok).dsk (d := dnd1) (r := rw18) upw19
          have hkw19 : DkOk rw19.abs := by rw [haw19]; exact (hkw18).trunc
          have hcw19 : rw19.chg ≤ rw18.chg + 1 := Int.le_trans (Int.le_of_eq (congrArg Dk.chg haw19)) trunc_chg
          have hvw19 : truncN rw18.abs ([102] : List UInt8) z1 = (fu1, (if z1 < 0 then 1 else 5)) := by rw [hbw18]; exact fu_trunc (by omega)
          rw [hvw19] at haw19 ⊢
          have hbw19 : rw19.abs = fu1 := haw19
          refine .w 56 .mvI <| .w 57 .eql <| .w 58 .pkt <| .w 59 .mvB <| .sd (fun G59 => ?_) (fun G59 => ?_)
          ·
            refine .w 60 .mvI <| .w 61 .eql <| .w 62 .pkt <| .w 63 .mvB <| .sd (fun G63 => ?_) (fun G63 => ?_)
            ·
              refine .w 64 .mvB <| .w 65 .pkt <| .w 66 .mvB <| .w 67 .mvP <| .k 68 .func (changes_any (d := dnd1) (r := rw19) (dsk_parts (ok.m0)).1) <| .w 69 .eql <| .w 70 .pkt <| .w 4 .asB <| .nil ?_
              refine .ret ⟨.bool (decide (rw19.chg = 1)), Res.one rfl rfl, ⟨by rw [show rw19.chg = 1 from congrArg Dk.chg hbw19]; rfl, ok.chg⟩⟩
            exact absurd rfl G63
          first | (rw [if_neg C3] at G59; exact absurd rfl G59) | (rw [if_pos C3] at G59; exact absurd rfl G59) | (simp_all; done) | (simp_all; omega)
        first | (rw [if_neg C2] at G52; exact absurd rfl G52) | (rw [if_pos C2] at G52; exact absurd rfl G52) | (simp_all; done) | (simp_all; omega)
      refine .skip <| .seq <| .r <| .w 39 .mvP <| .k 40 .func ((size_anyD (d := dnd1) (r := rw1) (n := ([102] : List UInt8)) (ok.m0)).mono fun _ _ q => (by rw [show sizeN rw1.abs ([102] : List UInt8) = (1, true) from by rw [hbw1]; rfl] at q; exact q : _ = Value.tuple #[.int .i64 ((1 : Nat) : Int), .bool true] ∧ _)) <| .w 38 .mvU <| .w 41 .ex <| .w 42 .ex <| .w 8 .asI <| .w 9 .asB <| .nil ?_
      refine .seq <| .r <| .c' 43 .func live_any ?_
      rintro _ η43 ⟨rfl, hx⟩
      have ok := ok.ext hx
      refine .w 44 .mvB <| .w 45 .mvP <| .w 46 .mvI <| .a' 47 (.lit [.const (.int .u8 1)] (cs := [.int .u8 1]) T.el22 T.sz5 T.zr5 ok ⟨rfl, trivial⟩) ?_
      rintro _ η44 ⟨pb11, rfl, ok, xe⟩
      have ok := ok.cx (ys := ([1] : List UInt8).map bv) rfl
      have ok := (ok).frzB (l := [1]) rfl
      refine .c' 48 .func (write_any (d := dnd1) (r := rw1) (E := Ew1) (n := ([102] : List UInt8)) (z := z0) (a := some ⟨pb11, 0, none⟩) (c := 1) (l := [1]) (ok.f1).loc2 hkw1 (by omega) ⟨by omega, by omega⟩) ?_
      rintro _ η45 ⟨rw20, Ew20, rfl, haw20, upw20⟩
      have ok := (ok.f1).dsk (d := dnd1) (r := rw1) upw20
      have hkw20 : DkOk rw20.abs := by rw [haw20]; exact (hkw1).write
      have hcw20 : rw20.chg ≤ rw1.chg + 1 := Int.le_trans (Int.le_of_eq (congrArg Dk.chg haw20)) write_chg
      have hvw20 : writeN rw1.abs ([102] : List UInt8) z0 [1] = (fu1, (if z0 < 0 then 1 else 5)) := by rw [hbw1]; exact fu_write (by omega)
      rw [hvw20] at haw20 ⊢
      have hbw20 : rw20.abs = fu1 := haw20
      refine .w 49 .mvI <| .w 50 .eql <| .w 51 .pkt <| .w 52 .mvB <| .sd (fun G52 => ?_) (fun G52 => ?_)
      ·
        refine .w 53 .mvP <| .w 54 .mvI <| .c' 55 .func (trunc_any (d := dnd1) (r := rw20) (E := Ew20) (n := ([102] : List UInt8)) (z := z1) (ok).loc1 hkw20 (by omega) ⟨by omega, by omega⟩) ?_
        rintro _ η46 ⟨rw21, Ew21, rfl, haw21, upw21⟩
        have ok := (ok).dsk (d := dnd1) (r := rw20) upw21
        have hkw21 : DkOk rw21.abs := by rw [haw21]; exact (hkw20).trunc
        have hcw21 : rw21.chg ≤ rw20.chg + 1 := Int.le_trans (Int.le_of_eq (congrArg Dk.chg haw21)) trunc_chg
        have hvw21 : truncN rw20.abs ([102] : List UInt8) z1 = (fu1, (if z1 < 0 then 1 else 5)) := by rw [hbw20]; exact fu_trunc (by omega)
        rw [hvw21] at haw21 ⊢
        have hbw21 : rw21.abs = fu1 := haw21
        refine .w 56 .mvI <| .w 57 .eql <| .w 58 .pkt <| .w 59 .mvB <| .sd (fun G59 => ?_) (fun G59 => ?_)
        ·
          refine .w 60 .mvI <| .w 61 .eql <| .w 62 .pkt <| .w 63 .mvB <| .sd (fun G63 => ?_) (fun G63 => ?_)
          ·
            refine .w 64 .mvB <| .w 65 .pkt <| .w 66 .mvB <| .w 67 .mvP <| .k 68 .func (changes_any (d := dnd1) (r := rw21) (dsk_parts (ok.m0)).1) <| .w 69 .eql <| .w 70 .pkt <| .w 4 .asB <| .nil ?_
            refine .ret ⟨.bool (decide (rw21.chg = 1)), Res.one rfl rfl, ⟨by rw [show rw21.chg = 1 from congrArg Dk.chg hbw21]; rfl, ok.chg⟩⟩
          exact absurd rfl G63
        first | (rw [if_neg C3] at G59; exact absurd rfl G59) | (rw [if_pos C3] at G59; exact absurd rfl G59) | (simp_all; done) | (simp_all; omega)
      first | (rw [if_neg C2] at G52; exact absurd rfl G52) | (rw [if_pos C2] at G52; exact absurd rfl G52) | (simp_all; done) | (simp_all; omega)
    refine .skip <| .seq <| .seq <| .r <| .w 36 .mvI <| .w 37 .lss <| .nil ?_
    refine .cd (fun C3 => ?_) (fun C3 => ?_)
    · --
      refine .r <| .w 7 .asI <| .nil ?_
      refine .seq <| .r <| .w 39 .mvP <| .k 40 .func ((size_anyD (d := dnd1) (r := rw1) (n := ([102] : List UInt8)) (ok.m0)).mono fun _ _ q => (by rw [show sizeN rw1.abs ([102] : List UInt8) = (1, true) from by rw [hbw1]; rfl] at q; exact q : _ = Value.tuple #[.int .i64 ((1 : Nat) : Int), .bool true] ∧ _)) <| .w 38 .mvU <| .w 41 .ex <| .w 42 .ex <| .w 8 .asI <| .w 9 .asB <| .nil ?_
      refine .seq <| .r <| .c' 43 .func live_any ?_
      rintro _ η47 ⟨rfl, hx⟩
      have ok := ok.ext hx
      refine .w 44 .mvB <| .w 45 .mvP <| .w 46 .mvI <| .a' 47 (.lit [.const (.int .u8 1)] (cs := [.int .u8 1]) T.el22 T.sz5 T.zr5 ok ⟨rfl, trivial⟩) ?_
      rintro _ η48 ⟨pb12, rfl, ok, xe⟩
      have ok := ok.cx (ys := ([1] : List UInt8).map bv) rfl
      have ok := (ok).frzB (l := [1]) rfl
      refine .c' 48 .func (write_any (d := dnd1) (r := rw1) (E := Ew1) (n := ([102] : List UInt8)) (z := z0) (a := some ⟨pb12, 0, none⟩) (c := 1) (l := [1]) (ok.f1).loc2 hkw1 (by omega) ⟨by omega, by omega⟩) ?_
      rintro _ η49 ⟨rw22, Ew22, rfl, haw22, upw22⟩
      have ok := (ok.f1).dsk (d := dnd1) (r := rw1) upw22
      have hkw22 : DkOk rw22.abs := by rw [haw22]; exact (hkw1).write
      have hcw22 : rw22.chg ≤ rw1.chg + 1 := Int.le_trans (Int.le_of_eq (congrArg Dk.chg haw22)) write_chg
      have hvw22 : writeN rw1.abs ([102] : List UInt8) z0 [1] = (fu1, (if z0 < 0 then 1 else 5)) := by rw [hbw1]; exact fu_write (by omega)
      rw [hvw22] at haw22 ⊢
      have hbw22 : rw22.abs = fu1 := haw22
      refine .w 49 .mvI <| .w 50 .eql <| .w 51 .pkt <| .w 52 .mvB <| .sd (fun G52 => ?_) (fun G52 => ?_)
      ·
        refine .w 53 .mvP <| .w 54 .mvI <| .c' 55 .func (trunc_any (d := dnd1) (r := rw22) (E := Ew22) (n := ([102] : List UInt8)) (z := z1) (ok).loc1 hkw22 (by omega) ⟨by omega, by omega⟩) ?_
        rintro _ η50 ⟨rw23, Ew23, rfl, haw23, upw23⟩
        have ok := (ok).dsk (d := dnd1) (r := rw22) upw23
        have hkw23 : DkOk rw23.abs := by rw [haw23]; exact (hkw22).trunc
        have hcw23 : rw23.chg ≤ rw22.chg + 1 := Int.le_trans (Int.le_of_eq (congrArg Dk.chg haw23)) trunc_chg
        have hvw23 : truncN rw22.abs ([102] : List UInt8) z1 = (fu1, (if z1 < 0 then 1 else 5)) := by rw [hbw22]; exact fu_trunc (by omega)
        rw [hvw23] at haw23 ⊢
        have hbw23 : rw23.abs = fu1 := haw23
        refine .w 56 .mvI <| .w 57 .eql <| .w 58 .pkt <| .w 59 .mvB <| .sd (fun G59 => ?_) (fun G59 => ?_)
        ·
          refine .w 60 .mvI <| .w 61 .eql <| .w 62 .pkt <| .w 63 .mvB <| .sd (fun G63 => ?_) (fun G63 => ?_)
          ·
            refine .w 64 .mvB <| .w 65 .pkt <| .w 66 .mvB <| .w 67 .mvP <| .k 68 .func (changes_any (d := dnd1) (r := rw23) (dsk_parts (ok.m0)).1) <| .w 69 .eql <| .w 70 .pkt <| .w 4 .asB <| .nil ?_
            refine .ret ⟨.bool (decide (rw23.chg = 1)), Res.one rfl rfl, ⟨by rw [show rw23.chg = 1 from congrArg Dk.chg hbw23]; rfl, ok.chg⟩⟩
          exact absurd rfl G63
        first | (rw [if_neg C3] at G59; exact absurd rfl G59) | (rw [if_pos C3] at G59; exact absurd rfl G59) | (simp_all; done) | (simp_all; omega)
      first | (rw [if_neg C2] at G52; exact absurd rfl G52) | (rw [if_pos C2] at G52; exact absurd rfl G52) | (simp_all; done) | (simp_all; omega)
    refine .skip <| .seq <| .r <| .w 39 .mvP <| .k 40 .func ((size_anyD (d := dnd1) (r := rw1) (n := ([102] : List UInt8)) (ok.m0)).mono fun _ _ q => (by rw [show sizeN rw1.abs ([102] : List UInt8) = (1, true) from by rw [hbw1]; rfl] at q; exact q : _ = Value.tuple #[.int .i64 ((1 : Nat) : Int), .bool true] ∧ _)) <| .w 38 .mvU <| .w 41 .ex <| .w 42 .ex <| .w 8 .asI <| .w 9 .asB <| .nil ?_
    refine .seq <| .r <| .c' 43 .func live_any ?_
    rintro _ η51 ⟨rfl, hx⟩
    have ok := ok.ext hx
    refine .w 44 .mvB <| .w 45 .mvP <| .w 46 .mvI <| .a' 47 (.lit [.const (.int .u8 1)] (cs := [.int .u8 1]) T.el22 T.sz5 T.zr5 ok ⟨rfl, trivial⟩) ?_
    rintro _ η52 ⟨pb13, rfl, ok, xe⟩
    have ok := ok.cx (ys := ([1] : List UInt8).map bv) rfl
    have ok := (ok).frzB (l := [1]) rfl
    refine .c' 48 .func (write_any (d := dnd1) (r := rw1) (E := Ew1) (n := ([102] : List UInt8)) (z := z0) (a := some ⟨pb13, 0, none⟩) (c := 1) (l := [1]) (ok.f1).loc2 hkw1 (by omega) ⟨by omega, by omega⟩) ?_
    rintro _ η53 ⟨rw24, Ew24, rfl, haw24, upw24⟩
    have ok := (ok.f1).dsk (d := dnd1) (r := rw1) upw24
    have hkw24 : DkOk rw24.abs := by rw [haw24]; exact (hkw1).write
    have hcw24 : rw24.chg ≤ rw1.chg + 1 := Int.le_trans (Int.le_of_eq (congrArg Dk.chg haw24)) write_chg
    have hvw24 : writeN rw1.abs ([102] : List UInt8) z0 [1] = (fu1, (if z0 < 0 then 1 else 5)) := by rw [hbw1]; exact fu_write (by omega)
    rw [hvw24] at haw24 ⊢
    have hbw24 : rw24.abs = fu1 := haw24
    refine .w 49 .mvI <| .w 50 .eql <| .w 51 .pkt <| .w 52 .mvB <| .sd (fun G52 => ?_) (fun G52 => ?_)
    ·
      refine .w 53 .mvP <| .w 54 .mvI <| .c' 55 .func (trunc_any (d := dnd1) (r := rw24) (E := Ew24) (n := ([102] : List UInt8)) (z := z1) (ok).loc1 hkw24 (by omega) ⟨by omega, by omega⟩) ?_
      rintro _ η54 ⟨rw25, Ew25, rfl, haw25, upw25⟩
      have ok := (ok).dsk (d := dnd1) (r := rw24) upw25
      have hkw25 : DkOk rw25.abs := by rw [haw25]; exact (hkw24).trunc
      have hcw25 : rw25.chg ≤ rw24.chg + 1 := Int.le_trans (Int.le_of_eq (congrArg Dk.chg haw25)) trunc_chg
      have hvw25 : truncN rw24.abs ([102] : List UInt8) z1 = (fu1, (if z1 < 0 then 1 else 5)) := by rw [hbw24]; exact fu_trunc (by omega)
      rw [hvw25] at haw25 ⊢
      have hbw25 : rw25.abs = fu1 := haw25
      refine .w 56 .mvI <| .w 57 .eql <| .w 58 .pkt <| .w 59 .mvB <| .sd (fun G59 => ?_) (fun G59 => ?_)
      ·
        refine .w 60 .mvI <| .w 61 .eql <| .w 62 .pkt <| .w 63 .mvB <| .sd (fun G63 => ?_) (fun G63 => ?_)
        ·
          refine .w 64 .mvB <| .w 65 .pkt <| .w 66 .mvB <| .w 67 .mvP <| .k 68 .func (changes_any (d := dnd1) (r := rw25) (dsk_parts (ok.m0)).1) <| .w 69 .eql <| .w 70 .pkt <| .w 4 .asB <| .nil ?_
          refine .ret ⟨.bool (decide (rw25.chg = 1)), Res.one rfl rfl, ⟨by rw [show rw25.chg = 1 from congrArg Dk.chg hbw25]; rfl, ok.chg⟩⟩
        exact absurd rfl G63
      first | (rw [if_neg C3] at G59; exact absurd rfl G59) | (rw [if_pos C3] at G59; exact absurd rfl G59) | (simp_all; done) | (simp_all; omega)
    first | (rw [if_neg C2] at G52; exact absurd rfl G52) | (rw [if_pos C2] at G52; exact absurd rfl G52) | (simp_all; done) | (simp_all; omega)
  refine .x 29 <| .x 30 <| .w 31 .pkf <| .w 32 .pkf <| .nil ?_
  refine .cf <| .skip <| .seq <| .r <| .w 6 .asI <| .w 7 .asI <| .nil ?_
  refine .seq <| .seq <| .r <| .w 34 .mvI <| .w 35 .lss <| .nil ?_
  refine .cd (fun C2 => ?_) (fun C2 => ?_)
  · --
    refine .r <| .w 6 .asI <| .nil ?_
    refine .seq <| .seq <| .r <| .w 36 .mvI <| .w 37 .lss <| .nil ?_
    refine .cd (fun C3 => ?_) (fun C3 => ?_)
    · --
      refine .r <| .w 7 .asI <| .nil ?_
      refine .seq <| .r <| .w 39 .mvP <| .k 40 .func ((size_anyD (d := dnd1) (r := rw1) (n := ([102] : List UInt8)) (ok.m0)).mono fun _ _ q => (by rw [show sizeN rw1.abs ([102] : List UInt8) = (1, true) from by rw [hbw1]; rfl] at q; exact q : _ = Value.tuple #[.int .i64 ((1 : Nat) : Int), .bool true] ∧ _)) <| .w 38 .mvU <| .w 41 .ex <| .w 42 .ex <| .w 8 .asI <| .w 9 .asB <| .nil ?_
      refine .seq <| .r <| .c' 43 .func live_any ?_
      rintro _ η55 ⟨rfl, hx⟩
      have ok := ok.ext hx
      refine .w 44 .mvB <| .w 45 .mvP <| .w 46 .mvI <| .a' 47 (.lit [.const (.int .u8 1)] (cs := [.int .u8 1]) T.el22 T.sz5 T.zr5 ok ⟨rfl, trivial⟩) ?_
      rintro _ η56 ⟨pb14, rfl, ok, xe⟩
      have ok := ok.cx (ys := ([1] : List UInt8).map bv) rfl
      have ok := (ok).frzB (l := [1]) rfl
      refine .c' 48 .func (write_any (d := dnd1) (r := rw1) (E := Ew1) (n := ([102] : List UInt8)) (z := z0) (a := some ⟨pb14, 0, none⟩) (c := 1) (l := [1]) (ok.f1).loc2 hkw1 (by omega) ⟨by omega, by omega⟩) ?_
      rintro _ η57 ⟨rw26, Ew26, rfl, haw26, upw26⟩
      have ok := (ok.f1).dsk (d := dnd1) (r := rw1) upw26
      have hkw26 : DkOk rw26.abs := by rw [haw26]; exact (hkw1).write
      have hcw26 : rw26.chg ≤ rw1.chg + 1 := Int.le_trans (Int.le_of_eq (congrArg Dk.chg haw26)) write_chg
      have hvw26 : writeN rw1.abs ([102] : List UInt8) z0 [1] = (fu1, (if z0 < 0 then 1 else 5)) := by rw [hbw1]; exact fu_write (by omega)
      rw [hvw26] at haw26 ⊢
      have hbw26 : rw26.abs = fu1 := haw26
      refine .w 49 .mvI <| .w 50 .eql <| .w 51 .pkt <| .w 52 .mvB <| .sd (fun G52 => ?_) (fun G52 => ?_)
      ·
        refine .w 53 .mvP <| .w 54 .mvI <| .c' 55 .func (trunc_any (d := dnd1) (r := rw26) (E := Ew26) (n := ([102] : List UInt8)) (z := z1) (ok).loc1 hkw26 (by omega) ⟨by omega, by omega⟩) ?_
        rintro _ η58 ⟨rw27, Ew27, rfl, haw27, upw27⟩
        have ok := (ok).dsk (d := dnd1) (r := rw26) upw27
        have hkw27 : DkOk rw27.abs := by rw [haw27]; exact (hkw26).trunc
        have hcw27 : rw27.chg ≤ rw26.chg + 1 := Int.le_trans (Int.le_of_eq (congrArg Dk.chg haw27)) trunc_chg
        have hvw27 : truncN rw26.abs ([102] : List UInt8) z1 = (fu1, (if z1 < 0 then 1 else 5)) := by rw [hbw26]; exact fu_trunc (by omega)
        rw [hvw27] at haw27 ⊢
        have hbw27 : rw27.abs = fu1 := haw27
        refine .w 56 .mvI <| .w 57 .eql <| .w 58 .pkt <| .w 59 .mvB <| .sd (fun G59 => ?_) (fun G59 => ?_)
        ·
          refine .w 60 .mvI <| .w 61 .eql <| .w 62 .pkt <| .w 63 .mvB <| .sd (fun G63 => ?_) (fun G63 => ?_)
          ·
            refine .w 64 .mvB <| .w 65 .pkt <| .w 66 .mvB <| .w 67 .mvP <| .k 68 .func (changes_any (d := dnd1) (r := rw27) (dsk_parts (ok.m0)).1) <| .w 69 .eql <| .w 70 .pkt <| .w 4 .asB <| .nil ?_
            refine .ret ⟨.bool (decide (rw27.chg = 1)), Res.one rfl rfl, ⟨by rw [show rw27.chg = 1 from congrArg Dk.chg hbw27]; rfl, ok.chg⟩⟩
          exact absurd rfl G63
        first | (rw [if_neg C3] at G59; exact absurd rfl G59) | (rw [if_pos C3] at G59; exact absurd rfl G59) | (simp_all; done) | (simp_all; omega)
      first | (rw [if_neg C2] at G52; exact absurd rfl G52) | (rw [if_pos C2] at G52; exact absurd rfl G52) | (simp_all; done) | (simp_all; omega)
    refine .skip <| .seq <| .r <| .w 39 .mvP <| .k 40 .func ((size_anyD (d := dnd1) (r := rw1) (n := ([102] : List UInt8)) (ok.m0)).mono fun _ _ q => (by rw [show sizeN rw1.abs ([102] : List UInt8) = (1, true) from by rw [hbw1]; rfl] at q; exact q : _ = Value.tuple #[.int .i64 ((1 : Nat) : Int), .bool true] ∧ _)) <| .w 38 .mvU <| .w 41 .ex <| .w 42 .ex <| .w 8 .asI <| .w 9 .asB <| .nil ?_
    refine .seq <| .r <| .c' 43 .func live_any ?_
    rintro _ η59 ⟨rfl, hx⟩
    have ok := ok.ext hx
    refine .w 44 .mvB <| .w 45 .mvP <| .w 46 .mvI <| .a' 47 (.lit [.const (.int .u8 1)] (cs := [.int .u8 1]) T.el22 T.sz5 T.zr5 ok ⟨rfl, trivial⟩) ?_
    rintro _ η60 ⟨pb15, rfl, ok, xe⟩
    have ok := ok.cx (ys := ([1] : List UInt8).map bv) rfl
    have ok := (ok).frzB (l := [1]) rfl
    refine .c' 48 .func (write_any (d := dnd1) (r := rw1) (E := Ew1) (n := ([102] : List UInt8)) (z := z0) (a := some ⟨pb15, 0, none⟩) (c := 1) (l := [1]) (ok.f1).loc2 hkw1 (by omega) ⟨by omega, by omega⟩) ?_
    rintro _ η61 ⟨rw28, Ew28, rfl, haw28, upw28⟩
    have ok := (ok.f1).dsk (d := dnd1) (r := rw1) upw28
    have hkw28 : DkOk rw28.abs := by rw [haw28]; exact (hkw1).write
    have hcw28 : rw28.chg ≤ rw1.chg + 1 := Int.le_trans (Int.le_of_eq (congrArg Dk.chg haw28)) write_chg
    have hvw28 : writeN rw1.abs ([102] : List UInt8) z0 [1] = (fu1, (if z0 < 0 then 1 else 5)) := by rw [hbw1]; exact fu_write (by omega)
    rw [hvw28] at haw28 ⊢
    have hbw28 : rw28.abs = fu1 := haw28
    refine .w 49 .mvI <| .w 50 .eql <| .w 51 .pkt <| .w 52 .mvB <| .sd (fun G52 => ?_) (fun G52 => ?_)
    ·
      refine .w 53 .mvP <| .w 54 .mvI <| .c' 55 .func (trunc_any (d := dnd1) (r := rw28) (E := Ew28) (n := ([102] : List UInt8)) (z := z1) (ok).loc1 hkw28 (by omega) ⟨by omega, by omega⟩) ?_
      rintro _ η62 ⟨rw29, Ew29, rfl, haw29, upw29⟩
      have ok := (ok).dsk (d := dnd1) (r := rw28) upw29
      have hkw29 : DkOk rw29.abs := by rw [haw29]; exact (hkw28).trunc
      have hcw29 : rw29.chg ≤ rw28.chg + 1 := Int.le_trans (Int.le_of_eq (congrArg Dk.chg haw29)) trunc_chg
      have hvw29 : truncN rw28.abs ([102] : List UInt8) z1 = (fu1, (if z1 < 0 then 1 else 5)) := by rw [hbw28]; exact fu_trunc (by omega)
      rw [hvw29] at haw29 ⊢
      have hbw29 : rw29.abs = fu1 := haw29
      refine .w 56 .mvI <| .w 57 .eql <| .w 58 .pkt <| .w 59 .mvB <| .sd (fun G59 => ?_) (fun G59 => ?_)
      ·
        refine .w 60 .mvI <| .w 61 .eql <| .w 62 .pkt <| .w 63 .mvB <| .sd (fun G63 => ?_) (fun G63 => ?_)
        ·
          refine .w 64 .mvB <| .w 65 .pkt <| .w 66 .mvB <| .w 67 .mvP <| .k 68 .func (changes_any (d := dnd1) (r := rw29) (dsk_parts (ok.m0)).1) <| .w 69 .eql <| .w 70 .pkt <| .w 4 .asB <| .nil ?_
          refine .ret ⟨.bool (decide (rw29.chg = 1)), Res.one rfl rfl, ⟨by rw [show rw29.chg = 1 from congrArg Dk.chg hbw29]; rfl, ok.chg⟩⟩
        exact absurd rfl G63
      first | (rw [if_neg C3] at G59; exact absurd rfl G59) | (rw [if_pos C3] at G59; exact absurd rfl G59) | (simp_all; done) | (simp_all; omega)
    first | (rw [if_neg C2] at G52; exact absurd rfl G52) | (rw [if_pos C2] at G52; exact absurd rfl G52) | (simp_all; done) | (simp_all; omega)
  refine .skip <| .seq <| .seq <| .r <| .w 36 .mvI <| .w 37 .lss <| .nil ?_
  refine .cd (fun C3 => ?_) (fun C3 => ?_)
  · --
    refine .r <| .w 7 .asI <| .nil ?_
    refine .seq <| .r <| .w 39 .mvP <| .k 40 .func ((size_anyD (d := dnd1) (r := rw1) (n := ([102] : List UInt8)) (ok.m0)).mono fun _ _ q => (by rw [show sizeN rw1.abs ([102] : List UInt8) = (1, true) from by rw [hbw1]; rfl] at q; exact q : _ = Value.tuple #[.int .i64 ((1 : Nat) : Int), .bool true] ∧ _)) <| .w 38 .mvU <| .w 41 .ex <| .w 42 .ex <| .w 8 .asI <| .w 9 .asB <| .nil ?_
    refine .seq <| .r <| .c' 43 .func live_any ?_
    rintro _ η63 ⟨rfl, hx⟩
    have ok := ok.ext hx
    refine .w 44 .mvB <| .w 45 .mvP <| .w 46 .mvI <| .a' 47 (.lit [.const (.int .u8 1)] (cs := [.int .u8 1]) T.el22 T.sz5 T.zr5 ok ⟨rfl, trivial⟩) ?_
    rintro _ η64 ⟨pb16, rfl, ok, xe⟩
    have ok := ok.cx (ys := ([1] : List UInt8).map bv) rfl
    have ok := (ok).frzB (l := [1]) rfl
    refine .c' 48 .func (write_any (d := dnd1) (r := rw1) (E := Ew1) (n := ([102] : List UInt8)) (z := z0) (a := some ⟨pb16, 0, none⟩) (c := 1) (l := [1]) (ok.f1).loc2 hkw1 (by omega) ⟨by omega, by omega⟩) ?_
    rintro _ η65 ⟨rw30, Ew30, rfl, haw30, upw30⟩
    have ok := (ok.f1).dsk (d := dnd1) (r := rw1) upw30
    have hkw30 : DkOk rw30.abs := by rw [haw30]; exact (hkw1).write
    have hcw30 : rw30.chg ≤ rw1.chg + 1 := Int.le_trans (Int.le_of_eq (congrArg Dk.chg haw30)) write_chg
    have hvw30 : writeN rw1.abs ([102] : List UInt8) z0 [1] = (fu1, (if z0 < 0 then 1 else 5)) := by rw [hbw1]; exact fu_write (by omega)
    rw [hvw30] at haw30 ⊢
    have hbw30 : rw30.abs = fu1 := haw30
    refine .w 49 .mvI <| .w 50 .eql <| .w 51 .pkt <| .w 52 .mvB <| .sd (fun G52 => ?_) (fun G52 => ?_)
    ·
      refine .w 53 .mvP <| .w 54 .mvI <| .c' 55 .func (trunc_any (d := dnd1) (r := rw30) (E := Ew30) (n := ([102] : List UInt8)) (z := z1) (ok).loc1 hkw30 (by omega) ⟨by omega, by omega⟩) ?_
      rintro _ η66 ⟨rw31, Ew31, rfl, haw31, upw31⟩
      have ok := (ok).dsk (d := dnd1) (r := rw30) upw31
      have hkw31 : DkOk rw31.abs := by rw [haw31]; exact (hkw30).trunc
      have hcw31 : rw31.chg ≤ rw30.chg + 1 := Int.le_trans (Int.le_of_eq (congrArg Dk.chg haw31)) trunc_chg
      have hvw31 : truncN rw30.abs ([102] : List UInt8) z1 = (fu1, (if z1 < 0 then 1 else 5)) := by rw [hbw30]; exact fu_trunc (by omega)
      rw [hvw31] at haw31 ⊢
      have hbw31 : rw31.abs = fu1 := haw31
      refine .w 56 .mvI <| .w 57 .eql <| .w 58 .pkt <| .w 59 .mvB <| .sd (fun G59 => ?_) (fun G59 => ?_)
      ·
        refine .w 60 .mvI <| .w 61 .eql <| .w 62 .pkt <| .w 63 .mvB <| .sd (fun G63 => ?_) (fun G63 => ?_)
        ·
          refine .w 64 .mvB <| .w 65 .pkt <| .w 66 .mvB <| .w 67 .mvP <| .k 68 .func (changes_any (d := dnd1) (r := rw31) (dsk_parts (ok.m0)).1) <| .w 69 .eql <| .w 70 .pkt <| .w 4 .asB <| .nil ?_
          refine .ret ⟨.bool (decide (rw31.chg = 1)), Res.one rfl rfl, ⟨by rw [show rw31.chg = 1 from congrArg Dk.chg hbw31]; rfl, ok.chg⟩⟩
        exact absurd rfl G63
      first | (rw [if_neg C3] at G59; exact absurd rfl G59) | (rw [if_pos C3] at G59; exact absurd rfl G59) | (simp_all; done) | (simp_all; omega)
    first | (rw [if_neg C2] at G52; exact absurd rfl G52) | (rw [if_pos C2] at G52; exact absurd rfl G52) | (simp_all; done) | (simp_all; omega)
  refine .skip <| .seq <| .r <| .w 39 .mvP <| .k 40 .func ((size_anyD (d := dnd1) (r := rw1) (n := ([102] : List UInt8)) (ok.m0)).mono fun _ _ q => (by rw [show sizeN rw1.abs ([102] : List UInt8) = (1, true) from by rw [hbw1]; rfl] at q; exact q : _ = Value.tuple #[.int .i64 ((1 : Nat) : Int), .bool true] ∧ _)) <| .w 38 .mvU <| .w 41 .ex <| .w 42 .ex <| .w 8 .asI <| .w 9 .asB <| .nil ?_
  refine .seq <| .r <| .c' 43 .func live_any ?_
  rintro _ η67 ⟨rfl, hx⟩
  have ok := ok.ext hx
  refine .w 44 .mvB <| .w 45 .mvP <| .w 46 .mvI <| .a' 47 (.lit [.const (.int .u8 1)] (cs := [.int .u8 1]) T.el22 T.sz5 T.zr5 ok ⟨rfl, trivial⟩) ?_
  rintro _ η68 ⟨pb17, rfl, ok, xe⟩
  have ok := ok.cx (ys := ([1] : List UInt8).map bv) rfl
  have ok := (ok).frzB (l := [1]) rfl
  refine .c' 48 .func (write_any (d := dnd1) (r := rw1) (E := Ew1) (n := ([102] : List UInt8)) (z := z0) (a := some ⟨pb17, 0, none⟩) (c := 1) (l := [1]) (ok.f1).loc2 hkw1 (by omega) ⟨by omega, by omega⟩) ?_
  rintro _ η69 ⟨rw32, Ew32, rfl, haw32, upw32⟩
  have ok := (ok.f1).dsk (d := dnd1) (r := rw1) upw32
  have hkw32 : DkOk rw32.abs := by rw [haw32]; exact (hkw1).write
  have hcw32 : rw32.chg ≤ rw1.chg + 1 := Int.le_trans (Int.le_of_eq (congrArg Dk.chg haw32)) write_chg
  have hvw32 : writeN rw1.abs ([102] : List UInt8) z0 [1] = (fu1, (if z0 < 0 then 1 else 5)) := by rw [hbw1]; exact fu_write (by omega)
  rw [hvw32] at haw32 ⊢
  have hbw32 : rw32.abs = fu1 := haw32
  refine .w 49 .mvI <| .w 50 .eql <| .w 51 .pkt <| .w 52 .mvB <| .sd (fun G52 => ?_) (fun G52 => ?_)
  ·
    refine .w 53 .mvP <| .w 54 .mvI <| .c' 55 .func (trunc_any (d := dnd1) (r := rw32) (E := Ew32) (n := ([102] : List UInt8)) (z := z1) (ok).loc1 hkw32 (by omega) ⟨by omega, by omega⟩) ?_
    rintro _ η70 ⟨rw33, Ew33, rfl, haw33, upw33⟩
    have ok := (ok).dsk (d := dnd1) (r := rw32) upw33
    have hkw33 : DkOk rw33.abs := by rw [haw33]; exact (hkw32).trunc
    have hcw33 : rw33.chg ≤ rw32.chg + 1 := Int.le_trans (Int.le_of_eq (congrArg Dk.chg haw33)) trunc_chg
    have hvw33 : truncN rw32.abs ([102] : List UInt8) z1 = (fu1, (if z1 < 0 then 1 else 5)) := by rw [hbw32]; exact fu_trunc (by omega)
    rw [hvw33] at haw33 ⊢
    have hbw33 : rw33.abs = fu1 := haw33
    refine .w 56 .mvI <| .w 57 .eql <| .w 58 .pkt <| .w 59 .mvB <| .sd (fun G59 => ?_) (fun G59 => ?_)
    ·
      refine .w 60 .mvI <| .w 61 .eql <| .w 62 .pkt <| .w 63 .mvB <| .sd (fun G63 => ?_) (fun G63 => ?_)
      ·
        refine .w 64 .mvB <| .w 65 .pkt <| .w 66 .mvB <| .w 67 .mvP <| .k 68 .func (changes_any (d := dnd1) (r := rw33) (dsk_parts (ok.m0)).1) <| .w 69 .eql <| .w 70 .pkt <| .w 4 .asB <| .nil ?_
        refine .ret ⟨.bool (decide (rw33.chg = 1)), Res.one rfl rfl, ⟨by rw [show rw33.chg = 1 from congrArg Dk.chg hbw33]; rfl, ok.chg⟩⟩
      exact absurd rfl G63
    first | (rw [if_neg C3] at G59; exact absurd rfl G59) | (rw [if_pos C3] at G59; exact absurd rfl G59) | (simp_all; done) | (simp_all; omega)
  first | (rw [if_neg C2] at G52; exact absurd rfl G52) | (rw [if_pos C2] at G52; exact absurd rfl G52) | (simp_all; done) | (simp_all; omega)

end Go.Proofs.Ytpebbkhainpfaaa
