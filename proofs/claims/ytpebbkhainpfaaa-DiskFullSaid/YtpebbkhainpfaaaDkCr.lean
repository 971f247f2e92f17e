/- A disk's crash. Conditions: the disk is in order, its changes few, the bytes readable. -/
import Derived.Test.YtpebbkhainpfaaaDkNm
namespace Go.HL
open Go Go.Proofs.Ytpebbkhainpfaaa
theorem Hp.frzN {h0 h : Heap} {D : Nat → Prop} {M R : List Itm} {e : TypeId} {x : SV} {S : List (List UInt8)} (ok : Hp h0 D (capI 1 e x (S.map kvB) :: M) R h) : Hp h0 D M (rdI (blkC (sv x)) none_ x (S.map Nm.mk) :: R) h :=
  (ok.re (rdI (blkC (sv x)) none_ x (S.map Nm.mk)) (RdL.ofCapN ok.m0) fun _ hj => hj.elim id fun f => f.elim).frz
theorem RdL.b8 {h : Heap} {F E E' : Nat → Prop} {x : SV} {l : List UInt8} (r : RdL h F E x l) : RdL h F E' x l := ⟨r.n, r.c, r.m, fun hp => r.at' hp⟩
end Go.HL
namespace Go.Proofs.Ytpebbkhainpfaaa
open Go Go.HL
theorem crC_t {b : List UInt8} {h : Bool} {c : Chn} {l : List Chn} {ks : List UInt8} {k : Nat} (hk : k = (ks.headD 0).toNat) (h1 : (keptN c k).2 = true) (h2 : c.kind = 0 ∨ h = true) : crC b h (c :: l) ks = crC (doneN (keptN c k).1 b h).1 (doneN (keptN c k).1 b h).2 l ks.tail := by
  subst hk; rw [crC]; exact if_pos ⟨h1, h2⟩
theorem crC_f {b : List UInt8} {h : Bool} {c : Chn} {l : List Chn} {ks : List UInt8} {k : Nat} (hk : k = (ks.headD 0).toNat) (h1 : ¬ ((keptN c k).2 = true ∧ (c.kind = 0 ∨ h = true))) : crC b h (c :: l) ks = crC b h l ks.tail := by
  subst hk; rw [crC]; exact if_neg h1
theorem kept_pre {c : Chn} {k : Nat} : (keptN c k).1.b <+: c.b := by
  unfold keptN
  split
  · exact List.prefix_refl _
  · split
    · exact List.take_prefix _ _
    · exact List.prefix_refl _
/-- Behind the crash of the first names: what is left is the crash of the others. -/
structure CrInv (fs0 fs : List UInt8 → Option Fl) (S : List (List UInt8)) (k0 ks : List UInt8) (i : Nat) : Prop where
  le : i ≤ S.length
  eq : crashL fs0 S k0 = crashL fs (S.drop i) ks
  old : ∀ n ∈ S.drop i, fs n = fs0 n
theorem CrInv.step {fs0 fs : List UInt8 → Option Fl} {S : List (List UInt8)} {k0 ks : List UInt8} {i : Nat} {f : Fl} (v : CrInv fs0 fs S k0 ks i) (hs : S.Pairwise (· < ·)) (hi : i < S.length) (hf : fs S[i] = some f) : CrInv fs0 (put1 fs S[i] (crF f ks)) S k0 (ks.drop f.opn.length) (i + 1) := by
  have h1 := v.eq
  rw [List.drop_eq_getElem_cons hi, crashL, hf] at h1
  refine ⟨hi, h1, fun n hn => ?_⟩
  have h2 : n ≠ S[i] := fun e => by
    subst e
    obtain ⟨j, hj, e⟩ := List.mem_iff_getElem.1 hn
    rw [List.getElem_drop] at e
    have h3 := List.pairwise_iff_getElem.1 hs i (i + 1 + j) hi (by simp at hj; omega) (by omega)
    rw [e] at h3
    exact absurd h3 (List.lt_irrefl _)
  rw [put1_ne h2]
  exact v.old n (by rw [List.drop_eq_getElem_cons hi]; exact List.mem_cons_of_mem _ hn)
theorem CrInv.has {fs0 fs : List UInt8 → Option Fl} {S : List (List UInt8)} {k0 ks : List UInt8} {i : Nat} (v : CrInv fs0 fs S k0 ks i) (hK : Keys fs0 S) (hi : i < S.length) : ∃ f, fs S[i] = some f := by
  rw [v.old _ (by rw [List.drop_eq_getElem_cons hi]; exact List.mem_cons_self)]
  have := (hK.iff S[i]).1 (List.getElem_mem hi)
  cases h : fs0 S[i] with
  | none => rw [h] at this; cases this
  | some f => exact ⟨f, rfl⟩
/-- A file within its crash. -/
theorem DkOk.crf {d : Dk} {n : List UInt8} {f : Fl} {ks : List UInt8} (k : DkOk d) (hf : d.fs n = some f) : DkOk ⟨put1 d.fs n (crF f ks), d.dark, d.left, d.chg⟩ := by
  have h0 := k.chg
  refine ⟨fun m g h => ?_, k.chg, k.left, let ⟨ks, h1, h2⟩ := k.cnt; ⟨ks, h1, fun m g h => ?_⟩⟩
  · simp only [put1] at h
    split at h
    · have h1 := crF_ok (k.fs n f hf).1 h
      exact ⟨h1.1, by rw [h1.2]; simpa using h0⟩
    · exact k.fs m g h
  · simp only [put1] at h
    split at h
    · rename_i e; subst e; exact h2 _ _ hf
    · exact h2 m g h
theorem opn_drop {f : RF} {k : Nat} (h : k < f.ol.length) : f.abs.opn.drop k = ⟨f.ol[k].kind, f.ol[k].pos, f.ol[k].bl⟩ :: f.abs.opn.drop (k + 1) := by
  rw [show f.abs.opn = f.ol.map RC.abs from rfl, List.drop_eq_getElem_cons (by simpa using h), List.getElem_map]; rfl
def nowR (f : RF) (xa : Option Addr) (xc : Nat) (xl : List UInt8) (hh : Bool) : RF := ⟨f.blk, xa, xc, xl, f.sa, f.sc, f.sl, hh, f.was, f.oa, f.oc, f.ol⟩
theorem cr_abs {rc : RD} {n : List UInt8} {f : RF} {xa : Option Addr} {xc : Nat} {xl kl : List UInt8} {hh : Bool} (hcr : crC f.sl f.was f.abs.opn kl = (xl, hh)) : (settleR ⟨rc.m, bput rc.fs n (nowR f xa xc xl hh), rc.dark, rc.left, rc.chg⟩ n (nowR f xa xc xl hh)).abs = ⟨put1 rc.abs.fs n (crF f.abs kl), rc.dark, rc.left, rc.chg⟩ := by
  rw [settleR_abs]
  congr 1
  funext m
  by_cases hm : m = n
  · subst hm
    rw [put1_at, put1_at]
    unfold crF settleF
    rw [show f.abs.safe = f.sl from rfl, show f.abs.was = f.was from rfl, hcr]
    rfl
  · rw [put1_ne hm, put1_ne hm, abs_get, abs_get, bget_put, if_neg hm]
theorem cr_close {h0 h : Heap} {D Ec Ex : Nat → Prop} {M R : List Itm} {K : Itm} {d : Nat} {rc : RD} {n : List UInt8} {f : RF} {xa : Option Addr} {xc : Nat} {xl : List UInt8} {hh : Bool} (hn : (rc.fs.map (·.1)).Nodup) (hg : bget rc.fs n = some f)
    (ok : Hp h0 D (boxI f.blk 122 [.slice xa xl.length xc, .slice f.sa f.sl.length f.sc, .bool hh, .bool f.was, .slice f.oa f.ol.length f.oc] :: fopnI f :: flsI (bdel rc.fs n) :: dboxI d rc :: mapI kvB rc.m (ents rc.fs) :: M) (rdI Ex none_ (xa, xl.length, xc) xl :: K :: byfI Ec f :: bysI Ec rc.fs :: R) h) :
    Hp h0 D (dskI d ⟨rc.m, bput rc.fs n (nowR f xa xc xl hh), rc.dark, rc.left, rc.chg⟩ :: M) (bysI (fun j => Ec j ∨ Ex j) (bput rc.fs n (nowR f xa xc xl hh)) :: K :: R) h := by
  have o2 := Hp.fcls (n := n) (f := nowR f xa xc xl hh) hn ok
  have o3 := Hp.dcls (r := ⟨rc.m, bput rc.fs n (nowR f xa xc xl hh), rc.dark, rc.left, rc.chg⟩) (d := d) (M := M) (by
    have o4 := o2.n2.n2
    simp only
    rw [ents_same hg (by rfl)]
    exact o4)
  have hby : Bys h (fun j => Ec j ∨ Ex j) (bput rc.fs n (nowR f xa xc xl hh)) := Bys.put (Bys.mono (fun _ h => .inl h) o3.r3) ⟨RdL.mono (fun _ h => .inr h) (fun _ f => f.elim) o3.r0, RdL.mono (fun _ h => .inl h) (fun _ h => .inl h) o3.r2.safe, fun x hx => RdL.mono (fun _ h => .inl h) (fun _ h => .inl h) (o3.r2.opn x hx)⟩
  exact (o3.or (r := rdI Ex none_ (xa, xl.length, xc) xl) (r' := bysI Ec rc.fs) (by simp) (by simp) (bysI (fun j => Ec j ∨ Ex j) (bput rc.fs n (nowR f xa xc xl hh))) hby (fun j hj => hj.elim .inr fun h => .inl (.inl h))).sub (by
    intro i hi
    simp only [List.mem_cons] at hi ⊢
    rcases hi with h | h | h
    · exact .inl h
    · exact .inr (.inr (.inl h))
    · exact .inr (.inr (.inr (.inr (.inr h)))))

set_option maxRecDepth 100000 in
set_option maxHeartbeats 2000000 in
theorem crash_any {h : Heap} {d : Nat} {r : RD} {E F2 E2 : Nat → Prop} {a : Option Addr} {c : Nat} {l : List UInt8} (ok : Hp h (dskI d r).F [dskI d r] [bysI E r.fs, rdI F2 E2 (a, l.length, c) l] h) (hk : DkOk r.abs) (hcg : r.chg < 1000000000) :
    HC Try.prog 42 #[.pointer (some ⟨d, 0, none⟩), .slice a l.length c] h (fun v h' => ∃ S r' E', v = .tuple #[] ∧ Keys r.abs.fs S ∧ r'.abs = crashN r.abs S l ∧ DUp h h' d r r' E E') := by
  refine HC.go Try.func42 107 ?_
  refine .seq <| .seq <| .r <| .w 12 .mvP <| .w 13 (.pEqS T.pt57) <| .nil ?_
  refine .cf <| .skip <| .seq <| .seq <| .r <| .w 14 .mvP <| .c' 15 .func (names_any (d := d) (r := r) (E := E) ((ok).rdo) hk hcg) ?_
  rintro _ η1 ⟨S, hKS, own⟩
  obtain ⟨aS, nS, cS, rfl⟩ := own.form3
  have ok := ok.own own
  obtain rfl : nS = S.length := Cap.lenN ok.m0
  have ok := ok.frzN
  have hSc : S.length ≤ cS := ok.r0.c
  have hSm : cS ≤ 9223372036854775807 := ok.r0.m
  generalize hFS : blkC (sv (aS, S.length, cS)) = FS at ok
  refine .w 16 (.len T.el82) <| .w 17 .mvI <| .nil ?_
  refine .block fun K0 hK0 => .loop (fun m s hh => ∃ (i : Nat) (rc : RD) (Ec : Nat → Prop) (ka : Option Addr) (kc : Nat) (kl : List UInt8), Has s [(0, .pointer (some ⟨d, 0, none⟩)), (1, .slice ka kl.length kc), (15, .slice aS S.length cS), (16, .int .i64 (S.length : Int)), (17, .int .i64 (i : Int))] ∧ Hp h (dskI d r).F [dskI d rc] [rdI F2 E2 (ka, kl.length, kc) kl, bysI Ec rc.fs, rdI FS none_ (aS, S.length, cS) (S.map Nm.mk)] hh ∧ CrInv r.abs.fs rc.abs.fs S l kl i ∧ DkOk rc.abs ∧ rc.chg = r.chg ∧ (∀ j, Ec j → E j ∨ h.size ≤ j) ∧ m = S.length - i) ?_ ?_
  · exact ⟨_, 0, r, E, a, c, l, ⟨rfl, rfl, rfl, rfl, rfl, trivial⟩, ok.f1.f2, ⟨Nat.zero_le _, rfl, fun _ _ => rfl⟩, hk, rfl, fun _ h => .inl h, rfl⟩
  rintro _ _ η2 ⟨i, rc, Ec, ka, kc, kl, hs, ok, hv, hkc, hch, hEc, rfl⟩ J0 hJ0
  refine .frame hs fun τ => ?_
  refine .seq <| .r <| .w 18 .lss <| .nil ?_
  refine .seq <| .cdr (fun C1 => ?_) (fun C1 => ?_)
  · --
    refine .exit <| hK0 _ _ <| ?_
    have ok := (ok).dopn
    refine .r <| .w 101 .mvP <| .w 102 .mvP <| .w 103 .nil <| .w 104 (.fa T.fd113_1) <| .ur' (.stB T.sz4 ok) ?_
    rintro η3 ⟨ok, cg⟩
    refine .w 105 .nil <| .w 106 (.fa T.fd113_2) <| .ur' (.stI T.sz3 ok) ?_
    rintro η4 ⟨ok, cg⟩
    refine .nil ?_
    refine .end <| ⟨.tuple #[], Res.none rfl, ⟨S, ⟨rc.m, rc.fs, false, -1, rc.chg⟩, Ec, rfl, hKS, by unfold crashN; rw [hv.eq, List.drop_eq_nil_of_le (by omega), crashL, show r.abs.chg = r.chg from rfl, ← hch]; rfl, (Hp.dcls (r := ⟨rc.m, rc.fs, false, -1, rc.chg⟩) (ok.n2.n2.n2).f2.f1.f2).up hEc⟩⟩
  refine .skip <| .seq <| .block fun K1 hK1 => .seq <| ?_
  have hiS : i < S.length := by omega
  refine .r <| ?_
  obtain ⟨bb1, oo1, rfl, fb1⟩ := ok.r2.pos (by first | omega | (simp; omega))
  refine .w 19 (.ix1 i T.el82 T.sz9) <| .w 20 (.ld T.ag9 (ok.r2.nm (i := i) (by omega))) <| .w 5 .asT <| .nil ?_
  refine .seq <| ?_
  obtain ⟨fa, hfa⟩ := hv.has hKS hiS
  obtain ⟨f, hg, hfe⟩ : ∃ f, bget rc.fs S[i] = some f ∧ f.abs = fa := by (rw [abs_get] at hfa; cases hb : bget rc.fs S[i] with | none => (rw [hb] at hfa; cases hfa) | some f => exact ⟨f, rfl, by rw [hb] at hfa; exact Option.some.inj hfa⟩)
  subst hfe
  have hfo : FlOk f.abs := (hkc.fs _ _ hfa).1
  have hol9 : (f.ol.length : Int) ≤ rc.chg := by have h9 := (hkc.fs _ _ hfa).2; simpa [RF.abs] using (show _ ≤ rc.chg from h9)
  obtain ⟨hd1, hd2, hd3, hd4⟩ := dsk_parts (ok.m0)
  refine .r <| .w 21 .mvP <| .w 22 .nil <| .w 23 (.fa T.fd113_0) <| .w 24 (.ldx T.ag111 hd1) <| .w 25 .mvT <| .w 26 (.lk KV.ba (S[i]) (v := .pointer (some ⟨f.blk, 0, none⟩)) T.mp111 (stB_iff T.st9) T.zr118 hd2 (by rw [ents_get, hg]; rfl)) <| .w 6 .asP <| .nil ?_
  refine .seq <| .join (fun s hh => Has s [(0, .pointer (some ⟨d, 0, none⟩)), (1, .slice ka kl.length kc), (5, .string (BA (S[i]))), (6, .pointer (some ⟨f.blk, 0, none⟩)), (15, .slice (some ⟨bb1, oo1, none⟩) S.length cS), (16, .int .i64 (S.length : Int)), (17, .int .i64 (i : Int))] ∧ Hp h (dskI d r).F [boxI f.blk 122 [.slice f.sa f.sl.length f.sc, .slice f.sa f.sl.length f.sc, .bool f.was, .bool f.was, .slice f.oa f.ol.length f.oc], capI 3 117 (f.oa, f.ol.length, f.oc) (f.ol.flatMap RC.cells), flsI (bdel rc.fs S[i]), boxI d 113 [.map (some rc.m), .bool rc.dark, .int .i64 rc.left, .int .i64 rc.chg], mapI kvB rc.m (ents rc.fs)] [byfI Ec f, rdI F2 E2 (ka, kl.length, kc) kl, bysI Ec rc.fs, rdI FS none_ (some ⟨bb1, oo1, none⟩, S.length, cS) (S.map Nm.mk)] hh) ?_ ?_
  · --
    have hnd : (rc.fs.map (·.1)).Nodup := hd3
    have ok := (ok).dopn
    have ok := Hp.fopn hnd hg ok.n2
    have ok := ok.d1 (byfI Ec f) (Bys.get ok.r1 hg) (fun _ h => h)
    refine .a 12 (fun fl hh => cond fl True (cell hh f.blk 1 = some (.slice f.sa f.sl.length f.sc) ∧ cell hh f.blk 3 = some (.bool f.was))) mixed ?_
    have hS := (And.intro (box_cell (o := 1) (v := .slice f.sa f.sl.length f.sc) ok.m0 rfl) (box_cell (o := 3) (v := .bool f.was) ok.m0 rfl))
    refine .g 0 false rfl 27 hS (fun _ => .mvP) <| .g 1 false rfl 28 hS (fun _ => .mvP) <| .g 2 false rfl 29 hS (fun _ => .mvP) <| .g 3 false rfl 30 hS (fun _ => .nil) <| .g 4 false rfl 31 hS (fun _ => .fa T.fd122_1) <| .l 5 false rfl 32 hS (fun _ hS => .ld T.ag22 hS.1) <| .g 6 false rfl 33 hS (fun _ => .mvP) <| .g 7 false rfl 34 hS (fun _ => .nil) <| .g 8 false rfl 35 hS (fun _ => .fa T.fd122_3) <| .l 9 false rfl 36 hS (fun _ hS => .ld T.ag4 hS.2) <| .g 10 false rfl 37 hS (fun _ => .nil) <| .g 11 false rfl 38 hS (fun _ => .fa T.fd122_0) <| .o1 12 <| .ur' true rfl (.stS T.sz22 ok) ?_
    rintro η5 ⟨ok, cg⟩
    refine ⟨trivial, ?_⟩
    refine .g 13 true rfl 39 trivial (fun _ => .nil) <| .g 14 true rfl 40 trivial (fun _ => .fa T.fd122_2) <| .o1 15 <| .ur' true rfl (.stB T.sz4 ok) ?_
    rintro η6 ⟨ok, cg⟩
    refine ⟨trivial, ?_⟩
    refine .e ?_
    refine .end <| ⟨⟨rfl, rfl, rfl, rfl, rfl, rfl, rfl, trivial⟩, ok.n4.n4.n4.n4.n4⟩
  rintro s η7 ⟨hs, ok⟩
  refine .frame hs fun τ => ?_
  refine .seq <| .seq <| ?_
  have ok := ok.d0 (rdI Ec none_ (f.sa, f.sl.length, f.sc) f.sl) (ok.r0).safe.b8 (fun _ h => h.elim id (fun f => f.elim))
  obtain ⟨oa, hoa⟩ : ∃ oa, f.oa = oa := ⟨_, rfl⟩
  rw [hoa] at ok
  refine .r <| .w 41 .mvP <| .w 42 .nil <| .w 43 (.fa T.fd122_4) <| .w 44 (.ldx T.ag120 ok.m0) <| .w 45 (.len T.el120) <| .w 46 .mvI <| .nil ?_
  refine .block fun K2 hK2 => .loop (fun m s hh => ∃ (k : Nat) (xa : Option Addr) (xc : Nat) (xl : List UInt8) (hh0 : Bool) (Ex : Nat → Prop) (kb : Option Addr) (kd : Nat) (km : List UInt8), Has s [(0, .pointer (some ⟨d, 0, none⟩)), (1, .slice kb km.length kd), (5, .string (BA (S[i]))), (6, .pointer (some ⟨f.blk, 0, none⟩)), (15, .slice (some ⟨bb1, oo1, none⟩) S.length cS), (16, .int .i64 (S.length : Int)), (17, .int .i64 (i : Int)), (44, .slice oa f.ol.length f.oc), (45, .int .i64 (f.ol.length : Int)), (46, .int .i64 (k : Int))] ∧ Hp h (dskI d r).F [boxI f.blk 122 [.slice xa xl.length xc, .slice f.sa f.sl.length f.sc, .bool hh0, .bool f.was, .slice oa f.ol.length f.oc], capI 3 117 (oa, f.ol.length, f.oc) (f.ol.flatMap RC.cells), flsI (bdel rc.fs S[i]), boxI d 113 [.map (some rc.m), .bool rc.dark, .int .i64 rc.left, .int .i64 rc.chg], mapI kvB rc.m (ents rc.fs)] [rdI Ex none_ (xa, xl.length, xc) xl, rdI F2 E2 (kb, km.length, kd) km, byfI Ec f, bysI Ec rc.fs, rdI FS none_ (some ⟨bb1, oo1, none⟩, S.length, cS) (S.map Nm.mk)] hh ∧ k ≤ f.ol.length ∧ crC f.sl f.was f.abs.opn kl = crC xl hh0 (f.abs.opn.drop k) km ∧ km = kl.drop k ∧ xl.length ≤ 16777216 ∧ (∀ j, Ex j → E j ∨ h.size ≤ j) ∧ m = f.ol.length - k) ?_ ?_
  · exact ⟨_, 0, f.sa, f.sc, f.sl, f.was, Ec, ka, kc, kl, ⟨rfl, rfl, rfl, rfl, rfl, rfl, rfl, rfl, rfl, rfl, trivial⟩, ok.f4.f4.f3.f4.f4, Nat.zero_le _, rfl, rfl, hfo.safe, hEc, rfl⟩
  rintro _ _ η8 ⟨k, xa, xc, xl, hh0, Ex, kb, kd, km, hs, ok, hkf, hcr, hkm, hxl, hEx, rfl⟩ J1 hJ1
  refine .frame hs fun τ => ?_
  refine .seq <| .r <| .w 47 .lss <| .nil ?_
  refine .seq <| .cdr (fun C2 => ?_) (fun C2 => ?_)
  · --
    refine .exit <| hK2 _ _ <| ?_
    have hkL : k = f.ol.length := by omega
    have hcr2 : crC f.sl f.was f.abs.opn kl = (xl, hh0) := by rw [hcr, List.drop_eq_nil_of_le (by rw [hkL]; simp [RF.abs]), crC]
    obtain ⟨rn, hrn⟩ : ∃ rn : RD, rn = ⟨rc.m, bput rc.fs S[i] (nowR f xa xc xl hh0), rc.dark, rc.left, rc.chg⟩ := ⟨_, rfl⟩
    have hg2 : bget rn.fs S[i] = some (nowR f xa xc xl hh0) := by rw [hrn]; simp only; rw [bget_put, if_pos rfl]
    rw [← hoa] at ok
    have ok := cr_close hd3 hg ok
    have ok : Hp h (dskI d r).F [dskI d rn] [bysI (fun j => Ec j ∨ Ex j) rn.fs, rdI F2 E2 (kb, km.length, kd) km, rdI FS none_ (some ⟨bb1, oo1, none⟩, S.length, cS) (S.map Nm.mk)] η8 := by rw [hrn]; exact ok
    refine .r <| .w 96 .mvP <| .w 97 .mvT <| .w 98 .mvP <| .c' 99 .func (settle_any (d := d) (r := rn) (E := fun j => Ec j ∨ Ex j) (f := (nowR f xa xc xl hh0)) (ok).loc1 hg2) ?_
    rintro _ η9 ⟨rfl, q⟩
    have ok := (ok).dsk (d := d) (r := rn) (r' := (settleR rn S[i] (nowR f xa xc xl hh0))) (E' := fun j => Ec j ∨ Ex j) ⟨q, fun _ h => .inl h⟩
    refine .nil ?_
    refine .end <| hK1 _ _ <| ?_
    have hqa : (settleR rn S[i] (nowR f xa xc xl hh0)).abs = ⟨put1 rc.abs.fs S[i] (crF f.abs kl), rc.dark, rc.left, rc.chg⟩ := by rw [hrn]; exact cr_abs hcr2
    generalize hrq : settleR rn S[i] (nowR f xa xc xl hh0) = rq at ok hqa
    refine .r <| .w 100 (.addI (b := 1)) <| .w 17 .mvI <| .nil ?_
    refine .end <| hJ0 _ _ _ ⟨i + 1, rq, (fun j => Ec j ∨ Ex j), kb, kd, km, ⟨rfl, rfl, rfl, rfl, rfl, trivial⟩, (ok).f2.f1.f2, by rw [hqa, hkm, hkL, show f.ol.length = f.abs.opn.length from by simp [RF.abs]]; exact hv.step hKS.up hiS hfa, by rw [hqa]; exact hkc.crf hfa, by rw [show rq.chg = rq.abs.chg from rfl, hqa]; exact hch, fun j hj => hj.elim (hEc j) (hEx j), rfl⟩ (by omega)
  have hkL : k < f.ol.length := by omega
  have hco : ChOk f.ol[k].abs := hfo.opn _ (List.mem_map.2 ⟨_, List.getElem_mem hkL, rfl⟩)
  have hbl : f.ol[k].pos + f.ol[k].bl.length ≤ 16777216 := hco.fit
  refine .skip <| .seq <| .block fun K3 hK3 => .seq <| .r <| ?_
  obtain ⟨bb2, oo2, rfl, fb2⟩ := ok.m1.pos (n := f.ol.length) (by first | omega | (simp; omega))
  refine .w 48 (.ix k T.el120 T.sz117) <| .w 49 (.ldc (vs := RC.cells f.ol[k]) T.ag117 (sl_ats RC.cells_len (ok.m1).sl (i := k) (by omega)) T.sz117) <| .a' 8 (.alA T.zr117 ok) ?_
  rintro _ η10 ⟨pb1, rfl, ok, xe⟩
  refine .ur' (.stW (vs := [.int .i64 (f.ol[k].kind : Int), .int .i64 (f.ol[k].pos : Int), .slice (f.ol[k].ba) (f.ol[k].bl.length) (f.ol[k].bc)]) T.sz117 ok (oneL rfl)) ?_
  rintro η11 ⟨ok, cg⟩
  refine .nil ?_
  refine .seq <| .r <| .w 9 .asI <| .nil ?_
  refine .seq <| .seq <| .r <| .w 50 .mvS <| .w 51 (.len T.el22) <| .w 52 .gtr <| .nil ?_
  refine .join (fun s hh => ∃ (by0 : Nat) (ka2 : Option Addr) (kc2 : Nat), Has s [(0, .pointer (some ⟨d, 0, none⟩)), (1, .slice ka2 km.tail.length kc2), (5, .string (BA (S[i]))), (6, .pointer (some ⟨f.blk, 0, none⟩)), (8, .pointer (some ⟨pb1, 0, none⟩)), (9, .int .u8 (by0 : Int)), (15, .slice (some ⟨bb1, oo1, none⟩) S.length cS), (16, .int .i64 (S.length : Int)), (17, .int .i64 (i : Int)), (44, .slice (some ⟨bb2, oo2, none⟩) f.ol.length f.oc), (45, .int .i64 (f.ol.length : Int)), (46, .int .i64 (k : Int))] ∧ Hp h (dskI d r).F [boxI pb1 117 [.int .i64 (f.ol[k].kind : Int), .int .i64 (f.ol[k].pos : Int), .slice (f.ol[k].ba) (f.ol[k].bl.length) (f.ol[k].bc)], boxI f.blk 122 [.slice xa xl.length xc, .slice f.sa f.sl.length f.sc, .bool hh0, .bool f.was, .slice (some ⟨bb2, oo2, none⟩) f.ol.length f.oc], capI 3 117 (some ⟨bb2, oo2, none⟩, f.ol.length, f.oc) (f.ol.flatMap RC.cells), flsI (bdel rc.fs S[i]), boxI d 113 [.map (some rc.m), .bool rc.dark, .int .i64 rc.left, .int .i64 rc.chg], mapI kvB rc.m (ents rc.fs)] [rdI F2 E2 (ka2, km.tail.length, kc2) km.tail, rdI Ex none_ (xa, xl.length, xc) xl, byfI Ec f, bysI Ec rc.fs, rdI FS none_ (some ⟨bb1, oo1, none⟩, S.length, cS) (S.map Nm.mk)] hh ∧ by0 = (km.headD 0).toNat) ?_ ?_
  · --
    refine .cd (fun C3 => ?_) (fun C3 => ?_)
    · --
      have hk1 : 0 < km.length := by omega
      refine .q (hm := mixed) <| .w 53 .mvS <| ?_
      obtain ⟨bb3, oo3, rfl, fb3⟩ := ok.r1.pos (by first | omega | (simp; omega))
      refine .w 54 (.ix1 0 T.el22 T.sz5) <| .w 55 (.ld T.ag5 (ok.r1.u8 (i := 0) (by omega))) <| .w 56 .mvS <| .w 57 (.sll 1 T.el22 T.sz5) <| ?_
      generalize hc1 : cutA (some ⟨bb3, oo3, none⟩) 1 kd 1 = ca1
      generalize hn1 : km.length - 1 = cn1
      obtain rfl : cn1 = (km.tail).length := by rw [← hn1]; simp
      have ok := ok.d1 (rdI F2 E2 (ca1, (km.tail).length, kd - 1) km.tail) (by have h1 := ok.r1.cut (i := 1) (j := km.length) (by omega) (by omega); rw [show ((km).drop 1).take (km.length - 1) = km.tail from by cases km <;> simp] at h1; rw [← hc1, ← hn1]; exact h1) (fun _ h => h)
      refine .w 9 .asI <| .w 1 .asS <| .nil ?_
      refine .end <| ⟨(km[0].toNat), ca1, kd - 1, ⟨rfl, rfl, rfl, rfl, rfl, rfl, rfl, rfl, rfl, rfl, rfl, rfl, trivial⟩, ok.f5.f5.f5.f4.f4.e5, by cases km with | nil => (simp at hk1) | cons x y => rfl⟩
    have hk0 : km = [] := List.eq_nil_of_length_eq_zero (by omega)
    have ok := ok.d1 (rdI F2 E2 (kb, km.tail.length, kd) km.tail) (by have h9 := ok.r1; rw [hk0] at h9 ⊢; exact h9) (fun _ h => h)
    rw [show km.length = km.tail.length from by rw [hk0]; rfl]
    refine .skip <| .end <| ⟨0, kb, kd, ⟨rfl, rfl, rfl, rfl, rfl, rfl, rfl, rfl, rfl, rfl, rfl, rfl, trivial⟩, ok.f5.f5.f5.f4.f4.e5, by rw [hk0]; rfl⟩
  rintro s η12 ⟨by0, ka2, kc2, hs, ok, hby0⟩
  refine .frame hs fun τ => ?_
  refine .seq <| ?_
  have hb256 : by0 < 256 := by rw [hby0]; exact UInt8.toNat_lt _
  have ok := ok.d2 (rdI Ec Ec (f.ol[k].ba, f.ol[k].bl.length, f.ol[k].bc) f.ol[k].bl) ((ok.r2).opn _ (List.getElem_mem hkL)) (fun _ h => h.elim id id)
  have hbc : f.ol[k].bl.length ≤ f.ol[k].bc := ok.r0.c
  refine .r <| .w 59 (.ldb T.ag117 ok.m0 T.sz117) <| .w 60 .mvI <| .c' 61 .func (kept_any (kind := f.ol[k].kind) (pos := f.ol[k].pos) (k := by0) (ba := f.ol[k].ba) (bc := f.ol[k].bc) (bl := f.ol[k].bl) (by omega) (by omega) (by omega)) ?_
  rintro _ η13 ⟨rfl, hx⟩
  have ok := ok.ext hx
  refine .w 58 .mvU <| .w 62 .ex <| .w 63 .ex <| .a' 10 (.alA T.zr117 ok) ?_
  rintro _ η14 ⟨pb2, rfl, ok, xe⟩
  refine .ur' (.stW (vs := [.int .i64 ((keptN ⟨f.ol[k].kind, f.ol[k].pos, f.ol[k].bl⟩ by0).1.kind : Int), .int .i64 ((keptN ⟨f.ol[k].kind, f.ol[k].pos, f.ol[k].bl⟩ by0).1.pos : Int), .slice (f.ol[k].ba) ((keptN ⟨f.ol[k].kind, f.ol[k].pos, f.ol[k].bl⟩ by0).1.b.length) (f.ol[k].bc)]) T.sz117 ok (oneL rfl)) ?_
  rintro η15 ⟨ok, cg⟩
  refine .w 11 .asB <| .nil ?_
  refine .seq <| .r <| .w 64 .mvB <| .w 65 .mvB <| .spl (fun G65 => ?_) (fun G65 => ?_)
  ·
    refine .w 66 (.fa T.fd117_0) <| .w 67 (.ldx T.ag3 ok.m1) <| .w 68 .eql <| .w 69 .mvB <| .sd (fun G69 => ?_) (fun G69 => ?_)
    ·
      refine .x 70 <| .x 71 <| .x 72 <| .x 73 <| .w 74 .pkt <| .w 75 .pkt <| .nil ?_
      refine .join (fun s hh => ∃ (xa2 : Option Addr) (xc2 : Nat) (xl2 : List UInt8) (hh2 : Bool) (Ex2 : Nat → Prop), Has s [(0, .pointer (some ⟨d, 0, none⟩)), (1, .slice ka2 km.tail.length kc2), (5, .string (BA (S[i]))), (6, .pointer (some ⟨f.blk, 0, none⟩)), (15, .slice (some ⟨bb1, oo1, none⟩) S.length cS), (16, .int .i64 (S.length : Int)), (17, .int .i64 (i : Int)), (44, .slice (some ⟨bb2, oo2, none⟩) f.ol.length f.oc), (45, .int .i64 (f.ol.length : Int)), (46, .int .i64 (k : Int))] ∧ Hp h (dskI d r).F [boxI f.blk 122 [.slice xa2 xl2.length xc2, .slice f.sa f.sl.length f.sc, .bool hh2, .bool f.was, .slice (some ⟨bb2, oo2, none⟩) f.ol.length f.oc], capI 3 117 (some ⟨bb2, oo2, none⟩, f.ol.length, f.oc) (f.ol.flatMap RC.cells), flsI (bdel rc.fs S[i]), boxI d 113 [.map (some rc.m), .bool rc.dark, .int .i64 rc.left, .int .i64 rc.chg], mapI kvB rc.m (ents rc.fs)] [rdI Ex2 none_ (xa2, xl2.length, xc2) xl2, rdI F2 E2 (ka2, km.tail.length, kc2) km.tail, byfI Ec f, bysI Ec rc.fs, rdI FS none_ (some ⟨bb1, oo1, none⟩, S.length, cS) (S.map Nm.mk)] hh ∧ crC xl hh0 (f.abs.opn.drop k) km = crC xl2 hh2 (f.abs.opn.drop (k + 1)) km.tail ∧ xl2.length ≤ 16777216 ∧ (∀ j, Ex2 j → E j ∨ h.size ≤ j)) ?_ ?_
      · --
        refine .ct <| ?_
        have hkp := (keptN_ok (k := by0) hco).fit
        have hkp : (keptN ⟨f.ol[k].kind, f.ol[k].pos, f.ol[k].bl⟩ by0).1.pos + (keptN ⟨f.ol[k].kind, f.ol[k].pos, f.ol[k].bl⟩ by0).1.b.length ≤ 16777216 := hkp
        have ok := ok.d0 (rdI Ec Ec (f.ol[k].ba, (keptN ⟨f.ol[k].kind, f.ol[k].pos, f.ol[k].bl⟩ by0).1.b.length, f.ol[k].bc) (keptN ⟨f.ol[k].kind, f.ol[k].pos, f.ol[k].bl⟩ by0).1.b) ((ok.r0).pre kept_pre) (fun _ h => h)
        refine .a 11 (fun fl hh => cond fl True (Hp h (dskI d r).F [boxI pb2 117 [.int .i64 ((keptN ⟨f.ol[k].kind, f.ol[k].pos, f.ol[k].bl⟩ by0).1.kind : Int), .int .i64 ((keptN ⟨f.ol[k].kind, f.ol[k].pos, f.ol[k].bl⟩ by0).1.pos : Int), .slice (f.ol[k].ba) ((keptN ⟨f.ol[k].kind, f.ol[k].pos, f.ol[k].bl⟩ by0).1.b.length) (f.ol[k].bc)], boxI pb1 117 [.int .i64 (f.ol[k].kind : Int), .int .i64 (f.ol[k].pos : Int), .slice (f.ol[k].ba) (f.ol[k].bl.length) (f.ol[k].bc)], boxI f.blk 122 [.slice xa xl.length xc, .slice f.sa f.sl.length f.sc, .bool hh0, .bool f.was, .slice (some ⟨bb2, oo2, none⟩) f.ol.length f.oc], capI 3 117 (some ⟨bb2, oo2, none⟩, f.ol.length, f.oc) (f.ol.flatMap RC.cells), flsI (bdel rc.fs S[i]), boxI d 113 [.map (some rc.m), .bool rc.dark, .int .i64 rc.left, .int .i64 rc.chg], mapI kvB rc.m (ents rc.fs)] [rdI Ec Ec (f.ol[k].ba, (keptN ⟨f.ol[k].kind, f.ol[k].pos, f.ol[k].bl⟩ by0).1.b.length, f.ol[k].bc) ((keptN ⟨f.ol[k].kind, f.ol[k].pos, f.ol[k].bl⟩ by0).1.b), rdI Ec Ec (f.ol[k].ba, f.ol[k].bl.length, f.ol[k].bc) (f.ol[k].bl), rdI F2 E2 (ka2, km.tail.length, kc2) km.tail, rdI Ex none_ (xa, xl.length, xc) xl, byfI Ec f, bysI Ec rc.fs, rdI FS none_ (some ⟨bb1, oo1, none⟩, S.length, cS) (S.map Nm.mk)] hh)) mixed ?_
        have hS := ok
        refine .g 0 false rfl 77 hS (fun _ => .mvP) <| .g 1 false rfl 78 hS (fun _ => .mvP) <| .l 2 false rfl 79 hS (fun _ hS => .ldb T.ag117 hS.m0 T.sz117) <| .g 3 false rfl 80 hS (fun _ => .mvP) <| .g 4 false rfl 81 hS (fun _ => .nil) <| .g 5 false rfl 82 hS (fun _ => .fa T.fd122_0) <| .l 6 false rfl 83 hS (fun _ hS => .ldx T.ag22 hS.m2) <| .g 7 false rfl 84 hS (fun _ => .mvP) <| .g 8 false rfl 85 hS (fun _ => .nil) <| .g 9 false rfl 86 hS (fun _ => .fa T.fd122_2) <| .l 10 false rfl 87 hS (fun _ hS => .ldx T.ag4 hS.m2) <| .o1 11 <| .c' true rfl 88 .func (done_any (kind := (keptN ⟨f.ol[k].kind, f.ol[k].pos, f.ol[k].bl⟩ by0).1.kind) (pos := (keptN ⟨f.ol[k].kind, f.ol[k].pos, f.ol[k].bl⟩ by0).1.pos) (ba := f.ol[k].ba) (bc := f.ol[k].bc) (bl := (keptN ⟨f.ol[k].kind, f.ol[k].pos, f.ol[k].bl⟩ by0).1.b) (a := xa) (c := xc) (l := xl) (here := hh0) ok.r0 ok.r3 (by omega) (by omega)) ?_
        rintro _ η16 ⟨_, rfl, own⟩
        obtain ⟨ya1, yc1, rfl⟩ := own.formB
        have hyf := fun j hj => Nat.le_trans ok.chg.size (own.fresh j hj)
        have ok := ok.own own
        refine ⟨trivial, ?_⟩
        refine .g 12 true rfl 76 trivial (fun _ => .mvU) <| .g 13 true rfl 89 trivial (fun _ => .ex) <| .g 14 true rfl 90 trivial (fun _ => .ex) <| .g 15 true rfl 91 trivial (fun _ => .nil) <| .g 16 true rfl 92 trivial (fun _ => .fa T.fd122_0) <| .o1 17 <| .ur' true rfl (.stS T.sz22 ok.n3) ?_
        rintro η17 ⟨ok, cg⟩
        refine ⟨trivial, ?_⟩
        refine .g 18 true rfl 93 trivial (fun _ => .nil) <| .g 19 true rfl 94 trivial (fun _ => .fa T.fd122_2) <| .o1 20 <| .ur' true rfl (.stB T.sz4 ok) ?_
        rintro η18 ⟨ok, cg⟩
        refine ⟨trivial, ?_⟩
        refine .e ?_
        refine .end <| ⟨ya1, yc1, (doneN (keptN ⟨f.ol[k].kind, f.ol[k].pos, f.ol[k].bl⟩ by0).1 xl hh0).1, (doneN (keptN ⟨f.ol[k].kind, f.ol[k].pos, f.ol[k].bl⟩ by0).1 xl hh0).2, (blkC (sv (ya1, (doneN (keptN ⟨f.ol[k].kind, f.ol[k].pos, f.ol[k].bl⟩ by0).1 xl hh0).1.length, yc1))), ⟨rfl, rfl, rfl, rfl, rfl, rfl, rfl, rfl, rfl, rfl, trivial⟩, ((ok.n1.n7.n7.n7.n7.n5).n5.frzB rfl).k5.f7.f7.f7.f6.f4.e5, by rw [opn_drop hkL]; exact crC_t (c := ⟨f.ol[k].kind, f.ol[k].pos, f.ol[k].bl⟩) hby0 (by assumption) (by first | exact .inl (show f.ol[k].kind = 0 by omega) | exact .inr (by assumption)), doneN_len (keptN_ok hco) hxl, fun j hj => .inr (hyf j hj)⟩
      rintro s η19 ⟨xa2, xc2, xl2, hh2, Ex2, hs, ok, hst, hxl2, hEx2⟩
      refine .frame hs fun τ => ?_
      refine .end <| hK3 _ _ <| .r <| .w 95 (.addI (b := 1)) <| .w 46 .mvI <| .nil ?_
      refine .end <| hJ1 _ _ _ ⟨k + 1, xa2, xc2, xl2, hh2, Ex2, ka2, kc2, km.tail, ⟨rfl, rfl, rfl, rfl, rfl, rfl, rfl, rfl, rfl, rfl, trivial⟩, ok, by omega, by rw [hcr, hst], by rw [hkm, List.tail_drop], hxl2, hEx2, rfl⟩ (by omega)
    refine .w 70 .mvP <| .w 71 .nil <| .w 72 (.fa T.fd122_2) <| .w 73 (.ldx T.ag4 ok.m2) <| .w 74 .pkf <| .w 75 .pkt <| .nil ?_
    refine .join (fun s hh => ∃ (xa2 : Option Addr) (xc2 : Nat) (xl2 : List UInt8) (hh2 : Bool) (Ex2 : Nat → Prop), Has s [(0, .pointer (some ⟨d, 0, none⟩)), (1, .slice ka2 km.tail.length kc2), (5, .string (BA (S[i]))), (6, .pointer (some ⟨f.blk, 0, none⟩)), (15, .slice (some ⟨bb1, oo1, none⟩) S.length cS), (16, .int .i64 (S.length : Int)), (17, .int .i64 (i : Int)), (44, .slice (some ⟨bb2, oo2, none⟩) f.ol.length f.oc), (45, .int .i64 (f.ol.length : Int)), (46, .int .i64 (k : Int))] ∧ Hp h (dskI d r).F [boxI f.blk 122 [.slice xa2 xl2.length xc2, .slice f.sa f.sl.length f.sc, .bool hh2, .bool f.was, .slice (some ⟨bb2, oo2, none⟩) f.ol.length f.oc], capI 3 117 (some ⟨bb2, oo2, none⟩, f.ol.length, f.oc) (f.ol.flatMap RC.cells), flsI (bdel rc.fs S[i]), boxI d 113 [.map (some rc.m), .bool rc.dark, .int .i64 rc.left, .int .i64 rc.chg], mapI kvB rc.m (ents rc.fs)] [rdI Ex2 none_ (xa2, xl2.length, xc2) xl2, rdI F2 E2 (ka2, km.tail.length, kc2) km.tail, byfI Ec f, bysI Ec rc.fs, rdI FS none_ (some ⟨bb1, oo1, none⟩, S.length, cS) (S.map Nm.mk)] hh ∧ crC xl hh0 (f.abs.opn.drop k) km = crC xl2 hh2 (f.abs.opn.drop (k + 1)) km.tail ∧ xl2.length ≤ 16777216 ∧ (∀ j, Ex2 j → E j ∨ h.size ≤ j)) ?_ ?_
    · --
      refine .cond (fun C4 => ?_) (fun C4 => ?_)
      · --
        have hkp := (keptN_ok (k := by0) hco).fit
        have hkp : (keptN ⟨f.ol[k].kind, f.ol[k].pos, f.ol[k].bl⟩ by0).1.pos + (keptN ⟨f.ol[k].kind, f.ol[k].pos, f.ol[k].bl⟩ by0).1.b.length ≤ 16777216 := hkp
        have ok := ok.d0 (rdI Ec Ec (f.ol[k].ba, (keptN ⟨f.ol[k].kind, f.ol[k].pos, f.ol[k].bl⟩ by0).1.b.length, f.ol[k].bc) (keptN ⟨f.ol[k].kind, f.ol[k].pos, f.ol[k].bl⟩ by0).1.b) ((ok.r0).pre kept_pre) (fun _ h => h)
        refine .a 11 (fun fl hh => cond fl True (Hp h (dskI d r).F [boxI pb2 117 [.int .i64 ((keptN ⟨f.ol[k].kind, f.ol[k].pos, f.ol[k].bl⟩ by0).1.kind : Int), .int .i64 ((keptN ⟨f.ol[k].kind, f.ol[k].pos, f.ol[k].bl⟩ by0).1.pos : Int), .slice (f.ol[k].ba) ((keptN ⟨f.ol[k].kind, f.ol[k].pos, f.ol[k].bl⟩ by0).1.b.length) (f.ol[k].bc)], boxI pb1 117 [.int .i64 (f.ol[k].kind : Int), .int .i64 (f.ol[k].pos : Int), .slice (f.ol[k].ba) (f.ol[k].bl.length) (f.ol[k].bc)], boxI f.blk 122 [.slice xa xl.length xc, .slice f.sa f.sl.length f.sc, .bool hh0, .bool f.was, .slice (some ⟨bb2, oo2, none⟩) f.ol.length f.oc], capI 3 117 (some ⟨bb2, oo2, none⟩, f.ol.length, f.oc) (f.ol.flatMap RC.cells), flsI (bdel rc.fs S[i]), boxI d 113 [.map (some rc.m), .bool rc.dark, .int .i64 rc.left, .int .i64 rc.chg], mapI kvB rc.m (ents rc.fs)] [rdI Ec Ec (f.ol[k].ba, (keptN ⟨f.ol[k].kind, f.ol[k].pos, f.ol[k].bl⟩ by0).1.b.length, f.ol[k].bc) ((keptN ⟨f.ol[k].kind, f.ol[k].pos, f.ol[k].bl⟩ by0).1.b), rdI Ec Ec (f.ol[k].ba, f.ol[k].bl.length, f.ol[k].bc) (f.ol[k].bl), rdI F2 E2 (ka2, km.tail.length, kc2) km.tail, rdI Ex none_ (xa, xl.length, xc) xl, byfI Ec f, bysI Ec rc.fs, rdI FS none_ (some ⟨bb1, oo1, none⟩, S.length, cS) (S.map Nm.mk)] hh)) mixed ?_
        have hS := ok
        refine .g 0 false rfl 77 hS (fun _ => .mvP) <| .g 1 false rfl 78 hS (fun _ => .mvP) <| .l 2 false rfl 79 hS (fun _ hS => .ldb T.ag117 hS.m0 T.sz117) <| .g 3 false rfl 80 hS (fun _ => .mvP) <| .g 4 false rfl 81 hS (fun _ => .nil) <| .g 5 false rfl 82 hS (fun _ => .fa T.fd122_0) <| .l 6 false rfl 83 hS (fun _ hS => .ldx T.ag22 hS.m2) <| .g 7 false rfl 84 hS (fun _ => .mvP) <| .g 8 false rfl 85 hS (fun _ => .nil) <| .g 9 false rfl 86 hS (fun _ => .fa T.fd122_2) <| .l 10 false rfl 87 hS (fun _ hS => .ldx T.ag4 hS.m2) <| .o1 11 <| .c' true rfl 88 .func (done_any (kind := (keptN ⟨f.ol[k].kind, f.ol[k].pos, f.ol[k].bl⟩ by0).1.kind) (pos := (keptN ⟨f.ol[k].kind, f.ol[k].pos, f.ol[k].bl⟩ by0).1.pos) (ba := f.ol[k].ba) (bc := f.ol[k].bc) (bl := (keptN ⟨f.ol[k].kind, f.ol[k].pos, f.ol[k].bl⟩ by0).1.b) (a := xa) (c := xc) (l := xl) (here := hh0) ok.r0 ok.r3 (by omega) (by omega)) ?_
        rintro _ η20 ⟨_, rfl, own⟩
        obtain ⟨ya2, yc2, rfl⟩ := own.formB
        have hyf := fun j hj => Nat.le_trans ok.chg.size (own.fresh j hj)
        have ok := ok.own own
        refine ⟨trivial, ?_⟩
        refine .g 12 true rfl 76 trivial (fun _ => .mvU) <| .g 13 true rfl 89 trivial (fun _ => .ex) <| .g 14 true rfl 90 trivial (fun _ => .ex) <| .g 15 true rfl 91 trivial (fun _ => .nil) <| .g 16 true rfl 92 trivial (fun _ => .fa T.fd122_0) <| .o1 17 <| .ur' true rfl (.stS T.sz22 ok.n3) ?_
        rintro η21 ⟨ok, cg⟩
        refine ⟨trivial, ?_⟩
        refine .g 18 true rfl 93 trivial (fun _ => .nil) <| .g 19 true rfl 94 trivial (fun _ => .fa T.fd122_2) <| .o1 20 <| .ur' true rfl (.stB T.sz4 ok) ?_
        rintro η22 ⟨ok, cg⟩
        refine ⟨trivial, ?_⟩
        refine .e ?_
        refine .end <| ⟨ya2, yc2, (doneN (keptN ⟨f.ol[k].kind, f.ol[k].pos, f.ol[k].bl⟩ by0).1 xl hh0).1, (doneN (keptN ⟨f.ol[k].kind, f.ol[k].pos, f.ol[k].bl⟩ by0).1 xl hh0).2, (blkC (sv (ya2, (doneN (keptN ⟨f.ol[k].kind, f.ol[k].pos, f.ol[k].bl⟩ by0).1 xl hh0).1.length, yc2))), ⟨rfl, rfl, rfl, rfl, rfl, rfl, rfl, rfl, rfl, rfl, trivial⟩, ((ok.n1.n7.n7.n7.n7.n5).n5.frzB rfl).k5.f7.f7.f7.f6.f4.e5, by rw [opn_drop hkL]; exact crC_t (c := ⟨f.ol[k].kind, f.ol[k].pos, f.ol[k].bl⟩) hby0 (by assumption) (by first | exact .inl (show f.ol[k].kind = 0 by omega) | exact .inr (by assumption)), doneN_len (keptN_ok hco) hxl, fun j hj => .inr (hyf j hj)⟩
      refine .skip <| .end <| ⟨xa, xc, xl, hh0, Ex, ⟨rfl, rfl, rfl, rfl, rfl, rfl, rfl, rfl, rfl, rfl, trivial⟩, (ok.n6.n6.n6.n6.n6).k5.f5.f5.f5.f4.f5.e5, by rw [opn_drop hkL]; exact crC_f (c := ⟨f.ol[k].kind, f.ol[k].pos, f.ol[k].bl⟩) hby0 (by rintro ⟨h1, h2 | h2⟩ <;> simp_all), hxl, hEx⟩
    rintro s η23 ⟨xa2, xc2, xl2, hh2, Ex2, hs, ok, hst, hxl2, hEx2⟩
    refine .frame hs fun τ => ?_
    refine .end <| hK3 _ _ <| .r <| .w 95 (.addI (b := 1)) <| .w 46 .mvI <| .nil ?_
    refine .end <| hJ1 _ _ _ ⟨k + 1, xa2, xc2, xl2, hh2, Ex2, ka2, kc2, km.tail, ⟨rfl, rfl, rfl, rfl, rfl, rfl, rfl, rfl, rfl, rfl, trivial⟩, ok, by omega, by rw [hcr, hst], by rw [hkm, List.tail_drop], hxl2, hEx2, rfl⟩ (by omega)
  refine .x 66 <| .x 67 <| .x 68 <| .x 69 <| .x 70 <| .x 71 <| .x 72 <| .x 73 <| .x 74 <| .w 75 .pkf <| .nil ?_
  refine .join (fun s hh => ∃ (xa2 : Option Addr) (xc2 : Nat) (xl2 : List UInt8) (hh2 : Bool) (Ex2 : Nat → Prop), Has s [(0, .pointer (some ⟨d, 0, none⟩)), (1, .slice ka2 km.tail.length kc2), (5, .string (BA (S[i]))), (6, .pointer (some ⟨f.blk, 0, none⟩)), (15, .slice (some ⟨bb1, oo1, none⟩) S.length cS), (16, .int .i64 (S.length : Int)), (17, .int .i64 (i : Int)), (44, .slice (some ⟨bb2, oo2, none⟩) f.ol.length f.oc), (45, .int .i64 (f.ol.length : Int)), (46, .int .i64 (k : Int))] ∧ Hp h (dskI d r).F [boxI f.blk 122 [.slice xa2 xl2.length xc2, .slice f.sa f.sl.length f.sc, .bool hh2, .bool f.was, .slice (some ⟨bb2, oo2, none⟩) f.ol.length f.oc], capI 3 117 (some ⟨bb2, oo2, none⟩, f.ol.length, f.oc) (f.ol.flatMap RC.cells), flsI (bdel rc.fs S[i]), boxI d 113 [.map (some rc.m), .bool rc.dark, .int .i64 rc.left, .int .i64 rc.chg], mapI kvB rc.m (ents rc.fs)] [rdI Ex2 none_ (xa2, xl2.length, xc2) xl2, rdI F2 E2 (ka2, km.tail.length, kc2) km.tail, byfI Ec f, bysI Ec rc.fs, rdI FS none_ (some ⟨bb1, oo1, none⟩, S.length, cS) (S.map Nm.mk)] hh ∧ crC xl hh0 (f.abs.opn.drop k) km = crC xl2 hh2 (f.abs.opn.drop (k + 1)) km.tail ∧ xl2.length ≤ 16777216 ∧ (∀ j, Ex2 j → E j ∨ h.size ≤ j)) ?_ ?_
  · --
    refine .cf <| .skip <| .end <| ⟨xa, xc, xl, hh0, Ex, ⟨rfl, rfl, rfl, rfl, rfl, rfl, rfl, rfl, rfl, rfl, trivial⟩, (ok.n6.n6.n6.n6.n6).k5.f5.f5.f5.f4.f5.e5, by rw [opn_drop hkL]; exact crC_f (c := ⟨f.ol[k].kind, f.ol[k].pos, f.ol[k].bl⟩) hby0 (by rintro ⟨h1, h2 | h2⟩ <;> simp_all), hxl, hEx⟩
  rintro s η24 ⟨xa2, xc2, xl2, hh2, Ex2, hs, ok, hst, hxl2, hEx2⟩
  refine .frame hs fun τ => ?_
  refine .end <| hK3 _ _ <| .r <| .w 95 (.addI (b := 1)) <| .w 46 .mvI <| .nil ?_
  refine .end <| hJ1 _ _ _ ⟨k + 1, xa2, xc2, xl2, hh2, Ex2, ka2, kc2, km.tail, ⟨rfl, rfl, rfl, rfl, rfl, rfl, rfl, rfl, rfl, rfl, trivial⟩, ok, by omega, by rw [hcr, hst], by rw [hkm, List.tail_drop], hxl2, hEx2, rfl⟩ (by omega)

end Go.Proofs.Ytpebbkhainpfaaa
