/- A disk and the document's: what ties them, and that each call keeps it. Conditions: both are in order. A disk behind few calls; the law DiskSafe: a file that was synced is as it was. Conditions: the calls are readable. A disk's copy. Conditions: the disk is in order, its changes few, the bytes readable. -/
import Derived.Test.YtpebbkhainpfaaaPk12
namespace Go.Proofs.Ytpebbkhainpfaaa
open Go Go.HL
/-! ### Files by name -/
def lk (l : List WF) (n : List UInt8) : Option (List UInt8) := (l.find? fun f => decide (f.n = n)).map (·.b)
theorem lk_nil (n : List UInt8) : lk [] n = none := rfl
theorem lk_cons (f : WF) (l : List WF) (n : List UInt8) : lk (f :: l) n = if f.n = n then some f.b else lk l n := by
  unfold lk
  by_cases h : f.n = n
  · rw [List.find?_cons_of_pos (p := fun f : WF => decide (f.n = n)) (decide_eq_true h), if_pos h]; rfl
  · rw [List.find?_cons_of_neg (p := fun f : WF => decide (f.n = n)) (ne_true_of_eq_false (decide_eq_false h)), if_neg h]
theorem lk_without {l : List WF} {n m : List UInt8} : lk (withoutL WF.n l n) m = if m = n then none else lk l m := by
  induction l with
  | nil => simp [withoutL, lk]
  | cons f l ih =>
    by_cases h : f.n = n
    · rw [show withoutL WF.n (f :: l) n = withoutL WF.n l n from wos h, ih, lk_cons]
      by_cases hm : m = n
      · rw [if_pos hm, if_pos hm]
      · rw [if_neg hm, if_neg hm, if_neg (by rw [h]; exact fun e => hm e.symm)]
    · rw [show withoutL WF.n (f :: l) n = f :: withoutL WF.n l n from wog h, lk_cons, ih, lk_cons]
      by_cases hf : f.n = m
      · rw [if_pos hf, if_pos hf, if_neg (by rw [← hf]; exact h)]
      · rw [if_neg hf, if_neg hf]
theorem lk_with {l : List WF} {f : WF} {m : List UInt8} : lk (withL WF.n f l) m = if m = f.n then some f.b else lk l m := by
  induction l with
  | nil =>
    rw [withL, lk_cons, lk_nil]
    by_cases h : m = f.n
    · rw [if_pos h, if_pos h.symm]
    · rw [if_neg h, if_neg (fun e => h e.symm)]
  | cons x l ih =>
    simp only [withL]
    by_cases hx : x.n = f.n
    · rw [if_pos hx, ih, lk_cons]
      by_cases h : m = f.n
      · rw [if_pos h, if_pos h]
      · rw [if_neg h, if_neg h, if_neg (by rw [hx]; exact fun e => h e.symm)]
    · rw [if_neg hx]
      split
      · rw [lk_cons, lk_cons, lk_without, lk_cons]
        by_cases h : m = f.n
        · rw [if_pos h.symm, if_pos h]
        · rw [if_neg (fun e => h e.symm), if_neg h, if_neg h]
      · rw [lk_cons, ih, lk_cons]
        by_cases h : x.n = m
        · rw [if_pos h, if_pos h, if_neg (by rw [← h]; exact hx)]
        · rw [if_neg h, if_neg h]
theorem lk_some {l : List WF} {n b : List UInt8} (h : lk l n = some b) : ∃ g, l.find? (fun f => decide (f.n = n)) = some g ∧ g.n = n ∧ g.b = b := by
  unfold lk at h
  cases hd : l.find? fun f => decide (f.n = n) with
  | none => rw [hd] at h; cases h
  | some g => rw [hd] at h; exact ⟨g, rfl, of_decide_eq_true (List.find?_some (p := fun f : WF => decide (f.n = n)) hd), Option.some.inj h⟩
theorem lk_none {l : List WF} {n : List UInt8} (h : lk l n = none) : l.find? (fun f => decide (f.n = n)) = none := by
  unfold lk at h
  cases hd : l.find? fun f => decide (f.n = n) with
  | none => rfl
  | some g => rw [hd] at h; cases h
theorem hasW_lk {l : List WF} {n : List UInt8} : hasW l n = (lk l n).isSome := by unfold hasW lk; cases l.find? fun f => decide (f.n = n) <;> rfl
def Srt (l : List WF) : Prop := l.Pairwise fun a b => a.n < b.n
theorem without_srt {l : List WF} {n : List UInt8} (h : Srt l) : Srt (withoutL WF.n l n) := List.Pairwise.filter _ h
theorem with_srt {f : WF} : ∀ {l : List WF}, Srt l → Srt (withL WF.n f l)
  | [], _ => List.pairwise_singleton _ _
  | x :: l, h => by
    have h1 := List.pairwise_cons.1 h
    simp only [withL]
    split
    · exact with_srt h1.2
    · rename_i hx
      split
      · rename_i hf
        refine List.pairwise_cons.2 ⟨fun y hy => ?_, List.pairwise_cons.2 ⟨fun y hy => h1.1 y (List.mem_filter.1 hy).1, without_srt h1.2⟩⟩
        rcases List.mem_cons.1 hy with rfl | hy
        · exact hf
        · exact List.lt_trans hf (h1.1 y (List.mem_filter.1 hy).1)
      · rename_i hf
        refine List.pairwise_cons.2 ⟨fun y hy => ?_, with_srt h1.2⟩
        rcases withL_mem _ _ hy with rfl | hy
        · exact ((list_tri x.n y.n).resolve_right (by rintro (e | e); exact hx e; exact hf e))
        · exact h1.1 y hy
theorem do_srt {l : List WF} {c : WC} (h : Srt l) : Srt (doW l c) := by
  unfold doW
  repeat' split
  · exact h
  · exact with_srt h
  · exact with_srt h
  · exact with_srt h
  · exact without_srt h
/-! ### A change to what may not be there -/
def optB (p : List UInt8 × Bool) : Option (List UInt8) := if p.2 = true then some p.1 else none
def doO (c : Chn) : Option (List UInt8) → Option (List UInt8)
  | none => if c.kind = 0 then some (patchN (longN [] (max 0 (c.pos + c.b.length))) c.pos c.b) else none
  | some b => if c.kind = 0 then some (patchN (longN b (max b.length (c.pos + c.b.length))) c.pos c.b) else if c.kind = 1 then some (longN b c.pos) else none
theorem done_opt {c : Chn} {b : List UInt8} {h : Bool} (hb : h = false → b = []) : optB (doneN c b h) = doO c (optB (b, h)) := by
  cases h with
  | false =>
    rw [hb rfl]
    unfold doneN optB doO
    by_cases h0 : c.kind = 0
    · simp [h0]
    · simp [h0]
  | true =>
    unfold doneN optB doO
    by_cases h0 : c.kind = 0
    · simp [h0]
    · by_cases h1 : c.kind = 1 <;> simp [h0, h1]
theorem done_nil {c : Chn} {b : List UInt8} {h : Bool} (e : (doneN c b h).2 = false) : (doneN c b h).1 = [] := by
  unfold doneN at e ⊢
  split
  · rename_i h0; rw [if_pos h0] at e; cases e
  · rename_i h0
    rw [if_neg h0] at e
    split
    · rename_i h1; rw [if_pos h1] at e; cases e
    · rfl
theorem doO_n0 {c : Chn} (h : c.kind = 0) : doO c none = some (patchN (longN [] (max 0 (c.pos + c.b.length))) c.pos c.b) := if_pos h
theorem doO_n1 {c : Chn} (h : ¬ c.kind = 0) : doO c none = none := if_neg h
theorem doO_0 {c : Chn} {b : List UInt8} (h : c.kind = 0) : doO c (some b) = some (patchN (longN b (max b.length (c.pos + c.b.length))) c.pos c.b) := if_pos h
theorem doO_1 {c : Chn} {b : List UInt8} (h : c.kind = 1) : doO c (some b) = some (longN b c.pos) := by unfold doO; simp only; rw [if_neg (by omega), if_pos h]
theorem doO_2 {c : Chn} {b : List UInt8} (h : ¬ c.kind = 0) (h1 : ¬ c.kind = 1) : doO c (some b) = none := by unfold doO; simp only; rw [if_neg h, if_neg h1]
theorem lk_do {l : List WF} {c : WC} {m : List UInt8} : lk (doW l c) m = if m = c.n then doO c.ch (lk l c.n) else lk l m := by
  unfold doW
  cases hd : l.find? fun f => decide (f.n = c.n) with
  | none =>
    have hl : lk l c.n = none := by unfold lk; rw [hd]; rfl
    rw [hl]
    simp only
    by_cases h0 : 0 < c.kind
    · rw [if_pos h0, doO_n1 (c := c.ch) (show ¬ c.kind = 0 by omega)]
      by_cases h : m = c.n
      · rw [if_pos h, h, hl]
      · rw [if_neg h]
    · rw [if_neg h0, lk_with, doO_n0 (c := c.ch) (show c.kind = 0 by omega)]; rfl
  | some f =>
    have hl : lk l c.n = some f.b := by unfold lk; rw [hd]; rfl
    rw [hl]
    simp only
    by_cases h0 : c.kind = 0
    · rw [if_pos h0, lk_with, doO_0 (c := c.ch) h0]; rfl
    · rw [if_neg h0]
      by_cases h1 : c.kind = 1
      · rw [if_pos h1, lk_with, doO_1 (c := c.ch) h1]; rfl
      · rw [if_neg h1, lk_without, doO_2 (c := c.ch) h0 h1]
/-! ### What ties the two -/
def nowF (f : Fl) : Option (List UInt8) := optB (f.now, f.here)
def safeF (f : Fl) : Option (List UInt8) := optB (f.safe, f.was)
def nowO (d : Dk) (n : List UInt8) : Option (List UInt8) := (d.fs n).bind nowF
def safeO (d : Dk) (n : List UInt8) : Option (List UInt8) := (d.fs n).bind safeF
def opnF (o : Option Fl) : List Chn := match o with | some f => f.opn | none => []
def repF (f : Fl) : List UInt8 × Bool := f.opn.foldl (fun p c => doneN c p.1 p.2) (f.safe, f.was)
structure FlV (f : Fl) : Prop where
  now0 : f.here = false → f.now = []
  safe0 : f.was = false → f.safe = []
  rep : repF f = (f.now, f.here)
structure Rel (d : Dk) (w : WD) : Prop where
  dark : d.dark = w.gone
  left : d.left = w.left
  chg : d.chg = w.many
  now : ∀ n, nowO d n = lk w.now n
  safe : ∀ n, safeO d n = lk w.safe n
  pend : ∀ n, opnF (d.fs n) = (w.pend.filter fun c => decide (c.n = n)).map WC.ch
  fs : ∀ n f, d.fs n = some f → FlV f ∧ (f.here = true ∨ f.opn ≠ []) ∧ n ≠ [] ∧ n.length ≤ 32
  snow : Srt w.now
  ssafe : Srt w.safe
  plen : (w.pend.length : Int) ≤ w.many
  pn : ∀ c ∈ w.pend, c.n ≠ []
theorem Rel.new : Rel newN newW := ⟨rfl, rfl, rfl, fun _ => rfl, fun _ => rfl, fun _ => rfl, fun _ _ h => (by cases h), List.Pairwise.nil, List.Pairwise.nil, Int.le_refl _, fun _ h => (by cases h)⟩
theorem Rel.dim {d : Dk} {w : WD} (R : Rel d w) : Rel ⟨d.fs, true, d.left, d.chg⟩ ⟨w.safe, w.now, w.pend, w.left, true, w.many⟩ := ⟨rfl, R.left, R.chg, R.now, R.safe, R.pend, R.fs, R.snow, R.ssafe, R.plen, R.pn⟩
theorem noF_v : FlV noF := ⟨fun _ => rfl, fun _ => rfl, rfl⟩
theorem Rel.getV {d : Dk} {w : WD} (R : Rel d w) (n : List UInt8) : FlV ((d.fs n).getD noF) := by
  cases h : d.fs n with
  | none => exact noF_v
  | some f => exact (R.fs n f h).1
theorem getD_now {d : Dk} {n : List UInt8} : nowF ((d.fs n).getD noF) = nowO d n := by unfold nowO; cases d.fs n <;> rfl
theorem getD_safe {d : Dk} {n : List UInt8} : safeF ((d.fs n).getD noF) = safeO d n := by unfold safeO; cases d.fs n <;> rfl
theorem getD_opn {d : Dk} {n : List UInt8} : ((d.fs n).getD noF).opn = opnF (d.fs n) := by cases d.fs n <;> rfl
theorem chgF_v {f : Fl} {c : Chn} (v : FlV f) : FlV (chgF f c) := ⟨done_nil, v.safe0, by
  have h := v.rep
  unfold repF at h ⊢
  simp only [chgF, List.foldl_append, List.foldl_cons, List.foldl_nil]
  rw [h]⟩
theorem put1_bind {fs : List UInt8 → Option Fl} {n m : List UInt8} {v : Option Fl} {g : Fl → Option (List UInt8)} : (put1 fs n v m).bind g = if m = n then v.bind g else (fs m).bind g := by unfold put1; split <;> rfl
theorem Rel.do {d : Dk} {w : WD} {C : WC} (R : Rel d w) (hn : C.n ≠ [] ∧ C.n.length ≤ 32) : Rel (doN d C.n C.ch).1 (changeW w C).1 ∧ (doN d C.n C.ch).2 = (changeW w C).2 := by
  have hl := R.left
  by_cases h0 : d.left = 0
  · have h1 : w.left = 0 := by rw [← hl]; exact h0
    rw [show doN d C.n C.ch = (⟨d.fs, true, d.left, d.chg⟩, 13) by unfold doN powerN; rw [if_pos h0, if_pos h0], changeW_0 h1, countW_0 h1]
    exact ⟨R.dim, rfl⟩
  · have h1 : ¬ w.left = 0 := by rw [← hl]; exact h0
    rw [show doN d C.n C.ch = (⟨put1 d.fs C.n (some (chgF ((d.fs C.n).getD noF) C.ch)), d.dark, if 0 < d.left then d.left - 1 else d.left, d.chg + 1⟩, 0) by unfold doN; rw [if_neg h0], changeW_1 h1]
    have v := R.getV C.n
    refine ⟨⟨R.dark, by simp only; rw [hl], by simp only; rw [R.chg], fun m => ?_, fun m => ?_, fun m => ?_, fun m f h => ?_, do_srt R.snow, R.ssafe, ?_, fun c hc => ?_⟩, rfl⟩
    · show (put1 _ _ _ m).bind nowF = lk (doW w.now C) m
      rw [put1_bind, lk_do, ← R.now m, ← R.now C.n, ← getD_now]
      by_cases hm : m = C.n
      · rw [if_pos hm, if_pos hm]; exact done_opt v.now0
      · rw [if_neg hm, if_neg hm]; rfl
    · show (put1 _ _ _ m).bind safeF = lk w.safe m
      rw [put1_bind, ← R.safe m]
      by_cases hm : m = C.n
      · rw [if_pos hm, hm, ← getD_safe]; rfl
      · rw [if_neg hm]; rfl
    · show opnF (put1 _ _ _ m) = ((w.pend ++ [C]).filter _).map _
      rw [List.filter_append, List.map_append, ← R.pend m]
      by_cases hm : m = C.n
      · subst hm
        rw [put1_at, ← getD_opn]; simp [opnF, chgF]
      · rw [put1_ne hm]
        have : ¬ C.n = m := fun e => hm e.symm
        simp [this]
    · simp only [put1] at h
      split at h
      · rename_i hm; subst hm
        injection h with h; subst h
        exact ⟨chgF_v v, .inr (by simp [chgF]), hn⟩
      · exact R.fs m f h
    · have := R.plen
      simp only [List.length_append, List.length_singleton]; omega
    · rcases List.mem_append.1 hc with hc | hc
      · exact R.pn c hc
      · rw [List.mem_singleton.1 hc]; exact hn.1
theorem Rel.there {d : Dk} {w : WD} (R : Rel d w) (n : List UInt8) : thereN d n = hasW w.now n := by
  rw [hasW_lk, ← R.now n]
  unfold thereN nowO
  cases d.fs n with
  | none => rfl
  | some f => simp only [Option.bind_some, nowF, optB]; cases f.here <;> rfl
theorem wrong_eq1 {d : Dk} {g : Bool} {n : List UInt8} {z : Int} (h : d.dark = g) : wrongN d n [z] = wrongW g n z 0 := by
  unfold wrongN wrongW; rw [h]; simp
theorem wrong_eq0 {d : Dk} {g : Bool} {n : List UInt8} (h : d.dark = g) : wrongN d n [] = wrongW g n 0 0 := by
  unfold wrongN wrongW; rw [h]; simp
theorem wrong_eq2 {d : Dk} {g : Bool} {n : List UInt8} {y z : Int} (h : d.dark = g) : wrongN d n [y, z] = wrongW g n y z := by
  unfold wrongN wrongW; rw [h]; simp
theorem wrong_n {d : Dk} {n : List UInt8} {zs : List Int} (h : wrongN d n zs = 0) : n ≠ [] ∧ n.length ≤ 32 := ⟨by rintro rfl; have := (wrongN_ok h).1; simp at this, (wrongN_ok h).2.1⟩
theorem Rel.write {d : Dk} {w : WD} {n b : List UInt8} {z : Int} (R : Rel d w) : Rel (writeN d n z b).1 (writeW w n z b).1 ∧ (writeN d n z b).2 = (writeW w n z b).2 := by
  unfold writeN writeW
  rw [← wrong_eq1 (n := n) (z := z) R.dark]
  by_cases h0 : wrongN d n [z] = 0
  · have hn0 : ¬ (wrongN d n [z] ≠ 0) := fun h => h h0
    rw [if_neg hn0, if_neg hn0]
    split
    · exact ⟨R, rfl⟩
    · have := R.do (C := ⟨0, z.toNat, n, longN b b.length⟩) (wrong_n h0)
      simpa only [WC.ch, show longN b b.length = b by simp [longN]] using this
  · rw [if_pos h0, if_pos h0]; exact ⟨R, rfl⟩
theorem Rel.trunc {d : Dk} {w : WD} {n : List UInt8} {z : Int} (R : Rel d w) : Rel (truncN d n z).1 (truncW w n z).1 ∧ (truncN d n z).2 = (truncW w n z).2 := by
  unfold truncN truncW
  rw [← wrong_eq1 (n := n) (z := z) R.dark, ← R.there n]
  by_cases h0 : wrongN d n [z] = 0
  · have hn0 : ¬ (wrongN d n [z] ≠ 0) := fun h => h h0
    rw [if_neg hn0, if_neg hn0]
    split
    · exact ⟨R, rfl⟩
    · split
      · exact ⟨R, rfl⟩
      · exact R.do (C := ⟨1, z.toNat, n, []⟩) (wrong_n h0)
  · rw [if_pos h0, if_pos h0]; exact ⟨R, rfl⟩
theorem Rel.remove {d : Dk} {w : WD} {n : List UInt8} (R : Rel d w) : Rel (removeN d n).1 (removeW w n).1 ∧ (removeN d n).2 = (removeW w n).2 := by
  unfold removeN removeW
  rw [← wrong_eq0 (n := n) R.dark, ← R.there n]
  by_cases h0 : wrongN d n [] = 0
  · have hn0 : ¬ (wrongN d n [] ≠ 0) := fun h => h h0
    rw [if_neg hn0, if_neg hn0]
    split
    · exact ⟨R, rfl⟩
    · exact R.do (C := ⟨2, 0, n, []⟩) (wrong_n h0)
  · rw [if_pos h0, if_pos h0]; exact ⟨R, rfl⟩
theorem Rel.cut {d : Dk} {w : WD} {z : Int} (R : Rel d w) : Rel (cutN d z) (cutW w z) := by
  unfold cutN cutW
  rw [R.dark]
  split
  · exact R
  · exact ⟨rfl, rfl, R.chg, R.now, R.safe, R.pend, R.fs, R.snow, R.ssafe, R.plen, R.pn⟩
theorem Rel.read {d : Dk} {w : WD} {n : List UInt8} {y z : Int} (R : Rel d w) : readN d n y z = readW w n y z := by
  unfold readN readW
  rw [← wrong_eq2 (n := n) (y := y) (z := z) R.dark]
  by_cases h0 : wrongN d n [y, z] = 0
  · have hn0 : ¬ (wrongN d n [y, z] ≠ 0) := fun h => h h0
    rw [if_neg hn0, if_neg hn0]
    have h1 := R.now n
    unfold nowO at h1
    cases hf : d.fs n with
    | none =>
      rw [hf] at h1
      rw [lk_none h1.symm]
    | some f =>
      rw [hf] at h1
      simp only [Option.bind_some, nowF, optB] at h1
      cases hh : f.here with
      | false =>
        rw [hh] at h1
        rw [lk_none h1.symm]; simp [hh]
      | true =>
        rw [hh] at h1
        obtain ⟨g, hg, _, hb⟩ := lk_some h1.symm
        rw [hg]; simp [hh, hb]
  · rw [if_pos h0, if_pos h0]
theorem Rel.size {d : Dk} {w : WD} {n : List UInt8} (R : Rel d w) : sizeN d n = sizeW w n := by
  unfold sizeN sizeW
  rw [R.there n, R.dark, hasW_lk]
  cases hk : lk w.now n with
  | none => rw [lk_none hk]; simp
  | some b =>
    obtain ⟨g, hg, _, hb⟩ := lk_some hk
    rw [hg]
    have h1 := R.now n
    rw [hk] at h1
    cases hw : w.gone with
    | true => simp
    | false =>
      simp only [Option.isSome_some]
      rw [if_neg (by simp), if_neg (by decide)]
      rw [← getD_now] at h1
      unfold nowF optB at h1
      split at h1
      · injection h1 with h1; rw [hb, ← h1]
      · cases h1
theorem fc_pos {l : List WC} {c : WC} {n : List UInt8} (h : c.n = n) : (c :: l).filter (fun c => decide (c.n = n)) = c :: l.filter fun c => decide (c.n = n) := List.filter_cons_of_pos (p := fun c : WC => decide (c.n = n)) (decide_eq_true h)
theorem fc_neg {l : List WC} {c : WC} {n : List UInt8} (h : ¬ c.n = n) : (c :: l).filter (fun c => decide (c.n = n)) = l.filter fun c => decide (c.n = n) := List.filter_cons_of_neg (p := fun c : WC => decide (c.n = n)) (ne_true_of_eq_false (decide_eq_false h))
theorem wo_len {l : List WC} {n : List UInt8} : (withoutL WC.n l n).length + (l.filter fun c => decide (c.n = n)).length = l.length := by
  induction l with
  | nil => rfl
  | cons c l ih =>
    by_cases h : c.n = n
    · rw [wos h, fc_pos h, List.length_cons, List.length_cons]; omega
    · rw [wog h, fc_neg h, List.length_cons, List.length_cons]; omega
theorem filt_wo {l : List WC} {n m : List UInt8} : (withoutL WC.n l n).filter (fun c => decide (c.n = m)) = if m = n then [] else l.filter fun c => decide (c.n = m) := by
  unfold withoutL
  rw [List.filter_filter]
  by_cases h : m = n
  · rw [if_pos h, List.filter_eq_nil_iff]
    intro c _; subst h; simp
  · rw [if_neg h]
    apply List.filter_congr
    intro c _
    by_cases hc : c.n = m
    · simp [hc, h]
    · simp [hc]
theorem sync_s {w : WD} {n m : List UInt8} : lk (match w.now.find? fun f => decide (f.n = n) with | none => withoutL WF.n w.safe n | some f => withL WF.n f w.safe) m = if m = n then lk w.now n else lk w.safe m := by
  cases hk : lk w.now n with
  | none => rw [lk_none hk]; simp only; rw [lk_without]
  | some b =>
    obtain ⟨g, hg, hn, hb⟩ := lk_some hk
    rw [hg]; simp only; rw [lk_with, hn, hb]
theorem settle_now {f : Fl} : (settleF f).bind nowF = nowF f := by unfold settleF nowF optB; cases f.here <;> rfl
theorem settle_safe {f : Fl} : (settleF f).bind safeF = nowF f := by unfold settleF safeF nowF optB; cases f.here <;> rfl
theorem settle_opn {f : Fl} : opnF (settleF f) = [] := by unfold settleF; cases f.here <;> rfl
theorem settle_v {f g : Fl} (h : settleF f = some g) : FlV g ∧ (g.here = true ∨ g.opn ≠ []) := by
  unfold settleF at h
  split at h
  · injection h with h; subst h
    exact ⟨⟨fun h => (by cases h), fun h => (by cases h), rfl⟩, .inl rfl⟩
  · cases h
theorem Rel.sync {d : Dk} {w : WD} {n : List UInt8} (R : Rel d w) : Rel (syncN d n).1 (syncW w n).1 ∧ (syncN d n).2 = (syncW w n).2 := by
  have hw := wrong_eq0 (n := n) R.dark
  have ht := R.there n
  have hp := R.pend n
  have hl := wo_len (l := w.pend) (n := n)
  by_cases h0 : wrongN d n [] = 0
  · have h0w : wrongW w.gone n 0 0 = 0 := by rw [← hw]; exact h0
    cases hf : d.fs n with
    | none =>
      rw [hf] at hp
      have hfl : (w.pend.filter fun c => decide (c.n = n)).length = 0 := by have := congrArg List.length hp; simpa [opnF] using this.symm
      rw [sync_n h0 hf, syncW_n h0w (by rw [← ht]; unfold thereN; rw [hf]) (by omega)]
      exact ⟨R, rfl⟩
    | some f =>
      have hfl : (w.pend.filter fun c => decide (c.n = n)).length = f.opn.length := by rw [hf] at hp; have := congrArg List.length hp; simpa [opnF] using this.symm
      have hth : thereN d n = f.here := by unfold thereN; rw [hf]
      by_cases h1 : f.here = false ∧ f.opn = []
      · have h9 : f.opn.length = 0 := by rw [h1.2]; rfl
        rw [sync_0 h0 hf h1, syncW_n h0w (by rw [← ht, hth]; exact h1.1) (by omega)]
        exact ⟨R, rfl⟩
      · have h1w : ¬ (hasW w.now n = false ∧ (withoutL WC.n w.pend n).length = w.pend.length) := by
          rintro ⟨g1, g2⟩
          refine h1 ⟨by rw [← hth, ht]; exact g1, List.eq_nil_of_length_eq_zero (by omega)⟩
        by_cases h2 : d.left = 0
        · have h2w : w.left = 0 := by rw [← R.left]; exact h2
          rw [sync_p h0 hf h1 h2, syncW_p h0w h1w h2w, countW_0 h2w, show powerN d = (⟨d.fs, true, d.left, d.chg⟩, 13) by unfold powerN; rw [if_pos h2]]
          exact ⟨R.dim, rfl⟩
        · have h2w : ¬ w.left = 0 := by rw [← R.left]; exact h2
          rw [sync_d h0 hf h1 h2, syncW_d h0w h1w h2w rfl]
          have hnf : nowF f = lk w.now n := by rw [← R.now n]; unfold nowO; rw [hf]; rfl
          refine ⟨⟨R.dark, by simp only; rw [R.left], by simp only; rw [R.chg], fun m => ?_, fun m => ?_, fun m => ?_, fun m g h => ?_, R.snow, ?_, ?_, fun c hc => R.pn c (List.mem_filter.1 hc).1⟩, rfl⟩
          · show (put1 _ _ _ m).bind nowF = _
            rw [put1_bind, settle_now]
            by_cases hm : m = n
            · rw [if_pos hm, hm]; exact hnf
            · rw [if_neg hm]; exact R.now m
          · show (put1 _ _ _ m).bind safeF = _
            refine Eq.trans ?_ (sync_s (w := w) (n := n) (m := m)).symm
            rw [put1_bind, settle_safe]
            by_cases hm : m = n
            · rw [if_pos hm, if_pos hm]; exact hnf
            · rw [if_neg hm, if_neg hm]; exact R.safe m
          · show opnF (put1 _ _ _ m) = _
            rw [filt_wo]
            by_cases hm : m = n
            · rw [if_pos hm, hm, put1_at, settle_opn]; rfl
            · rw [if_neg hm, put1_ne hm]; exact R.pend m
          · simp only [put1] at h
            split at h
            · rename_i hm; subst hm
              exact ⟨(settle_v h).1, (settle_v h).2, (R.fs m f hf).2.2⟩
            · exact R.fs m g h
          · simp only
            split
            · exact without_srt R.ssafe
            · exact with_srt R.ssafe
          · have := R.plen
            have := withoutL_len WC.n w.pend n
            simp only; omega
  · have h0w : wrongW w.gone n 0 0 ≠ 0 := by rw [← hw]; exact h0
    unfold syncN syncW
    rw [if_pos h0, if_pos h0w, hw]; exact ⟨R, rfl⟩
/-! ### The crash -/
theorem kew_ch {c : WC} {k : Nat} (h0 : c.kind = 0) (hk : k < 256) : (keptN c.ch k).1 = (keW c k).ch := by
  unfold keptN keW WC.ch
  rw [if_neg (by simpa using h0)]
  by_cases h : k = 255
  · subst h
    simp only [ne_eq, not_true, if_false, Chn.mk.injEq, true_and]
    rw [Nat.mul_div_cancel _ (by decide), longN_le (Nat.le_refl _), List.take_length]
  · simp only [ne_eq, h, not_false_iff, if_true, Chn.mk.injEq, true_and]
    have : c.b.length * k / 255 ≤ c.b.length := Nat.div_le_of_le_mul (by rw [Nat.mul_comm]; exact Nat.mul_le_mul_right _ (by omega))
    rw [longN_le this]
def crS (c : Chn) (b : List UInt8) (h : Bool) (k : Nat) : List UInt8 × Bool := if (keptN c k).2 = true ∧ (c.kind = 0 ∨ h = true) then doneN (keptN c k).1 b h else (b, h)
theorem crS_y {c : Chn} {b : List UInt8} {h : Bool} {k : Nat} (h1 : (keptN c k).2 = true) (h2 : c.kind = 0 ∨ h = true) : crS c b h k = doneN (keptN c k).1 b h := if_pos ⟨h1, h2⟩
theorem crS_n {c : Chn} {b : List UInt8} {h : Bool} {k : Nat} (h1 : ¬ ((keptN c k).2 = true ∧ (c.kind = 0 ∨ h = true))) : crS c b h k = (b, h) := if_neg h1
theorem crC_s {b : List UInt8} {h : Bool} {c : Chn} {l : List Chn} {ks : List UInt8} : crC b h (c :: l) ks = crC (crS c b h (ks.headD 0).toNat).1 (crS c b h (ks.headD 0).toNat).2 l ks.tail := by
  unfold crS
  by_cases g : (keptN c (ks.headD 0).toNat).2 = true ∧ (c.kind = 0 ∨ h = true)
  · rw [if_pos g, crC_t rfl g.1 g.2]
  · rw [if_neg g, crC_f rfl g]
theorem crS_nil {c : Chn} {b : List UInt8} {h : Bool} {k : Nat} (hb : h = false → b = []) : (crS c b h k).2 = false → (crS c b h k).1 = [] := by
  unfold crS; split
  · exact done_nil
  · exact hb
theorem crS_lk {L : List WF} {c : WC} {b : List UInt8} {h : Bool} {k : Nat} {m : List UInt8} (hL : lk L c.n = optB (b, h)) (hb : h = false → b = []) (hk : k < 256) :
    lk (if 0 < k ∧ (c.kind = 0 ∨ 128 ≤ k) then doW L (keW c k) else L) m = if m = c.n then optB (crS c.ch b h k) else lk L m := by
  have hsame : lk L m = if m = c.n then optB (b, h) else lk L m := by
    by_cases hm : m = c.n
    · rw [if_pos hm, hm, hL]
    · rw [if_neg hm]
  by_cases h0 : c.kind = 0
  · by_cases hk0 : 0 < k
    · rw [if_pos ⟨hk0, .inl h0⟩, lk_do]
      have h1 : (keptN c.ch k).2 = true := by unfold keptN; rw [if_neg (by simpa [WC.ch] using h0)]; simp; omega
      rw [crS_y h1 (.inl h0), done_opt hb, kew_ch h0 hk, ← hL]; rfl
    · rw [if_neg (fun g => hk0 g.1)]
      have h1 : (keptN c.ch k).2 = false := by unfold keptN; rw [if_neg (by simpa [WC.ch] using h0)]; simp; omega
      rw [crS_n (by rw [h1]; simp)]; exact hsame
  · have h1 : keptN c.ch k = (c.ch, decide (128 ≤ k)) := by unfold keptN; rw [if_pos (by simpa [WC.ch] using h0)]
    by_cases hk0 : 128 ≤ k
    · rw [if_pos ⟨by omega, .inr hk0⟩, lk_do]
      cases h with
      | true =>
        rw [crS_y (by rw [h1]; exact decide_eq_true hk0) (.inr rfl), done_opt hb, h1]
        show (if m = c.n then doO (keW c k).ch (lk L c.n) else lk L m) = _
        rw [hL]
        have e : doO (keW c k).ch (optB (b, true)) = doO c.ch (optB (b, true)) := by
          show doO (keW c k).ch (some b) = doO c.ch (some b)
          by_cases h2 : c.kind = 1
          · rw [doO_1 (c := (keW c k).ch) h2, doO_1 (c := c.ch) h2]; rfl
          · rw [doO_2 (c := (keW c k).ch) h0 h2, doO_2 (c := c.ch) h0 h2]
        rw [e]
      | false =>
        rw [crS_n (by rintro ⟨_, g | g⟩; exact h0 g; cases g)]
        show (if m = c.n then doO (keW c k).ch (lk L c.n) else lk L m) = _
        rw [hL]
        have e : doO (keW c k).ch (optB (b, false)) = optB (b, false) := doO_n1 (c := (keW c k).ch) h0
        rw [e]
    · rw [if_neg (fun g => g.2.elim h0 hk0)]
      rw [crS_n (by rw [h1]; simp; omega)]; exact hsame
theorem apC_spec {x : List UInt8} : ∀ (P : List WC) {L : List WF} {ks b : List UInt8} {h : Bool}, lk L x = optB (b, h) → (h = false → b = []) → Srt L →
    (∀ m, lk (apC x L ks P).1 m = if m = x then optB (crC b h ((P.filter fun c => decide (c.n = x)).map WC.ch) ks) else lk L m) ∧ (apC x L ks P).2 = ks.drop (P.filter fun c => decide (c.n = x)).length ∧ Srt (apC x L ks P).1
  | [], L, ks, b, h, hL, _, hs => ⟨fun m => by
      by_cases hm : m = x
      · rw [if_pos hm, hm]; exact hL
      · rw [if_neg hm]; rfl, rfl, hs⟩
  | c :: P, L, ks, b, h, hL, hb, hs => by
    by_cases hc : c.n = x
    · have hk : (ks.headD 0).toNat < 256 := UInt8.toNat_lt _
      rw [fc_pos hc, apC, if_neg (by simpa using hc)]
      have g := fun m => crS_lk (L := L) (c := c) (m := m) (by rw [hc]; exact hL) hb hk
      have q := apC_spec (x := x) P (L := if 0 < (ks.headD 0).toNat ∧ (c.kind = 0 ∨ 128 ≤ (ks.headD 0).toNat) then doW L (keW c (ks.headD 0).toNat) else L) (ks := ks.tail) (b := (crS c.ch b h (ks.headD 0).toNat).1) (h := (crS c.ch b h (ks.headD 0).toNat).2) (by rw [g x, if_pos hc.symm]) (crS_nil hb) (by split; exact do_srt hs; exact hs)
      refine ⟨fun m => ?_, ?_, q.2.2⟩
      · rw [q.1 m, List.map_cons, crC_s]
        by_cases hm : m = x
        · rw [if_pos hm, if_pos hm]
        · rw [if_neg hm, if_neg hm, g m, if_neg (by rw [hc]; exact hm)]
      · rw [q.2.1, List.length_cons, List.drop_tail]
    · rw [fc_neg hc, apC, if_pos hc]
      exact apC_spec P hL hb hs
theorem lt_asymm' {a b : List UInt8} (h : a < b) : ¬ b < a := fun g => absurd (List.lt_trans h g) (List.lt_irrefl _)
theorem nx_spec {lo : List UInt8} : ∀ (l : List WC) (nx : List UInt8), (∀ c ∈ l, c.n ≠ []) →
    (l.foldl (fun nx c => nxS lo nx c.n) nx = nx ∨ ∃ c ∈ l, c.n = l.foldl (fun nx c => nxS lo nx c.n) nx ∧ lo < c.n) ∧ (nx ≠ [] → l.foldl (fun nx c => nxS lo nx c.n) nx ≠ [] ∧ ¬ nx < l.foldl (fun nx c => nxS lo nx c.n) nx) ∧ (∀ c ∈ l, lo < c.n → l.foldl (fun nx c => nxS lo nx c.n) nx ≠ [] ∧ ¬ c.n < l.foldl (fun nx c => nxS lo nx c.n) nx)
  | [], nx, _ => ⟨.inl rfl, fun h => ⟨h, List.lt_irrefl _⟩, fun _ h => (by cases h)⟩
  | c :: l, nx, hn => by
    rw [List.foldl_cons]
    obtain ⟨i1, i2, i3⟩ := nx_spec (lo := lo) l (nxS lo nx c.n) fun c hc => hn c (List.mem_cons_of_mem _ hc)
    generalize hr : l.foldl (fun nx c => nxS lo nx c.n) (nxS lo nx c.n) = r at i1 i2 i3 ⊢
    have hcn := hn c List.mem_cons_self
    by_cases hp : lo < c.n ∧ (nx = [] ∨ c.n < nx)
    · have e : nxS lo nx c.n = c.n := if_pos hp
      rw [e] at i1 i2
      obtain ⟨j1, j2⟩ := i2 hcn
      refine ⟨?_, fun h => ⟨j1, fun g => ?_⟩, fun c' hc' hlo => ?_⟩
      · rcases i1 with i1 | ⟨c', h1, h2⟩
        · exact .inr ⟨c, List.mem_cons_self, i1.symm, hp.1⟩
        · exact .inr ⟨c', List.mem_cons_of_mem _ h1, h2⟩
      · rcases hp.2 with h3 | h3
        · exact h h3
        · exact j2 (List.lt_trans h3 g)
      · rcases List.mem_cons.1 hc' with rfl | hc'
        · exact ⟨j1, j2⟩
        · exact i3 c' hc' hlo
    · have e : nxS lo nx c.n = nx := if_neg hp
      rw [e] at i1 i2
      refine ⟨?_, i2, fun c' hc' hlo => ?_⟩
      · rcases i1 with i1 | ⟨c', h1, h2⟩
        · exact .inl i1
        · exact .inr ⟨c', List.mem_cons_of_mem _ h1, h2⟩
      · rcases List.mem_cons.1 hc' with rfl | hc'
        · have h5 : nx ≠ [] := fun h => hp ⟨hlo, .inl h⟩
          have h6 : ¬ c'.n < nx := fun h => hp ⟨hlo, .inr h⟩
          obtain ⟨j1, j2⟩ := i2 h5
          refine ⟨j1, fun g => ?_⟩
          rcases list_tri c'.n nx with h7 | h7 | h7
          · exact h6 h7
          · rw [h7] at g; exact j2 g
          · exact j2 (List.lt_trans h7 g)
        · exact i3 c' hc' hlo
theorem crashL_not : ∀ {S : List (List UInt8)} {fs : List UInt8 → Option Fl} {ks n : List UInt8}, n ∉ S → crashL fs S ks n = fs n
  | [], _, _, _, _ => rfl
  | m :: S, fs, ks, n, h => by
    have h1 : n ≠ m := fun e => h (e ▸ List.mem_cons_self)
    have h2 : n ∉ S := fun e => h (List.mem_cons_of_mem _ e)
    unfold crashL
    cases fs m with
    | none => exact crashL_not h2
    | some f => simp only; rw [crashL_not h2, put1_ne h1]
theorem crF_now {f : Fl} {ks : List UInt8} : (crF f ks).bind nowF = optB (crC f.safe f.was f.opn ks) := by
  unfold crF; rw [settle_now]; rfl
def pnd (P : List WC) (n : List UInt8) : Bool := !(P.filter fun c => decide (c.n = n)).isEmpty
theorem pnd_iff {P : List WC} {n : List UInt8} : pnd P n = true ↔ ∃ c ∈ P, c.n = n := by
  unfold pnd
  rw [Bool.not_eq_true', List.isEmpty_eq_false_iff_exists_mem]
  simp [List.mem_filter]
theorem crW_spec {P : List WC} (hP : ∀ c ∈ P, c.n ≠ []) : ∀ (S : List (List UInt8)) {m : Nat} {L : List WF} {lo ks : List UInt8} {fs : List UInt8 → Option Fl}, S.Pairwise (· < ·) → (∀ n ∈ S, lo < n) → (∀ c ∈ P, lo < c.n → c.n ∈ S) →
    (∀ n ∈ S, ∃ f, fs n = some f ∧ FlV f ∧ f.opn = (P.filter fun c => decide (c.n = n)).map WC.ch ∧ lk L n = safeF f) → (S.filter (pnd P)).length ≤ m → Srt L →
    (∀ n, lk (crW P m L lo ks) n = if n ∈ S then (crashL fs S ks n).bind nowF else lk L n) ∧ Srt (crW P m L lo ks)
  | [], m, L, lo, ks, fs, _, _, hc, _, _, hs => by
    have hx : nxL lo P = [] := by
      rcases (nx_spec (lo := lo) P [] hP).1 with h | ⟨c, h1, _, h2⟩
      · exact h
      · exact absurd (hc c h1 h2) (by simp)
    have : ∀ m, crW P m L lo ks = L := fun m => by
      induction m with
      | zero => rfl
      | succ m ih => rw [crW_no hx, ih]
    rw [this m]
    exact ⟨fun n => by simp, hs⟩
  | n :: S, m, L, lo, ks, fs, hS, hlo, hc, hf, hm, hs => by
    have hS' := List.pairwise_cons.1 hS
    have hnS : n ∉ S := fun h => absurd (hS'.1 n h) (List.lt_irrefl _)
    obtain ⟨f, hfn, hv, ho, hl⟩ := hf n List.mem_cons_self
    have hcr : crashL fs (n :: S) ks = crashL (put1 fs n (crF f ks)) S (ks.drop f.opn.length) := by rw [crashL, hfn]
    have hself : (crashL fs (n :: S) ks n).bind nowF = optB (crC f.safe f.was f.opn ks) := by rw [hcr, crashL_not hnS, put1_at, crF_now]
    have hf' : ∀ n' ∈ S, put1 fs n (crF f ks) n' = fs n' := fun n' h => put1_ne (fun e => hnS (by rw [← e]; exact h))
    by_cases hp : pnd P n = true
    · obtain ⟨c0, hc0, hcn⟩ := pnd_iff.1 hp
      have hx : nxL lo P = n := by
        obtain ⟨i1, _, i3⟩ := nx_spec (lo := lo) P [] hP
        obtain ⟨j1, j2⟩ := i3 c0 hc0 (by rw [hcn]; exact hlo n List.mem_cons_self)
        rw [hcn] at j2
        rcases i1 with i1 | ⟨c, h1, h2, h3⟩
        · exact absurd i1 j1
        · have h4 := hc c h1 h3
          rw [h2] at h4
          rcases List.mem_cons.1 h4 with h5 | h5
          · exact h5
          · exact absurd (hS'.1 _ h5) j2
      have hne : n ≠ [] := by rw [← hcn]; exact hP c0 hc0
      rw [List.filter_cons_of_pos hp, List.length_cons] at hm
      obtain ⟨m, rfl⟩ : ∃ m', m = m' + 1 := ⟨m - 1, by omega⟩
      obtain ⟨a1, a2, a3⟩ := apC_spec (x := n) P (L := L) (ks := ks) (b := f.safe) (h := f.was) hl hv.safe0 hs
      rw [← ho] at a1
      have hlen : (P.filter fun c => decide (c.n = n)).length = f.opn.length := by rw [ho, List.length_map]
      rw [crW, if_neg (by rw [hx]; exact hne), hx, a2, hlen]
      obtain ⟨q1, q2⟩ := crW_spec hP S (m := m) (L := (apC n L ks P).1) (lo := n) (ks := ks.drop f.opn.length) (fs := put1 fs n (crF f ks)) hS'.2 hS'.1
        (fun c h1 h2 => by
          have h3 := hc c h1 (List.lt_trans (hlo n List.mem_cons_self) h2)
          rcases List.mem_cons.1 h3 with h4 | h4
          · rw [h4] at h2; exact absurd h2 (List.lt_irrefl _)
          · exact h4)
        (fun n' h => by
          obtain ⟨g, g1, g2, g3, g4⟩ := hf n' (List.mem_cons_of_mem _ h)
          exact ⟨g, by rw [hf' n' h]; exact g1, g2, g3, by rw [a1 n', if_neg (fun e => hnS (by rw [← e]; exact h))]; exact g4⟩) (by omega) a3
      refine ⟨fun k => ?_, q2⟩
      rw [q1 k]
      by_cases hk : k = n
      · subst hk
        rw [if_neg hnS, if_pos List.mem_cons_self, hself, a1 k, if_pos rfl]
      · by_cases hkS : k ∈ S
        · rw [if_pos hkS, if_pos (List.mem_cons_of_mem _ hkS), hcr]
        · rw [if_neg hkS, if_neg (by simp [hk, hkS]), a1 k, if_neg hk]
    · have hfil : (P.filter fun c => decide (c.n = n)) = [] := by unfold pnd at hp; simpa using hp
      have hopn : f.opn = [] := by rw [ho, hfil]; rfl
      rw [List.filter_cons_of_neg hp] at hm
      obtain ⟨q1, q2⟩ := crW_spec hP S (m := m) (L := L) (lo := lo) (ks := ks) (fs := put1 fs n (crF f ks)) hS'.2 (fun n' h => hlo n' (List.mem_cons_of_mem _ h))
        (fun c h1 h2 => by
          rcases List.mem_cons.1 (hc c h1 h2) with h4 | h4
          · exact absurd (pnd_iff.2 ⟨c, h1, h4⟩) hp
          · exact h4)
        (fun n' h => by
          obtain ⟨g, g1, g2, g3, g4⟩ := hf n' (List.mem_cons_of_mem _ h)
          exact ⟨g, by rw [hf' n' h]; exact g1, g2, g3, g4⟩) hm hs
      have hcr2 : crashL fs (n :: S) ks = crashL (put1 fs n (crF f ks)) S ks := by rw [hcr, hopn]; rfl
      refine ⟨fun k => ?_, q2⟩
      rw [q1 k]
      by_cases hk : k = n
      · subst hk
        rw [if_neg hnS, if_pos List.mem_cons_self, hself, hopn, hl]; rfl
      · by_cases hkS : k ∈ S
        · rw [if_pos hkS, if_pos (List.mem_cons_of_mem _ hkS), hcr2]
        · rw [if_neg hkS, if_neg (by simp [hk, hkS])]
theorem crashL_set : ∀ {S : List (List UInt8)} {fs : List UInt8 → Option Fl} {ks n : List UInt8}, S.Pairwise (· < ·) → n ∈ S → crashL fs S ks n = none ∨ ∃ f, crashL fs S ks n = settleF f
  | m :: S, fs, ks, n, hS, h => by
    have hS' := List.pairwise_cons.1 hS
    unfold crashL
    rcases List.mem_cons.1 h with rfl | h
    · have hnS : n ∉ S := fun h => absurd (hS'.1 n h) (List.lt_irrefl _)
      cases hf : fs n with
      | none => simp only; rw [crashL_not hnS, hf]; exact .inl rfl
      | some f => simp only; rw [crashL_not hnS, put1_at]; exact .inr ⟨_, rfl⟩
    · cases fs m with
      | none => exact crashL_set hS'.2 h
      | some f => exact crashL_set hS'.2 h
theorem Rel.crash {d : Dk} {w : WD} {S : List (List UInt8)} {ks : List UInt8} (R : Rel d w) (hK : Keys d.fs S) : Rel (crashN d S ks) (crashW w ks) := by
  have hnd : S.Nodup := hK.up.imp fun {a b} h e => by subst e; exact absurd h (List.lt_irrefl _)
  have hfs : ∀ n ∈ S, ∃ f, d.fs n = some f ∧ FlV f ∧ f.opn = (w.pend.filter fun c => decide (c.n = n)).map WC.ch ∧ lk w.safe n = safeF f := fun n hn => by
    have h1 := (hK.iff n).1 hn
    cases hf : d.fs n with
    | none => rw [hf] at h1; cases h1
    | some f => exact ⟨f, rfl, (R.fs n f hf).1, by have := R.pend n; rw [hf] at this; exact this, by rw [← R.safe n]; unfold safeO; rw [hf]; rfl⟩
  have hne : ∀ n ∈ S, ([] : List UInt8) < n := fun n hn => by
    obtain ⟨f, hf, _⟩ := hfs n hn
    have := (R.fs n f hf).2.2.1
    cases n with
    | nil => exact absurd rfl this
    | cons a l => exact List.nil_lt_cons _ _
  obtain ⟨q1, q2⟩ := crW_spec R.pn S (m := w.pend.length) (L := w.safe) (lo := []) (ks := ks) (fs := d.fs) hK.up hne
    (fun c hc _ => by
      rw [hK.iff]
      have h1 := R.pend c.n
      have h2 : c ∈ w.pend.filter fun c' => decide (c'.n = c.n) := List.mem_filter.2 ⟨hc, by simp⟩
      cases hf : d.fs c.n with
      | none =>
        rw [hf] at h1
        have h3 := List.mem_map_of_mem (f := WC.ch) h2
        rw [← h1] at h3; cases h3
      | some f => rfl) hfs
    (by
      have := nodup_le (l := S.filter (pnd w.pend)) (m := w.pend.map WC.n) (hnd.filter _) (fun n hn => by
        obtain ⟨c, h1, h2⟩ := pnd_iff.1 (List.mem_filter.1 hn).2
        exact List.mem_map.2 ⟨c, h1, h2⟩)
      simpa using this) R.ssafe
  have hout : ∀ n, n ∉ S → d.fs n = none := fun n hn => by
    cases hf : d.fs n with
    | none => rfl
    | some f => exact absurd ((hK.iff n).2 (by rw [hf]; rfl)) hn
  have hset : ∀ n, crashL d.fs S ks n = none ∨ ∃ f, crashL d.fs S ks n = settleF f := fun n => by
    by_cases hn : n ∈ S
    · exact crashL_set hK.up hn
    · rw [crashL_not hn]; exact .inl (hout n hn)
  have hnow : ∀ n, (crashL d.fs S ks n).bind nowF = lk (crW w.pend w.pend.length w.safe [] ks) n := fun n => by
    rw [q1 n]
    by_cases hn : n ∈ S
    · rw [if_pos hn]
    · rw [if_neg hn, crashL_not hn, hout n hn, ← R.safe n]; unfold safeO; rw [hout n hn]; rfl
  refine ⟨rfl, rfl, R.chg, hnow, fun n => ?_, fun n => ?_, fun n f h => ?_, q2, q2, ?_, fun c hc => (by cases hc)⟩
  · refine Eq.trans ?_ (hnow n)
    show (crashL d.fs S ks n).bind safeF = _
    rcases hset n with h | ⟨f, h⟩
    · rw [h]; rfl
    · rw [h, settle_safe, settle_now]
  · show opnF (crashL d.fs S ks n) = []
    rcases hset n with h | ⟨f, h⟩
    · rw [h]; rfl
    · rw [h, settle_opn]
  · have h : crashL d.fs S ks n = some f := h
    rcases hset n with g | ⟨g, g2⟩
    · rw [g] at h; cases h
    · rw [g2] at h
      obtain ⟨f0, hf0⟩ := crashL_some (g2.trans h)
      exact ⟨(settle_v h).1, (settle_v h).2, (R.fs n f0 hf0).2.2⟩
  · have := R.plen
    show ((0 : Nat) : Int) ≤ w.many
    omega
theorem Rel.step {d : Dk} {w : WD} {S : List (List UInt8)} {x : POp} (R : Rel d w) (hK : Keys d.fs S) : Rel (stepD d S x) (stepW w x) ∧ SameB d w x := by
  have h8 : x.k % 8 = 0 ∨ x.k % 8 = 1 ∨ x.k % 8 = 2 ∨ x.k % 8 = 3 ∨ x.k % 8 = 4 ∨ x.k % 8 = 5 ∨ x.k % 8 = 6 ∨ x.k % 8 = 7 := by omega
  unfold stepD stepW SameB
  rcases h8 with h | h | h | h | h | h | h | h
  · simp only [h]; exact R.write
  · simp only [h]; exact ⟨R, by rw [R.read], by rw [R.read]⟩
  · simp only [h]; exact ⟨R, by rw [R.size], by rw [R.size]⟩
  · simp only [h]; exact R.trunc
  · simp only [h]; exact R.remove
  · simp only [h]; exact R.sync
  · simp only [h]; exact ⟨R.cut, trivial⟩
  · simp only [h]; exact ⟨R.crash hK, trivial⟩
end Go.Proofs.Ytpebbkhainpfaaa

namespace Go.HL
open Go
theorem Hp.addE2 {h0 h h' : Heap} {D : Nat → Prop} {M R : List Itm} {a b c : Itm} (ok : Hp h0 D M R h) (q : Hp h none_ [a] [b, c] h') (hb : ∀ j, b.F j → h.size ≤ j) (hc : ∀ j, c.F j → h.size ≤ j) : Hp h0 D (a :: M) (b :: c :: R) h' := by
  have o := ok.newM (it := a) q.chg q.m0 fun j hj => by
    have h1 := (q.m _ List.mem_cons_self).2 j hj
    exact ⟨h1.2.elim (fun f => f.elim) id, h1.1⟩
  refine ⟨o.chg, o.m, fun i hi => ?_, o.mm, fun x hx y hy j hj hj2 => ?_⟩
  · rcases List.mem_cons.1 hi with rfl | hi
    · exact q.r _ List.mem_cons_self
    · rcases List.mem_cons.1 hi with rfl | hi
      · exact q.r _ (List.mem_cons_of_mem _ List.mem_cons_self)
      · exact o.r i hi
  · rcases List.mem_cons.1 hy with rfl | hy
    · rcases List.mem_cons.1 hx with rfl | hx
      · exact q.mr _ List.mem_cons_self _ List.mem_cons_self j hj hj2
      · have := ((ok.m x hx).2 j hj).1
        have := hb j hj2
        omega
    · rcases List.mem_cons.1 hy with rfl | hy
      · rcases List.mem_cons.1 hx with rfl | hx
        · exact q.mr _ List.mem_cons_self _ (List.mem_cons_of_mem _ List.mem_cons_self) j hj hj2
        · have := ((ok.m x hx).2 j hj).1
          have := hc j hj2
          omega
      · exact o.mr x hx y hy j hj hj2
end Go.HL
namespace Go.Proofs.Ytpebbkhainpfaaa
open Go Go.HL
theorem lk_mem {l : List WF} (h : Srt l) {f : WF} (hf : f ∈ l) : lk l f.n = some f.b := by
  induction l with
  | nil => cases hf
  | cons x l ih =>
    have h1 := List.pairwise_cons.1 h
    rw [lk_cons]
    rcases List.mem_cons.1 hf with rfl | hf
    · rw [if_pos rfl]
    · rw [if_neg (fun e => absurd (h1.1 f hf) (by rw [e]; exact List.lt_irrefl _))]
      exact ih h1.2 hf
theorem srt_nodup {l : List WF} (h : Srt l) : (l.map (·.n)).Nodup := List.pairwise_map.2 (h.imp fun {a b} g e => by rw [e] at g; exact absurd g (List.lt_irrefl _))
theorem Rel.now_mem {d : Dk} {w : WD} (R : Rel d w) {f : WF} (hf : f ∈ w.now) : ∃ g, d.fs f.n = some g ∧ g.here = true ∧ g.now = f.b := by
  have h1 := R.now f.n
  rw [lk_mem R.snow hf] at h1
  unfold nowO at h1
  cases hg : d.fs f.n with
  | none => rw [hg] at h1; cases h1
  | some g =>
    rw [hg] at h1
    simp only [Option.bind_some, nowF, optB] at h1
    split at h1
    · exact ⟨g, rfl, by assumption, Option.some.inj h1⟩
    · cases h1
theorem Rel.safe_mem {d : Dk} {w : WD} (R : Rel d w) {f : WF} (hf : f ∈ w.safe) : ∃ g, d.fs f.n = some g ∧ g.was = true ∧ g.safe = f.b := by
  have h1 := R.safe f.n
  rw [lk_mem R.ssafe hf] at h1
  unfold safeO at h1
  cases hg : d.fs f.n with
  | none => rw [hg] at h1; cases h1
  | some g =>
    rw [hg] at h1
    simp only [Option.bind_some, safeF, optB] at h1
    split at h1
    · exact ⟨g, rfl, by assumption, Option.some.inj h1⟩
    · cases h1
theorem Rel.ws {d : Dk} {w : WD} (R : Rel d w) (k : DkOk d) (hc : d.chg ≤ 300) : WS w := by
  obtain ⟨ks, h1, h2⟩ := k.cnt
  have hch := R.chg
  have hpl := R.plen
  refine ⟨?_, ?_, by omega, fun f hf => ?_, fun f hf => ?_, fun c hcp => ?_, by have := k.chg; omega⟩
  · have := nodup_le (l := w.now.map (·.n)) (m := ks) (srt_nodup R.snow) (fun n hn => by
      obtain ⟨f, hf, rfl⟩ := List.mem_map.1 hn
      obtain ⟨g, hg, _⟩ := R.now_mem hf
      exact (h2 _ _ hg).1)
    simp at this; omega
  · have := nodup_le (l := w.safe.map (·.n)) (m := ks) (srt_nodup R.ssafe) (fun n hn => by
      obtain ⟨f, hf, rfl⟩ := List.mem_map.1 hn
      obtain ⟨g, hg, _⟩ := R.safe_mem hf
      exact (h2 _ _ hg).1)
    simp at this; omega
  · obtain ⟨g, hg, _, hb⟩ := R.now_mem hf
    rw [← hb]; exact (k.fs _ _ hg).1.now
  · obtain ⟨g, hg, _, hb⟩ := R.safe_mem hf
    rw [← hb]; exact (k.fs _ _ hg).1.safe
  · have h3 := R.pend c.n
    have h4 : c.ch ∈ opnF (d.fs c.n) := by rw [h3]; exact List.mem_map_of_mem (List.mem_filter.2 ⟨hcp, by simp⟩)
    cases hg : d.fs c.n with
    | none => rw [hg] at h4; cases h4
    | some g =>
      rw [hg] at h4
      have h5 := (k.fs _ _ hg).1.opn c.ch h4
      exact ⟨h5.fit, h5.kind⟩
/-! ### Little files -/
structure LimF (f : Fl) : Prop where
  now : f.now.length ≤ 8000
  safe : f.safe.length ≤ 8000
  opn : ∀ c ∈ f.opn, c.pos + c.b.length ≤ 8000
def Lim (d : Dk) : Prop := ∀ n f, d.fs n = some f → LimF f
theorem done_le {c : Chn} {b : List UInt8} {h : Bool} (hc : c.pos + c.b.length ≤ 8000) (hb : b.length ≤ 8000) : (doneN c b h).1.length ≤ 8000 := by
  unfold doneN
  split
  · rw [patchN_len (by rw [longN_len]; omega), longN_len]; omega
  · split
    · rw [longN_len]; omega
    · simp
theorem kept_le {c : Chn} {k : Nat} (h : c.pos + c.b.length ≤ 8000) : (keptN c k).1.pos + (keptN c k).1.b.length ≤ 8000 := by
  unfold keptN
  split
  · exact h
  · split
    · simp only [List.length_take]; omega
    · exact h
theorem crC_le : ∀ {l : List Chn} {b : List UInt8} {h : Bool} {ks : List UInt8}, (∀ c ∈ l, c.pos + c.b.length ≤ 8000) → b.length ≤ 8000 → (crC b h l ks).1.length ≤ 8000
  | [], _, _, _, _, hb => hb
  | c :: l, b, h, ks, hc, hb => by
    rw [crC_s]
    refine crC_le (fun x hx => hc x (List.mem_cons_of_mem _ hx)) ?_
    unfold crS
    split
    · exact done_le (kept_le (hc c List.mem_cons_self)) hb
    · exact hb
theorem settle_lim {f g : Fl} (k : LimF f) (h : settleF f = some g) : LimF g := by
  unfold settleF at h
  split at h
  · injection h with h; subst h; exact ⟨k.now, k.now, by simp⟩
  · cases h
theorem noF_lim : LimF noF := ⟨by simp [noF], by simp [noF], by simp [noF]⟩
theorem Lim.put {d : Dk} {n : List UInt8} {v : Option Fl} {a : Bool} {b c : Int} (k : Lim d) (h : ∀ f, v = some f → LimF f) : Lim ⟨put1 d.fs n v, a, b, c⟩ := fun m f hf => by
  simp only [put1] at hf
  split at hf
  · exact h f hf
  · exact k m f hf
theorem Lim.power {d : Dk} (k : Lim d) : Lim (powerN d).1 := by unfold powerN; split <;> exact k
theorem Lim.do {d : Dk} {n : List UInt8} {c : Chn} (k : Lim d) (hc : c.pos + c.b.length ≤ 8000) : Lim (doN d n c).1 := by
  have hg : LimF ((d.fs n).getD noF) := by
    cases h : d.fs n with
    | none => exact noF_lim
    | some f => exact k n f h
  unfold doN; split
  · exact k.power
  · exact k.put fun f hf => by
      injection hf with hf; subst hf
      exact ⟨done_le hc hg.now, hg.safe, fun x hx => (List.mem_append.1 hx).elim (hg.opn x) fun h => by rw [List.mem_singleton.1 h]; exact hc⟩
theorem Lim.step {d : Dk} {S : List (List UInt8)} {x : ROp} (k : Lim d) (hx : smallO x = true) : Lim (stepD d S x.abs) := by
  have hs := of_decide_eq_true hx
  unfold stepD; split
  · unfold writeN; split
    · exact k
    · rename_i h0
      split
      · exact k
      · have hz := (wrongN_ok (d := d) (n := x.abs.n) (zs := [x.abs.y]) (by simpa using h0)).2.2.1 x.abs.y (by simp)
        have hz : 0 ≤ x.y := hz
        refine k.do ?_
        show x.y.toNat + x.bl.length ≤ 8000
        have h9 : ¬ (16777216 < x.y ∨ 16777216 - x.y < (x.bl.length : Int)) := by assumption
        omega
  · unfold truncN; repeat' split
    · exact k
    · exact k
    · exact k
    · rename_i h0 _ h2
      have hz := (wrongN_ok (d := d) (n := x.abs.n) (zs := [x.abs.y]) (by simpa using h0)).2.2.1 x.abs.y (by simp)
      have hz : 0 ≤ x.y := hz
      have h2 : ¬ 16777216 < x.y := h2
      refine k.do ?_
      show x.y.toNat + 0 ≤ 8000
      omega
  · unfold removeN; repeat' split
    · exact k
    · exact k
    · exact k.do (by simp)
  · unfold syncN; repeat' split
    · exact k
    · exact k
    · exact k
    · exact k.power
    · rename_i f hf _ _ _
      exact k.put fun g hg => settle_lim (k _ _ hf) hg
    · rename_i f hf _ _ _
      exact k.put fun g hg => settle_lim (k _ _ hf) hg
  · unfold cutN; split
    · exact k
    · exact k
  · exact fun n f hf => crashL_ok (P := LimF) (fun f g ks hf hg => settle_lim (f := ⟨_, _, _, _, _⟩) ⟨crC_le hf.opn hf.safe, hf.safe, hf.opn⟩ hg) k n f hf
  · exact k
theorem newN_lim : Lim newN := fun _ _ h => (by cases h)

set_option maxRecDepth 100000 in
set_option maxHeartbeats 2000000 in
theorem played_any {h : Heap} {EO : Nat → Prop} {a : Option Addr} {c : Nat} {l : List ROp} (hl : RwB 5 ROp.cells ROp.sb h EO (a, l.length, c) l) (hop : OpsOk l) (hn : l.length ≤ 60) (hsm : ∀ j (hj : j < l.length), smallO l[j] = true) : HC Try.prog 41 #[.slice a l.length c] h (fun v h' => ∃ (d : Nat) (r : RD) (E : Nat → Prop) (w : RW) (EW : Nat → Prop), v = .tuple #[.pointer (some ⟨d, 0, none⟩), .agg #[.slice w.sa w.sl.length w.sc, .slice w.na w.nl.length w.nc, .slice w.pa w.pl.length w.pc, .int .i64 w.left, .bool w.gone, .int .i64 w.many]] ∧ DkOk r.abs ∧ r.chg ≤ l.length ∧ Rel r.abs w.abs ∧ Lim r.abs ∧ (∀ j, E j → h.size ≤ j) ∧ (∀ j, EW j → h.size ≤ j) ∧ Hp h none_ [dskI d r] [bysI E r.fs, docI EW w] h') := by
  have hc2 := hl.m
  have ok := (Hp.nil h none_).old (opwI (fun j => EO j ∧ j < h.size) (a, l.length, c) l) (hl.lt (by decide)) (fun j hj => hj.2)
  refine HC.go Try.func41 31 ?_
  refine .seq <| .r <| .w 2 .asP <| .a' 3 (.alA T.zr69 ok) ?_
  rintro _ η1 ⟨pb1, rfl, ok, xe⟩
  refine .nil ?_
  refine .seq <| .r <| .c' 7 .func new_any ?_
  rintro _ η2 ⟨dnd1, rnd1, rfl, hand1, q⟩
  have ok := ok.addE q (fun _ f => f.elim)
  have hknd1 : DkOk rnd1.abs := by rw [hand1]; exact newN_ok
  have hcnd1 : rnd1.chg = 0 := congrArg Dk.chg hand1
  refine .c' 8 .func dnew_any ?_
  rintro _ η3 ⟨rfl, hx⟩
  have ok := ok.ext hx
  have ok := ok.dE (docI none_ newRW) newRW_doc (fun _ f => f)
  refine .a' 5 (.alA T.zr69 ok) ?_
  rintro _ η4 ⟨pb2, rfl, ok, xe⟩
  refine .w 4 .asP <| .ur' (.stW (vs := [.slice none 0 0, .slice none 0 0, .slice none 0 0, .int .i64 (-1), .bool false, .int .i64 0]) T.sz69 ok (oneL rfl)) ?_
  rintro η5 ⟨ok, cg⟩
  refine .nil ?_
  refine .seq <| .seq <| .r <| .w 6 .asI <| .nil ?_
  refine .block fun K0 hK0 => .loop (fun m s hh => ∃ (i : Nat) (r : RD) (E : Nat → Prop) (w : RW) (EW : Nat → Prop), Has s [(0, .slice a l.length c), (3, .pointer (some ⟨pb1, 0, none⟩)), (4, .pointer (some ⟨dnd1, 0, none⟩)), (5, .pointer (some ⟨pb2, 0, none⟩)), (6, .int .i64 (i : Int))] ∧ Hp h none_ [dskI dnd1 r, boxI pb2 69 [.slice w.sa w.sl.length w.sc, .slice w.na w.nl.length w.nc, .slice w.pa w.pl.length w.pc, .int .i64 w.left, .bool w.gone, .int .i64 w.many], boxI pb1 69 [.slice none 0 0, .slice none 0 0, .slice none 0 0, .int .i64 0, .bool false, .int .i64 0]] [bysI E r.fs, docI EW w, opwI (fun j => EO j ∧ j < h.size) (a, l.length, c) l] hh ∧ i ≤ l.length ∧ DkOk r.abs ∧ r.chg ≤ i ∧ Rel r.abs w.abs ∧ Lim r.abs ∧ (∀ j, E j → h.size ≤ j) ∧ (∀ j, EW j → h.size ≤ j) ∧ m = l.length - i) ?_ ?_
  · exact ⟨_, 0, rnd1, none_, newRW, none_, ⟨rfl, rfl, rfl, rfl, rfl, trivial⟩, (ok.n2.n1.n2).k3.f2.f1.f2, Nat.zero_le _, hknd1, by omega, by rw [hand1]; exact Rel.new, by rw [hand1]; exact newN_lim, fun _ f => f.elim, fun _ f => f.elim, rfl⟩
  rintro _ _ η6 ⟨i, r, E, w, EW, hs, ok, hi, hk, hch, hrel, hlim, hE, hEW, rfl⟩ J0 hJ0
  refine .frame hs fun τ => ?_
  refine .seq <| .seq <| .r <| .w 9 .mvI <| .w 10 .mvS <| .w 11 (.len T.el65) <| .w 12 .lss <| .w 13 .mvB <| .sd (fun G13 => ?_) (fun G13 => ?_)
  ·
    have hil : i < l.length := by omega
    have hws := hrel.ws hk (show r.abs.chg ≤ 300 from (by have h9 : r.abs.chg ≤ i := hch; omega))
    have hlf : w.left ≤ 9223372036854775807 := by have h1 : r.abs.left = w.left := hrel.left; have h2 := hk.left; omega
    have hsz0 := ok.chg.size
    refine .w 14 .mvP <| .w 15 (.pNeS T.pt57) <| .w 16 .pkt <| .nil ?_
    refine .ct <| .skip <| .seq <| .block fun K1 hK1 => ?_
    have ok := ok.d2 (rdI (fun j => EO j ∧ j < h.size) (fun j => EO j ∧ j < h.size) (l[i].ba, l[i].bl.length, l[i].bc) l[i].bl) ((ok.r2).by' _ (List.getElem_mem hil)) (fun _ h => h.elim id id)
    refine .a 6 (fun fl hh => cond fl True (Hp h none_ [dskI dnd1 r, boxI pb2 69 [.slice w.sa w.sl.length w.sc, .slice w.na w.nl.length w.nc, .slice w.pa w.pl.length w.pc, .int .i64 w.left, .bool w.gone, .int .i64 w.many], boxI pb1 69 [.slice none 0 0, .slice none 0 0, .slice none 0 0, .int .i64 0, .bool false, .int .i64 0]] [rdI (fun j => EO j ∧ j < h.size) (fun j => EO j ∧ j < h.size) (l[i].ba, l[i].bl.length, l[i].bc) (l[i].bl), bysI E r.fs, docI EW w, opwI (fun j => EO j ∧ j < h.size) (a, l.length, c) l] hh)) mixed ?_
    have hS := ok
    refine .g 0 false rfl 20 hS (fun _ => .mvP) <| .l 1 false rfl 21 hS (fun _ hS => .ldb T.ag69 hS.m1 T.sz69) <| .g 2 false rfl 22 hS (fun _ => .mvS) <| .g 3 false rfl 23 hS (fun _ => .mvI) <| ?_
    obtain ⟨bb1, oo1, rfl, fb1⟩ := ok.r3.pos (by omega)
    refine .g 4 false rfl 24 hS (fun _ => .ix i T.el65 T.sz73) <| .l 5 false rfl 25 (v := .agg #[.int .u8 (l[i].k : Int), .string (BA (l[i].n)), .int .i64 (l[i].y), .int .i64 (l[i].z), .slice (l[i].ba) (l[i].bl.length) (l[i].bc)]) hS (fun _ hS => .ldc (vs := ROp.cells l[i]) T.ag73 (sl_ats ROp.cells_len (hS.r3).sl (i := i) (by omega)) T.sz73) <| .o1 6 <| .c' true rfl 26 .func (call_any (d := dnd1) (r := r) (E := E) (FB := fun j => EO j ∧ j < h.size) (EB := fun j => EO j ∧ j < h.size) (EW := EW) (sa := w.sa) (sc := w.sc) (sl := w.sl) (na := w.na) (nc := w.nc) (nl := w.nl) (pa := w.pa) (pc := w.pc) (pl := w.pl) (lf := w.left) (gn := w.gone) (mn := w.many) (k := l[i].k) (n := l[i].n) (bl := l[i].bl) (y := l[i].y) (z := l[i].z) (ba := l[i].ba) (bc := l[i].bc) (ok.f2.f2).loc3 hk (by omega) hws hlf (hop _ (List.getElem_mem hil)).1 (hop _ (List.getElem_mem hil)).2.1 (hop _ (List.getElem_mem hil)).2.2 (keys_ex (dsk_parts (ok.m0)).2.2.1).choose_spec) ?_
    rintro _ η7 ⟨Sq1, rq1, Eq1, wq1, Wq1, bq1, rfl, hKq1, haq1, hwq1, hsbq1, pq1, hEq1, hWq1⟩
    have hszq1 := ok.chg.size
    have ok := (ok.f2.f2).call2 pq1 hEq1 hWq1
    have hkq1 : DkOk rq1.abs := by rw [haq1]; exact stepD_ok hk (hop _ (List.getElem_mem hil)).2.2.2
    have hcq1 : rq1.chg ≤ r.chg + 1 := Int.le_trans (Int.le_of_eq (congrArg Dk.chg haq1)) stepD_chg
    refine ⟨trivial, ?_⟩
    refine .g 7 true rfl 19 trivial (fun _ => .mvU) <| .g 8 true rfl 27 trivial (fun _ => .ex) <| .g 9 true rfl 28 trivial (fun _ => .ex) <| .o1 10 <| .ur' true rfl (.stW (vs := [.slice wq1.sa wq1.sl.length wq1.sc, .slice wq1.na wq1.nl.length wq1.nc, .slice wq1.pa wq1.pl.length wq1.pc, .int .i64 wq1.left, .bool wq1.gone, .int .i64 wq1.many]) T.sz69 ok.n1 (oneL rfl)) ?_
    rintro η8 ⟨ok, cg⟩
    refine ⟨trivial, ?_⟩
    refine .e ?_
    refine .end <| hK1 _ _ <| .r <| .w 17 .mvI <| .w 18 (.addI (b := 1)) <| .w 6 .asI <| .nil ?_
    refine .end <| hJ0 _ _ _ ⟨i + 1, rq1, Eq1, wq1, Wq1, ⟨rfl, rfl, rfl, rfl, rfl, trivial⟩, (ok.n2.n1.n2).k3.f3.f2.f2.e3, by omega, hkq1, by omega, by rw [haq1, hwq1]; exact (hrel.step hKq1).1, by rw [haq1]; exact hlim.step (hsm i hil), fun j hj => (hEq1 j hj).elim (hE j) (Nat.le_trans hszq1), fun j hj => (hWq1 j hj).elim (hEW j) (Nat.le_trans hszq1), rfl⟩ (by omega)
  refine .x 14 <| .x 15 <| .w 16 .pkf <| .nil ?_
  refine .cf <| .exit <| hK0 _ _ <| .seq <| .t 3 mixed ?_
  simp only [List.take_succ_cons, List.take_zero, List.drop_succ_cons, List.drop_zero]
  refine .w 29 .mvP <| .w 30 (.ldb T.ag69 ok.m1 T.sz69) <| .w 2 .asP <| .nil ?_
  refine .ur' (.stW (vs := [.slice w.sa w.sl.length w.sc, .slice w.na w.nl.length w.nc, .slice w.pa w.pl.length w.pc, .int .i64 w.left, .bool w.gone, .int .i64 w.many]) T.sz69 ok.n2 (oneL rfl)) ?_
  rintro η9 ⟨ok, cg⟩
  refine .nil ?_
  refine .ret ⟨.tuple #[.pointer (some ⟨dnd1, 0, none⟩), .agg #[.slice w.sa w.sl.length w.sc, .slice w.na w.nl.length w.nc, .slice w.pa w.pl.length w.pc, .int .i64 w.left, .bool w.gone, .int .i64 w.many]], Res.many (vs := [.pointer (some ⟨dnd1, 0, none⟩), .agg #[.slice w.sa w.sl.length w.sc, .slice w.na w.nl.length w.nc, .slice w.pa w.pl.length w.pc, .int .i64 w.left, .bool w.gone, .int .i64 w.many]]) rfl ⟨rfl, ⟨_, rfl, load_ag T.ag69 ok.m0 T.sz69⟩, trivial⟩ rfl, ⟨_, r, E, w, EW, rfl, hk, by omega, hrel, hlim, hE, hEW, (ok.n1).k1.f1.f1.e2⟩⟩

@[reducible] def keptL : List UInt8 := [107, 101, 112, 116]
/-- The file is as it was synced. -/
def KInv (d : Dk) : Prop := ∃ b : List UInt8, d.fs keptL = some ⟨b, b, true, true, []⟩ ∧ (b.drop 3).take 2 = [7, 8]
theorem KInv.do {d : Dk} {n : List UInt8} {c : Chn} (k : KInv d) (hn : n ≠ keptL) : KInv (doN d n c).1 := by
  obtain ⟨b, h1, h2⟩ := k
  unfold doN powerN; repeat' split
  all_goals first | exact ⟨b, h1, h2⟩ | exact ⟨b, by simp only; rw [put1_ne (fun e => hn e.symm)]; exact h1, h2⟩
theorem crashL_keep {b : List UInt8} {n : List UInt8} : ∀ {S : List (List UInt8)} {fs : List UInt8 → Option Fl} {ks : List UInt8}, fs n = some ⟨b, b, true, true, []⟩ → crashL fs S ks n = some ⟨b, b, true, true, []⟩
  | [], _, _, h => h
  | m :: S, fs, ks, h => by
    unfold crashL
    by_cases hm : n = m
    · subst hm
      rw [h]; simp only
      refine crashL_keep ?_
      rw [put1_at]; rfl
    · cases fs m with
      | none => exact crashL_keep h
      | some f => simp only; refine crashL_keep ?_; rw [put1_ne hm]; exact h
theorem KInv.step {d : Dk} {S : List (List UInt8)} {x : POp} (k : KInv d) (hn : x.n ≠ keptL) : KInv (stepD d S x) := by
  obtain ⟨b, h1, h2⟩ := id k
  unfold stepD; split
  · unfold writeN; repeat' split
    · exact k
    · exact k
    · exact k.do hn
  · unfold truncN; repeat' split
    · exact k
    · exact k
    · exact k
    · exact k.do hn
  · unfold removeN; repeat' split
    · exact k
    · exact k
    · exact k.do hn
  · unfold syncN powerN; repeat' split
    all_goals first | exact k | exact ⟨b, h1, h2⟩ | exact ⟨b, by simp only; rw [put1_ne (fun e => hn e.symm)]; exact h1, h2⟩
  · unfold cutN; split
    · exact k
    · exact ⟨b, h1, h2⟩
  · exact ⟨b, crashL_keep h1, h2⟩
  · exact k
theorem kept_wrong {d : Dk} {zs : List Int} (hd : d.dark = false) (hz : ∀ z ∈ zs, 0 ≤ z) : wrongN d keptL zs = 0 := by
  unfold wrongN
  rw [if_neg, if_neg (by rw [hd]; decide)]
  rintro (h | h | ⟨z, hz1, hz2⟩)
  · exact absurd h (by decide)
  · exact absurd h (by decide)
  · have := hz z hz1; omega
theorem patch_in {o p b : List UInt8} {q : Nat} (h : q + b.length ≤ o.length) (hp : p = patchN o q b) : (p.drop q).take b.length = b := by
  subst hp
  unfold patchN
  rw [List.append_assoc, List.drop_append_of_le_length (by simp; omega), List.drop_eq_nil_of_le (by simp only [List.length_take]; omega), List.nil_append, List.take_append_of_le_length (Nat.le_refl _), List.take_length]
theorem kept_sync {d : Dk} (hd : d.dark = false) (hl : d.left = -1) : (syncN (writeN d keptL 3 [7, 8]).1 keptL).2 = 0 ∧ KInv (syncN (writeN d keptL 3 [7, 8]).1 keptL).1 := by
  have h1 : writeN d keptL 3 [7, 8] = doN d keptL ⟨0, 3, [7, 8]⟩ := by
    unfold writeN; rw [kept_wrong hd (by simp), if_neg (by decide), if_neg (by simp)]; rfl
  have h2 : doN d keptL ⟨0, 3, [7, 8]⟩ = (⟨put1 d.fs keptL (some (chgF ((d.fs keptL).getD noF) ⟨0, 3, [7, 8]⟩)), d.dark, -1, d.chg + 1⟩, 0) := by
    unfold doN; rw [if_neg (by omega), if_neg (by omega), hl]
  rw [h1, h2]
  simp only
  have hf : put1 d.fs keptL (some (chgF ((d.fs keptL).getD noF) ⟨0, 3, [7, 8]⟩)) keptL = some (chgF ((d.fs keptL).getD noF) ⟨0, 3, [7, 8]⟩) := put1_at _ _ _
  have hhere : (chgF ((d.fs keptL).getD noF) ⟨0, 3, [7, 8]⟩).here = true := rfl
  rw [sync_d (d := ⟨put1 d.fs keptL (some (chgF ((d.fs keptL).getD noF) ⟨0, 3, [7, 8]⟩)), d.dark, -1, d.chg + 1⟩) (n := keptL) (kept_wrong hd (by simp)) hf (by rintro ⟨g, _⟩; rw [hhere] at g; cases g) (by simp)]
  refine ⟨rfl, (chgF ((d.fs keptL).getD noF) ⟨0, 3, [7, 8]⟩).now, ?_, ?_⟩
  · simp only; rw [put1_at]; unfold settleF; rw [if_pos hhere]
  · exact patch_in (b := [7, 8]) (o := longN ((d.fs keptL).getD noF).now (max ((d.fs keptL).getD noF).now.length (3 + 2))) (by rw [longN_len]; simp; omega) rfl
theorem kept_read {d : Dk} {S : List (List UInt8)} {ks : List UInt8} (k : KInv d) : readN (crashN d S ks) keptL 3 2 = ([7, 8], 0) := by
  obtain ⟨b, h1, h2⟩ := k
  have h3 : (crashN d S ks).fs keptL = some ⟨b, b, true, true, []⟩ := crashL_keep h1
  unfold readN
  rw [kept_wrong rfl (by simp), if_neg (by decide), h3]
  simp only
  rw [if_neg (by decide)]
  exact congrArg (·, 0) h2
theorem cut_m1 {d : Dk} (h : d.dark = false) : (cutN d (-1)).dark = false ∧ (cutN d (-1)).left = -1 := by unfold cutN; rw [if_neg (by rw [h]; decide)]; exact ⟨h, rfl⟩

set_option maxRecDepth 100000 in
set_option maxHeartbeats 2000000 in
theorem safe_walk {h : Heap} {EO EO2 F3 E3 : Nat → Prop} {a a2 a3 : Option Addr} {c c2 c3 : Nat} {l l2 : List ROp} {l3 : List UInt8} (hl : RwB 5 ROp.cells ROp.sb h EO (a, l.length, c) l) (hop : OpsOk l) (hl2 : RwB 5 ROp.cells ROp.sb h EO2 (a2, l2.length, c2) l2) (hop2 : OpsOk l2) (hl3 : RdL h F3 E3 (a3, l3.length, c3) l3) : HC Try.prog 11 #[.slice a l.length c, .slice a2 l2.length c2, .slice a3 l3.length c3] h (fun v h' => v = .bool true ∧ Ext h h') := by
  have hc2 := hl.m
  have hc22 := hl2.m
  have hc3 := hl3.c
  have hm3 := hl3.m
  simp only at hc3 hm3
  have ok := (Hp.nil h none_).old (opwI (fun j => EO j ∧ j < h.size) (a, l.length, c) l) (hl.lt (by decide)) (fun j hj => hj.2)
  have ok := ok.old (opwI (fun j => EO2 j ∧ j < h.size) (a2, l2.length, c2) l2) (hl2.lt (by decide)) (fun j hj => hj.2)
  have ok := ok.arg hl3
  refine HC.go Try.func11 95 ?_
  refine .seq <| .r <| .w 6 .asB <| .nil ?_
  refine .seq <| .seq <| .r <| .w 12 .mvS <| .k 13 .func (small_any (a := a) (c := c) (l := l) ok.r2) <| .w 14 .not <| .w 15 .mvB <| .spl (fun G15 => ?_) (fun G15 => ?_)
  ·
    refine .x 16 <| .x 17 <| .x 18 <| .w 19 .pkt <| .nil ?_
    refine .ct <| .seq <| .r <| .c' 20 .func live_any ?_
    rintro _ η1 ⟨rfl, hx⟩
    have ok := ok.ext hx
    refine .w 6 .asB <| .nil ?_
    refine .ret ⟨.bool true, Res.one rfl rfl, ⟨rfl, ok.chg⟩⟩
  refine .w 16 .mvS <| .k 17 .func (small_any (a := a2) (c := c2) (l := l2) ok.r1) <| .w 18 .not <| .w 19 .pkf <| .nil ?_
  refine .cond (fun C0 => ?_) (fun C0 => ?_)
  · --
    refine .seq <| .r <| .c' 20 .func live_any ?_
    rintro _ η2 ⟨rfl, hx⟩
    have ok := ok.ext hx
    refine .w 6 .asB <| .nil ?_
    refine .ret ⟨.bool true, Res.one rfl rfl, ⟨rfl, ok.chg⟩⟩
  have hsm1 := smallB_iff.1 (show smallB l = true by first | (simpa using C0) | (simpa using G15))
  have hsm2 := smallB_iff.1 (show smallB l2 = true by first | (simpa using C0) | (simpa using G15))
  refine .skip <| .seq <| .r <| .w 22 .mvS <| .c' 23 .func (played_any (a := a) (c := c) (l := l) ok.r2 hop (by omega) hsm1.2) ?_
  rintro _ η3 ⟨dp1, rp1, Ep1, wp1, Wp1, rfl, hkp1, hcp1, hrelp1, hlimp1, hEp1, hWp1, qp1⟩
  have hszp1 := ok.chg.size
  have ok := ok.addE2 qp1 hEp1 hWp1
  have hwsp1 := hrelp1.ws hkp1 (show rp1.abs.chg ≤ 300 from (by have h9 : rp1.abs.chg ≤ l.length := hcp1; omega))
  have hlfp1 : wp1.left ≤ 9223372036854775807 := by have h1 : rp1.abs.left = wp1.left := hrelp1.left; have h2 := hkp1.left; omega
  refine .w 21 .mvU <| .w 24 .ex <| .w 25 .ex <| .a' 8 (.alA T.zr69 ok) ?_
  rintro _ η4 ⟨pb1, rfl, ok, xe⟩
  refine .w 7 .asP <| .ur' (.stW (vs := [.slice wp1.sa wp1.sl.length wp1.sc, .slice wp1.na wp1.nl.length wp1.nc, .slice wp1.pa wp1.pl.length wp1.pc, .int .i64 wp1.left, .bool wp1.gone, .int .i64 wp1.many]) T.sz69 ok (oneL rfl)) ?_
  rintro η5 ⟨ok, cg⟩
  refine .nil ?_
  refine .seq <| .seq <| .r <| .w 26 .mvP <| .w 27 (.pEqS T.pt57) <| .w 28 .mvB <| .w 29 (.fa T.fd69_4) <| .w 30 (.ldx T.ag4 ok.m0) <| .w 31 .pkf <| .nil ?_
  refine .cond (fun C1 => ?_) (fun C1 => ?_)
  · --
    refine .seq <| .r <| .c' 32 .func live_any ?_
    rintro _ η6 ⟨rfl, hx⟩
    have ok := ok.ext hx
    refine .w 33 .mvB <| .w 34 .mvP <| .w 35 (.pNeS T.pt57) <| .w 36 .pkt <| .w 6 .asB <| .nil ?_
    refine .ret ⟨.bool true, Res.one rfl rfl, ⟨rfl, ok.chg⟩⟩
  refine .skip <| .seq <| ?_
  have hdk : rp1.dark = false := (show rp1.abs.dark = false from hrelp1.dark.trans C1)
  have hcu := cut_m1 (d := rp1.abs) hdk
  refine .r <| .w 37 .mvP <| .c' 38 .func (cut_any (d := dp1) (r := rp1) (z := (-1)) (ok.n1).loc0) ?_
  rintro _ η7 ⟨rfl, q⟩
  have ok := (ok.n1).lift1 q
  obtain ⟨rcu1, hrcu1⟩ : ∃ rcu1, cutR rp1 (-1) = rcu1 := ⟨_, rfl⟩
  have hacu1 : rcu1.abs = cutN rp1.abs (-1) := by rw [← hrcu1]; exact cutR_abs
  have hfcu1 : rcu1.fs = rp1.fs := by rw [← hrcu1]; exact cutR_fs
  rw [hrcu1, ← hfcu1] at ok
  have hkcu1 : DkOk rcu1.abs := by rw [hacu1]; exact (hkp1).cut (by omega)
  have hccu1 : rcu1.chg = rp1.chg := by rw [← hrcu1]; unfold cutR; split <;> rfl
  refine .nil ?_
  refine .seq <| .r <| .w 39 .mvP <| .a' 40 (.lit [.const (.int .u8 7), .const (.int .u8 8)] (cs := [.int .u8 7, .int .u8 8]) T.el22 T.sz5 T.zr5 ok ⟨rfl, rfl, trivial⟩) ?_
  rintro _ η8 ⟨pb2, rfl, ok, xe⟩
  have ok := ok.cx (ys := ([7, 8] : List UInt8).map bv) rfl
  have ok := (ok).frzB (l := [7, 8]) rfl
  refine .c' 41 .func (write_any (d := dp1) (r := rcu1) (E := Ep1) (n := ([107, 101, 112, 116] : List UInt8)) (z := 3) (a := some ⟨pb2, 0, none⟩) (c := 2) (l := [7, 8]) (ok.f1).loc2 hkcu1 (by omega) ⟨by omega, by omega⟩) ?_
  rintro _ η9 ⟨rw1, Ew1, rfl, haw1, upw1⟩
  have ok := (ok.f1).dsk (d := dp1) (r := rcu1) upw1
  have hkw1 : DkOk rw1.abs := by rw [haw1]; exact (hkcu1).write
  have hcw1 : rw1.chg ≤ rcu1.chg + 1 := Int.le_trans (Int.le_of_eq (congrArg Dk.chg haw1)) write_chg
  refine .nil ?_
  refine .seq <| .seq <| .r <| .w 42 .mvP <| .c' 43 .func (sync_any (d := dp1) (r := rw1) (E := Ew1) (n := ([107, 101, 112, 116] : List UInt8)) (ok).loc1 hkw1 (by omega)) ?_
  rintro _ η10 ⟨rw2, Ew2, rfl, haw2, upw2⟩
  have ok := (ok).dsk (d := dp1) (r := rw1) upw2
  have hkw2 : DkOk rw2.abs := by rw [haw2]; exact (hkw1).sync
  have hcw2 : rw2.chg ≤ rw1.chg + 1 := Int.le_trans (Int.le_of_eq (congrArg Dk.chg haw2)) sync_chg
  have hks : (syncN rw1.abs keptL).2 = 0 ∧ KInv (syncN rw1.abs keptL).1 := by rw [haw1]; exact kept_sync (by rw [hacu1]; exact hcu.1) (by rw [hacu1]; exact hcu.2)
  refine .w 44 .neq <| .nil ?_
  refine .cd (fun C2 => ?_) (fun C2 => ?_)
  · --
    exact absurd (congrArg (fun x : Nat => (x : Int)) hks.1) C2
  refine .skip <| .seq <| .seq <| .r <| .w 9 .asI <| .nil ?_
  refine .block fun K0 hK0 => .loop (fun m s hh => ∃ (i : Nat) (r : RD) (E : Nat → Prop), Has s [(1, .slice a2 l2.length c2), (2, .slice a3 l3.length c3), (7, .pointer (some ⟨dp1, 0, none⟩)), (9, .int .i64 (i : Int))] ∧ Hp h none_ [dskI dp1 r] [bysI E r.fs, opwI (fun j => EO2 j ∧ j < h.size) (a2, l2.length, c2) l2, rdI (fun j => F3 j ∧ j < h.size) (fun j => E3 j ∧ j < h.size) (a3, l3.length, c3) l3] hh ∧ i ≤ l2.length ∧ DkOk r.abs ∧ r.chg ≤ 70 + i ∧ KInv r.abs ∧ m = l2.length - i) ?_ ?_
  · exact ⟨_, 0, rw2, Ew2, ⟨rfl, rfl, rfl, rfl, trivial⟩, (ok).k1.f3.f4.f2.e3, Nat.zero_le _, hkw2, by omega, by rw [haw2]; exact hks.2, rfl⟩
  rintro _ _ η11 ⟨i, r, E, hs, ok, hi, hk, hch, hki, rfl⟩ J0 hJ0
  refine .frame hs fun τ => ?_
  refine .seq <| .seq <| .r <| .w 45 .mvI <| .w 46 .mvS <| .w 47 (.len T.el65) <| .w 48 .lss <| .nil ?_
  refine .cdr (fun C3 => ?_) (fun C3 => ?_)
  · --
    refine .exit <| hK0 _ _ <| .seq <| .r <| .w 72 .mvP <| .w 73 .mvS <| .c' 74 .func (crash_any (d := dp1) (r := r) (E := E) (a := a3) (c := c3) (l := l3) (ok.f2.f1).loc2 hk (by omega)) ?_
    rintro _ η12 ⟨Scr1, rcr1, Ecr1, rfl, hKcr1, hacr1, upcr1⟩
    have ok := (ok.f2.f1).dsk (d := dp1) (r := r) upcr1
    have hkcr1 : DkOk rcr1.abs := by rw [hacr1]; exact (hk).crash
    have hccr1 : rcr1.chg = r.chg := congrArg Dk.chg hacr1
    refine .nil ?_
    refine .seq <| ?_
    have hrd : readN rcr1.abs ([107, 101, 112, 116] : List UInt8) 3 2 = ([7, 8], 0) := by rw [hacr1]; exact kept_read hki
    refine .r <| .w 76 .mvP <| .c' 77 .func (read_anyD (d := dp1) (r := rcr1) (E := Ecr1) (n := ([107, 101, 112, 116] : List UInt8)) (y := 3) (z := 2) ((ok).rdo) hkcr1 ⟨by omega, by omega⟩ ⟨by omega, by omega⟩) ?_
    rintro _ η13 ⟨w, rfl, own⟩
    obtain ⟨ya1, yc1, rfl⟩ := own.formB
    have ok := ok.own own
    refine .w 75 .mvU <| .w 78 .ex <| .w 79 .ex <| .w 10 .asS <| .w 11 .asI <| .nil ?_
    refine .seq <| .r <| .c' 80 .func live_any ?_
    rintro _ η14 ⟨rfl, hx⟩
    have ok := ok.ext hx
    refine .w 81 .mvB <| .w 82 .mvI <| .w 83 .eql <| .w 84 .pkt <| .w 85 .mvB <| .sd (fun G85 => ?_) (fun G85 => ?_)
    ·
      refine .w 86 .mvS <| .a' 87 (.lit [.const (.int .u8 7), .const (.int .u8 8)] (cs := [.int .u8 7, .int .u8 8]) T.el22 T.sz5 T.zr5 ok ⟨rfl, rfl, trivial⟩) ?_
      rintro _ η15 ⟨pb3, rfl, ok, xe⟩
      have ok := ok.cx (ys := ([7, 8] : List UInt8).map bv) rfl
      refine .k 88 .func (same_any (a := ya1) (c := yc1) (l := ((readN rcr1.abs ([107, 101, 112, 116] : List UInt8) 3 2).1)) (b := some ⟨pb3, 0, none⟩) (d := 2) (l2 := [7, 8]) (RdL.ofCapB (v := (ya1, ((readN rcr1.abs ([107, 101, 112, 116] : List UInt8) 3 2).1).length, yc1)) (l := ((readN rcr1.abs ([107, 101, 112, 116] : List UInt8) 3 2).1)) ok.m1) (RdL.ofCapB (v := (some ⟨pb3, 0, none⟩, 2, 2)) (l := [7, 8]) ok.m0)) <| .w 89 .pkt <| .w 90 .mvB <| .sd (fun G90 => ?_) (fun G90 => ?_)
      ·
        refine .w 91 .mvP <| .k 92 .func (dark_any (d := dp1) (r := rcr1) (dsk_parts (ok.m2)).1) <| .w 93 .not <| .w 94 .pkt <| .w 6 .asB <| .nil ?_
        refine .ret ⟨.bool (!rcr1.dark), Res.one rfl rfl, ⟨by rw [show rcr1.dark = false from congrArg Dk.dark hacr1]; rfl, ok.chg⟩⟩
      exact absurd (congrArg Prod.fst hrd) G90
    exact absurd (congrArg (fun x : List UInt8 × Nat => (x.2 : Int)) hrd) G85
  have hil : i < l2.length := by omega
  refine .skip <| .seq <| .block fun K1 hK1 => .seq <| .r <| .w 51 .mvS <| .w 52 .mvI <| ?_
  obtain ⟨bb1, oo1, rfl, fb1⟩ := ok.r1.pos (by omega)
  refine .w 53 (.ix i T.el65 T.sz73) <| .w 54 (.fa T.fd73_1) <| .w 55 (.ld T.ag9 (sl_at ROp.cells_len (ok.r1).sl (i := i) (j := 1) (by omega) rfl)) <| .w 56 .tNeB <| .w 57 .mvB <| .sd (fun G57 => ?_) (fun G57 => ?_)
  ·
    refine .w 58 .mvS <| .w 59 .mvI <| .w 60 (.ix i T.el65 T.sz73) <| .w 61 (.fa T.fd73_0) <| .w 62 (.ld T.ag5 (sl_at ROp.cells_len (ok.r1).sl (i := i) (j := 0) (by omega) rfl)) <| .w 63 .neq <| .w 64 .pkt <| .nil ?_
    refine .cd (fun C4 => ?_) (fun C4 => ?_)
    · --
      have ok := ok.d1 (rdI (fun j => EO2 j ∧ j < h.size) (fun j => EO2 j ∧ j < h.size) (l2[i].ba, l2[i].bl.length, l2[i].bc) l2[i].bl) ((ok.r1).by' _ (List.getElem_mem hil)) (fun _ h => h.elim id id)
      refine .a 6 (fun fl hh => cond fl True (Hp h none_ [dskI dp1 r] [rdI (fun j => EO2 j ∧ j < h.size) (fun j => EO2 j ∧ j < h.size) (l2[i].ba, l2[i].bl.length, l2[i].bc) (l2[i].bl), bysI E r.fs, opwI (fun j => EO2 j ∧ j < h.size) (some ⟨bb1, oo1, none⟩, l2.length, c2) l2, rdI (fun j => F3 j ∧ j < h.size) (fun j => E3 j ∧ j < h.size) (a3, l3.length, c3) l3] hh)) mixed ?_
      have hS := ok
      refine .g 0 false rfl 65 hS (fun _ => .mvP) <| .g 2 false rfl 67 hS (fun _ => .mvS) <| .g 3 false rfl 68 hS (fun _ => .mvI) <| .g 4 false rfl 69 hS (fun _ => .ix i T.el65 T.sz73) <| .l 5 false rfl 70 (v := .agg #[.int .u8 (l2[i].k : Int), .string (BA (l2[i].n)), .int .i64 (l2[i].y), .int .i64 (l2[i].z), .slice (l2[i].ba) (l2[i].bl.length) (l2[i].bc)]) hS (fun _ hS => .ldc (vs := ROp.cells l2[i]) T.ag73 (sl_ats ROp.cells_len (hS.r2).sl (i := i) (by omega)) T.sz73) <| .o1 1 <| .c' false rfl 66 .func dnew_any ?_
      rintro _ η16 ⟨rfl, hx⟩
      have ok := ok.ext hx
      have ok := ok.dE (docI none_ newRW) newRW_doc (fun _ f => f)
      refine ⟨ok.tR, ?_⟩
      have hS := ok.tR
      refine .o1 6 <| .c' true rfl 71 .func (call_any (d := dp1) (r := r) (E := E) (FB := fun j => EO2 j ∧ j < h.size) (EB := fun j => EO2 j ∧ j < h.size) (EW := none_) (sa := none) (sc := 0) (sl := []) (na := none) (nc := 0) (nl := []) (pa := none) (pc := 0) (pl := []) (lf := (-1)) (gn := false) (mn := 0) (k := l2[i].k) (n := l2[i].n) (bl := l2[i].bl) (y := l2[i].y) (z := l2[i].z) (ba := l2[i].ba) (bc := l2[i].bc) (ok.f1.f1.f2).loc3 hk (by omega) newW_ws (by decide) (hop2 _ (List.getElem_mem hil)).1 (hop2 _ (List.getElem_mem hil)).2.1 (hop2 _ (List.getElem_mem hil)).2.2 (keys_ex (dsk_parts (ok.m0)).2.2.1).choose_spec) ?_
      rintro _ η17 ⟨Sq1, rq1, Eq1, wq1, Wq1, bq1, rfl, hKq1, haq1, hwq1, hsbq1, pq1, hEq1, hWq1⟩
      have hszq1 := ok.chg.size
      have ok := (ok.f1.f1.f2).call2 pq1 hEq1 hWq1
      have hkq1 : DkOk rq1.abs := by rw [haq1]; exact stepD_ok hk (hop2 _ (List.getElem_mem hil)).2.2.2
      have hcq1 : rq1.chg ≤ r.chg + 1 := Int.le_trans (Int.le_of_eq (congrArg Dk.chg haq1)) stepD_chg
      refine ⟨trivial, ?_⟩
      refine .e ?_
      refine .end <| hK1 _ _ <| .r <| .w 49 .mvI <| .w 50 (.addI (b := 1)) <| .w 9 .asI <| .nil ?_
      refine .end <| hJ0 _ _ _ ⟨i + 1, rq1, Eq1, ⟨rfl, rfl, rfl, rfl, trivial⟩, (ok).k1.f4.f4.f2.e3, by omega, hkq1, by omega, by rw [haq1]; exact hki.step (show l2[i].n ≠ keptL by assumption), rfl⟩ (by omega)
    refine .skip <| .end <| hK1 _ _ <| .r <| .w 49 .mvI <| .w 50 (.addI (b := 1)) <| .w 9 .asI <| .nil ?_
    refine .end <| hJ0 _ _ _ ⟨i + 1, r, E, ⟨rfl, rfl, rfl, rfl, trivial⟩, (ok).k1.f2.f2.f2, by omega, hk, by omega, hki, rfl⟩ (by omega)
  refine .x 58 <| .x 59 <| .x 60 <| .x 61 <| .x 62 <| .x 63 <| .w 64 .pkf <| .nil ?_
  refine .cf <| .skip <| .end <| hK1 _ _ <| .r <| .w 49 .mvI <| .w 50 (.addI (b := 1)) <| .w 9 .asI <| .nil ?_
  refine .end <| hJ0 _ _ _ ⟨i + 1, r, E, ⟨rfl, rfl, rfl, rfl, trivial⟩, (ok).k1.f2.f2.f2, by omega, hk, by omega, hki, rfl⟩ (by omega)

end Go.Proofs.Ytpebbkhainpfaaa

namespace Go.HL
open Go
section
variable {h0 h : Heap} {D : Nat → Prop} {M R : List Itm} {a0 a1 a2 a3 a4 a5 a6 a7 a8 a9 a10 a11 a12 a13 a14 q0 q1 q2 q3 q4 q5 q6 q7 q8 q9 q10 q11 q12 q13 q14 : Itm}
theorem Hp.m10 (ok : Hp h0 D (a0 :: a1 :: a2 :: a3 :: a4 :: a5 :: a6 :: a7 :: a8 :: a9 :: a10 :: M) R h) : a10.p h := (ok.m a10 (by simp)).1
theorem Hp.n10 (ok : Hp h0 D (a0 :: a1 :: a2 :: a3 :: a4 :: a5 :: a6 :: a7 :: a8 :: a9 :: a10 :: M) R h) : Hp h0 D (a10 :: a0 :: a1 :: a2 :: a3 :: a4 :: a5 :: a6 :: a7 :: a8 :: a9 :: M) R h := ok.perm (by simpa using (List.perm_middle (l₁ := [a0, a1, a2, a3, a4, a5, a6, a7, a8, a9]) (l₂ := M) (a := a10)).symm)
theorem Hp.k10 (ok : Hp h0 D (a0 :: a1 :: a2 :: a3 :: a4 :: a5 :: a6 :: a7 :: a8 :: a9 :: M) R h) : Hp h0 D [a0, a1, a2, a3, a4, a5, a6, a7, a8, a9] R h := ok.keep (by simp)
theorem Hp.r10 (ok : Hp h0 D M (q0 :: q1 :: q2 :: q3 :: q4 :: q5 :: q6 :: q7 :: q8 :: q9 :: q10 :: R) h) : q10.p h := (ok.r q10 (by simp)).1
theorem Hp.f10 (ok : Hp h0 D M (q0 :: q1 :: q2 :: q3 :: q4 :: q5 :: q6 :: q7 :: q8 :: q9 :: q10 :: R) h) : Hp h0 D M (q10 :: q0 :: q1 :: q2 :: q3 :: q4 :: q5 :: q6 :: q7 :: q8 :: q9 :: R) h := ok.sub (by simp; grind)
theorem Hp.e10 (ok : Hp h0 D M (q0 :: q1 :: q2 :: q3 :: q4 :: q5 :: q6 :: q7 :: q8 :: q9 :: R) h) : Hp h0 D M [q0, q1, q2, q3, q4, q5, q6, q7, q8, q9] h := ok.sub (by simp)
theorem Hp.d10 (ok : Hp h0 D M (q0 :: q1 :: q2 :: q3 :: q4 :: q5 :: q6 :: q7 :: q8 :: q9 :: q10 :: R) h) (it : Itm) (hp : it.p h) (hF : ∀ j, it.F j → q10.F j := by exact fun _ x => x) : Hp h0 D M (it :: q0 :: q1 :: q2 :: q3 :: q4 :: q5 :: q6 :: q7 :: q8 :: q9 :: q10 :: R) h := ok.der (r := q10) (by simp) it hp hF
theorem Hp.l10 (ok : Hp h0 D M (q0 :: q1 :: q2 :: q3 :: q4 :: q5 :: q6 :: q7 :: q8 :: q9 :: q10 :: R) h) : ∀ j, q10.F j → j < h.size := (ok.r q10 (by simp)).2
theorem Hp.m11 (ok : Hp h0 D (a0 :: a1 :: a2 :: a3 :: a4 :: a5 :: a6 :: a7 :: a8 :: a9 :: a10 :: a11 :: M) R h) : a11.p h := (ok.m a11 (by simp)).1
theorem Hp.n11 (ok : Hp h0 D (a0 :: a1 :: a2 :: a3 :: a4 :: a5 :: a6 :: a7 :: a8 :: a9 :: a10 :: a11 :: M) R h) : Hp h0 D (a11 :: a0 :: a1 :: a2 :: a3 :: a4 :: a5 :: a6 :: a7 :: a8 :: a9 :: a10 :: M) R h := ok.perm (by simpa using (List.perm_middle (l₁ := [a0, a1, a2, a3, a4, a5, a6, a7, a8, a9, a10]) (l₂ := M) (a := a11)).symm)
theorem Hp.k11 (ok : Hp h0 D (a0 :: a1 :: a2 :: a3 :: a4 :: a5 :: a6 :: a7 :: a8 :: a9 :: a10 :: M) R h) : Hp h0 D [a0, a1, a2, a3, a4, a5, a6, a7, a8, a9, a10] R h := ok.keep (by simp)
theorem Hp.r11 (ok : Hp h0 D M (q0 :: q1 :: q2 :: q3 :: q4 :: q5 :: q6 :: q7 :: q8 :: q9 :: q10 :: q11 :: R) h) : q11.p h := (ok.r q11 (by simp)).1
theorem Hp.f11 (ok : Hp h0 D M (q0 :: q1 :: q2 :: q3 :: q4 :: q5 :: q6 :: q7 :: q8 :: q9 :: q10 :: q11 :: R) h) : Hp h0 D M (q11 :: q0 :: q1 :: q2 :: q3 :: q4 :: q5 :: q6 :: q7 :: q8 :: q9 :: q10 :: R) h := ok.sub (by simp; grind)
theorem Hp.e11 (ok : Hp h0 D M (q0 :: q1 :: q2 :: q3 :: q4 :: q5 :: q6 :: q7 :: q8 :: q9 :: q10 :: R) h) : Hp h0 D M [q0, q1, q2, q3, q4, q5, q6, q7, q8, q9, q10] h := ok.sub (by simp)
theorem Hp.d11 (ok : Hp h0 D M (q0 :: q1 :: q2 :: q3 :: q4 :: q5 :: q6 :: q7 :: q8 :: q9 :: q10 :: q11 :: R) h) (it : Itm) (hp : it.p h) (hF : ∀ j, it.F j → q11.F j := by exact fun _ x => x) : Hp h0 D M (it :: q0 :: q1 :: q2 :: q3 :: q4 :: q5 :: q6 :: q7 :: q8 :: q9 :: q10 :: q11 :: R) h := ok.der (r := q11) (by simp) it hp hF
theorem Hp.l11 (ok : Hp h0 D M (q0 :: q1 :: q2 :: q3 :: q4 :: q5 :: q6 :: q7 :: q8 :: q9 :: q10 :: q11 :: R) h) : ∀ j, q11.F j → j < h.size := (ok.r q11 (by simp)).2
theorem Hp.m12 (ok : Hp h0 D (a0 :: a1 :: a2 :: a3 :: a4 :: a5 :: a6 :: a7 :: a8 :: a9 :: a10 :: a11 :: a12 :: M) R h) : a12.p h := (ok.m a12 (by simp)).1
theorem Hp.n12 (ok : Hp h0 D (a0 :: a1 :: a2 :: a3 :: a4 :: a5 :: a6 :: a7 :: a8 :: a9 :: a10 :: a11 :: a12 :: M) R h) : Hp h0 D (a12 :: a0 :: a1 :: a2 :: a3 :: a4 :: a5 :: a6 :: a7 :: a8 :: a9 :: a10 :: a11 :: M) R h := ok.perm (by simpa using (List.perm_middle (l₁ := [a0, a1, a2, a3, a4, a5, a6, a7, a8, a9, a10, a11]) (l₂ := M) (a := a12)).symm)
theorem Hp.k12 (ok : Hp h0 D (a0 :: a1 :: a2 :: a3 :: a4 :: a5 :: a6 :: a7 :: a8 :: a9 :: a10 :: a11 :: M) R h) : Hp h0 D [a0, a1, a2, a3, a4, a5, a6, a7, a8, a9, a10, a11] R h := ok.keep (by simp)
theorem Hp.r12 (ok : Hp h0 D M (q0 :: q1 :: q2 :: q3 :: q4 :: q5 :: q6 :: q7 :: q8 :: q9 :: q10 :: q11 :: q12 :: R) h) : q12.p h := (ok.r q12 (by simp)).1
theorem Hp.f12 (ok : Hp h0 D M (q0 :: q1 :: q2 :: q3 :: q4 :: q5 :: q6 :: q7 :: q8 :: q9 :: q10 :: q11 :: q12 :: R) h) : Hp h0 D M (q12 :: q0 :: q1 :: q2 :: q3 :: q4 :: q5 :: q6 :: q7 :: q8 :: q9 :: q10 :: q11 :: R) h := ok.sub (by simp; grind)
theorem Hp.e12 (ok : Hp h0 D M (q0 :: q1 :: q2 :: q3 :: q4 :: q5 :: q6 :: q7 :: q8 :: q9 :: q10 :: q11 :: R) h) : Hp h0 D M [q0, q1, q2, q3, q4, q5, q6, q7, q8, q9, q10, q11] h := ok.sub (by simp)
theorem Hp.d12 (ok : Hp h0 D M (q0 :: q1 :: q2 :: q3 :: q4 :: q5 :: q6 :: q7 :: q8 :: q9 :: q10 :: q11 :: q12 :: R) h) (it : Itm) (hp : it.p h) (hF : ∀ j, it.F j → q12.F j := by exact fun _ x => x) : Hp h0 D M (it :: q0 :: q1 :: q2 :: q3 :: q4 :: q5 :: q6 :: q7 :: q8 :: q9 :: q10 :: q11 :: q12 :: R) h := ok.der (r := q12) (by simp) it hp hF
theorem Hp.l12 (ok : Hp h0 D M (q0 :: q1 :: q2 :: q3 :: q4 :: q5 :: q6 :: q7 :: q8 :: q9 :: q10 :: q11 :: q12 :: R) h) : ∀ j, q12.F j → j < h.size := (ok.r q12 (by simp)).2
theorem Hp.m13 (ok : Hp h0 D (a0 :: a1 :: a2 :: a3 :: a4 :: a5 :: a6 :: a7 :: a8 :: a9 :: a10 :: a11 :: a12 :: a13 :: M) R h) : a13.p h := (ok.m a13 (by simp)).1
theorem Hp.n13 (ok : Hp h0 D (a0 :: a1 :: a2 :: a3 :: a4 :: a5 :: a6 :: a7 :: a8 :: a9 :: a10 :: a11 :: a12 :: a13 :: M) R h) : Hp h0 D (a13 :: a0 :: a1 :: a2 :: a3 :: a4 :: a5 :: a6 :: a7 :: a8 :: a9 :: a10 :: a11 :: a12 :: M) R h := ok.perm (by simpa using (List.perm_middle (l₁ := [a0, a1, a2, a3, a4, a5, a6, a7, a8, a9, a10, a11, a12]) (l₂ := M) (a := a13)).symm)
theorem Hp.k13 (ok : Hp h0 D (a0 :: a1 :: a2 :: a3 :: a4 :: a5 :: a6 :: a7 :: a8 :: a9 :: a10 :: a11 :: a12 :: M) R h) : Hp h0 D [a0, a1, a2, a3, a4, a5, a6, a7, a8, a9, a10, a11, a12] R h := ok.keep (by simp)
theorem Hp.r13 (ok : Hp h0 D M (q0 :: q1 :: q2 :: q3 :: q4 :: q5 :: q6 :: q7 :: q8 :: q9 :: q10 :: q11 :: q12 :: q13 :: R) h) : q13.p h := (ok.r q13 (by simp)).1
theorem Hp.f13 (ok : Hp h0 D M (q0 :: q1 :: q2 :: q3 :: q4 :: q5 :: q6 :: q7 :: q8 :: q9 :: q10 :: q11 :: q12 :: q13 :: R) h) : Hp h0 D M (q13 :: q0 :: q1 :: q2 :: q3 :: q4 :: q5 :: q6 :: q7 :: q8 :: q9 :: q10 :: q11 :: q12 :: R) h := ok.sub (by simp; grind)
theorem Hp.e13 (ok : Hp h0 D M (q0 :: q1 :: q2 :: q3 :: q4 :: q5 :: q6 :: q7 :: q8 :: q9 :: q10 :: q11 :: q12 :: R) h) : Hp h0 D M [q0, q1, q2, q3, q4, q5, q6, q7, q8, q9, q10, q11, q12] h := ok.sub (by simp)
theorem Hp.d13 (ok : Hp h0 D M (q0 :: q1 :: q2 :: q3 :: q4 :: q5 :: q6 :: q7 :: q8 :: q9 :: q10 :: q11 :: q12 :: q13 :: R) h) (it : Itm) (hp : it.p h) (hF : ∀ j, it.F j → q13.F j := by exact fun _ x => x) : Hp h0 D M (it :: q0 :: q1 :: q2 :: q3 :: q4 :: q5 :: q6 :: q7 :: q8 :: q9 :: q10 :: q11 :: q12 :: q13 :: R) h := ok.der (r := q13) (by simp) it hp hF
theorem Hp.l13 (ok : Hp h0 D M (q0 :: q1 :: q2 :: q3 :: q4 :: q5 :: q6 :: q7 :: q8 :: q9 :: q10 :: q11 :: q12 :: q13 :: R) h) : ∀ j, q13.F j → j < h.size := (ok.r q13 (by simp)).2
end
theorem Hp.anyR {h0 h : Heap} {D : Nat → Prop} {M R : List Itm} (ok : Hp h0 D M R h) (it : Itm) (hp : it.p h) (hF : ∀ j, it.F j → ∃ r ∈ R, r.F j) : Hp h0 D M (it :: R) h :=
  ⟨ok.chg, ok.m, fun i hi => by
    rcases List.mem_cons.1 hi with rfl | hi
    · exact ⟨hp, fun j hj => by obtain ⟨r, hr, h1⟩ := hF j hj; exact (ok.r r hr).2 j h1⟩
    · exact ok.r i hi, ok.mm, fun a ha b hb j hj hb2 => by
    rcases List.mem_cons.1 hb with rfl | hb
    · obtain ⟨r, hr, h1⟩ := hF j hb2; exact ok.mr a ha r hr j hj h1
    · exact ok.mr a ha b hb j hj hb2⟩
/-- An item is as it was, another one is made beside it. -/
theorem Hp.copy {h0 h h' : Heap} {D : Nat → Prop} {M R : List Itm} {x a A B : Itm} (ok : Hp h0 D (x :: M) (A :: R) h) (q : Hp h x.F [a, x] [B, A] h') (hB : ∀ j, B.F j → A.F j ∨ h.size ≤ j) : Hp h0 D (a :: x :: M) (B :: A :: R) h' := by
  have o := ok.upd q.chg (fun _ x => x) x q.m1 fun j hj => .inl hj
  have hx := ok.m x List.mem_cons_self
  have hz : ∀ z ∈ M, ∀ j, z.F j → ¬ a.F j := fun z hz j hj hj2 => by
    rcases ((q.m a List.mem_cons_self).2 j hj2).2 with h1 | h1
    · exact (List.pairwise_cons.1 ok.mm).1 z hz j h1 hj
    · have := ((ok.m z (List.mem_cons_of_mem _ hz)).2 j hj).1
      omega
  refine ⟨o.chg, fun i hi => ?_, fun i hi => ?_, List.pairwise_cons.2 ⟨fun z hz2 j hj hj2 => ?_, o.mm⟩, fun z hz2 y hy j hj hj2 => ?_⟩
  · rcases List.mem_cons.1 hi with rfl | hi
    · refine ⟨q.m0, fun j hj => ?_⟩
      have h1 := (q.m _ List.mem_cons_self).2 j hj
      refine ⟨h1.1, ?_⟩
      rcases h1.2 with h2 | h2
      · exact (hx.2 j h2).2
      · exact .inr (Nat.le_trans ok.chg.size h2)
    · exact o.m i hi
  · rcases List.mem_cons.1 hi with rfl | hi
    · exact q.r _ List.mem_cons_self
    · exact o.r i hi
  · rcases List.mem_cons.1 hz2 with rfl | hz2
    · exact (List.pairwise_cons.1 q.mm).1 _ List.mem_cons_self j hj hj2
    · exact hz z hz2 j hj2 hj
  · rcases List.mem_cons.1 hy with rfl | hy
    · rcases List.mem_cons.1 hz2 with rfl | hz2
      · exact q.mr _ List.mem_cons_self _ List.mem_cons_self j hj hj2
      · rcases List.mem_cons.1 hz2 with rfl | hz2
        · exact q.mr _ (List.mem_cons_of_mem _ List.mem_cons_self) _ List.mem_cons_self j hj hj2
        · rcases hB j hj2 with h1 | h1
          · exact ok.mr z (List.mem_cons_of_mem _ hz2) A List.mem_cons_self j hj h1
          · have := ((ok.m z (List.mem_cons_of_mem _ hz2)).2 j hj).1
            omega
    · rcases List.mem_cons.1 hz2 with rfl | hz2
      · rcases ((q.m z List.mem_cons_self).2 j hj).2 with h1 | h1
        · exact ok.mr x List.mem_cons_self y hy j h1 hj2
        · have := (ok.r y hy).2 j hj2
          omega
      · exact o.mr z hz2 y hy j hj hj2
end Go.HL
namespace Go.Proofs.Ytpebbkhainpfaaa
open Go Go.HL
theorem RC.one (l : List RC) : ∀ u ∈ l.flatMap RC.cells, u.oneCell' = true := fun u hu => by
  obtain ⟨x, _, hx⟩ := List.mem_flatMap.1 hu
  simp [RC.cells] at hx
  rcases hx with rfl | rfl | rfl <;> rfl
theorem flatC_len : ∀ l : List RC, (l.flatMap RC.cells).length = l.length * 3
  | [] => by simp
  | x :: l => by rw [List.flatMap_cons, List.length_append, RC.cells_len, flatC_len l, List.length_cons, Nat.add_mul]; omega
theorem ents_some {td : Fs} {i : Nat} {p : List UInt8 × Value} (h : (ents td)[i]? = some p) : ∃ n f, td[i]? = some (n, f) ∧ p = (n, ptrF f) := by
  unfold ents at h
  rw [List.getElem?_map] at h
  cases hq : td[i]? with
  | none => rw [hq] at h; cases h
  | some q => rw [hq] at h; exact ⟨q.1, q.2, rfl, (Option.some.inj h).symm⟩
theorem ents_erase {td : Fs} {i : Nat} : (ents td).eraseIdx i = ents (td.eraseIdx i) := (map_erase _ _ _).symm
theorem bput_same {fs : Fs} {n : List UInt8} {f : RF} (h : bget fs n = some f) : bput fs n f = fs := by
  induction fs with
  | nil => simp [bget] at h
  | cons p l ih =>
    rw [bget_cons] at h
    rw [bput_cons]
    by_cases hp : p.1 = n
    · rw [if_pos hp] at h ⊢
      injection h with h
      rw [← hp, ← h]
    · rw [if_neg hp] at h ⊢
      rw [ih h]
/-- So much is copied yet. -/
structure Cp (fs td fs2 : Fs) : Prop where
  sub : ∀ p ∈ td, p ∈ fs
  nd : (td.map (·.1)).Nodup
  eq : ∀ n, (bget fs2 n).map RF.abs = if n ∈ td.map (·.1) then none else (bget fs n).map RF.abs
theorem Cp.step {fs td fs2 : Fs} {i : Nat} {n : List UInt8} {f f2 : RF} (v : Cp fs td fs2) (hn : (fs.map (·.1)).Nodup) (hq : td[i]? = some (n, f)) (ha : f2.abs = f.abs) : Cp fs (td.eraseIdx i) (bput fs2 n f2) := by
  obtain ⟨hi, he⟩ := List.getElem?_eq_some_iff.1 hq
  have hmem : (n, f) ∈ td := by rw [← he]; exact List.getElem_mem hi
  have hp : (td.map (·.1)).Perm (n :: (td.eraseIdx i).map (·.1)) := by
    have h1 : td.Perm (td[i] :: td.eraseIdx i) := by
      rw [List.eraseIdx_eq_take_drop_succ]
      have h2 : td = td.take i ++ td[i] :: td.drop (i + 1) := by rw [← List.drop_eq_getElem_cons hi, List.take_append_drop]
      exact (List.Perm.of_eq h2).trans List.perm_middle
    rw [he] at h1
    exact h1.map _
  have hnd := hp.nodup_iff.1 v.nd
  refine ⟨fun p h => v.sub p ((List.eraseIdx_sublist _ _).mem h), (List.nodup_cons.1 hnd).2, fun m => ?_⟩
  rw [bget_put]
  by_cases hm : m = n
  · subst hm
    rw [if_pos rfl, if_neg (List.nodup_cons.1 hnd).1, bget_of hn (v.sub _ hmem)]
    simp [ha]
  · rw [if_neg hm, v.eq m]
    have : m ∈ td.map (·.1) ↔ m ∈ (td.eraseIdx i).map (·.1) := by rw [hp.mem_iff]; simp [hm]
    by_cases h : m ∈ td.map (·.1)
    · rw [if_pos h, if_pos (this.1 h)]
    · rw [if_neg h, if_neg (fun g => h (this.2 g))]
theorem Cp.none {fs td fs2 : Fs} {i : Nat} {n : List UInt8} {f : RF} (v : Cp fs td fs2) (hq : td[i]? = some (n, f)) : bget fs2 n = none := by
  have h1 := v.eq n
  rw [if_pos (List.mem_map.2 ⟨(n, f), List.mem_of_getElem? hq, rfl⟩)] at h1
  cases h : bget fs2 n with
  | none => rfl
  | some g => rw [h] at h1; cases h1

set_option maxRecDepth 100000 in
set_option maxHeartbeats 2000000 in
theorem chclone_any {h : Heap} {a : Option Addr} {n c : Nat} {xs : List Value} (hs : Sl h 3 (.slice a n c) xs) (hone : ∀ u ∈ xs, u.oneCell' = true) (hN : xs.length ≤ 1000000000000) (hz : a.isNone = true → xs = []) :
    HC Try.prog 69 #[.slice a n c] h (fun v h' => Own h h' 3 117 v xs) := by
  have ok := (Hp.nil h none_).old (rowI 3 (a, n, c) xs) hs (blk_lt (by omega) hs)
  refine HC.go Try.func69 8 ?_
  refine .seq <| .r <| .w 2 .asS <| .nil ?_
  refine .seq <| .seq <| .r <| .w 3 .mvS <| .w 4 (.sEq T.el120) <| .nil ?_
  refine .cond (fun C0 => ?_) (fun C0 => ?_)
  · --
    refine .seq <| .r <| .w 2 .asS <| .nil ?_
    refine .ret ⟨.slice none 0 0, Res.one rfl rfl, (by rw [hz C0]; exact Own.nil ok.chg _ _)⟩
  refine .skip <| .seq <| .r <| .a' 5 (.lit [] (cs := []) T.el120 T.sz117 T.zr117 ok trivial) ?_
  rintro _ η1 ⟨pb1, rfl, ok, xe⟩
  refine .w 6 .mvS <| .a' 7 (.app (news := xs) T.el120 T.sz117 T.by117 T.zr117 ok (ok.r0) hone (by simp only [List.length_nil]; omega)) ?_
  rintro _ η2 ⟨ya, yn, yc, rfl, ok, ap⟩
  have ok := ok.cx (ys := xs) (by simp)
  refine .w 2 .asS <| .nil ?_
  refine .ret ⟨.slice ya yn yc, Res.one rfl rfl, (ok).toOwn⟩

theorem bget_nil (n : List UInt8) : bget [] n = none := rfl
theorem cap_nil {h : Heap} {e : TypeId} {a : Option Addr} {n c : Nat} {xs : List Value} (r : Cap h 3 e (.slice a n c) xs) (ha : a.isNone = true) : xs = [] := by
  obtain ⟨a', n', c', hv, h1, h2, h3⟩ := r.sl
  injection hv with e1 e2 e3; subst e1 e2 e3
  rcases Nat.eq_zero_or_pos n with h0 | h0
  · exact List.eq_nil_of_length_eq_zero (by rw [h3.1, h0])
  · obtain ⟨b, o, e, _⟩ := h3.pos h0
    subst e; cases ha
theorem _root_.Go.HL.Hp.fcls0 {h0 h : Heap} {D : Nat → Prop} {M R : List Itm} {fs : Fs} {n : List UInt8} {f : RF} (hn : (fs.map (·.1)).Nodup) (hg : bget fs n = none) (ok : Hp h0 D (fboxI f :: fopnI f :: flsI fs :: M) R h) : Hp h0 D (flsI (bput fs n f) :: M) R h := Hp.fcls hn (by rw [bdel_none hg]; exact ok)
theorem Cp.start {fs : Fs} (hnd : (fs.map (·.1)).Nodup) : Cp fs fs [] := ⟨fun _ h => h, hnd, fun n => by
  rw [bget_nil]
  by_cases h : n ∈ fs.map (·.1)
  · rw [if_pos h]; rfl
  · rw [if_neg h, bget_none_iff.2 (fun p hp e => h (List.mem_map.2 ⟨p, hp, e⟩))]⟩

set_option maxRecDepth 100000 in
set_option maxHeartbeats 2000000 in
theorem copy_any {h : Heap} {d : Nat} {r : RD} {E : Nat → Prop} (ok : Hp h (dskI d r).F [dskI d r] [bysI E r.fs] h) (hk : DkOk r.abs) (hcg : r.chg < 1000000000) :
    HC Try.prog 36 #[.pointer (some ⟨d, 0, none⟩)] h (fun v h' => ∃ (d2 : Nat) (r2 : RD) (E2 : Nat → Prop), v = .pointer (some ⟨d2, 0, none⟩) ∧ r2.abs = r.abs ∧ Hp h (dskI d r).F [dskI d2 r2, dskI d r] [bysI E2 r2.fs, bysI E r.fs] h' ∧ ∀ j, E2 j → E j ∨ h.size ≤ j) := by
  have hnd : (r.fs.map (·.1)).Nodup := (dsk_parts ok.m0).2.2.1
  have ok := ok.dopn
  refine HC.go Try.func36 48 ?_
  refine .seq <| .r <| .w 2 .asP <| .nil ?_
  refine .seq <| .seq <| .r <| .w 7 .mvP <| .w 8 (.pEqS T.pt57) <| .nil ?_
  refine .cf <| .skip <| .seq <| .r <| .w 9 .mvP <| .w 10 .nil <| .w 11 (.ldb T.ag113 ok.m0 T.sz113) <| .a' 3 (.alA T.zr113 ok) ?_
  rintro _ η1 ⟨pb1, rfl, ok, xe⟩
  refine .ur' (.stW (vs := [.map (some r.m), .bool r.dark, .int .i64 r.left, .int .i64 r.chg]) T.sz113 ok (oneL rfl)) ?_
  rintro η2 ⟨ok, cg⟩
  refine .nil ?_
  refine .seq <| .r <| .a' 12 (.mkm kvB ok) ?_
  rintro _ η3 ⟨mb1, rfl, ok⟩
  refine .w 13 (.fa T.fd113_0) <| .ur' (.stM T.sz111 ok.n1) ?_
  rintro η4 ⟨ok, cg⟩
  refine .nil ?_
  refine .seq <| .seq <| .r <| .w 14 .mvP <| .w 15 .nil <| .w 16 (.fa T.fd113_0) <| .w 17 (.ldx T.ag111 ok.m2) <| .a' 18 (.rng T.mp111 ok.n3) ?_
  rintro _ η5 ⟨ib1, rfl, ok⟩
  refine .nil ?_
  refine .block fun K0 hK0 => ?_
  have ok := (ok).dE (bysI none_ []) (fun _ h => by cases h) (fun _ f => f)
  have ok := flsNil ok
  refine .loop (fun m s hh => ∃ (td fs2 : Fs) (E2 : Nat → Prop), Has s [(3, .pointer (some ⟨pb1, 0, none⟩)), (18, .pointer (some ⟨ib1, 0, none⟩))] ∧ Hp h (dskI d r).F [boxI d 113 [.map (some r.m), .bool r.dark, .int .i64 r.left, .int .i64 r.chg], itI kvB ib1 r.m (ents r.fs) (ents td), flsI r.fs, boxI pb1 113 [.map (some mb1), .bool r.dark, .int .i64 r.left, .int .i64 r.chg], mapI kvB mb1 (ents fs2), flsI fs2] [bysI E2 fs2, bysI E r.fs] hh ∧ Cp r.fs td fs2 ∧ (∀ j, E2 j → E j ∨ h.size ≤ j) ∧ m = td.length) ?_ ?_
  · exact ⟨_, r.fs, [], none_, ⟨rfl, rfl, trivial⟩, (ok.n3.n3.n5.n4.n5).k6.f1.f1, Cp.start hnd, fun _ f => f.elim, rfl⟩
  rintro _ _ η6 ⟨td, fs2, E2, hs, ok, hcp, hE2, rfl⟩ J0 hJ0
  refine .frame hs fun τ => ?_
  refine .seq <| .r <| .a' 19 (.nxt ok.n1) ?_
  rintro _ η7 (⟨hnil, rfl, ok⟩ | ⟨ipq1, pq1, hpq1, rfl, ok⟩)
  · --
    have htd : td = [] := by simpa [ents] using hnil
    have ok := ok.itm
    refine .w 20 .ex <| .nil ?_
    refine .seq <| .cf <| .exit <| hK0 _ _ <| .seq <| .r <| .w 2 .asP <| .nil ?_
    refine .ret ⟨.pointer (some ⟨pb1, 0, none⟩), Res.one rfl rfl, ⟨pb1, ⟨mb1, fs2, r.dark, r.left, r.chg⟩, E2, rfl, by unfold RD.abs; congr 1; funext n; simp only; rw [hcp.eq n, htd]; simp, Hp.dcls (d := pb1) (r := ⟨mb1, fs2, r.dark, r.left, r.chg⟩) (Hp.dcls (d := d) (r := r) ((ok.n5.n5.n5.n5.n4.n5).k6.f1.f1)).n3.n3.n3, hE2⟩⟩
  obtain ⟨nm, f, hq, rfl⟩ := ents_some hpq1
  rw [ents_erase] at ok
  refine .w 20 .ex <| .nil ?_
  refine .seq <| .ct <| .skip <| .block fun K1 hK1 => .seq <| .r <| .w 21 (.ent (ok.m0).2) <| .w 22 .ex <| .w 23 .ex <| .w 4 .asT <| .w 5 .asP <| .nil ?_
  refine .seq <| ?_
  have hgm : (nm, f) ∈ r.fs := hcp.sub _ (List.mem_of_getElem? hq)
  have hg : bget r.fs nm = some f := bget_of hnd hgm
  have hfo := hk.fs nm f.abs (by simp [RD.abs, hg])
  have hfn : f.nl.length ≤ 16777216 := hfo.1.now
  have hfs : f.sl.length ≤ 16777216 := hfo.1.safe
  have hfl : (f.ol.length : Int) ≤ r.chg := by have h9 := hfo.2; simpa [RF.abs] using (show _ ≤ r.chg from h9)
  have ok := Hp.fopn hnd hg (ok.n2)
  have hnil : f.oa.isNone = true → f.ol.flatMap RC.cells = [] := fun h9 => cap_nil ok.m1 h9
  have ok := ok.d1 (rdI E E (f.na, f.nl.length, f.nc) f.nl) (Bys.get ok.r1 hg).now (fun _ h => h.elim id id)
  have ok := ok.d2 (rdI E E (f.sa, f.sl.length, f.sc) f.sl) (Bys.get ok.r2 hg).safe (fun _ h => h.elim id id)
  have hfnc := ok.r1.c
  have hfsc := ok.r0.c
  simp only at hfnc hfsc
  refine .r <| .w 24 .mvP <| .w 25 .nil <| .w 26 (.ldb T.ag122 ok.m0 T.sz122) <| .a' 6 (.alA T.zr122 ok) ?_
  rintro _ η8 ⟨pb2, rfl, ok, xe⟩
  refine .ur' (.stW (vs := [.slice f.na f.nl.length f.nc, .slice f.sa f.sl.length f.sc, .bool f.here, .bool f.was, .slice f.oa f.ol.length f.oc]) T.sz122 ok (oneL rfl)) ?_
  rintro η9 ⟨ok, cg⟩
  refine .nil ?_
  refine .seq <| .a 16 (fun fl hh => cond fl True (Hp h (dskI d r).F [boxI pb2 122 [.slice f.na f.nl.length f.nc, .slice f.sa f.sl.length f.sc, .bool f.here, .bool f.was, .slice f.oa f.ol.length f.oc], boxI f.blk 122 [.slice f.na f.nl.length f.nc, .slice f.sa f.sl.length f.sc, .bool f.here, .bool f.was, .slice f.oa f.ol.length f.oc], capI 3 117 (f.oa, f.ol.length, f.oc) (f.ol.flatMap RC.cells), flsI (bdel r.fs nm), itcI kvB ib1 r.m (ents r.fs) (ents (td.eraseIdx ipq1)) (nm, ptrF f), boxI d 113 [.map (some r.m), .bool r.dark, .int .i64 r.left, .int .i64 r.chg], boxI pb1 113 [.map (some mb1), .bool r.dark, .int .i64 r.left, .int .i64 r.chg], mapI kvB mb1 (ents fs2), flsI fs2] [rdI E E (f.sa, f.sl.length, f.sc) f.sl, rdI E E (f.na, f.nl.length, f.nc) f.nl, bysI E2 fs2, bysI E r.fs] hh)) mixed ?_
  have hS := ok
  refine .g 0 false rfl 27 hS (fun _ => .mvP) <| .g 1 false rfl 28 hS (fun _ => .nil) <| .g 2 false rfl 29 hS (fun _ => .fa T.fd122_0) <| .l 3 false rfl 30 hS (fun _ hS => .ldx T.ag22 hS.m1) <| .g 5 false rfl 32 hS (fun _ => .mvP) <| .g 6 false rfl 33 hS (fun _ => .nil) <| .g 7 false rfl 34 hS (fun _ => .fa T.fd122_1) <| .l 8 false rfl 35 hS (fun _ hS => .ldx T.ag22 hS.m1) <| .g 10 false rfl 37 hS (fun _ => .mvP) <| .g 11 false rfl 38 hS (fun _ => .nil) <| .g 12 false rfl 39 hS (fun _ => .fa T.fd122_4) <| .l 13 false rfl 40 hS (fun _ hS => .ldx T.ag120 hS.m1) <| .o1 4 <| .c' false rfl 31 .func (bclone_any (a := f.na) (c := f.nc) (l := f.nl) ok.r1 (by omega)) ?_
  rintro _ η10 own
  have hfr31 := fun j hj => Nat.le_trans ok.chg.size (own.fresh j hj)
  obtain ⟨ya1, yc1, rfl⟩ := own.formB
  have ok := ok.own own
  refine ⟨ok.n9.n9.n9.n9.n9.n9.n9.n9.n9.k9, ?_⟩
  have hS := ok.n9.n9.n9.n9.n9.n9.n9.n9.n9.k9
  refine .o1 9 <| .c' false rfl 36 .func (bclone_any (a := f.sa) (c := f.sc) (l := f.sl) ok.r0 (by omega)) ?_
  rintro _ η11 own
  have hfr36 := fun j hj => Nat.le_trans ok.chg.size (own.fresh j hj)
  obtain ⟨ya2, yc2, rfl⟩ := own.formB
  have ok := ok.own own
  refine ⟨ok.n10.n10.n10.n10.n10.n10.n10.n10.n10.k9, ?_⟩
  have hS := ok.n10.n10.n10.n10.n10.n10.n10.n10.n10.k9
  refine .o1 14 <| .c' false rfl 41 .func (chclone_any (a := f.oa) (n := f.ol.length) (c := f.oc) (ok.m4).sl (RC.one _) (by rw [flatC_len]; omega) hnil) ?_
  rintro _ η12 own
  obtain ⟨ya3, yn3, yc3, rfl⟩ := own.form3
  have ok := ok.own own
  obtain rfl : yn3 = f.ol.length := (Sl.sz (Cap.sl ok.m0) RC.cells_len (by decide)).1.symm
  refine ⟨ok.n11.n11.n11.n11.n11.n11.n11.n11.n11.k9, ?_⟩
  have hS := ok.n11.n11.n11.n11.n11.n11.n11.n11.n11.k9
  refine .g 15 false rfl 42 hS (fun _ => .fa T.fd122_0) <| .o1 16 <| .ur' true rfl (.stS T.sz22 ok.n3) ?_
  rintro η13 ⟨ok, cg⟩
  refine ⟨trivial, ?_⟩
  refine .g 17 true rfl 43 trivial (fun _ => .fa T.fd122_1) <| .o1 18 <| .ur' true rfl (.stS T.sz22 ok) ?_
  rintro η14 ⟨ok, cg⟩
  refine ⟨trivial, ?_⟩
  refine .g 19 true rfl 44 trivial (fun _ => .fa T.fd122_4) <| .o1 20 <| .ur' true rfl (.stS T.sz120 ok) ?_
  rintro η15 ⟨ok, cg⟩
  refine ⟨trivial, ?_⟩
  refine .e ?_
  have hn2 : (fs2.map (·.1)).Nodup := by have h9 := (ok.m10).nodup; rwa [ents_keys] at h9
  refine .r <| .w 45 (.fa T.fd113_0) <| .w 46 (.ldx T.ag111 ok.m9) <| .w 47 .mvT <| .ur' (.mpu KV.ba sbB nm (v := ptrF (⟨pb2, ya1, yc1, f.nl, ya2, yc2, f.sl, f.here, f.was, ya3, yc3, f.ol⟩ : RF)) T.mp111 (stB_iff T.st9) ok.n10) ?_
  rintro η16 ok
  have hg2 : bget fs2 nm = none := hcp.none hq
  have ok := ok.n11.n3.n3
  have ok := Hp.fcls0 (n := nm) (f := (⟨pb2, ya1, yc1, f.nl, ya2, yc2, f.sl, f.here, f.was, ya3, yc3, f.ol⟩ : RF)) hn2 hg2 ok
  have ok := ok.n6.n6.n6
  have ok := Hp.fcls (n := nm) (f := f) hnd ok
  rw [bput_same hg] at ok
  have ok := (ok.n4).frzB (l := f.nl) rfl
  have ok := (ok.n3).frzB (l := f.sl) rfl
  have ok := ok.anyR (bysI (fun j => ((E2 j ∨ E j) ∨ blkC (sv (ya1, (f.nl).length, yc1)) j) ∨ blkC (sv (ya2, (f.sl).length, yc2)) j) (bput fs2 nm (⟨pb2, ya1, yc1, f.nl, ya2, yc2, f.sl, f.here, f.was, ya3, yc3, f.ol⟩ : RF))) (Bys.put (Bys.mono (fun _ h => .inl (.inl (.inl h))) ok.r4) ⟨RdL.mono (fun _ h => .inl (.inr h)) (fun _ f => f.elim) ok.r1, RdL.mono (fun _ h => .inr h) (fun _ f => f.elim) ok.r0, fun x hx => RdL.mono (fun _ h => .inl (.inl (.inr h))) (fun _ h => .inl (.inl (.inr h))) ((Bys.get ok.r5 hg).opn x hx)⟩) (fun j hj => by rcases hj with ((h9 | h9) | h9) | h9; exact ⟨bysI E2 fs2, by simp, h9⟩; exact ⟨bysI E r.fs, by simp, h9⟩; exact ⟨rdI (blkC (sv (ya1, (f.nl).length, yc1))) none_ (ya1, (f.nl).length, yc1) f.nl, by simp, .inl h9⟩; exact ⟨rdI (blkC (sv (ya2, (f.sl).length, yc2))) none_ (ya2, (f.sl).length, yc2) f.sl, by simp, .inl h9⟩)
  have hE3 : ∀ j, (fun j => ((E2 j ∨ E j) ∨ blkC (sv (ya1, (f.nl).length, yc1)) j) ∨ blkC (sv (ya2, (f.sl).length, yc2)) j) j → E j ∨ h.size ≤ j := fun j hj => by rcases hj with ((h9 | h9) | h9) | h9; exact hE2 j h9; exact .inl h9; exact .inr (hfr31 j h9); exact .inr (hfr36 j h9)
  rw [ents_put] at ok
  have ok := (ok.n3).itc
  refine .nil ?_
  refine .end <| hK1 _ _ <| .end <| hJ0 _ _ _ ⟨td.eraseIdx ipq1, bput fs2 nm (⟨pb2, ya1, yc1, f.nl, ya2, yc2, f.sl, f.here, f.was, ya3, yc3, f.ol⟩ : RF), (fun j => ((E2 j ∨ E j) ∨ blkC (sv (ya1, (f.nl).length, yc1)) j) ∨ blkC (sv (ya2, (f.sl).length, yc2)) j), ⟨rfl, rfl, trivial⟩, (ok.n2.n3.n5.n4.n4.n5).k6.f6.f1.e2, hcp.step hnd hq rfl, hE3, rfl⟩ (by rw [List.length_eraseIdx_of_lt (List.getElem?_eq_some_iff.1 hq).1]; have := (List.getElem?_eq_some_iff.1 hq).1; omega)

end Go.Proofs.Ytpebbkhainpfaaa
