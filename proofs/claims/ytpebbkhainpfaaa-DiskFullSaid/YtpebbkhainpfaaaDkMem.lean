/- The disk in memory: its box, its map, its files' boxes and changes as one item that turns; all bytes as one that is read. Conditions: those that each fact names. -/
import Derived.Test.YtpebbkhainpfaaaDkPure
import Derived.Test.YtpebbkhainpfaaaWfFr
import Derived.Test.YtpebbkhainpfaaaHlZero
namespace Go.Proofs.Ytpebbkhainpfaaa
open Go Go.HL
structure RC where
  kind : Nat
  pos : Nat
  ba : Option Addr
  bc : Nat
  bl : List UInt8
def RC.abs (c : RC) : Chn := ⟨c.kind, c.pos, c.bl⟩
def RC.cells (c : RC) : List Value := [.int .i64 (c.kind : Int), .int .i64 (c.pos : Int), .slice c.ba c.bl.length c.bc]
theorem RC.cells_len (c : RC) : c.cells.length = 3 := rfl
structure RF where
  blk : Nat
  na : Option Addr
  nc : Nat
  nl : List UInt8
  sa : Option Addr
  sc : Nat
  sl : List UInt8
  here : Bool
  was : Bool
  oa : Option Addr
  oc : Nat
  ol : List RC
def RF.abs (f : RF) : Fl := ⟨f.nl, f.sl, f.here, f.was, f.ol.map RC.abs⟩
@[reducible] def fboxI (f : RF) : Itm := boxI f.blk 122 [.slice f.na f.nl.length f.nc, .slice f.sa f.sl.length f.sc, .bool f.here, .bool f.was, .slice f.oa f.ol.length f.oc]
@[reducible] def fopnI (f : RF) : Itm := capI 3 117 (f.oa, f.ol.length, f.oc) (f.ol.flatMap RC.cells)
def fileI (f : RF) : List Itm := [fboxI f, fopnI f]
abbrev Fs := List (List UInt8 × RF)
def flsI (fs : Fs) : Itm := starI (fs.flatMap fun p => fileI p.2)
def ptrF (f : RF) : Value := .pointer (some ⟨f.blk, 0, none⟩)
def ents (fs : Fs) : List (List UInt8 × Value) := fs.map fun p => (p.1, ptrF p.2)
def bget (fs : Fs) (n : List UInt8) : Option RF := (fs.find? fun p => p.1 = n).map (·.2)
def bput : Fs → List UInt8 → RF → Fs
  | [], n, f => [(n, f)]
  | p :: l, n, f => if p.1 = n then (n, f) :: l else p :: bput l n f
def bdel (fs : Fs) (n : List UInt8) : Fs := fs.filter fun p => decide (p.1 ≠ n)
structure RD where
  m : Nat
  fs : Fs
  dark : Bool
  left : Int
  chg : Int
def RD.abs (r : RD) : Dk := ⟨fun n => (bget r.fs n).map RF.abs, r.dark, r.left, r.chg⟩
@[reducible] def dboxI (d : Nat) (r : RD) : Itm := boxI d 113 [.map (some r.m), .bool r.dark, .int .i64 r.left, .int .i64 r.chg]
def dskI (d : Nat) (r : RD) : Itm := starI (dboxI d r :: mapI kvB r.m (ents r.fs) :: r.fs.flatMap fun p => fileI p.2)
section
variable {fs : Fs} {n m : List UInt8} {f g : RF}
theorem bget_mem : ∀ {fs : Fs}, bget fs n = some f → (n, f) ∈ fs
  | [], h => by simp [bget] at h
  | p :: l, h => by
    by_cases hp : p.1 = n
    · subst hp; simp [bget] at h; subst h; exact List.mem_cons_self
    · exact List.mem_cons_of_mem _ (bget_mem (fs := l) (by simpa [bget, hp] using h))
theorem bget_of (hn : (fs.map (·.1)).Nodup) (h : (n, f) ∈ fs) : bget fs n = some f := by
  induction fs with
  | nil => cases h
  | cons p l ih =>
    rcases List.mem_cons.1 h with rfl | h
    · simp [bget]
    · have h1 := List.nodup_cons.1 hn
      have : p.1 ≠ n := fun e => h1.1 (List.mem_map.2 ⟨_, h, e.symm⟩)
      simpa [bget, this] using ih h1.2 h
theorem bget_cons (p : List UInt8 × RF) (l : Fs) (n : List UInt8) : bget (p :: l) n = if p.1 = n then some p.2 else bget l n := by
  by_cases h : p.1 = n <;> simp [bget, h]
theorem bput_cons (p : List UInt8 × RF) (l : Fs) (n : List UInt8) (f : RF) : bput (p :: l) n f = if p.1 = n then (n, f) :: l else p :: bput l n f := rfl
theorem bget_put : bget (bput fs n f) m = if m = n then some f else bget fs m := by
  induction fs with
  | nil => by_cases h : n = m <;> simp [bput, bget, h, eq_comm]
  | cons p l ih =>
    rw [bput_cons]
    split
    · rename_i h
      rw [bget_cons, bget_cons]
      by_cases h2 : n = m
      · subst h2; simp
      · rw [if_neg h2, if_neg (by intro e; exact h2 e.symm), if_neg (by rw [h]; exact h2)]
    · rename_i h
      rw [bget_cons, bget_cons, ih]
      by_cases h2 : p.1 = m
      · rw [if_pos h2, if_pos h2, if_neg (by intro e; exact h (h2.trans e))]
      · rw [if_neg h2, if_neg h2]
theorem bget_del : bget (bdel fs n) m = if m = n then none else bget fs m := by
  induction fs with
  | nil => simp [bdel, bget]
  | cons p l ih =>
    rw [bget_cons]
    unfold bdel at ih ⊢
    rw [List.filter_cons]
    by_cases h : p.1 = n
    · simp only [h, ne_eq, not_true, decide_false]
      by_cases h2 : m = n
      · subst h2; simpa using ih
      · have h3 : ¬ n = m := fun e => h2 e.symm
        rw [if_neg h3]; simpa using ih
    · simp only [h, ne_eq, not_false_iff, decide_true, if_true]
      rw [bget_cons, ih]
      by_cases h2 : p.1 = m
      · have h3 : ¬ m = n := fun e => h (h2.trans e)
        simp [h2, h3]
      · simp [h2]
theorem bget_none_iff : bget fs n = none ↔ ∀ p ∈ fs, p.1 ≠ n := by
  induction fs with
  | nil => simp [bget]
  | cons p l ih =>
    rw [bget_cons]
    by_cases h : p.1 = n
    · simp [h]
    · simp [h, ih]
theorem bdel_none (h : bget fs n = none) : bdel fs n = fs := by
  unfold bdel
  rw [List.filter_eq_self]
  intro p hp
  simpa using bget_none_iff.1 h p hp
theorem perm_get (hn : (fs.map (·.1)).Nodup) (h : bget fs n = some f) : fs.Perm ((n, f) :: bdel fs n) := by
  induction fs with
  | nil => simp [bget] at h
  | cons p l ih =>
    have h1 := List.nodup_cons.1 hn
    rw [bget_cons] at h
    by_cases hp : p.1 = n
    · rw [if_pos hp] at h
      injection h with h
      have e : bdel (p :: l) n = l := by
        have : bget l n = none := bget_none_iff.2 fun q hq e => h1.1 (List.mem_map.2 ⟨q, hq, e.trans hp.symm⟩)
        have h2 := bdel_none this
        unfold bdel at h2 ⊢
        rw [List.filter_cons]; simp [hp]
        simpa using h2
      rw [e, ← h, ← hp]
    · rw [if_neg hp] at h
      have e : bdel (p :: l) n = p :: bdel l n := by unfold bdel; rw [List.filter_cons]; simp [hp]
      rw [e]
      exact ((ih h1.2 h).cons p).trans (.swap _ _ _)
theorem bdel_put : bdel (bput fs n f) n = bdel fs n := by
  induction fs with
  | nil => simp [bput, bdel]
  | cons p l ih =>
    rw [bput_cons]
    split
    · rename_i h; simp [bdel, h]
    · rename_i h; unfold bdel at ih ⊢; rw [List.filter_cons, List.filter_cons, ih]
theorem keys_put (f : RF) (h : bget fs n = some g) : (bput fs n f).map (·.1) = fs.map (·.1) := by
  induction fs with
  | nil => simp [bget] at h
  | cons p l ih =>
    rw [bput_cons]
    split
    · rename_i hp; simp [hp]
    · rename_i hp; rw [bget_cons, if_neg hp] at h; simp [ih h]
theorem bput_none (h : bget fs n = none) : bput fs n f = fs ++ [(n, f)] := by
  induction fs with
  | nil => rfl
  | cons p l ih =>
    rw [bget_cons] at h
    split at h
    · cases h
    · rename_i hp; rw [bput_cons, if_neg hp, ih h]; rfl
theorem nodup_put (hn : (fs.map (·.1)).Nodup) : ((bput fs n f).map (·.1)).Nodup := by
  cases h : bget fs n with
  | some g => rw [keys_put f h]; exact hn
  | none =>
    rw [bput_none h, List.map_append]
    refine List.nodup_append.2 ⟨hn, by simp, fun a ha b hb => ?_⟩
    obtain ⟨p, hp, rfl⟩ := List.mem_map.1 ha
    simp at hb; subst hb
    exact bget_none_iff.1 h p hp
theorem perm_put (hn : (fs.map (·.1)).Nodup) : (bput fs n f).Perm ((n, f) :: bdel fs n) := by
  have h := perm_get (fs := bput fs n f) (n := n) (f := f) (nodup_put hn) (by rw [bget_put, if_pos rfl])
  rwa [bdel_put] at h
theorem ents_keys : (ents fs).map (·.1) = fs.map (·.1) := by simp [ents, Function.comp_def]
theorem ents_get : aget (ents fs) n = (bget fs n).map ptrF := by
  induction fs with
  | nil => rfl
  | cons p l ih =>
    rw [bget_cons]
    by_cases h : p.1 = n
    · simp [ents, aget, h]
    · simpa [ents, aget, h] using ih
theorem ents_put : aput (ents fs) n (ptrF f) = ents (bput fs n f) := by
  induction fs with
  | nil => rfl
  | cons p l ih =>
    rw [bput_cons]
    by_cases h : p.1 = n
    · simp [ents, aput, h]
    · simpa [ents, aput, h] using ih
theorem ents_same (h : bget fs n = some g) (hb : f.blk = g.blk) : ents (bput fs n f) = ents fs := by
  induction fs with
  | nil => simp [bget] at h
  | cons p l ih =>
    rw [bput_cons]
    rw [bget_cons] at h
    by_cases hp : p.1 = n
    · rw [if_pos hp] at h ⊢
      injection h with h
      subst h
      simp [ents, hp, ptrF, hb]
    · rw [if_neg hp] at h ⊢
      simpa [ents] using ih h
theorem ents_del : adel (ents fs) n = ents (bdel fs n) := by simp [adel, ents, bdel, List.filter_map, Function.comp_def]
end
end Go.Proofs.Ytpebbkhainpfaaa
namespace Go.HL
open Go Go.Proofs.Ytpebbkhainpfaaa
section
variable {h0 h h' : Heap} {D G : Nat → Prop} {M R : List Itm} {d : Nat} {r r' : RD} {fs : Fs} {n : List UInt8} {f : RF} {E E' : Nat → Prop}
theorem Hp.dopn (ok : Hp h0 D (dskI d r :: M) R h) : Hp h0 D (dboxI d r :: mapI kvB r.m (ents r.fs) :: flsI r.fs :: M) R h := Hp.star2 ok
theorem Hp.dcls (ok : Hp h0 D (dboxI d r :: mapI kvB r.m (ents r.fs) :: flsI r.fs :: M) R h) : Hp h0 D (dskI d r :: M) R h := Hp.unstar2 ok
theorem Hp.fopn (hn : (fs.map (·.1)).Nodup) (hg : bget fs n = some f) (ok : Hp h0 D (flsI fs :: M) R h) : Hp h0 D (fboxI f :: fopnI f :: flsI (bdel fs n) :: M) R h :=
  Hp.star2 (Hp.starP (l' := ((n, f) :: bdel fs n).flatMap fun p : List UInt8 × RF => fileI p.2) ok ((perm_get hn hg).flatMap_right _).symm)
theorem Hp.fcls (hn : (fs.map (·.1)).Nodup) (ok : Hp h0 D (fboxI f :: fopnI f :: flsI (bdel fs n) :: M) R h) : Hp h0 D (flsI (bput fs n f) :: M) R h :=
  Hp.starP (l' := (bput fs n f).flatMap fun p : List UInt8 × RF => fileI p.2) (Hp.unstar2 ok) ((perm_put hn).flatMap_right _)
theorem MapT.nod {κ : Type} {kv : κ → Value} {l : List (κ × Value)} {k : Nat} (hm : MapT kv h k l) : (l.map (·.1)).Nodup := hm.nodup
structure ByF (h : Heap) (E : Nat → Prop) (f : RF) : Prop where
  now : RdL h E E (f.na, f.nl.length, f.nc) f.nl
  safe : RdL h E E (f.sa, f.sl.length, f.sc) f.sl
  opn : ∀ c ∈ f.ol, RdL h E E (c.ba, c.bl.length, c.bc) c.bl
theorem ByF.st (c : Chg G h h') (hE : ∀ j, E j → ¬ G j) (b : ByF h E f) : ByF h' E f := ⟨b.now.st c hE hE, b.safe.st c hE hE, fun x hx => (b.opn x hx).st c hE hE⟩
theorem ByF.mono (hE : ∀ j, E j → E' j) (b : ByF h E f) : ByF h E' f := ⟨b.now.mono hE hE, b.safe.mono hE hE, fun x hx => (b.opn x hx).mono hE hE⟩
def Bys (h : Heap) (E : Nat → Prop) (fs : Fs) : Prop := ∀ p ∈ fs, ByF h E p.2
@[reducible] def bysI (E : Nat → Prop) (fs : Fs) : Itm := ⟨fun h => Bys h E fs, E, fun _ _ _ c d b p hp => (b p hp).st c d⟩
theorem Bys.get (b : Bys h E fs) (hg : bget fs n = some f) : ByF h E f := b _ (bget_mem hg)
theorem Bys.mono (hE : ∀ j, E j → E' j) (b : Bys h E fs) : Bys h E' fs := fun p hp => (b p hp).mono hE
theorem mem_bput {fs : Fs} {n : List UInt8} {f : RF} {p : List UInt8 × RF} (h : p ∈ bput fs n f) : p = (n, f) ∨ p ∈ fs := by
  induction fs with
  | nil => simp [bput] at h; exact .inl h
  | cons q l ih =>
    rw [bput_cons] at h
    split at h
    · rcases List.mem_cons.1 h with h | h
      · exact .inl h
      · exact .inr (List.mem_cons_of_mem _ h)
    · rcases List.mem_cons.1 h with h | h
      · exact .inr (by rw [h]; exact List.mem_cons_self)
      · exact (ih h).imp id (List.mem_cons_of_mem _)
theorem Bys.put (b : Bys h E fs) (hf : ByF h E f) : Bys h E (bput fs n f) := fun p hp => by
  rcases mem_bput hp with rfl | hp
  · exact hf
  · exact b p hp
theorem Bys.del (b : Bys h E fs) : Bys h E (bdel fs n) := fun p hp => b p ((List.mem_filter.1 hp).1)
/-- What a call leaves of a disk. -/
structure DUp (h h' : Heap) (d : Nat) (r r' : RD) (E E' : Nat → Prop) : Prop where
  hp : Hp h (dskI d r).F [dskI d r'] [bysI E' r'.fs] h'
  new : ∀ j, E' j → E j ∨ h.size ≤ j
theorem Hp.loc1 {a b : Itm} (ok : Hp h0 D (a :: M) (b :: R) h) : Hp h a.F [a] [b] h :=
  ⟨Chg.refl _ _, fun i hi => by
    rw [List.mem_singleton.1 hi]
    exact ⟨ok.m0, fun j hj => ⟨((ok.m a List.mem_cons_self).2 j hj).1, .inl hj⟩⟩, fun i hi => by
    rw [List.mem_singleton.1 hi]
    exact ok.r b List.mem_cons_self, List.pairwise_singleton _ _, fun x hx y hy => by
    rw [List.mem_singleton.1 hx, List.mem_singleton.1 hy]
    exact ok.mr a List.mem_cons_self b List.mem_cons_self⟩
theorem Hp.loc2 {a b c : Itm} (ok : Hp h0 D (a :: M) (b :: c :: R) h) : Hp h a.F [a] [b, c] h :=
  ⟨Chg.refl _ _, fun i hi => by
    rw [List.mem_singleton.1 hi]
    exact ⟨ok.m0, fun j hj => ⟨((ok.m a List.mem_cons_self).2 j hj).1, .inl hj⟩⟩, fun i hi => ok.r i (by simp at hi ⊢; rcases hi with h | h <;> simp [h]), List.pairwise_singleton _ _, fun x hx y hy => by
    rw [List.mem_singleton.1 hx]
    exact ok.mr a List.mem_cons_self y (by simp at hy ⊢; rcases hy with h | h <;> simp [h])⟩
theorem Hp.rdo {a b : Itm} (ok : Hp h0 D (a :: M) (b :: R) h) : Hp h none_ [] [a, b] h :=
  ⟨Chg.refl _ _, by simp, fun i hi => by
    rcases List.mem_cons.1 hi with rfl | hi
    · exact ⟨ok.m0, fun j hj => ((ok.m i List.mem_cons_self).2 j hj).1⟩
    · rw [List.mem_singleton.1 hi]; exact ok.r b List.mem_cons_self, .nil, by simp⟩
theorem Hp.dsk (ok : Hp h0 D (dskI d r :: M) (bysI E r.fs :: R) h) (q : DUp h h' d r r' E E') : Hp h0 D (dskI d r' :: M) (bysI E' r'.fs :: R) h' := by
  have o := ok.upd q.hp.chg (fun _ x => x) (dskI d r') q.hp.m0 fun j hj => by
    have h1 := (q.hp.m _ List.mem_cons_self).2 j hj
    exact h1.2.imp id fun h => ⟨h, h1.1⟩
  refine ⟨o.chg, o.m, fun i hi => ?_, o.mm, fun x hx y hy j hj hj2 => ?_⟩
  · rcases List.mem_cons.1 hi with rfl | hi
    · exact q.hp.r _ List.mem_cons_self
    · exact o.r i (List.mem_cons_of_mem _ hi)
  · rcases List.mem_cons.1 hy with rfl | hy
    · rcases List.mem_cons.1 hx with rfl | hx
      · exact q.hp.mr _ List.mem_cons_self _ List.mem_cons_self j hj hj2
      · rcases q.new j hj2 with h1 | h1
        · exact ok.mr x (List.mem_cons_of_mem _ hx) _ List.mem_cons_self j hj h1
        · have := ((ok.m x (List.mem_cons_of_mem _ hx)).2 j hj).1
          omega
    · exact o.mr x hx y (List.mem_cons_of_mem _ hy) j hj hj2
theorem Hp.up {R' : List Itm} (q : Hp h (dskI d r).F [dskI d r'] (bysI E' r'.fs :: R') h') (hE : ∀ j, E' j → E j ∨ h.size ≤ j) : DUp h h' d r r' E E' := ⟨q.sub (by simp), hE⟩
/-- One item turned into another. -/
theorem Hp.lift1 {a b : Itm} (ok : Hp h0 D (a :: M) R h) (q : Hp h a.F [b] [] h') : Hp h0 D (b :: M) R h' :=
  ok.upd q.chg (fun _ x => x) b q.m0 fun j hj => by
    have h1 := (q.m _ List.mem_cons_self).2 j hj
    exact h1.2.imp id fun h => ⟨h, h1.1⟩
theorem Hp.loc0 {a : Itm} (ok : Hp h0 D (a :: M) R h) : Hp h a.F [a] [] h :=
  ⟨Chg.refl _ _, fun i hi => by
    rw [List.mem_singleton.1 hi]
    exact ⟨ok.m0, fun j hj => ⟨((ok.m a List.mem_cons_self).2 j hj).1, .inl hj⟩⟩, by simp, List.pairwise_singleton _ _, by simp⟩
end
end Go.HL
