/- A small separation logic for walks: what the running call owns (blocks and rows) and what it only reads, in one predicate that every step hands on. No program in sight. -/
import Derived.WalkKit
import Derived.WalkSpells
import Derived.WalkLawsBesides
import Derived.Deep.MidRow
import Derived.Deep.QuietTactic
import Derived.BigQuiet
namespace Go.Proofs.YtimonjemjhecoaaGreatDoor
open Go.RowKit
open Go

inductive Res where
  | blk (b : Nat) (o : Obj)
  | row (v : Value) (e : TypeId) (size n : Nat) (xs : List Value)

theorem n1 (l : List Value) (ds : List Deferred) (d : Nat) (v : Value) : Act.put ⟨⟨l⟩, ds⟩ (some d) v = ⟨⟨l.set d v⟩, ds⟩ := by simp [Act.put]
theorem n2 (a : Act) (v : Value) : Act.put a none v = a := rfl
theorem n3 (x v : Value) (l : List Value) : (x :: l).set 0 v = v :: l := rfl
theorem n4 (x v : Value) (l : List Value) (n : Nat) : (x :: l).set (n + 1) v = x :: l.set n v := rfl
theorem m3 (x v : Res) (l : List Res) : (x :: l).set 0 v = v :: l := rfl
theorem m4 (x v : Res) (l : List Res) (n : Nat) : (x :: l).set (n + 1) v = x :: l.set n v := rfl
theorem N : (∀ (l : List Value) (ds : List Deferred) (d : Nat) (v : Value), Act.put ⟨⟨l⟩, ds⟩ (some d) v = ⟨⟨l.set d v⟩, ds⟩) ∧ (∀ (a : Act) (v : Value), Act.put a none v = a) ∧ (∀ (x v : Value) (l : List Value), (x :: l).set 0 v = v :: l) ∧ (∀ (x v : Value) (l : List Value) (n : Nat), (x :: l).set (n + 1) v = x :: l.set n v) := ⟨n1, n2, n3, n4⟩
theorem M : (∀ (x v : Res) (l : List Res), (x :: l).set 0 v = v :: l) ∧ (∀ (x v : Res) (l : List Res) (n : Nat), (x :: l).set (n + 1) v = x :: l.set n v) ∧ (∀ (x : Res) (l m : List Res), (x :: l) ++ m = x :: (l ++ m)) ∧ (∀ m : List Res, [] ++ m = m) := ⟨m3, m4, fun _ _ _ => rfl, fun _ => rfl⟩
theorem Ms : (∀ (x v : Res) (l : List Res), (x :: l).set 0 v = v :: l) ∧ (∀ (x v : Res) (l : List Res) (n : Nat), (x :: l).set (n + 1) v = x :: l.set n v) ∧ (∀ (x v : Value) (l : List Value), (x :: l).set 0 v = v :: l) ∧ (∀ (x v : Value) (l : List Value) (n : Nat), (x :: l).set (n + 1) v = x :: l.set n v) ∧ (∀ (l : List Value) (i : Nat) (a : Value), l.toArray.setIfInBounds i a = (l.set i a).toArray) ∧ (∀ (x : Res) (l m : List Res), (x :: l) ++ m = x :: (l ++ m)) ∧ (∀ m : List Res, [] ++ m = m) := ⟨m3, m4, n3, n4, fun l i a => List.setIfInBounds_toArray l i a, fun _ _ _ => rfl, fun _ => rfl⟩

def Res.foot : Res → Option Nat
  | .blk b _ => some b
  | .row v _ _ _ _ => v.ownBlock

def ownsRowW (w : World) (e : TypeId) (size : Nat) (v : Value) (n : Nat) (xs : List Value) : Prop :=
  xs.length = n * size ∧ ((v = .slice none 0 0 ∧ n = 0) ∨
    ∃ g cap cur, v = .slice (some ⟨g, 0, none⟩) n cap ∧ 0 ≤ g ∧ w.heap[g]? = some (.cells cur e (0, 0)) ∧ n ≤ cap ∧ cap ≤ maxLen ∧ cap * size ≤ cur.size ∧ cur.toList.take (n * size) = xs)
theorem ownsRowW_of {w : World} {e : TypeId} {size : Nat} {v : Value} {n : Nat} {xs : List Value} (h : w.ownsRow 0 e size v n xs) : ownsRowW w e size v n xs := by
  refine ⟨h.1, ?_⟩
  rcases h.2 with hn | ⟨g, cap, cur, hv, hb, hg, hnc, hcm, hcs, htk⟩
  · exact .inl hn
  · exact .inr ⟨g, cap, cur, hv, hb, hg, hnc, hcm, Nat.le_of_eq hcs.symm, htk⟩
theorem ownsRowW_cells {w : World} {e : TypeId} {size : Nat} {v : Value} {n : Nat} {xs : List Value} (h : ownsRowW w e size v n xs) {g : Nat} (hg : v.ownBlock = some g) : ∀ j u, xs[j]? = some u → w.cell? ((⟨g, 0, none⟩ : Addr).add j) = some u := by
  intro j u hu
  rcases h.2 with ⟨rfl, _⟩ | ⟨g', cap, cur, rfl, _, hgg, _, _, _, htk⟩
  · simp [Value.ownBlock] at hg
  · simp [Value.ownBlock] at hg
    subst hg
    have hadd : (⟨g', 0, none⟩ : Addr).add j = ⟨g', j, none⟩ := by unfold Addr.add; split <;> simp_all
    rw [hadd, cell_of_row w g' j cur e (0, 0) hgg]
    rw [← htk, List.getElem?_take] at hu
    split at hu
    · simpa using hu
    · cases hu

def Res.ok (w : World) : Res → Prop
  | .blk b o => w.heap[b]? = some o
  | .row v e size n xs => ownsRowW w e size v n xs

theorem Res.ok_of_same {w w' : World} {r : Res} (h : r.ok w) (hs : ∀ b, r.foot = some b → w'.heap[b]? = w.heap[b]?) : r.ok w' := by
  cases r with
  | blk b o => exact (hs b rfl).trans h
  | row v e size n xs =>
    refine ⟨h.1, ?_⟩
    rcases h.2 with hn | ⟨g, cap, cur, rfl, hb, hg, rest⟩
    · exact .inl hn
    · exact .inr ⟨g, cap, cur, rfl, hb, (hs g rfl).trans hg, rest⟩

theorem Res.ok_lt {w : World} {r : Res} (h : r.ok w) : ∀ b, r.foot = some b → b < w.heap.size := by
  intro b hb
  cases r with
  | blk b' o => cases hb; exact (Array.getElem?_eq_some_iff.1 h).1
  | row v e size n xs =>
    rcases h.2 with ⟨rfl, _⟩ | ⟨g, cap, cur, rfl, _, hg, _⟩
    · cases hb
    · cases hb; exact (Array.getElem?_eq_some_iff.1 hg).1

def Res.apart (r s : Res) : Prop := ∀ b, r.foot = some b → s.foot ≠ some b

def Ext (w w' : World) : Prop := Below w.heap.size w w'

theorem Ext.refl (w : World) : Ext w w := Below.refl _ _
theorem Ext.trans {a b c : World} (h : Ext a b) (k : Ext b c) : Ext a c := Below.trans h (Below.mono k h.size)
theorem Ext.alloc (w : World) (o : Obj) : Ext w (w.alloc o) := (Below.refl _ _).alloc (Nat.le_refl _) o
theorem Ext.drew (w : World) : Ext w w.drew := (Below.refl _ _).drew
theorem Ext.cell {w w' : World} (h : Ext w w') {a : Addr} {v : Value} (hc : w.cell? a = some v) : w'.cell? a = some v :=
  (Below.cell h (World.block_lt_of_cell? w a hc)).trans hc
theorem Ext.heap {w w' : World} (h : Ext w w') {b : Nat} {o : Obj} (hc : w.heap[b]? = some o) : w'.heap[b]? = some o :=
  (h.block b (Array.getElem?_eq_some_iff.1 hc).1).trans hc

def Chg (S : List Nat) (w w' : World) : Prop :=
  w'.os = w.os ∧ w'.tape = w.tape ∧ w'.output = w.output ∧ w.heap.size ≤ w'.heap.size ∧ ∀ b, b < w.heap.size → b ∉ S → w'.heap[b]? = w.heap[b]?

theorem Ext.chg {w w' : World} (h : Ext w w') (S : List Nat) : Chg S w w' := ⟨h.os, h.tape, h.output, h.size, fun b hb _ => h.block b hb⟩
theorem Chg.ext {w w' : World} (h : Chg [] w w') : Ext w w' := ⟨h.1, h.2.1, h.2.2.1, h.2.2.2.1, fun b hb => h.2.2.2.2 b hb (by simp)⟩

structure Own (w0 : World) (S : List Nat) (R : List (World → Prop)) (L : List Res) (w : World) : Prop where
  os : w.os = w0.os
  tape : w.tape = w0.tape
  output : w.output = w0.output
  size : w0.heap.size ≤ w.heap.size
  old : ∀ b, b < w0.heap.size → (∀ r ∈ L, r.foot ≠ some b) → w.heap[b]? = w0.heap[b]?
  ok : ∀ r ∈ L, r.ok w
  new : ∀ r ∈ L, ∀ b, r.foot = some b → w0.heap.size ≤ b ∨ b ∈ S
  lent : ∀ b ∈ S, b < w0.heap.size
  apart : L.Pairwise Res.apart
  ro : ∃ F : Nat → Prop, (∀ b, F b → b < w.heap.size ∧ ∀ r ∈ L, r.foot ≠ some b) ∧ ∀ φ ∈ R, ∀ w', (∀ b, F b → w'.heap[b]? = w.heap[b]?) → φ w'

def HangsBelow (n : Nat) (φ : World → Prop) (w : World) : Prop := ∀ w', (∀ b, b < n → w'.heap[b]? = w.heap[b]?) → φ w'

section
variable {w0 w : World} {S : List Nat} {R : List (World → Prop)} {L : List Res}

theorem Own.start (w : World) : Own w [] [] [] w :=
  ⟨rfl, rfl, rfl, Nat.le_refl _, fun _ _ _ => rfl, fun _ h => by simp at h, fun _ h => by simp at h, fun _ h => by simp at h, List.Pairwise.nil, fun _ => False, fun _ h => h.elim, fun _ h => by simp at h⟩

theorem Own.start_ro (w : World) (R : List (World → Prop)) (h : ∀ φ ∈ R, HangsBelow w.heap.size φ w) : Own w [] R [] w :=
  ⟨rfl, rfl, rfl, Nat.le_refl _, fun _ _ _ => rfl, fun _ h => by simp at h, fun _ h => by simp at h, fun _ h => by simp at h, List.Pairwise.nil, fun b => b < w.heap.size, fun _ h => ⟨h, fun _ h => by simp at h⟩, h⟩

theorem Own.ext (H : Own w0 [] R L w) : Ext w0 w := ⟨H.os, H.tape, H.output, H.size, fun b hb => H.old b hb (fun r hr he => by have := H.new r hr b he; simp at this; omega)⟩

theorem Own.get (H : Own w0 S R L w) {φ : World → Prop} (h : φ ∈ R) : φ w := by
  obtain ⟨F, _, h2⟩ := H.ro
  exact h2 φ h w (fun _ _ => rfl)

theorem Own.at (H : Own w0 S R L w) {i : Nat} {r : Res} (h : L[i]? = some r) : r.ok w := H.ok r (List.mem_of_getElem? h)

theorem Own.blk (H : Own w0 S R L w) {i b : Nat} {o : Obj} (h : L[i]? = some (.blk b o)) : w.heap[b]? = some o := H.at h

theorem Own.step (H : Own w0 S R L w) {w' : World} (h : Ext w w') : Own w0 S R L w' := by
  obtain ⟨F, f1, f2⟩ := H.ro
  refine ⟨h.os.trans H.os, h.tape.trans H.tape, h.output.trans H.output, Nat.le_trans H.size h.size, fun b hb hr => ?_, fun r hr => ?_, H.new, H.lent, H.apart, F, fun b hb => ⟨Nat.lt_of_lt_of_le (f1 b hb).1 h.size, (f1 b hb).2⟩, fun φ hφ w'' hw => f2 φ hφ w'' (fun b hb => ?_)⟩
  · exact (h.block b (Nat.lt_of_lt_of_le hb H.size)).trans (H.old b hb hr)
  · exact Res.ok_of_same (H.ok r hr) (fun b hb => h.block b (Res.ok_lt (H.ok r hr) b hb))
  · exact (hw b hb).trans (h.block b (f1 b hb).1)

theorem Own.drew (H : Own w0 S R L w) : Own w0 S R L w.drew := H.step (Ext.drew w)

theorem Own.add (H : Own w0 S R L w) {w' : World} (h : Ext w w') (r : Res) (hr : r.ok w') (hn : ∀ b, r.foot = some b → w.heap.size ≤ b) : Own w0 S R (r :: L) w' := by
  have H' := H.step h
  obtain ⟨F, f1, f2⟩ := H.ro
  refine ⟨H'.os, H'.tape, H'.output, H'.size, fun b hb hs => H'.old b hb (fun s hm => hs s (List.mem_cons_of_mem _ hm)), fun s hm => ?_, fun s hm b hb => ?_, H.lent, ?_, F, fun b hb => ⟨Nat.lt_of_lt_of_le (f1 b hb).1 h.size, fun s hm => ?_⟩, fun φ hφ w'' hw => f2 φ hφ w'' (fun b hb => ?_)⟩
  · rcases List.mem_cons.1 hm with rfl | hm
    · exact hr
    · exact H'.ok s hm
  · rcases List.mem_cons.1 hm with rfl | hm
    · exact .inl (Nat.le_trans H.size (hn b hb))
    · exact H.new s hm b hb
  · refine List.pairwise_cons.2 ⟨fun s hm b hb he => ?_, H.apart⟩
    have h1 := hn b hb
    have h2 := Res.ok_lt (H.ok s hm) b he
    omega
  · rcases List.mem_cons.1 hm with rfl | hm
    · intro he
      have h1 := hn b he
      have h2 := (f1 b hb).1
      omega
    · exact (f1 b hb).2 s hm
  · exact (hw b hb).trans (h.block b (f1 b hb).1)

theorem Own.alloc (H : Own w0 S R L w) (o : Obj) : Own w0 S R (.blk w.heap.size o :: L) (w.alloc o) :=
  H.add (Ext.alloc w o) _ (heap_alloc_new w o) (fun b hb => by cases hb; exact Nat.le_refl _)

theorem Own.learn (H : Own w0 S R L w) {w' : World} (h : Ext w w') (φ : World → Prop)
    (hφ : ∀ w'', (∀ b, w.heap.size ≤ b → b < w'.heap.size → w''.heap[b]? = w'.heap[b]?) → (∀ ψ ∈ R, ψ w'') → φ w'') : Own w0 S (φ :: R) L w' := by
  have H' := H.step h
  obtain ⟨F, f1, f2⟩ := H.ro
  refine ⟨H'.os, H'.tape, H'.output, H'.size, H'.old, H'.ok, H'.new, H'.lent, H'.apart, fun b => F b ∨ (w.heap.size ≤ b ∧ b < w'.heap.size), fun b hb => ?_, fun ψ hψ w'' hw => ?_⟩
  · rcases hb with hb | ⟨h1, h2⟩
    · exact ⟨Nat.lt_of_lt_of_le (f1 b hb).1 h.size, (f1 b hb).2⟩
    · refine ⟨h2, fun r hr he => ?_⟩
      have := Res.ok_lt (H.ok r hr) b he
      omega
  · have old : ∀ ψ ∈ R, ψ w'' := fun ψ hψ => f2 ψ hψ w'' (fun b hb => (hw b (.inl hb)).trans (h.block b (f1 b hb).1))
    rcases List.mem_cons.1 hψ with rfl | hψ
    · exact hφ w'' (fun b h1 h2 => hw b (.inr ⟨h1, h2⟩)) old
    · exact old ψ hψ

theorem Own.infer (H : Own w0 S R L w) (φ : World → Prop) (hφ : ∀ w'', (∀ ψ ∈ R, ψ w'') → φ w'') : Own w0 S (φ :: R) L w :=
  H.learn (Ext.refl w) φ (fun w'' _ h => hφ w'' h)

theorem Own.facts (H : Own w0 S R L w) {R' : List (World → Prop)} (h : ∀ φ ∈ R', φ ∈ R) : Own w0 S R' L w := by
  obtain ⟨F, f1, f2⟩ := H.ro
  exact ⟨H.os, H.tape, H.output, H.size, H.old, H.ok, H.new, H.lent, H.apart, F, f1, fun φ hφ => f2 φ (h φ hφ)⟩

theorem mem_set_cases {α : Type} {l : List α} {i : Nat} {a x : α} (h : x ∈ l.set i a) : x = a ∨ ∃ j, j ≠ i ∧ l[j]? = some x := by
  obtain ⟨j, hj⟩ := List.mem_iff_getElem?.1 h
  rw [List.getElem?_set] at hj
  split at hj
  · split at hj
    · simp at hj; exact .inl hj.symm
    · simp at hj
  · rename_i hne
    exact .inr ⟨j, fun e => hne e.symm, hj⟩

theorem apart_at {L : List Res} (h : L.Pairwise Res.apart) {i j : Nat} {r s : Res} (hi : L[i]? = some r) (hj : L[j]? = some s) (hne : i ≠ j) {b : Nat} (hb : r.foot = some b) : s.foot ≠ some b := by
  obtain ⟨hi', rfl⟩ := List.getElem?_eq_some_iff.1 hi
  obtain ⟨hj', rfl⟩ := List.getElem?_eq_some_iff.1 hj
  have hp := List.pairwise_iff_getElem.1 h
  rcases Nat.lt_or_gt_of_ne hne with hlt | hlt
  · exact hp i j hi' hj' hlt b hb
  · intro he
    exact hp j i hj' hi' hlt b he hb

theorem Own.turn (H : Own w0 S R L w) {w' : World} {i : Nat} {r r' : Res} (hi : L[i]? = some r)
    (hos : w'.os = w.os) (htape : w'.tape = w.tape) (hout : w'.output = w.output) (hsize : w.heap.size ≤ w'.heap.size)
    (hsame : ∀ b, b < w.heap.size → r.foot ≠ some b → w'.heap[b]? = w.heap[b]?)
    (hok : r'.ok w') (hfoot : ∀ b, r'.foot = some b → r.foot = some b ∨ w.heap.size ≤ b) (hkept : ∀ b, b < w0.heap.size → r.foot = some b → r'.foot = some b) :
    Own w0 S R (L.set i r') w' := by
  obtain ⟨F, f1, f2⟩ := H.ro
  have hri : r ∈ L := List.mem_of_getElem? hi
  obtain ⟨hil, hir⟩ := List.getElem?_eq_some_iff.1 hi
  refine ⟨hos.trans H.os, htape.trans H.tape, hout.trans H.output, Nat.le_trans H.size hsize, fun b hb hs => ?_, fun s hm => ?_, fun s hm b hb => ?_, H.lent, ?_, F, fun b hb => ⟨Nat.lt_of_lt_of_le (f1 b hb).1 hsize, fun s hm => ?_⟩, fun φ hφ w'' hw => f2 φ hφ w'' (fun b hb => ?_)⟩
  · have hr' : r'.foot ≠ some b := hs r' (List.mem_iff_getElem?.2 ⟨i, by simp [hil]⟩)
    have hr : r.foot ≠ some b := fun e => hr' (hkept b hb e)
    rw [hsame b (Nat.lt_of_lt_of_le hb H.size) hr]
    refine H.old b hb (fun s hm => ?_)
    obtain ⟨j, hj⟩ := List.mem_iff_getElem?.1 hm
    by_cases hji : i = j
    · subst hji; rw [hi] at hj; cases hj; exact hr
    · exact hs s (List.mem_iff_getElem?.2 ⟨j, by rw [List.getElem?_set_ne hji]; exact hj⟩)
  · rcases mem_set_cases hm with rfl | ⟨j, hji, hj⟩
    · exact hok
    · have hs := H.ok s (List.mem_of_getElem? hj)
      refine Res.ok_of_same hs (fun b hb => hsame b (Res.ok_lt hs b hb) ?_)
      exact apart_at H.apart hj hi hji hb
  · rcases mem_set_cases hm with rfl | ⟨j, hji, hj⟩
    · rcases hfoot b hb with h | h
      · exact H.new r hri b h
      · exact .inl (Nat.le_trans H.size h)
    · exact H.new s (List.mem_of_getElem? hj) b hb
  · refine List.pairwise_iff_getElem.2 (fun a c ha hc hac => ?_)
    simp only [List.length_set] at ha hc
    have hp := List.pairwise_iff_getElem.1 H.apart a c ha hc hac
    rw [List.getElem_set, List.getElem_set]
    split
    · rename_i hia
      subst hia
      rw [if_neg (by omega)]
      intro b hb
      rcases hfoot b hb with h | h
      · exact hp b (by rw [hir]; exact h)
      · intro he
        have := Res.ok_lt (H.ok _ (List.getElem_mem hc)) b he
        omega
    · split
      · rename_i hic
        subst hic
        intro b hb he
        rcases hfoot b he with h | h
        · exact hp b hb (by rw [hir]; exact h)
        · have := Res.ok_lt (H.ok _ (List.getElem_mem ha)) b hb
          omega
      · exact hp
  · rcases mem_set_cases hm with rfl | ⟨j, hji, hj⟩
    · intro he
      rcases hfoot b he with h | h
      · exact (f1 b hb).2 r hri h
      · have := (f1 b hb).1; omega
    · exact (f1 b hb).2 s (List.mem_of_getElem? hj)
  · exact (hw b hb).trans (hsame b (f1 b hb).1 ((f1 b hb).2 r hri))

theorem Own.setBlk (H : Own w0 S R L w) {w' : World} {i b : Nat} {o o' : Obj} (hi : L[i]? = some (.blk b o))
    (h : Chg [b] w w') (ho : w'.heap[b]? = some o') : Own w0 S R (L.set i (.blk b o')) w' :=
  H.turn hi h.1 h.2.1 h.2.2.1 h.2.2.2.1 (fun c hc hne => h.2.2.2.2 c hc (by simp; intro e; exact hne (by subst e; rfl))) ho (fun _ h => .inl h) (fun _ _ h => h)

theorem Own.setCell (H : Own w0 S R L w) {i b off : Nat} {cs : Array Value} {T : TypeId} {fr : Nat × Nat} (hi : L[i]? = some (.blk b (.cells cs T fr))) (v : Value) :
    Own w0 S R (L.set i (.blk b (.cells (cs.setIfInBounds off v) T fr))) (w.setCell ⟨b, off, none⟩ v) := by
  have hb := H.blk hi
  refine H.setBlk hi ⟨rfl, rfl, rfl, by simp [World.setCell], fun c _ hne => Below.heap_setCell _ _ _ _ (by simpa using hne)⟩ ?_
  rw [setCell_eq_setRow w b off cs T fr v hb]
  exact setRow_heap w b cs _ T fr hb

theorem Own.setRow (H : Own w0 S R L w) {i b : Nat} {cs : Array Value} {T : TypeId} {fr : Nat × Nat} (hi : L[i]? = some (.blk b (.cells cs T fr))) (cs' : Array Value) :
    Own w0 S R (L.set i (.blk b (.cells cs' T fr))) (w.setRow b cs') :=
  H.setBlk hi ⟨rfl, rfl, rfl, by simp, fun c _ hne => setRow_other w b c cs' (by simpa using hne)⟩ (setRow_heap w b cs _ T fr (H.blk hi))

theorem Own.drop (H : Own w0 S R L w) (i : Nat) (hn : ∀ r, L[i]? = some r → ∀ b, r.foot = some b → b ∉ S) : Own w0 S R (L.eraseIdx i) w := by
  obtain ⟨F, f1, f2⟩ := H.ro
  have sub : L.eraseIdx i |>.Sublist L := List.eraseIdx_sublist ..
  refine ⟨H.os, H.tape, H.output, H.size, fun b hb hs => H.old b hb (fun r hr he => ?_), fun r hr => H.ok r (sub.subset hr), fun r hr => H.new r (sub.subset hr), H.lent, H.apart.sublist sub, F, fun b hb => ⟨(f1 b hb).1, fun r hr => (f1 b hb).2 r (sub.subset hr)⟩, f2⟩
  obtain ⟨j, hj⟩ := List.mem_iff_getElem?.1 hr
  by_cases hji : j = i
  · subst hji
    have h1 := hn r hj b he
    rcases H.new r hr b he with h2 | h2
    · omega
    · exact h1 h2
  · exact hs r (List.mem_iff_getElem?.2 (by
      rcases Nat.lt_or_ge j i with h | h
      · exact ⟨j, by rw [List.getElem?_eraseIdx_of_lt h]; exact hj⟩
      · exact ⟨j - 1, by rw [List.getElem?_eraseIdx_of_ge (by omega), show j - 1 + 1 = j by omega]; exact hj⟩)) he

theorem Own.perm (H : Own w0 S R L w) {L' : List Res} (hp : L.Perm L') : Own w0 S R L' w := by
  obtain ⟨F, f1, f2⟩ := H.ro
  refine ⟨H.os, H.tape, H.output, H.size, fun b hb hs => H.old b hb (fun r hr => hs r (hp.subset hr)), fun r hr => H.ok r (hp.symm.subset hr), fun r hr => H.new r (hp.symm.subset hr), H.lent, ?_, F, fun b hb => ⟨(f1 b hb).1, fun r hr => (f1 b hb).2 r (hp.symm.subset hr)⟩, f2⟩
  exact hp.pairwise_iff (fun {r s} h b hb he => h b he hb) |>.1 H.apart
theorem Own.swap {r s : Res} (H : Own w0 S R (r :: s :: L) w) : Own w0 S R (s :: r :: L) w := H.perm (List.Perm.swap s r L)

theorem Own.dropFront {N : List Res} (H : Own w0 S R (N ++ L) w) (hN : ∀ r ∈ N, ∀ b, r.foot = some b → w0.heap.size ≤ b) : Own w0 S R L w := by
  induction N with
  | nil => exact H
  | cons r N ih =>
    refine ih ?_ (fun r hr => hN r (List.mem_cons_of_mem _ hr))
    have := H.drop 0 (fun s hs b hb hbS => by
      simp at hs
      subst hs
      have h1 := hN _ (List.mem_cons_self ..) b hb
      have h2 := H.lent b hbS
      omega)
    simpa using this

theorem Own.chg (H : Own w0 S R L w) : Chg S w0 w :=
  ⟨H.os, H.tape, H.output, H.size, fun b hb hne => H.old b hb (fun r hr he => by
    rcases H.new r hr b he with h | h
    · omega
    · exact hne h)⟩

theorem Own.borrow {b : Nat} {o : Obj} (h : w.heap[b]? = some o) : Own w [b] [] [.blk b o] w :=
  ⟨rfl, rfl, rfl, Nat.le_refl _, fun _ _ _ => rfl, fun r hr => by simp at hr; subst hr; exact h, fun r hr c hc => by simp at hr; subst hr; cases hc; exact .inr (by simp), fun c hc => by simp at hc; subst hc; exact (Array.getElem?_eq_some_iff.1 h).1, by simp, fun _ => False, fun _ h => h.elim, fun _ h => by simp at h⟩

theorem Own.borrow_ro {b : Nat} {o : Obj} (h : w.heap[b]? = some o) (hR : ∀ φ ∈ R, ∀ w', (∀ c, c < w.heap.size → c ≠ b → w'.heap[c]? = w.heap[c]?) → φ w') : Own w [b] R [.blk b o] w :=
  ⟨rfl, rfl, rfl, Nat.le_refl _, fun _ _ _ => rfl, fun r hr => by simp at hr; subst hr; exact h, fun r hr c hc => by simp at hr; subst hr; cases hc; exact .inr (by simp), fun c hc => by simp at hc; subst hc; exact (Array.getElem?_eq_some_iff.1 h).1, by simp, fun c => c < w.heap.size ∧ c ≠ b,
    fun c hc => ⟨hc.1, fun r hr => by simp at hr; subst hr; intro e; cases e; exact hc.2 rfl⟩, fun φ hφ w' hw => hR φ hφ w' (fun c h1 h2 => hw c ⟨h1, h2⟩)⟩
end

end Go.Proofs.YtimonjemjhecoaaGreatDoor
