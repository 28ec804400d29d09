/- Walks, printed by a program of this repository (wip/tool). -/
import Derived.Test.YtimonjemjhecoaaGreatDoorAny
import Derived.Test.YtimonjemjhecoaaGreatDoorBu1
namespace Go.Proofs.YtimonjemjhecoaaGreatDoor
open Go.RowKit
open Go
attribute [local irreducible] wpList wpQuiet wpX Code.wp
set_option maxHeartbeats 1000000
set_option maxRecDepth 100000
set_option linter.unusedSimpArgs false
set_option linter.unusedVariables false


theorem ext_getD {a b : List UInt8} {n : Nat} (ha : a.length = n) (hb : b.length = n) (h : ∀ j, j < n → a.getD j 0 = b.getD j 0) : a = b := by
  refine List.ext_getElem (by omega) fun j h1 h2 => ?_
  have := h j (by omega)
  simpa [List.getD_eq_getElem?_getD, List.getElem?_eq_getElem h1, List.getElem?_eq_getElem h2] using this
theorem zero_getD (n j : Nat) : (List.replicate n (0 : UInt8)).getD j 0 = 0 := by
  rw [List.getD_eq_getElem?_getD, List.getElem?_replicate]
  split <;> rfl
theorem sub_getD (s : List UInt8) (o n j : Nat) (h : j < n) : ((s.drop o).take n).getD j 0 = s.getD (o + j) 0 := by
  simp [List.getD, List.getElem?_take, List.getElem?_drop, h]
theorem seg_getD (s : List UInt8) (k j : Nat) (hk : k < 4) (hj : j < 9) : ((((s.drop 0).take 36).drop (k * 9)).take 9).getD j 0 = s.getD (k * 9 + j) 0 := by
  rw [sub_getD _ _ _ _ hj, sub_getD _ _ _ _ (by omega), Nat.zero_add]
theorem loopN_all {B : (Nat → Bool) → Nat → Bool} {K : Nat → Bool} {c : Nat → Bool} (hB : ∀ r k, B r k = bif c k then false else r (k + 1)) : ∀ n k, loopN B K n k = true ↔ (∀ j, k ≤ j → j < k + n → c j = false) ∧ K (k + n) = true
  | 0, k => by
    show K k = true ↔ _
    exact ⟨fun h => ⟨fun j h1 h2 => by omega, h⟩, fun h => h.2⟩
  | n + 1, k => by
    show B (loopN B K n) k = true ↔ _
    rw [hB]
    cases hc : c k
    · simp only [cond_false]
      rw [loopN_all hB n (k + 1), show k + 1 + n = k + (n + 1) by omega]
      constructor
      · rintro ⟨h1, h2⟩
        refine ⟨fun j hj hk => ?_, h2⟩
        rcases Nat.eq_or_lt_of_le hj with rfl | h
        · exact hc
        · exact h1 j h hk
      · rintro ⟨h1, h2⟩
        exact ⟨fun j hj hk => h1 j (by omega) hk, h2⟩
    · simp only [cond_true]
      refine ⟨fun h => (by cases h), fun h => ?_⟩
      rw [h.1 k (Nat.le_refl _) (by omega)] at hc
      cases hc
structure Valid (p : Prog) (S : List UInt8) : Prop where
  len : S.length = 142
  right : rightF p = 0
  pc : ∀ k, k < p.threads.l.length → (pcOf S k).toNat ≤ (p.threads.l.getD k default).l.length
  idle : ∀ k, p.threads.l.length ≤ k → k < 4 → ∀ j, j < 9 → S.getD (k * 9 + j) 0 = 0
  mem : ∀ l, p.locs.l.length ≤ l → l < 6 → S.getD (36 + l) 0 = 0
  rest : ∀ j, 42 ≤ j → j < 142 → S.getD j 0 = 0
theorem Valid.ok {p : Prog} {S : List UInt8} (h : Valid p S) : RightOk p := right_ok h.right
theorem valid_iff {p : Prog} {S : List UInt8} (hS : S.length = 142) : aRightF p S = true ↔ Valid p S := by
  unfold aRightF
  by_cases hr : rightF p = 0
  · have hok := right_ok hr
    have hr' : (rightF p != 0) = false := by simp [hr]
    have q1 := loopN_all (B := aRightF_a p S) (K := aRightF_ak p S) (fun r k => rfl) 4 0
    have q2 := loopN_all (B := aRightF_b p S) (K := aRightF_bk S) (fun r k => rfl) 6 0
    rw [hr', cond_false]
    refine q1.trans ?_
    rw [show aRightF_ak p S (0 + 4) = loopN (aRightF_b p S) (aRightF_bk S) 6 0 from rfl, q2]
    clear q1 q2
    simp only [aRightF_bk, Bool.or_eq_false_iff, Bool.and_eq_false_iff, decide_eq_false_iff_not, Bool.not_eq_false', decide_eq_true_eq, Bool.and_eq_true, bne_eq_false_iff_eq, Nat.zero_add, Nat.zero_le, true_implies, Nat.sub_zero]
    constructor
    · rintro ⟨h1, h2, h3, h4⟩
      refine ⟨hS, hr, fun k hk => ?_, fun k hk hk4 j hj => ?_, fun l hl hl6 => ?_, fun j h42 hj => ?_⟩
      · have hk4 : k < 4 := by have := hok.threads; omega
        have h := (h1 k hk4).1
        rw [seg_getD _ _ _ hk4 (by omega), Nat.add_zero] at h
        have e : pcOf S k = S.getD (k * 9) 0 := rfl
        rw [e]
        omega
      · have h := (h1 k hk4).2
        have h' := h.resolve_left (by omega)
        rw [← seg_getD S k j hk4 hj, h', sub_getD _ _ _ _ hj, zero_getD]
      · have h := (h2 l hl6).resolve_left (by omega)
        rw [sub_getD _ _ _ _ hl6] at h
        exact h
      · rcases Nat.lt_or_ge j 138 with h | h
        · have e := congrArg (fun l : List UInt8 => l.getD (j - 42) 0) h3
          simp only [sub_getD _ _ _ _ (show j - 42 < 96 by omega), zero_getD] at e
          rw [show 42 + (j - 42) = j by omega] at e
          exact e
        · have e := congrArg (fun l : List UInt8 => l.getD (j - 138) 0) h4
          simp only [sub_getD _ _ _ _ (show j - 138 < 4 by omega), zero_getD] at e
          rw [show 138 + (j - 138) = j by omega] at e
          exact e
    · intro hv
      refine ⟨fun k hk4 => ⟨?_, ?_⟩, fun l hl6 => ?_, ?_, ?_⟩
      · rw [seg_getD _ _ _ hk4 (by omega), Nat.add_zero]
        rcases Nat.lt_or_ge k p.threads.l.length with h | h
        · right
          have := hv.pc k h
          have e : pcOf S k = S.getD (k * 9) 0 := rfl
          rw [e] at this
          omega
        · left; omega
      · rcases Nat.lt_or_ge k p.threads.l.length with h | h
        · left; omega
        · right
          refine ext_getD (n := 9) (by simp; omega) (by simp; omega) fun j hj => ?_
          rw [seg_getD _ _ _ hk4 hj, hv.idle k h hk4 j hj, sub_getD _ _ _ _ hj, zero_getD]
      · rcases Nat.lt_or_ge l p.locs.l.length with h | h
        · left; omega
        · right
          rw [sub_getD _ _ _ _ hl6]
          exact hv.mem l h hl6
      · refine ext_getD (n := 96) (by simp; omega) (by simp) fun j hj => ?_
        rw [sub_getD _ _ _ _ hj, sub_getD _ _ _ _ hj, zero_getD]
        exact hv.rest _ (by omega) (by omega)
      · refine ext_getD (n := 4) (by simp; omega) (by simp) fun j hj => ?_
        rw [sub_getD _ _ _ _ hj, sub_getD _ _ _ _ hj, zero_getD]
        exact hv.rest _ (by omega) (by omega)
  · have hr' : (rightF p != 0) = true := by simpa using hr
    rw [hr', cond_true]
    exact ⟨fun h => (by cases h), fun h => absurd h.right hr⟩
def newTh (i : Ins) (th : List UInt8) (had : UInt8) : List UInt8 :=
  if (localF i th).2 then (localF i th).1 else (if i.op != 2 then putAt th 0 i.dst had else th).set 0 (th.getD 0 0 + 1)
def newMem (i : Ins) (th : List UInt8) (had : UInt8) : UInt8 := if (localF i th).2 then had else turnF i ((th.drop 1).take 8) had
theorem regs_eq (S : List UInt8) (k : Nat) : ((thOf S k).drop 1).take 8 = (S.drop (k * 9 + 1)).take 8 := by
  simp [thOf, List.drop_take, List.take_take, List.drop_drop]
theorem goes_getD {p : Prog} {S : List UInt8} {k j : Nat} (hS : S.length = 142) (hk : k < 4) (hloc : (insAt p k (pcOf S k).toNat).loc.toNat < 6) :
    (goesF p S k).getD j 0 = if k * 9 ≤ j ∧ j < k * 9 + 9 then (newTh (insAt p k (pcOf S k).toNat) (thOf S k) (S.getD (36 + (insAt p k (pcOf S k).toNat).loc.toNat) 0)).getD (j - k * 9) 0
      else if j = 36 + (insAt p k (pcOf S k).toNat).loc.toNat then newMem (insAt p k (pcOf S k).toNat) (thOf S k) (S.getD (36 + (insAt p k (pcOf S k).toNat).loc.toNat) 0) else S.getD j 0 := by
  unfold goesF newTh newMem
  simp only
  generalize insAt p k (pcOf S k).toNat = i at *
  have h9 := thOf_length hS hk
  cases hl : (localF i (thOf S k)).2
  · simp only [Bool.false_eq_true, if_false]
    rw [regs_eq]
    have hlen : ∀ v, (S.set (36 + i.loc.toNat) v).length = 142 := fun v => by simp [hS]
    have hp1 : ∀ v w, (if i.op != 2 then putAt (S.set (36 + i.loc.toNat) v) (k * 9) i.dst w else S.set (36 + i.loc.toNat) v).length = 142 := fun v w => by
      split <;> simp [putAt_length, hS]
    have hp2 : ∀ w, (if i.op != 2 then putAt (thOf S k) 0 i.dst w else thOf S k).length = 9 := fun w => by
      split <;> simp [putAt_length, h9]
    rw [set_getD _ _ _ _ (by rw [hp1]; omega)]
    by_cases hj : k * 9 ≤ j ∧ j < k * 9 + 9
    · rw [if_pos hj, set_getD _ _ _ _ (by rw [hp2]; omega)]
      have hst : ∀ q, q < 9 → (S.set (36 + i.loc.toNat) (turnF i ((S.drop (k * 9 + 1)).take 8) (S.getD (36 + i.loc.toNat) 0))).getD (k * 9 + q) 0 = (thOf S k).getD q 0 := fun q hq => by
        rw [set_getD _ _ _ _ (by omega), if_neg (by omega), thOf_getD _ _ _ hq]
      by_cases h0 : j = k * 9
      · rw [if_pos h0, if_pos (show j - k * 9 = 0 by omega)]
        congr 1
        split
        · rw [putAt_getD _ _ _ _ _ (by rw [hlen]; omega), if_neg (by omega)]
          exact hst 0 (by omega)
        · exact hst 0 (by omega)
      · rw [if_neg h0, if_neg (show ¬ j - k * 9 = 0 by omega)]
        have e1 := hst (j - k * 9) (by omega)
        rw [show k * 9 + (j - k * 9) = j by omega] at e1
        split
        · rw [putAt_getD _ _ _ _ _ (by rw [hlen]; omega), putAt_getD _ _ _ _ _ (by rw [h9]; omega)]
          by_cases hd : i.dst < 8 ∧ j = k * 9 + 1 + i.dst.toNat
          · rw [if_pos hd, if_pos ⟨hd.1, by omega⟩]
          · rw [if_neg hd, if_neg (fun h => hd ⟨h.1, by omega⟩)]
            exact e1
        · exact e1
    · rw [if_neg hj, if_neg (show ¬ j = k * 9 by omega)]
      have e1 : (if i.op != 2 then putAt (S.set (36 + i.loc.toNat) (turnF i ((S.drop (k * 9 + 1)).take 8) (S.getD (36 + i.loc.toNat) 0))) (k * 9) i.dst (S.getD (36 + i.loc.toNat) 0) else S.set (36 + i.loc.toNat) (turnF i ((S.drop (k * 9 + 1)).take 8) (S.getD (36 + i.loc.toNat) 0))).getD j 0 = (S.set (36 + i.loc.toNat) (turnF i ((S.drop (k * 9 + 1)).take 8) (S.getD (36 + i.loc.toNat) 0))).getD j 0 := by
        split
        · rw [putAt_getD _ _ _ _ _ (by rw [hlen]; omega), if_neg]
          intro h
          have := UInt8.lt_iff_toNat_lt.1 h.1
          simp at this
          omega
        · rfl
      rw [e1, set_getD _ _ _ _ (by omega)]
  · simp only [if_true]
    rw [splice_getD _ _ _ _ (by rw [localF_length, h9]; omega), localF_length, h9]
    split
    · rfl
    · split
      · rename_i h; rw [h]
      · rfl
theorem RightOk.loc {p : Prog} (h : RightOk p) {k n : Nat} (hk : k < p.threads.l.length) (hn : n < (p.threads.l.getD k default).l.length) : (insAt p k n).loc.toNat < p.locs.l.length := by
  have h1 := (h.ins hk hn).2
  unfold insOk at h1
  simp only [Bool.and_eq_true] at h1
  have h2 := h1.2
  unfold insR at h2
  simp only [Bool.not_eq_true', List.any_cons, List.any_nil, Bool.or_false, Bool.or_eq_false_iff, Bool.not_eq_false'] at h2
  obtain ⟨a1, a2, a3, a4, a5, a6⟩ := h2
  have a1 := of_decide_eq_true a1
  cases hb : (band (needsF (insAt p k n).op) 2 == 0) with
  | true =>
    have : (insAt p k n).loc = 0 := by
      rw [a1]
      simp [namedF, namedS, bne, hb]
    rw [this]
    have := h.locs.1
    simpa using this
  | false =>
    simp only [hb, Bool.false_or, decide_eq_true_eq] at a3
    omega
section
variable {p : Prog} {S : List UInt8} {k : Nat}
theorem Valid.may (hv : Valid p S) (hm : mayN p S k = true) : k < 4 ∧ (insAt p k (pcOf S k).toNat).loc.toNat < 6 ∧ (insAt p k (pcOf S k).toNat).loc.toNat < p.locs.l.length ∧ InsOk (insAt p k (pcOf S k).toNat) := by
  obtain ⟨hk, hpc⟩ := mayN_iff.1 hm
  have h1 := hv.ok.loc hk hpc
  have h2 := hv.ok.locs
  have h3 := hv.ok.threads
  exact ⟨by omega, by omega, h1, (hv.ok.at hk hpc).2.ok⟩
theorem goes_pc_other (hv : Valid p S) (hm : mayN p S k = true) {j : Nat} (hj : j < 4) (hne : j ≠ k) : thOf (goesF p S k) j = thOf S j := by
  obtain ⟨hk4, h6, _, _⟩ := hv.may hm
  have hl := goes_length (p := p) hv.len hk4
  refine ext_getD (thOf_length hl hj) (thOf_length hv.len hj) fun q hq => ?_
  rw [thOf_getD _ _ _ hq, thOf_getD _ _ _ hq, goes_getD hv.len hk4 h6, if_neg (by omega), if_neg (by omega)]
theorem pcOf_th (S : List UInt8) (k : Nat) : pcOf S k = (thOf S k).getD 0 0 := by
  rw [thOf_getD _ _ _ (by omega)]; rfl
theorem goes_valid (hv : Valid p S) (hm : mayN p S k = true) : Valid p (goesF p S k) := by
  obtain ⟨hk4, h6, hL, _⟩ := hv.may hm
  have hkT := (mayN_iff.1 hm).1
  have hl := goes_length (p := p) hv.len hk4
  refine ⟨hl, hv.right, fun j hj => ?_, fun j hT h4 q hq => ?_, fun l hl' hl6 => ?_, fun j h42 hj => ?_⟩
  · by_cases h : j = k
    · subst h; exact (goes_pc hv.ok hv.len hm).2
    · have hj4 : j < 4 := by have := hv.ok.threads; omega
      rw [pcOf_th, goes_pc_other hv hm hj4 h, ← pcOf_th]
      exact hv.pc j hj
  · rw [goes_getD hv.len hk4 h6, if_neg (by omega), if_neg (by omega)]
    exact hv.idle j hT h4 q hq
  · rw [goes_getD hv.len hk4 h6, if_neg (by omega), if_neg (by omega)]
    exact hv.mem l hl' hl6
  · rw [goes_getD hv.len hk4 h6, if_neg (by omega), if_neg (by omega)]
    exact hv.rest j h42 hj
def stillP (i : Ins) : Prop := i.op = 3 ∨ i.op = 8 ∨ i.op = 7
theorem still_local {i : Ins} (h : stillP i) (th : List UInt8) : (localF i th).2 = true := by
  unfold localF
  rcases h with h | h | h <;> simp [h]
theorem still_mem {i : Ins} (h : stillP i) (th : List UInt8) (had : UInt8) : newMem i th had = had := by
  unfold newMem; rw [still_local h]; rfl
end
theorem move_eq {p : Prog} {s : List UInt8} {t : Int} (h1 : aRightF p s = true) (h2 : mayF p s t = true) : moveF p s t = (goesF p s t.toNat, 0) := by
  unfold moveF; rw [h1, h2]; rfl
theorem start_valid {p : Prog} (h : rightF p = 0) : (startF p).2 = 0 ∧ Valid p (startF p).1 := by
  have hok := right_ok h
  have e : startF p = (((List.replicate 142 (0 : UInt8)).take 36 ++ (p.init.l.take 6) ++ (List.replicate 142 (0 : UInt8)).drop (36 + (p.init.l.take 6).length)), (0 : Int)) := by
    unfold startF
    rw [show (rightF p != 0) = false by simp [h]]
    rfl
  have hlen : (startF p).1.length = 142 := startF_len0 p
  have hb : 36 + (p.init.l.take 6).length ≤ (List.replicate 142 (0 : UInt8)).length := by
    rw [List.length_replicate, List.length_take]; omega
  have hg : ∀ j, (startF p).1.getD j 0 = if 36 ≤ j ∧ j < 36 + (p.init.l.take 6).length then (p.init.l.take 6).getD (j - 36) 0 else 0 := fun j => by
    rw [e]
    show ((List.replicate 142 (0 : UInt8)).take 36 ++ (p.init.l.take 6) ++ (List.replicate 142 (0 : UInt8)).drop (36 + (p.init.l.take 6).length)).getD j 0 = _
    rw [splice_getD _ _ _ _ hb, zero_getD]
  have hi := hok.init
  have hL := hok.locs
  have hlt : (p.init.l.take 6).length = p.locs.l.length := by rw [List.length_take]; omega
  refine ⟨by rw [e], hlen, h, fun k hk => ?_, fun k hT h4 j hj => ?_, fun l hl hl6 => ?_, fun j h42 hj => ?_⟩
  · have : k < 4 := by have := hok.threads; omega
    have e0 : pcOf (startF p).1 k = 0 := by
      show (startF p).1.getD (k * 9) 0 = 0
      rw [hg, if_neg (by omega)]
    rw [e0]
    exact Nat.zero_le _
  · rw [hg, if_neg (by omega)]
  · rw [hg, if_neg (by omega)]
  · rw [hg, if_neg (by omega)]
theorem start_no {p : Prog} (h : rightF p ≠ 0) : startF p = (List.replicate 142 0, 2) := by
  unfold startF
  rw [show (rightF p != 0) = true by simpa using h]
  rfl

end Go.Proofs.YtimonjemjhecoaaGreatDoor

namespace Go.Proofs.YtimonjemjhecoaaGreatDoor
open Go.RowKit
open Go
attribute [local irreducible] wpList wpQuiet wpX Code.wp
set_option maxHeartbeats 1000000
set_option maxRecDepth 100000
set_option linter.unusedSimpArgs false
set_option linter.unusedVariables false


theorem keepAt_getD {S : List UInt8} {t : Nat} {x : List UInt8} {m at' j : Nat} (hS : S.length = 142) (hx : x.length = 2) (ht : t < 4) (hm : m < 12) (ha : at' ≤ m) :
    (keepAt S t x m at').getD j 0 = if j = 138 + t then S.getD (138 + t) 0 + 1
      else if 42 + t * 24 + at' * 2 ≤ j ∧ j < 42 + t * 24 + at' * 2 + 2 then x.getD (j - (42 + t * 24 + at' * 2)) 0
      else if 42 + t * 24 + at' * 2 + 2 ≤ j ∧ j < 42 + t * 24 + m * 2 + 2 then S.getD (j - 2) 0 else S.getD j 0 := by
  unfold keepAt
  simp only
  have h1 : ((S.drop (42 + t * 24 + at' * 2)).take ((m - at') * 2)).length = (m - at') * 2 := by simp only [List.length_take, List.length_drop]; omega
  have e1 : S.drop ((42 + t * 24 + (at' + 1) * 2) + (m - at') * 2) = S.drop ((42 + t * 24 + (at' + 1) * 2) + ((S.drop (42 + t * 24 + at' * 2)).take ((m - at') * 2)).length) := by rw [h1]
  rw [e1]
  have hS1 : (S.take (42 + t * 24 + (at' + 1) * 2) ++ (S.drop (42 + t * 24 + at' * 2)).take ((m - at') * 2) ++ S.drop ((42 + t * 24 + (at' + 1) * 2) + ((S.drop (42 + t * 24 + at' * 2)).take ((m - at') * 2)).length)).length = 142 := by
    rw [splice_length _ _ _ (by omega), hS]
  have hS2 : ((S.take (42 + t * 24 + (at' + 1) * 2) ++ (S.drop (42 + t * 24 + at' * 2)).take ((m - at') * 2) ++ S.drop ((42 + t * 24 + (at' + 1) * 2) + ((S.drop (42 + t * 24 + at' * 2)).take ((m - at') * 2)).length)).take (42 + t * 24 + at' * 2) ++ x ++ (S.take (42 + t * 24 + (at' + 1) * 2) ++ (S.drop (42 + t * 24 + at' * 2)).take ((m - at') * 2) ++ S.drop ((42 + t * 24 + (at' + 1) * 2) + ((S.drop (42 + t * 24 + at' * 2)).take ((m - at') * 2)).length)).drop (42 + t * 24 + at' * 2 + x.length)).length = 142 := by
    rw [splice_length _ _ _ (by omega), hS1]
  rw [set_getD _ _ _ _ (by omega)]
  have g1 : ∀ k, (S.take (42 + t * 24 + (at' + 1) * 2) ++ (S.drop (42 + t * 24 + at' * 2)).take ((m - at') * 2) ++ S.drop ((42 + t * 24 + (at' + 1) * 2) + ((S.drop (42 + t * 24 + at' * 2)).take ((m - at') * 2)).length)).getD k 0 = if 42 + t * 24 + (at' + 1) * 2 ≤ k ∧ k < 42 + t * 24 + (at' + 1) * 2 + (m - at') * 2 then S.getD (k - 2) 0 else S.getD k 0 := fun k => by
    rw [splice_getD _ _ _ _ (by omega), h1]
    split
    · rw [sub_getD _ _ _ _ (by omega)]
      congr 1
      omega
    · rfl
  have g2 : ∀ k, ((S.take (42 + t * 24 + (at' + 1) * 2) ++ (S.drop (42 + t * 24 + at' * 2)).take ((m - at') * 2) ++ S.drop ((42 + t * 24 + (at' + 1) * 2) + ((S.drop (42 + t * 24 + at' * 2)).take ((m - at') * 2)).length)).take (42 + t * 24 + at' * 2) ++ x ++ (S.take (42 + t * 24 + (at' + 1) * 2) ++ (S.drop (42 + t * 24 + at' * 2)).take ((m - at') * 2) ++ S.drop ((42 + t * 24 + (at' + 1) * 2) + ((S.drop (42 + t * 24 + at' * 2)).take ((m - at') * 2)).length)).drop (42 + t * 24 + at' * 2 + x.length)).getD k 0 = if 42 + t * 24 + at' * 2 ≤ k ∧ k < 42 + t * 24 + at' * 2 + 2 then x.getD (k - (42 + t * 24 + at' * 2)) 0 else if 42 + t * 24 + (at' + 1) * 2 ≤ k ∧ k < 42 + t * 24 + (at' + 1) * 2 + (m - at') * 2 then S.getD (k - 2) 0 else S.getD k 0 := fun k => by
    rw [splice_getD _ _ _ _ (by omega), hx]
    split
    · rfl
    · exact g1 k
  split
  · rw [g2, if_neg (by omega), if_neg (by omega)]
  · rw [g2]
    split
    · rfl
    · split
      · rw [if_pos (by omega)]
      · rw [if_neg (by omega)]
theorem drainAt_getD {S : List UInt8} {t m at' j : Nat} (hS : S.length = 142) (ht : t < 4) (hm : m ≤ 12) (ha : at' < m) (hl : (stL S t at').toNat < 6) :
    (drainAt S t m at').getD j 0 = if j = 138 + t then S.getD (138 + t) 0 - 1
      else if 42 + t * 24 + (m - 1) * 2 ≤ j ∧ j < 42 + t * 24 + (m - 1) * 2 + 2 then 0
      else if 42 + t * 24 + at' * 2 ≤ j ∧ j < 42 + t * 24 + (m - 1) * 2 then S.getD (j + 2) 0
      else if j = 36 + (stL S t at').toNat then stV S t at' else S.getD j 0 := by
  unfold drainAt
  simp only
  have hS0 : (S.set (36 + (stL S t at').toNat) (stV S t at')).length = 142 := by rw [List.length_set, hS]
  have g0 : ∀ k, (S.set (36 + (stL S t at').toNat) (stV S t at')).getD k 0 = if k = 36 + (stL S t at').toNat then stV S t at' else S.getD k 0 := fun k => by
    rw [set_getD _ _ _ _ (by omega)]
  rw [show ((m : Int) - 1).toNat = m - 1 by omega]
  generalize hT : S.set (36 + (stL S t at').toNat) (stV S t at') = T at *
  have h1 : ((T.drop (42 + t * 24 + (at' + 1) * 2)).take ((m - (at' + 1)) * 2)).length = (m - (at' + 1)) * 2 := by simp only [List.length_take, List.length_drop]; omega
  have e1 : T.drop ((42 + t * 24 + at' * 2) + (m - (at' + 1)) * 2) = T.drop ((42 + t * 24 + at' * 2) + ((T.drop (42 + t * 24 + (at' + 1) * 2)).take ((m - (at' + 1)) * 2)).length) := by rw [h1]
  rw [e1]
  have hS1 : (T.take (42 + t * 24 + at' * 2) ++ (T.drop (42 + t * 24 + (at' + 1) * 2)).take ((m - (at' + 1)) * 2) ++ T.drop ((42 + t * 24 + at' * 2) + ((T.drop (42 + t * 24 + (at' + 1) * 2)).take ((m - (at' + 1)) * 2)).length)).length = 142 := by
    rw [splice_length _ _ _ (by omega), hS0]
  have g1 : ∀ k, (T.take (42 + t * 24 + at' * 2) ++ (T.drop (42 + t * 24 + (at' + 1) * 2)).take ((m - (at' + 1)) * 2) ++ T.drop ((42 + t * 24 + at' * 2) + ((T.drop (42 + t * 24 + (at' + 1) * 2)).take ((m - (at' + 1)) * 2)).length)).getD k 0 = if 42 + t * 24 + at' * 2 ≤ k ∧ k < 42 + t * 24 + at' * 2 + (m - (at' + 1)) * 2 then T.getD (k + 2) 0 else T.getD k 0 := fun k => by
    rw [splice_getD _ _ _ _ (by omega), h1]
    split
    · rw [sub_getD _ _ _ _ (by omega)]
      congr 1
      omega
    · rfl
  generalize (T.take (42 + t * 24 + at' * 2) ++ (T.drop (42 + t * 24 + (at' + 1) * 2)).take ((m - (at' + 1)) * 2) ++ T.drop ((42 + t * 24 + at' * 2) + ((T.drop (42 + t * 24 + (at' + 1) * 2)).take ((m - (at' + 1)) * 2)).length)) = U at *
  have h2 : (List.replicate 2 (0 : UInt8)).length = 2 := rfl
  have g2 : ∀ k, (U.take (42 + t * 24 + (m - 1) * 2) ++ List.replicate 2 0 ++ U.drop (42 + t * 24 + (m - 1) * 2 + (List.replicate 2 (0 : UInt8)).length)).getD k 0 = if 42 + t * 24 + (m - 1) * 2 ≤ k ∧ k < 42 + t * 24 + (m - 1) * 2 + 2 then 0 else U.getD k 0 := fun k => by
    rw [splice_getD _ _ _ _ (by rw [h2]; omega), h2]
    split
    · exact zero_getD 2 _
    · rfl
  have hS2 : (U.take (42 + t * 24 + (m - 1) * 2) ++ List.replicate 2 0 ++ U.drop (42 + t * 24 + (m - 1) * 2 + (List.replicate 2 (0 : UInt8)).length)).length = 142 := by
    rw [splice_length _ _ _ (by rw [h2]; omega), hS1]
  rw [set_getD _ _ _ _ (by omega)]
  split
  · rw [g2, if_neg (by omega), g1, if_neg (by omega), g0, if_neg (by omega)]
  · rw [g2]
    split
    · rfl
    · rw [g1]
      split
      · rw [if_pos (by omega), g0, if_neg (by omega)]
      · rw [if_neg (by omega), g0]

end Go.Proofs.YtimonjemjhecoaaGreatDoor
