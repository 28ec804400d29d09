/- Walks, printed by a program of this repository (wip/tool). -/
import Derived.Test.YtimonjemjhecoaaGreatDoorAt4
namespace Go.Proofs.YtimonjemjhecoaaGreatDoor
open Go.RowKit
open Go
attribute [local irreducible] wpList wpQuiet wpX Code.wp
set_option maxHeartbeats 1000000
set_option maxRecDepth 100000
set_option linter.unusedSimpArgs false
set_option linter.unusedVariables false


theorem splice_getD (l x : List UInt8) (o j : Nat) (h : o + x.length ≤ l.length) : (l.take o ++ x ++ l.drop (o + x.length)).getD j 0 = if o ≤ j ∧ j < o + x.length then x.getD (j - o) 0 else l.getD j 0 := by
  have ho : (l.take o).length = o := by simp; omega
  simp only [List.getD_eq_getElem?_getD]
  rcases Nat.lt_or_ge j o with h1 | h1
  · rw [List.getElem?_append_left (by simp; omega), List.getElem?_append_left (by omega), List.getElem?_take, if_pos h1, if_neg (by omega)]
  · rcases Nat.lt_or_ge j (o + x.length) with h2 | h2
    · rw [List.getElem?_append_left (by simp; omega), List.getElem?_append_right (by omega), ho, if_pos ⟨h1, h2⟩]
    · rw [List.getElem?_append_right (by simp; omega), List.getElem?_drop, if_neg (by omega)]
      congr 2
      simp
      omega
theorem splice_length (l x : List UInt8) (o : Nat) (h : o + x.length ≤ l.length) : (l.take o ++ x ++ l.drop (o + x.length)).length = l.length := by simp; omega
theorem set_getD (l : List UInt8) (i j : Nat) (v : UInt8) (h : i < l.length) : (l.set i v).getD j 0 = if j = i then v else l.getD j 0 := by
  simp only [List.getD_eq_getElem?_getD, List.getElem?_set]
  split
  · subst_vars; simp [h]
  · rw [if_neg (by omega)]
theorem putAt_getD (l : List UInt8) (o j : Nat) (d v : UInt8) (h : o + 9 ≤ l.length) : (putAt l o d v).getD j 0 = if d < 8 ∧ j = o + 1 + d.toNat then v else l.getD j 0 := by
  unfold putAt
  by_cases hd : d < 8
  · have := UInt8.lt_iff_toNat_lt.1 hd
    simp at this
    simp only [hd, if_true, true_and]
    rw [set_getD _ _ _ _ (by omega)]
  · simp [hd]
theorem thOf_getD (S : List UInt8) (k j : Nat) (hj : j < 9) : (thOf S k).getD j 0 = S.getD (k * 9 + j) 0 := by
  simp [thOf, List.getD, List.getElem?_take, List.getElem?_drop, hj]
theorem local_pc (i : Ins) (t : List UInt8) (ht : t.length = 9) (h : (localF i t).2 = true) : (localF i t).1.getD 0 0 = t.getD 0 0 + 1 + (if i.op = 8 ∧ fits i.fn (worth i.a ((t.drop 1).take 8)) (worth i.b ((t.drop 1).take 8)) = true then i.skip else 0) := by
  unfold localF at *
  simp only at *
  by_cases h3 : i.op = 3
  · simp only [h3, beq_self_eq_true, if_true]
    rw [set_getD _ _ _ _ (by rw [putAt_length]; omega), if_pos rfl, putAt_getD _ _ _ _ _ (by omega), if_neg (by omega), if_neg (by simp)]
    simp
  · have h3' : (i.op == 3) = false := by simpa using h3
    simp only [h3', Bool.false_eq_true, if_false] at *
    by_cases h8 : i.op = 8
    · simp only [h8, beq_self_eq_true, if_true, true_and]
      by_cases hf : fits i.fn (worth i.a ((t.drop 1).take 8)) (worth i.b ((t.drop 1).take 8)) = true
      · simp only [hf, if_true]
        rw [set_getD _ _ _ _ (by simp; omega), if_pos rfl, set_getD _ _ _ _ (by omega), if_pos rfl, UInt8.add_assoc, UInt8.add_assoc, UInt8.add_comm i.skip 1]
      · simp only [hf, Bool.false_eq_true, if_false]
        rw [set_getD _ _ _ _ (by omega), if_pos rfl]; simp
    · have h8' : (i.op == 8) = false := by simpa using h8
      simp only [h8', Bool.false_eq_true, if_false] at *
      by_cases h7 : i.op = 7
      · simp only [h7, beq_self_eq_true, if_true]
        rw [set_getD _ _ _ _ (by omega), if_pos rfl, if_neg (by simp)]; simp
      · have h7' : (i.op == 7) = false := by simpa using h7
        simp [h7'] at h
structure RightOk (p : Prog) : Prop where
  locs : 0 < p.locs.l.length ∧ p.locs.l.length ≤ 6
  init : p.init.l.length = p.locs.l.length
  threads : 0 < p.threads.l.length ∧ p.threads.l.length ≤ 4
  thread : ∀ t ∈ p.threads.l, threadF t.l p.locs.l.length = true
theorem loopL_false {α σ : Type} {B : α → (σ → Bool) → σ → Bool} {K : σ → Bool} (h : ∀ x r s, B x r s = true → ∃ s', r s' = true) : ∀ (l : List α) (s : σ), loopL B K l s = true → ∃ s', K s' = true
  | [], s, hl => ⟨s, hl⟩
  | x :: l, s, hl => by
    obtain ⟨s', hs⟩ := h x _ s hl
    exact loopL_false h l s' hs
theorem right_ok {p : Prog} (h : rightF p = 0) : RightOk p := by
  unfold rightF at h
  cases h1 : wordF p.name <;> simp only [h1, Bool.not_true, Bool.not_false, cond_true, cond_false] at h
  · exact absurd h (by decide)
  cases h2 : namesF p <;> simp only [h2, Bool.not_true, Bool.not_false, cond_true, cond_false] at h
  · exact absurd h (by decide)
  have h3 : ((((p.threads.l.length : Int) == (0 : Int)) || (decide ((4 : Int) < (p.threads.l.length : Int)))) || (p.threads.l.any (fun k => decide (((12 : Nat) : Int) < (k.l.length : Int))))) = false := by
    cases h3 : ((((p.threads.l.length : Int) == (0 : Int)) || (decide ((4 : Int) < (p.threads.l.length : Int)))) || (p.threads.l.any (fun k => decide (((12 : Nat) : Int) < (k.l.length : Int))))) with
    | false => rfl
    | true => simp only [h3, cond_true] at h; exact absurd h (by decide)
  simp only [h3, cond_false] at h
  have h4 : (p.threads.l.any (fun k => !threadF k.l p.locs.l.length)) = false := by
    cases h4 : (p.threads.l.any (fun k => !threadF k.l p.locs.l.length)) with
    | false => rfl
    | true => simp only [h4, cond_true] at h; exact absurd h (by decide)
  have hn : ∃ s', namesF_ak p s' = true := loopL_false (fun x r s hb => by
    unfold namesF_a at hb
    cases hc : ((!(nameF x)) || ((p.locs.l.take s).any fun y => decide (x = y))) <;> simp only [hc, cond_true, cond_false] at hb
    · exact ⟨_, hb⟩
    · cases hb) _ _ h2
  obtain ⟨s', hn⟩ := hn
  simp only [namesF_ak, Bool.and_eq_true, decide_eq_true_eq, beq_iff_eq] at hn
  simp only [Bool.or_eq_false_iff, beq_eq_false_iff_ne, decide_eq_false_iff_not] at h3
  refine ⟨by omega, by omega, by omega, fun t ht => ?_⟩
  have := List.any_eq_false.1 h4 t ht
  simpa using this
theorem RightOk.ins {p : Prog} (h : RightOk p) {k n : Nat} (hk : k < p.threads.l.length) (hn : n < (p.threads.l.getD k default).l.length) :
    (p.threads.l.getD k default).l.length ≤ 12 ∧ insOk ⟨insAt p k n, ((p.threads.l.getD k default).l.length : Int) - 1 - (n : Int)⟩ p.locs.l.length = true := by
  have h1 := h.thread (p.threads.l.getD k default) (by rw [List.getD_eq_getElem?_getD, List.getElem?_eq_getElem hk]; exact List.getElem_mem hk)
  unfold threadF at h1
  simp only [Bool.and_eq_true, decide_eq_true_eq, List.all_eq_true, List.mem_range] at h1
  exact ⟨h1.1, h1.2 n hn⟩
structure InsR (i : Ins) (behind : Int) : Prop where
  op : i.op = 1 ∨ i.op = 2 ∨ i.op = 3 ∨ i.op = 4 ∨ i.op = 5 ∨ i.op = 6 ∨ i.op = 7 ∨ i.op = 8
  loc : i.loc.toNat < 6
  dst : i.dst < 8
  a : argF i.a = true
  b : argF i.b = true
  fn : (fnsF i.op).any (fun y => i.fn == y) = true
  mode : (modesF i.op).any (fun y => i.mode == y) = true
  named : i = namedF ⟨i, behind⟩ (needsF i.op)
  skip : i.op = 8 → 0 < i.skip ∧ (i.skip.toNat : Int) ≤ behind
theorem ops_of {op : UInt8} (h : needsIs op = true) : op = 1 ∨ op = 2 ∨ op = 3 ∨ op = 4 ∨ op = 5 ∨ op = 6 ∨ op = 7 ∨ op = 8 := by
  simp only [needsIs, Bool.and_eq_true, Bool.not_eq_true', beq_eq_false_iff_ne, decide_eq_true_eq] at h
  have h0 : op.toNat ≠ 0 := fun e => h.1 (UInt8.toNat_inj.1 e)
  have key : ∀ k : UInt8, op.toNat = k.toNat → op = k := fun k e => UInt8.toNat_inj.1 e
  rcases (by omega : op.toNat = 1 ∨ op.toNat = 2 ∨ op.toNat = 3 ∨ op.toNat = 4 ∨ op.toNat = 5 ∨ op.toNat = 6 ∨ op.toNat = 7 ∨ op.toNat = 8) with h | h | h | h | h | h | h | h
  · exact .inl (key 1 h)
  · exact .inr (.inl (key 2 h))
  · exact .inr (.inr (.inl (key 3 h)))
  · exact .inr (.inr (.inr (.inl (key 4 h))))
  · exact .inr (.inr (.inr (.inr (.inl (key 5 h)))))
  · exact .inr (.inr (.inr (.inr (.inr (.inl (key 6 h))))))
  · exact .inr (.inr (.inr (.inr (.inr (.inr (.inl (key 7 h)))))))
  · exact .inr (.inr (.inr (.inr (.inr (.inr (.inr (key 8 h)))))))
theorem insOk_R {i : Ins} {behind : Int} {n : Nat} (hn : n ≤ 6) (h : insOk ⟨i, behind⟩ n = true) : InsR i behind := by
  unfold insOk at h
  simp only [Bool.and_eq_true] at h
  obtain ⟨h1, h2⟩ := h
  have hop := ops_of h1
  unfold insR at h2
  simp only [Bool.not_eq_true', List.any_cons, List.any_nil, Bool.or_false, Bool.or_eq_false_iff, Bool.not_eq_false'] at h2
  obtain ⟨a1, a2, a3, a4, a5, a6⟩ := h2
  simp only [Bool.and_eq_true] at a4 a5
  have a1 := of_decide_eq_true a1
  refine ⟨hop, ?_, of_decide_eq_true a2, a4.1, a4.2, a5.2, a5.1, a1, fun h8 => ?_⟩
  · cases hb : (band (needsF i.op) 2 == 0) with
    | true =>
      have : i.loc = 0 := by
        rw [a1]
        simp [namedF, namedS, bne, hb]
      rw [this]; decide
    | false =>
      simp only [hb, Bool.false_or, decide_eq_true_eq] at a3
      omega
  · have hb : (band (needsF i.op) 64 == 0) = false := by rw [h8]; decide
    simp only [hb, Bool.false_or, Bool.and_eq_true, decide_eq_true_eq] at a6
    exact a6
theorem InsR.ok {i : Ins} {b : Int} (h : InsR i b) : InsOk i := by
  refine ⟨?_, h.loc⟩
  unfold memOp
  rcases h.op with h | h | h | h | h | h | h | h <;> simp [h]
theorem RightOk.at {p : Prog} (h : RightOk p) {k n : Nat} (hk : k < p.threads.l.length) (hn : n < (p.threads.l.getD k default).l.length) :
    (p.threads.l.getD k default).l.length ≤ 12 ∧ InsR (insAt p k n) (((p.threads.l.getD k default).l.length : Int) - 1 - (n : Int)) :=
  ⟨(h.ins hk hn).1, insOk_R h.locs.2 (h.ins hk hn).2⟩
theorem mayN_iff {p : Prog} {S : List UInt8} {k : Nat} : mayN p S k = true ↔ k < p.threads.l.length ∧ (pcOf S k).toNat < (p.threads.l.getD k default).l.length := by
  simp [mayN]
theorem goes_length {p : Prog} {S : List UInt8} {k : Nat} (hS : S.length = 142) (hk : k < 4) : (goesF p S k).length = 142 := by
  unfold goesF
  simp only
  split
  · rw [splice_length]
    · exact hS
    · rw [localF_length, thOf_length hS hk]; omega
  · split <;> simp [putAt_length, hS]
theorem pcOf_getD (S : List UInt8) (k : Nat) : pcOf S k = S.getD (k * 9) 0 := rfl
theorem goes_other {p : Prog} {S : List UInt8} {k j : Nat} (hS : S.length = 142) (hk : k < 4) (hloc : (insAt p k (pcOf S k).toNat).loc.toNat < 6) (h1 : j < k * 9 ∨ k * 9 + 9 ≤ j) (h2 : j ≠ 36 + (insAt p k (pcOf S k).toNat).loc.toNat) : (goesF p S k).getD j 0 = S.getD j 0 := by
  unfold goesF
  simp only
  split
  · rw [splice_getD]
    · rw [localF_length, thOf_length hS hk, if_neg (by omega)]
    · rw [localF_length, thOf_length hS hk]; omega
  · split
    · rw [set_getD _ _ _ _ (by simp [putAt_length, hS]; omega), if_neg (by omega), putAt_getD _ _ _ _ _ (by simp [hS]; omega)]
      rw [if_neg (by intro h; have := UInt8.lt_iff_toNat_lt.1 h.1; simp at this; omega), set_getD _ _ _ _ (by omega), if_neg h2]
    · rw [set_getD _ _ _ _ (by simp [hS]; omega), if_neg (by omega), set_getD _ _ _ _ (by omega), if_neg h2]
theorem goes_pc {p : Prog} {S : List UInt8} {k : Nat} (hp : RightOk p) (hS : S.length = 142) (hm : mayN p S k = true) :
    (pcOf S k).toNat < (pcOf (goesF p S k) k).toNat ∧ (pcOf (goesF p S k) k).toNat ≤ (p.threads.l.getD k default).l.length := by
  obtain ⟨hk, hpc⟩ := mayN_iff.1 hm
  obtain ⟨hlen, hi⟩ := hp.at hk hpc
  have hk4 : k < 4 := by have := hp.threads; omega
  have hloc := hi.loc
  have hb : (pcOf (goesF p S k) k) = pcOf S k + 1 ∨ (insAt p k (pcOf S k).toNat).op = 8 ∧ (pcOf (goesF p S k) k) = pcOf S k + 1 + (insAt p k (pcOf S k).toNat).skip := by
    rw [pcOf_getD (goesF p S k)]
    unfold goesF
    simp only
    split
    · rename_i hl
      rw [splice_getD _ _ _ _ (by rw [localF_length, thOf_length hS hk4]; omega), localF_length, thOf_length hS hk4, if_pos (by omega), Nat.sub_self, local_pc _ _ (thOf_length hS hk4) hl, thOf_getD _ _ _ (by omega)]
      simp only [Nat.add_zero, ← pcOf_getD]
      split
      · rename_i h8; exact .inr ⟨h8.1, rfl⟩
      · exact .inl (by simp)
    · left
      split
      · rw [set_getD _ _ _ _ (by simp [putAt_length, hS]; omega), if_pos rfl, putAt_getD _ _ _ _ _ (by simp [hS]; omega), if_neg (by omega), set_getD _ _ _ _ (by omega), if_neg (by omega)]; rfl
      · rw [set_getD _ _ _ _ (by simp [hS]; omega), if_pos rfl, set_getD _ _ _ _ (by omega), if_neg (by omega)]; rfl
  rcases hb with hb | ⟨h8, hb⟩
  · rw [hb, UInt8.toNat_add]
    have : (1 : UInt8).toNat = 1 := rfl
    omega
  · have hs := hi.skip h8
    have h0 := UInt8.lt_iff_toNat_lt.1 hs.1
    rw [hb, UInt8.toNat_add, UInt8.toNat_add]
    have : (1 : UInt8).toNat = 1 := rfl
    have : (0 : UInt8).toNat = 0 := rfl
    omega
def leftAt (p : Prog) (S : List UInt8) (k : Nat) : Nat := (p.threads.l.getD k default).l.length - (pcOf S k).toNat
def todo (p : Prog) (S : List UInt8) : Nat := leftAt p S 0 + leftAt p S 1 + leftAt p S 2 + leftAt p S 3
theorem goes_todo {p : Prog} {S : List UInt8} {k : Nat} (hp : RightOk p) (hS : S.length = 142) (hm : mayN p S k = true) : todo p (goesF p S k) < todo p S := by
  obtain ⟨hk, hpc⟩ := mayN_iff.1 hm
  obtain ⟨hlen, hi⟩ := hp.at hk hpc
  have hk4 : k < 4 := by have := hp.threads; omega
  have h1 := goes_pc hp hS hm
  have h2 : leftAt p (goesF p S k) k < leftAt p S k := by unfold leftAt; omega
  have h3 : ∀ j, j < 4 → j ≠ k → leftAt p (goesF p S k) j = leftAt p S j := fun j hj hne => by
    unfold leftAt
    rw [pcOf_getD, goes_other hS hk4 hi.loc (by omega) (by have := hi.loc; omega), ← pcOf_getD]
  unfold todo
  match k, hk4 with
  | 0, _ => rw [h3 1 (by omega) (by omega), h3 2 (by omega) (by omega), h3 3 (by omega) (by omega)]; omega
  | 1, _ => rw [h3 0 (by omega) (by omega), h3 2 (by omega) (by omega), h3 3 (by omega) (by omega)]; omega
  | 2, _ => rw [h3 0 (by omega) (by omega), h3 1 (by omega) (by omega), h3 3 (by omega) (by omega)]; omega
  | 3, _ => rw [h3 0 (by omega) (by omega), h3 1 (by omega) (by omega), h3 2 (by omega) (by omega)]; omega
theorem len_le {p : Prog} (hp : RightOk p) (k : Nat) : (p.threads.l.getD k default).l.length ≤ 12 := by
  rcases Nat.lt_or_ge k p.threads.l.length with hk | hk
  · have h1 := hp.thread (p.threads.l.getD k default) (by rw [List.getD_eq_getElem?_getD, List.getElem?_eq_getElem hk]; exact List.getElem_mem hk)
    unfold threadF at h1
    simp only [Bool.and_eq_true, decide_eq_true_eq] at h1
    exact h1.1
  · rw [List.getD_eq_getElem?_getD, List.getElem?_eq_none hk]; exact Nat.zero_le _
theorem mayF_nat {p : Prog} {S : List UInt8} {t : Int} : mayF p S t = true ↔ 0 ≤ t ∧ mayN p S t.toNat = true := by simp [mayF]
theorem aRight_ok {p : Prog} {S : List UInt8} (h : aRightF p S = true) : RightOk p := by
  unfold aRightF at h
  cases hr : (rightF p != (0 : Int)) with
  | true => simp [hr] at h
  | false => exact right_ok (by simpa using hr)
end Go.Proofs.YtimonjemjhecoaaGreatDoor
