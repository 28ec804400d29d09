/- Walks, printed by a program of this repository (wip/tool). -/
import Derived.Test.YtimonjemjhecoaaGreatDoorBRn
namespace Go.Proofs.YtimonjemjhecoaaGreatDoor
open Go.RowKit
open Go
attribute [local irreducible] wpList wpQuiet wpX Code.wp
set_option maxHeartbeats 1000000
set_option maxRecDepth 100000
set_option linter.unusedSimpArgs false
set_option linter.unusedVariables false


section
variable {p : Prog} {mach : UInt8} {S : List UInt8}
theorem drains_flag (hv : BValid p mach S) {d : Nat} (hd : d < p.threads.l.length) : (passesF p mach S).any (fun x => ((x.thread.toNat : Int) == ((d : Nat) : Int)) && x.drain) = decide ((0 : UInt8) < S.getD (138 + d) 0) := by
  have h4 := hv.ok.threads
  have hU := thU_nat (show d < 256 by omega)
  rw [Bool.eq_iff_iff, List.any_eq_true, decide_eq_true_iff, UInt8.lt_iff_toNat_lt]
  have z : (0 : UInt8).toNat = 0 := rfl
  constructor
  · rintro ⟨x, hx, hc⟩
    rw [Bool.and_eq_true, beq_iff_eq] at hc
    obtain ⟨t, ht, hx⟩ := passes_mem.1 hx
    have hUt := thU_nat (show t < 256 by omega)
    rcases hx with ⟨h1, rfl⟩ | ⟨k, hk, hc', rfl⟩
    · cases hc.2
    · have e : t = d := by have := hc.1; rw [show (drP mach S t k).thread.toNat = t from hUt] at this; omega
      subst e; omega
  · intro h
    have hsc := hv.sc d (by omega) (by omega)
    refine ⟨drP mach S d 0, passes_mem.2 ⟨d, hd, .inr ⟨0, by omega, ?_, rfl⟩⟩, ?_⟩
    · unfold drC
      rcases hv.kind with rfl | rfl | rfl
      · exact absurd rfl hsc
      · rfl
      · rfl
    · rw [Bool.and_eq_true, beq_iff_eq]
      exact ⟨by rw [show (drP mach S d 0).thread.toNat = d from hU], rfl⟩
/-- When a thread may go. -/
theorem bmay_iff {d : Nat} : bMayF p mach S d = true ↔ (S.getD (d * 9) 0).toNat < (p.threads.l.getD d default).l.length ∧
    ((insB p S d).op = 4 ∨ (insB p S d).op = 5 ∨ (insB p S d).op = 6 → S.getD (138 + d) 0 = 0) ∧ ((insB p S d).op = 7 → S.getD (138 + d) 0 = 0 ∨ (insB p S d).mode = 4 ∨ ((insB p S d).mode = 5 ∧ mach ≠ 3)) := by
  unfold bMayF bMayF_a
  change (bif decide ((((p.threads.l.getD d default).l.length : Nat) : Int) ≤ ((S.getD (d * 9) 0).toNat : Int)) then false else bif ((insB p S d).op == 4) then (bif ((insB p S d).op == 4) then (S.getD (138 + d) 0 == 0) else _) else bif ((insB p S d).op == 5) then (bif ((insB p S d).op == 5) then (S.getD (138 + d) 0 == 0) else _) else (bif ((insB p S d).op == 6) then (S.getD (138 + d) 0 == 0) else bif ((insB p S d).op == 7) then ((S.getD (138 + d) 0 == 0 || (insB p S d).mode == 4) || ((insB p S d).mode == 5 && (mach != 3))) else true)) = true ↔ _
  generalize insB p S d = i
  generalize S.getD (138 + d) 0 = z
  generalize (S.getD (d * 9) 0).toNat = a
  generalize (p.threads.l.getD d default).l.length = n
  rcases Nat.lt_or_ge a n with hpc | hpc
  · rw [decide_eq_false (by omega), cond_false]
    by_cases h4 : i.op = 4
    · simp [h4, hpc]
    · by_cases h5 : i.op = 5
      · simp [h5, hpc]
      · by_cases h6 : i.op = 6
        · simp [h6, hpc]
        · by_cases h7 : i.op = 7
          · simp [h7, hpc, or_assoc]
          · simp [h4, h5, h6, h7, hpc]
  · rw [decide_eq_true (by omega), cond_true]
    exact ⟨fun h => (by cases h), fun h => absurd h.1 (by omega)⟩
theorem bmay_empty {d : Nat} (h : (S.getD (d * 9) 0).toNat < (p.threads.l.getD d default).l.length) (h0 : S.getD (138 + d) 0 = 0) : bMayF p mach S d = true :=
  bmay_iff.2 ⟨h, fun _ => h0, fun _ => .inl h0⟩
/-- Where nothing can be done any more all buffers are empty. -/
theorem end_empty (hv : BValid p mach S) (h : passesF p mach S = []) : ∀ t, t < 4 → S.getD (138 + t) 0 = 0 := fun t ht => by
  rcases Nat.lt_or_ge t p.threads.l.length with h1 | h1
  · have h2 := drains_flag hv h1
    rw [h] at h2
    have h3 := of_decide_eq_false h2.symm
    rw [UInt8.lt_iff_toNat_lt] at h3
    have z : (0 : UInt8).toNat = 0 := rfl
    exact UInt8.toNat_inj.1 (by omega)
  · exact (hv.most ht).2 h1
end
end Go.Proofs.YtimonjemjhecoaaGreatDoor

namespace Go.Proofs.YtimonjemjhecoaaGreatDoor
open Go.RowKit
open Go
attribute [local irreducible] wpList wpQuiet wpX Code.wp
set_option maxHeartbeats 1000000
set_option maxRecDepth 100000
set_option linter.unusedSimpArgs false
set_option linter.unusedVariables false


section
variable {p : Prog} {mach : UInt8} {S T : List UInt8}
theorem goes_load {k : Nat} (hv : Valid p S) (hm : mayN p S k = true) (ho : (insB p S k).op = 1) (j : Nat) : (goesF p S k).getD j 0 = if j = k * 9 then S.getD (k * 9) 0 + 1 else if j = k * 9 + 1 + (insB p S k).dst.toNat then S.getD (36 + (insB p S k).loc.toNat) 0 else S.getD j 0 := by
  obtain ⟨hk4, h6, _, _⟩ := hv.may hm
  obtain ⟨hk, hpc⟩ := mayN_iff.1 hm
  have hat := hv.ok.at hk hpc
  have hS := hv.len
  have h9 := thOf_length hS hk4
  rw [goes_getD hS hk4 h6]
  change (insAt p k (pcOf S k).toNat).op = 1 at ho
  have hd : (insAt p k (pcOf S k).toNat).dst.toNat < 8 := UInt8.lt_iff_toNat_lt.1 hat.2.dst
  change (if k * 9 ≤ j ∧ j < k * 9 + 9 then (newTh (insAt p k (pcOf S k).toNat) (thOf S k) (S.getD (36 + (insAt p k (pcOf S k).toNat).loc.toNat) 0)).getD (j - k * 9) 0 else if j = 36 + (insAt p k (pcOf S k).toNat).loc.toNat then newMem (insAt p k (pcOf S k).toNat) (thOf S k) (S.getD (36 + (insAt p k (pcOf S k).toNat).loc.toNat) 0) else S.getD j 0) = if j = k * 9 then S.getD (k * 9) 0 + 1 else if j = k * 9 + 1 + (insAt p k (pcOf S k).toNat).dst.toNat then S.getD (36 + (insAt p k (pcOf S k).toNat).loc.toNat) 0 else S.getD j 0
  generalize insAt p k (pcOf S k).toNat = i at *
  have hl : (localF i (thOf S k)).2 = false := by simp [localF, ho]
  have e1 : newMem i (thOf S k) (S.getD (36 + i.loc.toNat) 0) = S.getD (36 + i.loc.toNat) 0 := by
    unfold newMem turnF
    rw [hl, ho]
    rfl
  have e2 : ∀ q, q < 9 → (newTh i (thOf S k) (S.getD (36 + i.loc.toNat) 0)).getD q 0 = if q = 0 then S.getD (k * 9) 0 + 1 else if q = 1 + i.dst.toNat then S.getD (36 + i.loc.toNat) 0 else S.getD (k * 9 + q) 0 := fun q hq => by
    unfold newTh putAt
    rw [hl, ho, if_neg (by decide), if_pos (by decide), if_pos (UInt8.lt_iff_toNat_lt.2 hd), set_getD _ _ _ _ (by rw [List.length_set]; omega), thOf_getD _ _ _ (by omega), set_getD _ _ _ _ (by omega), thOf_getD _ _ _ hq]
    rw [Nat.zero_add]
    rfl
  by_cases hj : k * 9 ≤ j ∧ j < k * 9 + 9
  · rw [if_pos hj, e2 _ (by omega)]
    by_cases h1 : j = k * 9
    · rw [if_pos (by omega), if_pos h1]
    · rw [if_neg (by omega), if_neg h1]
      by_cases h2 : j = k * 9 + 1 + i.dst.toNat
      · rw [if_pos (by omega), if_pos h2]
      · rw [if_neg (by omega), if_neg h2]
        congr 1; omega
  · rw [if_neg hj, if_neg (show ¬ j = k * 9 by omega), if_neg (show ¬ j = k * 9 + 1 + i.dst.toNat by omega)]
    split
    · rename_i h; rw [e1, h]
    · rfl
theorem goes_store {k : Nat} (hv : Valid p S) (hm : mayN p S k = true) (ho : (insB p S k).op = 2) (j : Nat) : (goesF p S k).getD j 0 = if j = k * 9 then S.getD (k * 9) 0 + 1 else if j = 36 + (insB p S k).loc.toNat then worth (insB p S k).a ((S.drop (k * 9 + 1)).take 8) else S.getD j 0 := by
  obtain ⟨hk4, h6, _, _⟩ := hv.may hm
  have hS := hv.len
  have h9 := thOf_length hS hk4
  rw [goes_getD hS hk4 h6]
  change (insAt p k (pcOf S k).toNat).op = 2 at ho
  change (if k * 9 ≤ j ∧ j < k * 9 + 9 then (newTh (insAt p k (pcOf S k).toNat) (thOf S k) (S.getD (36 + (insAt p k (pcOf S k).toNat).loc.toNat) 0)).getD (j - k * 9) 0 else if j = 36 + (insAt p k (pcOf S k).toNat).loc.toNat then newMem (insAt p k (pcOf S k).toNat) (thOf S k) (S.getD (36 + (insAt p k (pcOf S k).toNat).loc.toNat) 0) else S.getD j 0) = if j = k * 9 then S.getD (k * 9) 0 + 1 else if j = 36 + (insAt p k (pcOf S k).toNat).loc.toNat then worth (insAt p k (pcOf S k).toNat).a ((S.drop (k * 9 + 1)).take 8) else S.getD j 0
  generalize insAt p k (pcOf S k).toNat = i at *
  have hl : (localF i (thOf S k)).2 = false := by simp [localF, ho]
  have e1 : newMem i (thOf S k) (S.getD (36 + i.loc.toNat) 0) = worth i.a ((S.drop (k * 9 + 1)).take 8) := by
    unfold newMem turnF
    rw [hl, ho, regs_eq]
    rfl
  have e2 : ∀ q, q < 9 → (newTh i (thOf S k) (S.getD (36 + i.loc.toNat) 0)).getD q 0 = if q = 0 then S.getD (k * 9) 0 + 1 else S.getD (k * 9 + q) 0 := fun q hq => by
    unfold newTh
    rw [hl, ho, if_neg (by decide), if_neg (by decide), set_getD _ _ _ _ (by omega), thOf_getD _ _ _ (by omega), thOf_getD _ _ _ hq]
    rfl
  by_cases hj : k * 9 ≤ j ∧ j < k * 9 + 9
  · rw [if_pos hj, e2 _ (by omega)]
    by_cases h1 : j = k * 9
    · rw [if_pos (by omega), if_pos h1]
    · rw [if_neg (by omega), if_neg h1, if_neg (by omega)]
      congr 1; omega
  · rw [if_neg hj, if_neg (show ¬ j = k * 9 by omega), e1]
end

end Go.Proofs.YtimonjemjhecoaaGreatDoor

namespace Go.Proofs.YtimonjemjhecoaaGreatDoor
open Go.RowKit
open Go
attribute [local irreducible] wpList wpQuiet wpX Code.wp
set_option maxHeartbeats 1000000
set_option maxRecDepth 100000
set_option linter.unusedSimpArgs false
set_option linter.unusedVariables false

def eSlI (t : Sl Ins) : List Value := [t.val]
theorem eSlI_n (x : Sl Ins) : (eSlI x).length = 1 ∧ 0 < 1 := by simp [eSlI]
/-- The program p with other threads: as it lies, and free of addresses. -/
def progW (p : Prog) (t : Sl (Sl Ins)) : Prog := ⟨p.name, p.locs, p.init, t, p.ask, p.cond⟩
def progT (p : Prog) (l : List (List Ins)) : Prog := ⟨p.name, ⟨none, 0, p.locs.l⟩, ⟨none, 0, p.init.l⟩, ⟨none, 0, l.map fun t => ⟨none, 0, t⟩⟩, p.ask, p.cond⟩
theorem progW_er {t : Sl (Sl Ins)} {l : List (List Ins)} (p : Prog) (h : t.l.map Sl.l = l) : er (progW p t) = progT p l := by
  subst h
  simp only [er, progW, progT, List.map_map]
  rfl
theorem progT_er (p : Prog) (l : List (List Ins)) : er (progT p l) = progT p l := by
  simp only [er, progT, List.map_map]
  rfl
theorem progW_is {p : Prog} {t : Sl (Sl Ins)} {w : World} (h : IsProg p w) (ht : SlIn 1 eSlI t w) (hi : ∀ x ∈ t.l, SlIn 10 Ins.cells x w) : IsProg (progW p t) w := ⟨h.locs, h.init, ht, hi, h.cond, h.name, h.loc, h.deep⟩
theorem storeF_er (p : Prog) (S : List UInt8) (t : Int) : storeF (er p) S t = storeF p S t := by
  unfold storeF
  rw [er_len]
  have h := er_at p t.toNat
  rw [h]


/-! ### programs with other threads -/
theorem right_with {p : Prog} {l : List (List Ins)} (h : rightF p = 0) (hlen : l.length = p.threads.l.length) (hok : ∀ t ∈ l, threadF t p.locs.l.length = true) : rightF (progT p l) = 0 := by
  have hr := right_ok h
  have h4 := hr.threads
  have hn : namesF (progT p l) = namesF p := rfl
  have e1 : (progT p l).threads.l.length = p.threads.l.length := by
    show (l.map _).length = _
    rw [List.length_map, hlen]
  have a1 : ((progT p l).threads.l.any (fun k => decide (((12 : Nat) : Int) < ((k.l.length : Nat) : Int)))) = false := by
    rw [List.any_eq_false]
    intro t ht
    obtain ⟨t', ht', rfl⟩ := List.mem_map.1 ht
    have h1 := hok t' ht'
    simp only [threadF, Bool.and_eq_true, decide_eq_true_eq] at h1
    have h2 := h1.1
    simp only [decide_eq_true_eq]
    omega
  have a2 : ((progT p l).threads.l.any (fun k => !threadF k.l (progT p l).locs.l.length)) = false := by
    rw [List.any_eq_false]
    intro t ht
    obtain ⟨t', ht', rfl⟩ := List.mem_map.1 ht
    have h1 := hok t' ht'
    show ¬ (!threadF t' p.locs.l.length) = true
    rw [h1]
    simp
  have b1 : (p.threads.l.any (fun k => decide (((12 : Nat) : Int) < ((k.l.length : Nat) : Int)))) = false := by
    rw [List.any_eq_false]
    intro t ht
    have h1 := hr.thread t ht
    simp only [threadF, Bool.and_eq_true, decide_eq_true_eq] at h1
    have h2 := h1.1
    simp only [decide_eq_true_eq]
    omega
  have b2 : (p.threads.l.any (fun k => !threadF k.l p.locs.l.length)) = false := by
    rw [List.any_eq_false]
    intro t ht
    rw [hr.thread t ht]
    simp
  unfold rightF at h ⊢
  rw [b1, b2] at h
  rw [a1, a2, hn, e1]
  exact h
theorem behind_any {i : Ins} {a b : Int} {locs : Int} (h8 : i.op ≠ 8) (h : insOk ⟨i, a⟩ locs = true) : insOk ⟨i, b⟩ locs = true := by
  unfold insOk at h ⊢
  rw [Bool.and_eq_true] at h ⊢
  have hb : (band (needsF i.op) 64 == 0) = true := by
    rcases ops_of h.1 with e | e | e | e | e | e | e | e <;> first | exact absurd e h8 | (rw [e]; rfl)
  refine ⟨h.1, ?_⟩
  have h2 := h.2
  unfold insR at h2 ⊢
  have e : namedF ⟨i, b⟩ (needsF i.op) = namedF ⟨i, a⟩ (needsF i.op) := rfl
  simp only [hb, Bool.true_or] at h2 ⊢
  rw [e]
  exact h2
theorem final_congr {S T : List UInt8} (hS : S.length = 142) (hT : T.length = 142) (h : ∀ j, j < 42 → S.getD j 0 = T.getD j 0) : finalF S = finalF T := by
  have h1 : (S.drop 0).take 36 = (T.drop 0).take 36 := by
    refine ext_getD (n := 36) (by simp; omega) (by simp; omega) fun j hj => ?_
    rw [sub_getD _ _ _ _ hj, sub_getD _ _ _ _ hj, h _ (by omega)]
  have h2 : (S.drop 36).take 6 = (T.drop 36).take 6 := by
    refine ext_getD (n := 6) (by simp; omega) (by simp; omega) fun j hj => ?_
    rw [sub_getD _ _ _ _ hj, sub_getD _ _ _ _ hj, h _ (by omega)]
  unfold finalF finalF_a
  rw [h1, h2]
theorem goes_congr {p : Prog} {S Z : List UInt8} (hS : S.length = 142) (hZ : Z.length = 142) {t : Nat} (ht : t < 4) (hth : ∀ j, j < 9 → Z.getD (t * 9 + j) 0 = S.getD (t * 9 + j) 0) (hmem : ∀ l, l < 6 → Z.getD (36 + l) 0 = S.getD (36 + l) 0)
    (hl : (insB p S t).loc.toNat < 6) (j : Nat) (hj : j < 42) (ho : ¬ (t * 9 ≤ j ∧ j < t * 9 + 9) → j < 36 → Z.getD j 0 = S.getD j 0) : (goesF p Z t).getD j 0 = (goesF p S t).getD j 0 := by
  have ei : insB p Z t = insB p S t := by
    unfold insB
    have := hth 0 (by omega)
    rw [Nat.add_zero] at this
    rw [this]
  have e9 : thOf Z t = thOf S t := ext_getD (thOf_length hZ ht) (thOf_length hS ht) fun q hq => by rw [thOf_getD _ _ _ hq, thOf_getD _ _ _ hq, hth q hq]
  have eZ : insAt p t (pcOf Z t).toNat = insB p Z t := rfl
  have eS : insAt p t (pcOf S t).toNat = insB p S t := rfl
  rw [goes_getD hZ ht (by rw [eZ, ei]; exact hl), goes_getD hS ht (by rw [eS]; exact hl), eZ, eS, ei, e9, hmem _ hl]
  split
  · rfl
  · rename_i h1
    split
    · rfl
    · rcases Nat.lt_or_ge j 36 with h2 | h2
      · exact ho h1 h2
      · have := hmem (j - 36) (by omega)
        rw [show 36 + (j - 36) = j by omega] at this
        exact this

end Go.Proofs.YtimonjemjhecoaaGreatDoor
